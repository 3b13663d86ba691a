/- Words, written by the kit's print and by programs of mine. -/
import Derived.KernelRfl
import Derived.Lib.Hide
namespace Go.Proofs
theorem kr_ {a : Prop} (h : a := by kernel_rfl) : a := h
theorem om_ {a : Prop} (h : a := by omega) : a := h
theorem hi_ {p : Prop} (h : p) : RowKit.Hid p := h
end Go.Proofs