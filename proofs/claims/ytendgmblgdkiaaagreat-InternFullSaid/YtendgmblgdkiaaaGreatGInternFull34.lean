/- intern's small functions, walked: keys, values that are texts themselves, looking up. intern.Beside and intern.Page, walked; the reference's Num; plain laws. blob.page, walked: what a page of a long text says. blob.Cost, walked; a chain of pages. Half, and the printed words: what the laws make and a -/
import Derived.Test.YtendgmblgdkiaaaGreatGInternFull0
import Derived.Test.YtendgmblgdkiaaaGreatGInternFull19
import Derived.Test.YtendgmblgdkiaaaGreatGInternFull7
import Derived.Test.YtendgmblgdkiaaaGreatGInternFull33
import Derived.Test.YtendgmblgdkiaaaGreatGInternFull30
import Derived.Test.YtendgmblgdkiaaaGreatGInternFull32
import Derived.Test.YtendgmblgdkiaaaGreatGInternFull31
import Derived.Test.YtendgmblgdkiaaaGreatGInternFull10
namespace Go.Proofs.YtendgmblgdkiaaaGreat
open Go.RowKit
open Go.Proofs.YtendgmblgdkiaaaGreatW
open PrintWords PrintLast PrintMore
set_option linter.unusedVariables false
set_option linter.unusedSimpArgs false

/-- A place's key. -/
def keyOf (s : Int) (n : Nat) : BA := ((⟨#[115]⟩ : BA) ++ four s) ++ strOfNums [((n % 256 : Nat) : Int)]
theorem keyOf_size (s : Int) (n : Nat) : (keyOf s n).size = 6 := by
 unfold keyOf
 rw [ByteArray.size_append, ByteArray.size_append, four_size, strOfNums_size]
 rfl
theorem keyOf_ok (s : Int) (n : Nat) : keyOk (keyOf s n) = true := decide_eq_true (by rw [keyOf_size]; omega)
theorem ref_Key (s : Int) (n : Nat) (w : World) :
  Calls Tryz.prog 56 #[.agg #[.int .u32 s, .int .i64 (n : Int)]] w fun e w' => e = .returned (.string (keyOf s n)) ∧ Below w.heap.size w w' := by
 refine PIt.intern_Ref_Key.calls s n (keyOf s n) w ?_
 have h5 : ((⟨#[115]⟩ : BA) ++ four s).size = 5 := by rw [ByteArray.size_append, four_size]; rfl
 have hf : PIt.crc_Four.f s = some (four s) := rfl
 have hm : ((n : Int) % 256) = ((n % 256 : Nat) : Int) := by omega
 unfold PIt.intern_Ref_Key.f
 rw [hf]
 simp only [Option.bind_some]
 rw [if_pos (by rw [four_size]; omega), if_pos (by rw [h5, strOfNums_size]; simp), hm]
 rfl

/-- A text without the one byte that it begins with. -/
def cutPre (s : BA) (c : UInt8) : BA × Bool := if Lib.hasPrefix s.data.toList [c] = true then (s.extract 1 s.size, true) else (s, false)
theorem pre_pos {s : BA} {c : UInt8} (h : Lib.hasPrefix s.data.toList [c] = true) : 1 ≤ s.size := by
 have e : s.data.toList.length = s.size := rfl
 rcases hs : s.data.toList with _ | ⟨a, r⟩
 ·rw [hs] at h; simp [Lib.hasPrefix] at h
 ·rw [hs] at e; simp at e; omega
theorem lite_CutPrefix (s : BA) (c : UInt8) (w : World) (hs : s.size ≤ 9223372036854775807) :
  Calls Tryz.prog 164 #[.string s, .string ⟨#[c]⟩] w fun e w' => e = .returned (.tuple #[.string (cutPre s c).1, .bool (cutPre s c).2]) ∧ w = w' := by
 have CH := hi_ (Tryz.stringslite_HasPrefix s ⟨#[c]⟩ w)
 have hp := @pre_pos s c
 obtain ⟨q, hq⟩ : ∃ q, q = Lib.hasPrefix s.data.toList [c] := ⟨_, rfl⟩
 have e0 : (⟨#[c]⟩ : BA).data.toList = [c] := rfl
 rw [e0, ← hq] at CH
 unfold cutPre
 rw [← hq] at hp ⊢
 clear hq e0
 cases q with
 | true =>
  have hp := hp rfl
  go_enter Tryz.func164, Tryz.ntmps164
  go_wp2_with fail
  refine CH.out.mono ?_
  rintro e w' ⟨rfl, rfl⟩
  go_wp2
  go_ret2
  exact ⟨rfl, rfl⟩
 | false =>
  clear hp
  go_enter Tryz.func164, Tryz.ntmps164
  go_wp2_with fail
  refine CH.out.mono ?_
  rintro e w' ⟨rfl, rfl⟩
  go_wp2
  go_ret2
  exact ⟨rfl, rfl⟩
theorem lib_CutPrefix (s : BA) (c : UInt8) (w : World) (hs : s.size ≤ 9223372036854775807) :
  Calls Tryz.prog 119 #[.string s, .string ⟨#[c]⟩] w fun e w' => e = .returned (.tuple #[.string (cutPre s c).1, .bool (cutPre s c).2]) ∧ w = w' := by
 have CH := hi_ (lite_CutPrefix s c w hs)
 go_enter Tryz.func119, Tryz.ntmps119
 go_wp2_with fail
 refine CH.out.mono ?_
 rintro e w' ⟨rfl, rfl⟩
 go_wp2
 go_ret2
 exact ⟨rfl, rfl⟩
theorem cutPre_own (c : UInt8) (s : BA) : cutPre ((⟨#[c]⟩ : BA) ++ s) c = (s, true) := by
 have h : Lib.hasPrefix ((⟨#[c]⟩ : BA) ++ s).data.toList [c] = true := by
  rw [ByteArray.data_append, Array.toList_append]
  simp [Lib.hasPrefix]
 unfold cutPre
 rw [if_pos h]
 congr 1
 exact cut_app_r (⟨#[c]⟩ : BA) s

/-- The value of a short text. -/
def valIn (s : BA) : BA := (⟨#[105]⟩ : BA) ++ s
theorem valIn_ok {s : BA} (h : s.size ≤ 31) : valOk (valIn s) = true := decide_eq_true (by
 have h1 : (⟨#[105]⟩ : BA).size = 1 := rfl
 unfold valIn
 rw [ByteArray.size_append, h1]
 omega)
theorem int_Value_in (b : Nat) (s : BA) (w : World) (hs : s.size ≤ 31) :
  Calls Tryz.prog 62 #[.pointer (some ⟨b, 0, none⟩), .string s] w fun e w' => e = .returned (.tuple #[.string (valIn s), .int .i64 0]) ∧ w = w' := by
 have h0 : (s.size : Int) ≤ 31 := by omega
 have h1 : (⟨#[105]⟩ : BA).size = 1 := rfl
 go_enter Tryz.func62, Tryz.ntmps62
 go_wp2
 go_ret2
 exact ⟨rfl, rfl⟩
theorem int_Load_in (b : Nat) (s : BA) (w : World) (hs : s.size ≤ 31) :
  Calls Tryz.prog 63 #[.pointer (some ⟨b, 0, none⟩), .string (valIn s)] w fun e w' => e = .returned (.tuple #[.string s, .int .i64 0]) ∧ w = w' := by
 have h1 : (⟨#[105]⟩ : BA).size = 1 := rfl
 have CH := hi_ (lib_CutPrefix (valIn s) 105 w (by unfold valIn; rw [ByteArray.size_append, h1]; omega))
 have e : cutPre (valIn s) 105 = (s, true) := cutPre_own 105 s
 rw [e] at CH
 clear e
 go_enter Tryz.func63, Tryz.ntmps63
 go_wp2_with fail
 refine CH.out.mono ?_
 rintro e w' ⟨rfl, rfl⟩
 go_wp2
 go_ret2
 exact ⟨rfl, rfl⟩
end Go.Proofs.YtendgmblgdkiaaaGreat

namespace Go.Proofs.YtendgmblgdkiaaaGreat
open Go.RowKit
open Go.Proofs.YtendgmblgdkiaaaGreatW
open PrintWords PrintLast PrintMore
set_option linter.unusedVariables false
set_option linter.unusedSimpArgs false

theorem ref_Head (s : BA) (hs : s.size ≤ 1000) (w : World) :
  Calls Tryz.prog 61 #[.string s] w fun e w' => (∃ x m, hd 0 s.data.toList = some (x, m) ∧ e = .returned (.tuple #[.int .u64 (x : Int), .int .i64 (m : Int), .int .i64 0]) ∧ Below w.heap.size w w') ∨
   (∃ d : Int, (d = 2 ∨ d = 3) ∧ hd 0 s.data.toList = none ∧ e = .returned (.tuple #[.int .u64 0, .int .i64 0, .int .i64 d]) ∧ Below w.heap.size w w') := by
 have hl : s.data.toList.length = s.size := rfl
 obtain ⟨h1, h2⟩ := head_hd s om_ s.data.toList 2020 0 rfl om_ om_
 cases h : hd 0 s.data.toList with
 | some p =>
  obtain ⟨x, m⟩ := p
  have h3 := h1 x m h
  have hf : PIt.dowserref01_Head.f 2020 s = some ((x : Int), (m : Int), 0) := by
   unfold PIt.dowserref01_Head.f
   rw [show (0 : Int) = ((0 : Nat) : Int) from rfl, h3]
   simp [vl]
  exact (PIt.dowserref01_Head.calls 2020 s _ _ _ w hf).mono fun e w' ⟨he, hb⟩ => .inl ⟨x, m, rfl, he, hb.below⟩
 | none =>
  obtain ⟨d, hd', h3⟩ := h2 h
  exact (PIt.dowserref01_Head.calls 2020 s _ _ _ w h3).mono fun e w' ⟨he, hb⟩ => .inr ⟨d, hd', rfl, he, hb.below⟩

/-- A number taken, over bytes that are whole or have failed. -/
theorem in_num_hd (s : BA) (most : Nat) (hs : s.size ≤ 1000) :
  (∀ x m, hd 0 s.data.toList = some (x, m) → PNd.varint_In_Num.f 3020 s 0 (most : Int) = if x ≤ most then some ((x : Int), s.extract m s.size, 0) else some (0, ⟨#[]⟩, 4)) ∧
  (hd 0 s.data.toList = none → ∃ d : Int, (d = 2 ∨ d = 3) ∧ PNd.varint_In_Num.f 3020 s 0 (most : Int) = some (0, ⟨#[]⟩, d)) := by
 have hl : s.data.toList.length = s.size := rfl
 obtain ⟨h1, h2⟩ := scan_hd s om_ s.data.toList 3020 0 0 rfl (by simp) om_ om_
 constructor
 ·intro x m h
  have h3 := h1 x m h
  have h4 := hd_lt _ 0 x m om_ h
  have hf : PNd.varint_scan.f 3020 s = some ((x : Int), (m : Int), 0) := by
   unfold PNd.varint_scan.f
   rw [show (0 : Int) = ((0 : Nat) : Int) from rfl, h3]
   simp
  unfold PNd.varint_In_Num.f
  rw [if_pos rfl, hf]
  simp only [Option.bind_some]
  rw [if_pos trivial]
  by_cases hx : x ≤ most
  ·rw [if_pos hx, if_neg (by omega), if_pos (by omega), if_pos (by omega), Int.toNat_natCast]
  ·rw [if_neg hx, if_pos (by omega)]
   rfl
 ·intro h
  obtain ⟨d, hd', h3⟩ := h2 h
  have hf : PNd.varint_scan.f 3020 s = some (0, 0, d) := h3
  refine ⟨d, hd', ?_⟩
  unfold PNd.varint_In_Num.f
  rw [if_pos rfl, hf]
  simp only [Option.bind_some]
  rcases hd' with rfl | rfl <;> rfl

theorem var_Num (x : Nat) (hx : x < 18446744073709551616) (w : World) :
  Calls Tryz.prog 118 #[.int .u64 (x : Int)] w fun e w' => e = .returned (.string (vNum x)) ∧ Below w.heap.size w w' :=
 PNd.varint_Num.calls 10 x (vNum x) w (varint_num x hx)
/-- The value of a blob. -/
def besB (p n : Nat) : BA := ((⟨#[98]⟩ : BA) ++ vNum p) ++ vNum n
theorem int_Beside (p n : Nat) (hp : p ≤ 2147483647) (hn : n ≤ 65536) (w : World) :
  Calls Tryz.prog 58 #[.int .i64 (p : Int), .int .i64 (n : Int)] w fun e w' => e = .returned (.string (besB p n)) ∧ Below w.heap.size w w' := by
 have e1 : IntKind.u64.wrap (p : Int) = (p : Int) := by rw [IntKind.wrap_u64]; omega
 have e2 : IntKind.u64.wrap (n : Int) = (n : Int) := by rw [IntKind.wrap_u64]; omega
 have z1 := vNum_le (x := p) om_
 have z2 := vNum_le (x := n) om_
 have z3 : ((⟨#[98]⟩ : BA) ++ vNum p).size = 1 + (vNum p).size := by rw [ByteArray.size_append]; rfl
 have C1 := hi_ (fun W => var_Num p om_ W)
 have C2 := hi_ (fun W => var_Num n om_ W)
 go_enter Tryz.func58, Tryz.ntmps58
 go_wp2_with fail
 refine (C1.out _).mono ?_
 rintro e w1 ⟨rfl, hb⟩
 have B1 := hi_ hb
 clear hb
 go_wp2_with fail
 refine (C2.out _).mono ?_
 rintro e w2 ⟨rfl, hb⟩
 have B2 := hi_ (below_then B1.out B1.out.size hb)
 clear hb
 go_wp2_with fail
 go_ret
 exact ⟨rfl, B2.out⟩

theorem cut_list (s : BA) (m : Nat) : (s.extract m s.size).data.toList = s.data.toList.drop m := by
 rw [ByteArray.data_extract, Array.toList_extract, List.extract_eq_take_drop]
 apply List.take_of_length_le
 rw [List.length_drop]
 have e : s.data.toList.length = s.size := rfl
 omega
theorem num_err (k : Nat) (s : BA) (d most : Int) (h : d ≠ 0) : PNd.varint_In_Num.f k s d most = some (0, s, d) := by
 unfold PNd.varint_In_Num.f
 rw [if_neg h]
theorem end_nil (d : Int) : PNd.varint_In_End.f ⟨#[]⟩ d = some (d, ⟨#[]⟩, d) := by
 unfold PNd.varint_In_End.f
 rw [if_pos]
 rw [ByteArray.toList_eq]
end Go.Proofs.YtendgmblgdkiaaaGreat

namespace Go.Proofs.YtendgmblgdkiaaaGreat
open Go.RowKit
open Go.Proofs.YtendgmblgdkiaaaGreatW
open PrintWords PrintLast PrintMore
set_option linter.unusedVariables false
set_option linter.unusedSimpArgs false

/-- What Read says of a page. -/
def pgSay (P : List Pg) (n : Int) : Int × BA × Int := if n < 0 then (0, ByteArray.empty, 1) else match P[n.toNat]? with
 | none => (0, ByteArray.empty, 1)
 | some (k, s) => (k, s, 0)
theorem pgRead_say {D : Dk} (up : D.down = false) (h2 : 2 ≤ D.now.length) {h : Nat} {P : List Pg} (hh : h ≤ 1) (hn : P.length ≤ D.room) (H : PHolds D h P) (n : Int) : D.pgRead h P.length n = pgSay P n := by
 unfold pgSay
 by_cases h0 : n < 0
 ·unfold Dk.pgRead
  rw [if_pos h0, if_pos (.inl h0)]
 ·rw [if_neg h0]
  cases hp : P[n.toNat]? with
  | none =>
   have : P.length ≤ n.toNat := List.getElem?_eq_none_iff.1 hp
   unfold Dk.pgRead
   rw [if_pos (.inr (by omega))]
  | some q =>
   obtain ⟨k, s⟩ := q
   have := pgRead_up up h2 hh hn H hp
   rw [show ((n.toNat : Nat) : Int) = n from by omega] at this
   rw [this]
/-- The bytes of a page of a long text, the next page (below 0: none), the error. -/
def blobP (P : List Pg) (n : Int) : BA × Int × Int := if (pgSay P n).2.2 ≠ 0 then (⟨#[]⟩, 0, (pgSay P n).2.2) else match hd 0 (pgSay P n).2.1.data.toList with
 | none => (⟨#[]⟩, 0, 8)
 | some (x, m) => if (x : Int) ≤ n ∧ (pgSay P n).1 = 3 then ((pgSay P n).2.1.extract m (pgSay P n).2.1.size, (x : Int) - 1, 0) else (⟨#[]⟩, 0, 8)
theorem in_Left (g : Nat) (s : BA) (e : Int) (w0 w : World) (hI : PNd.IsS223 w0 w g s e) :
  Calls Tryz.prog 234 #[.pointer (some ⟨g, 0, none⟩)] w fun e w' => e = .returned (.int .i64 (s.size : Int)) ∧ w = w' := by
 have c0 := blk_cell hI.1 0
 go_enter Tryz.func234, Tryz.ntmps234
 go_wp2_with fail
 go_ret
 exact ⟨rfl, rfl⟩
/-- page, by what its takings say, where a page is. -/
theorem blob_page_raw (w : World) (b : Nat) (n k : Int) (s : BA) (hn : 0 ≤ n ∧ n ≤ 9223372036854775807) (a e1 e2 : Int) (r1 part r2 : BA)
  (hR : Calls Tryz.prog 158 #[.pointer (some ⟨b, 0, none⟩), .int .i64 n] w fun e w' => e = .returned (.tuple #[.int .i64 k, .string s, .int .i64 0]) ∧ Below w.heap.size w w')
  (h1 : PNd.varint_In_Num.f 3020 s 0 n = some (a, r1, e1)) (ha : 0 ≤ a ∧ a ≤ 2147483647) (h2 : PNd.varint_In_Raw.f r1 e1 (r1.size : Int) = some (part, r2, e2)) :
  Calls Tryz.prog 201 #[.pointer (some ⟨b, 0, none⟩), .int .i64 n] w fun e w' => e = .returned (if k = 3 ∧ e2 = 0 then .tuple #[.string part, .int .i64 (a - 1), .int .i64 0] else .tuple #[.string ⟨#[]⟩, .int .i64 0, .int .i64 8]) ∧ Below w.heap.size w w' := by
 have hwa : IntKind.i64.wrap a = a := by rw [IntKind.wrap_i64]; omega
 have hwa1 : IntKind.i64.wrap (a - 1) = a - 1 := by rw [IntKind.wrap_i64]; omega
 have hwn : IntKind.u64.wrap n = n := by rw [IntKind.wrap_u64]; omega
 have HR := hi_ hR
 have H1 := hi_ h1
 have H2 := hi_ h2
 obtain ⟨R, hR⟩ : ∃ R : Value, R = if k = 3 ∧ e2 = 0 then .tuple #[.string part, .int .i64 (a - 1), .int .i64 0] else .tuple #[.string ⟨#[]⟩, .int .i64 0, .int .i64 8] := ⟨_, rfl⟩
 rw [← hR]
 have HRR := hi_ hR
 clear h1 h2 hR
 go_enter Tryz.func201, Tryz.ntmps201
 go_wp2_with fail
 refine HR.out.mono ?_
 rintro e w1 ⟨rfl, hb⟩
 have B1 := hi_ hb
 clear hb HR
 go_wp2_with fail
 refine (PNd.varint_Of.calls s s 0 w w1 B1.out rfl).mono ?_
 rintro e w2 ⟨g, rfl, hI, hB, -⟩
 have I2 := hi_ hI
 have B2 := hi_ hB
 clear hI hB B1
 go_wp2_with fail
 refine (PNd.varint_In_Num.calls 3020 g s 0 n a r1 e1 w w2 I2.out B2.out H1.out).mono ?_
 rintro e w3 ⟨rfl, hI, hB, -⟩
 have I3 := hi_ hI
 have B3 := hi_ hB
 clear hI hB I2 B2
 go_wp2_with fail
 refine (in_Left g r1 e1 w w3 I3.out).mono ?_
 rintro e w4 ⟨rfl, rfl⟩
 go_wp2_with fail
 refine (PNd.varint_In_Raw.calls g r1 e1 (r1.size : Int) part r2 e2 w w3 I3.out B3.out H2.out).mono ?_
 rintro e w5 ⟨rfl, hI, hB, -⟩
 have I5 := hi_ hI
 have B5 := hi_ hB
 clear hI hB I3 B3
 by_cases hk : k = 3
 ·go_wp2_with fail
  refine (PNd.varint_In_Err.calls g r2 e2 e2 r2 e2 w w5 I5.out B5.out rfl).mono ?_
  rintro e w6 ⟨rfl, hI, hB, -⟩
  have B6 := hi_ hB
  clear hI hB I5 B5
  by_cases he : e2 = 0
  ·go_wp2_with fail
   go_ret3
   refine ⟨?_, B6.out⟩
   rw [HRR.out, if_pos ⟨hk, he⟩]
   try rfl
  ·go_wp2_with fail
   go_ret3
   refine ⟨?_, B6.out⟩
   rw [HRR.out, if_neg (fun h => he h.2)]
   try rfl
 ·go_wp2_with fail
  go_ret3
  refine ⟨?_, B5.out⟩
  rw [HRR.out, if_neg (fun h => hk h.1)]
  try rfl
theorem raw_all (s : BA) (e : Int) : ∃ part r2, PNd.varint_In_Raw.f s e (s.size : Int) = some (part, r2, e) ∧ (e = 0 → part = s) := by
 unfold PNd.varint_In_Raw.f
 rw [mx_nat, if_neg (by omega)]
 by_cases he : e = 0
 ·rw [if_pos he, if_pos (by omega), if_pos (by omega), Int.toNat_natCast]
  exact ⟨_, _, rfl, fun _ => ByteArray.extract_zero_size⟩
 ·rw [if_neg he]
  exact ⟨_, _, rfl, fun h => absurd h he⟩
theorem blob_page (w : World) (b : Nat) (L : Loc) (h : Nat) (D : Dk) (P : List Pg) (S : St w L b h D P) (up : D.down = false) (n : Int) (hn : -9223372036854775808 ≤ n ∧ n ≤ 9223372036854775807) :
  Calls Tryz.prog 201 #[.pointer (some ⟨b, 0, none⟩), .int .i64 n] w fun e w' => e = .returned (.tuple #[.string (blobP P n).1, .int .i64 (blobP P n).2.1, .int .i64 (blobP P n).2.2]) ∧ Below w.heap.size w w' := by
 have HR := pages_Read w b L D h P.length n S.p S.d S.hh S.room
 rw [pgRead_say up S.d.ok.least S.hh S.room S.holds n] at HR
 have hsay : pgSay P n = (0, ByteArray.empty, 1) ∨ (0 ≤ n ∧ n.toNat < P.length ∧ ∃ k s, pgSay P n = (k, s, 0) ∧ s.size ≤ 240) := by
  unfold pgSay
  by_cases h0 : n < 0
  ·rw [if_pos h0]; exact .inl rfl
  ·rw [if_neg h0]
   cases hp : P[n.toNat]? with
   | none => exact .inl rfl
   | some q =>
    obtain ⟨k, s⟩ := q
    obtain ⟨h1, -⟩ := List.getElem?_eq_some_iff.1 hp
    exact .inr ⟨by omega, h1, k, s, rfl, (S.holds _ _ _ hp).2.2.1⟩
 rcases hsay with hs | ⟨h0, hlt, k, s, hs, hz⟩
 ·have he : blobP P n = (⟨#[]⟩, 0, 1) := by unfold blobP; rw [hs]; rfl
  rw [he]
  rw [hs] at HR
  have HR := hi_ HR
  go_enter Tryz.func201, Tryz.ntmps201
  go_wp2_with fail
  refine HR.out.mono ?_
  rintro e w1 ⟨rfl, hb⟩
  have B1 := hi_ hb
  clear hb HR
  go_wp2_with fail
  go_ret3
  exact ⟨rfl, B1.out⟩
 ·rw [hs] at HR
  have hroom := S.room
  have hrl := room_le S.d.ok
  obtain ⟨m1, m2⟩ := in_num_hd s n.toNat om_
  rw [show ((n.toNat : Nat) : Int) = n from by omega] at m1 m2
  cases hh : hd 0 s.data.toList with
  | none =>
   obtain ⟨d, hd', h1⟩ := m2 hh
   obtain ⟨part, r2, h2, -⟩ := raw_all ⟨#[]⟩ d
   refine (blob_page_raw w b n k s ⟨h0, hn.2⟩ 0 d d ⟨#[]⟩ part r2 HR h1 om_ h2).mono ?_
   rintro e w' ⟨rfl, hb⟩
   refine ⟨?_, hb⟩
   have he : blobP P n = (⟨#[]⟩, 0, 8) := by unfold blobP; rw [hs]; simp [hh]
   rw [he, if_neg (fun h => by omega)]
  | some q =>
   obtain ⟨x, m⟩ := q
   have h1 := m1 x m hh
   by_cases hx : x ≤ n.toNat
   ·rw [if_pos hx] at h1
    obtain ⟨part, r2, h2, hp⟩ := raw_all (s.extract m s.size) 0
    refine (blob_page_raw w b n k s ⟨h0, hn.2⟩ x 0 0 _ part r2 HR h1 om_ h2).mono ?_
    rintro e w' ⟨rfl, hb⟩
    refine ⟨?_, hb⟩
    by_cases hk : k = 3
    ·have he : blobP P n = (s.extract m s.size, (x : Int) - 1, 0) := by unfold blobP; rw [hs]; simp [hh, hk]; omega
     rw [he, if_pos ⟨hk, rfl⟩, hp rfl]
    ·have he : blobP P n = (⟨#[]⟩, 0, 8) := by unfold blobP; rw [hs]; simp [hh, hk]
     rw [he, if_neg (fun h => hk h.1)]
   ·rw [if_neg hx] at h1
    obtain ⟨part, r2, h2, -⟩ := raw_all ⟨#[]⟩ 4
    refine (blob_page_raw w b n k s ⟨h0, hn.2⟩ 0 4 4 ⟨#[]⟩ part r2 HR h1 om_ h2).mono ?_
    rintro e w' ⟨rfl, hb⟩
    refine ⟨?_, hb⟩
    have he : blobP P n = (⟨#[]⟩, 0, 8) := by unfold blobP; rw [hs]; simp [hh]; omega
    rw [he, if_neg (fun h => by omega)]
end Go.Proofs.YtendgmblgdkiaaaGreat

namespace Go.Proofs.YtendgmblgdkiaaaGreat
open Go.RowKit
open Go.Proofs.YtendgmblgdkiaaaGreatW
open PrintWords PrintLast PrintMore
set_option linter.unusedVariables false
set_option linter.unusedSimpArgs false

theorem max2_mxb (k k' : IntKind) (x y : Int) : Builtin.max2 (.int k x) (.int k' y) = pure (.int k (mx x y)) := max2_int k k' x y
/-- How many pages a text of so many bytes takes. -/
def costN (n : Nat) : Nat := max ((n + 234) / 235) 1
attribute [local go_sem] max2_mxb max_two
theorem blob_Cost (n : Nat) (hn : n ≤ 1000000) (w : World) :
  Calls Tryz.prog 125 #[.int .i64 (n : Int)] w fun e w' => e = .returned (.int .i64 (costN n : Int)) ∧ w = w' := by
 have e1 : IntKind.i64.wrap ((n : Int) + 235) = (n : Int) + 235 := by rw [IntKind.wrap_i64]; omega
 have e2 : IntKind.i64.wrap ((n : Int) + 235 - 1) = (n : Int) + 234 := by rw [IntKind.wrap_i64]; omega
 have e3 : Int.tdiv ((n : Int) + 234) 235 = (((n + 234) / 235 : Nat) : Int) := by rw [Int.tdiv_eq_ediv_of_nonneg (by omega)]; omega
 have e5 : mx (((n : Int) + 234) / 235) 1 = (costN n : Int) := by unfold mx costN; split <;> omega
 go_enter Tryz.func125, Tryz.ntmps125
 go_wp2_with fail
 go_ret
 exact ⟨rfl, rfl⟩
end Go.Proofs.YtendgmblgdkiaaaGreat

namespace Go.Proofs.YtendgmblgdkiaaaGreat
open Go.RowKit
open Go.Proofs.YtendgmblgdkiaaaGreatW
open PrintWords PrintLast PrintMore
set_option linter.unusedVariables false
set_option linter.unusedSimpArgs false

/-- Pages of a disk that lives. -/
structure Pgs (w : World) (L : Loc) (b h : Nat) (D : Dk) (P : List Pg) : Prop where
 st : St w L b h D P
 live : D.Live
theorem Pgs.below {w w' : World} {L : Loc} {b h : Nat} {D : Dk} {P : List Pg} (H : Pgs w L b h D P) (hb : Below w.heap.size w w') : Pgs w' L b h D P := ⟨H.st.below hb, H.live⟩
set_option maxRecDepth 100000 in
theorem law_Half (w : World) (n : Nat) (hn : n ≤ 30000) :
  Calls Tryz.prog 21 #[.int .i64 (n : Int)] w fun e w' => ∃ (L : Loc) (b : Nat) (D : Dk), e = .returned (.tuple #[.pointer (some ⟨L.a, 0, none⟩), .pointer (some ⟨b, 0, none⟩)]) ∧ Pgs w' L b 0 D [] ∧ D.room = n ∧ (∀ k, L.foot k ∨ k = b → w.heap.size ≤ k) ∧ Below w.heap.size w w' := by
 have hD : (Dk.make (2 + 2 * (n : Int))).room = n := by
  unfold Dk.room
  rw [make_now]
  omega
 have HD := hi_ hD
 clear hD
 go_enter Tryz.func21, Tryz.ntmps21
 go_wp2_with fail
 refine (disk_New (2 + 2 * (n : Int)) w).mono ?_
 rintro e w1 ⟨L, rfl, hd, hf, hb⟩
 obtain ⟨D, hDD⟩ : ∃ D, D = Dk.make (2 + 2 * (n : Int)) := ⟨_, rfl⟩
 have hlv : D.Live := by rw [hDD]; exact make_live _
 rw [← hDD] at hd HD
 have HL := hi_ hlv
 have HDA := hi_ hd
 have HF := hi_ hf
 have HB := hi_ hb
 clear hDD hd hf hb hlv
 go_wp2_with fail
 refine (pages_Open w1 L D 0 0 HDA.out om_ om_).mono ?_
 rintro e w2 ⟨rfl, hp, hb⟩
 have hb2 := hi_ (HB.out.trans (hb.mono HB.out.size))
 have hp := hi_ hp
 have hd := hi_ (HDA.out.below hb)
 clear hb
 go_wp2_with fail
 go_ret2
 refine ⟨L, w1.heap.size, D, rfl, ⟨⟨hd.out, hp.out, by omega, by simp, fun i k s hi => by simp at hi⟩, HL.out⟩, HD.out, ?_, hb2.out⟩
 rintro k (hk | rfl)
 ·exact HF.out k hk
 ·exact HB.out.size
end Go.Proofs.YtendgmblgdkiaaaGreat

namespace Go.Proofs.YtendgmblgdkiaaaGreat
open Go.RowKit
open Go.Proofs.YtendgmblgdkiaaaGreatW
open PrintWords PrintLast PrintMore
set_option linter.unusedVariables false
set_option linter.unusedSimpArgs false

theorem rootC_none (P : List Pg) : TreeC P ⟨-1, 0, 0⟩ [] := ⟨.inl ⟨rfl, rfl, rfl⟩, rfl, List.Pairwise.nil, fun p hp => by cases hp⟩

end Go.Proofs.YtendgmblgdkiaaaGreat

namespace Go.Proofs.YtendgmblgdkiaaaGreat
open Go.RowKit
open Go.Proofs.YtendgmblgdkiaaaGreatW
open PrintWords PrintLast PrintMore
set_option linter.unusedVariables false
set_option linter.unusedSimpArgs false

end Go.Proofs.YtendgmblgdkiaaaGreat

namespace Go.Proofs.YtendgmblgdkiaaaGreat
open Go.RowKit
open Go.Proofs.YtendgmblgdkiaaaGreatW
open PrintWords PrintLast PrintMore
set_option linter.unusedVariables false
set_option linter.unusedSimpArgs false

/-- A text, cut. -/
def cutB (s : BA) (n : Nat) : BA := if s.size ≤ n then s else s.extract 0 n
/-- What an edit has. -/
theorem mem_ed {key v : BA} {l : List KV} {p : KV} : p ∈ ed key (some v) l ↔ p = (key, v) ∨ (p ∈ l ∧ p.1 ≠ key) := by
 unfold ed
 simp only [List.mem_append, List.mem_filter, Option.toList_some, List.map_cons, List.map_nil, List.mem_singleton]
 constructor
 ·rintro ((⟨h1, h2⟩ | h) | ⟨h1, h2⟩)
  ·exact .inr ⟨h1, fun e => by rw [e, blt_irrefl] at h2; cases h2⟩
  ·exact .inl h
  ·exact .inr ⟨h1, fun e => by rw [e, blt_irrefl] at h2; cases h2⟩
 ·rintro (h | ⟨h1, h2⟩)
  ·exact .inl (.inr h)
  ·cases h3 : blt p.1 key with
   | true => exact .inl (.inl ⟨h1, rfl⟩)
   | false =>
    cases h4 : blt key p.1 with
    | true => exact .inr ⟨h1, rfl⟩
    | false => exact absurd (blt_total h3 h4) h2
end Go.Proofs.YtendgmblgdkiaaaGreat

namespace Go.Proofs.YtendgmblgdkiaaaGreat
open Go.RowKit
open Go.Proofs.YtendgmblgdkiaaaGreatW
open PrintWords PrintLast PrintMore
set_option linter.unusedVariables false
set_option linter.unusedSimpArgs false

theorem srt_uniq {l : List KV} (h : Srt l) {k v u : BA} (h1 : (k, v) ∈ l) (h2 : (k, u) ∈ l) : v = u := by
 induction l with
 | nil => cases h1
 | cons a r ih =>
  obtain ⟨ha, hr⟩ := List.pairwise_cons.1 h
  rcases List.mem_cons.1 h1 with e1 | e1
  ·rcases List.mem_cons.1 h2 with e2 | e2
   ·have := e1.trans e2.symm
    simpa using this
   ·have := ha _ e2
    rw [← e1] at this
    simp [blt_irrefl] at this
  ·rcases List.mem_cons.1 h2 with e2 | e2
   ·have := ha _ e1
    rw [← e2] at this
    simp [blt_irrefl] at this
   ·exact ih hr e1 e2
end Go.Proofs.YtendgmblgdkiaaaGreat

namespace Go.Proofs.YtendgmblgdkiaaaGreat
open Go.RowKit
open Go.Proofs.YtendgmblgdkiaaaGreatW
open PrintWords PrintLast PrintMore
set_option linter.unusedVariables false
set_option linter.unusedSimpArgs false

set_option maxRecDepth 100000 in
theorem int_Get_none (w : World) (t b : Nat) (L : Loc) (h : Nat) (D : Dk) (P : List Pg) (r : Rt) (S : St w L b h D P) (T : TreeAt w t b r) (up : D.down = false) (kvs : List KV) (C : TreeC P r kvs) (hh : r.height ≤ 900) (s : Int) (n : Nat) (hn : n ≤ 100000) (hno : ∀ v, (keyOf s n, v) ∉ kvs) :
  Calls Tryz.prog 53 #[.pointer (some ⟨t, 0, none⟩), .pointer (some ⟨b, 0, none⟩), .agg #[.int .u32 s, .int .i64 (n : Int)]] w fun e w' => e = .returned (.tuple #[.string ByteArray.empty, .int .i64 9]) ∧ Below w.heap.size w w' := by
 have HS := hi_ S
 have HT := hi_ T
 have HU := hi_ up
 have HC := hi_ C
 have HH := hi_ hh
 have HNO := hi_ hno
 clear S T up C hno hh
 go_enter Tryz.func53, Tryz.ntmps53
 go_wp2_with fail
 have X1 := hi_ (blk_new w (.cells #[.int .u32 s, .int .i64 (n : Int)] 77 (0, 0)))
 have B1 := hi_ (below_alloc (Below.refl w.heap.size w) (.cells #[.int .u32 s, .int .i64 (n : Int)] 77 (0, 0)))
 generalize w.alloc (.cells #[.int .u32 s, .int .i64 (n : Int)] 77 (0, 0)) = w1 at *
 obtain ⟨g, hg⟩ : ∃ g, g = w.heap.size := ⟨_, rfl⟩
 rw [← hg] at X1 ⊢
 clear hg
 refine (ref_Key s n w1).mono ?_
 rintro e w2 ⟨rfl, hb⟩
 have B2 := hi_ (below_then B1.out B1.out.size hb)
 have X2 := hi_ (blk_below X1.out hb)
 clear hb B1 X1
 go_wp2_with fail
 refine (tree_Get w2 t b L h D P r (HS.out.below B2.out) (HT.out.below B2.out) HU.out (keyOf s n) kvs HC.out HH.out).mono ?_
 rintro e w3 ⟨v, is, rfl, hb, hy, hz⟩
 have B3 := hi_ (below_then B2.out B2.out.size hb)
 have X3 := hi_ (blk_below X2.out hb)
 clear hb B2 X2
 cases is with
 | true => exact absurd (hy rfl) (HNO.out v)
 | false =>
  clear hy hz
  have x1 := blk_cell X3.out 1
  go_wp2_with fail
  go_ret2
  exact ⟨rfl, B3.out⟩
set_option maxRecDepth 100000 in
theorem int_Get_some (w : World) (t b : Nat) (L : Loc) (h : Nat) (D : Dk) (P : List Pg) (r : Rt) (S : St w L b h D P) (T : TreeAt w t b r) (up : D.down = false) (kvs : List KV) (C : TreeC P r kvs) (hh : r.height ≤ 900) (s : Int) (n : Nat) (hn : n < 256) (v x : BA) (hm : (keyOf s n, v) ∈ kvs)
  (hL : ∀ W, Below w.heap.size w W → Calls Tryz.prog 63 #[.pointer (some ⟨b, 0, none⟩), .string v] W fun e w' => e = .returned (.tuple #[.string x, .int .i64 0]) ∧ Below W.heap.size W w') :
  Calls Tryz.prog 53 #[.pointer (some ⟨t, 0, none⟩), .pointer (some ⟨b, 0, none⟩), .agg #[.int .u32 s, .int .i64 (n : Int)]] w fun e w' => e = .returned (.tuple #[.string x, .int .i64 0]) ∧ Below w.heap.size w w' := by
 have HS := hi_ S
 have HT := hi_ T
 have HU := hi_ up
 have HC := hi_ C
 have HH := hi_ hh
 have HM := hi_ hm
 have HLD := hi_ hL
 clear S T up C hm hL hh
 go_enter Tryz.func53, Tryz.ntmps53
 go_wp2_with fail
 have X1 := hi_ (blk_new w (.cells #[.int .u32 s, .int .i64 (n : Int)] 77 (0, 0)))
 have B1 := hi_ (below_alloc (Below.refl w.heap.size w) (.cells #[.int .u32 s, .int .i64 (n : Int)] 77 (0, 0)))
 generalize w.alloc (.cells #[.int .u32 s, .int .i64 (n : Int)] 77 (0, 0)) = w1 at *
 obtain ⟨g, hg⟩ : ∃ g, g = w.heap.size := ⟨_, rfl⟩
 rw [← hg] at X1 ⊢
 clear hg
 refine (ref_Key s n w1).mono ?_
 rintro e w2 ⟨rfl, hb⟩
 have B2 := hi_ (below_then B1.out B1.out.size hb)
 have X2 := hi_ (blk_below X1.out hb)
 clear hb B1 X1
 go_wp2_with fail
 refine (tree_Get w2 t b L h D P r (HS.out.below B2.out) (HT.out.below B2.out) HU.out (keyOf s n) kvs HC.out HH.out).mono ?_
 rintro e w3 ⟨v', is, rfl, hb, hy, hz⟩
 have B3 := hi_ (below_then B2.out B2.out.size hb)
 have X3 := hi_ (blk_below X2.out hb)
 clear hb B2 X2
 cases is with
 | false => exact absurd HM.out ((hz rfl).2 v)
 | true =>
  obtain rfl : v' = v := srt_uniq HC.out.good.1 (hy rfl) HM.out
  clear hy hz
  have x1 := blk_cell X3.out 1
  have hn0 : (0 : Int) ≤ (n : Int) := by omega
  have hn1 : (n : Int) < 256 := by omega
  go_wp2_with fail
  refine (HLD.out w3 B3.out).mono ?_
  rintro e w4 ⟨rfl, hb⟩
  have B4 := hi_ (below_then B3.out B3.out.size hb)
  clear hb x1
  go_wp2_with fail
  go_ret2
  exact ⟨rfl, B4.out⟩
end Go.Proofs.YtendgmblgdkiaaaGreat

namespace Go.Proofs.YtendgmblgdkiaaaGreat
open Go.RowKit
open Go.Proofs.YtendgmblgdkiaaaGreatW
open PrintWords PrintLast PrintMore
set_option linter.unusedVariables false
set_option linter.unusedSimpArgs false

/-- What keeping a text leaves: at most m pages more than a Put takes. -/
structure DoneM (m : Nat) (w w' : World) (t b : Nat) (L : Loc) (h : Nat) (D : Dk) (P : List Pg) (r : Rt) (D' : Dk) (P' : List Pg) (r' : Rt) (kvs' : List KV) : Prop where
 st : St w' L b h D' P'
 tr : TreeAt w' t b r'
 tc : TreeC P' r' kvs'
 live : D'.Live
 app : AppOk h D P D' P'
 most : (P'.length : Int) ≤ P.length + m + 2 * r.height + 1
 keep : Keep (fun k => (L.foot k ∨ k = b) ∨ k = t) w w'
/-- What Value leaves. -/
structure ValM (m : Nat) (W w' : World) (b : Nat) (L : Loc) (h : Nat) (D : Dk) (P : List Pg) (D' : Dk) (P' : List Pg) : Prop where
 st : St w' L b h D' P'
 live : D'.Live
 app : AppOk h D P D' P'
 most : P'.length = P.length + m
 keep : Keep (fun k => L.foot k ∨ k = b) W w'

set_option maxHeartbeats 1000000 in
set_option maxRecDepth 100000 in
theorem int_keep (Rp : List Pg → Prop) (m : Nat) (w : World) (t b : Nat) (L : Loc) (h : Nat) (D : Dk) (P : List Pg) (r : Rt) (S : St w L b h D P) (T : TreeAt w t b r) (lv : D.Live) (kvs : List KV) (C : TreeC P r kvs) (hct : kvs.length ≤ 100000000) (s : Int) (n : Nat) (x v : BA) (hv : valOk v = true) (hr : (P.length : Int) + m + 2 * r.height + 1 ≤ D.room)
  (hV : ∀ W, Below w.heap.size w W → Calls Tryz.prog 62 #[.pointer (some ⟨b, 0, none⟩), .string x] W fun e w' => e = .returned (.tuple #[.string v, .int .i64 0]) ∧ ∃ D1 P1, ValM m W w' b L h D P D1 P1 ∧ Rp P1) :
  Calls Tryz.prog 116 #[.pointer (some ⟨t, 0, none⟩), .pointer (some ⟨b, 0, none⟩), .agg #[.int .u32 s, .int .i64 (n : Int)], .string x] w fun e w' => e = .returned (.tuple #[.agg #[.int .u32 s, .int .i64 (n : Int)], .bool true, .int .i64 0]) ∧ ∃ D' P' r', DoneM m w w' t b L h D P r D' P' r' (ed (keyOf s n) (some v) kvs) ∧ ∃ P1 X, P' = P1 ++ X ∧ Rp P1 := by
 have HS := hi_ S
 have HT := hi_ T
 have HLV := hi_ lv
 have HC := hi_ C
 have HCT := hi_ hct
 have HVO := hi_ hv
 have HR := hi_ hr
 have HV := hi_ hV
 clear S T lv C hct hv hr hV
 go_enter Tryz.func116, Tryz.ntmps116
 go_wp2_with fail
 have X1 := hi_ (blk_alloc (blk_new w (.cells #[.int .u32 s, .int .i64 (n : Int)] 77 (0, 0))) (.cells #[.int .u32 0, .int .i64 0] 77 (0, 0)))
 have Y1 := hi_ (blk_new (w.alloc (.cells #[.int .u32 s, .int .i64 (n : Int)] 77 (0, 0))) (.cells #[.int .u32 0, .int .i64 0] 77 (0, 0)))
 have B1 := hi_ (below_alloc (below_alloc (Below.refl w.heap.size w) (.cells #[.int .u32 s, .int .i64 (n : Int)] 77 (0, 0))) (.cells #[.int .u32 0, .int .i64 0] 77 (0, 0)))
 simp only [World.size_alloc] at Y1
 generalize (w.alloc (.cells #[.int .u32 s, .int .i64 (n : Int)] 77 (0, 0))).alloc (.cells #[.int .u32 0, .int .i64 0] 77 (0, 0)) = w1 at *
 obtain ⟨z, hz⟩ : ∃ z, z = w.heap.size := ⟨_, rfl⟩
 rw [← hz] at X1 Y1 ⊢
 have HZ := hi_ hz
 clear hz
 have LO := hi_ (lo_of HS.out HT.out)
 refine (pages_Next w1 b L h P.length (HS.out.below B1.out).p).mono ?_
 rintro e w1 ⟨rfl, rfl⟩
 go_wp2_with fail
 refine (HV.out w1 B1.out).mono ?_
 rintro e w2 ⟨rfl, D1, P1, VM, hRp⟩
 have HRP := hi_ hRp
 clear hRp
 have hF1 : ∀ k, (L.foot k ∨ k = b) → k < w.heap.size := fun k hk => LO.out.lo k hk
 have K2 := hi_ ((Keep.below (F := fun k => (L.foot k ∨ k = b) ∨ k = t) B1.out).andThen VM.keep (fun i _ hf => .inl hf))
 have X2 := hi_ (VM.keep.heap X1.out (fun hf => by have := hF1 _ hf; have := HZ.out; omega))
 have Y2 := hi_ (VM.keep.heap Y1.out (fun hf => by have := hF1 _ hf; have := HZ.out; omega))
 have T2 := hi_ ((HT.out.below B1.out).keep VM.keep (fun hf => HT.out.foot HS.out hf))
 have VM := hi_ VM
 have C2 := hi_ (show TreeC P1 r kvs by obtain ⟨Z, hZ⟩ := VM.out.app.pre; rw [hZ]; exact HC.out.pre)
 clear X1 Y1 B1 hF1
 have x0 := blk_cell X2.out 0
 have x1 := blk_cell X2.out 1
 go_wp2_with fail
 refine (ref_Key s n w2).mono ?_
 rintro e w3 ⟨rfl, hb⟩
 have K3 := hi_ (K2.out.andThen (G := fun _ => False) (Keep.below hb) (fun _ _ hf => hf.elim))
 have X3 := hi_ (blk_below X2.out hb)
 have Y3 := hi_ (blk_below Y2.out hb)
 have S3 := hi_ (VM.out.st.below hb)
 have T3 := hi_ (T2.out.below hb)
 clear hb X2 Y2 K2 T2 x0 x1
 go_wp2_with fail
 refine (tree_Put w3 t b L h D1 P1 r (keyOf s n) v kvs S3.out T3.out VM.out.live C2.out (keyOf_ok s n) HVO.out HCT.out (by have := HR.out; have := VM.out.most; have := VM.out.app.wr.room; omega)).mono ?_
 rintro e w4 ⟨rfl, D2, P2, r2, Dn, -⟩
 have hF2 : ∀ k, ((L.foot k ∨ k = b) ∨ k = t) → k < w.heap.size := fun k hk => by
  rcases hk with h | rfl
  ·exact LO.out.lo k h
  ·exact LO.out.tl
 have K4 := hi_ (K3.out.andThen Dn.keep (fun i _ hf => hf))
 have X4 := hi_ (Dn.keep.heap X3.out (fun hf => by have := hF2 _ hf; have := HZ.out; omega))
 have Y4 := hi_ (Dn.keep.heap Y3.out (fun hf => by have := hF2 _ hf; have := HZ.out; omega))
 have Dn := hi_ Dn
 clear X3 Y3 K3 hF2
 have x0 := blk_cell X4.out 0
 have x1 := blk_cell X4.out 1
 have y0 := blk_cell Y4.out 0
 have y1 := blk_cell Y4.out 1
 have f0 := blk_frozen Y4.out 0
 have f1 := blk_frozen Y4.out 1
 go_wp2_with fail
 have Z5 := blk_put (blk_put Y4.out 0 (.int .u32 s) rfl) 1 (.int .i64 (n : Int)) rfl
 have hnb : Keep (fun k => w.heap.size ≤ k) w4 ((w4.setCell ⟨z + 1, 0, none⟩ (.int .u32 s)).setCell ⟨z + 1, 1, none⟩ (.int .i64 (n : Int))) :=
  ((Keep.refl _ w4).setCell (p := ⟨z + 1, 0, none⟩) (.inl (by have := HZ.out; show w.heap.size ≤ z + 1; omega)) _).setCell (p := ⟨z + 1, 1, none⟩) (.inl (by have := HZ.out; show w.heap.size ≤ z + 1; omega)) _
 refine bodyPost_ret (PrintWords.results_list (rs := [.cell 8 77, .tmp 9, .tmp 10]) (vs := [.agg #[.int .u32 s, .int .i64 (n : Int)], .bool true, .int .i64 0]) rfl (by simp) (.cell (z + 1) 77 #[.int .u32 s, .int .i64 (n : Int)] (0, 0) _ rfl Z5 Tryz.underlying77 rfl kr_ (.tmp (.tmp .nil)))) rfl ?_
 have TS4 := TS.hi (B := w.heap.size) ⟨Dn.out.st, Dn.out.tr, LO.out.lo, LO.out.tl⟩ hnb
 obtain ⟨Z, hZ⟩ := Dn.out.app.pre
 refine ⟨rfl, D2, P2, r2, ⟨TS4.st, TS4.tr, Dn.out.tc, Dn.out.live, VM.out.app.trans Dn.out.app, by have := Dn.out.most; have := VM.out.most; omega, K4.out.andThen hnb (fun i hi hf => by omega)⟩, P1, Z, hZ, HRP.out⟩
end Go.Proofs.YtendgmblgdkiaaaGreat

namespace Go.Proofs.YtendgmblgdkiaaaGreat
open Go.RowKit
open Go.Proofs.YtendgmblgdkiaaaGreatW
open PrintWords PrintLast PrintMore
set_option linter.unusedVariables false
set_option linter.unusedSimpArgs false

/-- A text's sum. -/
def sumOf (s : BA) : Int := ((crcOf s.data.toList).toNat : Int)
/-- What stands for a text, over pages: loaded it is that text; it stays when pages come. -/
structure Vals (L : Loc) (b h : Nat) (VL : List Pg → BA → BA → Prop) : Prop where
 load : ∀ (W : World) (D : Dk) (P : List Pg) (v s : BA), St W L b h D P → D.down = false → VL P v s → Calls Tryz.prog 63 #[.pointer (some ⟨b, 0, none⟩), .string v] W fun e w' => e = .returned (.tuple #[.string s, .int .i64 0]) ∧ Below W.heap.size W w'
 pre : ∀ (P X : List Pg) (v s : BA), VL P v s → VL (P ++ X) v s
/-- The texts of one sum that are kept: f tells which. -/
structure OneSum (VL : List Pg → BA → BA → Prop) (P : List Pg) (s : Int) (f : Nat → Option BA) (kvs : List KV) : Prop where
 no : ∀ n, n < 256 → f n = none → ∀ v, (keyOf s n, v) ∉ kvs
 yes : ∀ n x, n < 256 → f n = some x → ∃ v, (keyOf s n, v) ∈ kvs ∧ VL P v x

/-- The number in the box. -/
def boxN (z : Nat) (W : World) : Nat := (intOf ((W.cell? ⟨z, 1, none⟩).getD undef)).toNat
theorem boxN_eq {z k : Nat} {s : Value} {t : TypeId} {W : World} (h : W.heap[z]? = some (.cells #[s, .int .i64 (k : Int)] t (0, 0))) : boxN z W = k := by
 unfold boxN
 rw [(cell_of_heap h 1).trans rfl]
 simp [intOf]
theorem str_ne {a b : BA} (h : a ≠ b) : (a.toList == b.toList) = false := by
 rw [beq_eq_false_iff_ne]
 intro e
 rw [ByteArray.toList_eq, ByteArray.toList_eq] at e
 exact h (bytes_ext e)
set_option maxHeartbeats 2000000 in
set_option maxRecDepth 100000 in
theorem int_Put (VL : List Pg → BA → BA → Prop) (m N : Nat) (w : World) (t b : Nat) (L : Loc) (h : Nat) (D : Dk) (P : List Pg) (r : Rt) (HVL : Vals L b h VL) (S : St w L b h D P) (T : TreeAt w t b r) (lv : D.Live) (kvs : List KV) (C : TreeC P r kvs) (hct : kvs.length ≤ 100000000) (x : BA) (hx : x.size ≤ 65536) (f : Nat → Option BA) (O : OneSum VL P (sumOf x) f kvs) (hN : N < 256) (hlow : ∀ k, k < N → ∃ y, f k = some y ∧ y ≠ x) (hat : f N = none ∨ f N = some x)
  (hnew : f N = none → ∃ v, valOk v = true ∧ (P.length : Int) + m + 2 * r.height + 1 ≤ D.room ∧ ∀ W, Below w.heap.size w W → Calls Tryz.prog 62 #[.pointer (some ⟨b, 0, none⟩), .string x] W fun e w' => e = .returned (.tuple #[.string v, .int .i64 0]) ∧ ∃ D1 P1, ValM m W w' b L h D P D1 P1 ∧ VL P1 v x) :
  Calls Tryz.prog 51 #[.pointer (some ⟨t, 0, none⟩), .pointer (some ⟨b, 0, none⟩), .string x] w fun e w' =>
   (f N = some x ∧ e = .returned (.tuple #[.agg #[.int .u32 (sumOf x), .int .i64 (N : Int)], .bool false, .int .i64 0]) ∧ Below w.heap.size w w') ∨
   (f N = none ∧ e = .returned (.tuple #[.agg #[.int .u32 (sumOf x), .int .i64 (N : Int)], .bool true, .int .i64 0]) ∧ ∃ D' P' r' v, DoneM m w w' t b L h D P r D' P' r' (ed (keyOf (sumOf x) N) (some v) kvs) ∧ VL P' v x) := by
 obtain ⟨Q, hQ⟩ : ∃ Q : Ending → World → Prop, Q = fun e w' =>
   (f N = some x ∧ e = .returned (.tuple #[.agg #[.int .u32 (sumOf x), .int .i64 (N : Int)], .bool false, .int .i64 0]) ∧ Below w.heap.size w w') ∨
   (f N = none ∧ e = .returned (.tuple #[.agg #[.int .u32 (sumOf x), .int .i64 (N : Int)], .bool true, .int .i64 0]) ∧ ∃ D' P' r' v, DoneM m w w' t b L h D P r D' P' r' (ed (keyOf (sumOf x) N) (some v) kvs) ∧ VL P' v x) := ⟨_, rfl⟩
 rw [← hQ]
 have HQ := hi_ hQ
 have HS := hi_ S
 have HT := hi_ T
 have HLV := hi_ lv
 have HC := hi_ C
 have HCT := hi_ hct
 have HO := hi_ O
 have HN := hi_ hN
 have HL := hi_ hlow
 have HA := hi_ hat
 have HW := hi_ hnew
 have HV := hi_ HVL
 have HH := hi_ (C.small hct)
 have hx0 : (x.size : Int) ≤ 65536 := by omega
 have HX := hi_ (show x.size ≤ maxLen by unfold maxLen; omega)
 have CK := fun W hc => crc_Of (w.heap.size + 1) x W (by unfold maxLen; omega) hc
 obtain ⟨sm, hsm⟩ : ∃ sm, sm = sumOf x := ⟨_, rfl⟩
 have hsm' : ((crcOf x.data.toList).toNat : Int) = sm := hsm.symm
 rw [hsm'] at CK
 have CK := hi_ CK
 have HSM := hi_ hsm
 clear hQ S T lv C hct O hN hlow hat hnew HVL hx hsm hsm'
 go_enter Tryz.func51, Tryz.ntmps51
 go_wp2_with fail
 have X1 := hi_ (blk_alloc (blk_new w (.cells #[.int .u32 0, .int .i64 0] 77 (0, 0))) (.cells #[.string x] 9 (0, 0)))
 have B1 := hi_ (below_alloc (below_alloc (Below.refl w.heap.size w) (.cells #[.int .u32 0, .int .i64 0] 77 (0, 0))) (.cells #[.string x] 9 (0, 0)))
 have c1 := blk_cell (blk_new (w.alloc (.cells #[.int .u32 0, .int .i64 0] 77 (0, 0))) (.cells #[.string x] 9 (0, 0))) 0
 have s1 : Hid (((w.alloc (.cells #[.int .u32 0, .int .i64 0] 77 (0, 0))).alloc (.cells #[.string x] 9 (0, 0))).heap.size = w.heap.size + 2) := hi_ (by simp)
 simp only [World.size_alloc] at c1
 generalize (w.alloc (.cells #[.int .u32 0, .int .i64 0] 77 (0, 0))).alloc (.cells #[.string x] 9 (0, 0)) = w1 at *
 refine (CK.out w1 c1).mono ?_
 clear c1
 rintro e w1 ⟨rfl, rfl⟩
 go_wp2_with fail
 have X2 := hi_ (blk_alloc X1.out (.cells #[.int .u32 sm, .int .i64 0] 77 (0, 0)))
 have Y2 := hi_ (blk_new w1 (.cells #[.int .u32 sm, .int .i64 0] 77 (0, 0)))
 have B2 := hi_ (below_alloc B1.out (.cells #[.int .u32 sm, .int .i64 0] 77 (0, 0)))
 generalize w1.alloc (.cells #[.int .u32 sm, .int .i64 0] 77 (0, 0)) = w2 at *
 obtain ⟨q, hq⟩ : ∃ q, q = w1.heap.size := ⟨_, rfl⟩
 obtain ⟨z, hz⟩ : ∃ z, z = w.heap.size := ⟨_, rfl⟩
 rw [← hq] at Y2 ⊢
 rw [← hz] at X2 ⊢
 have HZ := hi_ (show z = w.heap.size ∧ z < q ∧ w.heap.size ≤ q by have := s1.out; have := B1.out.size; omega)
 clear hq hz X1 B1 s1
 go_loopw [11] (fun _ wr => ∃ (k : Nat), k ≤ N ∧ Hid (wr.heap[z]? = some (.cells #[.int .u32 0, .int .i64 0] 77 (0, 0))) ∧ Hid (wr.heap[q]? = some (.cells #[.int .u32 sm, .int .i64 (k : Int)] 77 (0, 0))) ∧ Hid (Below w.heap.size w wr)) (fun _ wr => N - boxN q wr)
 case atStart => exact ⟨0, Nat.zero_le _, X2, Y2, B2⟩
 case round =>
  clear X2 Y2 B2
  obtain ⟨k, hk, X2, Y2, B2⟩ := hrel
  have y0 := blk_cell Y2.out 0
  have y1 := blk_cell Y2.out 1
  have hk0 : (0 : Int) ≤ (k : Int) := by omega
  have hk2 : (k : Int) < 256 := by have := HN.out; omega
  have HK := hi_ hk
  by_cases hkN : k < N
  ·obtain ⟨y, hy, hne⟩ := HL.out k hkN
   obtain ⟨v, hv1, hv2⟩ := HO.out.yes k y (by have := HN.out; omega) hy
   have hs := str_ne hne
   have HKN := hi_ hkN
   have CG := hi_ (int_Get_some wr t b L h D P r (HS.out.below B2.out) (HT.out.below B2.out) HLV.out.1 kvs HC.out HH.out (sumOf x) k (by have := HN.out; omega) v y hv1 (fun W hW => HV.out.load W D P v y ((HS.out.below B2.out).below hW) HLV.out.1 hv2))
   rw [← HSM.out] at CG
   clear hy hne hv1 hv2 hk hkN
   go_wp2_with fail
   refine CG.out.mono ?_
   clear CG
   rintro e w3 ⟨rfl, hb⟩
   have X3 := hi_ (blk_below X2.out hb)
   have Y3 := hi_ (blk_below Y2.out hb)
   have B3 := hi_ (below_then B2.out B2.out.size hb)
   clear hb X2 B2 y0 y1
   have y0 := blk_cell Y3.out 0
   have y1 := blk_cell Y3.out 1
   have f1 := blk_frozen Y3.out 1
   go_wp2_with fail
   have hkc : ((k : Int) + 1) = ((k + 1 : Nat) : Int) := by omega
   rw [hkc]
   have Y4 := hi_ (blk_put Y3.out 1 (.int .i64 ((k + 1 : Nat) : Int)) rfl)
   have X4 := hi_ (blk_far X3.out (p := ⟨q, 1, none⟩) (by have := HZ.out; show z ≠ q; omega) (.int .i64 ((k + 1 : Nat) : Int)))
   have B4 := hi_ (below_set (g := q) (j := 1) (v := .int .i64 ((k + 1 : Nat) : Int)) B3.out HZ.out.2.2)
   exact ⟨⟨k + 1, by have := HKN.out; omega, X4, Y4, B4⟩, by rw [boxN_eq Y4.out, boxN_eq Y2.out]; have := HKN.out; omega⟩
  ·obtain rfl : k = N := by omega
   clear hkN hk
   rcases HA.out with hf | hf
   ·obtain ⟨v, hv, hroom, hval⟩ := HW.out hf
    have HF := hi_ hf
    have CG := hi_ (int_Get_none wr t b L h D P r (HS.out.below B2.out) (HT.out.below B2.out) HLV.out.1 kvs HC.out HH.out (sumOf x) k om_ (HO.out.no k om_ hf))
    rw [← HSM.out] at CG
    have CKP := hi_ (fun W (hW : Below w.heap.size w W) => int_keep (fun P1 => VL P1 v x) m W t b L h D P r (HS.out.below hW) (HT.out.below hW) HLV.out kvs HC.out HCT.out (sumOf x) k x v hv hroom (fun W' hW' => hval W' (below_then hW hW.size hW')))
    rw [← HSM.out] at CKP
    clear hf hv hroom hval
    go_wp2_with fail
    refine CG.out.mono ?_
    clear CG
    rintro e w3 ⟨rfl, hb⟩
    have X3 := hi_ (blk_below X2.out hb)
    have Y3 := hi_ (blk_below Y2.out hb)
    have B3 := hi_ (below_then B2.out B2.out.size hb)
    clear hb X2 B2 y0 y1 Y2
    have y0 := blk_cell Y3.out 0
    have y1 := blk_cell Y3.out 1
    go_wp2_with fail
    refine (CKP.out w3 B3.out).mono ?_
    clear CKP
    rintro e w4 ⟨rfl, D', P', r', DM, P1, Z, hZ, hvl⟩
    have LO := lo_of HS.out HT.out
    have hF : ∀ k, ((L.foot k ∨ k = b) ∨ k = t) → k < w.heap.size := fun k hk => by
     rcases hk with h | rfl
     ·exact LO.lo k h
     ·exact LO.tl
    have K4 := hi_ ((Keep.below (F := fun k => (L.foot k ∨ k = b) ∨ k = t) B3.out).andThen DM.keep (fun i _ hf => hf))
    have X4 := hi_ (DM.keep.heap X3.out (fun hf => by have := hF _ hf; have := HZ.out; omega))
    have LO := hi_ LO
    have DM := hi_ DM
    have HVL := hi_ (show VL P' v x by rw [hZ]; exact HV.out.pre _ _ _ _ hvl)
    clear X3 Y3 hF hZ hvl y0 y1 B3
    have x0 := blk_cell X4.out 0
    have x1 := blk_cell X4.out 1
    have f0 := blk_frozen X4.out 0
    have f1 := blk_frozen X4.out 1
    go_wp2_with fail
    have Z5 := blk_put (blk_put X4.out 0 (.int .u32 sm) rfl) 1 (.int .i64 (k : Int)) rfl
    have hnb : Keep (fun k => w.heap.size ≤ k) w4 ((w4.setCell ⟨z, 0, none⟩ (.int .u32 sm)).setCell ⟨z, 1, none⟩ (.int .i64 (k : Int))) :=
     ((Keep.refl _ w4).setCell (p := ⟨z, 0, none⟩) (.inl (by have := HZ.out; show w.heap.size ≤ z; omega)) _).setCell (p := ⟨z, 1, none⟩) (.inl (by have := HZ.out; show w.heap.size ≤ z; omega)) _
    refine bodyPost_ret (PrintWords.results_list (rs := [.cell 6 77, .tmp 7, .tmp 8]) (vs := [.agg #[.int .u32 sm, .int .i64 (k : Int)], .bool true, .int .i64 0]) rfl (by simp) (.cell z 77 #[.int .u32 sm, .int .i64 (k : Int)] (0, 0) _ rfl Z5 Tryz.underlying77 rfl kr_ (.tmp (.tmp .nil)))) rfl ?_
    have TS4 := TS.hi (B := w.heap.size) ⟨DM.out.st, DM.out.tr, LO.out.lo, LO.out.tl⟩ hnb
    rw [HQ.out, ← HSM.out]
    exact .inr ⟨HF.out, rfl, D', P', r', v, ⟨TS4.st, TS4.tr, DM.out.tc, DM.out.live, DM.out.app, DM.out.most, K4.out.andThen hnb (fun i hi hf => by omega)⟩, HVL.out⟩
   ·obtain ⟨v, hv1, hv2⟩ := HO.out.yes k x om_ hf
    have HF := hi_ hf
    have CG := hi_ (int_Get_some wr t b L h D P r (HS.out.below B2.out) (HT.out.below B2.out) HLV.out.1 kvs HC.out HH.out (sumOf x) k om_ v x hv1 (fun W hW => HV.out.load W D P v x ((HS.out.below B2.out).below hW) HLV.out.1 hv2))
    rw [← HSM.out] at CG
    clear hf hv1 hv2
    go_wp2_with fail
    refine CG.out.mono ?_
    clear CG
    rintro e w3 ⟨rfl, hb⟩
    have X3 := hi_ (blk_below X2.out hb)
    have Y3 := hi_ (blk_below Y2.out hb)
    have B3 := hi_ (below_then B2.out B2.out.size hb)
    clear hb X2 B2 y0 y1 Y2
    have y0 := blk_cell Y3.out 0
    have y1 := blk_cell Y3.out 1
    have x0 := blk_cell X3.out 0
    have x1 := blk_cell X3.out 1
    have f0 := blk_frozen X3.out 0
    have f1 := blk_frozen X3.out 1
    go_wp2_with fail
    have Z5 := blk_put (blk_put X3.out 0 (.int .u32 sm) rfl) 1 (.int .i64 (k : Int)) rfl
    refine bodyPost_ret (PrintWords.results_list (rs := [.cell 6 77, .tmp 7, .tmp 8]) (vs := [.agg #[.int .u32 sm, .int .i64 (k : Int)], .bool false, .int .i64 0]) rfl (by simp) (.cell z 77 #[.int .u32 sm, .int .i64 (k : Int)] (0, 0) _ rfl Z5 Tryz.underlying77 rfl kr_ (.tmp (.tmp .nil)))) rfl ?_
    rw [HQ.out]
    exact .inl ⟨HF.out, by rw [HSM.out], below_set (below_set B3.out (by have := HZ.out; omega)) (by have := HZ.out; omega)⟩
end Go.Proofs.YtendgmblgdkiaaaGreat

namespace Go.Proofs.YtendgmblgdkiaaaGreat
open Go.RowKit
open Go.Proofs.YtendgmblgdkiaaaGreatW
open PrintWords PrintLast PrintMore
set_option linter.unusedVariables false
set_option linter.unusedSimpArgs false

/-- The values of short texts. -/
def VLin (P : List Pg) (v s : BA) : Prop := s.size ≤ 31 ∧ v = valIn s
theorem vals_in (L : Loc) (b h : Nat) : Vals L b h VLin :=
 ⟨fun W D P v s S up hv => by
  obtain ⟨h1, rfl⟩ := hv
  exact (int_Load_in b s W h1).mono fun _ _ ⟨he, hw⟩ => ⟨he, by rw [hw]; exact Below.refl _ _⟩, fun P X v s h => h⟩
theorem keyOf_inj {s s' : Int} {n n' : Nat} (hn : n < 256) (hn' : n' < 256) (h : keyOf s n = keyOf s' n') : four s = four s' ∧ n = n' := by
 have h := congrArg (fun b : BA => b.data.toList) h
 simp only [keyOf, bytes_app, strOfNums_data, List.map_cons, List.map_nil] at h
 have hl : ([115] ++ (four s).data.toList : List UInt8).length = ([115] ++ (four s').data.toList : List UInt8).length := by simp [four_size]
 obtain ⟨h1, h2⟩ := List.append_inj h hl
 obtain ⟨-, h3⟩ := List.append_inj h1 rfl
 have h4 := congrArg UInt8.toNat (List.cons.inj h2).1
 simp only [UInt8.toNat_ofNat'] at h4
 exact ⟨bytes_ext h3, by omega⟩

/-- A tree over pages that live, made by this call. -/
structure Made (w w' : World) (L : Loc) (b t : Nat) (D : Dk) (P : List Pg) (r : Rt) (kvs : List KV) : Prop where
 pg : Pgs w' L b 0 D P
 tr : TreeAt w' t b r
 tc : TreeC P r kvs
 bel : Below w.heap.size w w'
 hi : ∀ k, (L.foot k ∨ k = b) ∨ k = t → w.heap.size ≤ k
theorem Made.below {w w' w'' : World} {L : Loc} {b t : Nat} {D : Dk} {P : List Pg} {r : Rt} {kvs : List KV} (H : Made w w' L b t D P r kvs) (hb : Below w'.heap.size w' w'') : Made w w'' L b t D P r kvs :=
 ⟨H.pg.below hb, H.tr.below hb, H.tc, H.bel.trans (hb.mono H.bel.size), H.hi⟩
theorem Made.done {m : Nat} {w w' w'' : World} {L : Loc} {b t : Nat} {D D' : Dk} {P P' : List Pg} {r r' : Rt} {kvs kv' : List KV} (H : Made w w' L b t D P r kvs) (Dn : DoneM m w' w'' t b L 0 D P r D' P' r' kv') : Made w w'' L b t D' P' r' kv' :=
 ⟨⟨Dn.st, Dn.live⟩, Dn.tr, Dn.tc, ((Keep.below (F := fun _ => False) H.bel).andThen Dn.keep (fun i hi hf => by have := H.hi i hf; omega)).toBelow, H.hi⟩
set_option maxRecDepth 100000 in
theorem law_made (w : World) (n : Nat) (hn : n ≤ 30000) :
  Calls Tryz.prog 48 #[.int .i64 (n : Int)] w fun e w' => ∃ (L : Loc) (b t : Nat) (D : Dk), e = .returned (.tuple #[.pointer (some ⟨b, 0, none⟩), .pointer (some ⟨t, 0, none⟩)]) ∧ Made w w' L b t D [] ⟨-1, 0, 0⟩ [] ∧ D.room = n := by
 go_enter Tryz.func48, Tryz.ntmps48
 go_wp2_with fail
 refine (law_Half w n hn).mono ?_
 rintro e w1 ⟨L, b, D, rfl, hP, hr, hnew, hb⟩
 have HP := hi_ hP
 have HR := hi_ hr
 have HN := hi_ hnew
 have B1 := hi_ hb
 clear hP hr hnew hb
 go_wp2_with fail
 refine (tree_Empty w1).mono ?_
 rintro e w2 ⟨rfl, hb⟩
 have B2 := hi_ (below_then B1.out B1.out.size hb)
 have HP2 := hi_ (HP.out.below hb)
 clear hb HP
 go_wp2_with fail
 refine (tree_Open w2 b ⟨-1, 0, 0⟩).mono ?_
 rintro e w3 ⟨t, rfl, hT, ht, hb⟩
 have M := hi_ (show Made w w3 L b t D [] ⟨-1, 0, 0⟩ [] from ⟨HP2.out.below hb, hT, rootC_none [], below_then B2.out B2.out.size hb, by
  rintro k (h | rfl)
  ·exact HN.out k h
  ·exact Nat.le_trans B2.out.size ht⟩)
 clear hb hT ht
 go_wp2_with fail
 go_ret2
 exact ⟨L, b, t, D, rfl, M.out, HR.out⟩
end Go.Proofs.YtendgmblgdkiaaaGreat

namespace Go.Proofs.YtendgmblgdkiaaaGreat
open Go.RowKit
open Go.Proofs.YtendgmblgdkiaaaGreatW
open PrintWords PrintLast PrintMore
set_option linter.unusedVariables false
set_option linter.unusedSimpArgs false

theorem sum_0 : sumOf ⟨#[]⟩ = 4294967295 := by kernel_rfl
theorem sum_a : sumOf ⟨#[97]⟩ = 3865863316 := by kernel_rfl
/-- Put of a short text that is not there yet. -/
theorem put_new (w0 w : World) (L : Loc) (b t : Nat) (D : Dk) (P : List Pg) (r : Rt) (kvs : List KV) (M : Made w0 w L b t D P r kvs) (hct : kvs.length ≤ 100000000) (x : BA) (hx : x.size ≤ 31) (hr : (P.length : Int) + 2 * r.height + 1 ≤ D.room)
  (hno : ∀ n, n < 256 → ∀ v, (keyOf (sumOf x) n, v) ∉ kvs) :
  Calls Tryz.prog 51 #[.pointer (some ⟨t, 0, none⟩), .pointer (some ⟨b, 0, none⟩), .string x] w fun e w' =>
   e = .returned (.tuple #[.agg #[.int .u32 (sumOf x), .int .i64 0], .bool true, .int .i64 0]) ∧ ∃ D' P' r', DoneM 0 w w' t b L 0 D P r D' P' r' (ed (keyOf (sumOf x) 0) (some (valIn x)) kvs) := by
 refine (int_Put VLin 0 0 w t b L 0 D P r (vals_in L b 0) M.pg.st M.tr M.pg.live kvs M.tc hct x om_ (fun _ => none) ⟨fun n hn _ v => hno n hn v, fun n y _ h => by simp at h⟩ om_ (fun k hk => by omega) (.inl rfl)
  (fun _ => ⟨valIn x, valIn_ok hx, by simpa using hr, fun W hW => (int_Value_in b x W hx).mono ?_⟩)).mono ?_
 ·rintro e w' ⟨rfl, rfl⟩
  exact ⟨rfl, D, P, ⟨M.pg.st.below hW, M.pg.live, AppOk.refl M.pg.st.room M.pg.st.holds, rfl, Keep.below (Below.refl _ _)⟩, hx, rfl⟩
 ·rintro e w' (⟨h, -, -⟩ | ⟨-, rfl, D', P', r', v, dn, -, rfl⟩)
  ·simp at h
  ·exact ⟨rfl, D', P', r', dn⟩
set_option maxHeartbeats 1000000 in
set_option maxRecDepth 100000 in
theorem awake14 (w : World) : Calls Tryz.prog 47 #[] w fun e w' => e = .returned (.bool true) ∧ Below w.heap.size w w' := by
 go_enter Tryz.func47, Tryz.ntmps47
 go_wp2_with fail
 refine (law_made w 20 om_).mono ?_
 rintro e w1 ⟨L, b, t, D, rfl, M, hr⟩
 have M1 := hi_ M
 have R1 := hi_ hr
 clear M hr
 go_wp2_with fail
 refine (put_new w w1 L b t D [] ⟨-1, 0, 0⟩ [] M1.out (by simp) ⟨#[]⟩ (by decide) (by rw [R1.out]; decide) (fun n _ v => by simp)).mono ?_
 rintro e w2 ⟨rfl, D2, P2, r2, dn⟩
 have hD2 := hi_ (show D2.room = 20 ∧ P2.length ≤ 1 from ⟨dn.app.wr.room.trans R1.out, by have := dn.most; simp at this; omega⟩)
 have M2 := hi_ (M1.out.done dn)
 clear dn M1
 rw [sum_0] at M2
 simp only [sum_0]
 have hh2 := hi_ (M2.out.tc.low (m := 6) (by decide))
 go_wp2_with fail
 have X3 := hi_ (blk_new w2 (.cells #[.int .u32 4294967295, .int .i64 0] 77 (0, 0)))
 have M3 := hi_ (M2.out.below (below_alloc (Below.refl w2.heap.size w2) (.cells #[.int .u32 4294967295, .int .i64 0] 77 (0, 0))))
 have s3 := hi_ (World.size_alloc w2 (.cells #[.int .u32 4294967295, .int .i64 0] 77 (0, 0)))
 generalize w2.alloc (.cells #[.int .u32 4294967295, .int .i64 0] 77 (0, 0)) = w3 at *
 refine (put_new w w3 L b t D2 P2 r2 _ M3.out (by decide) ⟨#[97]⟩ (by decide) (by have := hD2.out; have := hh2.out; omega) (fun n hn v h => ?_)).mono ?_
 ·rcases mem_ed.1 h with h | ⟨h, -⟩
  ·have := congrArg four (show 0 = 0 from rfl)
   simp only [Prod.mk.injEq, sum_a] at h
   exact absurd (keyOf_inj hn om_ h.1).1 (by decide)
  ·cases h
 rintro e w4 ⟨rfl, D4, P4, r4, dn⟩
 rw [sum_a] at dn
 simp only [sum_a]
 have LO := lo_of M2.out.pg.st M2.out.tr
 have hF : Hid (∀ k, ((L.foot k ∨ k = b) ∨ k = t) → k < w2.heap.size) := hi_ (fun k hk => by
  rcases hk with h | rfl
  ·exact LO.lo k h
  ·exact LO.tl)
 have X4 := hi_ (dn.keep.heap X3.out (fun hf => by have := hF.out _ hf; omega))
 have M4 := hi_ (M3.out.done dn)
 have hz4 : Hid (w2.heap.size < w4.heap.size) := hi_ (by have := dn.keep.size; have := s3.out; omega)
 clear dn LO M2 M3 X3 s3 hh2 hD2
 go_wp2_with fail
 have X5 := hi_ (blk_alloc X4.out (.cells #[.int .u32 3865863316, .int .i64 0] 77 (0, 0)))
 have Y5 := hi_ (blk_new w4 (.cells #[.int .u32 3865863316, .int .i64 0] 77 (0, 0)))
 have M5 := hi_ (M4.out.below (below_alloc (Below.refl w4.heap.size w4) (.cells #[.int .u32 3865863316, .int .i64 0] 77 (0, 0))))
 generalize w4.alloc (.cells #[.int .u32 3865863316, .int .i64 0] 77 (0, 0)) = w5 at *
 have hm0 : (keyOf 4294967295 0, valIn ⟨#[]⟩) ∈ ed (keyOf 3865863316 0) (some (valIn ⟨#[97]⟩)) (ed (keyOf 4294967295 0) (some (valIn ⟨#[]⟩)) []) := mem_ed.2 (.inr ⟨mem_ed.2 (.inl rfl), fun h => absurd (keyOf_inj om_ om_ h).1 (by decide)⟩)
 have hct : Hid ((ed (keyOf 3865863316 0) (some (valIn ⟨#[97]⟩)) (ed (keyOf 4294967295 0) (some (valIn ⟨#[]⟩)) [])).length ≤ 100000000) := hi_ (Nat.le_trans (ed_len _ _ _) (by have := ed_len (keyOf 4294967295 0) (some (valIn ⟨#[]⟩)) []; simp only [List.length_nil] at this; omega))
 have hm1 : Hid ((keyOf 3865863316 0, valIn ⟨#[97]⟩) ∈ ed (keyOf 3865863316 0) (some (valIn ⟨#[97]⟩)) (ed (keyOf 4294967295 0) (some (valIn ⟨#[]⟩)) [])) := hi_ (mem_ed.2 (.inl rfl))
 refine (int_Put VLin 0 0 w5 t b L 0 D4 P4 r4 (vals_in L b 0) M5.out.pg.st M5.out.tr M5.out.pg.live _ M5.out.tc hct.out ⟨#[]⟩ (by decide) (fun n => if n = 0 then some ⟨#[]⟩ else none) ⟨fun n hn hno v h => ?_, fun n y hn hy => ?_⟩ om_ (fun k hk => by omega) (.inr rfl)
  (fun h => by simp at h)).mono ?_
 ·have hn0 : n ≠ 0 := fun h0 => by simp [h0] at hno
  rw [sum_0] at h
  rcases mem_ed.1 h with h | ⟨h, -⟩
  ·simp only [Prod.mk.injEq] at h
   exact absurd (keyOf_inj hn om_ h.1).1 (by decide)
  ·rcases mem_ed.1 h with h | ⟨h, -⟩
   ·simp only [Prod.mk.injEq] at h
    exact hn0 (keyOf_inj hn om_ h.1).2
   ·cases h
 ·by_cases hn0 : n = 0
  ·subst hn0
   simp only [if_true, Option.some.injEq] at hy
   subst hy
   rw [sum_0]
   exact ⟨_, hm0, by decide, rfl⟩
  ·simp [hn0] at hy
 clear hm0
 rintro e w6 (⟨-, rfl, hb⟩ | ⟨h, -, -⟩)
 rotate_left
 ·simp at h
 simp only [sum_0, show ((0 : Nat) : Int) = 0 from rfl]
 have X6 := hi_ (blk_below X5.out hb)
 have Y6 := hi_ (blk_below Y5.out hb)
 have M6 := hi_ (M5.out.below hb)
 have hz6 : Hid (w4.heap.size < w6.heap.size) := hi_ (blk_lt Y6.out)
 clear hb X5 Y5 M5 M4 X4
 have y0 := blk_cell (blk_alloc Y6.out (.cells #[.int .u32 4294967295, .int .i64 0] 77 (0, 0))) 0
 have y1 := blk_cell (blk_alloc Y6.out (.cells #[.int .u32 4294967295, .int .i64 0] 77 (0, 0))) 1
 go_wp2_with fail
 have X7 := hi_ (blk_alloc X6.out (.cells #[.int .u32 4294967295, .int .i64 0] 77 (0, 0)))
 have Y7 := hi_ (blk_alloc Y6.out (.cells #[.int .u32 4294967295, .int .i64 0] 77 (0, 0)))
 have Z7 := hi_ (blk_new w6 (.cells #[.int .u32 4294967295, .int .i64 0] 77 (0, 0)))
 have M7 := hi_ (M6.out.below (below_alloc (Below.refl w6.heap.size w6) (.cells #[.int .u32 4294967295, .int .i64 0] 77 (0, 0))))
 clear y0 y1
 generalize w6.alloc (.cells #[.int .u32 4294967295, .int .i64 0] 77 (0, 0)) = w7 at *
 clear X6 Y6 M6
 refine (int_Get_some w7 t b L 0 D4 P4 r4 M7.out.pg.st M7.out.tr M7.out.pg.live.1 _ M7.out.tc (M7.out.tc.small hct.out) 3865863316 0 om_ _ ⟨#[97]⟩ hm1.out (fun W hW => (int_Load_in b ⟨#[97]⟩ W (by decide)).mono fun _ _ ⟨he, hw⟩ => ⟨he, by rw [hw]; exact Below.refl _ _⟩)).mono ?_
 rintro e w8 ⟨rfl, hb⟩
 have X8 := hi_ (blk_below X7.out hb)
 have Y8 := hi_ (blk_below Y7.out hb)
 have Z8 := hi_ (blk_below Z7.out hb)
 have M8 := hi_ (M7.out.below hb)
 clear hb X7 Y7 Z7 M7
 have x0 := blk_cell X8.out 0
 have x1 := blk_cell X8.out 1
 have y0 := blk_cell Y8.out 0
 have y1 := blk_cell Y8.out 1
 have z0 := blk_cell Z8.out 0
 have z1 := blk_cell Z8.out 1
 go_wp2_with fail
 go_ret
 exact ⟨rfl, M8.out.bel⟩
end Go.Proofs.YtendgmblgdkiaaaGreat