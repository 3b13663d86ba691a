/- A row of the tree's calls (dowserlaw10.Act) among the arguments, opened; what each says. dowserlaw14.InternBeside, walked. A long text on its pages: written and read back; plain. blob.Write where there is room, walked. strings.Builder's WriteString: what is no row of bytes, and not the builder, stay -/
import Derived.Test.YtendgmblgdkiaaaGreatGInternFull0
import Derived.Test.YtendgmblgdkiaaaGreatGInternFull35
import Derived.Test.YtendgmblgdkiaaaGreatGInternFull30
import Derived.ChangeSlices
import Derived.SliceStrings
import Derived.Deep.Strs
import Derived.Deep.Grids
import Derived.Lib.SmallJoins
import Derived.Test.YtendgmblgdkiaaaGreatGInternFull34
import Derived.Test.YtendgmblgdkiaaaGreatGInternFull17
namespace Go.Proofs.YtendgmblgdkiaaaGreat
open Go.RowKit Go.ChangeShapes Go.WideShapes Go.Joins
open Go.Proofs.YtendgmblgdkiaaaGreatW
open PrintWords PrintLast PrintMore
set_option linter.unusedVariables false
set_option linter.unusedSimpArgs false

/-- A call. -/
structure TAct where
 kind : Int
 key : BA
 val : BA
instance : Inhabited TAct := ⟨⟨0, ByteArray.empty, ByteArray.empty⟩⟩
structure TActCells (w : World) (b off : Nat) (A : TAct) : Prop where
 c0 : w.cell? ⟨b, off, none⟩ = some (.int .i64 A.kind)
 c1 : w.cell? ⟨b, off + 1, none⟩ = some (.string A.key)
 c2 : w.cell? ⟨b, off + 2, none⟩ = some (.string A.val)
def TActsAt (w : World) (v : Value) (l : List TAct) : Prop :=
 ∃ a c, v = .slice a l.length c ∧ l.length ≤ 9223372036854775807 ∧ ∀ i (hi : i < l.length), ∃ b off, a = some ⟨b, off, none⟩ ∧ TActCells w b (off + i * 3) l[i]
theorem bel_cells {w w' : World} (h : Below w.heap.size w w') : ∀ p x, w.cell? p = some x → w'.cell? p = some x := by
 intro p x hx
 rw [World.cell?_of_block (w := w) (h.block p.block (World.block_lt_of_cell? w _ hx))]
 exact hx
theorem TActCells.below {w w' : World} {b off : Nat} {A : TAct} (h : TActCells w b off A) (k : Below w.heap.size w w') : TActCells w' b off A :=
 ⟨bel_cells k _ _ h.c0, bel_cells k _ _ h.c1, bel_cells k _ _ h.c2⟩
theorem TActsAt.below {w w' : World} {v : Value} {l : List TAct} (h : TActsAt w v l) (k : Below w.heap.size w w') : TActsAt w' v l := by
 obtain ⟨a, c, hv, hl, hc⟩ := h
 exact ⟨a, c, hv, hl, fun i hi => by obtain ⟨b, off, ha, h⟩ := hc i hi; exact ⟨b, off, ha, h.below k⟩⟩

variable {H : Type} {enc : TypeId × Value → H} {w : World}
/-- The key and the value as most laws take them. -/
def TAct.k (A : TAct) : BA := (⟨#[107]⟩ : BA) ++ cutB (cutB A.key 18) 15
def TAct.v (A : TAct) : BA := cutB (cutB A.val 34) 32
end Go.Proofs.YtendgmblgdkiaaaGreat

namespace Go.Proofs.YtendgmblgdkiaaaGreat
open Go.RowKit
open Go.Proofs.YtendgmblgdkiaaaGreatW
open PrintWords PrintLast PrintMore
set_option linter.unusedVariables false
set_option linter.unusedSimpArgs false

theorem hd_num : ∀ (d x i : Nat) (r : List UInt8), x < 128 ^ d → 1 ≤ d → i + d ≤ 10 → x * 128 ^ i < 18446744073709551616 → (0 < i → x ≠ 0) → hd i (vNumL x ++ r) = some (x, (vNumL x).length)
 | 0, _, _, _, _, h, _, _, _ => by omega
 | d + 1, x, i, r, hx, _, hi, hb, h0 => by
  by_cases h : x < 128
  ·have hc : (UInt8.ofNat x).toNat = x := by rw [UInt8.toNat_ofNat']; exact Nat.mod_eq_of_lt om_
   have hbad : ¬ ((i = 9 ∧ 1 < x) ∨ (0 < i ∧ x = 0)) := by
    rintro (⟨rfl, h1⟩ | ⟨h1, h2⟩)
    ·have e9 : (128 : Nat) ^ 9 = 9223372036854775808 := by decide
     omega
    ·exact h0 h1 h2
   rw [vNumL_small h]
   show hd i (UInt8.ofNat x :: r) = _
   unfold hd
   rw [hc, if_neg hbad, if_pos h]
   rfl
  ·have hc : (UInt8.ofNat (x % 128 + 128)).toNat = x % 128 + 128 := by rw [UInt8.toNat_ofNat']; exact Nat.mod_eq_of_lt om_
   have hd1 : 1 ≤ d := by
    rcases Nat.eq_zero_or_pos d with rfl | h
    ·simp at hx; omega
    ·exact h
   have hx2 : x / 128 < 128 ^ d := by rw [Nat.pow_succ] at hx; omega
   have hb2 : x / 128 * 128 ^ (i + 1) < 18446744073709551616 := by
    have h1 : x / 128 * 128 ≤ x := Nat.div_mul_le_self x 128
    have h2 : x / 128 * 128 * 128 ^ i ≤ x * 128 ^ i := Nat.mul_le_mul_right _ h1
    rw [Nat.pow_succ, Nat.mul_comm (128 ^ i) 128, ← Nat.mul_assoc]
    omega
   rw [vNumL_big h]
   show hd i (UInt8.ofNat (x % 128 + 128) :: (vNumL (x / 128) ++ r)) = _
   unfold hd
   rw [hc, if_neg (by omega), if_neg (by omega), hd_num d (x / 128) (i + 1) r hx2 hd1 (by omega) hb2 (by omega)]
   simp only [Option.map_some, List.length_cons, Option.some.injEq, Prod.mk.injEq, and_true]
   omega
theorem max2_mx (k k' : IntKind) (x y : Int) : Builtin.max2 (.int k x) (.int k' y) = pure (.int k (mx x y)) := max2_int k k' x y
theorem min2_mn (k k' : IntKind) (x y : Int) : Builtin.min2 (.int k x) (.int k' y) = pure (.int k (mn x y)) := min2_int k k' x y
theorem clamp (x : Int) (m : Nat) : ∃ p : Nat, p ≤ m ∧ mx 0 (mn x m) = p := by
 refine ⟨(mx 0 (mn x m)).toNat, ?_, ?_⟩ <;> unfold mx mn <;> split <;> split <;> omega
attribute [local go_sem] max2_mx min2_mn max_two min_two
end Go.Proofs.YtendgmblgdkiaaaGreat

namespace Go.Proofs.YtendgmblgdkiaaaGreat
open Go.RowKit
open Go.Proofs.YtendgmblgdkiaaaGreatW
open PrintWords PrintLast PrintMore
set_option linter.unusedVariables false
set_option linter.unusedSimpArgs false

/-- What the rounds of walk give: f rounds are left, n is the next page, acc what was gathered. -/
def blobW (P : List Pg) : Nat → Int → BA → BA × Int
 | 0, n, _ => if (blobP P n).2.2 ≠ 0 then (⟨#[]⟩, (blobP P n).2.2) else (⟨#[]⟩, 8)
 | f + 1, n, acc => if (blobP P n).2.2 ≠ 0 then (⟨#[]⟩, (blobP P n).2.2) else if (blobP P n).2.1 < 0 then (acc ++ (blobP P n).1, 0) else blobW P f (blobP P n).2.1 (acc ++ (blobP P n).1)
/-- A page of a text whose pages begin at base: the j-th that was written. -/
def blobPg (base j : Nat) (part : BA) : Pg := (3, vNum (if j = 0 then 0 else base + j) ++ part)
theorem blobP_at {P : List Pg} {base j : Nat} {part : BA} (hp : P[base + j]? = some (blobPg base j part)) (hb : base + j ≤ 100000) :
  blobP P ((base + j : Nat) : Int) = (part, (if j = 0 then -1 else ((base + j - 1 : Nat) : Int)), 0) := by
 obtain ⟨x, hx⟩ : ∃ x, x = if j = 0 then 0 else base + j := ⟨_, rfl⟩
 have hxl : x ≤ base + j := by rw [hx]; split <;> omega
 have hs : pgSay P ((base + j : Nat) : Int) = (3, vNum x ++ part, 0) := by
  unfold pgSay
  rw [if_neg (by omega), Int.toNat_natCast, hp, hx]
  rfl
 have h2 : (128 : Nat) ^ 10 = 1180591620717411303424 := by decide
 have hh : hd 0 (vNum x ++ part).data.toList = some (x, (vNumL x).length) := by
  rw [bytes_app, vNum_list]
  exact hd_num 10 x 0 _ om_ om_ om_ om_ om_
 unfold blobP
 rw [hs]
 simp only [hh, ne_eq, not_true_eq_false, if_false]
 rw [if_pos ⟨by omega, trivial⟩, ← vNum_size, cut_app_r]
 congr 2
 rw [hx]
 split <;> omega
/-- The parts' bytes, the last written ahead. -/
def catP (parts : Nat → BA) : Nat → BA
 | 0 => parts 0
 | j + 1 => parts (j + 1) ++ catP parts j
theorem blobW_chain (P : List Pg) (base : Nat) (parts : Nat → BA) : ∀ (j f : Nat) (acc : BA), j < f → base + j ≤ 100000 → (∀ i, i ≤ j → P[base + i]? = some (blobPg base i (parts i))) →
  blobW P f ((base + j : Nat) : Int) acc = (acc ++ catP parts j, 0)
 | j, 0, _, h, _, _ => by omega
 | 0, f + 1, acc, _, hb, hp => by
  have h := blobP_at (hp 0 om_) hb
  unfold blobW
  rw [h]
  rfl
 | j + 1, f + 1, acc, hf, hb, hp => by
  have h := blobP_at (hp (j + 1) om_) hb
  unfold blobW
  rw [h]
  simp only [ne_eq, not_true_eq_false, if_false, Nat.add_one_ne_zero]
  rw [if_neg (by omega), show base + (j + 1) - 1 = base + j from by omega, blobW_chain P base parts j f (acc ++ parts (j + 1)) (by omega) (by omega) (fun i hi => hp i (by omega))]
  unfold catP
  rw [ByteArray.append_assoc]
  cases j <;> rfl
end Go.Proofs.YtendgmblgdkiaaaGreat

namespace Go.Proofs.YtendgmblgdkiaaaGreat
open Go.RowKit
open Go.Proofs.YtendgmblgdkiaaaGreatW
open PrintWords PrintLast PrintMore
set_option linter.unusedVariables false
set_option linter.unusedSimpArgs false

/-- The first k pages of a text. -/
def pgsB (base : Nat) (parts : Nat → BA) (k : Nat) : List Pg := (List.range k).map fun j => blobPg base j (parts j)
theorem pgsB_succ (base : Nat) (parts : Nat → BA) (k : Nat) : pgsB base parts (k + 1) = pgsB base parts k ++ [blobPg base k (parts k)] := by
 unfold pgsB
 rw [List.range_succ, List.map_append]
 rfl
theorem pgsB_len (base : Nat) (parts : Nat → BA) (k : Nat) : (pgsB base parts k).length = k := by simp [pgsB]
theorem pgsB_at (base : Nat) (parts : Nat → BA) {k i : Nat} (h : i < k) : (pgsB base parts k)[i]? = some (blobPg base i (parts i)) := by
 simp [pgsB, h]
/-- The part that is written as the j-th: from the end. -/
def partB (s : BA) (c j : Nat) : BA := s.extract ((c - 1 - j) * 235) (min ((c - 1 - j + 1) * 235) s.size)
theorem partB_size (s : BA) (c j : Nat) : (partB s c j).size ≤ 235 := by
 unfold partB
 rw [ByteArray.size_extract]
 omega
theorem cost_le (n : Nat) : (costN n - 1) * 235 ≤ n ∧ n ≤ costN n * 235 ∧ 1 ≤ costN n := by
 unfold costN
 omega
/-- The parts are the text. -/
theorem catP_from (s : BA) (c : Nat) (hc : 1 ≤ c) (h1 : (c - 1) * 235 ≤ s.size) (h2 : s.size ≤ c * 235) : ∀ j, j < c → catP (partB s c) j = s.extract ((c - 1 - j) * 235) s.size
 | 0, _ => by
  unfold catP partB
  congr 1
  rw [Nat.sub_zero]
  rw [show c - 1 + 1 = c from by omega]
  omega
 | j + 1, hj => by
  have ih := catP_from s c hc h1 h2 j om_
  unfold catP
  rw [ih]
  have e : c - 1 - j = c - 1 - (j + 1) + 1 := by omega
  unfold partB
  have hle : (c - 1 - (j + 1) + 1) * 235 ≤ s.size := by
   have : (c - 1 - (j + 1) + 1) * 235 ≤ (c - 1) * 235 := Nat.mul_le_mul_right _ om_
   omega
  rw [Nat.min_eq_left hle, e]
  apply bytes_ext
  rw [bytes_app, cut_list, cut_list, ByteArray.data_extract, Array.toList_extract, List.extract_eq_take_drop]
  have hl : s.data.toList.length = s.size := rfl
  rw [show (c - 1 - (j + 1) + 1) * 235 - (c - 1 - (j + 1)) * 235 = 235 from by omega]
  have : s.data.toList.drop ((c - 1 - (j + 1) + 1) * 235) = (s.data.toList.drop ((c - 1 - (j + 1)) * 235)).drop 235 := by
   rw [List.drop_drop]
   congr 1
   omega
  rw [this, List.take_append_drop]
theorem catP_all (s : BA) : catP (partB s (costN s.size)) (costN s.size - 1) = s := by
 obtain ⟨h1, h2, h3⟩ := cost_le s.size
 rw [catP_from s (costN s.size) h3 h1 h2 _ (by omega)]
 rw [Nat.sub_self, Nat.zero_mul]
 exact ByteArray.extract_zero_size
/-- What k pages leave. -/
structure WrB (w : World) (b : Nat) (L : Loc) (h : Nat) (D : Dk) (P : List Pg) (s : BA) (c k : Nat) (D1 : Dk) (wr : World) : Prop where
 st : St wr L b h D1 (P ++ pgsB P.length (partB s c) k)
 live : D1.Live
 app : AppOk h D P D1 (P ++ pgsB P.length (partB s c) k)
 keep : Keep (fun k => L.foot k ∨ k = b) w wr
attribute [local go_sem] min2_mn min_two
set_option maxHeartbeats 1000000 in
set_option maxRecDepth 100000 in
theorem blob_Write (w : World) (b : Nat) (L : Loc) (h : Nat) (D : Dk) (P : List Pg) (S : St w L b h D P) (lv : D.Live) (s : BA) (hs : s.size ≤ 65536) (c : Nat) (hc : c = costN s.size) (hr : P.length + c ≤ D.room) :
  Calls Tryz.prog 123 #[.pointer (some ⟨b, 0, none⟩), .string s] w fun e w' => e = .returned (.tuple #[.int .i64 ((P.length + c - 1 : Nat) : Int), .int .i64 0]) ∧ ∃ D1, ValM c w w' b L h D P D1 (P ++ pgsB P.length (partB s c) c) := by
 have hrl := room_le S.d.ok
 obtain ⟨k1, k2, k3⟩ := cost_le s.size
 rw [← hc] at k1 k2 k3
 have CC := hi_ (fun W => blob_Cost s.size om_ W)
 rw [← hc] at CC
 have hs1 : ¬ (65536 : Int) < (s.size : Int) := by omega
 have CF := pages_Free w b L D h P.length S.p S.d om_
 obtain ⟨fr, hfr⟩ : ∃ fr : Int, fr = ((D.room - P.length : Nat) : Int) := ⟨_, rfl⟩
 rw [← hfr] at CF
 have hfc : ¬ fr < (c : Int) := by omega
 have CF := hi_ CF
 have HS := hi_ S
 have HL := hi_ lv
 have HC := hi_ (show 1 ≤ c ∧ c ≤ 300 ∧ (c - 1) * 235 ≤ s.size ∧ s.size ≤ c * 235 ∧ s.size ≤ 65536 ∧ P.length + c ≤ D.room ∧ D.room ≤ 32767 by omega)
 have hw1 : IntKind.i64.wrap ((c : Int) - 1) = (c : Int) - 1 := by rw [IntKind.wrap_i64]; omega
 clear S lv hs hc hr hrl k1 k2 k3 hfr
 go_enter Tryz.func123, Tryz.ntmps123
 go_wp2_with fail
 refine (CC.out w).mono ?_
 rintro e w1 ⟨rfl, rfl⟩
 clear CC
 go_wp2_with fail
 refine CF.out.mono ?_
 rintro e w1 ⟨rfl, m, rfl⟩
 clear CF
 have I0 : Hid (WrB w b L h D P s c 0 D (w.drewN m)) := hi_ ⟨by simpa [pgsB] using HS.out.below (below_drewN (Below.refl _ _) m), HL.out, by simpa [pgsB] using AppOk.refl HS.out.room HS.out.holds, (Keep.refl _ _).drewN m⟩
 go_wp2_with fail
 go_loopw [8, 7] (fun i nx wr => ∃ (k x : Nat) (D1 : Dk), k ≤ c ∧ x = (if k = 0 then 0 else P.length + k) ∧ i = .int .i64 ((c : Int) - 1 - (k : Int)) ∧ nx = .int .i64 ((x : Int) - 1) ∧ Hid (WrB w b L h D P s c k D1 wr)) (fun i _ _ => (intOf i + 1).toNat)
 case atStart => exact ⟨0, 0, D, by omega, rfl, by simp, by simp, I0⟩
 case round =>
  obtain ⟨k, x, D1, hk, hx, rfl, rfl, IV⟩ := hrel
  clear I0
  by_cases hlt : k < c
  ·obtain ⟨q, hq⟩ : ∃ q, q = c - 1 - k := ⟨_, rfl⟩
   have hqi : (c : Int) - 1 - (k : Int) = (q : Int) := by omega
   rw [hqi]
   have hxl : x ≤ 40000 := by have := HC.out; rw [hx]; split <;> omega
   have HX := hi_ hx
   have HQ := hi_ (show q + k + 1 = c by omega)
   have hq3 : q ≤ 300 := by have := HC.out; omega
   have hq1 : q * 235 ≤ s.size := by
    have := HC.out
    have h1 : q * 235 ≤ (c - 1) * 235 := Nat.mul_le_mul_right _ om_
    omega
   have hmn : mn (((q : Int) + 1) * 235) (s.size : Int) = ((min ((q + 1) * 235) s.size : Nat) : Int) := by unfold mn; split <;> omega
   have hm1 : q * 235 ≤ min ((q + 1) * 235) s.size := by omega
   have hm2 : min ((q + 1) * 235) s.size ≤ s.size := by omega
   obtain ⟨mm, hmm⟩ : ∃ mm, mm = min ((q + 1) * 235) s.size := ⟨_, rfl⟩
   rw [← hmm] at hmn hm1 hm2
   have HMM := hi_ hmm
   have e0 : (0 : Int) ≤ (q : Int) := by omega
   have e1 : IntKind.i64.wrap ((q : Int) * 235) = ((q * 235 : Nat) : Int) := by rw [IntKind.wrap_i64]; omega
   have e2 : IntKind.i64.wrap ((q : Int) + 1) = (q : Int) + 1 := by rw [IntKind.wrap_i64]; omega
   have e3 : IntKind.i64.wrap (((q : Int) + 1) * 235) = ((q : Int) + 1) * 235 := by rw [IntKind.wrap_i64]; omega
   have e4 : IntKind.i64.wrap ((x : Int) - 1 + 1) = (x : Int) := by rw [IntKind.wrap_i64]; omega
   have e5 : IntKind.u64.wrap (x : Int) = (x : Int) := by rw [IntKind.wrap_u64]; omega
   clear hlt hk hx hq hqi hmm
   go_wp2_with fail
   refine (var_Num x om_ wr).mono ?_
   rintro e w3 ⟨rfl, hb⟩
   have S3 := hi_ (IV.out.st.below hb)
   have K3 := hi_ (IV.out.keep.andThen (Keep.below (F := fun k => L.foot k ∨ k = b) hb) (fun _ _ hf => hf))
   clear hb
   have hz1 := vNum_le (x := x) om_
   have hpe : s.extract (q * 235) mm = partB s c k := by
    have h1 : c - 1 - k = q := by have := HQ.out; omega
    unfold partB
    rw [h1, HMM.out]
   have hpz := partB_size s c k
   rw [hpe]
   obtain ⟨pt, hpt⟩ : ∃ pt, pt = partB s c k := ⟨_, rfl⟩
   rw [← hpt] at hpz ⊢
   have HPT := hi_ hpt
   clear hpe hpt
   have hlen : (P ++ pgsB P.length (partB s c) k).length = P.length + k := by rw [List.length_append, pgsB_len]
   have hvz : (vNum x).size ≤ 3 := by
    rw [vNum_size]
    exact (vNumL_len 3 x om_ om_).2
   have hpg : ((3 : Int), vNum x ++ pt) = blobPg P.length k (partB s c k) := by rw [HPT.out, HX.out]; rfl
   have CA := pages_Append w3 b L D1 h _ 3 (vNum x ++ pt) S3.out.p S3.out.d S3.out.hh S3.out.room
   have hdr : D1.room = D.room := IV.out.app.wr.room
   rcases append_step S3.out.d.ok IV.out.live.1 S3.out.hh S3.out.room S3.out.holds 3 (vNum x ++ pt) om_ om_ (by rw [ByteArray.size_append]; omega) with ⟨hr, D2, ea, hup, ha⟩ | ⟨hr, -⟩ | ⟨D2, -, -, hlv, -⟩
   rotate_left
   ·have := HC.out; have := HQ.out; omega
   ·exact absurd IV.out.live hlv
   rw [ea] at CA
   have CA := hi_ CA
   have hpp : (P ++ pgsB P.length (partB s c) k) ++ [(3, vNum x ++ pt)] = P ++ pgsB P.length (partB s c) (k + 1) := by rw [pgsB_succ, hpg, List.append_assoc]
   rw [hpp] at ha
   have HA := hi_ ha
   have HU := hi_ hup
   have HLN := hi_ hlen
   have HPP := hi_ hpp
   clear ha hup hr ea hpg hpp hlen hdr
   go_wp2_with fail
   refine CA.out.mono ?_
   rintro e w4 ⟨rfl, hd, hp, hkp⟩
   have hl4 : (P ++ pgsB P.length (partB s c) (k + 1)).length = (P ++ pgsB P.length (partB s c) k).length + 1 := by rw [← HPP.out, List.length_append]; rfl
   have S4 := hi_ (show St w4 L b h D2 (P ++ pgsB P.length (partB s c) (k + 1)) from ⟨hd, by rw [hl4]; exact hp, S3.out.hh, HA.out.room, HA.out.holds⟩)
   have K4 := hi_ (K3.out.andThen hkp (fun _ _ hf => hf))
   clear hd hp hkp hl4 CA
   rw [HLN.out]
   go_wp2_with fail
   have hfin : (intOf (Value.int IntKind.i64 ((q : Int) - 1)) + 1).toNat < (intOf (Value.int IntKind.i64 (q : Int)) + 1).toNat := by simp only [intOf]; omega
   exact ⟨⟨k + 1, P.length + (k + 1), D2, by have := HQ.out; omega, by rw [if_neg (Nat.succ_ne_zero k)], by congr 1; have := HQ.out; omega, by congr 1; omega, hi_ ⟨S4.out, HA.out.wr.live IV.out.live, IV.out.app.trans HA.out, K4.out⟩⟩, hfin⟩
  ·have hkc : k = c := by omega
   subst hkc
   have hk0 : ¬ k = 0 := by have := HC.out; omega
   rw [if_neg hk0] at hx
   have hi : (k : Int) - 1 - (k : Int) = -1 := by omega
   have hx1 : (x : Int) - 1 = ((P.length + k - 1 : Nat) : Int) := by omega
   rw [hi, hx1]
   clear hlt hk hx hi hx1 hw1
   go_wp2_with fail
   go_ret2
   exact ⟨rfl, D1, ⟨IV.out.st, IV.out.live, IV.out.app, by rw [List.length_append, pgsB_len], IV.out.keep⟩⟩
end Go.Proofs.YtendgmblgdkiaaaGreat

namespace Go.Proofs.YtendgmblgdkiaaaGreat
open Go.RowKit
open Go.Proofs.YtendgmblgdkiaaaGreatW
open PrintWords (own_typed)
set_option linter.unusedVariables false
set_option linter.unusedSimpArgs false

/-- Blocks other than b that are no rows of bytes stay. -/
def Stays (b : Nat) (w w' : World) : Prop := w.heap.size ≤ w'.heap.size ∧ ∀ k o, w.heap[k]? = some o → k ≠ b → (∀ cs fz, o ≠ .cells cs 5 fz) → w'.heap[k]? = some o
theorem Stays.trans {b : Nat} {w w' w'' : World} (h : Stays b w w') (h' : Stays b w' w'') : Stays b w w'' := ⟨Nat.le_trans h.1 h'.1, fun k o hk hb ht => h'.2 k o (h.2 k o hk hb ht) hb ht⟩
theorem Stays.setCell (b : Nat) (w : World) (i : Nat) (v : Value) : Stays b w (w.setCell ⟨b, i, none⟩ v) :=
 ⟨by simp [World.setCell], fun k o hk hb _ => (Below.heap_setCell w ⟨b, i, none⟩ v k hb).trans hk⟩
theorem bld_check2 (B b : Nat) (bs : List Value) (w : World) (h : Lib.IsBuilder 233 5 B b bs w) :
  Calls Tryz.prog 204 #[.pointer (some ⟨b, 0, none⟩)] w fun e w' => e = .returned (.tuple #[]) ∧ (Lib.BuilderAt 233 5 B b (.pointer (some ⟨b, 0, none⟩)) bs w' ∧ Below B w w' ∧ Stays b w w') := by
 rcases h with h | h
 ·refine (bld_check_fresh b w h.cell0 h.shape h.frozen0).mono ?_
  rintro e w' ⟨rfl, rfl⟩
  exact ⟨rfl, h.used _, (Below.refl B w).setCell (p := ⟨b, 0, none⟩) h.1 _, Stays.setCell b w 0 _⟩
 ·refine (bld_check_used b w h.cell0).mono ?_
  rintro e w' ⟨rfl, rfl⟩
  exact ⟨rfl, h, Below.refl B _, Nat.le_refl _, fun k o hk _ _ => hk⟩
set_option maxHeartbeats 2000000 in
set_option maxRecDepth 100000 in
theorem bld_WriteString2 (B b : Nat) (bs : List Value) (s : ByteArray) (w : World) (h : Lib.IsBuilder 233 5 B b bs w) (hlen : bs.length + s.size ≤ 140737488355328) (hBw : B ≤ w.heap.size) :
  Calls Tryz.prog 172 #[.pointer (some ⟨b, 0, none⟩), .string s] w fun e w' => e = .returned (.tuple #[.int .i64 s.size, .nilIface]) ∧ (Lib.BuilderAt 233 5 B b (.pointer (some ⟨b, 0, none⟩)) (bs ++ Lib.strCells s) w' ∧ Below B w w' ∧ Stays b w w') := by
 obtain ⟨i0, hi, hz0, hz1, hz2⟩ := info_parts bld_byte
 go_enter Tryz.func172, Tryz.ntmps172
 go_wp2_with (go_at_call 204; refine (bld_check2 B b bs _ h).mono ?_)
 rintro e w1 ⟨rfl, h1, hb1, hst1⟩
 obtain ⟨hB, v, hbk, hown, hne⟩ := h1
 have c0 : w1.cell? ⟨b, 0, none⟩ = some (.pointer (some ⟨b, 0, none⟩)) := by rw [Lib.cell_of_heap hbk]; rfl
 have c1 : w1.cell? ⟨b, 1, none⟩ = some v := by rw [Lib.cell_of_heap hbk]; rfl
 go_wp2_with (at_builtin; refine Lib.wpList_append_own_string _ rfl _ _ 55 9 rfl B 5 i0 Tryz.underlying55 Tryz.underlying9 hi hz0 hz1 hz2 _ _ _ rfl hown s rfl ?c3 ?c4 ?c5 ?_)
 case c3 => unfold maxLen; omega
 case c4 => omega
 case c5 => have := hb1.size; omega
 intro v' w2 hown' hgrow _
 have hlt : b < w1.heap.size := by
  rcases Nat.lt_or_ge b w1.heap.size with h' | h'
  ·exact h'
  ·simp [Array.getElem?_eq_none h'] at hbk
 have hb2 : w2.heap[b]? = some (.cells #[.pointer (some ⟨b, 0, none⟩), v] 233 (0, 0)) := by
  rw [hgrow.block b hlt (fun e => hne e.symm)]
  exact hbk
 have hst2 : Stays b w1 w2 := ⟨hgrow.size, fun k o hk hkb ht => by
  have hk1 : k < w1.heap.size := by
   rcases Nat.lt_or_ge k w1.heap.size with h' | h'
   ·exact h'
   ·simp [Array.getElem?_eq_none h'] at hk
  rw [hgrow.block k hk1 (fun e => by
   obtain ⟨cells, hc⟩ := own_typed hown k e.symm
   rw [hk] at hc
   exact ht _ _ (Option.some.inj hc))]
  exact hk⟩
 have d0 : w2.cell? ⟨b, 0, none⟩ = some (.pointer (some ⟨b, 0, none⟩)) := by rw [Lib.cell_of_heap hb2]; rfl
 have d1 : w2.cell? ⟨b, 1, none⟩ = some v := by rw [Lib.cell_of_heap hb2]; rfl
 have f1 : w2.frozen? ⟨b, 1, none⟩ = false := Lib.frozen_of_heap hb2 1
 obtain ⟨ao, n', cap, rfl⟩ : ∃ ao n' cap, v' = .slice ao n' cap := by
  rcases hown'.2 with ⟨hv, _⟩ | ⟨g, cap, cur, hv, _⟩
  ·exact ⟨_, _, _, hv⟩
  ·exact ⟨_, _, _, hv⟩
 have HST := hi_ (hst1.trans hst2)
 go_wp2
 go_ret2
 refine ⟨rfl, ?_, ?_, HST.out.trans (Stays.setCell b w2 1 _)⟩
 ·exact Lib.BuilderAt.put (T := 233) (e := 5) hB hb2 (bs' := bs ++ Lib.strCells s) (by simpa [Lib.strCells_length] using hown') (by decide)
 ·exact (hb1.grown hgrow (by have := hb1.size; omega) (fun k hk => (hown.lt k hk).1)).setCell (p := ⟨b, 1, none⟩) hB _
end Go.Proofs.YtendgmblgdkiaaaGreat

namespace Go.Proofs.YtendgmblgdkiaaaGreat
open Go.RowKit
open Go.Proofs.YtendgmblgdkiaaaGreatW
open PrintWords PrintLast PrintMore
set_option linter.unusedVariables false
set_option linter.unusedSimpArgs false

theorem infoB8 : (Tryz.prog.info? 5).map (fun i => (i.zero, i.size, i.bytes)) = some (some (.int .u8 0), 1, 1) := by kernel_rfl
/-- While Long runs: a row of m bytes. -/
structure LongAt (w : World) (m : Nat) (wr : World) : Prop where
 row : ∃ xs : List Int, xs.length = m ∧ wr.heap[w.heap.size]? = some (.cells (xs.map (Value.int .u8)).toArray 5 (0, 0))
 bel : Below w.heap.size w wr
theorem LongAt.set {w wr : World} {m : Nat} (H : LongAt w m wr) (i : Nat) (v : Int) : LongAt w m (wr.setCell ⟨w.heap.size, i, none⟩ (.int .u8 v)) := by
 obtain ⟨xs, hl, hx⟩ := H.row
 refine ⟨⟨xs.set i v, by simpa using hl, blk_put hx i _ ?_⟩, below_set H.bel (Nat.le_refl _)⟩
 rw [List.setIfInBounds_toArray, List.map_set]
theorem LongAt.frz {w wr : World} {m : Nat} (H : LongAt w m wr) (i : Nat) : wr.frozen? ⟨w.heap.size, i, none⟩ = false := by
 obtain ⟨xs, hl, hx⟩ := H.row
 exact blk_frozen hx i
theorem LongAt.cell {w wr : World} {m : Nat} (H : LongAt w m wr) {i : Nat} (hi : i < m) : ∃ v, wr.cell? ⟨w.heap.size, i, none⟩ = some (.int .u8 v) := by
 obtain ⟨xs, hl, hx⟩ := H.row
 rw [blk_cell hx i]
 exact ⟨xs[i]'om_, by simp [List.getElem?_eq_getElem (show i < xs.length by omega)]⟩
attribute [local go_sem] max2_mx min2_mn max_two min_two
set_option maxHeartbeats 1000000 in
set_option maxRecDepth 100000 in
theorem law_Long (s : BA) (n : Int) (w : World) (hs : s.size ≤ 1000000) :
  Calls Tryz.prog 49 #[.string s, .int .i64 n] w fun e w' => ∃ x : BA, e = .returned (.string x) ∧ (x.size : Int) = mx 0 (mn n 131072) ∧ Below w.heap.size w w' := by
 obtain ⟨m, hm, hme⟩ := clamp n 131072
 rw [show ((131072 : Nat) : Int) = 131072 from rfl] at hme
 have HME := hi_ hme
 have hmk : ∀ W : World, (Instr.makeSlice 55 (.int .i64 (m : Int)) (.int .i64 (m : Int))).run Tryz.prog W = .ok (.slice (some ⟨W.heap.size, 0, none⟩) m m) (W.alloc (.cells (madeCells #[.int .u8 0] m) 5)) := fun W =>
  run_make_row' 55 5 (.int .u8 0) 1 Tryz.underlying55 infoB8 rfl .i64 .i64 m om_ om_ W
 have H0 : Hid (LongAt w m (w.alloc (.cells (madeCells #[.int .u8 0] m) 5))) := hi_ ⟨⟨List.replicate m 0, by simp, by
  rw [heap_alloc_self w _, show madeCells #[Value.int .u8 0] m = (List.replicate m (Value.int .u8 0)).toArray from by rw [← toList_madeCells_one], List.map_replicate]⟩, below_alloc (Below.refl _ _) _⟩
 go_enter Tryz.func49, Tryz.ntmps49
 go_wp2_with fail
 clear hme hmk
 generalize w.alloc (.cells (madeCells #[.int .u8 0] m) 5) = w1 at *
 go_loopw [14] (fun c wr => ∃ k : Nat, c = .int .i64 k ∧ k ≤ m ∧ Hid (LongAt w m wr)) (fun c _ => m - (intOf c).toNat)
 case atStart => exact ⟨0, rfl, by omega, H0⟩
 case round =>
  clear H0
  obtain ⟨k, rfl, hk, HK⟩ := hrel
  by_cases hlt : k < m
  ·obtain ⟨v0, c0⟩ := HK.out.cell hlt
   have f0 := HK.out.frz k
   by_cases hs1 : k < s.size
   ·go_wp2_with fail
    exact ⟨⟨k + 1, by congr 1, by omega, hi_ ((HK.out.set k _).set k _)⟩, by simp only [intOf]; omega⟩
   ·go_wp2_with fail
    exact ⟨⟨k + 1, by congr 1, by omega, hi_ (HK.out.set k _)⟩, by simp only [intOf]; omega⟩
  ·have hkm : k = m := by omega
   subst hkm
   obtain ⟨xs, hxl, hxr⟩ := HK.out.row
   have hcv : (convert 55 9 (.slice (some ⟨w.heap.size, 0, none⟩) k k)).run Tryz.prog wr = .ok (.string (strOfNums xs)) wr := by
    refine run_convert_bytes_arg (P := Tryz.prog) _ 55 5 Tryz.underlying55 Tryz.underlying5 w.heap.size 0 k k xs hxl ?_ 9 Tryz.underlying9
    intro i hi
    rw [cell_of_heap hxr]
    have hi' : i < xs.length := by omega
    simp [hi']
   clear hxr
   go_wp2_with fail
   go_ret
   exact ⟨_, rfl, by rw [HME.out, strOfNums_size, hxl], HK.out.bel⟩
theorem law_Long_n (s : BA) (n : Nat) (hn : n ≤ 131072) (hs : s.size ≤ 1000000) (w : World) :
  Calls Tryz.prog 49 #[.string s, .int .i64 (n : Int)] w fun e w' => ∃ x : BA, e = .returned (.string x) ∧ x.size = n ∧ Below w.heap.size w w' := by
 refine (law_Long s (n : Int) w hs).mono ?_
 rintro e w' ⟨x, he, hx, hb⟩
 refine ⟨x, he, ?_, hb⟩
 unfold mx mn at hx
 split at hx <;> split at hx <;> omega
end Go.Proofs.YtendgmblgdkiaaaGreat
