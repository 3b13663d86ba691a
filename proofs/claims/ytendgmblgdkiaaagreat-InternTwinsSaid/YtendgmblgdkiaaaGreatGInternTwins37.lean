/- A row of the tree's calls (dowserlaw10.Act) among the arguments, opened; what each says. dowserlaw14.InternBeside, walked. A long text on its pages: written and read back; plain. blob.Write where there is room, walked. strings.Builder's WriteString: what is no row of bytes, and not the builder, stay -/
import Derived.Test.YtendgmblgdkiaaaGreatGInternTwins0
import Derived.Test.YtendgmblgdkiaaaGreatGInternTwins36
import Derived.Test.YtendgmblgdkiaaaGreatGInternTwins31
import Derived.ChangeSlices
import Derived.SliceStrings
import Derived.Deep.Strs
import Derived.Deep.Grids
import Derived.Lib.SmallJoins
import Derived.Test.YtendgmblgdkiaaaGreatGInternTwins35
import Derived.Test.YtendgmblgdkiaaaGreatGInternTwins17
import Derived.Test.YtendgmblgdkiaaaGreatGInternTwins15
import Derived.Test.YtendgmblgdkiaaaGreatGInternTwins25
namespace Go.Proofs.YtendgmblgdkiaaaGreat
open Go.RowKit Go.ChangeShapes Go.WideShapes Go.Joins
open Go.Proofs.YtendgmblgdkiaaaGreatW
open PrintWords PrintLast PrintMore
set_option linter.unusedVariables false
set_option linter.unusedSimpArgs false

/-- A call. -/
structure TAct where
 kind : Int
 key : BA
 val : BA
instance : Inhabited TAct := ⟨⟨0, ByteArray.empty, ByteArray.empty⟩⟩
structure TActCells (w : World) (b off : Nat) (A : TAct) : Prop where
 c0 : w.cell? ⟨b, off, none⟩ = some (.int .i64 A.kind)
 c1 : w.cell? ⟨b, off + 1, none⟩ = some (.string A.key)
 c2 : w.cell? ⟨b, off + 2, none⟩ = some (.string A.val)
def TActsAt (w : World) (v : Value) (l : List TAct) : Prop :=
 ∃ a c, v = .slice a l.length c ∧ l.length ≤ 9223372036854775807 ∧ ∀ i (hi : i < l.length), ∃ b off, a = some ⟨b, off, none⟩ ∧ TActCells w b (off + i * 3) l[i]
theorem bel_cells {w w' : World} (h : Below w.heap.size w w') : ∀ p x, w.cell? p = some x → w'.cell? p = some x := by
 intro p x hx
 rw [World.cell?_of_block (w := w) (h.block p.block (World.block_lt_of_cell? w _ hx))]
 exact hx
theorem TActCells.below {w w' : World} {b off : Nat} {A : TAct} (h : TActCells w b off A) (k : Below w.heap.size w w') : TActCells w' b off A :=
 ⟨bel_cells k _ _ h.c0, bel_cells k _ _ h.c1, bel_cells k _ _ h.c2⟩
theorem TActsAt.below {w w' : World} {v : Value} {l : List TAct} (h : TActsAt w v l) (k : Below w.heap.size w w') : TActsAt w' v l := by
 obtain ⟨a, c, hv, hl, hc⟩ := h
 exact ⟨a, c, hv, hl, fun i hi => by obtain ⟨b, off, ha, h⟩ := hc i hi; exact ⟨b, off, ha, h.below k⟩⟩

variable {H : Type} {enc : TypeId × Value → H} {w : World}
theorem law_Cut (s : BA) (n : Nat) (w : World) : Calls Tryz.prog 25 #[.string s, .int .i64 (n : Int)] w fun e w' => e = .returned (.string (cutB s n)) ∧ Below w.heap.size w w' :=
 (PNd.dowserlaw01_Cut.calls s n (cutB s n) w (cut_f1 s n)).mono fun _ _ ⟨he, hd⟩ => ⟨he, hd.below⟩
/-- The key and the value as most laws take them. -/
def TAct.k (A : TAct) : BA := (⟨#[107]⟩ : BA) ++ cutB (cutB A.key 18) 15
def TAct.v (A : TAct) : BA := cutB (cutB A.val 34) 32
end Go.Proofs.YtendgmblgdkiaaaGreat

namespace Go.Proofs.YtendgmblgdkiaaaGreat
open Go.RowKit
open Go.Proofs.YtendgmblgdkiaaaGreatW
open PrintWords PrintLast PrintMore
set_option linter.unusedVariables false
set_option linter.unusedSimpArgs false

theorem hd_num : ∀ (d x i : Nat) (r : List UInt8), x < 128 ^ d → 1 ≤ d → i + d ≤ 10 → x * 128 ^ i < 18446744073709551616 → (0 < i → x ≠ 0) → hd i (vNumL x ++ r) = some (x, (vNumL x).length)
 | 0, _, _, _, _, h, _, _, _ => by omega
 | d + 1, x, i, r, hx, _, hi, hb, h0 => by
  by_cases h : x < 128
  ·have hc : (UInt8.ofNat x).toNat = x := by rw [UInt8.toNat_ofNat']; exact Nat.mod_eq_of_lt om_
   have hbad : ¬ ((i = 9 ∧ 1 < x) ∨ (0 < i ∧ x = 0)) := by
    rintro (⟨rfl, h1⟩ | ⟨h1, h2⟩)
    ·have e9 : (128 : Nat) ^ 9 = 9223372036854775808 := by decide
     omega
    ·exact h0 h1 h2
   rw [vNumL_small h]
   show hd i (UInt8.ofNat x :: r) = _
   unfold hd
   rw [hc, if_neg hbad, if_pos h]
   rfl
  ·have hc : (UInt8.ofNat (x % 128 + 128)).toNat = x % 128 + 128 := by rw [UInt8.toNat_ofNat']; exact Nat.mod_eq_of_lt om_
   have hd1 : 1 ≤ d := by
    rcases Nat.eq_zero_or_pos d with rfl | h
    ·simp at hx; omega
    ·exact h
   have hx2 : x / 128 < 128 ^ d := by rw [Nat.pow_succ] at hx; omega
   have hb2 : x / 128 * 128 ^ (i + 1) < 18446744073709551616 := by
    have h1 : x / 128 * 128 ≤ x := Nat.div_mul_le_self x 128
    have h2 : x / 128 * 128 * 128 ^ i ≤ x * 128 ^ i := Nat.mul_le_mul_right _ h1
    rw [Nat.pow_succ, Nat.mul_comm (128 ^ i) 128, ← Nat.mul_assoc]
    omega
   rw [vNumL_big h]
   show hd i (UInt8.ofNat (x % 128 + 128) :: (vNumL (x / 128) ++ r)) = _
   unfold hd
   rw [hc, if_neg (by omega), if_neg (by omega), hd_num d (x / 128) (i + 1) r hx2 hd1 (by omega) hb2 (by omega)]
   simp only [Option.map_some, List.length_cons, Option.some.injEq, Prod.mk.injEq, and_true]
   omega
theorem max2_mx (k k' : IntKind) (x y : Int) : Builtin.max2 (.int k x) (.int k' y) = pure (.int k (mx x y)) := max2_int k k' x y
theorem min2_mn (k k' : IntKind) (x y : Int) : Builtin.min2 (.int k x) (.int k' y) = pure (.int k (mn x y)) := min2_int k k' x y
theorem clamp (x : Int) (m : Nat) : ∃ p : Nat, p ≤ m ∧ mx 0 (mn x m) = p := by
 refine ⟨(mx 0 (mn x m)).toNat, ?_, ?_⟩ <;> unfold mx mn <;> split <;> split <;> omega
attribute [local go_sem] max2_mx min2_mn max_two min_two
end Go.Proofs.YtendgmblgdkiaaaGreat

namespace Go.Proofs.YtendgmblgdkiaaaGreat
open Go.RowKit
open Go.Proofs.YtendgmblgdkiaaaGreatW
open PrintWords PrintLast PrintMore
set_option linter.unusedVariables false
set_option linter.unusedSimpArgs false

/-- What the rounds of walk give: f rounds are left, n is the next page, acc what was gathered. -/
def blobW (P : List Pg) : Nat → Int → BA → BA × Int
 | 0, n, _ => if (blobP P n).2.2 ≠ 0 then (⟨#[]⟩, (blobP P n).2.2) else (⟨#[]⟩, 8)
 | f + 1, n, acc => if (blobP P n).2.2 ≠ 0 then (⟨#[]⟩, (blobP P n).2.2) else if (blobP P n).2.1 < 0 then (acc ++ (blobP P n).1, 0) else blobW P f (blobP P n).2.1 (acc ++ (blobP P n).1)
/-- A page of a text whose pages begin at base: the j-th that was written. -/
def blobPg (base j : Nat) (part : BA) : Pg := (3, vNum (if j = 0 then 0 else base + j) ++ part)
theorem blobP_at {P : List Pg} {base j : Nat} {part : BA} (hp : P[base + j]? = some (blobPg base j part)) (hb : base + j ≤ 100000) :
  blobP P ((base + j : Nat) : Int) = (part, (if j = 0 then -1 else ((base + j - 1 : Nat) : Int)), 0) := by
 obtain ⟨x, hx⟩ : ∃ x, x = if j = 0 then 0 else base + j := ⟨_, rfl⟩
 have hxl : x ≤ base + j := by rw [hx]; split <;> omega
 have hs : pgSay P ((base + j : Nat) : Int) = (3, vNum x ++ part, 0) := by
  unfold pgSay
  rw [if_neg (by omega), Int.toNat_natCast, hp, hx]
  rfl
 have h2 : (128 : Nat) ^ 10 = 1180591620717411303424 := by decide
 have hh : hd 0 (vNum x ++ part).data.toList = some (x, (vNumL x).length) := by
  rw [bytes_app, vNum_list]
  exact hd_num 10 x 0 _ om_ om_ om_ om_ om_
 unfold blobP
 rw [hs]
 simp only [hh, ne_eq, not_true_eq_false, if_false]
 rw [if_pos ⟨by omega, trivial⟩, ← vNum_size, cut_app_r]
 congr 2
 rw [hx]
 split <;> omega
/-- The parts' bytes, the last written ahead. -/
def catP (parts : Nat → BA) : Nat → BA
 | 0 => parts 0
 | j + 1 => parts (j + 1) ++ catP parts j
theorem blobW_chain (P : List Pg) (base : Nat) (parts : Nat → BA) : ∀ (j f : Nat) (acc : BA), j < f → base + j ≤ 100000 → (∀ i, i ≤ j → P[base + i]? = some (blobPg base i (parts i))) →
  blobW P f ((base + j : Nat) : Int) acc = (acc ++ catP parts j, 0)
 | j, 0, _, h, _, _ => by omega
 | 0, f + 1, acc, _, hb, hp => by
  have h := blobP_at (hp 0 om_) hb
  unfold blobW
  rw [h]
  rfl
 | j + 1, f + 1, acc, hf, hb, hp => by
  have h := blobP_at (hp (j + 1) om_) hb
  unfold blobW
  rw [h]
  simp only [ne_eq, not_true_eq_false, if_false, Nat.add_one_ne_zero]
  rw [if_neg (by omega), show base + (j + 1) - 1 = base + j from by omega, blobW_chain P base parts j f (acc ++ parts (j + 1)) (by omega) (by omega) (fun i hi => hp i (by omega))]
  unfold catP
  rw [ByteArray.append_assoc]
  cases j <;> rfl
end Go.Proofs.YtendgmblgdkiaaaGreat

namespace Go.Proofs.YtendgmblgdkiaaaGreat
open Go.RowKit
open Go.Proofs.YtendgmblgdkiaaaGreatW
open PrintWords PrintLast PrintMore
set_option linter.unusedVariables false
set_option linter.unusedSimpArgs false

/-- The first k pages of a text. -/
def pgsB (base : Nat) (parts : Nat → BA) (k : Nat) : List Pg := (List.range k).map fun j => blobPg base j (parts j)
theorem pgsB_succ (base : Nat) (parts : Nat → BA) (k : Nat) : pgsB base parts (k + 1) = pgsB base parts k ++ [blobPg base k (parts k)] := by
 unfold pgsB
 rw [List.range_succ, List.map_append]
 rfl
theorem pgsB_len (base : Nat) (parts : Nat → BA) (k : Nat) : (pgsB base parts k).length = k := by simp [pgsB]
theorem pgsB_at (base : Nat) (parts : Nat → BA) {k i : Nat} (h : i < k) : (pgsB base parts k)[i]? = some (blobPg base i (parts i)) := by
 simp [pgsB, h]
/-- The part that is written as the j-th: from the end. -/
def partB (s : BA) (c j : Nat) : BA := s.extract ((c - 1 - j) * 235) (min ((c - 1 - j + 1) * 235) s.size)
theorem partB_size (s : BA) (c j : Nat) : (partB s c j).size ≤ 235 := by
 unfold partB
 rw [ByteArray.size_extract]
 omega
theorem cost_le (n : Nat) : (costN n - 1) * 235 ≤ n ∧ n ≤ costN n * 235 ∧ 1 ≤ costN n := by
 unfold costN
 omega
/-- The parts are the text. -/
theorem catP_from (s : BA) (c : Nat) (hc : 1 ≤ c) (h1 : (c - 1) * 235 ≤ s.size) (h2 : s.size ≤ c * 235) : ∀ j, j < c → catP (partB s c) j = s.extract ((c - 1 - j) * 235) s.size
 | 0, _ => by
  unfold catP partB
  congr 1
  rw [Nat.sub_zero]
  rw [show c - 1 + 1 = c from by omega]
  omega
 | j + 1, hj => by
  have ih := catP_from s c hc h1 h2 j om_
  unfold catP
  rw [ih]
  have e : c - 1 - j = c - 1 - (j + 1) + 1 := by omega
  unfold partB
  have hle : (c - 1 - (j + 1) + 1) * 235 ≤ s.size := by
   have : (c - 1 - (j + 1) + 1) * 235 ≤ (c - 1) * 235 := Nat.mul_le_mul_right _ om_
   omega
  rw [Nat.min_eq_left hle, e]
  apply bytes_ext
  rw [bytes_app, cut_list, cut_list, ByteArray.data_extract, Array.toList_extract, List.extract_eq_take_drop]
  have hl : s.data.toList.length = s.size := rfl
  rw [show (c - 1 - (j + 1) + 1) * 235 - (c - 1 - (j + 1)) * 235 = 235 from by omega]
  have : s.data.toList.drop ((c - 1 - (j + 1) + 1) * 235) = (s.data.toList.drop ((c - 1 - (j + 1)) * 235)).drop 235 := by
   rw [List.drop_drop]
   congr 1
   omega
  rw [this, List.take_append_drop]
theorem catP_all (s : BA) : catP (partB s (costN s.size)) (costN s.size - 1) = s := by
 obtain ⟨h1, h2, h3⟩ := cost_le s.size
 rw [catP_from s (costN s.size) h3 h1 h2 _ (by omega)]
 rw [Nat.sub_self, Nat.zero_mul]
 exact ByteArray.extract_zero_size
/-- What k pages leave. -/
structure WrB (w : World) (b : Nat) (L : Loc) (h : Nat) (D : Dk) (P : List Pg) (s : BA) (c k : Nat) (D1 : Dk) (wr : World) : Prop where
 st : St wr L b h D1 (P ++ pgsB P.length (partB s c) k)
 live : D1.Live
 app : AppOk h D P D1 (P ++ pgsB P.length (partB s c) k)
 keep : Keep (fun k => L.foot k ∨ k = b) w wr
attribute [local go_sem] min2_mn min_two
set_option maxHeartbeats 1000000 in
set_option maxRecDepth 100000 in
theorem blob_Write (w : World) (b : Nat) (L : Loc) (h : Nat) (D : Dk) (P : List Pg) (S : St w L b h D P) (lv : D.Live) (s : BA) (hs : s.size ≤ 65536) (c : Nat) (hc : c = costN s.size) (hr : P.length + c ≤ D.room) :
  Calls Tryz.prog 123 #[.pointer (some ⟨b, 0, none⟩), .string s] w fun e w' => e = .returned (.tuple #[.int .i64 ((P.length + c - 1 : Nat) : Int), .int .i64 0]) ∧ ∃ D1, ValM c w w' b L h D P D1 (P ++ pgsB P.length (partB s c) c) := by
 have hrl := room_le S.d.ok
 obtain ⟨k1, k2, k3⟩ := cost_le s.size
 rw [← hc] at k1 k2 k3
 have CC := hi_ (fun W => blob_Cost s.size om_ W)
 rw [← hc] at CC
 have hs1 : ¬ (65536 : Int) < (s.size : Int) := by omega
 have CF := pages_Free w b L D h P.length S.p S.d om_
 obtain ⟨fr, hfr⟩ : ∃ fr : Int, fr = ((D.room - P.length : Nat) : Int) := ⟨_, rfl⟩
 rw [← hfr] at CF
 have hfc : ¬ fr < (c : Int) := by omega
 have CF := hi_ CF
 have HS := hi_ S
 have HL := hi_ lv
 have HC := hi_ (show 1 ≤ c ∧ c ≤ 300 ∧ (c - 1) * 235 ≤ s.size ∧ s.size ≤ c * 235 ∧ s.size ≤ 65536 ∧ P.length + c ≤ D.room ∧ D.room ≤ 32767 by omega)
 have hw1 : IntKind.i64.wrap ((c : Int) - 1) = (c : Int) - 1 := by rw [IntKind.wrap_i64]; omega
 clear S lv hs hc hr hrl k1 k2 k3 hfr
 go_enter Tryz.func123, Tryz.ntmps123
 go_wp2_with fail
 refine (CC.out w).mono ?_
 rintro e w1 ⟨rfl, rfl⟩
 clear CC
 go_wp2_with fail
 refine CF.out.mono ?_
 rintro e w1 ⟨rfl, m, rfl⟩
 clear CF
 have I0 : Hid (WrB w b L h D P s c 0 D (w.drewN m)) := hi_ ⟨by simpa [pgsB] using HS.out.below (below_drewN (Below.refl _ _) m), HL.out, by simpa [pgsB] using AppOk.refl HS.out.room HS.out.holds, (Keep.refl _ _).drewN m⟩
 go_wp2_with fail
 go_loopw [8, 7] (fun i nx wr => ∃ (k x : Nat) (D1 : Dk), k ≤ c ∧ x = (if k = 0 then 0 else P.length + k) ∧ i = .int .i64 ((c : Int) - 1 - (k : Int)) ∧ nx = .int .i64 ((x : Int) - 1) ∧ Hid (WrB w b L h D P s c k D1 wr)) (fun i _ _ => (intOf i + 1).toNat)
 case atStart => exact ⟨0, 0, D, by omega, rfl, by simp, by simp, I0⟩
 case round =>
  obtain ⟨k, x, D1, hk, hx, rfl, rfl, IV⟩ := hrel
  clear I0
  by_cases hlt : k < c
  ·obtain ⟨q, hq⟩ : ∃ q, q = c - 1 - k := ⟨_, rfl⟩
   have hqi : (c : Int) - 1 - (k : Int) = (q : Int) := by omega
   rw [hqi]
   have hxl : x ≤ 40000 := by have := HC.out; rw [hx]; split <;> omega
   have HX := hi_ hx
   have HQ := hi_ (show q + k + 1 = c by omega)
   have hq3 : q ≤ 300 := by have := HC.out; omega
   have hq1 : q * 235 ≤ s.size := by
    have := HC.out
    have h1 : q * 235 ≤ (c - 1) * 235 := Nat.mul_le_mul_right _ om_
    omega
   have hmn : mn (((q : Int) + 1) * 235) (s.size : Int) = ((min ((q + 1) * 235) s.size : Nat) : Int) := by unfold mn; split <;> omega
   have hm1 : q * 235 ≤ min ((q + 1) * 235) s.size := by omega
   have hm2 : min ((q + 1) * 235) s.size ≤ s.size := by omega
   obtain ⟨mm, hmm⟩ : ∃ mm, mm = min ((q + 1) * 235) s.size := ⟨_, rfl⟩
   rw [← hmm] at hmn hm1 hm2
   have HMM := hi_ hmm
   have e0 : (0 : Int) ≤ (q : Int) := by omega
   have e1 : IntKind.i64.wrap ((q : Int) * 235) = ((q * 235 : Nat) : Int) := by rw [IntKind.wrap_i64]; omega
   have e2 : IntKind.i64.wrap ((q : Int) + 1) = (q : Int) + 1 := by rw [IntKind.wrap_i64]; omega
   have e3 : IntKind.i64.wrap (((q : Int) + 1) * 235) = ((q : Int) + 1) * 235 := by rw [IntKind.wrap_i64]; omega
   have e4 : IntKind.i64.wrap ((x : Int) - 1 + 1) = (x : Int) := by rw [IntKind.wrap_i64]; omega
   have e5 : IntKind.u64.wrap (x : Int) = (x : Int) := by rw [IntKind.wrap_u64]; omega
   clear hlt hk hx hq hqi hmm
   go_wp2_with fail
   refine (var_Num x om_ wr).mono ?_
   rintro e w3 ⟨rfl, hb⟩
   have S3 := hi_ (IV.out.st.below hb)
   have K3 := hi_ (IV.out.keep.andThen (Keep.below (F := fun k => L.foot k ∨ k = b) hb) (fun _ _ hf => hf))
   clear hb
   have hz1 := vNum_le (x := x) om_
   have hpe : s.extract (q * 235) mm = partB s c k := by
    have h1 : c - 1 - k = q := by have := HQ.out; omega
    unfold partB
    rw [h1, HMM.out]
   have hpz := partB_size s c k
   rw [hpe]
   obtain ⟨pt, hpt⟩ : ∃ pt, pt = partB s c k := ⟨_, rfl⟩
   rw [← hpt] at hpz ⊢
   have HPT := hi_ hpt
   clear hpe hpt
   have hlen : (P ++ pgsB P.length (partB s c) k).length = P.length + k := by rw [List.length_append, pgsB_len]
   have hvz : (vNum x).size ≤ 3 := by
    rw [vNum_size]
    exact (vNumL_len 3 x om_ om_).2
   have hpg : ((3 : Int), vNum x ++ pt) = blobPg P.length k (partB s c k) := by rw [HPT.out, HX.out]; rfl
   have CA := pages_Append w3 b L D1 h _ 3 (vNum x ++ pt) S3.out.p S3.out.d S3.out.hh S3.out.room
   have hdr : D1.room = D.room := IV.out.app.wr.room
   rcases append_step S3.out.d.ok IV.out.live.1 S3.out.hh S3.out.room S3.out.holds 3 (vNum x ++ pt) om_ om_ (by rw [ByteArray.size_append]; omega) with ⟨hr, D2, ea, hup, ha⟩ | ⟨hr, -⟩ | ⟨D2, -, -, hlv, -⟩
   rotate_left
   ·have := HC.out; have := HQ.out; omega
   ·exact absurd IV.out.live hlv
   rw [ea] at CA
   have CA := hi_ CA
   have hpp : (P ++ pgsB P.length (partB s c) k) ++ [(3, vNum x ++ pt)] = P ++ pgsB P.length (partB s c) (k + 1) := by rw [pgsB_succ, hpg, List.append_assoc]
   rw [hpp] at ha
   have HA := hi_ ha
   have HU := hi_ hup
   have HLN := hi_ hlen
   have HPP := hi_ hpp
   clear ha hup hr ea hpg hpp hlen hdr
   go_wp2_with fail
   refine CA.out.mono ?_
   rintro e w4 ⟨rfl, hd, hp, hkp⟩
   have hl4 : (P ++ pgsB P.length (partB s c) (k + 1)).length = (P ++ pgsB P.length (partB s c) k).length + 1 := by rw [← HPP.out, List.length_append]; rfl
   have S4 := hi_ (show St w4 L b h D2 (P ++ pgsB P.length (partB s c) (k + 1)) from ⟨hd, by rw [hl4]; exact hp, S3.out.hh, HA.out.room, HA.out.holds⟩)
   have K4 := hi_ (K3.out.andThen hkp (fun _ _ hf => hf))
   clear hd hp hkp hl4 CA
   rw [HLN.out]
   go_wp2_with fail
   have hfin : (intOf (Value.int IntKind.i64 ((q : Int) - 1)) + 1).toNat < (intOf (Value.int IntKind.i64 (q : Int)) + 1).toNat := by simp only [intOf]; omega
   exact ⟨⟨k + 1, P.length + (k + 1), D2, by have := HQ.out; omega, by rw [if_neg (Nat.succ_ne_zero k)], by congr 1; have := HQ.out; omega, by congr 1; omega, hi_ ⟨S4.out, HA.out.wr.live IV.out.live, IV.out.app.trans HA.out, K4.out⟩⟩, hfin⟩
  ·have hkc : k = c := by omega
   subst hkc
   have hk0 : ¬ k = 0 := by have := HC.out; omega
   rw [if_neg hk0] at hx
   have hi : (k : Int) - 1 - (k : Int) = -1 := by omega
   have hx1 : (x : Int) - 1 = ((P.length + k - 1 : Nat) : Int) := by omega
   rw [hi, hx1]
   clear hlt hk hx hi hx1 hw1
   go_wp2_with fail
   go_ret2
   exact ⟨rfl, D1, ⟨IV.out.st, IV.out.live, IV.out.app, by rw [List.length_append, pgsB_len], IV.out.keep⟩⟩
end Go.Proofs.YtendgmblgdkiaaaGreat

namespace Go.Proofs.YtendgmblgdkiaaaGreat
open Go.RowKit
open Go.Proofs.YtendgmblgdkiaaaGreatW
open PrintWords (own_typed)
set_option linter.unusedVariables false
set_option linter.unusedSimpArgs false

/-- Blocks other than b that are no rows of bytes stay. -/
def Stays (b : Nat) (w w' : World) : Prop := w.heap.size ≤ w'.heap.size ∧ ∀ k o, w.heap[k]? = some o → k ≠ b → (∀ cs fz, o ≠ .cells cs 5 fz) → w'.heap[k]? = some o
theorem Stays.trans {b : Nat} {w w' w'' : World} (h : Stays b w w') (h' : Stays b w' w'') : Stays b w w'' := ⟨Nat.le_trans h.1 h'.1, fun k o hk hb ht => h'.2 k o (h.2 k o hk hb ht) hb ht⟩
theorem Stays.setCell (b : Nat) (w : World) (i : Nat) (v : Value) : Stays b w (w.setCell ⟨b, i, none⟩ v) :=
 ⟨by simp [World.setCell], fun k o hk hb _ => (Below.heap_setCell w ⟨b, i, none⟩ v k hb).trans hk⟩
theorem bld_check2 (B b : Nat) (bs : List Value) (w : World) (h : Lib.IsBuilder 233 5 B b bs w) :
  Calls Tryz.prog 204 #[.pointer (some ⟨b, 0, none⟩)] w fun e w' => e = .returned (.tuple #[]) ∧ (Lib.BuilderAt 233 5 B b (.pointer (some ⟨b, 0, none⟩)) bs w' ∧ Below B w w' ∧ Stays b w w') := by
 rcases h with h | h
 ·refine (bld_check_fresh b w h.cell0 h.shape h.frozen0).mono ?_
  rintro e w' ⟨rfl, rfl⟩
  exact ⟨rfl, h.used _, (Below.refl B w).setCell (p := ⟨b, 0, none⟩) h.1 _, Stays.setCell b w 0 _⟩
 ·refine (bld_check_used b w h.cell0).mono ?_
  rintro e w' ⟨rfl, rfl⟩
  exact ⟨rfl, h, Below.refl B _, Nat.le_refl _, fun k o hk _ _ => hk⟩
set_option maxHeartbeats 2000000 in
set_option maxRecDepth 100000 in
theorem bld_WriteString2 (B b : Nat) (bs : List Value) (s : ByteArray) (w : World) (h : Lib.IsBuilder 233 5 B b bs w) (hlen : bs.length + s.size ≤ 140737488355328) (hBw : B ≤ w.heap.size) :
  Calls Tryz.prog 172 #[.pointer (some ⟨b, 0, none⟩), .string s] w fun e w' => e = .returned (.tuple #[.int .i64 s.size, .nilIface]) ∧ (Lib.BuilderAt 233 5 B b (.pointer (some ⟨b, 0, none⟩)) (bs ++ Lib.strCells s) w' ∧ Below B w w' ∧ Stays b w w') := by
 obtain ⟨i0, hi, hz0, hz1, hz2⟩ := info_parts bld_byte
 go_enter Tryz.func172, Tryz.ntmps172
 go_wp2_with (go_at_call 204; refine (bld_check2 B b bs _ h).mono ?_)
 rintro e w1 ⟨rfl, h1, hb1, hst1⟩
 obtain ⟨hB, v, hbk, hown, hne⟩ := h1
 have c0 : w1.cell? ⟨b, 0, none⟩ = some (.pointer (some ⟨b, 0, none⟩)) := by rw [Lib.cell_of_heap hbk]; rfl
 have c1 : w1.cell? ⟨b, 1, none⟩ = some v := by rw [Lib.cell_of_heap hbk]; rfl
 go_wp2_with (at_builtin; refine Lib.wpList_append_own_string _ rfl _ _ 55 9 rfl B 5 i0 Tryz.underlying55 Tryz.underlying9 hi hz0 hz1 hz2 _ _ _ rfl hown s rfl ?c3 ?c4 ?c5 ?_)
 case c3 => unfold maxLen; omega
 case c4 => omega
 case c5 => have := hb1.size; omega
 intro v' w2 hown' hgrow _
 have hlt : b < w1.heap.size := by
  rcases Nat.lt_or_ge b w1.heap.size with h' | h'
  ·exact h'
  ·simp [Array.getElem?_eq_none h'] at hbk
 have hb2 : w2.heap[b]? = some (.cells #[.pointer (some ⟨b, 0, none⟩), v] 233 (0, 0)) := by
  rw [hgrow.block b hlt (fun e => hne e.symm)]
  exact hbk
 have hst2 : Stays b w1 w2 := ⟨hgrow.size, fun k o hk hkb ht => by
  have hk1 : k < w1.heap.size := by
   rcases Nat.lt_or_ge k w1.heap.size with h' | h'
   ·exact h'
   ·simp [Array.getElem?_eq_none h'] at hk
  rw [hgrow.block k hk1 (fun e => by
   obtain ⟨cells, hc⟩ := own_typed hown k e.symm
   rw [hk] at hc
   exact ht _ _ (Option.some.inj hc))]
  exact hk⟩
 have d0 : w2.cell? ⟨b, 0, none⟩ = some (.pointer (some ⟨b, 0, none⟩)) := by rw [Lib.cell_of_heap hb2]; rfl
 have d1 : w2.cell? ⟨b, 1, none⟩ = some v := by rw [Lib.cell_of_heap hb2]; rfl
 have f1 : w2.frozen? ⟨b, 1, none⟩ = false := Lib.frozen_of_heap hb2 1
 obtain ⟨ao, n', cap, rfl⟩ : ∃ ao n' cap, v' = .slice ao n' cap := by
  rcases hown'.2 with ⟨hv, _⟩ | ⟨g, cap, cur, hv, _⟩
  ·exact ⟨_, _, _, hv⟩
  ·exact ⟨_, _, _, hv⟩
 have HST := hi_ (hst1.trans hst2)
 go_wp2
 go_ret2
 refine ⟨rfl, ?_, ?_, HST.out.trans (Stays.setCell b w2 1 _)⟩
 ·exact Lib.BuilderAt.put (T := 233) (e := 5) hB hb2 (bs' := bs ++ Lib.strCells s) (by simpa [Lib.strCells_length] using hown') (by decide)
 ·exact (hb1.grown hgrow (by have := hb1.size; omega) (fun k hk => (hown.lt k hk).1)).setCell (p := ⟨b, 1, none⟩) hB _
end Go.Proofs.YtendgmblgdkiaaaGreat

namespace Go.Proofs.YtendgmblgdkiaaaGreat
open Go.RowKit
open Go.Proofs.YtendgmblgdkiaaaGreatW
open PrintWords PrintLast PrintMore
set_option linter.unusedVariables false
set_option linter.unusedSimpArgs false

theorem infoB8 : (Tryz.prog.info? 5).map (fun i => (i.zero, i.size, i.bytes)) = some (some (.int .u8 0), 1, 1) := by kernel_rfl
/-- While Long runs: a row of m bytes. -/
structure LongAt (w : World) (m : Nat) (wr : World) : Prop where
 row : ∃ xs : List Int, xs.length = m ∧ wr.heap[w.heap.size]? = some (.cells (xs.map (Value.int .u8)).toArray 5 (0, 0))
 bel : Below w.heap.size w wr
theorem LongAt.set {w wr : World} {m : Nat} (H : LongAt w m wr) (i : Nat) (v : Int) : LongAt w m (wr.setCell ⟨w.heap.size, i, none⟩ (.int .u8 v)) := by
 obtain ⟨xs, hl, hx⟩ := H.row
 refine ⟨⟨xs.set i v, by simpa using hl, blk_put hx i _ ?_⟩, below_set H.bel (Nat.le_refl _)⟩
 rw [List.setIfInBounds_toArray, List.map_set]
theorem LongAt.frz {w wr : World} {m : Nat} (H : LongAt w m wr) (i : Nat) : wr.frozen? ⟨w.heap.size, i, none⟩ = false := by
 obtain ⟨xs, hl, hx⟩ := H.row
 exact blk_frozen hx i
theorem LongAt.cell {w wr : World} {m : Nat} (H : LongAt w m wr) {i : Nat} (hi : i < m) : ∃ v, wr.cell? ⟨w.heap.size, i, none⟩ = some (.int .u8 v) := by
 obtain ⟨xs, hl, hx⟩ := H.row
 rw [blk_cell hx i]
 exact ⟨xs[i]'om_, by simp [List.getElem?_eq_getElem (show i < xs.length by omega)]⟩
attribute [local go_sem] max2_mx min2_mn max_two min_two
set_option maxHeartbeats 1000000 in
set_option maxRecDepth 100000 in
theorem law_Long (s : BA) (n : Int) (w : World) (hs : s.size ≤ 1000000) :
  Calls Tryz.prog 49 #[.string s, .int .i64 n] w fun e w' => ∃ x : BA, e = .returned (.string x) ∧ (x.size : Int) = mx 0 (mn n 131072) ∧ Below w.heap.size w w' := by
 obtain ⟨m, hm, hme⟩ := clamp n 131072
 rw [show ((131072 : Nat) : Int) = 131072 from rfl] at hme
 have HME := hi_ hme
 have hmk : ∀ W : World, (Instr.makeSlice 55 (.int .i64 (m : Int)) (.int .i64 (m : Int))).run Tryz.prog W = .ok (.slice (some ⟨W.heap.size, 0, none⟩) m m) (W.alloc (.cells (madeCells #[.int .u8 0] m) 5)) := fun W =>
  run_make_row' 55 5 (.int .u8 0) 1 Tryz.underlying55 infoB8 rfl .i64 .i64 m om_ om_ W
 have H0 : Hid (LongAt w m (w.alloc (.cells (madeCells #[.int .u8 0] m) 5))) := hi_ ⟨⟨List.replicate m 0, by simp, by
  rw [heap_alloc_self w _, show madeCells #[Value.int .u8 0] m = (List.replicate m (Value.int .u8 0)).toArray from by rw [← toList_madeCells_one], List.map_replicate]⟩, below_alloc (Below.refl _ _) _⟩
 go_enter Tryz.func49, Tryz.ntmps49
 go_wp2_with fail
 clear hme hmk
 generalize w.alloc (.cells (madeCells #[.int .u8 0] m) 5) = w1 at *
 go_loopw [14] (fun c wr => ∃ k : Nat, c = .int .i64 k ∧ k ≤ m ∧ Hid (LongAt w m wr)) (fun c _ => m - (intOf c).toNat)
 case atStart => exact ⟨0, rfl, by omega, H0⟩
 case round =>
  clear H0
  obtain ⟨k, rfl, hk, HK⟩ := hrel
  by_cases hlt : k < m
  ·obtain ⟨v0, c0⟩ := HK.out.cell hlt
   have f0 := HK.out.frz k
   by_cases hs1 : k < s.size
   ·go_wp2_with fail
    exact ⟨⟨k + 1, by congr 1, by omega, hi_ ((HK.out.set k _).set k _)⟩, by simp only [intOf]; omega⟩
   ·go_wp2_with fail
    exact ⟨⟨k + 1, by congr 1, by omega, hi_ (HK.out.set k _)⟩, by simp only [intOf]; omega⟩
  ·have hkm : k = m := by omega
   subst hkm
   obtain ⟨xs, hxl, hxr⟩ := HK.out.row
   have hcv : (convert 55 9 (.slice (some ⟨w.heap.size, 0, none⟩) k k)).run Tryz.prog wr = .ok (.string (strOfNums xs)) wr := by
    refine run_convert_bytes_arg (P := Tryz.prog) _ 55 5 Tryz.underlying55 Tryz.underlying5 w.heap.size 0 k k xs hxl ?_ 9 Tryz.underlying9
    intro i hi
    rw [cell_of_heap hxr]
    have hi' : i < xs.length := by omega
    simp [hi']
   clear hxr
   go_wp2_with fail
   go_ret
   exact ⟨_, rfl, by rw [HME.out, strOfNums_size, hxl], HK.out.bel⟩
end Go.Proofs.YtendgmblgdkiaaaGreat

namespace Go.Proofs.YtendgmblgdkiaaaGreat
open Go.RowKit
open Go.Proofs.YtendgmblgdkiaaaGreatW
open PrintWords PrintLast PrintMore
set_option linter.unusedVariables false
set_option linter.unusedSimpArgs false

/-- The first n bytes changed by a number's bytes. -/
def tw (n b : Nat) (l : List UInt8) : List UInt8 := l.mapIdx fun i c => if i < n then c ^^^ UInt8.ofNat (b / 2 ^ (8 * i)) else c
theorem tw_len (n b : Nat) (l : List UInt8) : (tw n b l).length = l.length := by simp [tw]
theorem tw_zero (b : Nat) (l : List UInt8) : tw 0 b l = l := by
 apply List.ext_getElem (by simp [tw])
 intro i h1 h2
 simp [tw]
theorem tw_succ {n b : Nat} {l : List UInt8} (h : n < l.length) : (tw n b l).set n (l[n] ^^^ UInt8.ofNat (b / 2 ^ (8 * n))) = tw (n + 1) b l := by
 apply List.ext_getElem (by simp [tw])
 intro i h1 h2
 rw [List.getElem_set]
 by_cases hi : n = i
 ·subst hi
  simp [tw]
 ·rw [if_neg hi]
  simp only [tw, List.getElem_mapIdx]
  by_cases h3 : i < n
  ·rw [if_pos h3, if_pos (by omega)]
  ·rw [if_neg h3, if_neg (by omega)]
/-- While Twin runs: a row of bytes. -/
structure TwAt (w : World) (l : List UInt8) (rest : List Value) (kf : Nat) (wr : World) : Prop where
 row : wr.heap[w.heap.size]? = some (.cells (byteVals l ++ rest).toArray 5 (kf, kf + 1))
 lt : l.length ≤ kf
 bel : Below w.heap.size w wr
theorem to_bytes2 (W : World) (s : ByteArray) : ∃ W' cap rest k, (convert 9 55 (.string s)).run Tryz.prog W = .ok (.slice (some ⟨W.heap.size, 0, none⟩) s.size cap) W' ∧ Below W.heap.size W W' ∧
  W'.heap[W.heap.size]? = some (.cells (byteVals s.data.toList ++ rest).toArray 5 (k, k + 1)) ∧ s.size ≤ k ∧ s.size ≤ cap := by
 refine ⟨_, _, List.replicate (grownCap W s.size 0 5 - s.size) (.int .u8 0), (Lib.bytesCells W 5 s).size, Lib.run_convert_string_bytes W 9 55 5 s Tryz.underlying9 Tryz.underlying55 Tryz.underlying5, ?_, ?_, ?_, ?_⟩
 ·refine ⟨rfl, rfl, rfl, by rw [Lib.bytesWorld_size]; omega, fun k hk => Lib.bytesWorld_at_old W 5 s k hk⟩
 ·rw [Lib.bytesWorld_at_new]
  congr 2
  simp [Lib.bytesCells, byteVals, List.append_toArray]
 ·simp [Lib.bytesCells]
 ·exact grownCap_ge W s.size 0 5
namespace TwAt
variable {w wr wx : World} {l : List UInt8} {rest : List Value} {kf : Nat}
theorem below (H : TwAt w l rest kf wr) (hb : Below wr.heap.size wr wx) : TwAt w l rest kf wx := ⟨blk_below H.row hb, H.lt, below_then H.bel H.bel.size hb⟩
theorem cell (H : TwAt w l rest kf wr) {i : Nat} (hi : i < l.length) : wr.cell? ⟨w.heap.size, i, none⟩ = some (.int .u8 ((l[i]).toNat : Int)) := by
 rw [cell_of_heap H.row i]
 show ((byteVals l ++ rest).toArray)[i]? = _
 rw [List.getElem?_toArray, List.getElem?_append_left (by simpa [byteVals] using hi)]
 simp [byteVals, hi]
theorem frz (H : TwAt w l rest kf wr) {i : Nat} (hi : i < l.length) : wr.frozen? ⟨w.heap.size, i, none⟩ = false := by
 have := H.lt
 simp only [World.frozen?, H.row]
 simp
 omega
theorem set (H : TwAt w l rest kf wr) {i : Nat} (hi : i < l.length) (m : UInt8) : TwAt w (l.set i m) rest kf (wr.setCell ⟨w.heap.size, i, none⟩ (.int .u8 (m.toNat : Int))) := by
 refine ⟨?_, by simpa using H.lt, below_set H.bel (Nat.le_refl _)⟩
 rw [heap_setCell_same H.row]
 congr 2
 rw [List.setIfInBounds_toArray, List.set_append_left _ _ (by simpa [byteVals] using hi)]
 simp [byteVals, List.map_set]
theorem conv (H : TwAt w l rest kf wr) {m : Nat} (hm : m ≤ l.length) (cap : Nat) : (convert 55 9 (.slice (some ⟨w.heap.size, 0, none⟩) m cap)).run Tryz.prog wr = .ok (.string ⟨(l.take m).toArray⟩) wr := by
 have h := run_convert_bytes_arg (P := Tryz.prog) wr 55 5 Tryz.underlying55 Tryz.underlying5 w.heap.size 0 m cap ((l.take m).map fun x => (x.toNat : Int)) (by simp; omega) (fun i hi => by
  rw [Nat.zero_add, H.cell (show i < l.length by omega)]
  simp [show i < l.length by omega, hi]) 9 Tryz.underlying9
 have e : strOfNums ((l.take m).map fun x => (x.toNat : Int)) = ⟨(l.take m).toArray⟩ := by
  unfold strOfNums
  rw [List.map_map]
  have hf : ((fun n : Int => UInt8.ofNat n.toNat) ∘ fun x : UInt8 => (x.toNat : Int)) = id := by
   funext x
   simp
  rw [hf, List.map_id]
 rw [e] at h
 exact h
end TwAt
theorem TwAt.drew {w wr : World} {l : List UInt8} {rest : List Value} {kf : Nat} (H : TwAt w l rest kf wr) : TwAt w l rest kf wr.drew := ⟨H.row, H.lt, below_drew H.bel⟩
theorem TwAt.drewN {w wr : World} {l : List UInt8} {rest : List Value} {kf : Nat} (H : TwAt w l rest kf wr) (n : Nat) : TwAt w l rest kf (wr.drewN n) := ⟨H.row, H.lt, pw_below_drewN H.bel n⟩
theorem u8_bits_xor (a c : UInt8) : bits .xor .u8 (a.toNat : Int) (c.toNat : Int) = ((a ^^^ c).toNat : Int) := by
 have e : ∀ x : UInt8, BitVec.ofInt (IntKind.u8.bits) (x.toNat : Int) = x.toBitVec := by
  intro x
  rw [BitVec.ofInt_natCast]
  show BitVec.ofNat 8 x.toBitVec.toNat = _
  simp
 simp only [bits]
 rw [e, e]
 show IntKind.u8.wrap (((a ^^^ c).toBitVec.toNat : Nat) : Int) = _
 rw [IntKind.wrap_u8]
 have := (a ^^^ c).toNat_lt
 show ((a ^^^ c).toNat : Int) % 256 = _
 omega
theorem tw_xor (c : UInt8) (b k : Nat) : bits .xor .u8 (c.toNat : Int) (IntKind.u8.wrap ((b : Int) / 2 ^ (8 * (k : Int)).toNat)) = ((c ^^^ UInt8.ofNat (b / 2 ^ (8 * k))).toNat : Int) := by
 have h2 : IntKind.u8.wrap ((b : Int) / 2 ^ (8 * (k : Int)).toNat) = ((UInt8.ofNat (b / 2 ^ (8 * k))).toNat : Int) := by
  rw [IntKind.wrap_u8, UInt8.toNat_ofNat', show (8 * (k : Int)).toNat = 8 * k from by omega]
  have h : ((b : Int) / 2 ^ (8 * k)) = ((b / 2 ^ (8 * k) : Nat) : Int) := by simp
  rw [h]
  omega
 rw [h2, u8_bits_xor]
/-- A sum a bit back. -/
def back1 (v : BitVec 32) : BitVec 32 := if v.getLsbD 0 then ((v ^^^ 0x04C11DB7#32) >>> 1) ||| 0x80000000#32 else v >>> 1
def backs : Nat → BitVec 32 → BitVec 32
 | 0, v => v
 | n + 1, v => back1 (backs n v)
theorem bits_u32_e (x : BitVec 32) : BitVec.ofNat (IntKind.u32.bits) x.toNat = x := (BitVec.ofNat_toNat _ _).trans (by simp [IntKind.bits])
theorem bits_or_u32 (v u : BitVec 32) : bits .or .u32 v.toNat u.toNat = (v ||| u).toNat := by
 simp only [bits, BitVec.ofInt_natCast]
 rw [bits_u32_e, bits_u32_e]
 exact wrap_u32_nat _ (BitVec.isLt _)
theorem bits_and_one (v : BitVec 32) : bits .and .u32 v.toNat 1 = if v.getLsbD 0 then 1 else 0 := by
 have h : bits .and .u32 v.toNat ((1#32).toNat : Nat) = (v &&& 1#32).toNat := by
  simp only [bits, BitVec.ofInt_natCast]
  rw [bits_u32_e, bits_u32_e]
  exact wrap_u32_nat _ (BitVec.isLt _)
 have h2 : (((1#32).toNat : Nat) : Int) = 1 := by decide
 rw [h2] at h
 rw [h, BitVec.toNat_and]
 have h3 : (1#32).toNat = 2 ^ 1 - 1 := by decide
 rw [h3, Nat.and_two_pow_sub_one_eq_mod]
 have h4 : v.getLsbD 0 = decide (v.toNat % 2 = 1) := by
  show v.toNat.testBit 0 = _
  rw [Nat.testBit_zero]
 rw [h4, show (2 : Nat) ^ 1 = 2 from rfl]
 rcases Nat.mod_two_eq_zero_or_one v.toNat with h5 | h5 <;> rw [h5] <;> decide
theorem shr1_u32 (v : BitVec 32) : ((v.toNat : Int) / (2 : Int)) = ((v >>> 1).toNat : Int) := by
 rw [BitVec.toNat_ushiftRight, Nat.shiftRight_eq_div_pow, show (2 : Nat) ^ 1 = 2 from rfl]
 omega
/-- Another text of the same length and sum. -/
def twinB (s : BA) (b : Nat) : BA := if s.size < 8 ∨ b = 0 then s else
 (⟨((tw 4 b s.data.toList).take (s.size - 4)).toArray⟩ : BA) ++ four (((backs 32 (crcOf s.data.toList)) ^^^ crcOn 0xFFFFFFFF#32 ((tw 4 b s.data.toList).take (s.size - 4))).toNat : Int)
set_option maxHeartbeats 1000000 in
set_option maxRecDepth 100000 in
theorem law_Twin0 (s : BA) (by_ : Nat) (w : World) (h : s.size < 8 ∨ by_ = 0) :
  Calls Tryz.prog 50 #[.string s, .int .u32 (by_ : Int)] w fun e w' => e = .returned (.string s) ∧ Below w.heap.size w w' := by
 by_cases h8 : s.size < 8
 ·have h8' : (s.size : Int) < 8 := by omega
  clear h
  go_enter Tryz.func50, Tryz.ntmps50
  go_wp2_with fail
  go_ret
  exact ⟨rfl, Below.refl _ _⟩
 ·have h8' : ¬ (s.size : Int) < 8 := by omega
  have hb : (by_ : Int) = 0 := by omega
  rw [hb]
  clear h
  go_enter Tryz.func50, Tryz.ntmps50
  go_wp2_with fail
  go_ret
  exact ⟨rfl, Below.refl _ _⟩
set_option maxHeartbeats 1000000 in
set_option maxRecDepth 100000 in
theorem law_Twin1 (s : BA) (by_ : Nat) (w : World) (hs : 8 ≤ s.size ∧ s.size ≤ 1000000) (hby : 0 < by_ ∧ by_ < 4294967296) :
  Calls Tryz.prog 50 #[.string s, .int .u32 (by_ : Int)] w fun e w' => e = .returned (.string (twinB s by_)) ∧ Below w.heap.size w w' := by
 have h8 : ¬ (s.size : Int) < 8 := by omega
 have hb0 : ¬ (by_ : Int) = 0 := by omega
 have HS := hi_ hs
 have HT : Hid (twinB s by_ = (⟨((tw 4 by_ s.data.toList).take (s.size - 4)).toArray⟩ : BA) ++ four (((backs 32 (crcOf s.data.toList)) ^^^ crcOn 0xFFFFFFFF#32 ((tw 4 by_ s.data.toList).take (s.size - 4))).toNat : Int)) := hi_ (if_neg om_)
 obtain ⟨W7, cap, rest, kf, hcv, hb7, hrow, hkf, hcap0⟩ := to_bytes2 w s
 have HCAP := hi_ hcap0
 clear hcap0
 have hsl : s.data.toList.length = s.size := rfl
 have T0 : Hid (TwAt w (tw 0 by_ s.data.toList) rest kf W7) := hi_ ⟨by rw [tw_zero]; exact hrow, by rw [tw_zero]; omega, hb7⟩
 clear hrow hb7 hkf hsl
 go_enter Tryz.func50, Tryz.ntmps50
 go_wp2_with fail
 clear hcv h8
 go_loopw [21] (fun c wr => ∃ k : Nat, c = .int .i64 k ∧ k ≤ 4 ∧ Hid (TwAt w (tw k by_ s.data.toList) rest kf wr)) (fun c _ => 4 - (intOf c).toNat)
 case atStart => exact ⟨0, rfl, by omega, T0⟩
 case round =>
  clear T0
  obtain ⟨k, rfl, hk, HK⟩ := hrel
  by_cases hlt : k < 4
  ·have hlen : k < (tw k by_ s.data.toList).length := by rw [tw_len]; have := HS.out; show k < s.size; omega
   have c0 := HK.out.cell hlen
   have f0 := HK.out.frz hlen
   have hks : (k : Int) < (s.size : Int) := by have := HS.out; omega
   have HN := hi_ (show TwAt w (tw (k + 1) by_ s.data.toList) rest kf (wr.setCell ⟨w.heap.size, k, none⟩ (.int .u8 ((((tw k by_ s.data.toList)[k]) ^^^ UInt8.ofNat (by_ / 2 ^ (8 * k))).toNat : Int))) by
    have h1 := HK.out.set hlen (((tw k by_ s.data.toList)[k]) ^^^ UInt8.ofNat (by_ / 2 ^ (8 * k)))
    have h2 : (tw k by_ s.data.toList).set k (((tw k by_ s.data.toList)[k]) ^^^ UInt8.ofNat (by_ / 2 ^ (8 * k))) = tw (k + 1) by_ s.data.toList := by
     have hl : k < s.data.toList.length := by rw [tw_len] at hlen; exact hlen
     have e : (tw k by_ s.data.toList)[k] = s.data.toList[k] := by simp [tw]
     rw [e]
     exact tw_succ hl
    rw [h2] at h1
    exact h1)
   obtain ⟨c, hc⟩ : ∃ c, c = (tw k by_ s.data.toList)[k] := ⟨_, rfl⟩
   rw [← hc] at c0 HN
   clear hc hlen
   have e8 : IntKind.i64.wrap (8 * (k : Int)) = ((8 * k : Nat) : Int) := by rw [IntKind.wrap_i64]; omega
   have e9 : (0 : Int) ≤ ((8 * k : Nat) : Int) := by omega
   have e10 : ¬ ((8 * k : Nat) : Int) < 0 := by omega
   have e11 := tw_xor c by_ k
   have E11 := hi_ e11
   clear e11
   go_wp2_with fail
   go_region_with fail
   rw [E11.out]
   have T1 := hi_ HN.out.drew
   clear HN HK c0 f0
   go_wp2_with fail
   exact ⟨⟨k + 1, by congr 1, by omega, T1⟩, by simp only [intOf]; omega⟩
  ·have hkm : k = 4 := by omega
   subst hkm
   have C1 := hi_ (fun W => ref02_Of s W (by have := HS.out; unfold maxLen; omega))
   have hm : s.size - 4 ≤ (tw 4 by_ s.data.toList).length := by rw [tw_len]; show s.size - 4 ≤ s.size; omega
   obtain ⟨m, hme⟩ : ∃ m, m = s.size - 4 := ⟨_, rfl⟩
   rw [← hme] at hm HT
   have hcv := HK.out.conv hm cap
   have e1 : (s.size : Int) - 4 = (m : Int) := by have := HS.out; omega
   have e2 : IntKind.i64.wrap ((s.size : Int) - 4) = (m : Int) := by rw [IntKind.wrap_i64]; have := HS.out; omega
   obtain ⟨ct, hct⟩ : ∃ ct : BA, ct = ⟨((tw 4 by_ s.data.toList).take m).toArray⟩ := ⟨_, rfl⟩
   have hctl : ct.data.toList = (tw 4 by_ s.data.toList).take m := by rw [hct]
   have HCT := hi_ hct.symm
   rw [← hct] at hcv HT
   rw [← hctl] at HT
   have hcz : ct.size = m := by
    have h1 := congrArg List.length hctl
    rw [List.length_take] at h1
    have h2 : ct.data.toList.length = ct.size := rfl
    omega
   have HM := hi_ hm
   have C2 := hi_ (fun W => ref02_On 0xFFFFFFFF#32 ct W (by rw [hcz]; have := HS.out; unfold maxLen; omega))
   have HCZ := hi_ hcz
   have hcap : m ≤ cap := by have := HCAP.out; omega
   have HK4 := HK
   clear hm hme hct hctl hcz HK
   go_wp2_with fail
   refine (C1.out wr).mono ?_
   rintro e w1 ⟨rfl, rfl⟩
   go_wp2_with fail
   refine (C2.out wr).mono ?_
   rintro e w1 ⟨rfl, rfl⟩
   obtain ⟨v0, hv0⟩ : ∃ v0, v0 = crcOf s.data.toList := ⟨_, rfl⟩
   obtain ⟨u0, hu0⟩ : ∃ u0, u0 = crcOn (4294967295#32) ct.data.toList := ⟨_, rfl⟩
   rw [← hv0, ← hu0] at HT ⊢
   clear hv0 hu0 hcv
   go_wp2_with fail
   go_loopw [46, 9] (fun c x wx => ∃ k : Nat, c = .int .i64 k ∧ k ≤ 32 ∧ x = .int .u32 ((backs k v0).toNat : Int) ∧ wx = wr) (fun c _ _ => 32 - (intOf c).toNat)
   case atStart => exact ⟨0, rfl, by omega, rfl, rfl⟩
   case round =>
    obtain ⟨k, rfl, hk, rfl, rfl⟩ := hrel
    by_cases hlt : k < 32
    ·obtain ⟨u, hu⟩ : ∃ u, u = backs k v0 := ⟨_, rfl⟩
     have hsb : backs (k + 1) v0 = back1 u := by rw [hu]; rfl
     rw [← hu]
     have HSB := hi_ hsb
     clear hu hsb
     cases hm : u.getLsbD 0 with
     | true =>
      have h2 : bits .and .u32 u.toNat 1 = 1 := by rw [bits_and_one, hm]; rfl
      obtain ⟨u1, hu1⟩ : ∃ u1, u1 = u ^^^ 0x04C11DB7#32 := ⟨_, rfl⟩
      obtain ⟨u2, hu2⟩ : ∃ u2, u2 = u1 >>> 1 := ⟨_, rfl⟩
      have h3 : bits .xor .u32 u.toNat 79764919 = u1.toNat := by rw [hu1]; exact bits_xor_u32 u 0x04C11DB7#32
      have h4 : ((u1.toNat : Int) / (2 : Int)) = (u2.toNat : Int) := by rw [hu2]; exact shr1_u32 u1
      have h5 : bits .or .u32 u2.toNat 2147483648 = (back1 u).toNat := by
       rw [back1, hm, if_pos rfl, ← hu1, ← hu2]
       exact bits_or_u32 _ 0x80000000#32
      clear hm hu1 hu2
      go_wp2_with fail
      exact ⟨⟨k + 1, by congr 1, by omega, by rw [HSB.out], trivial⟩, by simp only [intOf]; omega⟩
     | false =>
      have h2 : bits .and .u32 u.toNat 1 = 0 := by rw [bits_and_one, hm]; rfl
      have h4 : ((u.toNat : Int) / (2 : Int)) = ((back1 u).toNat : Int) := by rw [shr1_u32, back1, hm]; rfl
      clear hm
      go_wp2_with fail
      exact ⟨⟨k + 1, by congr 1, by omega, by rw [HSB.out], trivial⟩, by simp only [intOf]; omega⟩
    ·have hk32 : k = 32 := by omega
     subst hk32
     have hx : bits .xor .u32 (backs 32 v0).toNat u0.toNat = ((backs 32 v0) ^^^ u0).toNat := bits_xor_u32 _ _
     have C3 := hi_ (fun W => ref02_Four (((backs 32 v0) ^^^ u0).toNat : Int) W om_ (u32_lt _))
     have hcv := HK4.out.conv HM.out cap
     have hctw := HCT.out
     rw [hctw] at hcv
     have hcat : ¬ 9223372036854775807 < ct.size + 4 := by rw [HCZ.out]; have := HS.out; have := HM.out; rw [tw_len] at this; have e : s.data.toList.length = s.size := rfl; omega
     have z1 : (four (((backs 32 v0) ^^^ u0).toNat : Int)).size = 4 := four_size _
     have z2 : ct.size ≤ 1000000 := by rw [HCZ.out]; have := HS.out; have := HM.out; rw [tw_len] at this; have e : s.data.toList.length = s.size := rfl; omega
     clear hctw
     go_wp2_with fail
     obtain ⟨xw, hxw⟩ : ∃ xw : Int, xw = (((backs 32 v0) ^^^ u0).toNat : Int) := ⟨_, rfl⟩
     rw [← hxw] at hx C3 z1 HT
     clear hxw
     have hw64 : wrap64 (m : Int) = (m : Int) := by have := HCZ.out; unfold wrap64; omega
     have hcapi : (m : Int) ≤ (cap : Int) := by omega
     have hm0 : (0 : Int) ≤ (m : Int) := by omega
     go_upto_region 21 with fail
     have K5 := HK4
     clear HK4
     -- the region
     refine start_ (n := 12) (S := fun w' => True) (ds := []) (bz 12 0) kr_ rfl rfl ((fun _ => trivial) K5) (fun hHeld => ?_)
     replace K5 := hi_ K5.out.drew
     generalize wr.drew = w6 at *
     refine pure_ (i := 0) (N := some 60) (v := ?_) (a' := ?_) (bz 12 1) rfl rfl kr_ (fun _ _ _ h => h) (Or.inl ⟨by rfl, ?_⟩) ?_ ?_
     rotate_left
     ·intro w'
      go_simp
      with_reducible rfl
     rotate_left
     ·simp only [Act.put, List.setIfInBounds_toArray, List.set_cons_zero, List.set_cons_succ, i64_w, i32_w]
      rfl
     refine pure_ (i := 1) (N := some 61) (v := ?_) (a' := ?_) (bz 12 3) rfl rfl kr_ (fun _ _ _ h => h) (Or.inl ⟨by rfl, ?_⟩) ?_ ?_
     rotate_left
     ·intro w'
      go_simp
      with_reducible rfl
     rotate_left
     ·simp only [Act.put, List.setIfInBounds_toArray, List.set_cons_zero, List.set_cons_succ, i64_w, i32_w]
      rfl
     refine pure_ (i := 2) (N := some 62) (v := ?_) (a' := ?_) (bz 12 7) rfl rfl kr_ (fun _ _ _ h => h) (Or.inl ⟨by rfl, ?_⟩) ?_ ?_
     rotate_left
     ·intro w'
      go_simp
      with_reducible rfl
     rotate_left
     ·simp only [Act.put, List.setIfInBounds_toArray, List.set_cons_zero, List.set_cons_succ, i64_w, i32_w]
      rfl
     refine pure_ (i := 3) (N := some 63) (v := ?_) (a' := ?_) (bz 12 15) rfl rfl kr_ (fun _ _ _ h => h) (Or.inl ⟨by rfl, ?_⟩) ?_ ?_
     rotate_left
     ·intro w'
      go_simp
      with_reducible rfl
     rotate_left
     ·simp only [Act.put, List.setIfInBounds_toArray, List.set_cons_zero, List.set_cons_succ, i64_w, i32_w]
      rfl
     refine pure_ (i := 4) (N := some 64) (v := ?_) (a' := ?_) (bz 12 31) rfl rfl kr_ (fun _ _ _ h => h) (Or.inl ⟨by rfl, ?_⟩) ?_ ?_
     rotate_left
     ·intro w'
      go_simp
      with_reducible rfl
     rotate_left
     ·simp only [Act.put, List.setIfInBounds_toArray, List.set_cons_zero, List.set_cons_succ, i64_w, i32_w]
      rfl
     refine pure_ (i := 6) (N := some 66) (v := ?_) (a' := ?_) (bz 12 95) rfl rfl kr_ (fun _ _ _ h => h) (Or.inl ⟨by rfl, ?_⟩) ?_ ?_
     rotate_left
     ·intro w'
      go_simp
      with_reducible rfl
     rotate_left
     ·simp only [Act.put, List.setIfInBounds_toArray, List.set_cons_zero, List.set_cons_succ, i64_w, i32_w]
      rfl
     refine pure_ (i := 7) (N := some 67) (v := ?_) (a' := ?_) (bz 12 223) rfl rfl kr_ (fun _ _ _ h => h) (Or.inl ⟨by rfl, ?_⟩) ?_ ?_
     rotate_left
     ·intro w'
      go_simp
      with_reducible rfl
     rotate_left
     ·simp only [Act.put, List.setIfInBounds_toArray, List.set_cons_zero, List.set_cons_succ, i64_w, i32_w]
      rfl
     refine pure_ (i := 8) (N := some 68) (v := ?_) (a' := ?_) (bz 12 479) rfl rfl kr_ (fun _ _ _ h => h) (Or.inl ⟨by rfl, ?_⟩) ?_ ?_
     rotate_left
     ·intro w'
      go_simp
      with_reducible rfl
     rotate_left
     ·simp only [Act.put, List.setIfInBounds_toArray, List.set_cons_zero, List.set_cons_succ, i64_w, i32_w]
      rfl
     refine join_ (σ := Unit) 2 (bz 12 1023) (fun s_ => [(65, .string ct), (69, .string (four xw))]) (fun s_ w' => TwAt w (tw 4 by_ s.data.toList) rest kf w') ?_ (fun hCont => ?_)
     rotate_left
     ·skip
      refine two_ (i := 5) (j := 9) (Ni := some 65) (Nj := some 69) (bz 12 511) (bz 12 991) rfl rfl rfl rfl kr_ (by decide) (by decide) (fun K hK => ?_) (fun K hK => ?_)
      ·skip
       have hcv_ := (HCT.out ▸ K5.out.conv HM.out cap)
       refine value_ (w1 := ?_) (v := ?_) (by rfl) rfl ?_ ?_
       rotate_left 2
       ·go_simp
        constructor
        ·rfl
        ·rfl
       clear hcv_
       refine hK.out _ _ ((fun _ => trivial) K5) (fun hHeld => ?_)
       clear hK K
       refine norm_ (a' := ?_) ?_ ?_
       rotate_left
       ·show Act.put _ (some 65) _ = _
        simp only [Act.put, List.setIfInBounds_toArray, List.set_cons_zero, List.set_cons_succ, i64_w, i32_w]
        rfl
       refine one_ (i := 9) (N := some 69) (bz 12 1023) rfl rfl kr_ (by decide) (fun K hK => ?_)
       refine goes_ Tryz.func57 kr_ rfl #[.int .u32 xw] (by rfl) rfl rfl (by (try simp only [List.map_toArray, List.map_cons, List.map_nil]); first | done | rfl) ?_
       with_reducible refine (C3.out _).mono ?_
       rintro e x_2 ⟨rfl, hb⟩
       refine ⟨_, rfl, ?_⟩
       have n0_ := hi_ (K5.out.below hb)
       clear K5 hb
       have K5 := n0_
       clear n0_
       refine hK.out _ _ ((fun _ => trivial) K5) (fun hHeld => ?_)
       clear hK K
       refine norm_ (a' := ?_) ?_ ?_
       rotate_left
       ·show Act.put _ (some 69) _ = _
        simp only [Act.put, List.setIfInBounds_toArray, List.set_cons_zero, List.set_cons_succ, i64_w, i32_w]
        rfl
       exact norm_ (by simp only [putAll, Act.put, List.setIfInBounds_toArray, List.set_cons_zero, List.set_cons_succ]) (hCont () _ K5.out)
      ·skip
       refine goes_ Tryz.func57 kr_ rfl #[.int .u32 xw] (by rfl) rfl rfl (by (try simp only [List.map_toArray, List.map_cons, List.map_nil]); first | done | rfl) ?_
       with_reducible refine (C3.out _).mono ?_
       rintro e x_3 ⟨rfl, hb⟩
       refine ⟨_, rfl, ?_⟩
       have n0_ := hi_ (K5.out.below hb)
       clear K5 hb
       have K5 := n0_
       clear n0_
       refine hK.out _ _ ((fun _ => trivial) K5) (fun hHeld => ?_)
       clear hK K
       refine norm_ (a' := ?_) ?_ ?_
       rotate_left
       ·show Act.put _ (some 69) _ = _
        simp only [Act.put, List.setIfInBounds_toArray, List.set_cons_zero, List.set_cons_succ, i64_w, i32_w]
        rfl
       refine one_ (i := 5) (N := some 65) (bz 12 1023) rfl rfl kr_ (by decide) (fun K hK => ?_)
       have hcv_ := (HCT.out ▸ K5.out.conv HM.out cap)
       refine value_ (w1 := ?_) (v := ?_) (by rfl) rfl ?_ ?_
       rotate_left 2
       ·go_simp
        constructor
        ·rfl
        ·rfl
       clear hcv_
       refine hK.out _ _ ((fun _ => trivial) K5) (fun hHeld => ?_)
       clear hK K
       refine norm_ (a' := ?_) ?_ ?_
       rotate_left
       ·show Act.put _ (some 65) _ = _
        simp only [Act.put, List.setIfInBounds_toArray, List.set_cons_zero, List.set_cons_succ, i64_w, i32_w]
        rfl
       exact norm_ (by simp only [putAll, Act.put, List.setIfInBounds_toArray, List.set_cons_zero, List.set_cons_succ]) (hCont () _ K5.out)
     rintro x42 W K6
     replace K6 := hi_ K6
     clear K5
     refine norm_ (a' := ?_) ?_ ?_
     rotate_left
     ·simp only [putAll, Act.put, List.setIfInBounds_toArray, List.set_cons_zero, List.set_cons_succ]
      rfl
     refine pure_ (i := 10) (N := some 70) (v := ?_) (a' := ?_) (bz 12 2047) rfl rfl kr_ (fun _ _ _ h => h) (Or.inl ⟨by rfl, ?_⟩) ?_ ?_
     rotate_left
     ·intro w'
      go_simp
      with_reducible rfl
     rotate_left
     ·simp only [Act.put, List.setIfInBounds_toArray, List.set_cons_zero, List.set_cons_succ, i64_w, i32_w]
      rfl
     refine pure_ (i := 11) (N := some 4) (v := ?_) (a' := ?_) (bz 12 4095) rfl rfl kr_ (fun _ _ _ h => h) (Or.inl ⟨by rfl, ?_⟩) ?_ ?_
     rotate_left
     ·intro w'
      go_simp
      with_reducible rfl
     rotate_left
     ·simp only [Act.put, List.setIfInBounds_toArray, List.set_cons_zero, List.set_cons_succ, i64_w, i32_w]
      rfl
     refine done_ kr_ ?_
     -- behind the region
     clear C3
     go_wp2_with fail
     go_ret
     exact ⟨by rw [HT.out]; rfl, K6.out.bel⟩
end Go.Proofs.YtendgmblgdkiaaaGreat

namespace Go.Proofs.YtendgmblgdkiaaaGreat
open Go.RowKit
open Go.Proofs.YtendgmblgdkiaaaGreatW
open PrintWords PrintLast PrintMore
set_option linter.unusedVariables false
set_option linter.unusedSimpArgs false

theorem step_back (v : BitVec 32) : crcStep (back1 v) = v := by
 unfold back1
 cases h : v.getLsbD 0 with
 | true =>
  rw [if_pos rfl]
  have hm : (((v ^^^ 0x04C11DB7#32) >>> 1) ||| 0x80000000#32).msb = true := by
   rw [BitVec.msb_or]
   have : (0x80000000#32).msb = true := by decide
   rw [this, Bool.or_true]
  unfold crcStep
  rw [hm, if_pos rfl]
  have h2 : ((((v ^^^ 0x04C11DB7#32) >>> 1) ||| 0x80000000#32) <<< 1) = v ^^^ 0x04C11DB7#32 := by
   apply BitVec.eq_of_getLsbD_eq
   intro i hi
   rw [BitVec.getLsbD_shiftLeft]
   by_cases h0 : i = 0
   ·subst h0
    have hp : (0x04C11DB7#32).getLsbD 0 = true := by decide
    rw [BitVec.getLsbD_xor, h, hp]
    simp
   ·have e : 1 + (i - 1) = i := by omega
    have h80 : (0x80000000#32).getLsbD (i - 1) = false := by
     have : 0x80000000#32 = BitVec.twoPow 32 31 := by decide
     rw [this, BitVec.getLsbD_twoPow]
     simp
     omega
    rw [BitVec.getLsbD_or, h80, BitVec.getLsbD_ushiftRight, e]
    have : ¬ i < 1 := by omega
    simp [hi, this]
  rw [h2, BitVec.xor_assoc, BitVec.xor_self, BitVec.xor_zero]
 | false =>
  rw [if_neg (by simp)]
  have hm : (v >>> 1).msb = false := by
   rw [BitVec.msb_eq_getLsbD_last, BitVec.getLsbD_ushiftRight]
   simp
  unfold crcStep
  rw [hm, if_neg (by simp)]
  apply BitVec.eq_of_getLsbD_eq
  intro i hi
  rw [BitVec.getLsbD_shiftLeft, BitVec.getLsbD_ushiftRight]
  by_cases h0 : i = 0
  ·subst h0
   rw [h]
   rfl
  ·have e : 1 + (i - 1) = i := by omega
   have : ¬ i < 1 := by omega
   rw [e]
   simp [hi, this]
theorem steps_comm (v : BitVec 32) : ∀ n, crcSteps (n + 1) v = crcSteps n (crcStep v)
 | 0 => rfl
 | n + 1 => by
  show crcStep (crcSteps (n + 1) v) = crcStep (crcSteps n (crcStep v))
  rw [steps_comm v n]
theorem steps_backs (v : BitVec 32) : ∀ n, crcSteps n (backs n v) = v
 | 0 => rfl
 | n + 1 => by
  rw [steps_comm]
  show crcSteps n (crcStep (back1 (backs n v))) = v
  rw [step_back, steps_backs v n]
theorem step_lin (v u : BitVec 32) : crcStep (v ^^^ u) = crcStep v ^^^ crcStep u := by
 have hs : ∀ x y : BitVec 32, (x ^^^ y) <<< 1 = x <<< 1 ^^^ y <<< 1 := fun x y => BitVec.shiftLeft_xor_distrib ..
 unfold crcStep
 rw [BitVec.msb_xor, hs]
 cases v.msb <;> cases u.msb <;> simp [BitVec.xor_assoc, BitVec.xor_comm, xor_lc]
theorem steps_lin (v u : BitVec 32) : ∀ n, crcSteps n (v ^^^ u) = crcSteps n v ^^^ crcSteps n u
 | 0 => rfl
 | n + 1 => by
  show crcStep (crcSteps n (v ^^^ u)) = _
  rw [steps_lin v u n, step_lin]
  rfl
theorem steps_low (u : BitVec 32) (hu : u.toNat < 16777216) : ∀ n, n ≤ 8 → crcSteps n u = u <<< n
 | 0, _ => by simp [crcSteps]
 | n + 1, h => by
  show crcStep (crcSteps n u) = _
  rw [steps_low u hu n (by omega)]
  have hm : (u <<< n).msb = false := by
   rw [BitVec.msb_eq_getLsbD_last, BitVec.getLsbD_shiftLeft]
   have h2 : u.getLsbD (31 - n) = false := by
    show u.toNat.testBit (31 - n) = false
    exact Nat.testBit_lt_two_pow (Nat.lt_of_lt_of_le hu (show 2 ^ 24 ≤ 2 ^ (31 - n) from Nat.pow_le_pow_right om_ om_))
   simp [h2]
  unfold crcStep
  rw [hm, if_neg (by simp), ← BitVec.shiftLeft_add]
theorem steps_add (v : BitVec 32) (a : Nat) : ∀ b, crcSteps (a + b) v = crcSteps b (crcSteps a v)
 | 0 => rfl
 | b + 1 => by
  show crcStep (crcSteps (a + b) v) = crcStep (crcSteps b (crcSteps a v))
  rw [steps_add v a b]
/-- A byte as a word. -/
def bw (n : Nat) : BitVec 32 := (UInt8.ofNat n).toBitVec.zeroExtend 32
theorem bw_bit (n i : Nat) : (bw n).getLsbD i = (decide (i < 8) && n.testBit i) := by
 unfold bw
 rw [BitVec.getLsbD_setWidth]
 have h : (UInt8.ofNat n).toBitVec = BitVec.ofNat 8 n := rfl
 rw [h, BitVec.getLsbD_ofNat]
 by_cases h8 : i < 8
 ·simp [h8]
  omega
 ·simp [h8]
theorem word_bytes (y : BitVec 32) : y = (bw (y.toNat / 16777216) <<< 24) ^^^ ((bw (y.toNat / 65536) <<< 16) ^^^ ((bw (y.toNat / 256) <<< 8) ^^^ bw y.toNat)) := by
 have hd : ∀ (k i : Nat), (y.toNat / 2 ^ k).testBit i = y.toNat.testBit (k + i) := fun k i => by rw [Nat.testBit_div_two_pow]; congr 1; omega
 apply BitVec.eq_of_getLsbD_eq
 intro i hi
 have e24 : (16777216 : Nat) = 2 ^ 24 := rfl
 have e16 : (65536 : Nat) = 2 ^ 16 := rfl
 have e8 : (256 : Nat) = 2 ^ 8 := rfl
 have hy : y.getLsbD i = y.toNat.testBit i := rfl
 rw [BitVec.getLsbD_xor, BitVec.getLsbD_xor, BitVec.getLsbD_xor, BitVec.getLsbD_shiftLeft, BitVec.getLsbD_shiftLeft, BitVec.getLsbD_shiftLeft, bw_bit, bw_bit, bw_bit, bw_bit, e24, e16, e8, hd, hd, hd, hy]
 rcases (by omega : i < 8 ∨ (8 ≤ i ∧ i < 16) ∨ (16 ≤ i ∧ i < 24) ∨ (24 ≤ i ∧ i < 32)) with h | ⟨h1, h2⟩ | ⟨h1, h2⟩ | ⟨h1, h2⟩
 ·have a1 : i < 16 := by omega
  have a2 : i < 24 := by omega
  simp [h, a1, a2]
 ·have a0 : ¬ i < 8 := by omega
  have a2 : i < 24 := by omega
  have a3 : i - 8 < 8 := by omega
  have a4 : 8 + (i - 8) = i := by omega
  simp [a0, h2, a2, a3, a4, hi]
 ·have a0 : ¬ i < 8 := by omega
  have a1 : ¬ i < 16 := by omega
  have a3 : i - 16 < 8 := by omega
  have a4 : 16 + (i - 16) = i := by omega
  have a5 : ¬ i - 8 < 8 := by omega
  simp [a0, a1, h2, a3, a4, a5, hi]
 ·have a0 : ¬ i < 8 := by omega
  have a1 : ¬ i < 16 := by omega
  have a2 : ¬ i < 24 := by omega
  have a3 : i - 24 < 8 := by omega
  have a4 : 24 + (i - 24) = i := by omega
  have a5 : ¬ i - 8 < 8 := by omega
  have a6 : ¬ i - 16 < 8 := by omega
  simp [a0, a1, a2, a3, a4, a5, a6, hi]
theorem bw_lt (n : Nat) : (bw n).toNat < 256 := by
 unfold bw
 rw [BitVec.toNat_setWidth]
 have := (UInt8.ofNat n).toBitVec.isLt
 omega
theorem crcByte_bw (v : BitVec 32) (n : Nat) : crcByte v (UInt8.ofNat n) = crcSteps 8 (v ^^^ (bw n <<< 24)) := rfl
theorem xor_lt24 {a b : BitVec 32} (ha : a.toNat < 16777216) (hb : b.toNat < 16777216) : (a ^^^ b).toNat < 16777216 := by
 rw [BitVec.toNat_xor]
 exact Nat.xor_lt_two_pow (n := 24) ha hb
theorem bw_shl (n k : Nat) (hk : k ≤ 16) : (bw n <<< k).toNat < 16777216 := by
 rw [BitVec.toNat_shiftLeft, Nat.shiftLeft_eq]
 have h1 := bw_lt n
 have h2 : (bw n).toNat * 2 ^ k ≤ 255 * 2 ^ 16 := Nat.mul_le_mul om_ (Nat.pow_le_pow_right om_ hk)
 have h3 := Nat.mod_le ((bw n).toNat * 2 ^ k) (2 ^ 32)
 omega
theorem four_bytes (y : BitVec 32) : (four (y.toNat : Int)).data.toList = [UInt8.ofNat (y.toNat / 16777216), UInt8.ofNat (y.toNat / 65536), UInt8.ofNat (y.toNat / 256), UInt8.ofNat y.toNat] := by
 have f : ∀ (x : Int) (n : Nat), x.toNat = n % 256 → UInt8.ofNat x.toNat = UInt8.ofNat n := fun x n h => by
  rw [h]
  apply UInt8.toNat_inj.1
  rw [UInt8.toNat_ofNat', UInt8.toNat_ofNat']
  omega
 simp only [four, strOfNums_data, List.map_cons, List.map_nil]
 rw [f _ (y.toNat / 16777216) (by omega), f _ (y.toNat / 65536) (by omega), f _ (y.toNat / 256) (by omega), f _ y.toNat (by omega)]
theorem crc_four (u y : BitVec 32) : crcOn u (four (y.toNat : Int)).data.toList = crcSteps 32 (u ^^^ y) := by
 rw [four_bytes]
 show crcByte (crcByte (crcByte (crcByte u _) _) _) _ = _
 rw [crcByte_bw, crcByte_bw, crcByte_bw, crcByte_bw]
 have h := word_bytes y
 obtain ⟨a, ha⟩ : ∃ a, a = y.toNat / 16777216 := ⟨_, rfl⟩
 obtain ⟨b, hb⟩ : ∃ b, b = y.toNat / 65536 := ⟨_, rfl⟩
 obtain ⟨c, hc⟩ : ∃ c, c = y.toNat / 256 := ⟨_, rfl⟩
 obtain ⟨d, hd⟩ : ∃ d, d = y.toNat := ⟨_, rfl⟩
 rw [← ha, ← hb, ← hc, ← hd] at h
 rw [← ha, ← hb, ← hc, ← hd]
 clear ha hb hc hd
 rw [h]
 have hs : ∀ (k : Nat) (x z : BitVec 32), (x ^^^ z) <<< k = x <<< k ^^^ z <<< k := fun k x z => BitVec.shiftLeft_xor_distrib ..
 have l1 := xor_lt24 (bw_shl b 16 om_) (xor_lt24 (bw_shl c 8 om_) (show (bw d).toNat < 16777216 by have := bw_lt d; omega))
 have l2 := xor_lt24 (bw_shl c 16 om_) (bw_shl d 8 om_)
 have l3 := bw_shl d 16 om_
 have h32 : ∀ x, crcSteps 32 x = crcSteps 8 (crcSteps 8 (crcSteps 8 (crcSteps 8 x))) := fun x => by rw [← steps_add, ← steps_add, ← steps_add]
 rw [h32]
 rw [← BitVec.xor_assoc u, steps_lin (u ^^^ bw a <<< 24), steps_low _ l1 8 (by omega), hs, hs, ← BitVec.shiftLeft_add, ← BitVec.shiftLeft_add]
 rw [show 16 + 8 = 24 from rfl, show 8 + 8 = 16 from rfl, ← BitVec.xor_assoc (crcSteps 8 (u ^^^ bw a <<< 24)), steps_lin _ (bw c <<< 16 ^^^ bw d <<< 8), steps_low _ l2 8 (by omega), hs, ← BitVec.shiftLeft_add, ← BitVec.shiftLeft_add]
 rw [show 16 + 8 = 24 from rfl, show 8 + 8 = 16 from rfl, ← BitVec.xor_assoc, steps_lin _ (bw d <<< 16), steps_low _ l3 8 (by omega), ← BitVec.shiftLeft_add]
theorem twin_facts (s : BA) (b : Nat) (h8 : 8 ≤ s.size) (hb : b < 4294967296) : (twinB s b).size = s.size ∧ sumOf (twinB s b) = sumOf s ∧ (twinB s b = s ↔ b = 0) := by
 have hsl : s.data.toList.length = s.size := rfl
 by_cases h0 : b = 0
 ·have e : twinB s b = s := if_pos (.inr h0)
  rw [e]
  exact ⟨rfl, rfl, by simp [h0]⟩
 ·have e : twinB s b = (⟨((tw 4 b s.data.toList).take (s.size - 4)).toArray⟩ : BA) ++ four (((backs 32 (crcOf s.data.toList)) ^^^ crcOn 0xFFFFFFFF#32 ((tw 4 b s.data.toList).take (s.size - 4))).toNat : Int) := if_neg om_
  obtain ⟨c, hc⟩ : ∃ c, c = (tw 4 b s.data.toList).take (s.size - 4) := ⟨_, rfl⟩
  have hcl : c.length = s.size - 4 := by rw [hc, List.length_take, tw_len]; omega
  rw [← hc] at e
  refine ⟨?_, ?_, ?_⟩
  ·rw [e, ByteArray.size_append, four_size]
   show c.length + 4 = _
   omega
  ·unfold sumOf
   rw [e, bytes_app]
   have happ : ∀ f : List UInt8, crcOf (c ++ f) = crcOn (crcOn 0xFFFFFFFF#32 c) f := fun f => List.foldl_append
   show ((crcOf (c ++ _)).toNat : Int) = _
   rw [happ, crc_four]
   have hx : crcOn 0xFFFFFFFF#32 c ^^^ (backs 32 (crcOf s.data.toList) ^^^ crcOn 0xFFFFFFFF#32 c) = backs 32 (crcOf s.data.toList) := by
    rw [BitVec.xor_comm, BitVec.xor_assoc, BitVec.xor_self, BitVec.xor_zero]
   rw [hx, steps_backs]
  ·constructor
   ·intro he
    exfalso
    apply h0
    rw [e] at he
    have hl := congrArg (fun x : BA => x.data.toList) he
    simp only [bytes_app] at hl
    have hz : ∀ i, i < 4 → b / 2 ^ (8 * i) % 256 = 0 := by
     intro i hi
     have h1 : s.data.toList[i]? = some (s.data.toList[i]'om_) := List.getElem?_eq_getElem om_
     have h2 : (c ++ (four (((backs 32 (crcOf s.data.toList)) ^^^ crcOn 0xFFFFFFFF#32 c).toNat : Int)).data.toList)[i]? = some ((s.data.toList[i]'om_) ^^^ UInt8.ofNat (b / 2 ^ (8 * i))) := by
      rw [List.getElem?_append_left (by omega), hc, List.getElem?_take_of_lt (by omega)]
      unfold tw
      rw [List.getElem?_mapIdx, h1]
      simp [hi]
     have h3 := h2.symm.trans ((congrArg (fun l : List UInt8 => l[i]?) hl).trans h1)
     have h4 := Option.some.inj h3
     have h5 : UInt8.ofNat (b / 2 ^ (8 * i)) = 0 := by
      have h6 := congrArg (fun x => (s.data.toList[i]'om_) ^^^ x) h4
      simp only [← UInt8.xor_assoc, UInt8.xor_self, UInt8.zero_xor] at h6
      exact h6
     have h7 := congrArg UInt8.toNat h5
     rw [UInt8.toNat_ofNat'] at h7
     exact h7
    have z0 := hz 0 om_
    have z1 := hz 1 om_
    have z2 := hz 2 om_
    have z3 := hz 3 om_
    simp only [Nat.mul_zero, Nat.pow_zero, Nat.div_one, Nat.mul_one, show (2 : Nat) ^ 8 = 256 from rfl, show (2 : Nat) ^ (8 * 2) = 65536 from rfl, show (2 : Nat) ^ (8 * 3) = 16777216 from rfl] at z0 z1 z2 z3
    omega
   ·intro h
    exact absurd h h0
end Go.Proofs.YtendgmblgdkiaaaGreat
