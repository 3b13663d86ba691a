/- Pages' small functions, walked. -/
import Derived.Test.YtcbefilcdelplaaPagesS
import Derived.Deep.QuietTactic
import Derived.BigQuiet
namespace Go.Proofs.Ytcbefilcdelplaa
open Go.RowKit
set_option linter.unusedVariables false
set_option linter.unusedSimpArgs false

theorem pages_Room (w : World) (L : Loc) (D : Dk) (h : DiskAt w L D) :
    Calls Try.prog 25 #[.pointer (some ⟨L.a, 0, none⟩)] w fun e w' => e = .returned (.int .i64 D.room) ∧ w = w' := by
  have C := Lib.hid (disk_Size w L D h)
  have h2 := h.ok.least
  have h3 := h.ok.most
  have hr : D.room = (D.now.length - 2) / 2 := rfl
  have HR := Lib.hid hr
  obtain ⟨m, hm⟩ : ∃ m, m = D.now.length := ⟨_, rfl⟩
  rw [← hm] at C h2 h3 HR
  clear hm hr h
  go_enter Try.func25, Try.ntmps25
  go_wp2_with fail
  refine C.out.mono ?_
  rintro e w' ⟨rfl, rfl⟩
  go_wp2
  go_ret
  exact ⟨ret_int (by rw [HR.out]; omega), rfl⟩

theorem pages_Half (w : World) (b : Nat) (L : Loc) (h n : Nat) (p : PagesAt w b L h n) :
    Calls Try.prog 47 #[.pointer (some ⟨b, 0, none⟩)] w fun e w' => e = .returned (.int .i64 h) ∧ w = w' := by
  have c := p.c1
  go_enter Try.func47, Try.ntmps47
  go_wp2
  go_ret
  exact ⟨rfl, rfl⟩

theorem pages_Next (w : World) (b : Nat) (L : Loc) (h n : Nat) (p : PagesAt w b L h n) :
    Calls Try.prog 24 #[.pointer (some ⟨b, 0, none⟩)] w fun e w' => e = .returned (.int .i64 n) ∧ w = w' := by
  have c := p.c2
  go_enter Try.func24, Try.ntmps24
  go_wp2
  go_ret
  exact ⟨rfl, rfl⟩

theorem room_le {D : Dk} (h : D.Ok) : D.room ≤ 32767 := by have := h.most; unfold Dk.room; omega

theorem pages_Free (w : World) (b : Nat) (L : Loc) (D : Dk) (h n : Nat) (p : PagesAt w b L h n) (d : DiskAt w L D) (hn : n ≤ D.room) :
    Calls Try.prog 26 #[.pointer (some ⟨b, 0, none⟩)] w fun e w' => e = .returned (.int .i64 ((D.room - n : Nat) : Int)) ∧ ∃ m, w' = w.drewN m := by
  have c0 := p.c0
  have c2 := p.c2
  have HD := Lib.hid d
  have hr := room_le d.ok
  obtain ⟨r, hr'⟩ : ∃ r, r = D.room := ⟨_, rfl⟩
  have C := Lib.hid (fun W (h : DiskAt W L D) => pages_Room W L D h)
  rw [← hr'] at hn hr C ⊢
  have e : ((r - n : Nat) : Int) = (r : Int) - (n : Int) := by omega
  rw [e]
  have hw : IntKind.i64.wrap ((r : Int) - (n : Int)) = (r : Int) - (n : Int) := IntWalk.i64_in _ (by omega)
  clear hr' e d
  go_enter Try.func26, Try.ntmps26
  go_wp2
  go_quiet ((go_at_call 25; exact quietS (C.out _ (HD.out.drewN _))))
  go_wp2
  go_ret
  exact ⟨rfl, _, rfl⟩

theorem pages_sector (w : World) (b : Nat) (L : Loc) (D : Dk) (h n m : Nat) (p : PagesAt w b L h n) (d : DiskAt w L D) (hh : h ≤ 1) (hm : m ≤ 32767) :
    Calls Try.prog 52 #[.pointer (some ⟨b, 0, none⟩), .int .i64 (m : Int)] w fun e w' => e = .returned (.int .i64 (D.sector h m : Int)) ∧ ∃ k, w' = w.drewN k := by
  have c0 := p.c0
  have c1 := p.c1
  have HD := Lib.hid d
  have hr := room_le d.ok
  have hs : D.sector h m = 2 + h * D.room + m := rfl
  obtain ⟨r, hr'⟩ : ∃ r, r = D.room := ⟨_, rfl⟩
  have C := Lib.hid (fun W (h : DiskAt W L D) => pages_Room W L D h)
  rw [← hr'] at hr C hs
  have e : ((2 + h * r + m : Nat) : Int) = 2 + (h : Int) * (r : Int) + (m : Int) := by simp
  rw [hs, e]
  have hb : (0 : Int) ≤ (h : Int) * (r : Int) ∧ (h : Int) * (r : Int) ≤ 32767 := by
    match h, hh with
    | 0, _ => simp
    | 1, _ => simp; omega
  have hw0 : IntKind.i64.wrap ((h : Int) * (r : Int)) = (h : Int) * (r : Int) := IntWalk.i64_in _ (by omega)
  have hw1 : IntKind.i64.wrap (2 + (h : Int) * (r : Int)) = 2 + (h : Int) * (r : Int) := IntWalk.i64_in _ (by omega)
  have hw2 : IntKind.i64.wrap (2 + (h : Int) * (r : Int) + (m : Int)) = 2 + (h : Int) * (r : Int) + (m : Int) := IntWalk.i64_in _ (by omega)
  clear hr' e d hs hb
  go_enter Try.func52, Try.ntmps52
  go_wp2
  go_quiet ((go_at_call 25; exact quietS (C.out _ (HD.out.drewN _))))
  go_wp2
  go_ret
  exact ⟨rfl, _, rfl⟩

theorem pages_Cut (w : World) (b : Nat) (L : Loc) (h n : Nat) (m : Int) (p : PagesAt w b L h n) :
    Calls Try.prog 27 #[.pointer (some ⟨b, 0, none⟩), .int .i64 m] w fun e w' =>
      e = .returned (.bool (decide (0 ≤ m ∧ m ≤ n))) ∧ PagesAt w' b L h (if 0 ≤ m ∧ m ≤ n then m.toNat else n) ∧ Keep (fun k => k = b) w w' := by
  have c2 := p.c2
  have f2 := p.frz 2
  have hk := fun v => (Keep.refl (fun k => k = b) w).setCell (p := ⟨b, 2, none⟩) (.inl rfl) v
  have hk0 := Keep.refl (fun k => k = b) w
  by_cases h0 : m < 0
  · have e : ¬ (0 ≤ m ∧ m ≤ n) := by omega
    rw [if_neg e, decide_eq_false e]
    clear e
    have HP := Lib.hid p
    go_enter Try.func27, Try.ntmps27
    go_wp2
    go_ret
    exact ⟨rfl, HP.out, hk0⟩
  · by_cases h1 : (n : Int) < m
    · have e : ¬ (0 ≤ m ∧ m ≤ n) := by omega
      rw [if_neg e, decide_eq_false e]
      clear e
      have HP := Lib.hid p
      go_enter Try.func27, Try.ntmps27
      go_wp2
      go_ret
      exact ⟨rfl, HP.out, hk0⟩
    · have e : 0 ≤ m ∧ m ≤ n := by omega
      rw [if_pos e, decide_eq_true e]
      obtain ⟨j, rfl⟩ := Int.eq_ofNat_of_zero_le e.1
      rw [Int.toNat_natCast]
      clear e
      have HP := Lib.hid (p.setNext j)
      go_enter Try.func27, Try.ntmps27
      go_wp2
      go_ret
      exact ⟨rfl, HP.out, hk _⟩

theorem pages_Open_bad (w : World) (L : Loc) (D : Dk) (half next : Int) (d : DiskAt w L D) (hb : ¬ (0 ≤ half ∧ half ≤ 1 ∧ 0 ≤ next ∧ next ≤ D.room)) :
    Calls Try.prog 15 #[.pointer (some ⟨L.a, 0, none⟩), .int .i64 half, .int .i64 next] w fun e w' => e = .returned (.tuple #[.pointer none, .int .i64 1]) ∧ w = w' := by
  have C := Lib.hid (pages_Room w L D d)
  have hr := room_le d.ok
  obtain ⟨r, hr'⟩ : ∃ r, r = D.room := ⟨_, rfl⟩
  rw [← hr'] at hr C hb
  clear hr'
  by_cases h1 : half < 0
  · clear hb
    go_enter Try.func15, Try.ntmps15
    go_wp2
    go_ret2
    exact ⟨rfl, rfl⟩
  · by_cases h2 : 2 ≤ half
    · clear hb
      go_enter Try.func15, Try.ntmps15
      go_wp2
      go_ret2
      exact ⟨rfl, rfl⟩
    · by_cases h3 : next < 0
      · clear hb
        go_enter Try.func15, Try.ntmps15
        go_wp2
        go_ret2
        exact ⟨rfl, rfl⟩
      · have h4 : (r : Int) < next := by omega
        clear hb
        go_enter Try.func15, Try.ntmps15
        go_wp2_with fail
        refine C.out.mono ?_
        rintro e w' ⟨rfl, rfl⟩
        go_wp2
        go_ret2
        exact ⟨rfl, rfl⟩

theorem pages_Open (w : World) (L : Loc) (D : Dk) (h n : Nat) (d : DiskAt w L D) (hh : h ≤ 1) (hn : n ≤ D.room) :
    Calls Try.prog 15 #[.pointer (some ⟨L.a, 0, none⟩), .int .i64 (h : Int), .int .i64 (n : Int)] w fun e w' =>
      e = .returned (.tuple #[.pointer (some ⟨w.heap.size, 0, none⟩), .int .i64 0]) ∧ PagesAt w' w.heap.size L h n ∧ Below w.heap.size w w' := by
  have C := Lib.hid (pages_Room w L D d)
  have hr := room_le d.ok
  obtain ⟨r, hr'⟩ : ∃ r, r = D.room := ⟨_, rfl⟩
  rw [← hr'] at hr C hn
  clear hr' d
  go_enter Try.func15, Try.ntmps15
  go_wp2_with fail
  refine C.out.mono ?_
  rintro e w' ⟨rfl, rfl⟩
  go_wp2
  go_ret2
  exact ⟨rfl, heap_alloc_self _ _, (Below.refl _ _).alloc (Nat.le_refl _) _⟩

theorem pages_Other (w : World) (b : Nat) (L : Loc) (h n : Nat) (p : PagesAt w b L h n) (hh : h ≤ 1) :
    Calls Try.prog 45 #[.pointer (some ⟨b, 0, none⟩)] w fun e w' =>
      e = .returned (.pointer (some ⟨w.heap.size, 0, none⟩)) ∧ PagesAt w' w.heap.size L (1 - h) 0 ∧ Below w.heap.size w w' := by
  have c0 := p.c0
  have c1 := p.c1
  have e : ((1 - h : Nat) : Int) = 1 - (h : Int) := by omega
  have E := Lib.hid e
  have hw : IntKind.i64.wrap (1 - (h : Int)) = 1 - (h : Int) := IntWalk.i64_in _ (by omega)
  clear e p
  go_enter Try.func45, Try.ntmps45
  go_wp2
  go_region
  all_goals go_wp2
  all_goals go_ret
  all_goals exact ⟨rfl, by rw [PagesAt, E.out]; exact heap_alloc_self w _, ((Below.refl _ _).alloc (Nat.le_refl _) _).drew⟩

end Go.Proofs.Ytcbefilcdelplaa
