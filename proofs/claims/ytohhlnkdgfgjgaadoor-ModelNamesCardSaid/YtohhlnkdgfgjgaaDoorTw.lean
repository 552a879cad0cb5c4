/- ModelNames: the law's walk, in a world in which the table of names lies. -/
import Derived.Test.YtohhlnkdgfgjgaaDoorPx6
import Derived.Test.YtohhlnkdgfgjgaaDoorTU
namespace Go.Proofs.YtohhlnkdgfgjgaaDoor.P
open Go.RowKit Go.Proofs.YtohhlnkdgfgjgaaDoorW.PrintWords Go.Proofs.YtohhlnkdgfgjgaaDoorW.PrintLast Go.Proofs.YtohhlnkdgfgjgaaDoorW.PrintMore
def nameB (k : Int) : ByteArray := (cantleref14_Name.f k).getD ⟨#[]⟩
theorem nameB_f (k : Int) : cantleref14_Name.f k = some (nameB k) := by
  unfold nameB cantleref14_Name.f
  repeat (split; · rfl)
  rfl
/-- The table of names lies in its variable. -/
def NamesLie (w : World) : Prop := ∃ (x : Addr) (c : Nat), w.cell? ⟨0, 0, none⟩ = some (.slice (some x) 8 c) ∧ 8 ≤ c ∧ ∀ j : Nat, j < 8 → w.cell? (x.add j) = some (.string (nameB j))
theorem NamesLie.below {w w1 : World} (h : NamesLie w) (hb : Below w.heap.size w w1) : NamesLie w1 := by
  obtain ⟨x, c, h1, h2, h3⟩ := h
  exact ⟨x, c, pw_cell_below hb h1, h2, fun j hj => pw_cell_below hb (h3 j hj)⟩
theorem nameB_out {k : Int} (h : k < 0 ∨ 8 ≤ k) : nameB k = ⟨#[]⟩ := by
  unfold nameB cantleref14_Name.f
  rw [if_neg (by omega), if_neg (by omega), if_neg (by omega), if_neg (by omega), if_neg (by omega), if_neg (by omega), if_neg (by omega), if_neg (by omega)]
  rfl
set_option maxHeartbeats 4000000 in
set_option maxRecDepth 100000 in
theorem model_Name.calls {w : World} (h : NamesLie w) (k : Int) : Calls Tryd.prog 12 #[.int .i64 k] w fun e w' => e = .returned (.string (nameB k)) ∧ Below w.heap.size w w' := by
  obtain ⟨x, c, h1, h2, h3⟩ := h
  by_cases c0 : k < 0
  · have d0 : decide (k < 0) = true := decide_eq_true c0
    rw [nameB_out (.inl c0)]
    clear h3
    go_enter Tryd.func12, Tryd.ntmps12
    go_wp2
    all_goals (go_ret; exact ⟨rfl, Below.refl _ _⟩)
  · have d0 : decide (k < 0) = false := decide_eq_false c0
    by_cases c1 : 8 ≤ k
    · have d1 : decide (8 ≤ k) = true := decide_eq_true c1
      rw [nameB_out (.inr c1)]
      clear h3
      go_enter Tryd.func12, Tryd.ntmps12
      go_wp2
      all_goals (go_ret; exact ⟨rfl, Below.refl _ _⟩)
    · have d1 : decide (8 ≤ k) = false := decide_eq_false c1
      obtain ⟨j, rfl⟩ : ∃ j : Nat, k = j := ⟨k.toNat, by omega⟩
      have hj := h3 j (by omega)
      generalize nameB (j : Int) = s at *
      have e0 : j < 8 := by omega
      have e1 : (j : Int) < 8 := by omega
      have e2 : decide (8 ≤ j) = false := decide_eq_false (by omega)
      clear h3 c0 c1
      go_enter Tryd.func12, Tryd.ntmps12
      go_wp2
      all_goals (go_ret; exact ⟨rfl, Below.refl _ _⟩)
set_option maxHeartbeats 4000000 in
set_option maxRecDepth 100000 in
theorem modelNames_all {w : World} (h : NamesLie w) (k : Int) : Calls Tryd.prog 4 #[.int .i64 k] w fun e w' => e = .returned (.bool true) ∧ Below w.heap.size w w' := by
  have CN : Aside0 (∀ w1, Below w.heap.size w w1 → Calls Tryd.prog 12 #[.int .i64 k] w1 fun e w' => e = .returned (.string (nameB k)) ∧ Below w1.heap.size w1 w') := ⟨fun w1 hb => model_Name.calls (h.below hb) k⟩
  have CR : Aside0 (∀ w1, Calls Tryd.prog 13 #[.int .i64 k] w1 fun e w' => e = .returned (.string (nameB k)) ∧ Below w1.heap.size w1 w') := ⟨fun w1 => (cantleref14_Name.calls k _ w1 (nameB_f k)).mono fun _ _ h => ⟨h.1, h.2.below⟩⟩
  have CL := Aside0.mk (lives14 w)
  generalize nameB k = s at *
  have hs : (s.toList == s.toList) = true := by simp
  by_cases c0 : 0 ≤ k
  · have CC : Aside0 (∀ w1, Calls Tryd.prog 14 #[.int .i64 k] w1 fun e w' => e = .returned (.bool (decide (k < 6))) ∧ Below w1.heap.size w1 w') := ⟨fun w1 => (model_Changes.calls k _ w1 (if_pos c0)).mono fun _ _ h => ⟨h.1, h.2.below⟩⟩
    have d0 : decide (0 ≤ k) = true := decide_eq_true c0
    by_cases c1 : k < 6
    · rw [decide_eq_true c1] at CC
      have d1 : decide (k ≤ 5) = true := decide_eq_true (by omega)
      clear h c0 c1
      go_enter Tryd.func4, Tryd.ntmps4
      go_wp2_with (first | (go_at_call 11; (with_reducible refine CL.out.mono ?_); rintro e w1 ⟨rfl, hb1⟩) | (go_at_call 12; (with_reducible refine (CN.out _ hb1).mono ?_); rintro e w2 ⟨rfl, hb2⟩) | (go_at_call 13; (with_reducible refine (CR.out _).mono ?_); rintro e w3 ⟨rfl, hb3⟩) | (go_at_call 14; (with_reducible refine (CC.out _).mono ?_); rintro e w4 ⟨rfl, hb4⟩))
      go_ret
      exact ⟨rfl, ((hb1.trans (hb2.mono hb1.size)).trans (hb3.mono (Nat.le_trans hb1.size hb2.size))).trans (hb4.mono (Nat.le_trans (Nat.le_trans hb1.size hb2.size) hb3.size))⟩
    · rw [decide_eq_false c1] at CC
      have d1 : decide (k ≤ 5) = false := decide_eq_false (by omega)
      clear h c0 c1
      go_enter Tryd.func4, Tryd.ntmps4
      go_wp2_with (first | (go_at_call 11; (with_reducible refine CL.out.mono ?_); rintro e w1 ⟨rfl, hb1⟩) | (go_at_call 12; (with_reducible refine (CN.out _ hb1).mono ?_); rintro e w2 ⟨rfl, hb2⟩) | (go_at_call 13; (with_reducible refine (CR.out _).mono ?_); rintro e w3 ⟨rfl, hb3⟩) | (go_at_call 14; (with_reducible refine (CC.out _).mono ?_); rintro e w4 ⟨rfl, hb4⟩))
      go_ret
      exact ⟨rfl, ((hb1.trans (hb2.mono hb1.size)).trans (hb3.mono (Nat.le_trans hb1.size hb2.size))).trans (hb4.mono (Nat.le_trans (Nat.le_trans hb1.size hb2.size) hb3.size))⟩
  · have CC : Aside0 (∀ w1, Calls Tryd.prog 14 #[.int .i64 k] w1 fun e w' => e = .returned (.bool false) ∧ Below w1.heap.size w1 w') := ⟨fun w1 => (model_Changes.calls k _ w1 (if_neg c0)).mono fun _ _ h => ⟨h.1, h.2.below⟩⟩
    have d0 : decide (0 ≤ k) = false := decide_eq_false c0
    clear h c0
    go_enter Tryd.func4, Tryd.ntmps4
    go_wp2_with (first | (go_at_call 11; (with_reducible refine CL.out.mono ?_); rintro e w1 ⟨rfl, hb1⟩) | (go_at_call 12; (with_reducible refine (CN.out _ hb1).mono ?_); rintro e w2 ⟨rfl, hb2⟩) | (go_at_call 13; (with_reducible refine (CR.out _).mono ?_); rintro e w3 ⟨rfl, hb3⟩) | (go_at_call 14; (with_reducible refine (CC.out _).mono ?_); rintro e w4 ⟨rfl, hb4⟩))
    go_ret
    exact ⟨rfl, ((hb1.trans (hb2.mono hb1.size)).trans (hb3.mono (Nat.le_trans hb1.size hb2.size))).trans (hb4.mono (Nat.le_trans (Nat.le_trans hb1.size hb2.size) hb3.size))⟩
end Go.Proofs.YtohhlnkdgfgjgaaDoor.P
