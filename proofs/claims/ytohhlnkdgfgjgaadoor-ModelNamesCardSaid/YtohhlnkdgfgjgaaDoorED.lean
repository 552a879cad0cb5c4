/- path.may: are there at most 64 names, each right? -/
import Derived.Test.YtohhlnkdgfgjgaaDoorPx0
import Derived.Test.YtohhlnkdgfgjgaaDoorEA
import Derived.Test.YtohhlnkdgfgjgaaDoorAny
namespace Go.Proofs.YtohhlnkdgfgjgaaDoor.P
open Go.RowKit Go.Proofs.YtohhlnkdgfgjgaaDoorW.PrintWords Go.Proofs.YtohhlnkdgfgjgaaDoorW.PrintLast Go.Proofs.YtohhlnkdgfgjgaaDoorW.PrintMore
set_option maxHeartbeats 1000000 in
theorem may_one (s : ByteArray) (w : World) : Calls Tryd.prog 44 #[.string s] w fun e w' => e = .returned (.bool (!rightB s)) ∧ Below w.heap.size w w' := by
  have c := entry_Right.calls s w
  generalize rightB s = b at *
  have C := Lib.hid c
  clear c
  go_enter Tryd.func44, Tryd.ntmps44
  go_wp2_with (go_at_call 45; refine C.out.mono ?_; rintro e w' ⟨rfl, hb⟩)
  go_ret
  exact ⟨rfl, hb⟩
def NoWrong (l : List ByteArray) (i : Nat) : Prop := ∀ j x, j < i → l[j]? = some x → rightB x = true
theorem all_right {l : List ByteArray} (h : NoWrong l l.length) : l.all rightB = true := by
  rw [List.all_eq_true]
  intro x hx
  obtain ⟨j, hj⟩ := List.getElem?_of_mem hx
  exact h j x (List.getElem?_eq_some_iff.1 hj).1 hj
theorem one_wrong {l : List ByteArray} {i : Nat} {x : ByteArray} (h : l[i]? = some x) (hx : rightB x = false) : l.all rightB = false := by
  rw [List.all_eq_false]
  exact ⟨x, List.mem_of_getElem? h, by simp [hx]⟩
set_option maxHeartbeats 1000000 in
theorem index_wrong (A0 : Option Addr) (c0 : Nat) (l0 : List ByteArray) (w : World) (hr0 : Kd.C Kd.string w A0 l0.length l0) (hc0 : l0.length ≤ c0) :
    Calls Tryd.prog 53 #[.slice A0 l0.length c0, .func (.func 44) #[] #[]] w fun e w' => ∃ v : Int, e = .returned (.int .i64 v) ∧ decide (0 ≤ v) = !(l0.all rightB) ∧ Below w.heap.size w w' := by
  have hlen : l0.length ≤ 9223372036854775807 := hr0.2.1
  have HR := Lib.hid hr0
  have HC := Lib.hid hc0
  clear hr0 hc0
  go_enter Tryd.func53, Tryd.ntmps53
  go_wp2_with fail
  go_loopg [5, 8] l0.length (fun g _ v8 wx => ∃ i : Nat, i + g = l0.length ∧ v8 = .int .i64 i ∧ Hid (Below w.heap.size w wx) ∧ Hid (NoWrong l0 i))
  case atStart => exact ⟨0, by omega, rfl, Lib.hid (Below.refl _ _), Lib.hid (fun j x hj _ => absurd hj (by omega))⟩
  case round =>
    obtain ⟨i, hig, rfl, HB, HN⟩ := hrel
    cases gk with
    | zero =>
      obtain rfl : i = l0.length := by omega
      have hnl : ¬ ((l0.length : Int) < (l0.length : Int)) := by omega
      go_wp2_with fail
      go_ret
      exact ⟨-1, rfl, by rw [all_right HN.out]; rfl, HB.out⟩
    | succ g =>
      have hi : i < l0.length := by omega
      obtain ⟨x, hx⟩ : ∃ x, l0[i]? = some x := ⟨_, List.getElem?_eq_getElem hi⟩
      obtain ⟨ad, e0, hc⟩ := Kd.at_string HR.out (i : Int) (by omega) (by omega)
      cases e0
      have hc1 := (HB.out.cell (World.block_lt_of_cell? w _ hc)).trans hc
      have ex : rdOf ByteArray.empty l0 (i : Int) = x := by
        unfold rdOf
        rw [Int.toNat_natCast, List.getD_eq_getElem?_getD, hx]
        rfl
      rw [ex, Int.toNat_natCast] at hc1
      clear hc ex
      have HX := Lib.hid hx
      clear hx
      have h1 := may_one x wr
      cases hb : rightB x with
      | true =>
        rw [hb] at h1
        have H1 := Lib.hid h1
        have HBB := Lib.hid hb
        clear h1 hb
        go_wp2_with (go_at_call 44; refine H1.out.mono ?_; rintro e w' ⟨rfl, hbl⟩)
        go_roundg g
        case measure => omega
        case rel => exact ⟨i + 1, by omega, by go_num, Lib.hid (HB.out.trans (hbl.mono HB.out.size)), Lib.hid (fun j y hj hy => by
          by_cases e : j = i
          · subst e; rw [HX.out] at hy; cases hy; exact HBB.out
          · exact HN.out j y (by omega) hy)⟩
      | false =>
        rw [hb] at h1
        have H1 := Lib.hid h1
        have HBB := Lib.hid hb
        clear h1 hb
        go_wp2_with (go_at_call 44; refine H1.out.mono ?_; rintro e w' ⟨rfl, hbl⟩)
        go_ret
        exact ⟨(i : Int), rfl, by rw [one_wrong HX.out HBB.out]; simp, HB.out.trans (hbl.mono HB.out.size)⟩
set_option maxHeartbeats 1000000 in
theorem contains_wrong (A0 : Option Addr) (c0 : Nat) (l0 : List ByteArray) (w : World) (hr0 : Kd.C Kd.string w A0 l0.length l0) (hc0 : l0.length ≤ c0) :
    Calls Tryd.prog 43 #[.slice A0 l0.length c0, .func (.func 44) #[] #[]] w fun e w' => e = .returned (.bool (!(l0.all rightB))) ∧ Below w.heap.size w w' := by
  have c := index_wrong A0 c0 l0 w hr0 hc0
  generalize l0.all rightB = b at *
  have C := Lib.hid c
  clear c hr0 hc0
  go_enter Tryd.func43, Tryd.ntmps43
  go_wp2_with (go_at_call 53; refine C.out.mono ?_; rintro e w' ⟨v, rfl, hv, hb⟩)
  go_ret
  exact ⟨by first | rfl | rw [hv], hb⟩
def path_may.f (l0 : List ByteArray) : Option (Bool) := some (decide (l0.length ≤ 64) && l0.all rightB)
set_option maxHeartbeats 1000000 in
theorem path_may.calls (A0 : Option Addr) (c0 : Nat) (l0 : List ByteArray) (r : Bool) (w : World) (hr0 : Kd.C Kd.string w A0 l0.length l0) (hc0 : l0.length ≤ c0) (h : path_may.f l0 = some r) :
    Calls Tryd.prog 37 #[.slice A0 l0.length c0] w fun e w' => e = .returned (.bool r) ∧ Below w.heap.size w w' := by
  obtain rfl := Option.some.inj h
  have c := contains_wrong A0 c0 l0 w hr0 hc0
  have C := Lib.hid c
  clear c h
  generalize l0.all rightB = b at *
  by_cases h1 : l0.length ≤ 64
  · have h1' : decide ((l0.length : Int) ≤ 64) = true := decide_eq_true (by omega)
    have h1n : decide (l0.length ≤ 64) = true := decide_eq_true h1
    rw [h1n, Bool.true_and]
    clear h1 hr0 hc0
    go_enter Tryd.func37, Tryd.ntmps37
    go_wp2_with (go_at_call 43; refine C.out.mono ?_; rintro e w' ⟨rfl, hb⟩)
    go_ret
    exact ⟨by simp, hb⟩
  · have h1' : decide ((l0.length : Int) ≤ 64) = false := decide_eq_false (by omega)
    have h1n : decide (l0.length ≤ 64) = false := decide_eq_false h1
    rw [h1n, Bool.false_and]
    clear h1 hr0 hc0
    go_enter Tryd.func37, Tryd.ntmps37
    go_wp2_with fail
    go_ret
    exact ⟨rfl, Below.refl _ _⟩
end Go.Proofs.YtohhlnkdgfgjgaaDoor.P
