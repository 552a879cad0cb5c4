/- add, Create, Mkdir: what they answer and leave. -/
import Derived.Test.YtohhlnkdgfgjgaaDoorTg
namespace Go.Proofs.YtohhlnkdgfgjgaaDoor.P
open Go.RowKit Go.Proofs.YtohhlnkdgfgjgaaDoorW.PrintWords Go.Proofs.YtohhlnkdgfgjgaaDoorW.PrintLast Go.Proofs.YtohhlnkdgfgjgaaDoorW.PrintMore
set_option maxHeartbeats 4000000 in
set_option maxRecDepth 100000 in
theorem add_bad {w : World} {g : Nat} {s : ByteArray} (d : Bool) (hs : s.size ≤ 4000) (hc : (cutB s).2 = false) :
    Calls Tryd.prog 21 #[.pointer (some ⟨g, 0, none⟩), .string s, .bool d] w fun e w' => e = .returned (.int .i64 3) ∧ Below w.heap.size w w' := by
  have C1 := Aside0.mk (split_calls s hs w)
  rw [hc] at C1
  simp only [Bool.false_eq_true, if_false] at C1
  generalize (cutB s).1 = ns at *
  clear hc hs
  go_enter Tryd.func21, Tryd.ntmps21
  go_wp2_with (go_at_call 28; (with_reducible refine C1.out.mono ?_); rintro e w1 ⟨A, c, rfl, hcap, hC, hb⟩)
  go_ret
  exact ⟨rfl, hb⟩
set_option maxHeartbeats 4000000 in
set_option maxRecDepth 100000 in
theorem add_root {w : World} {g : Nat} {s : ByteArray} (d : Bool) (hs : s.size ≤ 4000) (hc : (cutB s).2 = true) (hn : (cutB s).1 = []) :
    Calls Tryd.prog 21 #[.pointer (some ⟨g, 0, none⟩), .string s, .bool d] w fun e w' => e = .returned (.int .i64 5) ∧ Below w.heap.size w w' := by
  have C0 := split_calls s hs w
  rw [hc, hn] at C0
  have C1 : Aside0 (Calls Tryd.prog 28 #[.string s] w fun e w' => ∃ (A : Option Addr) (c : Nat), e = .returned (.tuple #[.slice A 0 c, .int .i64 0]) ∧ Below w.heap.size w w') := ⟨C0.mono fun e w' ⟨A, c, he, _, _, hb⟩ => ⟨A, c, he, hb⟩⟩
  have C2 : Aside0 (∀ A c w1, Calls Tryd.prog 32 #[.slice A 0 c] w1 fun e w' => ∃ (A' : Option Addr) (c' : Nat), e = .returned (.tuple #[.slice A' 0 c', .string ⟨#[]⟩, .bool false]) ∧ Below w1.heap.size w1 w') := ⟨parent_calls_nil⟩
  clear hc hs hn C0
  go_enter Tryd.func21, Tryd.ntmps21
  go_wp2_with (first | (go_at_call 28; (with_reducible refine C1.out.mono ?_); rintro e w1 ⟨A, c, rfl, hb⟩) | (go_at_call 32; (with_reducible refine (C2.out A c _).mono ?_); rintro e w2 ⟨A2, c2, rfl, hb2⟩))
  go_ret
  exact ⟨rfl, hb.trans (hb2.mono hb.size)⟩
theorem tree_Tree_add.calls {w : World} {own : Nat → Tag} {g N : Nat} {nb : List ByteArray → Nat} {T : List Th} (h : TreeAt w own g nb N T) (s : ByteArray) (d : Bool) (hs : s.size ≤ 4000) (hN : N < 1000000) :
    Calls Tryd.prog 21 #[.pointer (some ⟨g, 0, none⟩), .string s, .bool d] w fun e w' => e = .returned (.int .i64 (addE T s)) ∧ Left w w' own g nb (N + 1) (addT T s d) := by
  have stay : ∀ {z : Int}, z ≠ 0 → addE T s = z → (Calls Tryd.prog 21 #[.pointer (some ⟨g, 0, none⟩), .string s, .bool d] w fun e w' => e = .returned (.int .i64 z) ∧ Below w.heap.size w w') →
      Calls Tryd.prog 21 #[.pointer (some ⟨g, 0, none⟩), .string s, .bool d] w fun e w' => e = .returned (.int .i64 (addE T s)) ∧ Left w w' own g nb (N + 1) (addT T s d) := by
    intro z hz he hC
    have hT : addT T s d = T := by unfold addT; rw [if_neg (by rw [he]; exact hz)]
    rw [hT, he]
    exact hC.mono fun e w' ⟨h1, h2⟩ => ⟨h1, Left.same h h2⟩
  cases hc : (cutB s).2 with
  | false => exact stay (z := 3) (by decide) (by unfold addE; rw [hc]; rfl) (add_bad d hs hc)
  | true =>
    have hE : addE T s = addF T (cutB s).1 := by unfold addE; rw [hc]; rfl
    rcases List.eq_nil_or_concat (cutB s).1 with hn | ⟨up, x, e0⟩
    · exact stay (z := 5) (by decide) (by rw [hE, hn]; rfl) (add_root d hs hc hn)
    · have e1 : (cutB s).1 = up ++ [x] := by simpa using e0
      obtain ⟨G, hxs⟩ := goes h hs hc e1
      by_cases hgo : goF T [] up = 0
      · obtain ⟨⟨d0, sup⟩, hup⟩ := Option.isSome_iff_exists.1 (goF_at T up [] rfl hgo)
        simp only [List.nil_append] at hup
        obtain ⟨A0, c0, mb, hcell, _, hd0, hd1⟩ := h.cells hup
        rw [walkV_ok hgo, hgo] at G
        have hk0 : w.cell? ⟨nb up, 0, none⟩ = some (.bool d0) := blk_cell hcell 0
        have hk2 : w.cell? ⟨nb up, 2, none⟩ = some (.map mb) := blk_cell hcell 2
        cases d0 with
        | false => exact stay (z := 6) (by decide) (by rw [hE, e1, addF_file hgo (isDir_at hup)]) (add_file d G hk0)
        | true =>
          obtain ⟨_, bm, M, rfl, hbm, hM, hK⟩ := hd1 rfl
          have hF : addE T s = if (look T (up ++ [x])).isSome then 5 else 0 := by rw [hE, e1, addF_is hgo (isDir_at hup)]
          have L : Aside0 (∀ w1, Below w.heap.size w w1 → (Instr.lookup 51 (.map (some bm)) (.string x) false).run Tryd.prog w1 = .ok (ptrOf ((look T (up ++ [x])).map fun _ => nb (up ++ [x]))) w1) :=
            ⟨fun w1 hb => kid_look (map_move hM (hb.block bm (h.lt bm (by rw [hbm]; simp)))) hK x hxs⟩
          cases hl : look T (up ++ [x]) with
          | some y =>
            rw [hl] at L hF
            exact stay (z := 5) (by decide) hF (add_there d G hk0 hk2 L)
          | none =>
            rw [hl] at L hF
            have hF0 : addE T s = 0 := hF
            have hT : addT T s d = T ++ [(up ++ [x], d, [])] := by unfold addT; rw [if_pos hF0, e1]
            rw [hT, hF0]
            refine (add_new d G hk0 hk2 L hM hN hxs).mono fun e w' ⟨he, w2, w3, gn, h1, h2, h3, h4, h5⟩ => ⟨he, ?_⟩
            have hbl := h.lt bm (by rw [hbm]; simp)
            obtain ⟨own', nb', t1, t2, t3⟩ := (h.below h1).adds hup hl h3 h2 (blk_below hcell h1) hbm (map_move hM (h1.block bm hbl)) hK h4 h5
            exact ⟨own', nb', t1, (Touch.of_below h1 own).trans t2, t3⟩
      · exact stay hgo (by rw [hE, e1, addF_goes hgo]) (add_goes d hgo (by rw [walkV_no hgo] at G; exact G))
def AddC (K : Nat) (d : Bool) : Prop := ∀ {w : World} {own : Nat → Tag} {g N : Nat} {nb : List ByteArray → Nat} {T : List Th}, TreeAt w own g nb N T → ∀ s : ByteArray, s.size ≤ 4000 → N < 1000000 →
    Calls Tryd.prog K #[.pointer (some ⟨g, 0, none⟩), .string s] w fun e w' => e = .returned (.int .i64 (addE T s)) ∧ Left w w' own g nb (N + 1) (addT T s d)
set_option maxHeartbeats 4000000 in
set_option maxRecDepth 100000 in
theorem tree_Tree_Create.calls : AddC 8 false := by
  intro w own g N nb T h s hs hN
  have C1 := Aside0.mk (tree_Tree_add.calls h s false hs hN)
  clear h hs hN
  go_enter Tryd.func8, Tryd.ntmps8
  go_wp2_with (go_at_call 21; (with_reducible refine C1.out.mono ?_); rintro e w1 ⟨rfl, hl⟩; have HL := Aside0.mk hl; clear hl)
  go_ret
  exact ⟨rfl, HL.out⟩
set_option maxHeartbeats 4000000 in
set_option maxRecDepth 100000 in
theorem tree_Tree_Mkdir.calls : AddC 18 true := by
  intro w own g N nb T h s hs hN
  have C1 := Aside0.mk (tree_Tree_add.calls h s true hs hN)
  clear h hs hN
  go_enter Tryd.func18, Tryd.ntmps18
  go_wp2_with (go_at_call 21; (with_reducible refine C1.out.mono ?_); rintro e w1 ⟨rfl, hl⟩; have HL := Aside0.mk hl; clear hl)
  go_ret
  exact ⟨rfl, HL.out⟩
end Go.Proofs.YtohhlnkdgfgjgaaDoor.P
