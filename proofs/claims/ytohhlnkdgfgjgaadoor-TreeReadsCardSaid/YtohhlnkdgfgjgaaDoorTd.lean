/- A path's thing, a path's file. -/
import Derived.Test.YtohhlnkdgfgjgaaDoorTc
import Derived.Test.YtohhlnkdgfgjgaaDoorPS
namespace Go.Proofs.YtohhlnkdgfgjgaaDoor.P
open Go.RowKit Go.Proofs.YtohhlnkdgfgjgaaDoorW.PrintWords Go.Proofs.YtohhlnkdgfgjgaaDoorW.PrintLast Go.Proofs.YtohhlnkdgfgjgaaDoorW.PrintMore
def ptrIf (b : Bool) (n : Nat) : Value := if b then .pointer (some ⟨n, 0, none⟩) else .pointer none
def findE (T : List Th) (s : ByteArray) : Int := if (cutB s).2 = true then goF T [] (cutB s).1 else 3
def findV (nb : List ByteArray → Nat) (T : List Th) (s : ByteArray) : Value := ptrIf (decide (findE T s = 0)) (nb (cutB s).1)
theorem findE_ok {T : List Th} {s : ByteArray} (h : (cutB s).2 = true) : findE T s = goF T [] (cutB s).1 := if_pos h
theorem findE_no {T : List Th} {s : ByteArray} (h : (cutB s).2 = false) : findE T s = 3 := if_neg (by rw [h]; decide)
theorem walkV_if (nb : List ByteArray → Nat) (T : List Th) (ns : List ByteArray) : walkV nb T ns = ptrIf (decide (goF T [] ns = 0)) (nb ns) := by
  unfold walkV ptrIf
  by_cases h : goF T [] ns = 0
  · rw [if_pos h, decide_eq_true h]; rfl
  · rw [if_neg h, decide_eq_false h]; rfl
theorem split_calls (s : ByteArray) (hs : s.size ≤ 4000) (w : World) : Calls Tryd.prog 28 #[.string s] w fun e w' => ∃ (A : Option Addr) (c : Nat), e = .returned (.tuple #[.slice A (cutB s).1.length c, .int .i64 (if (cutB s).2 then 0 else 3)]) ∧ (cutB s).1.length ≤ c ∧ Kd.C Kd.string w' A (cutB s).1.length (cutB s).1 ∧ Below w.heap.size w w' := by
  refine (path_Split.calls s _ _ w (cut_f s hs)).mono fun e w' ⟨v, he, hR, hb⟩ => ?_
  obtain ⟨A, c, rfl, hc, hC⟩ := Kd.R_reads hR
  exact ⟨A, c, he, hc, hC, hb⟩
set_option maxHeartbeats 4000000 in
set_option maxRecDepth 100000 in
theorem tree_Tree_find.calls {w : World} {own : Nat → Tag} {g N : Nat} {nb : List ByteArray → Nat} {T : List Th} (h : TreeAt w own g nb N T) (s : ByteArray) (hs : s.size ≤ 4000) :
    Calls Tryd.prog 30 #[.pointer (some ⟨g, 0, none⟩), .string s] w fun e w' => e = .returned (.tuple #[findV nb T s, .int .i64 (findE T s)]) ∧ Below w.heap.size w w' := by
  have C1 := Aside0.mk (split_calls s hs w)
  have HT := Aside0.mk h
  have HX := Aside0.mk (cutB_sizes s)
  unfold findV
  clear h
  cases hc : (cutB s).2 with
  | true =>
    rw [hc] at C1
    rw [findE_ok hc]
    generalize (cutB s).1 = ns at *
    clear hc
    go_enter Tryd.func30, Tryd.ntmps30
    go_wp2_with (first | (go_at_call 28; refine C1.out.mono ?_; rintro e w1 ⟨A, c, rfl, hcap, hC, hb⟩; have C2 := Aside0.mk (tree_Tree_walk.calls (HT.out.below hb) A c ns hC HX.out)) | (go_at_call 33; refine C2.out.mono ?_; rintro e w2 ⟨rfl, rfl⟩))
    go_ret2
    exact ⟨by rw [← walkV_if]; rfl, hb⟩
  | false =>
    rw [hc] at C1
    rw [findE_no hc]
    generalize (cutB s).1 = ns at *
    clear hc
    go_enter Tryd.func30, Tryd.ntmps30
    go_wp2_with (go_at_call 28; refine C1.out.mono ?_; rintro e w1 ⟨A, c, rfl, hcap, hC, hb⟩)
    go_ret2
    exact ⟨rfl, hb⟩
/-- Is what is there a directory? -/
def isDir (T : List Th) (p : List ByteArray) : Bool := match at' T p with | some (d, _) => d | none => false
def fileE (T : List Th) (s : ByteArray) : Int := if findE T s = 0 then (if isDir T (cutB s).1 then 7 else 0) else findE T s
theorem find_at {T : List Th} {s : ByteArray} (h : findE T s = 0) : ∃ d y, at' T (cutB s).1 = some (d, y) := by
  unfold findE at h
  split at h
  · have := goF_at T (cutB s).1 [] rfl h
    obtain ⟨⟨d, y⟩, hy⟩ := Option.isSome_iff_exists.1 this
    exact ⟨d, y, by simpa using hy⟩
  · cases h
theorem file_at {T : List Th} {s : ByteArray} (h : fileE T s = 0) : ∃ y, at' T (cutB s).1 = some (false, y) := by
  unfold fileE at h
  split at h
  · rename_i h2
    obtain ⟨d, y, hy⟩ := find_at h2
    unfold isDir at h
    rw [hy] at h
    cases d with
    | false => exact ⟨y, hy⟩
    | true => cases h
  · rename_i h2
    exact absurd h h2
set_option maxHeartbeats 4000000 in
set_option maxRecDepth 100000 in
theorem tree_Tree_file.calls {w : World} {own : Nat → Tag} {g N : Nat} {nb : List ByteArray → Nat} {T : List Th} (h : TreeAt w own g nb N T) (s : ByteArray) (hs : s.size ≤ 4000) :
    Calls Tryd.prog 22 #[.pointer (some ⟨g, 0, none⟩), .string s] w fun e w' => e = .returned (.tuple #[ptrIf (decide (fileE T s = 0)) (nb (cutB s).1), .int .i64 (fileE T s)]) ∧ Below w.heap.size w w' := by
  have C1 := tree_Tree_find.calls h s hs
  by_cases hf : findE T s = 0
  · obtain ⟨d, y, hy⟩ := find_at hf
    obtain ⟨A, c, mb, hb, _⟩ := h.cells hy
    have hc0 : w.cell? ⟨nb (cutB s).1, 0, none⟩ = some (.bool d) := blk_cell hb 0
    unfold findV at C1
    rw [hf, decide_eq_true rfl] at C1
    simp only [ptrIf, if_true] at C1
    have hfe : fileE T s = if d then 7 else 0 := by
      unfold fileE isDir
      rw [if_pos hf, hy]
    rw [hfe]
    generalize nb (cutB s).1 = b at *
    have C := Aside0.mk C1
    clear C1 hf hy hfe hb h
    cases d with
    | true =>
      go_enter Tryd.func22, Tryd.ntmps22
      go_wp2_with (go_at_call 30; refine C.out.mono ?_; rintro e w1 ⟨rfl, hb⟩; have hc0' := pw_cell_below hb hc0)
      go_ret2
      exact ⟨rfl, hb⟩
    | false =>
      go_enter Tryd.func22, Tryd.ntmps22
      go_wp2_with (go_at_call 30; refine C.out.mono ?_; rintro e w1 ⟨rfl, hb⟩; have hc0' := pw_cell_below hb hc0)
      go_ret2
      exact ⟨rfl, hb⟩
  · have hfe : fileE T s = findE T s := by unfold fileE; rw [if_neg hf]
    unfold findV at C1
    rw [hfe]
    rw [decide_eq_false hf] at C1 ⊢
    simp only [ptrIf, Bool.false_eq_true, if_false] at C1
    have hne : (findE T s == 0) = false := by simpa using hf
    generalize findE T s = x at *
    have C := Aside0.mk C1
    clear C1 hf hfe h
    go_enter Tryd.func22, Tryd.ntmps22
    go_wp2_with (go_at_call 30; refine C.out.mono ?_; rintro e w1 ⟨rfl, hb⟩)
    go_ret2
    exact ⟨rfl, hb⟩
end Go.Proofs.YtohhlnkdgfgjgaaDoor.P
