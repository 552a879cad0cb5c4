/- A new thing, a new tree, and the walk to names. -/
import Derived.Test.YtohhlnkdgfgjgaaDoorTa
namespace Go.Proofs.YtohhlnkdgfgjgaaDoor.P
open Go.RowKit Go.Proofs.YtohhlnkdgfgjgaaDoorW.PrintWords Go.Proofs.YtohhlnkdgfgjgaaDoorW.PrintLast Go.Proofs.YtohhlnkdgfgjgaaDoorW.PrintMore
open Go.Maps (Keyed string_keyed)
/-- A new thing's blocks. -/
def NewAt (w w' : World) (g : Nat) (d : Bool) : Prop :=
  w.heap.size ≤ g ∧ ∃ mb : Option Nat, w'.heap[g]? = some (.cells #[.bool d, .slice none 0 0, .map mb] 53 (0, 0)) ∧ (d = false → mb = none) ∧
    (d = true → ∃ bm, mb = some bm ∧ w.heap.size ≤ bm ∧ bm ≠ g ∧ bm < w'.heap.size ∧ w'.ownsMap Tryd.prog 9 ptrR bm 0 (.map []))
theorem tree_thing.calls (d : Bool) (w : World) :
    Calls Tryd.prog 20 #[.bool d] w fun e w' => ∃ g, e = .returned (.pointer (some ⟨g, 0, none⟩)) ∧ NewAt w w' g d ∧ Below w.heap.size w w' := by
  cases d with
  | false =>
    go_enter Tryd.func20, Tryd.ntmps20
    go_wp2
    go_ret
    exact ⟨w.heap.size, rfl, ⟨Nat.le_refl _, none, blk_new w _, fun _ => rfl, fun h => by cases h⟩, below_alloc (Below.refl _ _) _⟩
  | true =>
    have hmm := @run_makeMap Tryd.prog
    go_enter Tryd.func20, Tryd.ntmps20
    go_wp2
    go_ret
    have hs1 : (w.alloc (.cells #[.bool true, .slice none 0 0, .map (some (w.heap.size + 1))] 53)).heap.size = w.heap.size + 1 := by show (w.heap.push _).size = _; simp
    have hs2 : ((w.alloc (.cells #[.bool true, .slice none 0 0, .map (some (w.heap.size + 1))] 53)).alloc (.map #[] 0)).heap.size = w.heap.size + 2 := by show ((w.heap.push _).push _).size = _; simp
    refine ⟨w.heap.size, rfl, ⟨Nat.le_refl _, some (w.heap.size + 1), blk_alloc (blk_new w _) _, (fun h => by cases h), fun _ => ⟨w.heap.size + 1, rfl, by omega, by omega, by rw [hs2]; omega, ?_⟩⟩, below_alloc (below_alloc (Below.refl _ _) _) _⟩
    have h0 := World.ownsMap_made (w.alloc (.cells #[.bool true, .slice none 0 0, .map (some (w.heap.size + 1))] 53)) Tryd.prog 9 ptrR
    rw [hs1] at h0
    exact h0
/-- A new tree: a root alone. -/
theorem TreeAt.made {w w' : World} {r : Nat} (h : NewAt w w' r true) (hb : Below w.heap.size w w') :
    ∃ own, TreeAt (w'.alloc (.cells #[.pointer (some ⟨r, 0, none⟩)] 46)) own w'.heap.size (fun _ => r) 0 [] ∧ ∀ b, b < w.heap.size → own b = .no := by
  obtain ⟨hr, mb, h1, _, h3⟩ := h
  obtain ⟨bm, rfl, h4, h5, h6, h7⟩ := h3 rfl
  have hrl := blk_lt h1
  have hs : (w'.alloc (.cells #[.pointer (some ⟨r, 0, none⟩)] 46)).heap.size = w'.heap.size + 1 := by show (w'.heap.push _).size = _; simp
  refine ⟨fun b => if b = w'.heap.size then .self else if b = r then .node [] else if b = bm then .kids [] else .no, ⟨?_, if_pos rfl, blk_new w' _, by simp, by simp, (fun q y h => by cases h), ?_⟩, ?_⟩
  · intro b hb'
    rw [hs]
    rcases Nat.lt_or_ge b (w'.heap.size + 1) with e | e
    · exact e
    · exfalso
      apply hb'
      show (if b = w'.heap.size then Tag.self else if b = r then .node [] else if b = bm then .kids [] else .no) = .no
      rw [if_neg (by omega), if_neg (by omega), if_neg (by omega)]
  · intro p d s hp
    by_cases e : p = []
    · subst e
      rw [at_nil] at hp
      cases hp
      refine ⟨?_, .slice none 0 0, some bm, blk_alloc h1 _, ⟨rfl, .inl ⟨rfl, rfl⟩⟩, (fun b hb' => by cases hb'), (fun h => by cases h), fun _ => ⟨rfl, bm, .map [], rfl, ?_, h7.alloc _, fun x => ⟨rfl, rfl⟩⟩⟩
      · show (if r = w'.heap.size then Tag.self else if r = r then .node [] else if r = bm then .kids [] else .no) = _
        rw [if_neg (by omega), if_pos rfl]
      · show (if bm = w'.heap.size then Tag.self else if bm = r then .node [] else if bm = bm then .kids [] else .no) = _
        rw [if_neg (by omega), if_neg h5, if_pos rfl]
    · rw [at_cons _ e] at hp
      cases hp
  · intro b hb'
    have := hb.size
    show (if b = w'.heap.size then Tag.self else if b = r then .node [] else if b = bm then .kids [] else .no) = .no
    rw [if_neg (by omega), if_neg (by omega), if_neg (by omega)]
theorem tree_New.calls (w : World) :
    Calls Tryd.prog 7 #[] w fun e w' => ∃ g own nb, e = .returned (.pointer (some ⟨g, 0, none⟩)) ∧ TreeAt w' own g nb 0 [] ∧ Below w.heap.size w w' ∧ ∀ b, b < w.heap.size → own b = .no := by
  have C := Aside0.mk (tree_thing.calls true w)
  go_enter Tryd.func7, Tryd.ntmps7
  go_wp2_with (go_at_call 20; refine C.out.mono ?_; rintro e w1 ⟨r, rfl, hn, hb⟩)
  go_ret
  obtain ⟨own, hT, hno⟩ := TreeAt.made hn hb
  exact ⟨_, own, _, rfl, hT, below_alloc hb _, hno⟩
/-- A look-up in a directory's map. -/
theorem law9 : Keyed Tryd.prog 9 := string_keyed Tryd.underlying9
theorem zeroNode (w : World) : (zeroValue 43).run Tryd.prog w = .ok (.pointer none) w := by kernel_rfl
def ptrOf : Option Nat → Value
  | none => .pointer none
  | some b => .pointer (some ⟨b, 0, none⟩)
theorem kid_look {w : World} {nb : List ByteArray → Nat} {T : List Th} {p : List ByteArray} {bm n : Nat} {M : DataW Unit} (hM : w.ownsMap Tryd.prog 9 ptrR bm n M) (hK : KidsAre nb T p M) (x : ByteArray) (hx : x.size ≤ maxLen) :
    (Instr.lookup 51 (.map (some bm)) (.string x) false).run Tryd.prog w = .ok (ptrOf ((look T (p ++ [x])).map fun _ => nb (p ++ [x]))) w := by
  obtain ⟨v, ps, hrun, hv⟩ := hM.lookup law9 Tryd.underlying51 (zeroNode w) (zd := .nil) (zp := []) rfl (Go.WideMaps.keyOf_string_mk Tryd.underlying9 hx)
  rw [(hK x).1] at hv
  cases hl : look T (p ++ [x]) with
  | none =>
    rw [hl] at hv
    rw [hrun, ptrR_inv_nil hv]
    rfl
  | some y =>
    rw [hl] at hv
    rw [hrun, ptrR_inv_lit hv]
    rfl
/-- The walk to names: a thing's block, or the error's number. -/
def walkV (nb : List ByteArray → Nat) (T : List Th) (ns : List ByteArray) : Value := if goF T [] ns = 0 then .pointer (some ⟨nb ns, 0, none⟩) else .pointer none
theorem goF_step {T : List Th} {pre : List ByteArray} {x : ByteArray} {r : List ByteArray} {s : List Int} (h : at' T pre = some (true, s)) : goF T pre (x :: r) = if (look T (pre ++ [x])).isSome then goF T (pre ++ [x]) r else 4 := by
  rw [goF, h]
theorem goF_file {T : List Th} {pre : List ByteArray} {x : ByteArray} {r : List ByteArray} {s : List Int} (h : at' T pre = some (false, s)) : goF T pre (x :: r) = 6 := by
  rw [goF, h]
end Go.Proofs.YtohhlnkdgfgjgaaDoor.P
