/- add, Create, Mkdir. -/
import Derived.Test.YtohhlnkdgfgjgaaDoorTe
namespace Go.Proofs.YtohhlnkdgfgjgaaDoor.P
open Go.RowKit Go.Proofs.YtohhlnkdgfgjgaaDoorW.PrintWords Go.Proofs.YtohhlnkdgfgjgaaDoorW.PrintLast Go.Proofs.YtohhlnkdgfgjgaaDoorW.PrintMore
theorem TreeAt.more {w : World} {own : Nat → Tag} {g N N' : Nat} {nb : List ByteArray → Nat} {T : List Th} (h : TreeAt w own g nb N T) (hN : N ≤ N') : TreeAt w own g nb N' T :=
  ⟨h.lt, h.self, h.top, h.nod, h.nn, h.par, fun p d s hp => (h.node p d s hp).move hN (fun _ _ => ⟨rfl, rfl⟩) rfl (fun _ => rfl) (fun _ _ => rfl)⟩
/-- To add a thing: the error's number, from its names on. -/
def addF (T : List Th) (ns : List ByteArray) : Int :=
  if ns = [] then 5 else if goF T [] ns.dropLast ≠ 0 then goF T [] ns.dropLast else if isDir T ns.dropLast = false then 6 else if (look T ns).isSome then 5 else 0
def addE (T : List Th) (s : ByteArray) : Int := if (cutB s).2 then addF T (cutB s).1 else 3
def addT (T : List Th) (s : ByteArray) (d : Bool) : List Th := if addE T s = 0 then T ++ [((cutB s).1, d, [])] else T
theorem parent_calls {ns up : List ByteArray} {x : ByteArray} (e : ns = up ++ [x]) (hl : ns.length < 100000) (A : Option Addr) (c : Nat) (w : World) (hr : Kd.C Kd.string w A ns.length ns) (hc : ns.length ≤ c) :
    Calls Tryd.prog 32 #[.slice A ns.length c] w fun e w' => ∃ (A' : Option Addr) (c' : Nat), e = .returned (.tuple #[.slice A' up.length c', .string x, .bool true]) ∧ up.length ≤ c' ∧ Kd.C Kd.string w' A' up.length up ∧ Below w.heap.size w w' := by
  have hp : path_Parent.f ns = some (up, x, true) := by
    subst e
    have := parent_f (up ++ [x]) (by omega) (by simp)
    simpa using this
  refine (path_Parent.calls A c ns up x true w hr hc hp).mono fun e w' ⟨v, he, hR, hb⟩ => ?_
  obtain ⟨A', c', rfl, hc', hC⟩ := Kd.R_reads hR
  exact ⟨A', c', he, hc', hC, hb⟩
theorem parent_calls_nil (A : Option Addr) (c : Nat) (w : World) : Calls Tryd.prog 32 #[.slice A 0 c] w fun e w' => ∃ (A' : Option Addr) (c' : Nat), e = .returned (.tuple #[.slice A' 0 c', .string ⟨#[]⟩, .bool false]) ∧ Below w.heap.size w w' := by
  refine (path_Parent.calls A c [] [] ⟨#[]⟩ false w ⟨rfl, by decide, fun h => absurd h (by decide)⟩ (Nat.zero_le _) parent_nil).mono fun e w' ⟨v, he, hR, hb⟩ => ?_
  obtain ⟨A', c', rfl, hc', hC⟩ := Kd.R_reads hR
  exact ⟨A', c', he, hb⟩
theorem isDir_at {T : List Th} {p : List ByteArray} {d : Bool} {s : List Int} (h : at' T p = some (d, s)) : isDir T p = d := by
  unfold isDir
  rw [h]
theorem addF_goes {T : List Th} {up : List ByteArray} {x : ByteArray} (h : goF T [] up ≠ 0) : addF T (up ++ [x]) = goF T [] up := by
  unfold addF
  rw [if_neg (by simp), List.dropLast_concat, if_pos h]
theorem addF_file {T : List Th} {up : List ByteArray} {x : ByteArray} (h : goF T [] up = 0) (h2 : isDir T up = false) : addF T (up ++ [x]) = 6 := by
  unfold addF
  rw [if_neg (by simp), List.dropLast_concat, if_neg (fun e => e h), if_pos h2]
theorem addF_is {T : List Th} {up : List ByteArray} {x : ByteArray} (h : goF T [] up = 0) (h2 : isDir T up = true) : addF T (up ++ [x]) = if (look T (up ++ [x])).isSome then 5 else 0 := by
  unfold addF
  rw [if_neg (by simp), List.dropLast_concat, if_neg (fun e => e h), if_neg (by rw [h2]; decide)]
/-- What add leaves, whatever it answers. -/
def Left (w w' : World) (own : Nat → Tag) (g : Nat) (nb : List ByteArray → Nat) (N : Nat) (T : List Th) : Prop :=
  ∃ own' nb', TreeAt w' own' g nb' N T ∧ Touch w w' own own' ∧ nb' [] = nb []
theorem Left.same {w w' : World} {own : Nat → Tag} {g N : Nat} {nb : List ByteArray → Nat} {T : List Th} (h : TreeAt w own g nb N T) (hb : Below w.heap.size w w') : Left w w' own g nb (N + 1) T :=
  ⟨own, nb, (h.below hb).more (Nat.le_succ _), Touch.of_below hb _, rfl⟩
/-- What the walks of a path's parent need. -/
structure Goes (w : World) (own : Nat → Tag) (g : Nat) (nb : List ByteArray → Nat) (T : List Th) (s : ByteArray) (n : Nat) (m : Nat) (x : ByteArray) (z : Int) (v : Value) : Prop where
  split : Calls Tryd.prog 28 #[.string s] w fun e w' => ∃ (A : Option Addr) (c : Nat), e = .returned (.tuple #[.slice A n c, .int .i64 0]) ∧ Below w.heap.size w w' ∧ Aside0 (∀ w1, Below w'.heap.size w' w1 → Calls Tryd.prog 32 #[.slice A n c] w1 fun e w' => ∃ (A' : Option Addr) (c' : Nat), e = .returned (.tuple #[.slice A' m c', .string x, .bool true]) ∧ Below w1.heap.size w1 w' ∧
      Aside0 (∀ w2, Below w'.heap.size w' w2 → Calls Tryd.prog 33 #[.pointer (some ⟨g, 0, none⟩), .slice A' m c'] w2 fun e w' => e = .returned (.tuple #[v, .int .i64 z]) ∧ w' = w2))
theorem goes {w : World} {own : Nat → Tag} {g N : Nat} {nb : List ByteArray → Nat} {T : List Th} (h : TreeAt w own g nb N T) {s : ByteArray} (hs : s.size ≤ 4000) (hc : (cutB s).2 = true) {up : List ByteArray} {x : ByteArray} (e : (cutB s).1 = up ++ [x]) :
    Goes w own g nb T s (cutB s).1.length up.length x (goF T [] up) (walkV nb T up) ∧ x.size ≤ maxLen := by
  have hX := cutB_sizes s
  have hlen : (cutB s).1.length ≤ 64 := cutB_len s
  refine ⟨⟨(split_calls s hs w).mono fun e1 w1 ⟨A, c, he, hcap, hC, hb⟩ => ⟨A, c, by rw [he, hc]; rfl, hb, ⟨fun w2 hb2 => ?_⟩⟩⟩, ?_⟩
  · refine (parent_calls e (by omega) A c w2 (Kd.C_below hC hb2) hcap).mono fun e3 w3 ⟨A', c', he3, hcap3, hC3, hb3⟩ => ⟨A', c', he3, hb3, ⟨fun w4 hb4 => ?_⟩⟩
    have hb13 : Below w1.heap.size w1 w3 := hb2.trans (hb3.mono hb2.size)
    have hb03 : Below w.heap.size w w3 := hb.trans (hb13.mono hb.size)
    exact tree_Tree_walk.calls (h.below (hb03.trans (hb4.mono hb03.size))) A' c' up (Kd.C_below hC3 hb4) (fun y hy => hX y (by rw [e]; exact List.mem_append_left _ hy))
  · have := hX x (by rw [e]; simp)
    unfold maxLen
    omega
end Go.Proofs.YtohhlnkdgfgjgaaDoor.P
