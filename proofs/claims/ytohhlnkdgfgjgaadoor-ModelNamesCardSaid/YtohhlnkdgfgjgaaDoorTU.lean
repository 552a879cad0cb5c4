/- A directory's names, rising; List. model.Do of a tree: what is asked, by its kind. The fourteenth chapter's example: model.Run of three deeds. The fourteenth chapter's example lives. -/
import Derived.Test.YtohhlnkdgfgjgaaDoorTT
import Derived.Test.YtohhlnkdgfgjgaaDoorIter
import Derived.CallsIn
import Derived.Deep.RegionHeld3
namespace Go.Proofs.YtohhlnkdgfgjgaaDoor.P
open Go.RowKit Go.Proofs.YtohhlnkdgfgjgaaDoorW.PrintWords Go.Proofs.YtohhlnkdgfgjgaaDoorW.PrintLast Go.Proofs.YtohhlnkdgfgjgaaDoorW.PrintMore
open Go.Sort
/-- The last of some names, if the others are these. -/
def kidOf (p : List ByteArray) (q : List ByteArray) : Option (List UInt8) := match q.reverse with | [] => none | n :: r => if r.reverse = p then some n.data.toList else none
def kidsB (T : List Th) (p : List ByteArray) : List (List UInt8) := (T.map (·.1)).filterMap (kidOf p)
def kidsS (T : List Th) (p : List ByteArray) : List (List UInt8) := (kidsB T p).mergeSort leB
theorem kidOf_some {p q : List ByteArray} {y : List UInt8} : kidOf p q = some y ↔ ∃ n : ByteArray, q = p ++ [n] ∧ n.data.toList = y := by
  unfold kidOf
  rcases List.eq_nil_or_concat q with rfl | ⟨r, n, rfl⟩
  · simp
  · simp only [List.concat_eq_append, List.reverse_append, List.reverse_cons, List.reverse_nil, List.nil_append, List.singleton_append, List.reverse_reverse]
    constructor
    · intro h
      split at h
      · rename_i e
        cases h
        exact ⟨n, by rw [e], rfl⟩
      · cases h
    · rintro ⟨n', e, rfl⟩
      obtain ⟨rfl, rfl⟩ := snoc_inj' e
      rw [if_pos rfl]
theorem kidsB_nodup {T : List Th} (h : (T.map (·.1)).Nodup) (p : List ByteArray) : (kidsB T p).Nodup := by
  unfold kidsB
  rw [List.Nodup, List.pairwise_filterMap]
  refine h.imp fun {a b} hne x hx y hy e => hne ?_
  obtain ⟨n, rfl, rfl⟩ := kidOf_some.1 hx
  obtain ⟨m, rfl, e2⟩ := kidOf_some.1 hy
  rw [← e] at e2
  rw [ba_ext e2]
theorem mem_kidsB {T : List Th} {p : List ByteArray} {y : List UInt8} : y ∈ kidsB T p ↔ ∃ n : ByteArray, (look T (p ++ [n])).isSome = true ∧ n.data.toList = y := by
  unfold kidsB
  rw [List.mem_filterMap]
  constructor
  · rintro ⟨q, hq, h⟩
    obtain ⟨n, rfl, rfl⟩ := kidOf_some.1 h
    exact ⟨n, look_mem.2 hq, rfl⟩
  · rintro ⟨n, h, rfl⟩
    exact ⟨p ++ [n], look_mem.1 h, kidOf_some.2 ⟨n, rfl, rfl⟩⟩
theorem kids_perm {w : World} {bm N : Nat} {M : DataW Unit} {nb : List ByteArray → Nat} {T : List Th} {p : List ByteArray} (hM : w.ownsMap Tryd.prog 9 ptrR bm N M) (hK : KidsAre nb T p M) (hT : (T.map (·.1)).Nodup) : (kidsB T p).Perm (strKeys M) := by
  obtain ⟨es, rfl, hpw⟩ := hM.tidy law9
  obtain ⟨es', hD', hko⟩ := hM.keysOf
  obtain rfl : es = es' := by simpa using hD'
  refine perm_strKeys hpw (fun q hq => by obtain ⟨v, hv⟩ := hko q hq; obtain ⟨x, _, hx, _⟩ := Maps.keyOf_str Tryd.underlying9 hv; exact ⟨x, hx⟩) (kidsB_nodup hT p) (fun x => ?_)
  have hx := (hK ⟨x.toArray⟩).2
  have e : (strL ⟨x.toArray⟩ : Lit) = .string x := rfl
  rw [mem_kidsB]
  rw [e] at hx
  rw [hx]
  constructor
  · rintro ⟨n, h, rfl⟩
    have : (⟨n.data.toList.toArray⟩ : ByteArray) = n := ba_ext (by simp)
    rw [this]
    exact h
  · intro h
    exact ⟨_, h, by simp⟩
section
variable {w : World} {own : Nat → Tag} {g N : Nat} {nb : List ByteArray → Nat} {T : List Th}
/-- A row of names of the call's own. -/
def Names (w w' : World) (v : Value) (l : List (List UInt8)) : Prop := w'.ownsRow w.heap.size 9 1 v l.length (l.map encStr) ∧ Below w.heap.size w w'
set_option maxHeartbeats 4000000 in
set_option maxRecDepth 100000 in
theorem node_names.calls (h : TreeAt w own g nb N T) {p : List ByteArray} {s : List Int} (hp : at' T p = some (true, s)) (hN : N ≤ 1000000) :
    Calls Tryd.prog 94 #[.pointer (some ⟨nb p, 0, none⟩)] w fun e w' => ∃ v, e = .returned v ∧ Names w w' v (kidsS T p) := by
  obtain ⟨A0, c0, mb, hcell, _, _, hd1⟩ := h.cells hp
  obtain ⟨_, bm, M, rfl, hbm, hM, hK⟩ := hd1 rfl
  have hk2 : w.cell? ⟨nb p, 2, none⟩ = some (.map (some bm)) := blk_cell hcell 2
  have hsz := hM.size_le
  have hperm := kids_perm hM hK h.nod
  have CK := Aside0.mk (callsIn_wide.1 (Tryd.maps_Keys_96 (some bm) w))
  have CS := Aside0.mk (callsIn_wide.1 (Tryd.slices_Sorted_keys_95_96 bm N M ptrR w hM (by unfold maxLen; omega) (by omega)))
  generalize nb p = b at *
  have HP := Aside0.mk hperm
  clear h hp hcell hd1 hM hK hbm hsz hperm hN
  go_enter Tryd.func94, Tryd.ntmps94
  go_wp2_with (first | (go_at_call 96; (with_reducible refine CK.out.mono ?_); rintro e w1 ⟨rfl, rfl⟩) | (go_at_call 95; (with_reducible refine CS.out.mono ?_); rintro e w2 ⟨v, ss, rfl, hss, ho, _, hb⟩; have HSS := Aside0.mk hss; have HO := Aside0.mk ho; have HBB := Aside0.mk hb; clear hss ho hb))
  go_ret
  refine ⟨v, rfl, ?_, ?_⟩
  · have e1 : ss.mergeSort leB = kidsS T p := mergeSort_of_perm (HSS.out.trans HP.out.symm)
    have ho := HO.out
    have e2 : (ss.mergeSort (fun x y => decide (x ≤ y))) = kidsS T p := e1
    rw [e2] at ho
    have e3 : ss.length = (kidsS T p).length := by rw [← e1, List.length_mergeSort]
    rw [e3] at ho
    exact own_base' ho (by show w.heap.size ≤ (w.heap.push _).size; simp)
  · exact (below_alloc (Below.refl _ _) _).trans (HBB.out.mono (by show w.heap.size ≤ (w.heap.push _).size; simp))
def listE (T : List Th) (s : ByteArray) : Int := if findE T s ≠ 0 then findE T s else if isDir T (cutB s).1 then 0 else 6
def listB (T : List Th) (s : ByteArray) : List (List UInt8) := if listE T s = 0 then kidsS T (cutB s).1 else []
def Listed (w w' : World) (e : Ending) (l : List (List UInt8)) (z : Int) : Prop := ∃ v, e = .returned (.tuple #[v, .int .i64 z]) ∧ Names w w' v l
theorem Listed.nil {w' : World} {z : Int} (hb : Below w.heap.size w w') : Listed w w' (.returned (.tuple #[.slice none 0 0, .int .i64 z])) [] z := ⟨_, rfl, ⟨rfl, .inl ⟨rfl, rfl⟩⟩, hb⟩
set_option maxHeartbeats 4000000 in
set_option maxRecDepth 100000 in
theorem tree_Tree_List.calls (h : TreeAt w own g nb N T) (s : ByteArray) (hs : s.size ≤ 4000) (hN : N ≤ 1000000) :
    Calls Tryd.prog 91 #[.pointer (some ⟨g, 0, none⟩), .string s] w fun e w' => Listed w w' e (listB T s) (listE T s) := by
  by_cases hf : findE T s = 0
  · obtain ⟨d, y, hy⟩ := find_at hf
    have C := Aside0.mk (find_ok h s hs hf)
    have hdir := isDir_at hy
    obtain ⟨A0, c0, mb, hcell, _⟩ := h.cells hy
    have hk0 : w.cell? ⟨nb (cutB s).1, 0, none⟩ = some (.bool d) := blk_cell hcell 0
    cases d with
    | false =>
      have e6 : listE T s = 6 := by unfold listE; rw [if_neg (fun e => e hf), hdir]; rfl
      have eB : listB T s = [] := by unfold listB; rw [if_neg (by rw [e6]; decide)]
      rw [e6, eB]
      generalize nb (cutB s).1 = b at *
      clear h hs hf hy hdir hcell e6 eB
      go_enter Tryd.func91, Tryd.ntmps91
      go_wp2_with (go_at_call 30; (with_reducible refine C.out.mono ?_); rintro e w1 ⟨rfl, hb⟩; have hk0' := pw_cell_below hb hk0)
      go_ret2
      exact Listed.nil hb
    | true =>
      have e0 : listE T s = 0 := by unfold listE; rw [if_neg (fun e => e hf), hdir]; rfl
      have eB : listB T s = kidsS T (cutB s).1 := by unfold listB; rw [if_pos e0]
      rw [e0, eB]
      have CN : Aside0 (∀ w1, Below w.heap.size w w1 → Calls Tryd.prog 94 #[.pointer (some ⟨nb (cutB s).1, 0, none⟩)] w1 fun e w' => ∃ v, e = .returned v ∧ Names w1 w' v (kidsS T (cutB s).1)) := ⟨fun w1 hb => node_names.calls (h.below hb) hy hN⟩
      generalize kidsS T (cutB s).1 = l at *
      generalize nb (cutB s).1 = b at *
      clear h hs hf hy hdir hcell e0 eB
      go_enter Tryd.func91, Tryd.ntmps91
      go_wp2_with (first | (go_at_call 30; (with_reducible refine C.out.mono ?_); rintro e w1 ⟨rfl, hb⟩; have hk0' := pw_cell_below hb hk0) | (go_at_call 94; (with_reducible refine (CN.out _ hb).mono ?_); rintro e w2 ⟨v, rfl, hn⟩; have HN := Aside0.mk hn; clear hn))
      go_ret2
      exact ⟨v, rfl, own_base' HN.out.1 hb.size, hb.trans (HN.out.2.mono hb.size)⟩
  · have e0 : listE T s = findE T s := by unfold listE; rw [if_pos hf]
    have eB : listB T s = [] := by unfold listB; rw [if_neg (by rw [e0]; exact hf)]
    rw [e0, eB]
    have C1 := tree_Tree_find.calls h s hs
    unfold findV at C1
    rw [decide_eq_false hf] at C1
    simp only [ptrIf, Bool.false_eq_true, if_false] at C1
    have hne : (findE T s == 0) = false := by simpa using hf
    have hne2 : (findE T s != 0) = true := by simpa using hf
    generalize findE T s = x at *
    have C := Aside0.mk C1
    clear C1 hf h hs e0 eB
    go_enter Tryd.func91, Tryd.ntmps91
    go_wp2_with (go_at_call 30; (with_reducible refine C.out.mono ?_); rintro e w1 ⟨rfl, hb⟩)
    go_ret2
    exact Listed.nil hb
end
end Go.Proofs.YtohhlnkdgfgjgaaDoor.P
namespace Go.Proofs.YtohhlnkdgfgjgaaDoor.P
open Go.RowKit Go.Proofs.YtohhlnkdgfgjgaaDoorW.PrintWords Go.Proofs.YtohhlnkdgfgjgaaDoorW.PrintLast Go.Proofs.YtohhlnkdgfgjgaaDoorW.PrintMore
section
variable {w : World} {own : Nat → Tag} {g N : Nat} {nb : List ByteArray → Nat} {T : List Th}
theorem TreeAt.fresh (h : TreeAt w own g nb N T) {b : Nat} (hb : w.heap.size ≤ b) : own b = .no := by
  rcases Classical.em (own b = .no) with e | e
  · exact e
  · have := h.lt b e
    omega
/-- The deed and the two answers that are built beside it. -/
abbrev doW (w : World) (k : Int) (p : ByteArray) (a n : Int) (A : Option Addr) (m c : Nat) : World :=
  ((w.alloc (.cells #[.int .i64 k, .string p, .int .i64 a, .int .i64 n, .slice A m c] 58)).alloc (.cells #[.int .i64 0, .slice none 0 0, .slice none 0 0] 40)).alloc (.cells #[.int .i64 0, .slice none 0 0, .slice none 0 0] 40)
theorem doW_below (w : World) (k : Int) (p : ByteArray) (a n : Int) (A : Option Addr) (m c : Nat) : Below w.heap.size w (doW w k p a n A m c) := below_alloc (below_alloc (below_alloc (Below.refl _ _) _) _) _
theorem doW_size (w : World) (k : Int) (p : ByteArray) (a n : Int) (A : Option Addr) (m c : Nat) : (doW w k p a n A m c).heap.size = w.heap.size + 3 := by show (((w.heap.push _).push _).push _).size = _; simp
theorem doW_one (w : World) (k : Int) (p : ByteArray) (a n : Int) (A : Option Addr) (m c : Nat) : (doW w k p a n A m c).heap[w.heap.size + 1]? = some (.cells #[.int .i64 0, .slice none 0 0, .slice none 0 0] 40 (0, 0)) := by
  have h1 : (w.alloc (.cells #[.int .i64 k, .string p, .int .i64 a, .int .i64 n, .slice A m c] 58)).heap.size = w.heap.size + 1 := by show (w.heap.push _).size = _; simp
  have := blk_new (w.alloc (.cells #[.int .i64 k, .string p, .int .i64 a, .int .i64 n, .slice A m c] 58)) (.cells #[.int .i64 0, .slice none 0 0, .slice none 0 0] 40)
  rw [h1] at this
  exact blk_alloc this _
theorem doW_two (w : World) (k : Int) (p : ByteArray) (a n : Int) (A : Option Addr) (m c : Nat) : (doW w k p a n A m c).heap[w.heap.size + 1 + 1]? = some (.cells #[.int .i64 0, .slice none 0 0, .slice none 0 0] 40 (0, 0)) := by
  have h1 : ((w.alloc (.cells #[.int .i64 k, .string p, .int .i64 a, .int .i64 n, .slice A m c] 58)).alloc (.cells #[.int .i64 0, .slice none 0 0, .slice none 0 0] 40)).heap.size = w.heap.size + 1 + 1 := by show ((w.heap.push _).push _).size = _; simp
  have := blk_new ((w.alloc (.cells #[.int .i64 k, .string p, .int .i64 a, .int .i64 n, .slice A m c] 58)).alloc (.cells #[.int .i64 0, .slice none 0 0, .slice none 0 0] 40)) (.cells #[.int .i64 0, .slice none 0 0, .slice none 0 0] 40)
  rw [h1] at this
  exact this
/-- Behind the call that is asked: the two answers are as they were. -/
structure Kept2 (w w1 : World) : Prop where
  one : w1.heap[w.heap.size + 1]? = some (.cells #[.int .i64 0, .slice none 0 0, .slice none 0 0] 40 (0, 0))
  two : w1.heap[w.heap.size + 1 + 1]? = some (.cells #[.int .i64 0, .slice none 0 0, .slice none 0 0] 40 (0, 0))
theorem Kept2.of (h : TreeAt w own g nb N T) {k : Int} {p : ByteArray} {a n : Int} {A : Option Addr} {m c : Nat} {w1 : World} {own' : Nat → Tag} (ht : Touch (doW w k p a n A m c) w1 own own') : Kept2 w w1 := by
  have hs := doW_size w k p a n A m c
  exact ⟨(ht.kept _ (by omega) (h.fresh (by omega))).trans (doW_one ..), (ht.kept _ (by omega) (h.fresh (by omega))).trans (doW_two ..)⟩
theorem Kept2.below {w1 w2 : World} (h : Kept2 w w1) (hb : Below w1.heap.size w1 w2) : Kept2 w w2 := ⟨blk_below h.one hb, blk_below h.two hb⟩
/-- What a deed leaves: a tree, and what it may turn. -/
def Did (w w' : World) (own : Nat → Tag) (g : Nat) (nb : List ByteArray → Nat) (N : Nat) (T : List Th) : Prop := ∃ own' nb', TreeAt w' own' g nb' N T ∧ Touch w w' own own' ∧ nb' [] = nb []
theorem set_fresh {w0 w1 : World} {own' : Nat → Tag} {nb' : List ByteArray → Nat} {b : Nat} (hT : TreeAt w1 own' g nb' N T) (ht : Touch w0 w1 own own') (hb : w0.heap.size ≤ b) (hn : own' b = .no) (i : Nat) (u : Value) : TreeAt (w1.setCell ⟨b, i, none⟩ u) own' g nb' N T ∧ Touch w0 (w1.setCell ⟨b, i, none⟩ u) own own' :=
  ⟨hT.kept (by rw [setCell_size]; exact Nat.le_refl _) (fun c hc => Below.heap_setCell w1 ⟨b, i, none⟩ u c (fun e => hc (by rw [e]; exact hn))), ht.set (.inr hb) i u⟩
theorem ans_blk {w S : World} (h : S.heap[w.heap.size + 1]? = some (.cells #[.int .i64 0, .slice none 0 0, .slice none 0 0] 40 (0, 0))) (e d l : Value) :
    (((S.setCell ⟨w.heap.size + 1, 0, none⟩ e).setCell ⟨w.heap.size + 1, 1, none⟩ d).setCell ⟨w.heap.size + 1, 2, none⟩ l).heap[w.heap.size + 1]? = some (.cells #[e, d, l] 40 (0, 0)) :=
  blk_put (blk_put (blk_put h 0 _ rfl) 1 _ rfl) 2 _ rfl
theorem two_far {w S : World} (h : S.heap[w.heap.size + 1]? = some (.cells #[.int .i64 0, .slice none 0 0, .slice none 0 0] 40 (0, 0))) (i : Nat) (u : Value) : (S.setCell ⟨w.heap.size + 1 + 1, i, none⟩ u).heap[w.heap.size + 1]? = some (.cells #[.int .i64 0, .slice none 0 0, .slice none 0 0] 40 (0, 0)) :=
  blk_far h (by simp) u
/-- Stores into the two answers: the tree stays, and whatever was there. -/
structure After (w : World) (own own' : Nat → Tag) (g : Nat) (nb' : List ByteArray → Nat) (N : Nat) (T : List Th) (S : World) : Prop where
  tree : TreeAt S own' g nb' N T
  touch : Touch w S own own'
  no : ∀ b, w.heap.size ≤ b → b < w.heap.size + 3 → own' b = .no
theorem After.of (h0 : TreeAt w own g nb N T) {k : Int} {p : ByteArray} {a n : Int} {A : Option Addr} {m c : Nat} {own' : Nat → Tag} {nb' : List ByteArray → Nat} {N' : Nat} {T' : List Th} {S : World} (hT : TreeAt S own' g nb' N' T') (ht : Touch (doW w k p a n A m c) S own own') : After w own own' g nb' N' T' S :=
  ⟨hT, (Touch.of_below (doW_below ..) own).trans ht, fun b h1 h2 => by
    rcases Classical.em (own' b = .no) with e | e
    · exact e
    · rcases ht.more b e with e | e
      · exact absurd (h0.fresh h1) e
      · rw [doW_size] at e
        omega⟩
theorem After.set {own' : Nat → Tag} {nb' : List ByteArray → Nat} {N' : Nat} {T' : List Th} {S : World} (h : After w own own' g nb' N' T' S) {b : Nat} (hb : w.heap.size ≤ b) (hb2 : b < w.heap.size + 3) (i : Nat) (u : Value) : After w own own' g nb' N' T' (S.setCell ⟨b, i, none⟩ u) :=
  ⟨h.tree.kept (by rw [setCell_size]; exact Nat.le_refl _) (fun c hc => Below.heap_setCell S ⟨b, i, none⟩ u c (fun e => hc (by rw [e]; exact h.no b hb hb2))), h.touch.set (.inr hb) i u, h.no⟩
theorem After.did {own' : Nat → Tag} {nb' : List ByteArray → Nat} {N' : Nat} {T' : List Th} {S : World} (h : After w own own' g nb' N' T' S) (hr : nb' [] = nb []) : Did w S own g nb N' T' := ⟨own', nb', h.tree, h.touch, hr⟩
set_option maxHeartbeats 8000000 in
set_option maxRecDepth 400000 in
theorem do_create (h : TreeAt w own g nb N T) (p : ByteArray) (hp : p.size ≤ 4000) (hN : N < 1000000) (a n : Int) (A : Option Addr) (m c : Nat) :
    Calls Tryd.prog 34 #[.iface 25 (.pointer (some ⟨g, 0, none⟩)), .agg #[.int .i64 0, .string p, .int .i64 a, .int .i64 n, .slice A m c]] w fun e w' => e = .returned (.agg #[.int .i64 (addE T p), .slice none 0 0, .slice none 0 0]) ∧ Did w w' own g nb (N + 1) (addT T p false) := by
  have HC : Aside0 (Calls Tryd.prog 8 #[.pointer (some ⟨g, 0, none⟩), .string p] (doW w 0 p a n A m c) fun e w' => e = .returned (.int .i64 (addE T p)) ∧ Left (doW w 0 p a n A m c) w' own g nb (N + 1) (addT T p false)) := ⟨tree_Tree_Create.calls (h.below (doW_below ..)) p hp hN⟩
  have hm : ∀ w : World, (method 257 25 (.pointer (some ⟨g, 0, none⟩)) "Create").run Tryd.prog w = .ok (8, .pointer (some ⟨g, 0, none⟩)) w := fun _ => by kernel_rfl
  have HT := Aside0.mk h
  clear h hp hN
  go_enter Tryd.func34, Tryd.ntmps34
  go_wp2_with fail
  refine HC.out.mono ?_
  rintro e w1 ⟨rfl, hl⟩
  obtain ⟨own', nb', hT', ht', hr'⟩ := hl
  have K2 := Aside0.mk (Kept2.of HT.out ht')
  have HT' := Aside0.mk hT'
  have HH := Aside0.mk ht'
  have HR := Aside0.mk hr'
  clear hT' ht' hr'
  have hz1 := blk_cell K2.out.one 0; have hz2 := blk_cell K2.out.two 0; have hy2 := blk_cell K2.out.two 1; have hx2 := blk_cell K2.out.two 2; have hy1 := blk_cell K2.out.one 1; have hx1 := blk_cell K2.out.one 2
  have hf0 := blk_frozen K2.out.one 0; have hf1 := blk_frozen K2.out.one 1; have hf2 := blk_frozen K2.out.one 2; have hg0 := blk_frozen K2.out.two 0; have hg1 := blk_frozen K2.out.two 1; have hg2 := blk_frozen K2.out.two 2
  simp at hz1 hz2 hy2 hx2 hy1 hx1
  go_wp2_with fail
  refine bodyPost_ret (results_cell_row rfl _ _ (w.heap.size + 1) 40 #[.int .i64 (addE T p), .slice none 0 0, .slice none 0 0] (0, 0) _ rfl ?_ Tryd.underlying40 rfl (by kernel_rfl)) rfl ?_
  · exact ans_blk (two_far K2.out.one 0 _) _ _ _
  · have A0 := After.of HT.out HT'.out HH.out
    exact ⟨rfl, ((((A0.set (b := w.heap.size + 1 + 1) (by omega) (by omega) 0 _).set (b := w.heap.size + 1) (by omega) (by omega) 0 _).set (b := w.heap.size + 1) (by omega) (by omega) 1 _).set (b := w.heap.size + 1) (by omega) (by omega) 2 _).did HR.out⟩
theorem row_kept {w1 : World} {e n : Nat} {v : Value} {xs : List Value} (h : w1.ownsRow (w.heap.size + 3) e 1 v n xs) {b : Nat} (hb : b < w.heap.size + 3) (i : Nat) (u : Value) : (w1.setCell ⟨b, i, none⟩ u).ownsRow (w.heap.size + 3) e 1 v n xs := by
  refine ⟨h.1, h.2.imp_right fun ⟨g', cap, cur, e1, hg, hh, r⟩ => ⟨g', cap, cur, e1, hg, ?_, r⟩⟩
  rw [Below.heap_setCell w1 ⟨b, i, none⟩ u g' (by intro e2; simp only at e2; omega)]
  exact hh
set_option maxHeartbeats 8000000 in
set_option maxRecDepth 400000 in
theorem do_read (h : TreeAt w own g nb N T) (p : ByteArray) (hp : p.size ≤ 4000) (hS : Short T) (a n : Int) (A : Option Addr) (m c : Nat) :
    Calls Tryd.prog 34 #[.iface 25 (.pointer (some ⟨g, 0, none⟩)), .agg #[.int .i64 6, .string p, .int .i64 a, .int .i64 n, .slice A m c]] w fun e w' => ∃ (A' : Option Addr) (c' : Nat), e = .returned (.agg #[.int .i64 (readE T p a n), .slice A' (readB T p a n).length c', .slice none 0 0]) ∧ w'.ownsRow w.heap.size 5 1 (.slice A' (readB T p a n).length c') (readB T p a n).length ((readB T p a n).map (Value.int .u8)) ∧ Did w w' own g nb N T := by
  have HC : Aside0 (Calls Tryd.prog 10 #[.pointer (some ⟨g, 0, none⟩), .string p, .int .i64 a, .int .i64 n] (doW w 6 p a n A m c) fun e w' => Got (doW w 6 p a n A m c) w' e (readB T p a n) (readE T p a n)) := ⟨tree_Tree_Read.calls (h.below (doW_below ..)) p hp a n hS⟩
  have hm : ∀ w : World, (method 257 25 (.pointer (some ⟨g, 0, none⟩)) "Read").run Tryd.prog w = .ok (10, .pointer (some ⟨g, 0, none⟩)) w := fun _ => by kernel_rfl
  have HT := Aside0.mk h
  clear h hp hS
  go_enter Tryd.func34, Tryd.ntmps34
  go_wp2_with fail
  refine HC.out.mono ?_
  rintro e w1 ⟨A', c', rfl, ho, hb⟩
  have HO := Aside0.mk ho
  clear ho
  have K2 := Aside0.mk (Kept2.below ⟨doW_one .., doW_two ..⟩ hb)
  have hz1 := blk_cell K2.out.one 0; have hz2 := blk_cell K2.out.two 0; have hy2 := blk_cell K2.out.two 1; have hx2 := blk_cell K2.out.two 2; have hy1 := blk_cell K2.out.one 1; have hx1 := blk_cell K2.out.one 2
  have hf0 := blk_frozen K2.out.one 0; have hf1 := blk_frozen K2.out.one 1; have hf2 := blk_frozen K2.out.one 2; have hg0 := blk_frozen K2.out.two 0; have hg1 := blk_frozen K2.out.two 1; have hg2 := blk_frozen K2.out.two 2
  simp at hz1 hz2 hy2 hx2 hy1 hx1
  go_wp2_with fail
  refine bodyPost_ret (results_cell_row rfl _ _ (w.heap.size + 1) 40 #[.int .i64 (readE T p a n), .slice A' (readB T p a n).length c', .slice none 0 0] (0, 0) _ rfl ?_ Tryd.underlying40 rfl (by kernel_rfl)) rfl ?_
  · exact ans_blk (two_far (two_far K2.out.one 1 _) 0 _) _ _ _
  · have A0 := After.of HT.out ((HT.out.below (doW_below w 6 p a n A m c)).below hb) (Touch.of_below hb own)
    have HO1 := HO.out
    rw [doW_size] at HO1
    exact ⟨A', c', rfl, own_base' (row_kept (row_kept (row_kept (row_kept (row_kept HO1 (b := w.heap.size + 1 + 1) (by omega) 1 _) (b := w.heap.size + 1 + 1) (by omega) 0 _) (b := w.heap.size + 1) (by omega) 0 _) (b := w.heap.size + 1) (by omega) 1 _) (b := w.heap.size + 1) (by omega) 2 _) (by omega), (((((A0.set (b := w.heap.size + 1 + 1) (by omega) (by omega) 1 _).set (b := w.heap.size + 1 + 1) (by omega) (by omega) 0 _).set (b := w.heap.size + 1) (by omega) (by omega) 0 _).set (b := w.heap.size + 1) (by omega) (by omega) 1 _).set (b := w.heap.size + 1) (by omega) (by omega) 2 _).did rfl⟩
set_option maxHeartbeats 8000000 in
set_option maxRecDepth 400000 in
theorem do_list (h : TreeAt w own g nb N T) (p : ByteArray) (hp : p.size ≤ 4000) (hN : N ≤ 1000000) (a n : Int) (A : Option Addr) (m c : Nat) :
    Calls Tryd.prog 34 #[.iface 25 (.pointer (some ⟨g, 0, none⟩)), .agg #[.int .i64 7, .string p, .int .i64 a, .int .i64 n, .slice A m c]] w fun e w' => ∃ (A' : Option Addr) (c' : Nat), e = .returned (.agg #[.int .i64 (listE T p), .slice none 0 0, .slice A' (listB T p).length c']) ∧ w'.ownsRow w.heap.size 9 1 (.slice A' (listB T p).length c') (listB T p).length ((listB T p).map encStr) ∧ Did w w' own g nb N T := by
  have HC : Aside0 (Calls Tryd.prog 91 #[.pointer (some ⟨g, 0, none⟩), .string p] (doW w 7 p a n A m c) fun e w' => Listed (doW w 7 p a n A m c) w' e (listB T p) (listE T p)) := ⟨tree_Tree_List.calls (h.below (doW_below ..)) p hp hN⟩
  have hm : ∀ w : World, (method 257 25 (.pointer (some ⟨g, 0, none⟩)) "List").run Tryd.prog w = .ok (91, .pointer (some ⟨g, 0, none⟩)) w := fun _ => by kernel_rfl
  have HT := Aside0.mk h
  clear h hp hN
  go_enter Tryd.func34, Tryd.ntmps34
  go_wp2_with fail
  refine HC.out.mono ?_
  rintro e w1 ⟨v, rfl, ho, hb⟩
  obtain ⟨A', c', rfl⟩ := owns_slice ho
  have HO := Aside0.mk ho
  clear ho
  have K2 := Aside0.mk (Kept2.below ⟨doW_one .., doW_two ..⟩ hb)
  have hz1 := blk_cell K2.out.one 0; have hz2 := blk_cell K2.out.two 0; have hy2 := blk_cell K2.out.two 1; have hx2 := blk_cell K2.out.two 2; have hy1 := blk_cell K2.out.one 1; have hx1 := blk_cell K2.out.one 2
  have hf0 := blk_frozen K2.out.one 0; have hf1 := blk_frozen K2.out.one 1; have hf2 := blk_frozen K2.out.one 2; have hg0 := blk_frozen K2.out.two 0; have hg1 := blk_frozen K2.out.two 1; have hg2 := blk_frozen K2.out.two 2
  simp at hz1 hz2 hy2 hx2 hy1 hx1
  go_wp2_with fail
  refine bodyPost_ret (results_cell_row rfl _ _ (w.heap.size + 1) 40 #[.int .i64 (listE T p), .slice none 0 0, .slice A' (listB T p).length c'] (0, 0) _ rfl ?_ Tryd.underlying40 rfl (by kernel_rfl)) rfl ?_
  · exact ans_blk (two_far (two_far K2.out.one 2 _) 0 _) _ _ _
  · have A0 := After.of HT.out ((HT.out.below (doW_below w 7 p a n A m c)).below hb) (Touch.of_below hb own)
    have HO1 := HO.out
    rw [doW_size] at HO1
    exact ⟨A', c', rfl, own_base' (row_kept (row_kept (row_kept (row_kept (row_kept HO1 (b := w.heap.size + 1 + 1) (by omega) 2 _) (b := w.heap.size + 1 + 1) (by omega) 0 _) (b := w.heap.size + 1) (by omega) 0 _) (b := w.heap.size + 1) (by omega) 1 _) (b := w.heap.size + 1) (by omega) 2 _) (by omega), (((((A0.set (b := w.heap.size + 1 + 1) (by omega) (by omega) 2 _).set (b := w.heap.size + 1 + 1) (by omega) (by omega) 0 _).set (b := w.heap.size + 1) (by omega) (by omega) 0 _).set (b := w.heap.size + 1) (by omega) (by omega) 1 _).set (b := w.heap.size + 1) (by omega) (by omega) 2 _).did rfl⟩
end
end Go.Proofs.YtohhlnkdgfgjgaaDoor.P
namespace Go.Proofs.YtohhlnkdgfgjgaaDoor.P
open Go.RowKit Go.Proofs.YtohhlnkdgfgjgaaDoorW.PrintWords Go.Proofs.YtohhlnkdgfgjgaaDoorW.PrintLast Go.Proofs.YtohhlnkdgfgjgaaDoorW.PrintMore
def run14D : Array Value := #[.int .i64 0, .string ⟨#[47, 97]⟩, .int .i64 0, .int .i64 0, .slice none 0 0, .int .i64 6, .string ⟨#[47, 97]⟩, .int .i64 0, .int .i64 5, .slice none 0 0, .int .i64 7, .string ⟨#[47]⟩, .int .i64 0, .int .i64 0, .slice none 0 0]
theorem info_ans : (Tryd.prog.info? 40).map (fun i => (i.zero, i.size, i.bytes)) = some (some (.agg #[.int .i64 0, .slice none 0 0, .slice none 0 0]), 3, 56) := by kernel_rfl
/-- Deeds that are run: the tree, the deeds, the answers so far. -/
structure R14 (w0 W : World) (own : Nat → Tag) (g : Nat) (nb : List ByteArray → Nat) (N : Nat) (T : List Th) (b : Nat) (fr : Nat × Nat) (v : Value) (n : Nat) (cs : List Value) : Prop where
  tree : TreeAt W own g nb N T
  deeds : W.heap[b]? = some (.cells run14D 58 fr)
  bno : own b = .no
  out : W.ownsRow w0.heap.size 40 3 v n cs
  ono : ∀ c, v.ownBlock = some c → own c = .no
  base : Below w0.heap.size w0 W
  low : ∀ c, c < w0.heap.size → own c = .no
section
variable {w0 W : World} {own : Nat → Tag} {g : Nat} {nb : List ByteArray → Nat} {N : Nat} {T : List Th} {b : Nat} {fr : Nat × Nat} {v : Value} {n : Nat} {cs : List Value}
theorem R14.did (h : R14 w0 W own g nb N T b fr v n cs) {o : Obj} {w1 : World} {N' : Nat} {T' : List Th} (hd : Did (W.alloc o) w1 own g nb N' T') : ∃ own' nb', R14 w0 w1 own' g nb' N' T' b fr v n cs ∧ w1.heap.size ≥ W.heap.size + 1 := by
  obtain ⟨own', nb', hT, ht, _⟩ := hd
  have hs : (W.alloc o).heap.size = W.heap.size + 1 := by show (W.heap.push _).size = _; simp
  have hbl : b < W.heap.size := (Array.getElem?_eq_some_iff.1 h.deeds).1
  have hB : Below W.heap.size W (W.alloc o) := below_alloc (Below.refl _ _) _
  have hno : ∀ c, c < W.heap.size → own c = .no → own' c = .no := fun c hc hn => by
    rcases Classical.em (own' c = .no) with e | e
    · exact e
    · rcases ht.more c e with e | e
      · exact absurd hn e
      · omega
  have hk : ∀ c, c < W.heap.size → own c = .no → w1.heap[c]? = W.heap[c]? := fun c hc hn => (ht.kept c (by omega) hn).trans (hB.block c hc)
  refine ⟨own', nb', ⟨hT, (hk b hbl h.bno).trans h.deeds, hno b hbl h.bno, own_move h.out (fun c hc => hk c (owns_block h.out hc) (h.ono c hc)), fun c hc => hno c (owns_block h.out hc) (h.ono c hc), ?_, fun c hc => hno c (Nat.lt_of_lt_of_le hc h.base.size) (h.low c hc)⟩, by have := ht.z.size; omega⟩
  have hlow : ∀ c, c < w0.heap.size → own c = .no := h.low
  exact (h.base.trans (hB.mono h.base.size)).trans (ht.below (by have := h.base.size; omega) hlow)
theorem R14.app (h : R14 w0 W own g nb N T b fr v n cs) {w2 : World} {v1 : Value} {ys : List Value} (ho : w2.ownsRow w0.heap.size 40 3 v1 (n + 1) (cs ++ ys)) (hg : W.grownBy w2 v.ownBlock) (hat : v1.ownBlock = v.ownBlock ∨ ∃ c, v1.ownBlock = some c ∧ W.heap.size ≤ c) : R14 w0 w2 own g nb N T b fr v1 (n + 1) (cs ++ ys) := by
  have hbl : b < W.heap.size := (Array.getElem?_eq_some_iff.1 h.deeds).1
  have hne : ∀ c, own c ≠ .no → some c ≠ v.ownBlock := fun c hc e => hc (h.ono c e.symm)
  have hbv : some b ≠ v.ownBlock := fun e => by
    obtain ⟨cells, hc⟩ := own_typed h.out b e.symm
    have h2 := h.deeds
    rw [hc] at h2
    simp at h2
  refine ⟨h.tree.kept hg.size (fun c hc => hg.block c (h.tree.lt c hc) (hne c hc)), (hg.block b hbl hbv).trans h.deeds, h.bno, ho, fun c hc => ?_, ?_, h.low⟩
  · rcases hat with e | ⟨c', e, hc'⟩
    · exact h.ono c (by rw [← e]; exact hc)
    · rw [hc] at e
      obtain rfl := Option.some.inj e
      exact h.tree.fresh hc'
  · refine ⟨hg.os.trans h.base.os, hg.tape.trans h.base.tape, hg.output.trans h.base.output, Nat.le_trans h.base.size hg.size, fun c hc => ?_⟩
    refine (hg.block c (Nat.lt_of_lt_of_le hc h.base.size) (fun e => ?_)).trans (h.base.block c hc)
    rcases h.out.2 with ⟨e1, _⟩ | ⟨g', cap, cur, e1, hg', _⟩
    · rw [e1] at e; cases e
    · rw [e1] at e
      have : g' = c := by simpa [Value.ownBlock] using e.symm
      omega
theorem R14.cell (h : R14 w0 W own g nb N T b fr v n cs) (i : Nat) : W.cell? ⟨b, i, none⟩ = run14D[i]? := cell_of_row W b i run14D 58 fr h.deeds
end
def T14 : List Th := [([⟨#[97]⟩], false, [])]
set_option maxHeartbeats 8000000 in
set_option maxRecDepth 400000 in
theorem run14 {w0 w : World} {own : Nat → Tag} {g : Nat} {nb : List ByteArray → Nat} {b : Nat} {fr : Nat × Nat} (h : R14 w0 w own g nb 0 [] b fr (.slice none 0 0) 0 []) :
    Calls Tryd.prog 25 #[.iface 25 (.pointer (some ⟨g, 0, none⟩)), .slice (some ⟨b, 0, none⟩) 3 3] w fun e w' => ∃ (v A1 : Value) (r : Nat) (_x : Value) (c : Nat), e = .returned v ∧ w'.ownsRow w0.heap.size 40 3 v 3 [.int .i64 0, .slice none 0 0, .slice none 0 0, .int .i64 0, A1, .slice none 0 0, .int .i64 0, .slice none 0 0, .slice (some ⟨r, 0, none⟩) 1 c] ∧ (∃ A c', A1 = .slice A 0 c') ∧ w'.cell? ⟨r, 0, none⟩ = some (.string ⟨#[97]⟩) ∧ Below w0.heap.size w0 w' := by
  have H0 := Aside0.mk h
  have c0 : w.cell? ⟨b, 0, none⟩ = some (.int .i64 0) := h.cell 0
  have c1 : w.cell? ⟨b, 1, none⟩ = some (.string ⟨#[47, 97]⟩) := h.cell 1
  have c2 : w.cell? ⟨b, 2, none⟩ = some (.int .i64 0) := h.cell 2
  have c3 : w.cell? ⟨b, 3, none⟩ = some (.int .i64 0) := h.cell 3
  have c4 : w.cell? ⟨b, 4, none⟩ = some (.slice none 0 0) := h.cell 4
  clear h
  go_enter Tryd.func25, Tryd.ntmps25
  go_wp2_with fail
  refine wp_loop_rounds 4 ?_
  rw [rounds_succ]
  go_wp2_with fail
  refine (do_create (H0.out.tree.below (below_alloc (Below.refl _ _) _)) ⟨#[47, 97]⟩ (by decide) (by decide) 0 0 none 0 0).mono ?_
  rintro e w1 ⟨rfl, hd⟩
  rw [show addT [] ⟨#[47, 97]⟩ false = T14 by decide +kernel] at hd
  rw [show addE [] ⟨#[47, 97]⟩ = 0 by decide +kernel]
  obtain ⟨own1, nb1, h1, _⟩ := H0.out.did hd
  have H1 := Aside0.mk h1
  clear h1 hd c0 c1 c2 c3 c4
  go_wp2_with (((with_reducible refine gate_builtin (b := .append) (xs := #[.tmp 14, .tmp 18]) rfl ?_); at_builtin; refine print_append_cells (w0 := w0) w0.heap.size rfl (.tmp 14) (.tmp 18) 55 40 (.agg #[.int .i64 0, .slice none 0 0, .slice none 0 0]) 3 56 rfl Tryd.underlying55 info_ans rfl (by decide) (by decide) (.slice none 0 0) 0 [] [.int .i64 0, .slice none 0 0, .slice none 0 0] rfl rfl rfl (by intro u hu; simp at hu; rcases hu with rfl | rfl | rfl <;> rfl) H1.out.out H1.out.base H1.out.base.size (by decide) ?_; intro v1 w1b ho1 hb1 hg1 hat1; have R1 := Aside0.mk (H1.out.app ho1 hg1 hat1); have c5 := (R1.out.cell 5).trans (show run14D[5]? = some (.int .i64 6) from rfl); have c6 := (R1.out.cell 6).trans (show run14D[6]? = some (.string ⟨#[47, 97]⟩) from rfl); have c7 := (R1.out.cell 7).trans (show run14D[7]? = some (.int .i64 0) from rfl); have c8 := (R1.out.cell 8).trans (show run14D[8]? = some (.int .i64 5) from rfl); have c9 := (R1.out.cell 9).trans (show run14D[9]? = some (.slice none 0 0) from rfl); clear ho1 hb1 hg1 hat1))
  rw [rounds_succ]
  go_wp2_with fail
  refine (do_read (R1.out.tree.below (below_alloc (Below.refl _ _) _)) ⟨#[47, 97]⟩ (by decide) (short_of (by decide)) 0 5 none 0 0).mono ?_
  rintro e w2 ⟨A2, k2, rfl, hr2, hd⟩
  rw [show readB T14 ⟨#[47, 97]⟩ 0 5 = [] by decide +kernel] at hr2 ⊢
  rw [show readE T14 ⟨#[47, 97]⟩ 0 5 = 0 by decide +kernel]
  obtain ⟨own2, nb2, h2, _⟩ := R1.out.did hd
  have H2 := Aside0.mk h2
  clear h2 hd hr2 c5 c6 c7 c8 c9
  go_wp2_with (((with_reducible refine gate_builtin (b := .append) (xs := #[.tmp 14, .tmp 18]) rfl ?_); at_builtin; refine print_append_cells (w0 := w0) w0.heap.size rfl (.tmp 14) (.tmp 18) 55 40 (.agg #[.int .i64 0, .slice none 0 0, .slice none 0 0]) 3 56 rfl Tryd.underlying55 info_ans rfl (by decide) (by decide) v1 1 [.int .i64 0, .slice none 0 0, .slice none 0 0] [.int .i64 0, .slice A2 0 k2, .slice none 0 0] rfl rfl rfl (by intro u hu; simp at hu; rcases hu with rfl | rfl | rfl <;> rfl) H2.out.out H2.out.base H2.out.base.size (by decide) ?_; intro v2 w2b ho2 hb2 hg2 hat2; have R2 := Aside0.mk (H2.out.app ho2 hg2 hat2); have c10 := (R2.out.cell 10).trans (show run14D[10]? = some (.int .i64 7) from rfl); have c11 := (R2.out.cell 11).trans (show run14D[11]? = some (.string ⟨#[47]⟩) from rfl); have c12 := (R2.out.cell 12).trans (show run14D[12]? = some (.int .i64 0) from rfl); have c13 := (R2.out.cell 13).trans (show run14D[13]? = some (.int .i64 0) from rfl); have c14 := (R2.out.cell 14).trans (show run14D[14]? = some (.slice none 0 0) from rfl); clear ho2 hb2 hg2 hat2))
  rw [rounds_succ]
  go_wp2_with fail
  refine (do_list (R2.out.tree.below (below_alloc (Below.refl _ _) _)) ⟨#[47]⟩ (by decide) (by decide) 0 0 none 0 0).mono ?_
  rintro e w3 ⟨A3, k3, rfl, hr3, hd⟩
  rw [show listB T14 ⟨#[47]⟩ = [[97]] by decide +kernel] at hr3 ⊢
  rw [show listE T14 ⟨#[47]⟩ = 0 by decide +kernel]
  obtain ⟨r3, rfl⟩ : ∃ r, A3 = some ⟨r, 0, none⟩ := by
    rcases hr3.2 with ⟨e, e0⟩ | ⟨g', cap, cur, e, _⟩
    · cases e0
    · cases e
      exact ⟨_, rfl⟩
  have hcell : w3.cell? ⟨r3, 0, none⟩ = some (.string ⟨#[97]⟩) := by
    have := hr3.cells (g := r3) rfl 0 (.string ⟨#[97]⟩) rfl
    exact this
  obtain ⟨own3, nb3, h3, _⟩ := R2.out.did hd
  have H3 := Aside0.mk h3
  have HR3 := Aside0.mk hr3
  clear h3 hd hr3 c10 c11 c12 c13 c14
  go_wp2_with (((with_reducible refine gate_builtin (b := .append) (xs := #[.tmp 14, .tmp 18]) rfl ?_); at_builtin; refine print_append_cells (w0 := w0) w0.heap.size rfl (.tmp 14) (.tmp 18) 55 40 (.agg #[.int .i64 0, .slice none 0 0, .slice none 0 0]) 3 56 rfl Tryd.underlying55 info_ans rfl (by decide) (by decide) v2 2 [.int .i64 0, .slice none 0 0, .slice none 0 0, .int .i64 0, .slice A2 0 k2, .slice none 0 0] [.int .i64 0, .slice none 0 0, .slice (some ⟨r3, 0, none⟩) 1 k3] rfl rfl rfl (by intro u hu; simp at hu; rcases hu with rfl | rfl | rfl <;> rfl) H3.out.out H3.out.base H3.out.base.size (by decide) ?_; intro v3 w3b ho3 hb3 hg3 hat3; have R3 := Aside0.mk (H3.out.app ho3 hg3 hat3); have HG3 := Aside0.mk hg3; clear ho3 hb3 hg3 hat3))
  rw [rounds_succ]
  go_wp2_with fail
  go_ret
  refine ⟨v3, .slice A2 0 k2, r3, .slice none 0 0, k3, rfl, R3.out.out, ⟨A2, k2, rfl⟩, ?_, R3.out.base⟩
  have hlt := World.block_lt_of_cell? w3 _ hcell
  have hne : some r3 ≠ v2.ownBlock := fun e => by
    obtain ⟨c1, hc1⟩ := own_typed HR3.out r3 rfl
    obtain ⟨c2, hc2⟩ := own_typed H3.out.out r3 e.symm
    rw [hc1] at hc2
    simp at hc2
  have hb := HG3.out.block r3 hlt hne
  unfold World.cell? at hcell ⊢
  rw [hb]
  exact hcell
end Go.Proofs.YtohhlnkdgfgjgaaDoor.P
namespace Go.Proofs.YtohhlnkdgfgjgaaDoor.P
open Go.RowKit Go.Proofs.YtohhlnkdgfgjgaaDoorW.PrintWords Go.Proofs.YtohhlnkdgfgjgaaDoorW.PrintLast Go.Proofs.YtohhlnkdgfgjgaaDoorW.PrintMore
set_option maxHeartbeats 8000000 in
set_option maxRecDepth 400000 in
theorem lives14 (w : World) : Calls Tryd.prog 11 #[] w fun e w' => e = .returned (.bool true) ∧ Below w.heap.size w w' := by
  go_enter Tryd.func11, Tryd.ntmps11
  go_wp2_with fail
  refine (tree_New.calls w).mono ?_
  rintro e w1 ⟨g, own, nb, rfl, hT, hb, hn⟩
  have HT := Aside0.mk hT
  have HN := Aside0.mk hn
  clear hT hn
  go_wp2_with fail
  refine (lives13 w1).mono ?_
  rintro e w2 ⟨rfl, hb2⟩
  have HT2 := Aside0.mk (HT.out.below hb2)
  have HB := Aside0.mk (hb.trans (hb2.mono hb.size))
  clear hb hb2
  go_wp2_with fail
  refine (run14 (w0 := w) (own := own) (nb := nb) (b := w2.heap.size) (fr := (0, 0)) ⟨HT2.out.below (below_alloc (Below.refl _ _) _), heap_alloc_new w2 _, HT2.out.fresh (Nat.le_refl _), ⟨rfl, .inl ⟨rfl, rfl⟩⟩, (fun c hc => by cases hc), below_alloc HB.out _, HN.out⟩).mono ?_
  rintro e w3 ⟨v, A1, r, x, c, rfl, ho, ⟨A, c', rfl⟩, hr, hb3⟩
  obtain ⟨go, cap, rfl, _, _⟩ := ho.form (by decide)
  have hcell : ∀ i u, ([.int .i64 0, .slice none 0 0, .slice none 0 0, .int .i64 0, .slice A 0 c', .slice none 0 0, .int .i64 0, .slice none 0 0, .slice (some ⟨r, 0, none⟩) 1 c] : List Value)[i]? = some u → w3.cell? ⟨go, i, none⟩ = some u := fun i u hu => by
    have := ho.cells (g := go) rfl i u hu
    rwa [add_plain] at this
  have q0 := hcell 0 _ rfl
  have q3 := hcell 3 _ rfl
  have q4 := hcell 4 _ rfl
  have q6 := hcell 6 _ rfl
  have q8 := hcell 8 _ rfl
  have hs : ((⟨#[97]⟩ : ByteArray).toList == [97]) = true := by rw [Lib.toList_data]; rfl
  have HB3 := Aside0.mk hb3
  clear ho hcell hb3
  go_wp2_with fail
  go_ret
  exact ⟨rfl, HB3.out⟩
def cantlelaw14_Lives.f : Option Bool := some true
theorem cantlelaw14_Lives.calls (r : Bool) (w : World) (h : cantlelaw14_Lives.f = some r) :
    Calls Tryd.prog 11 #[] w fun e w' => e = .returned (.bool r) ∧ Below w.heap.size w w' := by
  obtain rfl := Option.some.inj h
  exact lives14 w
end Go.Proofs.YtohhlnkdgfgjgaaDoor.P
