/- Rmdir of a directory in which something is; a tree's state, its blocks and labels kept out of sight. -/
import Derived.Test.YtohhlnkdgfgjgaaDoorTm
import Derived.LaidEqlPtr
namespace Go.Proofs.YtohhlnkdgfgjgaaDoor.P
open Go.RowKit Go.Proofs.YtohhlnkdgfgjgaaDoorW.PrintWords Go.Proofs.YtohhlnkdgfgjgaaDoorW.PrintLast Go.Proofs.YtohhlnkdgfgjgaaDoorW.PrintMore
section
variable {w : World} {own : Nat → Tag} {g N : Nat} {nb : List ByteArray → Nat} {T : List Th}
theorem find_ok (h : TreeAt w own g nb N T) (s : ByteArray) (hs : s.size ≤ 4000) (hf : findE T s = 0) :
    Calls Tryd.prog 30 #[.pointer (some ⟨g, 0, none⟩), .string s] w fun e w' => e = .returned (.tuple #[.pointer (some ⟨nb (cutB s).1, 0, none⟩), .int .i64 0]) ∧ Below w.heap.size w w' := by
  have C1 := tree_Tree_find.calls h s hs
  unfold findV at C1
  rw [hf, decide_eq_true rfl] at C1
  exact C1
theorem nb_root (h : TreeAt w own g nb N T) {p : List ByteArray} {d : Bool} {s : List Int} (hp : at' T p = some (d, s)) (h0 : p ≠ []) : nb p ≠ nb [] := fun e => by
  have h1 := (h.node p d s hp).1
  have h2 := (h.node [] true [] rfl).1
  rw [e, h2] at h1
  injection h1 with h1
  exact h0 h1.symm
theorem size_pos {M : DataW Unit} {y : ByteArray} (h : Go.Maps.has M (strL y) = true) : 0 < Go.Maps.size M := by
  unfold Go.Maps.has at h
  split at h
  · rename_i es
    rw [List.any_eq_true] at h
    obtain ⟨x, hx, _⟩ := h
    exact List.length_pos_of_mem hx
  · cases h
theorem info_node : (Tryd.prog.info? 53).map (·.size) = some 3 := by kernel_rfl
theorem ptr_other (h : TreeAt w own g nb N T) {p : List ByteArray} {d : Bool} {s : List Int} (hp : at' T p = some (d, s)) (h0 : p ≠ []) {w1 : World} (hb : Below w.heap.size w w1) :
    (binOp .eql 43 (.pointer (some ⟨nb p, 0, none⟩)) (.pointer (some ⟨nb [], 0, none⟩))).run Tryd.prog w1 = .ok (.bool false) w1 := by
  obtain ⟨A, c, mb, h1, _⟩ := h.cells hp
  obtain ⟨A', c', mb', h2, _⟩ := h.cells (p := []) rfl
  obtain ⟨j, hj, hz⟩ := Option.map_eq_some_iff.1 info_node
  have hne := nb_root h hp h0
  exact run_eql_ptr_other w1 Tryd.underlying43 hj (by rw [hz]; decide) (fun e => hne (by injection e)) (blk_below h1 hb) (blk_below h2 hb)
theorem ptr_same (b : Nat) (w1 : World) : (binOp .eql 43 (.pointer (some ⟨b, 0, none⟩)) (.pointer (some ⟨b, 0, none⟩))).run Tryd.prog w1 = .ok (.bool true) w1 := by
  obtain ⟨j, hj, hz⟩ := Option.map_eq_some_iff.1 info_node
  exact run_eql_ptr_same w1 _ Tryd.underlying43 hj
set_option maxHeartbeats 4000000 in
set_option maxRecDepth 100000 in
theorem rmdir_full (h : TreeAt w own g nb N T) (s : ByteArray) (hs : s.size ≤ 4000) (hf : findE T s = 0) (hd : at' T (cutB s).1 = some (true, [])) (hne : (cutB s).1 ≠ []) {y : ByteArray} (hy : (look T ((cutB s).1 ++ [y])).isSome = true) (hN : N ≤ 1000000) :
    Calls Tryd.prog 19 #[.pointer (some ⟨g, 0, none⟩), .string s] w fun e w' => e = .returned (.int .i64 8) ∧ Below w.heap.size w w' := by
  have C := Aside0.mk (find_ok h s hs hf)
  have HE : Aside0 (∀ w1, Below w.heap.size w w1 → (binOp .eql 43 (.pointer (some ⟨nb (cutB s).1, 0, none⟩)) (.pointer (some ⟨nb [], 0, none⟩))).run Tryd.prog w1 = .ok (.bool false) w1) := ⟨fun w1 hb => ptr_other h hd hne hb⟩
  generalize (cutB s).1 = p at *
  obtain ⟨A0, c0, mb, hcell, _, _, hd1⟩ := h.cells hd
  obtain ⟨_, bm, M, rfl, hbm, hM, hK⟩ := hd1 rfl
  have hk0 : w.cell? ⟨nb p, 0, none⟩ = some (.bool true) := blk_cell hcell 0
  have hk2 : w.cell? ⟨nb p, 2, none⟩ = some (.map (some bm)) := blk_cell hcell 2
  have htop : w.cell? ⟨g, 0, none⟩ = some (.pointer (some ⟨nb [], 0, none⟩)) := blk_cell h.top 0
  have hpos : 0 < Go.Maps.size M := size_pos (y := y) (by rw [(hK y).2]; exact hy)
  have hle := hM.size_le
  have HM : Aside0 (∀ w1, Below w.heap.size w w1 → w1.ownsMap Tryd.prog 9 ptrR bm N M) := ⟨fun w1 hb => map_move hM (hb.block bm hM.lt)⟩
  have hsz : decide (0 < Go.Maps.size M) = true := decide_eq_true hpos
  have hsz2 : decide ((0 : Int) < (Go.Maps.size M : Int)) = true := decide_eq_true (by omega)
  have hsz3 : (0 : Int) < (Go.Maps.size M : Int) := by omega
  generalize nb p = b at *
  generalize nb [] = r at *
  clear h hs hf hd hne hy hcell hd1 hM hK hbm hle
  go_enter Tryd.func19, Tryd.ntmps19
  go_wp2_with (first | (go_at_call 30; (with_reducible refine C.out.mono ?_); rintro e w1 ⟨rfl, hb⟩; have hk0' := pw_cell_below hb hk0; have hk2' := pw_cell_below hb hk2; have htop' := pw_cell_below hb htop; have heq := HE.out _ hb) | (at_len; refine wpList_len_own _ rfl _ 51 rfl 9 43 Tryd.underlying51 ptrR bm N M rfl (HM.out _ hb) ?_))
  all_goals go_ret
  all_goals exact ⟨rfl, hb⟩
end
/-- A tree behind a world: what lay before it is as it was, and none of its blocks. -/
def St (w0 w : World) (g N : Nat) (T : List Th) : Prop := ∃ own nb, TreeAt w own g nb N T ∧ Below w0.heap.size w0 w ∧ ∀ b, b < w0.heap.size → own b = .no
section
variable {w0 w w1 : World} {g N : Nat} {T : List Th}
theorem St.below (h : St w0 w g N T) (hb : Below w.heap.size w w1) : St w0 w1 g N T := by
  obtain ⟨own, nb, hT, hw, hn⟩ := h
  exact ⟨own, nb, hT.below hb, hw.trans (hb.mono hw.size), hn⟩
theorem St.base (h : St w0 w g N T) : Below w0.heap.size w0 w := by
  obtain ⟨_, _, _, hw, _⟩ := h
  exact hw
theorem St.touch {own own' : Nat → Tag} {nb' : List ByteArray → Nat} {N' : Nat} {T' : List Th} (hw : Below w0.heap.size w0 w) (hn : ∀ b, b < w0.heap.size → own b = .no) (hT : TreeAt w1 own' g nb' N' T') (ht : Touch w w1 own own') : St w0 w1 g N' T' :=
  ⟨own', nb', hT, hw.trans (ht.below hw.size hn), ht.lo hw.size hn⟩
theorem St.new (hw : Below w0.heap.size w0 w) : Calls Tryd.prog 7 #[] w fun e w' => ∃ g, e = .returned (.pointer (some ⟨g, 0, none⟩)) ∧ St w0 w' g 0 [] :=
  (tree_New.calls w).mono fun e w' ⟨g, own, nb, he, hT, hb, hn⟩ => ⟨g, he, own, nb, hT, hw.trans (hb.mono hw.size), fun b hb' => hn b (Nat.lt_of_lt_of_le hb' hw.size)⟩
theorem St.adds {K : Nat} {d : Bool} (C : AddC K d) (h : St w0 w g N T) (s : ByteArray) (hs : s.size ≤ 4000) (hN : N < 1000000) :
    Calls Tryd.prog K #[.pointer (some ⟨g, 0, none⟩), .string s] w fun e w' => e = .returned (.int .i64 (addE T s)) ∧ St w0 w' g (N + 1) (addT T s d) := by
  obtain ⟨own, nb, hT, hw, hn⟩ := h
  exact (C hT s hs hN).mono fun e w' ⟨he, own', nb', hT', ht, _⟩ => ⟨he, St.touch hw hn hT' ht⟩
theorem St.write (h : St w0 w g N T) (hb : Below w.heap.size w w1) (s : ByteArray) (hs : s.size ≤ 4000) (k : Int) (A : Option Addr) (c : Nat) (xs : List Int) (hx : 0 < xs.length → RdB w1 A xs.length xs) (hA : 0 < xs.length → ∀ a, A = some a → a.block < w0.heap.size ∨ w.heap.size ≤ a.block) (hT : Short T) :
    Calls Tryd.prog 9 #[.pointer (some ⟨g, 0, none⟩), .string s, .int .i64 k, .slice A xs.length c] w1 fun e w' => e = .returned (.int .i64 (writeE T s k xs.length)) ∧ St w0 w' g N (writeT T s k xs) := by
  obtain ⟨own, nb, h1, hw, hn⟩ := h
  have hw1 := hw.trans (hb.mono hw.size)
  refine (tree_Tree_Write.calls (h1.below hb) s hs k A c xs hx (fun h0 a ha => ?_) hT).mono fun e w' ⟨he, own', hT', ht⟩ => ⟨he, St.touch hw1 hn hT' ht⟩
  rcases hA h0 a ha with h2 | h2
  · exact hn _ h2
  · rcases Classical.em (own a.block = .no) with e1 | e1
    · exact e1
    · have := h1.lt _ e1
      omega
theorem tree_Tree_Read.calls {own : Nat → Tag} {nb : List ByteArray → Nat} (h : TreeAt w own g nb N T) (s : ByteArray) (hs : s.size ≤ 4000) (k n : Int) (hT : Short T) :
    Calls Tryd.prog 10 #[.pointer (some ⟨g, 0, none⟩), .string s, .int .i64 k, .int .i64 n] w fun e w' => Got w w' e (readB T s k n) (readE T s k n) := by
  by_cases hf : fileE T s = 0
  · by_cases hr : k < 0 ∨ n < 0
    · have e9 : readE T s k n = 9 := by unfold readE; rw [if_neg (fun e => e hf), if_pos hr]
      have eB : readB T s k n = [] := by unfold readB; rw [if_neg (by rw [e9]; decide)]
      rw [e9, eB]
      exact read_neg h s hs k n hf hr
    · have e0 : readE T s k n = 0 := by unfold readE; rw [if_neg (fun e => e hf), if_neg hr]
      obtain ⟨data, hd⟩ := file_at hf
      have eB : readB T s k n = (data.drop k.toNat).take n.toNat := by unfold readB bytesAt; rw [if_pos e0, hd]
      rw [e0, eB]
      obtain ⟨kn, rfl⟩ : ∃ kn : Nat, k = kn := ⟨k.toNat, by omega⟩
      obtain ⟨nn, rfl⟩ : ∃ nn : Nat, n = nn := ⟨n.toNat, by omega⟩
      exact read_main h s hs kn nn hf hd (hT _ _ _ hd)
  · have e0 : readE T s k n = fileE T s := by unfold readE; rw [if_pos hf]
    have eB : readB T s k n = [] := by unfold readB; rw [if_neg (by rw [e0]; exact hf)]
    rw [e0, eB]
    exact read_err h s hs k n hf
theorem St.read (h : St w0 w g N T) (s : ByteArray) (hs : s.size ≤ 4000) (k n : Int) (hT : Short T) :
    Calls Tryd.prog 10 #[.pointer (some ⟨g, 0, none⟩), .string s, .int .i64 k, .int .i64 n] w fun e w' => Got w w' e (readB T s k n) (readE T s k n) := by
  obtain ⟨own, nb, h1, hw, hn⟩ := h
  exact tree_Tree_Read.calls h1 s hs k n hT
theorem St.full (h : St w0 w g N T) (s : ByteArray) (hs : s.size ≤ 4000) (hf : findE T s = 0) (hd : at' T (cutB s).1 = some (true, [])) (hne : (cutB s).1 ≠ []) {y : ByteArray} (hy : (look T ((cutB s).1 ++ [y])).isSome = true) (hN : N ≤ 1000000) :
    Calls Tryd.prog 19 #[.pointer (some ⟨g, 0, none⟩), .string s] w fun e w' => e = .returned (.int .i64 8) ∧ Below w.heap.size w w' := by
  obtain ⟨own, nb, h1, hw, hn⟩ := h
  exact rmdir_full h1 s hs hf hd hne hy hN
end
end Go.Proofs.YtohhlnkdgfgjgaaDoor.P
