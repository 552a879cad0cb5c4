/- node.size: a file has so many bytes. -/
import Derived.Test.YtohhlnkdgfgjgaaDoorTi
import Derived.Deep.RegionLaw
namespace Go.Proofs.YtohhlnkdgfgjgaaDoor.P
open Go.RowKit Go.Proofs.YtohhlnkdgfgjgaaDoorW.PrintWords Go.Proofs.YtohhlnkdgfgjgaaDoorW.PrintLast Go.Proofs.YtohhlnkdgfgjgaaDoorW.PrintMore
/-- A builtin append whose run is known, as one step of a region that draws. -/
theorem step_append_run {P : Program} {ops : Array Oper} {o : Oper} {a : Act} {w w' : World} {K : Act → World → Prop} {Q : Exit → Act → World → Prop} {E : Prop}
    (hg : o.guard = none) (s x : Operand) (t ti : TypeId) (hop : o.op = Op.call { callee := Callee.builtin Builtin.append, args := #[s, x], argTypes := #[t, ti] })
    {sv xv v' : Value} (hrun : (Builtin.append_ #[t, ti] o.type #[sv, xv]).run P w = .ok v' w') (hs : a.eval s = sv) (hx : a.eval x = xv)
    (hK : K (a.put o.dst v') w') : if Region.wanted o (yielded ops a.tmps) = true then Oper.wp P o a w K Q else E := by
  have hw : Region.wanted o (yielded ops a.tmps) = true := by simp [Region.wanted, hg]
  rw [if_pos hw]
  unfold Oper.wp
  simp [execOp, hop, resolve, invoke, builtin, hs, hx, hrun, Result.andThen]
  exact hK
theorem zeros_are (m : Nat) : (Builtin.zeroCells (Value.int .u8 0).cells m).toList = (List.replicate m (0 : Int)).map (Value.int .u8) := by
  simp only [Builtin.zeroCells, Value.cells]
  refine List.ext_getElem (by simp) (fun i h1 h2 => ?_)
  simp [Nat.mod_one]
def sized (s : List Int) (k : Nat) : List Int := s.take k ++ List.replicate (k - s.length) 0
theorem sized_length (s : List Int) (k : Nat) : (sized s k).length = k := by simp [sized]; omega
/-- What a turned file leaves. -/
def Turned (w w' : World) (own : Nat → Tag) (g : Nat) (nb : List ByteArray → Nat) (N : Nat) (T : List Th) : Prop := ∃ own', TreeAt w' own' g nb N T ∧ Touch w w' own own'
theorem turned_store {w w1 : World} {own : Nat → Tag} {g N : Nat} {nb : List ByteArray → Nat} {T : List Th} (h : TreeAt w own g nb N T) {p : List ByteArray} {s s' : List Int} (hp : at' T p = some (false, s)) {v0 v' : Value} (hb : Below w.heap.size w w1)
    (hcell : w.heap[nb p]? = some (.cells #[.bool false, v0, .map none] 53 (0, 0))) (ho : w1.ownsRow w.heap.size 5 1 v' s'.length (s'.map (Value.int .u8))) : Turned w (w1.setCell ⟨nb p, 1, none⟩ v') own g nb N (setT T p s') := by
  have hlies := (h.node p false s hp).1
  have hfresh : ∀ b, w.heap.size ≤ b → own b = .no := fun b hb' => by
    rcases Classical.em (own b = .no) with e | e
    · exact e
    · have := h.lt b e
      omega
  have hvb : ∀ b, v'.ownBlock = some b → w.heap.size ≤ b := fun b hb' => by
    rcases ho.2 with ⟨rfl, _⟩ | ⟨g', cap, cur, rfl, hg', _⟩
    · cases hb'
    · have : g' = b := by simpa [Value.ownBlock] using hb'
      omega
  have hne : ∀ b, v'.ownBlock = some b → b ≠ nb p := fun b hb' e => by
    have := hvb b hb'
    have := blk_lt hcell
    omega
  obtain ⟨own', hT, hm⟩ := h.turn (w' := w1.setCell ⟨nb p, 1, none⟩ v') (s' := s') (v' := v') hp (by rw [setCell_size]; exact hb.size) (blk_put (blk_below hcell hb) 1 _ rfl)
    (own_move (own_base' ho (Nat.zero_le _)) (fun b hb' => Below.heap_setCell w1 ⟨nb p, 1, none⟩ v' b (hne b hb'))) (fun b h1 h2 h3 => (Below.heap_setCell w1 ⟨nb p, 1, none⟩ v' b h3).trans (hb.block b (h.lt b h1))) (fun b hb' => .inr (hfresh b (hvb b hb')))
  refine ⟨own', hT, ?_⟩
  have ht := (Touch.of_below hb own).set (g := nb p) (.inl (by rw [hlies]; simp)) 1 v'
  exact ⟨ht.z, ht.kept, fun b hb' => (hm b hb').imp_right (hvb b)⟩
set_option maxHeartbeats 4000000 in
set_option maxRecDepth 100000 in
theorem size_less {w : World} {b n c : Nat} {A : Option Addr} {xs : List Int} (hcell : w.heap[b]? = some (.cells #[.bool false, .slice A n c, .map none] 53 (0, 0))) (hx : RdB w A n xs) (hnc : n ≤ c) (k : Nat) (hk : k ≤ n) (hn : n ≤ 300000000) :
    Calls Tryd.prog 23 #[.pointer (some ⟨b, 0, none⟩), .int .i64 k] w fun e w' => e = .returned (.tuple #[]) ∧ ∃ w1 v', w' = w1.setCell ⟨b, 1, none⟩ v' ∧ Below w.heap.size w w1 ∧ w1.ownsRow w.heap.size 5 1 v' k ((xs.take k).map (Value.int .u8)) := by
  have C := Aside0.mk (cloneB (hx.take k hk) c (by omega))
  have hc1 : w.cell? ⟨b, 1, none⟩ = some (.slice A n c) := blk_cell hcell 1
  have HC := Aside0.mk hcell
  have d0 : decide ((0 : Int) ≤ (k : Int)) = true := decide_eq_true (by omega)
  have d1 : decide ((k : Int) ≤ (c : Int)) = true := decide_eq_true (by omega)
  have d2 : decide ((k : Int) ≤ (n : Int)) = true := decide_eq_true (by omega)
  have e1 : (k : Int) ≤ (c : Int) := by omega
  have e2 : (k : Int) ≤ (n : Int) := by omega
  have e3 : k ≤ c := by omega
  clear hcell hx hk hn
  go_enter Tryd.func23, Tryd.ntmps23
  go_wp2_with (go_at_call 24; (with_reducible refine C.out.mono ?_); rintro e w1 ⟨A', c', rfl, ho, hb⟩; have HO := Aside0.mk ho; clear ho; have hf1 := blk_frozen (blk_below HC.out hb) 1; have hc1' := pw_cell_below hb hc1)
  go_end0
  exact ⟨rfl, w1, _, rfl, hb, HO.out⟩
set_option maxHeartbeats 4000000 in
set_option maxRecDepth 100000 in
theorem size_more {w : World} {b n c : Nat} {A : Option Addr} {xs : List Int} (hcell : w.heap[b]? = some (.cells #[.bool false, .slice A n c, .map none] 53 (0, 0))) (hx : RdB w A n xs) (hnc : n ≤ c) (k : Nat) (hk : n < k) (hn : k ≤ 300000000) :
    Calls Tryd.prog 23 #[.pointer (some ⟨b, 0, none⟩), .int .i64 k] w fun e w' => e = .returned (.tuple #[]) ∧ ∃ w1 v', w' = w1.setCell ⟨b, 1, none⟩ v' ∧ Below w.heap.size w w1 ∧ w1.ownsRow w.heap.size 5 1 v' k ((xs ++ List.replicate (k - n) 0).map (Value.int .u8)) := by
  have C : Aside0 (∀ w0, Below w.heap.size w w0 → Calls Tryd.prog 24 #[.slice A n c] w0 fun e w' => ∃ (A' : Option Addr) (c' : Nat), e = .returned (.slice A' n c') ∧ w'.ownsRow w0.heap.size 5 1 (.slice A' n c') n (xs.map (Value.int .u8)) ∧ Below w0.heap.size w0 w') := ⟨fun w0 hb => cloneB (hx.below hb) c (by omega)⟩
  have hc1 : w.cell? ⟨b, 1, none⟩ = some (.slice A n c) := blk_cell hcell 1
  have HC := Aside0.mk hcell
  have HBL := Aside0.mk (blk_lt hcell)
  have d2 : decide ((k : Int) ≤ (n : Int)) = false := decide_eq_false (by omega)
  have e2 : ¬ (k : Int) ≤ (n : Int) := by omega
  have e3 : IntKind.i64.wrap ((k : Int) - (n : Int)) = ((k - n : Nat) : Int) := by rw [IntKind.wrap_i64]; omega
  have e4 : wrap64 ((k : Int) - (n : Int)) = ((k - n : Nat) : Int) := by unfold wrap64; omega
  have R : Aside0 (∀ (w1 : World) (v : Value) (base : Nat), w1.ownsRow base 5 1 v n (xs.map (Value.int .u8)) → base ≤ w1.heap.size → ∃ v' w', (Builtin.append_ #[23, 3] 23 #[v, .int .i64 ((k - n : Nat) : Int)]).run Tryd.prog w1 = .ok v' w' ∧ w'.ownsRow base 5 1 v' k ((xs ++ List.replicate (k - n) 0).map (Value.int .u8)) ∧ w1.grownBy w' v.ownBlock ∧ (v'.ownBlock = v.ownBlock ∨ v'.ownBlock = some w1.heap.size)) := ⟨fun w1 v base ho hbase => by
    obtain ⟨i0, hi, hzz⟩ := Option.map_eq_some_iff.1 info5
    simp only [Prod.mk.injEq] at hzz
    obtain ⟨hz0, hz1, hz2⟩ := hzz
    obtain ⟨v', w', h1, h2, h3, h4⟩ := run_append_zeros (P := Tryd.prog) w1 base 23 3 23 5 i0 _ 1 1 Tryd.underlying23 Tryd.underlying3 hi hz0 hz1 hz2 rfl (by decide) (by decide) v n _ ho .i64 (k - n) (fun u hu => by rw [zeros_are] at hu; obtain ⟨x, _, rfl⟩ := List.mem_map.1 hu; rfl) (by omega) hbase
    refine ⟨v', w', h1, ?_, h3, h4⟩
    have e5 : n + (k - n) = k := by omega
    rw [e5] at h2
    rw [List.map_append]
    rw [zeros_are] at h2
    exact h2⟩
  clear hcell hx hk hn
  go_enter Tryd.func23, Tryd.ntmps23
  go_wp2_with fail
  go_region_law (first | (refine step_append_run rfl (.tmp 26) (.tmp 33) 23 3 rfl hrun (by simp [Act.eval, Act.put]) (by simp [Act.eval, Act.put]) ?_) | (go_simp; (go_at_call 24; (with_reducible refine (C.out _ (below_drew (Below.refl _ _))).mono ?_); rintro e w1 ⟨A', c', rfl, ho, hb0⟩; have hb : Below w.heap.size w w1 := (below_drew (Below.refl w.heap.size w)).trans hb0; have hc1' := pw_cell_below hb hc1; obtain ⟨v6, w6, hrun, ho6, hg6, hat6⟩ := R.out w1 _ w.heap.size ho hb.size; obtain ⟨A6, c6, rfl⟩ := owns_slice ho6; have hb6 : w6.heap[b]? = some (.cells #[.bool false, .slice A n c, .map none] 53 (0, 0)) := (hg6.block b (Nat.lt_of_lt_of_le HBL.out hb.size) (fun e => by have h3 : w.heap.size ≤ b := own_base ho b e.symm; have := HBL.out; omega)).trans (blk_below HC.out hb); have hf6 := blk_frozen hb6 1; have hc6 := blk_cell hb6 1; simp at hc6; have HO6 := Aside0.mk ho6; have HB6 := Aside0.mk hb6; have HW6 : Aside0 (Below w.heap.size w w6) := ⟨hb.grown hg6 hb.size (fun k hk => own_base ho k hk)⟩; clear ho6 hb6 ho)))
  all_goals go_wp2_with fail
  all_goals go_end0
  all_goals exact ⟨rfl, w6, _, rfl, HW6.out, HO6.out⟩
theorem node_size.calls {w : World} {own : Nat → Tag} {g N : Nat} {nb : List ByteArray → Nat} {T : List Th} (h : TreeAt w own g nb N T) {p : List ByteArray} {s : List Int} (hp : at' T p = some (false, s)) (k : Nat) (hk : k ≤ 300000000) (hs : s.length ≤ 300000000) :
    Calls Tryd.prog 23 #[.pointer (some ⟨nb p, 0, none⟩), .int .i64 k] w fun e w' => e = .returned (.tuple #[]) ∧ Turned w w' own g nb N (setT T p (sized s k)) := by
  obtain ⟨A, c, mb, hb, ho, hd, _⟩ := h.cells hp
  obtain rfl := hd rfl
  obtain ⟨hR, hc⟩ := RdB.of_own ho
  rcases Nat.lt_or_ge s.length k with h1 | h1
  · refine (size_more hb hR hc k h1 hk).mono fun e w' ⟨he, w1, v', hw, hbl, ho'⟩ => ⟨he, ?_⟩
    rw [hw]
    have e1 : s ++ List.replicate (k - s.length) 0 = sized s k := by unfold sized; rw [List.take_of_length_le (by omega)]
    rw [e1] at ho'
    exact turned_store h hp hbl hb (by rw [sized_length]; exact ho')
  · refine (size_less hb hR hc k h1 hs).mono fun e w' ⟨he, w1, v', hw, hbl, ho'⟩ => ⟨he, ?_⟩
    rw [hw]
    have e1 : s.take k = sized s k := by unfold sized; rw [show k - s.length = 0 by omega]; simp
    rw [e1] at ho'
    exact turned_store h hp hbl hb (by rw [sized_length]; exact ho')
end Go.Proofs.YtohhlnkdgfgjgaaDoor.P
