/- Write: the bytes are laid over the file's. -/
import Derived.Test.YtohhlnkdgfgjgaaDoorTk
namespace Go.Proofs.YtohhlnkdgfgjgaaDoor.P
open Go.RowKit Go.Proofs.YtohhlnkdgfgjgaaDoorW.PrintWords Go.Proofs.YtohhlnkdgfgjgaaDoorW.PrintLast Go.Proofs.YtohhlnkdgfgjgaaDoorW.PrintMore
attribute [local go_sem] min2_int min_two max2_int max_two
section
variable {w : World} {own : Nat → Tag} {g N : Nat} {nb : List ByteArray → Nat} {T : List Th}
theorem setT_at {T : List Th} {p : List ByteArray} {s s' : List Int} (h : at' T p = some (false, s)) : at' (setT T p s') p = some (false, s') := by
  have hp0 : p ≠ [] := fun e => by subst e; rw [at_nil] at h; cases h
  rw [at_cons _ hp0] at h ⊢
  rw [look_setT, h, Option.map_some, if_pos rfl]
theorem setT_setT (T : List Th) (p : List ByteArray) (s s' : List Int) : setT (setT T p s) p s' = setT T p s' := by
  unfold setT
  rw [List.map_map]
  apply List.map_congr_left
  intro x _
  simp only [Function.comp]
  by_cases h : x.1 = p
  · rw [if_pos h, if_pos (by exact h), if_pos h]
  · rw [if_neg h, if_neg h]
theorem own_row {w : World} {base n c : Nat} {A : Option Addr} {xs : List Value} (h : w.ownsRow base 5 1 (.slice A n c) n xs) (hn : 0 < n) : ∃ (g : Nat) (cur : Array Value), A = some ⟨g, 0, none⟩ ∧ w.heap[g]? = some (.cells cur 5 (0, 0)) ∧ n ≤ c ∧ c ≤ maxLen ∧ cur.size = c ∧ cur.toList.take n = xs ∧ base ≤ g := by
  rcases h.2 with ⟨e, h0⟩ | ⟨g, cap, cur, e, hg, hh, hc, hm, hcs, hcur⟩
  · omega
  · cases e
    exact ⟨g, cur, rfl, hh, hc, hm, by simpa using hcs, by simpa using hcur, hg⟩
theorem map_splice {α β : Type} (f : α → β) (L : List α) (k : Nat) (cs : List α) : (splice L k cs).map f = splice (L.map f) k (cs.map f) := by
  unfold splice
  simp [List.map_take, List.map_drop]
theorem splice_take {α : Type} (L : List α) (m k : Nat) (cs : List α) (h : k + cs.length ≤ m) : (L.take k ++ (cs ++ L.drop (k + cs.length))).take m = splice (L.take m) k cs := by
  unfold splice
  rw [List.take_take, Nat.min_eq_left (by omega), List.drop_take]
  rcases Nat.le_total L.length k with h1 | h1
  · rw [List.take_of_length_le h1, List.drop_of_length_le (by omega)]
    simp only [List.take_nil, List.append_nil]
    rw [List.take_of_length_le (by simp; omega)]
  · rw [← List.append_assoc, List.take_append, List.take_of_length_le (l := L.take k ++ cs) (by rw [List.length_append, List.length_take]; omega), List.append_assoc, List.length_append, List.length_take, Nat.min_eq_left h1]
/-- The row of a file's own is turned in place. -/
theorem turned_row (h : TreeAt w own g nb N T) {p : List ByteArray} {s s' : List Int} (hp : at' T p = some (false, s)) {gr c : Nat} {cur : Array Value} (hcell : w.heap[nb p]? = some (.cells #[.bool false, .slice (some ⟨gr, 0, none⟩) s.length c, .map none] 53 (0, 0)))
    (hr : w.heap[gr]? = some (.cells cur 5 (0, 0))) {cur' : Array Value} (hl : s'.length = s.length) (hsz : cur'.size = cur.size) (hc : s.length ≤ c) (hcm : c ≤ maxLen) (hcs : cur.size = c) (hcur : cur'.toList.take s.length = s'.map (Value.int .u8)) : Turned w (w.setRow gr cur') own g nb N (setT T p s') := by
  have hlies := (h.node p false s hp).1
  obtain ⟨_, v, mb, h2, _, h4, _⟩ := h.node p false s hp
  have hgr : own gr = .row p := by
    rw [hcell] at h2
    simp only [Option.some.injEq, Obj.cells.injEq] at h2
    have e3 := congrArg (fun a : Array Value => a[1]?) h2.1
    simp at e3
    subst e3
    exact h4 gr rfl
  have hsize : (w.setRow gr cur').heap.size = w.heap.size := by simp [World.setRow]
  have hne : nb p ≠ gr := fun e => by rw [e, hgr] at hlies; cases hlies
  obtain ⟨own', hT, hm⟩ := h.turn (w' := w.setRow gr cur') (s' := s') (v' := .slice (some ⟨gr, 0, none⟩) s.length c) hp (by rw [hsize]; exact Nat.le_refl _) ((setRow_other w gr (nb p) cur' hne).trans hcell)
    ⟨by simp, .inr ⟨gr, c, cur', by rw [hl], Nat.zero_le _, setRow_heap w gr cur cur' 5 (0, 0) hr, by omega, hcm, by simp; omega, by simp only [Nat.mul_one]; rw [hl]; exact hcur⟩⟩
    (fun b h1 h2' h3 => setRow_other w gr b cur' (fun e => h2' (by rw [e]; exact hgr))) (fun b hb => .inl (by
      have : gr = b := by simpa [Value.ownBlock] using hb
      rw [← this]; exact hgr))
  refine ⟨own', hT, ⟨⟨rfl, rfl, rfl, by rw [hsize]; exact Nat.le_refl _, fun _ hk => absurd hk (Nat.not_lt_zero _)⟩, fun b hb hn => setRow_other w gr b cur' (fun e => by rw [e, hgr] at hn; cases hn), fun b hb => (hm b hb).elim .inl (fun e => .inl (by
    have : gr = b := by simpa [Value.ownBlock] using e
    rw [← this, hgr]; simp))⟩⟩
/-- A file's row behind a turn. -/
def RowAt (w w2 : World) (own : Nat → Tag) (g : Nat) (nb : List ByteArray → Nat) (N : Nat) (T : List Th) (p : List ByteArray) (s : List Int) (own2 : Nat → Tag) (gr c2 : Nat) (cur : Array Value) : Prop :=
  TreeAt w2 own2 g nb N (setT T p s) ∧ Touch w w2 own own2 ∧ w2.heap[nb p]? = some (.cells #[.bool false, .slice (some ⟨gr, 0, none⟩) s.length c2, .map none] 53 (0, 0)) ∧ w2.heap[gr]? = some (.cells cur 5 (0, 0)) ∧ s.length ≤ c2 ∧ c2 ≤ maxLen ∧ cur.size = c2 ∧ cur.toList.take s.length = s.map (Value.int .u8)
theorem row_at {w w2 : World} {own : Nat → Tag} {g N : Nat} {nb : List ByteArray → Nat} {T : List Th} {p : List ByteArray} {s data : List Int} (h : Turned w w2 own g nb N (setT T p s)) (hp : at' T p = some (false, data)) (hs : 0 < s.length) : ∃ own2 gr c2 cur, RowAt w w2 own g nb N T p s own2 gr c2 cur := by
  obtain ⟨own2, hT, ht⟩ := h
  obtain ⟨A, c, mb, hb, ho, hd, _⟩ := hT.cells (setT_at hp)
  obtain rfl := hd rfl
  obtain ⟨gr, cur, rfl, h1, h2, h3, h4, h5, _⟩ := own_row ho hs
  exact ⟨own2, gr, c, cur, hT, ht, hb, h1, h2, h3, h4, h5⟩
theorem rd_kept {w w1 w2 : World} {own own2 : Nat → Tag} {A : Option Addr} {n : Nat} {xs : List Int} (h : RdB w A n xs) (hA : ∀ a, A = some a → own a.block = .no) (hb : Below w.heap.size w w1) (ht : Touch w1 w2 own own2) (h0 : 0 < n) :
    ∃ b off, A = some ⟨b, off, none⟩ ∧ ∀ (j : Nat) (x : Int), xs[j]? = some x → w2.cell? ⟨b, off + j, none⟩ = some (.int .u8 x) := by
  rcases h.2 with ⟨_, e⟩ | ⟨b, off, e, hc⟩
  · omega
  · refine ⟨b, off, e, fun j x hj => ?_⟩
    have h1 := pw_cell_below hb (hc j x hj)
    have hlt := World.block_lt_of_cell? w1 _ h1
    have := ht.kept b hlt (hA _ e)
    unfold World.cell? at h1 ⊢
    rw [this]
    exact h1
set_option maxHeartbeats 4000000 in
set_option maxRecDepth 100000 in
theorem write_main (h : TreeAt w own g nb N T) (s : ByteArray) (hs : s.size ≤ 4000) (k : Nat) (A : Option Addr) (c : Nat) (xs : List Int) (hf : fileE T s = 0) (hk : k ≤ 268435456) (hn : (xs.length : Int) ≤ 268435456 - k) (h0 : 0 < xs.length)
    (hx : RdB w A xs.length xs) (hA : ∀ a, A = some a → own a.block = .no) {data : List Int} (hd : at' T (cutB s).1 = some (false, data)) (hdl : data.length ≤ 268435456) :
    Calls Tryd.prog 9 #[.pointer (some ⟨g, 0, none⟩), .string s, .int .i64 k, .slice A xs.length c] w fun e w' => e = .returned (.int .i64 0) ∧ Turned w w' own g nb N (setT T (cutB s).1 (written data k xs)) := by
  have C := Aside0.mk (file_ok h s hs hf)
  have HT := Aside0.mk h
  have HD := Aside0.mk hd
  have HW : Aside0 (written data k xs = splice (sized data (max data.length (k + xs.length))) k xs) := ⟨rfl⟩
  generalize written data k xs = wr at *
  generalize (cutB s).1 = p at *
  obtain ⟨A0, c0, mb, hcell, _⟩ := h.cells hd
  have hc1 : w.cell? ⟨nb p, 1, none⟩ = some (.slice A0 data.length c0) := blk_cell hcell 1
  have HX := Aside0.mk hx
  have HA := Aside0.mk hA
  obtain ⟨mx, hmx⟩ : ∃ mx, mx = max data.length (k + xs.length) := ⟨_, rfl⟩
  have CS : Aside0 (∀ w1 (z : Int), Below w.heap.size w w1 → z = (mx : Int) → Calls Tryd.prog 23 #[.pointer (some ⟨nb p, 0, none⟩), .int .i64 z] w1 fun e w' => e = .returned (.tuple #[]) ∧ Turned w1 w' own g nb N (setT T p (sized data mx))) :=
    ⟨fun w1 z hb hz => by subst hz; exact node_size.calls (HT.out.below hb) HD.out mx (by omega) (by omega)⟩
  have d0 : decide ((k : Int) < 0) = false := decide_eq_false (by omega)
  have d1 : decide (268435456 < (k : Int)) = false := decide_eq_false (by omega)
  have d2 : decide (268435456 - (k : Int) < (xs.length : Int)) = false := decide_eq_false (by omega)
  have d3 : ((xs.length : Int) == 0) = false := beq_eq_false_iff_ne.2 (by omega)
  have b1 : (data.length : Int) ≤ 268435456 := by omega
  have b2 : (xs.length : Int) ≤ 268435456 := by omega
  have b3 : (k : Int) ≤ 268435456 := by omega
  have HMX := Aside0.mk hmx
  have HN := Aside0.mk hn
  have H0 := Aside0.mk h0
  have HONE : Aside0 (∀ v ∈ xs.map (Value.int .u8), v.oneCell' = true) := ⟨fun v hv => by obtain ⟨x, _, rfl⟩ := List.mem_map.1 hv; rfl⟩
  clear h hs hf hd hcell hx hA hmx hn h0 hdl
  generalize data.length = dl at *
  go_enter Tryd.func9, Tryd.ntmps9
  go_wp2_with (first | (go_at_call 22; (with_reducible refine C.out.mono ?_); rintro e w1 ⟨rfl, hb⟩; have hc1' := pw_cell_below hb hc1) | (go_at_call 23; (with_reducible refine (CS.out _ _ hb (by have := HMX.out; first | omega | (split <;> omega))).mono ?_); rintro e w2 ⟨rfl, hT2⟩; obtain ⟨own2, gr, c2, cur, hRA⟩ := row_at hT2 HD.out (by rw [sized_length]; have h1' := HMX.out; have h2' := H0.out; omega); have HRA := Aside0.mk hRA; clear hRA hT2; have hlen2 : (sized data mx).length = mx := sized_length _ _; have hc2 : w2.cell? ⟨nb p, 1, none⟩ = some (.slice (some ⟨gr, 0, none⟩) mx c2) := (blk_cell HRA.out.2.2.1 1).trans (by rw [hlen2]; rfl); have f1 : k + xs.length ≤ mx := (by have := HMX.out; omega); have f2 : mx ≤ c2 := (by have := HRA.out.2.2.2.2.1; omega); have f3 := H0.out; have e0 : decide ((0 : Int) ≤ (k : Int)) = true := decide_eq_true (by omega); have e1 : decide ((k : Int) ≤ (mx : Int)) = true := decide_eq_true (by omega); have e2 : ¬ c2 = k := (by omega); have e3 : (k : Int) ≤ (mx : Int) := (by omega); have e4 : k ≤ mx := (by omega); have F1 := Aside0.mk f1; have F2 := Aside0.mk f2; obtain ⟨ba, offa, rfl, hrd⟩ := rd_kept HX.out HA.out hb HRA.out.2.1 H0.out; have HN2 : Aside0 ((xs.map (Value.int .u8)).length = Nat.min xs.length (mx - k)) := ⟨by rw [List.length_map]; exact (Nat.min_eq_left (by omega)).symm⟩; have HSRC : Aside0 (∀ (j : Nat) (v : Value), (xs.map (Value.int .u8))[j]? = some v → w2.cell? ((⟨ba, offa, none⟩ : Addr).add j) = some v) := ⟨fun j v hj => by rw [addr_add]; rw [List.getElem?_map] at hj; obtain ⟨x, hx', rfl⟩ := Option.map_eq_some_iff.1 hj; exact hrd j x hx'⟩; have HFIT : Aside0 (k + (xs.map (Value.int .u8)).length ≤ cur.size) := ⟨by rw [List.length_map]; have := HRA.out.2.2.2.2.2.2.1; omega⟩; clear f1 f2 f3 hlen2 hrd) | (refine wpList_copy_own rfl (.tmp 56) (.tmp 57) 23 23 rfl 5 Tryd.underlying23 (by kernel_rfl) gr k (mx - k) (c2 - k) ⟨ba, offa, none⟩ xs.length c rfl rfl cur 5 HRA.out.2.2.2.1 (xs.map (Value.int .u8)) HN2.out HSRC.out HFIT.out HONE.out ?_))
  all_goals go_ret
  all_goals
    refine ⟨rfl, ?_⟩
    obtain ⟨hT2, ht2, hb2, hr2, g1, g2, g3, g4⟩ := HRA.out
    have hlen2 : (sized data mx).length = mx := sized_length _ _
    have hmx : mx = max dl (k + xs.length) := HMX.out
    have hwr := HW.out
    rw [← hmx] at hwr
    have hq := turned_row hT2 (setT_at HD.out) hb2 hr2 (s' := wr) (cur' := (cur.toList.take k ++ (xs.map (Value.int .u8) ++ cur.toList.drop (k + (xs.map (Value.int .u8)).length))).toArray)
      (by rw [hwr, length_splice _ _ _ (by rw [hlen2]; omega)]) (by have := HFIT.out; have e9 : cur.toList.length = cur.size := Array.length_toList; simp at this ⊢; omega) g1 g2 g3 (by
        rw [hwr, map_splice, ← g4, ← splice_take _ _ _ _ (by rw [hlen2, List.length_map]; omega)])
    rw [setT_setT] at hq
    simp only [List.length_map] at hq
    obtain ⟨own3, hT3, ht3⟩ := hq
    exact ⟨own3, hT3, ((Touch.of_below hb own).trans ht2).trans ht3⟩
end
end Go.Proofs.YtohhlnkdgfgjgaaDoor.P
