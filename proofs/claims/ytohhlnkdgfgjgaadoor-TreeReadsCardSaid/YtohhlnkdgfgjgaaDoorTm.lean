/- Write and Read whole. -/
import Derived.Test.YtohhlnkdgfgjgaaDoorTl
namespace Go.Proofs.YtohhlnkdgfgjgaaDoor.P
open Go.RowKit Go.Proofs.YtohhlnkdgfgjgaaDoorW.PrintWords Go.Proofs.YtohhlnkdgfgjgaaDoorW.PrintLast Go.Proofs.YtohhlnkdgfgjgaaDoorW.PrintMore
attribute [local go_sem] min2_int min_two max2_int max_two
section
variable {w : World} {own : Nat → Tag} {g N : Nat} {nb : List ByteArray → Nat} {T : List Th}
theorem Turned.same (h : TreeAt w own g nb N T) {w' : World} (hb : Below w.heap.size w w') : Turned w w' own g nb N T := ⟨own, h.below hb, Touch.of_below hb _⟩
/-- No file is too long. -/
def Short (T : List Th) : Prop := ∀ p d s, at' T p = some (d, s) → s.length ≤ 268435456
theorem tree_Tree_Write.calls (h : TreeAt w own g nb N T) (s : ByteArray) (hs : s.size ≤ 4000) (k : Int) (A : Option Addr) (c : Nat) (xs : List Int) (hx : 0 < xs.length → RdB w A xs.length xs) (hA : 0 < xs.length → ∀ a, A = some a → own a.block = .no) (hT : Short T) :
    Calls Tryd.prog 9 #[.pointer (some ⟨g, 0, none⟩), .string s, .int .i64 k, .slice A xs.length c] w fun e w' => e = .returned (.int .i64 (writeE T s k xs.length)) ∧ Turned w w' own g nb N (writeT T s k xs) := by
  have no : writeE T s k xs.length ≠ 0 → writeT T s k xs = T := fun h => if_neg (fun e => h e.1)
  by_cases hf : fileE T s = 0
  · by_cases hr : k < 0 ∨ 268435456 < k ∨ 268435456 - k < (xs.length : Int)
    · have e9 : writeE T s k xs.length = 9 := by unfold writeE; rw [if_neg (fun e => e hf), if_pos hr]
      rw [no (by rw [e9]; decide), e9]
      by_cases h0 : k < 0
      · exact (write_neg h s hs k A _ c hf h0).mono fun e w' ⟨h1, h2⟩ => ⟨h1, Turned.same h h2⟩
      · by_cases h1 : 268435456 < k
        · exact (write_far h s hs k A _ c hf (by omega) h1).mono fun e w' ⟨h1, h2⟩ => ⟨h1, Turned.same h h2⟩
        · exact (write_long h s hs k A _ c hf (by omega) (by omega) (by omega)).mono fun e w' ⟨h1, h2⟩ => ⟨h1, Turned.same h h2⟩
    · have e0 : writeE T s k xs.length = 0 := by unfold writeE; rw [if_neg (fun e => e hf), if_neg hr]
      rw [e0]
      obtain ⟨kn, rfl⟩ : ∃ kn : Nat, k = kn := ⟨k.toNat, by omega⟩
      by_cases h0 : xs = []
      · have e1 : writeT T s (kn : Int) xs = T := if_neg (fun e => e.2 h0)
        rw [e1]
        subst h0
        exact (write_none h s hs kn A c hf (by omega) (by omega)).mono fun e w' ⟨h1, h2⟩ => ⟨h1, Turned.same h h2⟩
      · obtain ⟨data, hd⟩ := file_at hf
        have e1 : writeT T s (kn : Int) xs = setT T (cutB s).1 (written data kn xs) := by
          unfold writeT bytesAt
          rw [if_pos ⟨e0, h0⟩, hd, Int.toNat_natCast]
        rw [e1]
        have hl := hT _ _ _ hd
        exact write_main h s hs kn A c xs hf (by omega) (by omega) (List.length_pos_iff.2 h0) (hx (List.length_pos_iff.2 h0)) (hA (List.length_pos_iff.2 h0)) hd hl
  · have e0 : writeE T s k xs.length = fileE T s := by unfold writeE; rw [if_pos hf]
    rw [no (by rw [e0]; exact hf), e0]
    exact (write_err h s hs k A _ c hf).mono fun e w' ⟨h1, h2⟩ => ⟨h1, Turned.same h h2⟩
/-- A slice of bytes from a place on. -/
theorem cut_drop {A : Option Addr} {n c : Nat} {xs : List Int} (h : RdB w A n xs) (m : Nat) (hm : m ≤ n) (hc : n ≤ c) : ∃ (A1 : Option Addr) (n1 c1 : Nat), (∀ W : World, (Instr.slice 23 (.slice A n c) (some (.int .i64 (m : Int))) none none).run Tryd.prog W = .ok (.slice A1 n1 c1) W) ∧ RdB w A1 n1 (xs.drop m) ∧ n1 = n - m ∧ n1 ≤ c1 := by
  refine ⟨if c = m then A else A.map (·.add m), n - m, c - m, fun W => ?_, h.drop m hm hc, rfl, by omega⟩
  obtain ⟨i, hi, hzz⟩ := Option.map_eq_some_iff.1 info5
  simp only [Prod.mk.injEq] at hzz
  have hel : Tryd.prog.elem 23 = 5 := by kernel_rfl
  have hu : Tryd.prog.underlying 23 = some (.slice (Tryd.prog.elem 23)) := by rw [hel]; exact Tryd.underlying23
  rw [run_slice_l W 23 A n c hu .i64 (m : Int) (Int.natCast_nonneg _) (by omega), hel]
  simp [sizeOf, typeInfo, hi, hzz.2.1, sliced, Result.andThen]
def readE (T : List Th) (s : ByteArray) (k n : Int) : Int := if fileE T s ≠ 0 then fileE T s else if k < 0 ∨ n < 0 then 9 else 0
def readB (T : List Th) (s : ByteArray) (k n : Int) : List Int := if readE T s k n = 0 then ((bytesAt T (cutB s).1).drop k.toNat).take n.toNat else []
/-- What Read hands back: a row of the call's own. -/
def Got (w w' : World) (e : Ending) (xs : List Int) (z : Int) : Prop := ∃ (A : Option Addr) (c : Nat), e = .returned (.tuple #[.slice A xs.length c, .int .i64 z]) ∧ w'.ownsRow w.heap.size 5 1 (.slice A xs.length c) xs.length (xs.map (Value.int .u8)) ∧ Below w.heap.size w w'
theorem Got.of {w1 w2 : World} {A : Option Addr} {q c : Nat} {xs : List Int} {z : Int} (hl : xs.length = q) (hb1 : Below w.heap.size w w1) (ho : w2.ownsRow w1.heap.size 5 1 (.slice A q c) q (xs.map (Value.int .u8))) (hb : Below w1.heap.size w1 w2) : Got w w2 (.returned (.tuple #[.slice A q c, .int .i64 z])) xs z := by
  subst hl
  exact ⟨A, c, rfl, own_base' ho hb1.size, hb1.trans (hb.mono hb1.size)⟩
theorem Got.nil {w' : World} {z : Int} (hb : Below w.heap.size w w') : Got w w' (.returned (.tuple #[.slice none 0 0, .int .i64 z])) [] z := ⟨none, 0, rfl, ⟨rfl, .inl ⟨rfl, rfl⟩⟩, hb⟩
set_option maxHeartbeats 4000000 in
set_option maxRecDepth 100000 in
theorem read_err (h : TreeAt w own g nb N T) (s : ByteArray) (hs : s.size ≤ 4000) (k n : Int) (hf : fileE T s ≠ 0) :
    Calls Tryd.prog 10 #[.pointer (some ⟨g, 0, none⟩), .string s, .int .i64 k, .int .i64 n] w fun e w' => Got w w' e [] (fileE T s) := by
  have C1 := tree_Tree_file.calls h s hs
  rw [decide_eq_false hf] at C1
  simp only [ptrIf, Bool.false_eq_true, if_false] at C1
  have hne : (fileE T s == 0) = false := by simpa using hf
  have hne2 : (fileE T s != 0) = true := by simpa using hf
  generalize fileE T s = z at *
  have C := Aside0.mk C1
  clear C1 hf h hs
  go_enter Tryd.func10, Tryd.ntmps10
  go_wp2_with (go_at_call 22; (with_reducible refine C.out.mono ?_); rintro e w1 ⟨rfl, hb⟩)
  go_ret2
  exact Got.nil hb
set_option maxHeartbeats 4000000 in
set_option maxRecDepth 100000 in
theorem read_neg (h : TreeAt w own g nb N T) (s : ByteArray) (hs : s.size ≤ 4000) (k n : Int) (hf : fileE T s = 0) (hk : k < 0 ∨ n < 0) :
    Calls Tryd.prog 10 #[.pointer (some ⟨g, 0, none⟩), .string s, .int .i64 k, .int .i64 n] w fun e w' => Got w w' e [] 9 := by
  have C := Aside0.mk (file_ok h s hs hf)
  generalize nb (cutB s).1 = b at *
  clear h hs hf
  by_cases h0 : k < 0
  · have d0 : decide (k < 0) = true := decide_eq_true h0
    clear hk
    go_enter Tryd.func10, Tryd.ntmps10
    go_wp2_with (go_at_call 22; (with_reducible refine C.out.mono ?_); rintro e w1 ⟨rfl, hb⟩)
    all_goals (go_ret2; exact Got.nil hb)
  · have h1 : n < 0 := by omega
    have d0 : decide (k < 0) = false := decide_eq_false h0
    have d1 : decide (n < 0) = true := decide_eq_true h1
    clear hk
    go_enter Tryd.func10, Tryd.ntmps10
    go_wp2_with (go_at_call 22; (with_reducible refine C.out.mono ?_); rintro e w1 ⟨rfl, hb⟩)
    all_goals (go_ret2; exact Got.nil hb)
set_option maxHeartbeats 4000000 in
set_option maxRecDepth 100000 in
theorem read_main (h : TreeAt w own g nb N T) (s : ByteArray) (hs : s.size ≤ 4000) (k n : Nat) (hf : fileE T s = 0) {data : List Int} (hd : at' T (cutB s).1 = some (false, data)) (hdl : data.length ≤ 268435456) :
    Calls Tryd.prog 10 #[.pointer (some ⟨g, 0, none⟩), .string s, .int .i64 k, .int .i64 n] w fun e w' => Got w w' e ((data.drop k).take n) 0 := by
  have C := Aside0.mk (file_ok h s hs hf)
  generalize (cutB s).1 = p at *
  obtain ⟨A0, c0, mb, hcell, ho, _⟩ := h.cells hd
  obtain ⟨hR, hc0⟩ := RdB.of_own ho
  have hc1 : w.cell? ⟨nb p, 1, none⟩ = some (.slice A0 data.length c0) := blk_cell hcell 1
  generalize nb p = b at *
  obtain ⟨l, hl⟩ : ∃ l, l = data.length := ⟨_, rfl⟩
  rw [← hl] at hR hc0 hc1
  have m0 : decide ((k : Int) < 0) = false := decide_eq_false (by omega)
  have m1 : decide ((n : Int) < 0) = false := decide_eq_false (by omega)
  have go : ∀ (m : Nat), m ≤ l → data.drop m = data.drop k → ((l < k ∧ m = l) ∨ (¬ l < k ∧ m = k)) → Calls Tryd.prog 10 #[.pointer (some ⟨g, 0, none⟩), .string s, .int .i64 k, .int .i64 n] w fun e w' => Got w w' e ((data.drop k).take n) 0 := by
    intro m hm hdr hcase
    obtain ⟨A1, n1, c1, hcut, hR1, hn1, hc11⟩ := cut_drop hR m hm hc0
    rw [hdr] at hR1
    have go2 : ∀ q : Nat, q ≤ n1 → ((n1 < n ∧ q = n1) ∨ (¬ n1 < n ∧ q = n)) → Calls Tryd.prog 10 #[.pointer (some ⟨g, 0, none⟩), .string s, .int .i64 k, .int .i64 n] w fun e w' => Got w w' e ((data.drop k).take n) 0 := by
      intro q hq hqc
      have hR2 := hR1.take q hq
      have hlen : ((data.drop k).take n).length = q := by
        rw [List.length_take, hR1.1]
        omega
      have htk : (data.drop k).take q = (data.drop k).take n := by
        rcases hqc with ⟨h1, rfl⟩ | ⟨h1, rfl⟩
        · rw [List.take_of_length_le (by rw [hR1.1]; exact Nat.le_refl _), List.take_of_length_le (by rw [hR1.1]; omega)]
        · rfl
      rw [htk] at hR2
      have CC : Aside0 (∀ w1, Below w.heap.size w w1 → Calls Tryd.prog 24 #[.slice A1 q c1] w1 fun e w' => ∃ (A' : Option Addr) (c' : Nat), e = .returned (.slice A' q c') ∧ w'.ownsRow w1.heap.size 5 1 (.slice A' q c') q (((data.drop k).take n).map (Value.int .u8)) ∧ Below w1.heap.size w1 w') :=
        ⟨fun w1 hb => cloneB (hR2.below hb) c1 (by omega)⟩
      have e0 : decide ((0 : Int) ≤ (q : Int)) = true := decide_eq_true (by omega)
      have e1 : decide ((q : Int) ≤ (c1 : Int)) = true := decide_eq_true (by omega)
      have e2 : (q : Int) ≤ (c1 : Int) := by omega
      have e3 : q ≤ c1 := by omega
      have LEN := Aside0.mk hlen
      clear h hs hf hd hcell ho hR hR1 hR2 hdr hlen htk hn1 hdl hl
      generalize (data.drop k).take n = ys at *
      rcases hcase with ⟨h1, rfl⟩ | ⟨h1, rfl⟩
      · rcases hqc with ⟨h2, rfl⟩ | ⟨h2, rfl⟩
        · have p1 : (m : Int) < (k : Int) := by omega
          have p2 : (q : Int) < (n : Int) := by omega
          clear h1 h2 hc0 hc11
          go_enter Tryd.func10, Tryd.ntmps10
          go_wp2_with (go_at_call 22; (with_reducible refine C.out.mono ?_); rintro e w1 ⟨rfl, hb⟩; have hc1' := pw_cell_below hb hc1)
          go_quiet (fail)
          go_wp2_with (go_at_call 24; (with_reducible refine (CC.out _ (pw_below_drewN hb _)).mono ?_); rintro e w2 ⟨A', c', rfl, ho, hb2⟩; have HO := Aside0.mk ho; clear ho)
          go_ret2
          exact Got.of LEN.out (pw_below_drewN hb _) HO.out hb2
        · have p1 : (m : Int) < (k : Int) := by omega
          have p2 : ¬ (n1 : Int) < (q : Int) := by omega
          clear h1 h2 hc0 hc11
          go_enter Tryd.func10, Tryd.ntmps10
          go_wp2_with (go_at_call 22; (with_reducible refine C.out.mono ?_); rintro e w1 ⟨rfl, hb⟩; have hc1' := pw_cell_below hb hc1)
          go_quiet (fail)
          go_wp2_with (go_at_call 24; (with_reducible refine (CC.out _ (pw_below_drewN hb _)).mono ?_); rintro e w2 ⟨A', c', rfl, ho, hb2⟩; have HO := Aside0.mk ho; clear ho)
          go_ret2
          exact Got.of LEN.out (pw_below_drewN hb _) HO.out hb2
      · rcases hqc with ⟨h2, rfl⟩ | ⟨h2, rfl⟩
        · have p1 : ¬ (l : Int) < (m : Int) := by omega
          have p2 : (q : Int) < (n : Int) := by omega
          clear h1 h2 hc0 hc11
          go_enter Tryd.func10, Tryd.ntmps10
          go_wp2_with (go_at_call 22; (with_reducible refine C.out.mono ?_); rintro e w1 ⟨rfl, hb⟩; have hc1' := pw_cell_below hb hc1)
          go_quiet (fail)
          go_wp2_with (go_at_call 24; (with_reducible refine (CC.out _ (pw_below_drewN hb _)).mono ?_); rintro e w2 ⟨A', c', rfl, ho, hb2⟩; have HO := Aside0.mk ho; clear ho)
          go_ret2
          exact Got.of LEN.out (pw_below_drewN hb _) HO.out hb2
        · have p1 : ¬ (l : Int) < (m : Int) := by omega
          have p2 : ¬ (n1 : Int) < (q : Int) := by omega
          clear h1 h2 hc0 hc11
          go_enter Tryd.func10, Tryd.ntmps10
          go_wp2_with (go_at_call 22; (with_reducible refine C.out.mono ?_); rintro e w1 ⟨rfl, hb⟩; have hc1' := pw_cell_below hb hc1)
          go_quiet (fail)
          go_wp2_with (go_at_call 24; (with_reducible refine (CC.out _ (pw_below_drewN hb _)).mono ?_); rintro e w2 ⟨A', c', rfl, ho, hb2⟩; have HO := Aside0.mk ho; clear ho)
          go_ret2
          exact Got.of LEN.out (pw_below_drewN hb _) HO.out hb2
    rcases Nat.lt_or_ge n1 n with h2 | h2
    · exact go2 n1 (Nat.le_refl _) (.inl ⟨h2, rfl⟩)
    · exact go2 n h2 (.inr ⟨by omega, rfl⟩)
  rcases Nat.lt_or_ge l k with h1 | h1
  · exact go l (Nat.le_refl _) (by rw [List.drop_of_length_le (by omega), List.drop_of_length_le (by omega)]) (.inl ⟨h1, rfl⟩)
  · exact go k h1 rfl (.inr ⟨by omega, rfl⟩)
end
end Go.Proofs.YtohhlnkdgfgjgaaDoor.P
