/- entry.Right: is it a name? (strings.ContainsAny at the text of a slash and a nought, of whatever bytes) -/
import Derived.Test.YtohhlnkdgfgjgaaDoorRune
import Derived.Test.YtohhlnkdgfgjgaaDoorEA
namespace Go.Proofs.YtohhlnkdgfgjgaaDoor.P
open Go.RowKit Go.Lib
def bad (c : UInt8) : Bool := c == 47 || c == 0
theorem bad_chars (c : UInt8) : bad c = true ↔ c = 47 ∨ c = 0 := by simp [bad]
/-- What a decoded rune tells: an ASCII one is the byte itself; any other is from 128 on, and covers bytes from 128 on alone. -/
theorem decode_tells (s : ByteArray) (i : Nat) (h : i < s.size) :
    ((Utf8.decode s i).1 < 128 ∧ (Utf8.decode s i).2 = 1 ∧ (Utf8.decode s i).1 = (s[i]'h).toNat) ∨
    (128 ≤ (Utf8.decode s i).1 ∧ (Utf8.decode s i).1 ≤ 1114111 ∧ ((Utf8.decode s i).1 = 65533 ∨ Utf8.valid ((Utf8.decode s i).1 : Int) = true) ∧ 1 ≤ (Utf8.decode s i).2 ∧ i + (Utf8.decode s i).2 ≤ s.size ∧
      ∀ j (hj : j < s.size), i ≤ j → j < i + (Utf8.decode s i).2 → 128 ≤ (s[j]'hj).toNat) := by
  have hg : ∀ k (hk : i + k < s.size), s.get! (i + k) = s[i + k]'hk := fun k hk => by
    simp [ByteArray.get!, getElem!_pos, hk]
    rfl
  have hb : ∀ k, (s.get! (i + k)).toNat < 256 := fun k => (s.get! (i + k)).toNat_lt
  have h0 := hb 0; have h1 := hb 1; have h2 := hb 2; have h3 := hb 3
  have e0 : s.get! (i + 0) = s[i]'h := hg 0 h
  by_cases hlt : (s.get! (i + 0)).toNat < 128
  · left
    have : Utf8.decode s i = ((s.get! (i + 0)).toNat, 1) := by simp only [Utf8.decode, hlt, if_true]
    rw [this]
    exact ⟨hlt, rfl, by rw [e0]⟩
  · right
    have hbyte : ∀ n, (∀ k, k < n → i + k < s.size ∧ 128 ≤ (s.get! (i + k)).toNat) → ∀ j (hj : j < s.size), i ≤ j → j < i + n → 128 ≤ (s[j]'hj).toNat := by
      intro n hn j hj h4 h5
      obtain ⟨hk, hv⟩ := hn (j - i) (by omega)
      rw [hg (j - i) hk] at hv
      have e : i + (j - i) = j := by omega
      simpa [e] using hv
    have herr : 128 ≤ Utf8.runeError ∧ Utf8.runeError ≤ 1114111 ∧ (Utf8.runeError = 65533 ∨ Utf8.valid (Utf8.runeError : Int) = true) ∧ 1 ≤ 1 ∧ i + 1 ≤ s.size ∧ ∀ j (hj : j < s.size), i ≤ j → j < i + 1 → 128 ≤ (s[j]'hj).toNat :=
      ⟨by decide, by decide, .inl rfl, Nat.le_refl 1, by omega, hbyte 1 (fun k hk => by obtain rfl : k = 0 := (by omega); exact ⟨h, by omega⟩)⟩
    have key : ∀ r : Nat × Nat, (128 ≤ r.1 ∧ r.1 ≤ 1114111 ∧ (r.1 = 65533 ∨ Utf8.valid (r.1 : Int) = true) ∧ 1 ≤ r.2 ∧ i + r.2 ≤ s.size ∧ ∀ j (hj : j < s.size), i ≤ j → j < i + r.2 → 128 ≤ (s[j]'hj).toNat) → Utf8.decode s i = r → 128 ≤ (Utf8.decode s i).1 ∧ (Utf8.decode s i).1 ≤ 1114111 ∧ ((Utf8.decode s i).1 = 65533 ∨ Utf8.valid ((Utf8.decode s i).1 : Int) = true) ∧ 1 ≤ (Utf8.decode s i).2 ∧ i + (Utf8.decode s i).2 ≤ s.size ∧ ∀ j (hj : j < s.size), i ≤ j → j < i + (Utf8.decode s i).2 → 128 ≤ (s[j]'hj).toNat := fun r hr e => by rw [e]; exact hr
    refine key _ ?_ rfl
    clear key
    have hite : ∀ (c : Prop) [Decidable c] (a b : Nat × Nat) (Q : Nat × Nat → Prop), (c → Q a) → (¬ c → Q b) → Q (if c then a else b) := fun c _ a b Q ha hb => by split <;> simp_all
    unfold Utf8.decode
    dsimp only
    rw [if_neg hlt]
    split
    · rename_i hc
      simp only [Bool.and_eq_true, beq_iff_eq, decide_eq_true_eq] at hc
      obtain ⟨c0, c1, c2⟩ := hc
      split
      · refine ⟨by dsimp only; omega, by dsimp only; omega, .inr ?_, by dsimp only; omega, by dsimp only; omega, hbyte 2 (fun k hk => ?_)⟩
        · dsimp only
          simp only [Utf8.valid, Bool.or_eq_true, Bool.and_eq_true, decide_eq_true_eq]
          omega
        · rcases Nat.lt_or_ge k 1 with h4 | h4
          · obtain rfl : k = 0 := by omega
            exact ⟨h, by omega⟩
          · obtain rfl : k = 1 := by omega
            exact ⟨c1, by omega⟩
      · exact herr
    · split
      · rename_i _ hc
        simp only [Bool.and_eq_true, beq_iff_eq, decide_eq_true_eq] at hc
        obtain ⟨⟨c0, c1, c2⟩, c3, c4⟩ := hc
        split
        · rename_i hv
          simp only [Bool.and_eq_true, decide_eq_true_eq] at hv
          refine ⟨by dsimp only; omega, by dsimp only; omega, .inr hv.2, by dsimp only; omega, by dsimp only; omega, hbyte 3 (fun k hk => ?_)⟩
          rcases Nat.lt_or_ge k 1 with h4 | h4
          · obtain rfl : k = 0 := by omega
            exact ⟨h, by omega⟩
          · rcases Nat.lt_or_ge k 2 with h5 | h5
            · obtain rfl : k = 1 := by omega
              exact ⟨c1, by omega⟩
            · obtain rfl : k = 2 := by omega
              exact ⟨c3, by omega⟩
        · exact herr
      · split
        · rename_i _ _ hc
          simp only [Bool.and_eq_true, beq_iff_eq, decide_eq_true_eq] at hc
          obtain ⟨⟨⟨c0, c1, c2⟩, c3, c4⟩, c5, c6⟩ := hc
          split
          · rename_i hv
            simp only [Bool.and_eq_true, decide_eq_true_eq] at hv
            have hv2 := hv.2
            refine ⟨by dsimp only; omega, ?_, .inr hv.2, by dsimp only; omega, by dsimp only; omega, hbyte 4 (fun k hk => ?_)⟩
            · simp only [Utf8.valid, Bool.or_eq_true, Bool.and_eq_true, decide_eq_true_eq] at hv2
              dsimp only
              omega
            rcases Nat.lt_or_ge k 1 with h4 | h4
            · obtain rfl : k = 0 := by omega
              exact ⟨h, by omega⟩
            · rcases Nat.lt_or_ge k 2 with h5 | h5
              · obtain rfl : k = 1 := by omega
                exact ⟨c1, by omega⟩
              · rcases Nat.lt_or_ge k 3 with h6 | h6
                · obtain rfl : k = 2 := by omega
                  exact ⟨c3, by omega⟩
                · obtain rfl : k = 3 := by omega
                  exact ⟨c5, by omega⟩
          · exact herr
        · exact herr
/-- What IndexRune answers at the rune that stands at place i. -/
theorem rune_at (s : ByteArray) (i : Nat) (h : i < s.size) (w : World) (b : Bool) (hb : (decide ((Utf8.decode s i).1 < 128) && bad (s[i]'h)) = b) :
    Calls Tryd.prog 67 #[.string chars2, .int .i32 ((Utf8.decode s i).1 : Int)] w fun e w' => ∃ v : Int, e = .returned (.int .i64 v) ∧ decide (0 ≤ v) = b ∧ Below w.heap.size w w' := by
  rcases decode_tells s i h with ⟨h1, _, h3⟩ | ⟨h1, h2, h3, _⟩
  · refine (Tryd.strings_IndexRune_ascii chars2 ((Utf8.decode s i).1 : Int) w (by omega) (by omega)).mono fun e w' ⟨he, hw⟩ => ⟨_, he, ?_, by rw [hw]; exact Below.refl _ _⟩
    rw [← Lib.contains_iff_indexByte, ← hb, h3]
    have e : ((s[i]'h).toNat : Int).toNat.toUInt8 = s[i]'h := by simp
    rw [e, ← h3]
    have e2 : (chars2.data.toList.contains (s[i]'h)) = bad (s[i]'h) := by
      show ([47, 0] : List UInt8).contains (s[i]'h) = _
      simp only [bad, List.contains_cons, List.contains_nil, Bool.or_false]
    rw [e2]
    simp [h1]
  · have hb' : b = false := by rw [← hb]; simp; omega
    rw [hb']
    by_cases h4 : (Utf8.decode s i).1 = 65533
    · rw [h4]
      exact (indexRune_err w).mono fun e w' ⟨he, hw⟩ => ⟨_, he, rfl, hw⟩
    · have hv : Utf8.valid ((Utf8.decode s i).1 : Int) = true := h3.resolve_left h4
      exact (indexRune_high ((Utf8.decode s i).1 : Int) (by omega) (by omega) (by have hv2 := hv; rw [validRune_eq] at hv2; exact hv2) (beq_eq_false_iff_ne.2 (by omega)) w).mono fun e w' ⟨he, hw⟩ => ⟨_, he, rfl, hw⟩
theorem c2_empty : chars2.toList.isEmpty = false := by rw [Lib.toList_data]; rfl
def NoBad (s : ByteArray) (i : Nat) : Prop := ∀ (j : Nat) (hj : j < s.size), j < i → bad (s[j]'hj) = false
theorem any_none {s : ByteArray} (h : NoBad s s.size) : s.data.toList.any bad = false := by
  rw [List.any_eq_false]
  intro x hx
  obtain ⟨j, hj, rfl⟩ := List.getElem_of_mem hx
  have hj' : j < s.size := by rw [Array.length_toList] at hj; exact hj
  have := h j hj' hj'
  rw [show s.data.toList[j] = s[j]'hj' from rfl, this]
  decide
theorem any_hit {s : ByteArray} (i : Nat) (h : i < s.size) (hb : bad (s[i]'h) = true) : s.data.toList.any bad = true := by
  rw [List.any_eq_true]
  exact ⟨s[i]'h, Array.getElem_mem_toList (xs := s.data) h, hb⟩
theorem noBad_succ {s : ByteArray} {i : Nat} (hn : NoBad s i) (h : i < s.size) (hb : (decide ((Utf8.decode s i).1 < 128) && bad (s[i]'h)) = false) : i + (Utf8.decode s i).2 ≤ s.size ∧ i < i + (Utf8.decode s i).2 ∧ NoBad s (i + (Utf8.decode s i).2) := by
  rcases decode_tells s i h with ⟨h1, h2, h3⟩ | ⟨h1, h2, h3, h4, h5, h6⟩
  · rw [h2]
    refine ⟨by omega, by omega, fun j hj hlt => ?_⟩
    by_cases e : j = i
    · subst e; simpa [h1] using hb
    · exact hn j hj (by omega)
  · refine ⟨h5, by omega, fun j hj hlt => ?_⟩
    by_cases e : j < i
    · exact hn j hj e
    · have := h6 j hj (by omega) hlt
      have h7 : s[j]'hj ≠ 47 := fun e => by rw [e] at this; exact absurd this (by decide)
      have h8 : s[j]'hj ≠ 0 := fun e => by rw [e] at this; exact absurd this (by decide)
      simp [bad, h7, h8]
set_option maxHeartbeats 4000000 in
set_option maxRecDepth 1000000 in
theorem indexAny_short (s : ByteArray) (w : World) (h8 : s.size ≤ 8) :
    Calls Tryd.prog 61 #[.string s, .string chars2] w fun e w' => ∃ v : Int, e = .returned (.int .i64 v) ∧ decide (0 ≤ v) = s.data.toList.any bad ∧ Below w.heap.size w w' := by
  have hemp := c2_empty
  have hn1 : ((chars2.size : Int) == 1) = false := rfl
  have h8z : decide ((8 : Int) < (s.size : Int)) = false := decide_eq_false (by omega)
  go_enter Tryd.func61, Tryd.ntmps61
  go_wp2_with (go_at_call 68; refine (Tryd.strings_shouldUseASCIISet _ _).mono ?_; rintro e w' ⟨rfl, hw⟩; rw [hw, h8z])
  go_loopg [9, 10] s.size (fun g _ _ wx => ∃ i : Nat, i + g = s.size ∧ wx.heap[w.heap.size]? = some (.stringIter s i) ∧ Hid (Below w.heap.size w wx) ∧ Hid (NoBad s i))
  case atStart => exact ⟨0, by omega, World.iter_heap w s 0, Lib.hid (Below.alloc (Below.refl _ _) (Nat.le_refl _) _), Lib.hid (fun j hj hlt => absurd hlt (by omega))⟩
  case round =>
    obtain ⟨i, hig, hk, HB, HN⟩ := hrel
    cases gk with
    | zero =>
      obtain rfl : i = s.size := by omega
      have hnx := fun ty => run_next_end_at (P := Tryd.prog) wr w.heap.size s s.size ty hk (by omega)
      have HK := Lib.hid hk
      clear hk
      go_wp2
      go_ret
      exact ⟨-1, rfl, by rw [any_none HN.out]; rfl, HB.out⟩
    | succ g =>
      have hi : i < s.size := by omega
      have hnx := fun ty => run_next_any_at (P := Tryd.prog) wr w.heap.size s i ty hk hi
      have HK := Lib.hid hk
      clear hk
      have HB1 := Lib.hid (Lib.below_iterAt HB.out (Nat.le_refl _) s (i + (Utf8.decode s i).2))
      have HI1 := Lib.hid (Lib.iterAt_heap wr w.heap.size s i (i + (Utf8.decode s i).2) HK.out)
      cases hbb : (decide ((Utf8.decode s i).1 < 128) && bad (s[i]'hi)) with
      | true =>
        have HBB := Lib.hid hbb
        clear hbb
        go_wp2_with (go_at_call 67; refine (rune_at s i hi _ true HBB.out).mono ?_; rintro e w' ⟨v, rfl, hv, hbl⟩)
        go_ret
        exact ⟨(i : Int), rfl, by rw [any_hit i hi (by have := HBB.out; simp only [Bool.and_eq_true] at this; exact this.2)]; simp, HB1.out.trans (hbl.mono HB1.out.size)⟩
      | false =>
        have HBB := Lib.hid hbb
        clear hbb
        go_wp2_with (go_at_call 67; refine (rune_at s i hi _ false HBB.out).mono ?_; rintro e w' ⟨v, rfl, hv, hbl⟩)
        have hns := noBad_succ HN.out hi HBB.out
        go_roundg (s.size - (i + (Utf8.decode s i).2))
        case measure => omega
        case rel => exact ⟨i + (Utf8.decode s i).2, by omega, (hbl.block _ (by rw [Lib.iterAt_size]; exact (Array.getElem?_eq_some_iff.1 HK.out).1)).trans HI1.out, Lib.hid (HB1.out.trans (hbl.mono HB1.out.size)), Lib.hid hns.2.2⟩
theorem contains_bad (c : UInt8) : ([47, 0] : List UInt8).contains c = bad c := by
  simp only [bad, List.contains_cons, List.contains_nil, Bool.or_false]
theorem indexAny_bad : ∀ l : List UInt8, decide (0 ≤ Lib.indexAny l [47, 0]) = l.any bad
  | [] => rfl
  | c :: l => by
    have ih := indexAny_bad l
    have hge := Lib.indexAny_ge [47, 0] l
    rw [Lib.indexAny, List.any_cons, contains_bad, ← ih]
    cases bad c
    · simp only [Bool.false_eq_true, if_false, Bool.false_or]
      split
      · rename_i h
        have h := beq_iff_eq.1 h
        rw [h]
      · rename_i h
        have h : Lib.indexAny l [47, 0] ≠ -1 := fun e => h (beq_iff_eq.2 e)
        rw [decide_eq_true (by omega), decide_eq_true (by omega)]
    · simp
theorem indexAny_any (s : ByteArray) (w : World) (hs : s.size < 4294967281) :
    Calls Tryd.prog 61 #[.string s, .string chars2] w fun e w' => ∃ v : Int, e = .returned (.int .i64 v) ∧ decide (0 ≤ v) = s.data.toList.any bad ∧ Below w.heap.size w w' := by
  by_cases h8 : s.size ≤ 8
  · exact indexAny_short s w h8
  · refine (Tryd.strings_IndexAny_long (fun w => by kernel_rfl) s chars2 w (by decide) (by omega) hs (by decide) (fun j b hj => ?_)).mono fun e w' ⟨he, hw⟩ => ⟨_, he, ?_, ?_⟩
    · have hj' : ([47, 0] : List UInt8)[j]? = some b := hj
      match j, hj' with
      | 0, h => cases h; decide
      | 1, h => cases h; decide
      | _ + 2, h => cases h
    · exact indexAny_bad s.data.toList
    · rw [hw]
      exact (Below.alloc (Below.refl _ _) (Nat.le_refl _) _).alloc (by simp) _
set_option maxHeartbeats 1000000 in
theorem containsAny_any (s : ByteArray) (w : World) (hs : s.size < 4294967281) :
    Calls Tryd.prog 54 #[.string s, .string chars2] w fun e w' => e = .returned (.bool (s.data.toList.any bad)) ∧ Below w.heap.size w w' := by
  have c := indexAny_any s w hs
  generalize s.data.toList.any bad = b at *
  have C := Lib.hid c
  clear c hs
  go_enter Tryd.func54, Tryd.ntmps54
  go_wp2_with (go_at_call 61; refine C.out.mono ?_; rintro e w' ⟨v, rfl, hv, hb⟩)
  go_ret
  exact ⟨by first | rfl | rw [hv], hb⟩
/-- Is it a name? -/
def rightB (s : ByteArray) : Bool := decide (s.size ≠ 0) && decide (s.size ≤ 48) && !(s.toList == [46]) && !(s.toList == [46, 46]) && !(s.data.toList.any bad)
set_option maxHeartbeats 2000000 in
theorem entry_Right.calls (s : ByteArray) (w : World) :
    Calls Tryd.prog 45 #[.string s] w fun e w' => e = .returned (.bool (rightB s)) ∧ Below w.heap.size w w' := by
  have hsl : s.toList.length = s.size := by rw [Lib.toList_data, Lib.size_eq]
  by_cases h0 : s.toList = []
  · have e0 : rightB s = false := by
      have : s.size = 0 := by rw [← hsl, h0]; rfl
      simp [rightB, this]
    rw [e0]
    have h0' : s.toList.isEmpty = true := by rw [h0]; rfl
    clear h0 e0 hsl
    go_enter Tryd.func45, Tryd.ntmps45
    go_wp2_with (fail)
    go_ret
    exact ⟨rfl, Below.refl _ _⟩
  · have h0' : s.toList.isEmpty = false := by cases h : s.toList with | nil => exact absurd h h0 | cons _ _ => rfl
    have hne : s.size ≠ 0 := fun e => h0 (List.eq_nil_of_length_eq_zero (hsl.trans e))
    clear h0
    by_cases h1 : s.size ≤ 48
    · have h1' : decide ((s.size : Int) ≤ 48) = true := decide_eq_true (by omega)
      have h1n : decide (s.size ≤ 48) = true := decide_eq_true h1
      by_cases h2 : s.toList = [46]
      · have e0 : rightB s = false := by simp [rightB, h2]
        rw [e0]
        have h2' : (s.toList == [46]) = true := beq_iff_eq.2 h2
        have h2'' : (s.toList != [46]) = false := bne_eq_false_iff_eq.2 h2
        clear h2 e0 hsl
        go_enter Tryd.func45, Tryd.ntmps45
        go_wp2_with (fail)
        go_ret
        exact ⟨rfl, Below.refl _ _⟩
      · by_cases h3 : s.toList = [46, 46]
        · have e0 : rightB s = false := by simp [rightB, h3]
          rw [e0]
          have h2' : (s.toList == [46]) = false := beq_eq_false_iff_ne.2 h2
          have h2'' : (s.toList != [46]) = true := bne_iff_ne.2 h2
          have h3' : (s.toList == [46, 46]) = true := beq_iff_eq.2 h3
          have h3'' : (s.toList != [46, 46]) = false := bne_eq_false_iff_eq.2 h3
          clear h2 h3 e0 hsl
          go_enter Tryd.func45, Tryd.ntmps45
          go_wp2_with (fail)
          go_ret
          exact ⟨rfl, Below.refl _ _⟩
        · have c := containsAny_any s w (by omega)
          have e0 : rightB s = !(s.data.toList.any bad) := by
            simp [rightB, hne, h1, h2, h3]
          rw [e0]
          generalize s.data.toList.any bad = b at *
          have C := Lib.hid c
          have h2' : (s.toList == [46]) = false := beq_eq_false_iff_ne.2 h2
          have h2'' : (s.toList != [46]) = true := bne_iff_ne.2 h2
          have h3' : (s.toList == [46, 46]) = false := beq_eq_false_iff_ne.2 h3
          have h3'' : (s.toList != [46, 46]) = true := bne_iff_ne.2 h3
          clear h2 h3 e0 c hsl
          go_enter Tryd.func45, Tryd.ntmps45
          go_wp2_with (go_at_call 54; refine C.out.mono ?_; rintro e w' ⟨rfl, hb⟩)
          go_ret
          exact ⟨rfl, hb⟩
    · have e0 : rightB s = false := by simp [rightB, h1]
      rw [e0]
      have h1' : decide ((s.size : Int) ≤ 48) = false := decide_eq_false (by omega)
      have h1n : decide (s.size ≤ 48) = false := decide_eq_false h1
      clear e0 h1 hsl
      go_enter Tryd.func45, Tryd.ntmps45
      go_wp2_with (fail)
      go_ret
      exact ⟨rfl, Below.refl _ _⟩
end Go.Proofs.YtohhlnkdgfgjgaaDoor.P
