/- strings.Split at the separator of one slash hands back the pieces between the slashes. -/
import Derived.Test.YtohhlnkdgfgjgaaDoorPx0
import Derived.Test.YtohhlnkdgfgjgaaDoorShelf
import Derived.Test.YtohhlnkdgfgjgaaDoorEA
import Derived.Lib.SplitLaws
import Derived.Lib.IndexBytes
namespace Go.Proofs.YtohhlnkdgfgjgaaDoor.P
open Go.RowKit Go.Proofs.YtohhlnkdgfgjgaaDoorW.PrintWords Go.Proofs.YtohhlnkdgfgjgaaDoorW.PrintLast Go.Proofs.YtohhlnkdgfgjgaaDoorW.PrintMore
/-- The pieces between the slashes; cur: the piece that has begun, turned. -/
def pl : List UInt8 → List UInt8 → List (List UInt8)
  | cur, [] => [cur.reverse]
  | cur, c :: s => if c = 47 then cur.reverse :: pl [] s else pl (c :: cur) s
def pieces (l : List UInt8) : List ByteArray := (pl [] l).map fun x => ⟨x.toArray⟩
theorem index47_ge (l : List UInt8) : -1 ≤ Lib.index l [47] := by rw [Lib.index_one]; exact Lib.indexByte_ge l 47
theorem pl_splitK : ∀ (l cur : List UInt8), ∃ h t, Lib.splitK [47] 0 (l.count 47) l = h :: t ∧ pl cur l = (cur.reverse ++ h) :: t
  | [], cur => ⟨[], [], rfl, by simp [pl]⟩
  | c :: l, cur => by
    by_cases hc : c = 47
    · subst hc
      obtain ⟨h, t, e1, e2⟩ := pl_splitK l []
      refine ⟨[], h :: t, ?_, ?_⟩
      · have hix : Lib.index (47 :: l) [47] = 0 := by rw [Lib.index]; simp [List.isPrefixOf]
        rw [List.count_cons_self, Lib.splitK, if_neg (by rw [hix]; decide), hix]
        simp [e1]
      · simp [pl, e2]
    · obtain ⟨h, t, e1, e2⟩ := pl_splitK l (c :: cur)
      refine ⟨c :: h, t, ?_, ?_⟩
      · rw [List.count_cons_of_ne (by simpa using hc)]
        cases hk : l.count 47 with
        | zero =>
          rw [hk] at e1
          simp only [Lib.splitK] at e1 ⊢
          injection e1 with e3 e4
          rw [← e3, ← e4]
        | succ k =>
          rw [hk] at e1
          have hmem : (47 : UInt8) ∈ l := List.count_pos_iff.1 (by omega)
          have hne : Lib.index l [47] ≠ -1 := by
            rw [Lib.index_one]
            intro h0
            obtain ⟨j, hj⟩ := List.getElem?_of_mem hmem
            exact Lib.indexByte_none h0 j hj
          have hge := index47_ge l
          obtain ⟨j, hj⟩ : ∃ j : Nat, Lib.index l [47] = j := ⟨(Lib.index l [47]).toNat, by omega⟩
          have hix : Lib.index (c :: l) [47] = ((j + 1 : Nat) : Int) := by
            rw [Lib.index]
            have hp : ([47] : List UInt8).isPrefixOf (c :: l) = false := by simp [List.isPrefixOf, Ne.symm hc]
            rw [hp, hj]
            simp
          rw [Lib.splitK, if_neg (by rw [beq_iff_eq]; omega), hj] at e1
          rw [Lib.splitK, if_neg (by rw [beq_iff_eq]; omega), hix]
          simp only [Int.toNat_natCast, Nat.add_zero, List.length_singleton] at e1 ⊢
          injection e1 with e3 e4
          rw [← e3, ← e4]
          simp
      · rw [pl, if_neg hc, e2]; simp
theorem ba_ext {a b : ByteArray} (h : a.data.toList = b.data.toList) : a = b := by
  cases a; cases b
  simp only at h
  congr 1
  exact Array.toList_inj.1 h
theorem map_inj {α β : Type} {f : α → β} (hf : ∀ a b, f a = f b → a = b) : ∀ {l m : List α}, l.map f = m.map f → l = m
  | [], [], _ => rfl
  | [], _ :: _, h => by cases h
  | _ :: _, [], h => by cases h
  | a :: l, b :: m, h => by
    simp only [List.map_cons, List.cons.injEq] at h
    rw [hf _ _ h.1, map_inj hf h.2]
theorem splitB_pieces (s : ByteArray) : Lib.splitB ⟨#[47]⟩ 0 (Lib.countB s ⟨#[47]⟩) s = pieces s.data.toList := by
  refine map_inj (f := fun x : ByteArray => x.data.toList) (fun _ _ h => ba_ext h) ?_
  rw [Lib.splitB_data]
  have hc : Lib.countB s ⟨#[47]⟩ = s.data.toList.count 47 := Lib.count_one 47 s.data.toList
  obtain ⟨h, t, e1, e2⟩ := pl_splitK s.data.toList []
  rw [hc]
  show Lib.splitK [47] 0 _ _ = _
  rw [e1, pieces, e2]
  simp [Function.comp_def]
def strings_Split.f (a0 a1 : ByteArray) : Option (List ByteArray) := if a1.toList = ([47] : List UInt8) ∧ a0.size < 4294967281 then some (pieces a0.data.toList) else none
theorem of_toList {s : ByteArray} {l : List UInt8} (h : s.toList = l) : s = ⟨l.toArray⟩ := by
  apply ba_ext
  rw [← h, Lib.toList_data]
set_option maxHeartbeats 1000000 in
theorem genSplit47 (s : ByteArray) (w : World) (hs : s.size < 4294967281) : Calls Tryd.prog 42 #[.string s, .string ⟨#[47]⟩, .int .i64 0, .int .i64 (-1)] w fun e w' =>
      e = .returned (.slice (some ⟨w.heap.size, 0, none⟩) (pieces s.data.toList).length (pieces s.data.toList).length) ∧ w' = w.alloc (.cells ((pieces s.data.toList).map Value.string).toArray 9) := by
  have h1 : 1 ≤ (⟨#[47]⟩ : ByteArray).size := by decide
  have hle := Lib.countB_le ⟨#[47]⟩ h1 s.size s (Nat.le_refl _)
  have hlen := Lib.splitB_all ⟨#[47]⟩ h1 0 _ s rfl
  have c := Any.strings_genSplit_core Tryd.lays221 (by kernel_rfl) s ⟨#[47]⟩ 0 (-1) (Lib.countB s ⟨#[47]⟩ + 1) w hs h1 (Nat.zero_le _)
    (fun x c hx => (Tryd.strings_Index_one x 47 _).mono fun e w' ⟨he, hw⟩ => ⟨by rw [he]; show _ = Ending.returned (Value.int .i64 (Lib.index x.data.toList [47])); rw [Lib.index_one], hw⟩)
    ((Tryd.strings_Count_one s 47 w).mono fun e w' ⟨he, hw⟩ => ⟨by rw [he]; show _ = Ending.returned (Value.int .i64 ((Lib.count s.data.toList [47] : Nat) : Int)); rw [Lib.count_one]; rfl, hw⟩)
    (by decide) (by decide) (by rw [if_pos (by decide)]; omega)
  rw [Nat.add_sub_cancel] at c
  rw [show Lib.countB s ⟨#[47]⟩ + 1 = (Lib.splitB ⟨#[47]⟩ 0 (Lib.countB s ⟨#[47]⟩) s).length from hlen.symm, Lib.cellsOf_full, splitB_pieces] at c
  exact c
set_option maxHeartbeats 1000000 in
theorem strings_Split.calls (a0 : ByteArray) (a1 : ByteArray) (r : List ByteArray) (w : World) (h : strings_Split.f a0 a1 = some r) :
    Calls Tryd.prog 36 #[.string a0, .string a1] w fun e w' => ∃ v0_ : Value, e = .returned (v0_) ∧ Kd.R Kd.string 9 w' w.heap.size (fun _ => True) v0_ r ∧ Below w.heap.size w w' := by
  unfold strings_Split.f at h
  split at h
  · rename_i hh
    obtain rfl := Option.some.inj h
    obtain rfl := of_toList hh.1
    have c := genSplit47 a0 w hh.2
    have HL : (pieces a0.data.toList).length ≤ 9223372036854775807 := by
      have hle := Lib.countB_le ⟨#[47]⟩ (by decide) a0.size a0 (Nat.le_refl _)
      have hlen := Lib.splitB_all ⟨#[47]⟩ (by decide) 0 _ a0 rfl
      rw [splitB_pieces] at hlen
      omega
    clear h
    go_enter Tryd.func36, Tryd.ntmps36
    go_wp2_with (go_at_call 42; refine c.mono ?_; rintro e w' ⟨rfl, hw⟩; rw [hw])
    go_ret
    refine ⟨_, rfl, R_strings ?_ rfl, Below.alloc (Below.refl _ _) (Nat.le_refl _) _⟩
    have := World.ownsRow_lit (base := w.heap.size) (e := 9) (size := 1) w ((pieces a0.data.toList).map Value.string).toArray (pieces a0.data.toList).length (Nat.le_refl _) (by simpa [maxLen] using HL) (by simp)
    simpa using this
  · cases h
end Go.Proofs.YtohhlnkdgfgjgaaDoor.P
