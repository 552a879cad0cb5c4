/- A path's names, and its parent: what the cut at the slashes answers. -/
import Derived.Test.YtohhlnkdgfgjgaaDoorPx2
import Derived.Test.YtohhlnkdgfgjgaaDoorPx4
import Derived.Test.YtohhlnkdgfgjgaaDoorPx5
import Derived.Lib.Hide
namespace Go.Proofs.YtohhlnkdgfgjgaaDoor.P
open Go.RowKit Go.Proofs.YtohhlnkdgfgjgaaDoorW.PrintWords Go.Proofs.YtohhlnkdgfgjgaaDoorW.PrintLast Go.Proofs.YtohhlnkdgfgjgaaDoorW.PrintMore
theorem toList_inj {a b : ByteArray} : a.toList = b.toList ↔ a = b := by
  constructor
  · intro h
    apply ba_ext
    rw [← Lib.toList_data, ← Lib.toList_data, h]
  · intro h; rw [h]
theorem wr (i : Nat) (h : i < 9223372036854775807) : wrap64 ((i : Int) + 1) = ((i + 1 : Nat) : Int) := by
  unfold wrap64
  omega
theorem wr_back (n : Nat) (h0 : 0 < n) (h : n < 9223372036854775807) : wrap64 ((n : Int) - 1) = ((n - 1 : Nat) : Int) := by
  unfold wrap64
  omega
theorem rd_at {l : List ByteArray} {i : Nat} (h : i < l.length) : rdOf ByteArray.empty l (i : Int) = l[i] := by
  unfold rdOf
  rw [Int.toNat_natCast, List.getD_eq_getElem?_getD, List.getElem?_eq_getElem h]
  rfl
theorem lives12 : cantlelaw12_Lives.f = some true := by decide +kernel
theorem parent_f (l : List ByteArray) (hl : l.length < 8796093022208) (h0 : l ≠ []) : path_Parent.f l = some (l.dropLast, l.getLast h0, true) := by
  have hn : 0 < l.length := List.length_pos_iff.2 h0
  unfold path_Parent.f
  rw [if_neg (by omega), wr_back l.length hn (by omega), if_pos (by omega), if_pos (by omega), Int.toNat_natCast]
  unfold slices_Clone_string_string.f
  rw [if_pos (by rw [List.length_take]; omega)]
  simp only [Option.bind_some]
  rw [if_pos (by omega), rd_at (by omega), ← List.dropLast_eq_take, List.getLast_eq_getElem]
theorem parent_nil : path_Parent.f [] = some ([], ⟨#[]⟩, false) := by
  unfold path_Parent.f
  rw [if_pos (by rfl)]
theorem right_size {s : ByteArray} (h : rightB s = true) : s.size ≤ 48 ∧ s.size ≠ 0 := by
  unfold rightB at h
  simp only [Bool.and_eq_true, decide_eq_true_eq] at h
  exact ⟨h.1.1.1.2, h.1.1.1.1⟩
theorem may_f (l : List ByteArray) : path_may.f l = some (decide (l.length ≤ 64) && l.all rightB) := rfl
def toB (x : List UInt8) : ByteArray := ⟨x.toArray⟩
theorem pieces_eq (l : List UInt8) : pieces l = (pl [] l).map toB := rfl
/-- What a cut answers, from the pieces it finds. -/
def cutOf (names rest : List ByteArray) : List ByteArray × Bool := if names.length + rest.length ≤ 64 ∧ rest.all rightB = true then (names ++ rest, true) else ([], false)
theorem pl_ne : ∀ l cur, pl cur l ≠ []
  | [], cur => by simp [pl]
  | c :: s, cur => by
    rw [pl]
    split
    · simp
    · exact pl_ne s _
theorem toB_toList (s : ByteArray) : toB s.data.toList = s := ba_ext (by simp [toB])
theorem toList_one {s : ByteArray} {c : UInt8} : s.toList = [c] ↔ s.data.toList = [c] := by rw [Lib.toList_data]
theorem slash_f (s : ByteArray) : strings_CutPrefix.f s (⟨#[47]⟩ : ByteArray) = some (match s.data.toList with | 47 :: t => (toB t, true) | _ => (s, false)) := by
  unfold strings_CutPrefix.f stringslite_CutPrefix.f stringslite_HasPrefix.f
  have hz : (⟨#[47]⟩ : ByteArray).size = 1 := rfl
  simp only [hz]
  obtain ⟨⟨l⟩⟩ := s
  have hsz : (⟨⟨l⟩⟩ : ByteArray).size = l.length := by simp [ByteArray.size]
  simp only [hsz]
  cases l with
  | nil => simp
  | cons c t =>
    rw [if_pos (by simp; omega), if_pos (by omega), if_pos (by simp; omega), Option.bind_some]
    have e : (((⟨⟨c :: t⟩⟩ : ByteArray).extract 0 (((1 : Nat) : Int)).toNat).toList == (⟨#[47]⟩ : ByteArray).toList) = (c == 47) := by
      rw [Lib.toList_data, Lib.toList_data]
      simp [ByteArray.data_extract]
    rw [e]
    by_cases h : c = 47
    · subst h
      rw [if_pos (by rfl), if_pos (by omega), if_pos (by simp; omega)]
      simp only [Option.bind_some]
      have : (⟨⟨47 :: t⟩⟩ : ByteArray).extract (((1 : Nat) : Int)).toNat (47 :: t).length = toB t := by
        apply ba_ext
        simp [toB, ByteArray.data_extract]
      rw [this]
    · rw [if_neg (by simpa using h)]
      simp only [Option.bind_some]
      split
      · rename_i h2; exact absurd (List.cons.inj h2).1 h
      · rfl
/-- What both ways of cutting answer. -/
def cutB (s : ByteArray) : List ByteArray × Bool := if s.data.toList = [47] then ([], true) else match s.data.toList with | 47 :: t => cutOf [] (pieces t) | _ => ([], false)
theorem cut_f (s : ByteArray) (hs : s.size ≤ 4000) : path_Split.f s = some ((cutB s).1, if (cutB s).2 then 0 else 3) := by
  unfold path_Split.f cutB
  by_cases h1 : s.data.toList = [47]
  · rw [if_pos (toList_one.2 h1), if_pos h1]
    rfl
  · rw [if_neg (fun h => h1 (toList_one.1 h)), if_neg h1, slash_f, Option.bind_some]
    unfold strings_Split.f
    have h47 : (⟨#[47]⟩ : ByteArray).toList = [47] := by rw [Lib.toList_data]
    have hlen : s.data.toList.length = s.size := by simp
    split
    · rename_i t ht
      have : (toB t).size < 4294967281 := by
        rw [ht] at hlen
        simp at hlen
        simp [toB, ByteArray.size]
        omega
      rw [if_pos ⟨h47, this⟩, Option.bind_some, if_pos rfl, show pieces (toB t, true).1.data.toList = pieces t by simp [toB], may_f, Option.bind_some]
      unfold cutOf
      by_cases h : (pieces t).length ≤ 64 ∧ (pieces t).all rightB = true
      · have e1 : (decide ((pieces t).length ≤ 64) && (pieces t).all rightB) = true := by simp [h.1, h.2]
        have e2 : ([] : List ByteArray).length + (pieces t).length ≤ 64 ∧ (pieces t).all rightB = true := ⟨by simp; exact h.1, h.2⟩
        rw [if_pos e2, if_pos e1]
        rfl
      · have e1 : ¬ (decide ((pieces t).length ≤ 64) && (pieces t).all rightB) = true := by simpa using h
        have e2 : ¬ (([] : List ByteArray).length + (pieces t).length ≤ 64 ∧ (pieces t).all rightB = true) := by simpa using h
        rw [if_neg e2, if_neg e1]
        rfl
    · simp only []
      rw [if_pos ⟨h47, by omega⟩, Option.bind_some]
      rfl
theorem cutB_len (s : ByteArray) : (cutB s).1.length ≤ 64 := by
  unfold cutB
  split
  · simp
  · split
    · unfold cutOf
      split
      · rename_i h; simpa using h.1
      · simp
    · simp
theorem cutB_right (s : ByteArray) : (cutB s).1.all rightB = true := by
  unfold cutB
  split
  · rfl
  · split
    · unfold cutOf
      split
      · rename_i h
        simpa using h.2
      · rfl
    · rfl
theorem cutB_sizes (s : ByteArray) : ∀ x ∈ (cutB s).1, x.size ≤ 140737488355328 := fun x hx => by
  have := (right_size (List.all_eq_true.1 (cutB_right s) x hx)).1
  omega
end Go.Proofs.YtohhlnkdgfgjgaaDoor.P
