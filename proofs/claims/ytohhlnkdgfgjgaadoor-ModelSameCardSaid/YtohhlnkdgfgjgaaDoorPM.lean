/- ModelSame, over what its functions compute. -/
import Derived.Test.YtohhlnkdgfgjgaaDoorPx7
import Derived.Test.YtohhlnkdgfgjgaaDoorPS
namespace Go.Proofs.YtohhlnkdgfgjgaaDoor.P
open Go.RowKit Go.Proofs.YtohhlnkdgfgjgaaDoorW.PrintWords Go.Proofs.YtohhlnkdgfgjgaaDoorW.PrintLast Go.Proofs.YtohhlnkdgfgjgaaDoorW.PrintMore
theorem same_l0 (a b : List ByteArray) (hl : a.length ≤ 9223372036854775807) (hab : a.length = b.length) : ∀ d i k, i + d = a.length → d < k →
    cantleref12_Same.l0 k a b (a.length : Int) (i : Int) = some (decide (a.drop i = b.drop i)) := by
  intro d
  induction d with
  | zero =>
    intro i k hi hk
    obtain ⟨k, rfl⟩ : ∃ m, k = m + 1 := ⟨k - 1, by omega⟩
    simp only [cantleref12_Same.l0]
    rw [if_neg (by omega), List.drop_eq_nil_of_le (by omega), List.drop_eq_nil_of_le (by omega)]
    simp
  | succ d ih =>
    intro i k hi hk
    obtain ⟨k, rfl⟩ : ∃ m, k = m + 1 := ⟨k - 1, by omega⟩
    have hlt : i < a.length := by omega
    have hlt' : i < b.length := by omega
    simp only [cantleref12_Same.l0]
    rw [if_pos (by omega), if_pos (by omega), if_pos (by omega), if_pos (by omega), rd_at hlt, rd_at hlt', wr i (by omega)]
    have e : (a.drop i = b.drop i) ↔ (a[i] = b[i] ∧ a.drop (i + 1) = b.drop (i + 1)) := by
      rw [List.drop_eq_getElem_cons hlt, List.drop_eq_getElem_cons hlt', List.cons.injEq]
    by_cases h : a[i] = b[i]
    · rw [if_pos (toList_inj.2 h), ih (i + 1) k (by omega) (by omega)]
      simp only [e, h, true_and]
    · rw [if_neg (fun e => h (toList_inj.1 e)), decide_eq_false (fun h2 => h (e.1 h2).1)]
theorem same_f (a b : List ByteArray) (hl : a.length ≤ 9223372036854775807) (k : Nat) (hk : a.length < k) : cantleref12_Same.f k a b = some (decide (a = b)) := by
  unfold cantleref12_Same.f
  by_cases h : a.length = b.length
  · rw [if_pos (by omega)]
    have := same_l0 a b hl h a.length 0 k (by omega) hk
    rw [List.drop_zero, List.drop_zero] at this
    exact this
  · rw [if_neg (by omega), decide_eq_false (fun e => h (by rw [e]))]
theorem equal_l0 (a b : List ByteArray) (hl : a.length ≤ 9223372036854775807) (hab : a.length = b.length) : ∀ d i k, i + d = a.length → d < k →
    slices_Equal_string_string.l0 k a b (a.length : Int) (i : Int) = some (decide (a.drop i = b.drop i)) := by
  intro d
  induction d with
  | zero =>
    intro i k hi hk
    obtain ⟨k, rfl⟩ : ∃ m, k = m + 1 := ⟨k - 1, by omega⟩
    simp only [slices_Equal_string_string.l0]
    rw [if_neg (by omega), List.drop_eq_nil_of_le (by omega), List.drop_eq_nil_of_le (by omega)]
    simp
  | succ d ih =>
    intro i k hi hk
    obtain ⟨k, rfl⟩ : ∃ m, k = m + 1 := ⟨k - 1, by omega⟩
    have hlt : i < a.length := by omega
    have hlt' : i < b.length := by omega
    simp only [slices_Equal_string_string.l0]
    rw [if_pos (by omega), if_pos (by omega), if_pos (by omega), if_pos (by omega), rd_at hlt, rd_at hlt', wr i (by omega)]
    have e : (a.drop i = b.drop i) ↔ (a[i] = b[i] ∧ a.drop (i + 1) = b.drop (i + 1)) := by
      rw [List.drop_eq_getElem_cons hlt, List.drop_eq_getElem_cons hlt', List.cons.injEq]
    by_cases h : a[i] = b[i]
    · rw [if_pos (toList_inj.2 h), ih (i + 1) k (by omega) (by omega)]
      simp only [e, h, true_and]
    · rw [if_neg (fun e => h (toList_inj.1 e)), decide_eq_false (fun h2 => h (e.1 h2).1)]
theorem equal_f (a b : List ByteArray) (hl : a.length ≤ 9223372036854775807) (k : Nat) (hk : a.length < k) : slices_Equal_string_string.f k a b = some (decide (a = b)) := by
  unfold slices_Equal_string_string.f
  by_cases h : a.length = b.length
  · rw [if_pos (by omega)]
    have := equal_l0 a b hl h a.length 0 k (by omega) hk
    rw [List.drop_zero, List.drop_zero] at this
    exact this
  · rw [if_neg (by omega), decide_eq_false (fun e => h (by rw [e]))]
def sameB (e1 : Int) (d1 : List Int) (n1 : List ByteArray) (e2 : Int) (d2 : List Int) (n2 : List ByteArray) : Bool := decide (e1 = e2) && ((strOfNums d1).toList == (strOfNums d2).toList) && decide (n1 = n2)
theorem modelSame_f (e1 : Int) (d1 : List Int) (n1 : List ByteArray) (e2 : Int) (d2 : List Int) (n2 : List ByteArray) (hl : n1.length ≤ 9223372036854775807) (k : Nat) (hk : n1.length < k) : model_Same.f k e1 d1 n1 e2 d2 n2 = some (sameB e1 d1 n1 e2 d2 n2) := by
  unfold model_Same.f sameB bytes_Equal.f
  by_cases h1 : e1 = e2
  · rw [if_pos h1, Option.bind_some]
    by_cases h2 : (strOfNums d1).toList = (strOfNums d2).toList
    · rw [if_pos (by simpa using h2), equal_f n1 n2 hl k hk, Option.bind_some]
      simp [h1, h2]
    · rw [if_neg (by simpa using h2)]
      simp [h2]
  · rw [if_neg h1]
    simp [h1]
theorem sameB_refl (e : Int) (d : List Int) (n : List ByteArray) : sameB e d n e d n = true := by simp [sameB]
theorem sameB_comm (e1 : Int) (d1 : List Int) (n1 : List ByteArray) (e2 : Int) (d2 : List Int) (n2 : List ByteArray) : sameB e2 d2 n2 e1 d1 n1 = sameB e1 d1 n1 e2 d2 n2 := by
  unfold sameB
  rw [Bool.eq_iff_iff]
  simp only [Bool.and_eq_true, decide_eq_true_eq, beq_iff_eq]
  constructor <;> (rintro ⟨⟨h1, h2⟩, h3⟩; exact ⟨⟨h1.symm, h2.symm⟩, h3.symm⟩)
theorem modelSame_pure (e1 : Int) (d1 : List Int) (n1 : List ByteArray) (e2 : Int) (d2 : List Int) (n2 : List ByteArray) (h1 : n1.length ≤ 9223372036854775807) (h2 : n2.length ≤ 9223372036854775807) : ∃ k, cantlelaw14_ModelSame.f k e1 d1 n1 e2 d2 n2 = some true := by
  have hj : ∀ b, cantlelaw14_ModelSame.j0 (n1.length + n2.length + 2) b e1 d1 n1 e2 d2 n2 = some true := by
    intro b
    obtain ⟨k, hk⟩ : ∃ k, n1.length + n2.length + 2 = k + 1 := ⟨n1.length + n2.length + 1, rfl⟩
    rw [hk, cantlelaw14_ModelSame.j0]
    cases b with
    | true => rfl
    | false =>
      have q1 := modelSame_f e1 d1 n1 e2 d2 n2 h1 k (by omega)
      have q2 := modelSame_f e2 d2 n2 e1 d1 n1 h2 k (by omega)
      have q3 := modelSame_f e1 d1 n1 e1 d1 n1 h1 k (by omega)
      rw [sameB_comm] at q2
      rw [sameB_refl] at q3
      rw [if_neg (by decide), q1, q2, q3]
      by_cases g1 : e1 = e2
      · by_cases g2 : (strOfNums d1).toList = (strOfNums d2).toList
        · rw [if_pos g1, if_pos g2, same_f n1 n2 h1 k (by omega)]
          have hS : sameB e1 d1 n1 e2 d2 n2 = decide (n1 = n2) := by simp [sameB, g1, g2]
          rw [hS]
          simp
        · rw [if_pos g1, if_neg g2]
          have hS : sameB e1 d1 n1 e2 d2 n2 = false := by simp [sameB, g2]
          rw [hS]
          simp
      · rw [if_neg g1]
        have hS : sameB e1 d1 n1 e2 d2 n2 = false := by simp [sameB, g1]
        rw [hS]
        simp
  refine ⟨n1.length + n2.length + 2, ?_⟩
  unfold cantlelaw14_ModelSame.f
  rw [show cantlelaw14_Lives.f = some true from rfl, Option.bind_some, if_pos rfl]
  split <;> exact hj _
end Go.Proofs.YtohhlnkdgfgjgaaDoor.P
