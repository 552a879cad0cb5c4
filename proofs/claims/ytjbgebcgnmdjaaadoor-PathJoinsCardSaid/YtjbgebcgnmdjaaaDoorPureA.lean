/- The plain laws under the statements on paths: what the loops answer. -/
import Derived.Test.YtjbgebcgnmdjaaaDoorPx10
import Derived.Lib.Hide
namespace Go.Proofs.YtjbgebcgnmdjaaaDoor.P
open Go.RowKit Go.Proofs.YtjbgebcgnmdjaaaDoorW.PrintWords Go.Proofs.YtjbgebcgnmdjaaaDoorW.PrintLast Go.Proofs.YtjbgebcgnmdjaaaDoorW.PrintMore
theorem wr (i : Nat) (h : i < 9223372036854775807) : wrap64 ((i : Int) + 1) = ((i + 1 : Nat) : Int) := by
  unfold wrap64
  omega
theorem wr_back (n : Nat) (h0 : 0 < n) (h : n < 9223372036854775807) : wrap64 ((n : Int) - 1) = ((n - 1 : Nat) : Int) := by
  unfold wrap64
  omega
theorem rd_at {l : List ByteArray} {i : Nat} (h : i < l.length) : rdOf ByteArray.empty l (i : Int) = l[i] := by
  unfold rdOf
  rw [Int.toNat_natCast, List.getD_eq_getElem?_getD, List.getElem?_eq_getElem h]
  rfl
theorem toList_inj {a b : ByteArray} : a.toList = b.toList ↔ a = b := by
  constructor
  · intro h
    apply ba_ext
    rw [← Lib.toList_data, ← Lib.toList_data, h]
  · intro h; rw [h]
def fewB (l : List ByteArray) : Bool := l.all (fun s => decide (s.size ≤ 60)) && decide (l.length ≤ 70)
theorem few_l0 (l : List ByteArray) (hl : l.length < 9223372036854775807) : ∀ d i k, i + d = l.length → d < k →
    cantlelaw12_few.l0 k l l (l.length : Int) (i : Int) = some ((l.drop i).all (fun s => decide (s.size ≤ 60)) && decide (l.length ≤ 70)) := by
  intro d
  induction d with
  | zero =>
    intro i k hi hk
    obtain ⟨k, rfl⟩ : ∃ m, k = m + 1 := ⟨k - 1, by omega⟩
    simp only [cantlelaw12_few.l0]
    rw [if_neg (by omega), List.drop_eq_nil_of_le (by omega)]
    simp
    omega
  | succ d ih =>
    intro i k hi hk
    obtain ⟨k, rfl⟩ : ∃ m, k = m + 1 := ⟨k - 1, by omega⟩
    have hlt : i < l.length := by omega
    simp only [cantlelaw12_few.l0]
    rw [if_pos (by omega), if_pos (by omega), if_pos (by omega), rd_at hlt, List.drop_eq_getElem_cons hlt, List.all_cons, wr i (by omega)]
    by_cases h : l[i].size ≤ 60
    · rw [if_neg (by omega), ih (i + 1) k (by omega) (by omega)]
      simp [h]
    · rw [if_pos (by omega)]
      simp [h]
theorem few_f (l : List ByteArray) (hl : l.length < 9223372036854775807) (k : Nat) (hk : l.length < k) : cantlelaw12_few.f k l = some (fewB l) := by
  unfold cantlelaw12_few.f
  have := few_l0 l hl l.length 0 k (by omega) hk
  rw [List.drop_zero] at this
  exact this
theorem same_l0 (a b : List ByteArray) (hl : a.length < 9223372036854775807) (hab : a.length = b.length) : ∀ d i k, i + d = a.length → d < k →
    cantleref12_Same.l0 k a b (a.length : Int) (i : Int) = some (decide (a.drop i = b.drop i)) := by
  intro d
  induction d with
  | zero =>
    intro i k hi hk
    obtain ⟨k, rfl⟩ : ∃ m, k = m + 1 := ⟨k - 1, by omega⟩
    simp only [cantleref12_Same.l0]
    rw [if_neg (by omega), List.drop_eq_nil_of_le (by omega), List.drop_eq_nil_of_le (by omega)]
    simp
  | succ d ih =>
    intro i k hi hk
    obtain ⟨k, rfl⟩ : ∃ m, k = m + 1 := ⟨k - 1, by omega⟩
    have hlt : i < a.length := by omega
    have hlt' : i < b.length := by omega
    simp only [cantleref12_Same.l0]
    rw [if_pos (by omega), if_pos (by omega), if_pos (by omega), if_pos (by omega), rd_at hlt, rd_at hlt', wr i (by omega)]
    have e : (a.drop i = b.drop i) ↔ (a[i] = b[i] ∧ a.drop (i + 1) = b.drop (i + 1)) := by
      rw [List.drop_eq_getElem_cons hlt, List.drop_eq_getElem_cons hlt', List.cons.injEq]
    by_cases h : a[i] = b[i]
    · rw [if_pos (toList_inj.2 h), ih (i + 1) k (by omega) (by omega)]
      simp only [e, h, true_and]
    · rw [if_neg (fun e => h (toList_inj.1 e)), decide_eq_false (fun h2 => h (e.1 h2).1)]
theorem same_f (a b : List ByteArray) (hl : a.length < 9223372036854775807) (k : Nat) (hk : a.length < k) : cantleref12_Same.f k a b = some (decide (a = b)) := by
  unfold cantleref12_Same.f
  by_cases h : a.length = b.length
  · rw [if_pos (by omega)]
    have := same_l0 a b hl h a.length 0 k (by omega) hk
    rw [List.drop_zero, List.drop_zero] at this
    exact this
  · rw [if_neg (by omega), decide_eq_false (fun e => h (by rw [e]))]
theorem lives12 : cantlelaw12_Lives.f = some true := by decide +kernel
theorem parent_f (l : List ByteArray) (hl : l.length < 8796093022208) (h0 : l ≠ []) : path_Parent.f l = some (l.dropLast, l.getLast h0, true) := by
  have hn : 0 < l.length := List.length_pos_iff.2 h0
  unfold path_Parent.f
  rw [if_neg (by omega), wr_back l.length hn (by omega), if_pos (by omega), if_pos (by omega), Int.toNat_natCast]
  unfold slices_Clone_string_string.f
  rw [if_pos (by rw [List.length_take]; omega)]
  simp only [Option.bind_some]
  rw [if_pos (by omega), rd_at (by omega), ← List.dropLast_eq_take, List.getLast_eq_getElem]
theorem parent_nil : path_Parent.f [] = some ([], ⟨#[]⟩, false) := by
  unfold path_Parent.f
  rw [if_pos (by rfl)]
/-- The loop of the law: every name of the parent is written over; then the parent is asked again. -/
theorem parents_l0 (l0 : List ByteArray) (hl : l0.length < 8796093022208) (h0 : l0 ≠ []) (n : Nat) (hn : n < 9223372036854775807) : ∀ d i k (x : List ByteArray), x.length = n → i + d = n → l0.length + d + 1 < k →
    cantlelaw12_PathParents.l0 k l0 x ((l0.length - 1 : Nat) : Int) (n : Int) (i : Int) = some true := by
  intro d
  have hpos : 0 < l0.length := List.length_pos_iff.2 h0
  induction d with
  | zero =>
    intro i k x hx hi hk
    obtain ⟨k, rfl⟩ : ∃ m, k = m + 1 := ⟨k - 1, by omega⟩
    simp only [cantlelaw12_PathParents.l0]
    rw [if_neg (by omega), parent_f l0 hl h0]
    simp only [Option.bind_some]
    rw [if_pos (by omega), if_pos (by omega), Int.toNat_natCast, ← List.dropLast_eq_take, same_f _ _ (by rw [List.length_dropLast]; omega) k (by rw [List.length_dropLast]; omega)]
    simp
  | succ d ih =>
    intro i k x hx hi hk
    obtain ⟨k, rfl⟩ : ∃ m, k = m + 1 := ⟨k - 1, by omega⟩
    simp only [cantlelaw12_PathParents.l0]
    rw [if_pos (by omega), if_pos (by omega), if_pos (by omega), wr i (by omega)]
    exact ih (i + 1) k _ (by rw [List.length_set]; exact hx) (by omega) (by omega)
theorem parents_pure (l : List ByteArray) (hl : l.length < 8796093022208) : cantlelaw12_PathParents.f (2 * l.length + 10) l = some true := by
  unfold cantlelaw12_PathParents.f
  rw [lives12, Option.bind_some, if_pos rfl, few_f l (by omega) _ (by omega), Option.bind_some]
  rw [show 2 * l.length + 10 = (2 * l.length + 9) + 1 from rfl]
  cases hf : fewB l with
  | false =>
    simp only [cantlelaw12_PathParents.j0]
    rw [if_pos (by rfl), lives12]
    rfl
  | true =>
    simp only [cantlelaw12_PathParents.j0]
    rw [if_neg (by decide)]
    by_cases h0 : l = []
    · subst h0
      rw [parent_nil]
      simp only [Option.bind_some]
      rw [if_pos (by rfl), if_neg (by decide), if_pos (by decide +kernel)]
      rfl
    · have hpos : 0 < l.length := List.length_pos_iff.2 h0
      rw [parent_f l hl h0]
      simp only [Option.bind_some]
      rw [if_neg (by omega), if_pos trivial, wr_back l.length hpos (by omega), if_pos (by omega), if_pos (by omega), rd_at (by omega), if_pos (by rw [List.getLast_eq_getElem]), if_pos (by omega), Int.toNat_natCast, ← List.dropLast_eq_take,
        same_f _ _ (by rw [List.length_dropLast]; omega) _ (by rw [List.length_dropLast]; omega)]
      simp only [Option.bind_some, decide_true]
      rw [show 2 * l.length + 9 = (2 * l.length + 8) + 1 from rfl]
      simp only [cantlelaw12_PathParents.j1]
      rw [if_neg (by decide)]
      exact parents_l0 l hl h0 l.dropLast.length (by rw [List.length_dropLast]; omega) l.dropLast.length 0 _ _ rfl (by omega) (by rw [List.length_dropLast]; omega)
end Go.Proofs.YtjbgebcgnmdjaaaDoor.P
