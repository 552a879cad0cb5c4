/- The order of paths: the loops answer one relation, and what the statements say of it. -/
import Derived.Test.YtjbgebcgnmdjaaaDoorPureA
import Derived.Sort.Walk0
namespace Go.Proofs.YtjbgebcgnmdjaaaDoor.P
open Go.RowKit Go.Proofs.YtjbgebcgnmdjaaaDoorW.PrintWords Go.Proofs.YtjbgebcgnmdjaaaDoorW.PrintLast Go.Proofs.YtjbgebcgnmdjaaaDoorW.PrintMore
abbrev lessB (x y : ByteArray) : Bool := Op.bytesLess x.toList y.toList
theorem less_irrefl (x : ByteArray) : lessB x x = false := by
  unfold lessB
  rw [bytesLess_eq]
  exact decide_eq_false (List.lt_irrefl _)
theorem less_asymm {x y : ByteArray} (h : lessB x y = true) : lessB y x = false := by
  unfold lessB at h ⊢
  rw [bytesLess_eq] at h ⊢
  exact decide_eq_false (List.lt_asymm (of_decide_eq_true h))
theorem less_total {x y : ByteArray} (h : lessB x y = false) (h' : lessB y x = false) : x = y := by
  unfold lessB at h h'
  rw [bytesLess_eq] at h h'
  exact toList_inj.1 (List.le_antisymm (List.not_lt.1 (of_decide_eq_false h')) (List.not_lt.1 (of_decide_eq_false h)))
/-- Name by name: the first that differs decides; a path that runs out first is ahead. -/
def before : List ByteArray → List ByteArray → Bool
  | [], [] => false
  | [], _ :: _ => true
  | _ :: _, [] => false
  | x :: xs, y :: ys => if x = y then before xs ys else lessB x y
theorem before_self : ∀ a, before a a = false
  | [] => rfl
  | x :: xs => by rw [before, if_pos rfl]; exact before_self xs
theorem before_asymm : ∀ a b, before a b = true → before b a = false
  | [], [], _ => rfl
  | [], _ :: _, _ => rfl
  | _ :: _, [], h => by simp [before] at h
  | x :: xs, y :: ys, h => by
    by_cases e : x = y
    · subst e
      rw [before, if_pos rfl] at h ⊢
      exact before_asymm xs ys h
    · rw [before, if_neg e] at h
      rw [before, if_neg (fun h => e h.symm)]
      exact less_asymm h
theorem before_total : ∀ a b, before a b = false → before b a = false → a = b
  | [], [], _, _ => rfl
  | [], _ :: _, h, _ => by simp [before] at h
  | _ :: _, [], _, h => by simp [before] at h
  | x :: xs, y :: ys, h, h' => by
    by_cases e : x = y
    · subst e
      rw [before, if_pos rfl] at h h'
      rw [before_total xs ys h h']
    · rw [before, if_neg e] at h
      rw [before, if_neg (fun h => e h.symm)] at h'
      exact absurd (less_total h h') e
theorem before_snoc : ∀ (a : List ByteArray) (x : ByteArray), before a (a ++ [x]) = true
  | [], _ => rfl
  | y :: ys, x => by rw [List.cons_append, before, if_pos rfl]; exact before_snoc ys x
theorem before_kid : ∀ (a b : List ByteArray) (x : ByteArray), ¬ a <+: b → before (a ++ [x]) b = before a b
  | [], b, x, h => absurd (List.nil_prefix) h
  | y :: ys, [], x, h => rfl
  | y :: ys, z :: zs, x, h => by
    rw [List.cons_append, before, before]
    by_cases e : y = z
    · subst e
      rw [if_pos rfl, if_pos rfl]
      refine before_kid ys zs x fun hp => h ?_
      exact List.cons_prefix_cons.2 ⟨rfl, hp⟩
    · rw [if_neg e, if_neg e]
theorem cmp_l0 (a b : List ByteArray) (ha : a.length < 8796093022208) : ∀ d i k, i + d = a.length → i ≤ b.length → d < k →
    ∃ r, slices_Compare_string_string.l0 k a b a (a.length : Int) (i : Int) = some r ∧ decide (r < 0) = before (a.drop i) (b.drop i) := by
  intro d
  induction d with
  | zero =>
    intro i k hi hib hk
    obtain ⟨k, rfl⟩ : ∃ m, k = m + 1 := ⟨k - 1, by omega⟩
    simp only [slices_Compare_string_string.l0]
    rw [if_neg (by omega), List.drop_eq_nil_of_le (by omega)]
    by_cases h : a.length < b.length
    · rw [if_pos (by omega), List.drop_eq_getElem_cons (by omega)]
      exact ⟨_, rfl, rfl⟩
    · rw [if_neg (by omega), List.drop_eq_nil_of_le (by omega)]
      exact ⟨_, rfl, rfl⟩
  | succ d ih =>
    intro i k hi hib hk
    obtain ⟨k, rfl⟩ : ∃ m, k = m + 1 := ⟨k - 1, by omega⟩
    have hlt : i < a.length := by omega
    simp only [slices_Compare_string_string.l0]
    rw [if_pos (by omega), if_pos (by omega), if_pos (by omega), List.drop_eq_getElem_cons hlt]
    by_cases h : i < b.length
    · rw [if_neg (by omega), if_pos (by omega), rd_at hlt, rd_at h, wr i (by omega), List.drop_eq_getElem_cons h, before]
      unfold cmp_Compare_string.f
      simp only [Option.bind_some]
      by_cases e : a[i] = b[i]
      · rw [if_pos e, e, if_neg (show ¬ Op.bytesLess b[i].toList b[i].toList = true by rw [show Op.bytesLess b[i].toList b[i].toList = false from less_irrefl _]; decide), if_pos rfl, if_pos rfl]
        exact ih (i + 1) k (by omega) (by omega) (by omega)
      · rw [if_neg e]
        by_cases hl : lessB a[i] b[i] = true
        · rw [if_pos hl, if_neg (by decide), hl]
          exact ⟨_, rfl, rfl⟩
        · rw [if_neg hl, if_neg (fun h => e (toList_inj.1 h)), if_neg (by decide)]
          refine ⟨_, rfl, ?_⟩
          rw [eq_false_of_ne_true hl]
          rfl
    · rw [if_pos (by omega), show b.drop i = [] from List.drop_eq_nil_of_le (by omega)]
      exact ⟨_, rfl, rfl⟩
theorem before_f (a b : List ByteArray) (ha : a.length < 8796093022208) (k : Nat) (hk : a.length < k) : path_Before.f k a b = some (before a b) := by
  unfold path_Before.f slices_Compare_string_string.f
  obtain ⟨r, hr, hd⟩ := cmp_l0 a b ha a.length 0 k (by omega) (by omega) hk
  rw [show ((0 : Nat) : Int) = 0 from rfl] at hr
  rw [hr, Option.bind_some, hd, List.drop_zero, List.drop_zero]
theorem ref_l0 (a b : List ByteArray) (ha : a.length < 8796093022208) : ∀ d i k, i + d = a.length → i ≤ b.length → d < k →
    cantleref12_Before.l0 k a b (a.length : Int) (i : Int) = some (before (a.drop i) (b.drop i)) := by
  intro d
  induction d with
  | zero =>
    intro i k hi hib hk
    obtain ⟨k, rfl⟩ : ∃ m, k = m + 1 := ⟨k - 1, by omega⟩
    simp only [cantleref12_Before.l0]
    rw [if_neg (by omega), List.drop_eq_nil_of_le (by omega)]
    by_cases h : a.length < b.length
    · rw [decide_eq_true (by omega), List.drop_eq_getElem_cons (by omega)]
      rfl
    · rw [decide_eq_false (by omega), List.drop_eq_nil_of_le (by omega)]
      rfl
  | succ d ih =>
    intro i k hi hib hk
    obtain ⟨k, rfl⟩ : ∃ m, k = m + 1 := ⟨k - 1, by omega⟩
    have hlt : i < a.length := by omega
    simp only [cantleref12_Before.l0]
    rw [if_pos (by omega), List.drop_eq_getElem_cons hlt]
    by_cases h : i < b.length
    · rw [if_neg (by omega), if_pos (by omega), if_pos (by omega), if_pos (by omega), rd_at hlt, rd_at h, wr i (by omega), List.drop_eq_getElem_cons h, before]
      by_cases e : a[i] = b[i]
      · rw [if_pos e, if_pos (by rw [e])]
        exact ih (i + 1) k (by omega) (by omega) (by omega)
      · rw [if_neg e, if_neg (fun h => e (toList_inj.1 h))]
    · rw [if_pos (by omega), show b.drop i = [] from List.drop_eq_nil_of_le (by omega)]
      rfl
theorem ref_f (a b : List ByteArray) (ha : a.length < 8796093022208) (k : Nat) (hk : a.length < k) : cantleref12_Before.f k a b = some (before a b) := by
  unfold cantleref12_Before.f
  have := ref_l0 a b ha a.length 0 k (by omega) (by omega) hk
  rw [List.drop_zero, List.drop_zero] at this
  exact this
theorem order_j0 (a b : List ByteArray) (ha : a.length < 8796093022208) (hb : b.length < 8796093022208) (k : Nat) (hk : a.length + b.length + 1 < k) (t : Bool) :
    cantlelaw12_PathOrder.j0 k a b t = some true := by
  obtain ⟨k, rfl⟩ : ∃ m, k = m + 1 := ⟨k - 1, by omega⟩
  cases t
  case true =>
    simp only [cantlelaw12_PathOrder.j0]
    rw [if_pos trivial, lives12]
    rfl
  simp only [cantlelaw12_PathOrder.j0]
  rw [if_neg (by decide),  before_f a b ha k (by omega), before_f b a hb k (by omega), ref_f a b ha k (by omega), ref_f b a hb k (by omega), same_f a b (by omega) k (by omega)]
  simp only [Option.bind_some]
  rw [if_neg (show ¬ (before a b != before a b) = true by simp), if_neg (show ¬ (before b a != before b a) = true by simp)]
  cases h1 : before a b with
  | true => rw [before_asymm a b h1]; rfl
  | false =>
    cases h2 : before b a with
    | true => simp
    | false => rw [before_total a b h1 h2]; simp
theorem order_pure (a b : List ByteArray) (ha : a.length < 8796093022208) (hb : b.length < 8796093022208) : ∃ k, cantlelaw12_PathOrder.f k a b = some true := by
  refine ⟨a.length + b.length + 5, ?_⟩
  unfold cantlelaw12_PathOrder.f
  rw [lives12, Option.bind_some, if_pos rfl, few_f a (by omega) _ (by omega), few_f b (by omega) _ (by omega), Option.bind_some, Option.bind_some]
  rw [order_j0 a b ha hb _ (by omega), order_j0 a b ha hb _ (by omega), if_ite_self]
where if_ite_self {p : Prop} [Decidable p] {α : Type} {x : α} : (if p then x else x) = x := by split <;> rfl
theorem kids_j1 (a b : List ByteArray) (x : ByteArray) (ha : a.length < 1000) (hb : b.length < 8796093022208) (k : Nat) (hk : a.length + b.length + 5 < k) :
    cantlelaw12_PathKids.j1 k a b (a ++ [x]) false = some true := by
  obtain ⟨k, rfl⟩ : ∃ m, k = m + 1 := ⟨k - 1, by omega⟩
  simp only [cantlelaw12_PathKids.j1]
  rw [if_neg (by decide), before_f a b (by omega) k (by omega), before_f (a ++ [x]) b (by simp; omega) k (by simp; omega)]
  simp only [Option.bind_some]
  have key : ¬ a <+: b → (if before a b = true then some (before (a ++ [x]) b) else some true) = some true := by
    intro h
    rw [before_kid a b x h]
    split
    · rename_i h2; rw [h2]
    · rfl
  by_cases h : b.length ≥ a.length
  · rw [if_pos (by omega), if_pos (by omega), if_pos (by omega), Int.toNat_natCast, same_f _ _ (by rw [List.length_take]; omega) k (by rw [List.length_take]; omega), Option.bind_some]
    by_cases e : b.take a.length = a
    · rw [if_pos (decide_eq_true e)]
    · rw [if_neg (by rw [decide_eq_false e]; decide)]
      refine key fun hp => e ?_
      exact (List.prefix_iff_eq_take.1 hp).symm
  · rw [if_neg (by omega)]
    exact key fun hp => h hp.length_le
theorem kids_pure (a : List ByteArray) (x : ByteArray) (b : List ByteArray) (ha : a.length < 8796093022208) (_ : x.size ≤ 140737488351232) (hb : b.length < 8796093022208) : ∃ k, cantlelaw12_PathKids.f k a x b = some true := by
  refine ⟨2 * a.length + b.length + 20, ?_⟩
  unfold cantlelaw12_PathKids.f
  rw [lives12, Option.bind_some, if_pos rfl, few_f a (by omega) _ (by omega), few_f b (by omega) _ (by omega), Option.bind_some, Option.bind_some]
  have hj : cantlelaw12_PathKids.j0 (2 * a.length + b.length + 20) a x b true = some true := by
    rw [show 2 * a.length + b.length + 20 = (2 * a.length + b.length + 19) + 1 from rfl]
    simp only [cantlelaw12_PathKids.j0]
    rw [if_pos trivial, lives12]
    rfl
  by_cases h60 : (a.length : Int) > 60
  · simp only [h60, if_true, hj]
    split
    · split <;> rfl
    · rfl
  · have hj2 : cantlelaw12_PathKids.j0 (2 * a.length + b.length + 20) a x b false = some true := by
      rw [show 2 * a.length + b.length + 20 = (2 * a.length + b.length + 19) + 1 from rfl]
      simp only [cantlelaw12_PathKids.j0]
      rw [if_neg (by decide)]
      simp only [Option.bind_some, List.nil_append]
      rw [if_pos (by simp; omega), if_pos (by omega), parent_f (a ++ [x]) (by simp; omega) (by simp)]
      simp only [Option.bind_some, List.dropLast_concat]
      rw [before_f a (a ++ [x]) (by omega) _ (by omega), before_snoc, Option.bind_some, if_pos rfl, before_f (a ++ [x]) a (by simp; omega) _ (by simp; omega), before_asymm a (a ++ [x]) (before_snoc a x), Option.bind_some, if_neg (by decide),
        if_pos trivial, if_pos (by simp), same_f a a (by omega) _ (by omega), Option.bind_some, decide_eq_true rfl]
      exact kids_j1 a b x (by omega) hb _ (by omega)
    rw [if_neg h60]
    have hany : ∀ t, cantlelaw12_PathKids.j0 (2 * a.length + b.length + 20) a x b t = some true := by
      intro t
      cases t
      · exact hj2
      · exact hj
    simp only [hany]
    split
    · split <;> rfl
    · rfl
end Go.Proofs.YtjbgebcgnmdjaaaDoor.P
