/- Cutting a text at its slashes and joining names: both ways answer alike, and each undoes the other. -/
import Derived.Test.YtjbgebcgnmdjaaaDoorPureA
import Derived.Lib.Hide
namespace Go.Proofs.YtjbgebcgnmdjaaaDoor.P
open Go.RowKit Go.Proofs.YtjbgebcgnmdjaaaDoorW.PrintWords Go.Proofs.YtjbgebcgnmdjaaaDoorW.PrintLast Go.Proofs.YtjbgebcgnmdjaaaDoorW.PrintMore
theorem size_toList (s : ByteArray) : s.toList.length = s.size := by rw [Lib.toList_data]; rfl
theorem bt_lt (s : ByteArray) (i : Nat) (h : i < s.size) : bt s (i : Int) = ((s.data.toList[i]'(by simpa using h)).toNat : Int) := by
  unfold bt
  rw [dif_pos (by simpa using h)]
  simp
  rfl
theorem right_l0 (s : ByteArray) (hs : s.size ≤ 48) : ∀ d i k, i + d = s.size → d < k →
    cantleref08_Right.l0 k s (i : Int) = some (!((s.data.toList.drop i).any bad)) := by
  intro d
  induction d with
  | zero =>
    intro i k hi hk
    obtain ⟨k, rfl⟩ : ∃ m, k = m + 1 := ⟨k - 1, by omega⟩
    simp only [cantleref08_Right.l0]
    rw [if_neg (by omega), List.drop_eq_nil_of_le (by simp; omega)]
    rfl
  | succ d ih =>
    intro i k hi hk
    obtain ⟨k, rfl⟩ : ∃ m, k = m + 1 := ⟨k - 1, by omega⟩
    have hlt : i < s.size := by omega
    have hlt' : i < s.data.toList.length := by simpa using hlt
    simp only [cantleref08_Right.l0]
    rw [if_pos (by omega), if_pos (by omega), bt_lt s i hlt, wr i (by omega), List.drop_eq_getElem_cons hlt', List.any_cons]
    generalize s.data.toList[i] = c
    by_cases h0 : c = 0
    · subst h0; rw [if_pos (by decide)]; rfl
    · by_cases h1 : c = 47
      · subst h1; rw [if_neg (by decide), if_pos (by decide)]; rfl
      · have e0 : ¬ (c.toNat : Int) = 0 := fun h => h0 (UInt8.toNat_inj.1 (by simpa using h))
        have e1 : ¬ (c.toNat : Int) = 47 := fun h => h1 (UInt8.toNat_inj.1 (by have : c.toNat = 47 := by omega
                                                                               simpa using this))
        rw [if_neg e0, if_neg e1, ih (i + 1) k (by omega) (by omega)]
        have : bad c = false := by simp [bad, h0, h1]
        rw [this, Bool.false_or]
theorem refRight_f (s : ByteArray) (k : Nat) (hk : 60 ≤ k) : cantleref08_Right.f k s = some (rightB s) := by
  obtain ⟨k, rfl⟩ : ∃ m, k = m + 1 := ⟨k - 1, by omega⟩
  unfold cantleref08_Right.f
  have hT : cantleref08_Right.j0 (k + 1) s true = some false := rfl
  have hF : cantleref08_Right.j0 (k + 1) s false = cantleref08_Right.l0 k s 0 := rfl
  by_cases h0 : s.toList = []
  · rw [if_pos h0, hT]
    have : s.size = 0 := by rw [← size_toList, h0]; rfl
    simp [rightB, this]
  · have hz : s.size ≠ 0 := fun h => h0 (List.length_eq_zero_iff.1 (by rw [size_toList, h]))
    rw [if_neg h0]
    by_cases h1 : s.size ≤ 48
    · rw [if_neg (by omega)]
      by_cases h2 : s.toList = [46]
      · rw [if_pos h2, hT]
        simp [rightB, h2]
      · rw [if_neg h2]
        by_cases h3 : s.toList = [46, 46]
        · rw [show (s.toList == ([46, 46] : List UInt8)) = true by simpa using h3, hT]
          simp [rightB, h3]
        · rw [show (s.toList == ([46, 46] : List UInt8)) = false by simpa using h3, hF]
          have := right_l0 s h1 s.size 0 k (by omega) (by omega)
          rw [show ((0 : Nat) : Int) = 0 from rfl] at this
          rw [this, List.drop_zero]
          have e2 : (s.toList == ([46] : List UInt8)) = false := by simpa using h2
          have e3 : (s.toList == ([46, 46] : List UInt8)) = false := by simpa using h3
          unfold rightB
          rw [e2, e3, decide_eq_true hz, decide_eq_true h1]
          simp
    · rw [if_pos (by omega), hT]
      unfold rightB
      rw [decide_eq_false h1]
      simp
theorem may_f (l : List ByteArray) : path_may.f l = some (decide (l.length ≤ 64) && l.all rightB) := rfl
def toB (x : List UInt8) : ByteArray := ⟨x.toArray⟩
theorem pieces_eq (l : List UInt8) : pieces l = (pl [] l).map toB := rfl
/-- What a cut answers, from the pieces it finds. -/
def cutOf (names rest : List ByteArray) : List ByteArray × Bool := if names.length + rest.length ≤ 64 ∧ rest.all rightB = true then (names ++ rest, true) else ([], false)
theorem pl_ne : ∀ l cur, pl cur l ≠ []
  | [], cur => by simp [pl]
  | c :: s, cur => by
    rw [pl]
    split
    · simp
    · exact pl_ne s _
theorem split_l0 (s : ByteArray) (hs : s.size ≤ 4000) : ∀ d i k (names : List ByteArray) (cur : List UInt8), i + d = s.size → cur.length ≤ i → names.length ≤ 64 → 2 * d + 70 < k →
    cantleref12_Split.l0 k s names (toB cur.reverse) (i : Int) = some (cutOf names ((pl cur (s.data.toList.drop i)).map toB)) := by
  intro d
  induction d with
  | zero =>
    intro i k names cur hi hc hn hk
    obtain ⟨k, rfl⟩ : ∃ m, k = m + 2 := ⟨k - 2, by omega⟩
    simp only [cantleref12_Split.l0]
    rw [if_pos (by omega), if_neg (by omega)]
    simp only [cantleref12_Split.j2]
    rw [if_neg (by decide), refRight_f _ _ (by omega), Option.bind_some, List.drop_eq_nil_of_le (by simp; omega), pl, List.map_cons, List.map_nil, wr i (by omega)]
    unfold cutOf
    simp only [List.all_cons, List.all_nil, Bool.and_true, List.length_cons, List.length_nil]
    by_cases hr : rightB (toB cur.reverse) = true
    · rw [if_pos hr]
      by_cases h64 : names.length = 64
      · rw [if_pos (by omega), if_neg (by omega)]
      · rw [if_neg (by omega), if_pos (by omega), if_pos ⟨by omega, hr⟩]
        obtain ⟨k, rfl⟩ : ∃ m, k = m + 1 := ⟨k - 1, by omega⟩
        simp only [cantleref12_Split.l0]
        rw [if_neg (by omega)]
    · rw [if_neg hr, if_neg (fun h => hr h.2)]
  | succ d ih =>
    intro i k names cur hi hc hn hk
    obtain ⟨k, rfl⟩ : ∃ m, k = m + 2 := ⟨k - 2, by omega⟩
    have hlt : i < s.size := by omega
    have hlt' : i < s.data.toList.length := by simpa using hlt
    simp only [cantleref12_Split.l0]
    rw [if_pos (by omega), if_pos (by omega), if_pos (by omega), bt_lt s i hlt, List.drop_eq_getElem_cons hlt', pl]
    by_cases h47 : s.data.toList[i] = 47
    · rw [if_pos h47, h47, show ((((47 : UInt8).toNat : Nat) : Int) != 47) = false by decide]
      simp only [cantleref12_Split.j2]
      rw [if_neg (by decide), refRight_f _ _ (by omega), Option.bind_some, wr i (by omega), List.map_cons]
      by_cases hr : rightB (toB cur.reverse) = true
      · rw [if_pos hr]
        by_cases h64 : names.length = 64
        · rw [if_pos (by omega)]
          unfold cutOf
          rw [if_neg (by simp; omega)]
        · rw [if_neg (by omega), if_pos (by omega), show (⟨#[]⟩ : ByteArray) = toB ([] : List UInt8).reverse from rfl, ih (i + 1) k (names ++ [toB cur.reverse]) [] (by omega) (by simp) (by simp; omega) (by omega)]
          unfold cutOf
          simp only [List.length_append, List.length_cons, List.length_nil, List.all_cons, hr, Bool.true_and, List.append_assoc, List.cons_append, List.nil_append]
          congr 2
          simp only [eq_iff_iff]
          constructor <;> intro h <;> exact ⟨by omega, h.2⟩
      · rw [if_neg hr]
        unfold cutOf
        rw [if_neg (fun h => by simp [hr] at h)]
    · have e1 : ((s.data.toList[i].toNat : Int) != 47) = true := by
        simp only [bne_iff_ne, ne_eq]
        intro h
        exact h47 (UInt8.toNat_inj.1 (by have : s.data.toList[i].toNat = 47 := by omega
                                         simpa using this))
      rw [if_neg h47, e1]
      simp only [cantleref12_Split.j2]
      have e2 : toB cur.reverse ++ s.extract i (i + 1) = toB (s.data.toList[i] :: cur).reverse := by
        apply ba_ext
        rw [ByteArray.data_append]
        simp [toB, ByteArray.data_extract]
        rw [List.drop_eq_getElem_cons hlt']
        rfl
      rw [if_pos trivial, wr i (by omega), if_pos (by omega), if_pos (by omega), if_pos (by omega), Int.toNat_natCast, Int.toNat_natCast]
      rw [if_pos (by rw [← ByteArray.size_append, e2]; simp [toB, ByteArray.size]; omega), e2]
      exact ih (i + 1) k names _ (by omega) (by simp; omega) hn (by omega)
theorem toB_toList (s : ByteArray) : toB s.data.toList = s := ba_ext (by simp [toB])
theorem toList_one {s : ByteArray} {c : UInt8} : s.toList = [c] ↔ s.data.toList = [c] := by rw [Lib.toList_data]
theorem slash_f (s : ByteArray) : strings_CutPrefix.f s (⟨#[47]⟩ : ByteArray) = some (match s.data.toList with | 47 :: t => (toB t, true) | _ => (s, false)) := by
  unfold strings_CutPrefix.f stringslite_CutPrefix.f stringslite_HasPrefix.f
  have hz : (⟨#[47]⟩ : ByteArray).size = 1 := rfl
  simp only [hz]
  obtain ⟨⟨l⟩⟩ := s
  have hsz : (⟨⟨l⟩⟩ : ByteArray).size = l.length := by simp [ByteArray.size]
  simp only [hsz]
  cases l with
  | nil => simp
  | cons c t =>
    rw [if_pos (by simp; omega), if_pos (by omega), if_pos (by simp; omega), Option.bind_some]
    have e : (((⟨⟨c :: t⟩⟩ : ByteArray).extract 0 (((1 : Nat) : Int)).toNat).toList == (⟨#[47]⟩ : ByteArray).toList) = (c == 47) := by
      rw [Lib.toList_data, Lib.toList_data]
      simp [ByteArray.data_extract]
    rw [e]
    by_cases h : c = 47
    · subst h
      rw [if_pos (by rfl), if_pos (by omega), if_pos (by simp; omega)]
      simp only [Option.bind_some]
      have : (⟨⟨47 :: t⟩⟩ : ByteArray).extract (((1 : Nat) : Int)).toNat (47 :: t).length = toB t := by
        apply ba_ext
        simp [toB, ByteArray.data_extract]
      rw [this]
    · rw [if_neg (by simpa using h)]
      simp only [Option.bind_some]
      split
      · rename_i h2; exact absurd (List.cons.inj h2).1 h
      · rfl
/-- What both ways of cutting answer. -/
def cutB (s : ByteArray) : List ByteArray × Bool := if s.data.toList = [47] then ([], true) else match s.data.toList with | 47 :: t => cutOf [] (pieces t) | _ => ([], false)
theorem cut_f (s : ByteArray) (hs : s.size ≤ 4000) : path_Split.f s = some ((cutB s).1, if (cutB s).2 then 0 else 3) := by
  unfold path_Split.f cutB
  by_cases h1 : s.data.toList = [47]
  · rw [if_pos (toList_one.2 h1), if_pos h1]
    rfl
  · rw [if_neg (fun h => h1 (toList_one.1 h)), if_neg h1, slash_f, Option.bind_some]
    unfold strings_Split.f
    have h47 : (⟨#[47]⟩ : ByteArray).toList = [47] := by rw [Lib.toList_data]
    have hlen : s.data.toList.length = s.size := by simp
    split
    · rename_i t ht
      have : (toB t).size < 4294967281 := by
        rw [ht] at hlen
        simp at hlen
        simp [toB, ByteArray.size]
        omega
      rw [if_pos ⟨h47, this⟩, Option.bind_some, if_pos rfl, show pieces (toB t, true).1.data.toList = pieces t by simp [toB], may_f, Option.bind_some]
      unfold cutOf
      by_cases h : (pieces t).length ≤ 64 ∧ (pieces t).all rightB = true
      · have e1 : (decide ((pieces t).length ≤ 64) && (pieces t).all rightB) = true := by simp [h.1, h.2]
        have e2 : ([] : List ByteArray).length + (pieces t).length ≤ 64 ∧ (pieces t).all rightB = true := ⟨by simp; exact h.1, h.2⟩
        rw [if_pos e2, if_pos e1]
        rfl
      · have e1 : ¬ (decide ((pieces t).length ≤ 64) && (pieces t).all rightB) = true := by simpa using h
        have e2 : ¬ (([] : List ByteArray).length + (pieces t).length ≤ 64 ∧ (pieces t).all rightB = true) := by simpa using h
        rw [if_neg e2, if_neg e1]
        rfl
    · simp only []
      rw [if_pos ⟨h47, by omega⟩, Option.bind_some]
      rfl
theorem cutRef_f (s : ByteArray) (hs : s.size ≤ 4000) (k : Nat) (hk : 2 * s.size + 80 < k) : cantleref12_Split.f k s = some (cutB s) := by
  unfold cantleref12_Split.f cutB
  obtain ⟨k, rfl⟩ : ∃ m, k = m + 1 := ⟨k - 1, by omega⟩
  have hT : cantleref12_Split.j0 (k + 1) s [] true = some ([], false) := rfl
  have hF : cantleref12_Split.j0 (k + 1) s [] false = cantleref12_Split.l0 k s [] ⟨#[]⟩ 1 := rfl
  have hlen : s.data.toList.length = s.size := by simp
  by_cases h1 : s.data.toList = [47]
  · rw [if_pos (toList_one.2 h1), if_pos h1]
  · rw [if_neg (fun h => h1 (toList_one.1 h)), if_neg h1]
    by_cases h0 : s.data.toList = []
    · rw [if_pos (by rw [Lib.toList_data]; exact h0), hT, h0]
    · have hpos : 0 < s.size := by rw [← hlen]; exact List.length_pos_iff.2 h0
      rw [if_neg (by rw [Lib.toList_data]; exact h0), if_pos (by omega)]
      have hb := bt_lt s 0 hpos
      rw [show ((0 : Nat) : Int) = 0 from rfl] at hb
      rw [hb]
      split
      · rename_i t ht
        have e : s.data.toList[0]'(by omega) = 47 := by simp only [ht, List.getElem_cons_zero]
        rw [e, show ((((47 : UInt8).toNat : Nat) : Int) != 47) = false by decide, hF]
        have := split_l0 s hs (s.size - 1) 1 k [] [] (by omega) (by simp) (by simp) (by omega)
        rw [show ((1 : Nat) : Int) = 1 from rfl] at this
        rw [show (⟨#[]⟩ : ByteArray) = toB ([] : List UInt8).reverse from rfl, this, ht]
        rfl
      · rename_i hn
        have e : s.data.toList[0]'(by omega) ≠ 47 := by
          intro e
          refine hn (s.data.toList.drop 1) ?_
          have := List.drop_eq_getElem_cons (l := s.data.toList) (i := 0) (by omega)
          rw [List.drop_zero] at this
          rw [this, e]
          rfl
        rw [show (((s.data.toList[0]'(by omega)).toNat : Int) != 47) = true by
          simp only [bne_iff_ne, ne_eq]
          intro h
          exact e (UInt8.toNat_inj.1 (by have : (s.data.toList[0]'(by omega)).toNat = 47 := by omega
                                         simpa using this)), hT]
theorem join_pl : ∀ l cur, Lib.join (pl cur l) [47] = cur.reverse ++ l
  | [], cur => by rw [pl, Lib.join_one, List.append_nil]
  | c :: s, cur => by
    rw [pl]
    by_cases h : c = 47
    · subst h
      rw [if_pos rfl]
      obtain ⟨y, r, hy⟩ := List.exists_cons_of_ne_nil (pl_ne s [])
      rw [hy, join_two, ← hy, join_pl s []]
      simp
    · rw [if_neg h, join_pl s (c :: cur)]
      simp
theorem joined_pieces (l : List UInt8) : joinedL (pieces l) = l := by
  unfold joinedL pieces
  rw [List.map_map, show ((fun x : ByteArray => x.data.toList) ∘ fun x : List UInt8 => (⟨x.toArray⟩ : ByteArray)) = id by funext x; simp, List.map_id, join_pl]
  rfl
theorem pl_clean : ∀ (x cur : List UInt8), (∀ c ∈ x, c ≠ 47) → pl cur x = [cur.reverse ++ x]
  | [], cur, _ => by simp [pl]
  | c :: s, cur, h => by
    rw [pl, if_neg (h c (by simp)), pl_clean s (c :: cur) (fun d hd => h d (by simp [hd]))]
    simp
theorem pl_cut : ∀ (x cur rest : List UInt8), (∀ c ∈ x, c ≠ 47) → pl cur (x ++ 47 :: rest) = (cur.reverse ++ x) :: pl [] rest
  | [], cur, rest, _ => by simp [pl]
  | c :: s, cur, rest, h => by
    rw [List.cons_append, pl, if_neg (h c (by simp)), pl_cut s (c :: cur) rest (fun d hd => h d (by simp [hd]))]
    simp
theorem right_clean {s : ByteArray} (h : rightB s = true) : ∀ c ∈ s.data.toList, c ≠ 47 := by
  intro c hc e
  subst e
  unfold rightB at h
  simp only [Bool.and_eq_true, Bool.not_eq_true'] at h
  have := h.2
  rw [List.any_eq_false] at this
  exact this 47 hc rfl
theorem right_size {s : ByteArray} (h : rightB s = true) : s.size ≤ 48 ∧ s.size ≠ 0 := by
  unfold rightB at h
  simp only [Bool.and_eq_true, decide_eq_true_eq] at h
  exact ⟨h.1.1.1.2, h.1.1.1.1⟩
theorem pieces_joined : ∀ (l : List ByteArray), l ≠ [] → l.all rightB = true → pieces (joinedL l) = l
  | [], h, _ => absurd rfl h
  | [x], _, hr => by
    simp only [List.all_cons, List.all_nil, Bool.and_true] at hr
    unfold joinedL pieces
    rw [List.map_cons, List.map_nil, Lib.join_one, pl_clean _ _ (right_clean hr)]
    simp
  | x :: y :: l, _, hr => by
    rw [List.all_cons, Bool.and_eq_true] at hr
    have ih := pieces_joined (y :: l) (by simp) hr.2
    unfold joinedL pieces at ih ⊢
    rw [List.map_cons, List.map_cons, join_two, pl_cut _ _ _ (right_clean hr.1), List.map_cons]
    rw [List.map_cons] at ih
    rw [ih]
    simp
theorem joined_len (l : List ByteArray) (hr : l.all rightB = true) : (joinedL l).length ≤ l.length * 49 := by
  have := join_len (l.map fun x => x.data.toList) 48 (fun x hx => by
    obtain ⟨s, hs, rfl⟩ := List.mem_map.1 hx
    have := right_size (List.all_eq_true.1 hr s hs)
    simpa using this.1)
  simpa [joinedL] using this
/-- What both ways of joining answer. -/
def joinB (l : List ByteArray) : ByteArray × Bool := if l.length ≤ 64 ∧ l.all rightB = true then (toB (47 :: joinedL l), true) else (⟨#[]⟩, false)
theorem join_f (l : List ByteArray) : path_Join.f l = some ((joinB l).1, if (joinB l).2 then 0 else 3) := by
  unfold path_Join.f joinB
  rw [may_f, Option.bind_some]
  by_cases h : l.length ≤ 64 ∧ l.all rightB = true
  · rw [if_pos (by simp [h.1, h.2]), if_pos h]
    unfold strings_Join.f
    have hs : (l.all fun x => decide (x.size ≤ 48)) = true := List.all_eq_true.2 fun x hx => decide_eq_true (right_size (List.all_eq_true.1 h.2 x hx)).1
    rw [if_pos ⟨by rw [Lib.toList_data], h.1, hs⟩, Option.bind_some]
    have := joined_len l h.2
    rw [if_pos (by simp [ByteArray.size]; omega)]
    have e : (⟨#[47]⟩ : ByteArray) ++ ⟨(joinedL l).toArray⟩ = toB (47 :: joinedL l) := by
      apply ba_ext
      rw [ByteArray.data_append]
      simp [toB]
    rw [e]
    rfl
  · rw [if_neg (by simpa using h), if_neg h]
    rfl
theorem joinedL_snoc (l : List ByteArray) (x : ByteArray) : 47 :: joinedL (l ++ [x]) = (if l = [] then [] else 47 :: joinedL l) ++ 47 :: x.data.toList := by
  induction l with
  | nil => simp [joinedL, Lib.join_one]
  | cons y l ih =>
    rw [if_neg (by simp)]
    cases l with
    | nil => simp [joinedL, Lib.join_one, join_two]
    | cons z l =>
      rw [if_neg (by simp)] at ih
      unfold joinedL at ih ⊢
      simp only [List.cons_append, List.map_cons] at ih ⊢
      rw [join_two, join_two]
      have := (List.cons.inj ih).2
      rw [this]
      simp
theorem joinRef_l0 (l : List ByteArray) (hl : l.length ≤ 64) : ∀ d i k (acc : ByteArray), i + d = l.length → acc.data.toList = (if i = 0 then [] else 47 :: joinedL (l.take i)) → acc.size ≤ i * 49 → (l.take i).all rightB = true → d + 60 < k →
    cantleref12_Join.l0 k acc l (l.length : Int) (i : Int) = some (if l.all rightB = true then (if l = [] then ⟨#[]⟩ else toB (47 :: joinedL l), true) else (⟨#[]⟩, false)) := by
  intro d
  induction d with
  | zero =>
    intro i k acc hi ha hz hr hk
    obtain ⟨k, rfl⟩ : ∃ m, k = m + 1 := ⟨k - 1, by omega⟩
    simp only [cantleref12_Join.l0]
    have ht : l.take i = l := List.take_of_length_le (by omega)
    rw [ht] at ha hr
    rw [if_neg (by omega), if_pos hr]
    by_cases h0 : l = []
    · subst h0
      rw [if_pos (by simpa using hi)] at ha
      rw [if_pos rfl]
      have : acc = ⟨#[]⟩ := ba_ext ha
      rw [this]
    · have : 0 < l.length := List.length_pos_iff.2 h0
      rw [if_neg (by omega)] at ha
      rw [if_neg h0]
      have : acc = toB (47 :: joinedL l) := ba_ext (by rw [ha]; simp [toB])
      rw [this]
  | succ d ih =>
    intro i k acc hi ha hz hr hk
    obtain ⟨k, rfl⟩ : ∃ m, k = m + 1 := ⟨k - 1, by omega⟩
    have hlt : i < l.length := by omega
    simp only [cantleref12_Join.l0]
    rw [if_pos (by omega), if_pos (by omega), if_pos (by omega), rd_at hlt, refRight_f _ _ (by omega), Option.bind_some]
    by_cases h : rightB l[i] = true
    · rw [if_pos h]
      have hsz := right_size h
      have h1 : (⟨#[47]⟩ : ByteArray).size = 1 := rfl
      rw [if_pos (by omega), if_pos (by rw [ByteArray.size_append, h1]; omega), wr i (by omega)]
      have htk : l.take (i + 1) = l.take i ++ [l[i]] := (List.take_append_getElem hlt).symm
      refine ih (i + 1) k _ (by omega) ?_ (by rw [ByteArray.size_append, ByteArray.size_append, h1]; omega) (by rw [htk, List.all_append, hr]; simp [h]) (by omega)
      rw [if_neg (by omega), htk, joinedL_snoc, ByteArray.data_append, ByteArray.data_append, Array.toList_append, Array.toList_append, ha]
      have : (l.take i = []) ↔ i = 0 := by
        rw [List.take_eq_nil_iff]
        constructor
        · rintro (h | h)
          · exact h
          · subst h; simp at hlt
        · exact .inl
      by_cases h0 : i = 0
      · rw [if_pos h0, if_pos (this.2 h0)]
        rfl
      · rw [if_neg h0, if_neg (fun h => h0 (this.1 h))]
        simp
    · rw [if_neg h, if_neg (fun hall => h (List.all_eq_true.1 hall _ (List.getElem_mem hlt)))]
theorem joinRef_f (l : List ByteArray) (k : Nat) (hk : l.length + 70 < k) : cantleref12_Join.f k l = some (joinB l) := by
  unfold cantleref12_Join.f joinB
  by_cases h64 : l.length ≤ 64
  · rw [if_neg (by omega)]
    by_cases h0 : l = []
    · subst h0
      rw [if_pos (by rfl), if_pos ⟨by simp, rfl⟩]
      rfl
    · have : 0 < l.length := List.length_pos_iff.2 h0
      rw [if_neg (by omega)]
      have := joinRef_l0 l h64 l.length 0 k ⟨#[]⟩ (by omega) rfl (by simp [ByteArray.size]) (by simp) (by omega)
      rw [show ((0 : Nat) : Int) = 0 from rfl] at this
      rw [this, if_neg h0]
      by_cases hr : l.all rightB = true
      · rw [if_pos hr, if_pos ⟨h64, hr⟩]
      · rw [if_neg hr, if_neg (fun h => hr h.2)]
  · rw [if_pos (by omega), if_neg (fun h => h64 h.1)]
theorem back_split (s : ByteArray) (h : (cutB s).2 = true) : joinB (cutB s).1 = (s, true) := by
  unfold cutB at h ⊢
  by_cases h1 : s.data.toList = [47]
  · rw [if_pos h1]
    unfold joinB
    rw [if_pos ⟨by simp, rfl⟩, show (47 :: joinedL []) = [47] from rfl, ← h1, toB_toList]
  · rw [if_neg h1] at h ⊢
    split at h
    · rename_i t ht
      rw [ht] at h1
      unfold cutOf at h ⊢
      split at h
      · rename_i hc
        rw [if_pos hc]
        unfold joinB
        rw [List.nil_append, if_pos ⟨by simpa using hc.1, hc.2⟩, joined_pieces, ← ht, toB_toList]
      · cases h
    · cases h
theorem cutB_len (s : ByteArray) : (cutB s).1.length ≤ 64 := by
  unfold cutB
  split
  · simp
  · split
    · unfold cutOf
      split
      · rename_i h; simpa using h.1
      · simp
    · simp
theorem back_join (l : List ByteArray) (h : (joinB l).2 = true) : cutB (joinB l).1 = (l, true) ∧ (joinB l).1.size ≤ 4000 := by
  unfold joinB at h ⊢
  split at h
  · rename_i hc
    rw [if_pos hc]
    have hlen := joined_len l hc.2
    have hT : (toB (47 :: joinedL l)).data.toList = 47 :: joinedL l := by simp [toB]
    refine ⟨?_, by simp [toB, ByteArray.size]; omega⟩
    unfold cutB
    simp only [hT]
    by_cases h0 : l = []
    · subst h0
      rfl
    · rw [if_neg]
      · unfold cutOf
        rw [pieces_joined l h0 hc.2, if_pos ⟨by simpa using hc.1, hc.2⟩]
        rfl
      · intro h1
        have hj : joinedL l = [] := (List.cons.inj h1).2
        have := pieces_joined l h0 hc.2
        rw [hj] at this
        have hx : l.all rightB = true := hc.2
        rw [← this] at hx
        exact absurd hx (by decide)
  · cases h
theorem splits_pure (s : ByteArray) (_ : s.size ≤ 140737488351232) : ∃ k, cantlelaw12_PathSplits.f k s = some true := by
  refine ⟨2 * s.size + 100, ?_⟩
  unfold cantlelaw12_PathSplits.f
  rw [lives12, Option.bind_some, if_pos rfl]
  rw [show 2 * s.size + 100 = (2 * s.size + 98) + 1 + 1 from rfl]
  by_cases hs : s.size ≤ 4000
  · rw [decide_eq_false (by omega)]
    simp only [cantlelaw12_PathSplits.j0]
    rw [if_neg (by decide), cut_f s hs, cutRef_f s hs _ (by omega), Option.bind_some, Option.bind_some]
    simp only []
    rw [same_f _ _ (by have := cutB_len s; omega) _ (by have := cutB_len s; omega), Option.bind_some, if_pos (by simp)]
    cases hb : (cutB s).2 with
    | false =>
      rw [if_neg (by decide), if_neg (by decide)]
      simp only [cantlelaw12_PathSplits.j1]
      rw [if_neg (by decide), if_neg (by decide)]
    | true =>
      rw [if_neg (by decide), if_pos rfl]
      simp only [cantlelaw12_PathSplits.j1]
      rw [if_neg (by decide), if_pos trivial, join_f, back_split s hb, Option.bind_some]
      simp
  · rw [decide_eq_true (by omega)]
    simp only [cantlelaw12_PathSplits.j0]
    rw [if_pos trivial, lives12]
    rfl
theorem joins_pure (l : List ByteArray) (hl : l.length < 8796093022208) : ∃ k, cantlelaw12_PathJoins.f k l = some true := by
  refine ⟨2 * l.length + 200, ?_⟩
  unfold cantlelaw12_PathJoins.f
  rw [lives12, Option.bind_some, if_pos rfl, few_f l (by omega) _ (by omega), Option.bind_some]
  rw [show 2 * l.length + 200 = (2 * l.length + 198) + 1 + 1 from rfl]
  cases hf : fewB l with
  | false =>
    simp only [cantlelaw12_PathJoins.j0]
    rw [if_pos (by rfl), lives12]
    rfl
  | true =>
    simp only [cantlelaw12_PathJoins.j0]
    rw [if_neg (by decide), join_f l, joinRef_f l _ (by omega), Option.bind_some, Option.bind_some]
    simp only []
    rw [if_pos trivial]
    cases hb : (joinB l).2 with
    | false =>
      rw [if_neg (by decide), if_neg (by decide)]
      simp only [cantlelaw12_PathJoins.j1]
      rw [if_neg (by decide), if_neg (by decide)]
    | true =>
      obtain ⟨hj, hz⟩ := back_join l hb
      rw [if_neg (by decide), if_pos rfl]
      simp only [cantlelaw12_PathJoins.j1]
      rw [if_neg (by decide), if_pos trivial, cut_f _ hz, hj, Option.bind_some]
      simp only []
      rw [if_pos trivial, if_pos rfl, same_f l l (by omega) _ (by omega), Option.bind_some, decide_eq_true rfl]
end Go.Proofs.YtjbgebcgnmdjaaaDoor.P
