/- A thing more in a tree. -/
import Derived.Test.YtohhlnkdgfgjgaaDoorTd
import Derived.Deep.RegionHeld3
namespace Go.Proofs.YtohhlnkdgfgjgaaDoor.P
open Go.RowKit Go.Proofs.YtohhlnkdgfgjgaaDoorW.PrintWords Go.Proofs.YtohhlnkdgfgjgaaDoorW.PrintLast Go.Proofs.YtohhlnkdgfgjgaaDoorW.PrintMore
theorem look_snoc (q : List ByteArray) (y : Bool × List Int) (p : List ByteArray) : ∀ T : List Th, look (T ++ [(q, y)]) p = match look T p with | some z => some z | none => if q = p then some y else none
  | [] => by simp [look]
  | (r, z) :: T => by
    rw [List.cons_append, look, look]
    by_cases h : r = p
    · rw [if_pos h, if_pos h]
    · rw [if_neg h, if_neg h]; exact look_snoc q y p T
theorem look_mem {T : List Th} {p : List ByteArray} : (look T p).isSome = true ↔ p ∈ T.map (·.1) := by
  induction T with
  | nil => simp [look]
  | cons x T ih =>
    obtain ⟨q, y⟩ := x
    rw [look, List.map_cons, List.mem_cons]
    by_cases h : q = p
    · rw [if_pos h]; simp [h]
    · rw [if_neg h, ih]
      constructor
      · exact .inr
      · rintro (e | e)
        · exact absurd e.symm h
        · exact e
theorem snoc_inj' {p q : List ByteArray} {x y : ByteArray} (h : p ++ [x] = q ++ [y]) : p = q ∧ x = y := by
  have := List.append_inj' h rfl
  exact ⟨this.1, by simpa using this.2⟩
theorem strL_inj {x y : ByteArray} (h : strL x = strL y) : x = y := by
  unfold strL at h
  injection h with h
  exact ba_ext h
theorem strL_key (x : ByteArray) : WideAt.IsKeyLit (strL x) := by trivial
theorem TreeAt.adds {w w1 w2 : World} {own : Nat → Tag} {g N : Nat} {nb : List ByteArray → Nat} {T : List Th} (h : TreeAt w own g nb N T) {up : List ByteArray} {x : ByteArray} {d : Bool} {gn : Nat} {sup : List Int}
    (hup : at' T up = some (true, sup)) (hno : look T (up ++ [x]) = none) (hn : NewAt w w1 gn d) (hb : Below w.heap.size w w1) {bm : Nat} {M : DataW Unit} {v0 : Value} (hcell : w.heap[nb up]? = some (.cells #[.bool true, v0, .map (some bm)] 53 (0, 0))) (hbm : own bm = .kids up) (hM : w.ownsMap Tryd.prog 9 ptrR bm N M) (hK : KidsAre nb T up M)
    (hg : w1.grownBy w2 (some bm)) (hm : w2.ownsMap Tryd.prog 9 ptrR bm (N + 1) (M.put (strL x) (.lit (.int .i64 (gn : Int))))) :
    ∃ own' nb', TreeAt w2 own' g nb' (N + 1) (T ++ [(up ++ [x], d, [])]) ∧ Touch w w2 own own' ∧ nb' [] = nb [] := by
  obtain ⟨hgn, mb, hn1, hn2, hn3⟩ := hn
  have hgl := blk_lt hn1
  have hfresh : ∀ b, w.heap.size ≤ b → own b = .no := fun b hb' => by
    rcases Classical.em (own b = .no) with e | e
    · exact e
    · have := h.lt b e
      omega
  have hbl : bm < w.heap.size := h.lt bm (by rw [hbm]; simp)
  have hne : up ++ [x] ≠ [] := by simp
  let own' : Nat → Tag := fun b => if b = gn then .node (up ++ [x]) else if mb = some b then .kids (up ++ [x]) else own b
  let nb' : List ByteArray → Nat := fun p => if p = up ++ [x] then gn else nb p
  have hmb : ∀ b, mb = some b → w.heap.size ≤ b ∧ b ≠ gn ∧ b < w1.heap.size := by
    intro b e
    cases d with
    | false => rw [hn2 rfl] at e; cases e
    | true =>
      obtain ⟨b', e', h1, h2, h3, _⟩ := hn3 rfl
      rw [e] at e'
      cases e'
      exact ⟨h1, h2, h3⟩
  have hold : ∀ b, b < w.heap.size → own' b = own b := fun b hb' => by
    show (if b = gn then Tag.node (up ++ [x]) else if mb = some b then .kids (up ++ [x]) else own b) = own b
    rw [if_neg (by omega), if_neg (fun e => by have := hmb b e; omega)]
  have hstay : ∀ b, b < w.heap.size → b ≠ bm → w2.heap[b]? = w.heap[b]? := fun b hb' hne' =>
    (hg.block b (Nat.lt_of_lt_of_le hb' hb.size) (by simpa using hne')).trans (hb.block b hb')
  have hnb : ∀ p, p ≠ up ++ [x] → nb' p = nb p := fun p hp => if_neg hp
  have hlookT : ∀ p, look (T ++ [(up ++ [x], d, [])]) p = match look T p with | some z => some z | none => if up ++ [x] = p then some (d, []) else none := fun p => look_snoc _ _ _ _
  have hnotin : up ++ [x] ∉ T.map (·.1) := fun hin => by
    have := look_mem.2 hin
    rw [hno] at this
    cases this
  refine ⟨own', nb', ⟨?_, ?_, ?_, ?_, ?_, ?_, ?_⟩, ?_, hnb [] (fun e => hne e.symm)⟩
  · intro b hb'
    have hs := hg.size
    by_cases e1 : b = gn
    · omega
    · by_cases e2 : mb = some b
      · have := hmb b e2; omega
      · have hb2 : own b ≠ .no := by
          intro e
          apply hb'
          show (if b = gn then Tag.node (up ++ [x]) else if mb = some b then .kids (up ++ [x]) else own b) = .no
          rw [if_neg e1, if_neg e2, e]
        have := h.lt b hb2
        have := hb.size
        omega
  · have hgl' : g < w.heap.size := h.lt g (by rw [h.self]; simp)
    rw [hold g hgl']; exact h.self
  · have hgl' : g < w.heap.size := h.lt g (by rw [h.self]; simp)
    rw [hstay g hgl' (fun e => by have := h.self; rw [e, hbm] at this; cases this), hnb [] (fun e => hne e.symm)]
    exact h.top
  · rw [List.map_append, List.nodup_append]
    exact ⟨h.nod, by simp, fun a ha b hb' => by
      simp at hb'
      subst hb'
      exact fun e => hnotin (e ▸ ha)⟩
  · intro y hy
    rcases List.mem_append.1 hy with hy | hy
    · exact h.nn y hy
    · simp at hy
      subst hy
      exact hne
  · intro q y hq
    rw [hlookT] at hq
    have key : ∀ s', at' T q = some (true, s') → at' (T ++ [(up ++ [x], d, [])]) q = some (true, s') := fun s' hs' => by
      by_cases e0 : q = []
      · subst e0; exact hs'
      · rw [at_cons _ e0] at hs' ⊢
        rw [hlookT, hs']
    cases hl : look T (q ++ [y]) with
    | some z =>
      obtain ⟨s', hs'⟩ := h.par q y (by rw [hl]; rfl)
      exact ⟨s', key s' hs'⟩
    | none =>
      rw [hl] at hq
      simp only at hq
      split at hq
      · rename_i e
        obtain rfl := (snoc_inj' e).1
        exact ⟨sup, key sup hup⟩
      · cases hq
  · intro p d' s hp
    by_cases e : p = up ++ [x]
    · subst e
      rw [at_cons _ hne, hlookT, hno] at hp
      simp only [if_true] at hp
      cases hp
      have e1 : nb' (up ++ [x]) = gn := if_pos rfl
      have e2 : own' gn = .node (up ++ [x]) := if_pos rfl
      have hnk : ∀ y, look (T ++ [(up ++ [x], d, [])]) (up ++ [x] ++ [y]) = none := fun y => by
        rw [hlookT]
        have : look T (up ++ [x] ++ [y]) = none := by
          cases hl : look T (up ++ [x] ++ [y]) with
          | none => rfl
          | some z =>
            obtain ⟨s', hs'⟩ := h.par (up ++ [x]) y (by rw [hl]; rfl)
            rw [at_cons _ hne, hno] at hs'
            cases hs'
        rw [this, if_neg (fun e => by have := congrArg List.length e; simp at this)]
      refine ⟨by rw [e1, e2], .slice none 0 0, mb, by rw [e1]; exact (hg.block gn hgl (by simp; omega)).trans hn1, ⟨rfl, .inl ⟨rfl, rfl⟩⟩, (fun b hb' => by cases hb'), hn2, fun hd => ⟨rfl, ?_⟩⟩
      obtain ⟨b', e', h1, h2, h3, h4⟩ := hn3 hd
      refine ⟨b', .map [], e', ?_, (map_move h4 (hg.block b' h3 (by simp; omega))).mono (Nat.zero_le _), fun y => ?_⟩
      · show (if b' = gn then Tag.node (up ++ [x]) else if mb = some b' then .kids (up ++ [x]) else own b') = _
        rw [if_neg h2, if_pos e']
      · rw [hnk y]
        exact ⟨rfl, rfl⟩
    · have hp' : at' T p = some (d', s) := by
        by_cases e0 : p = []
        · subst e0; exact hp
        · rw [at_cons _ e0, hlookT] at hp
          rw [at_cons _ e0]
          cases hl : look T p with
          | none => rw [hl] at hp; simp only [if_neg (fun e' => e (Eq.symm e'))] at hp; cases hp
          | some z => rw [hl] at hp; exact hp
      by_cases eu : p = up
      · subst eu
        obtain ⟨h1, v, mb', h2, h3, h4, h5, h6⟩ := h.node p d' s hp'
        rw [hup] at hp'
        cases hp'
        obtain ⟨h60, bm', M', e', h7, h8, h9⟩ := h6 rfl
        have hbb : bm' = bm := by
          rw [hcell] at h2
          simp only [Option.some.injEq, Obj.cells.injEq] at h2
          have e3 := congrArg (fun a : Array Value => a[2]?) h2.1
          simp [e'] at e3
          exact e3.symm
        subst hbb
        obtain rfl := owns_unique hM h8
        have hl1 : nb p < w.heap.size := h.lt _ (by rw [h1]; simp)
        refine ⟨by rw [hnb p e, hold _ hl1]; exact h1, v, mb', by rw [hnb p e]; exact (hstay _ hl1 (fun e' => by rw [e', hbm] at h1; cases h1)).trans h2, own_move h3 (fun b hb' => hstay b (owns_block h3 hb') (fun e' => by have := h4 b hb'; rw [e', hbm] at this; cases this)), fun b hb' => by rw [hold b (owns_block h3 hb')]; exact h4 b hb', h5, fun _ => ⟨h60, bm', _, e', by rw [hold bm' hbl]; exact hbm, hm, fun y => ?_⟩⟩
        rw [hlookT]
        by_cases ey : y = x
        · subst ey
          rw [hno]
          simp only [if_true]
          exact ⟨by rw [Go.Maps.atKey_put_same hM.isMap (strL_key _)]; show _ = DataW.lit (.int .i64 ((if p ++ [y] = p ++ [y] then gn else nb (p ++ [y]) : Nat) : Int)); rw [if_pos rfl], Go.Maps.has_put_same hM.isMap (strL_key _) _⟩
        · have hne2 : strL y ≠ strL x := fun e2 => ey (strL_inj e2)
          have hne3 : p ++ [y] ≠ p ++ [x] := fun e2 => ey (snoc_inj' e2).2
          rw [Go.Maps.atKey_put_other hne2, Go.Maps.has_put_other hne2]
          obtain ⟨k1, k2⟩ := hK y
          rw [k1, k2]
          cases look T (p ++ [y]) with
          | none => simp only [if_neg (Ne.symm hne3)]; exact ⟨trivial, trivial⟩
          | some z => simp only [hnb _ hne3]; exact ⟨trivial, trivial⟩
      · refine (h.node p d' s hp').move (Nat.le_succ _) (fun b hb' => ?_) (hnb p e) (fun y => ?_) (fun y hy => ?_)
        · have hl1 : b < w.heap.size := h.lt b (by rcases hb' with e' | e' | e' <;> rw [e'] <;> simp)
          refine ⟨hstay b hl1 (fun e' => ?_), hold b hl1⟩
          subst e'
          rw [hbm] at hb'
          rcases hb' with e' | e' | e' <;> simp at e'
          exact eu e'.symm
        · rw [hlookT]
          cases hl : look T (p ++ [y]) with
          | none => simp only [if_neg (fun e' => eu (snoc_inj' e').1.symm)]
          | some z => rfl
        · exact hnb _ (fun e' => eu (snoc_inj' e').1)
  · refine ⟨⟨hg.os.trans hb.os, hg.tape.trans hb.tape, hg.output.trans hb.output, Nat.le_trans hb.size hg.size, fun _ hk => absurd hk (Nat.not_lt_zero _)⟩, fun b hb' hno' => hstay b hb' (fun e => by rw [e, hbm] at hno'; cases hno'), fun b hb' => ?_⟩
    by_cases e1 : b < w.heap.size
    · rw [hold b e1] at hb'
      exact .inl hb'
    · exact .inr (by omega)
end Go.Proofs.YtohhlnkdgfgjgaaDoor.P
