/- A file's bytes are turned: the row of things behind it, and slices.Clone of bytes. -/
import Derived.Test.YtohhlnkdgfgjgaaDoorTh
import Derived.Test.YtohhlnkdgfgjgaaDoorShelf
namespace Go.Proofs.YtohhlnkdgfgjgaaDoor.P
open Go.RowKit Go.Proofs.YtohhlnkdgfgjgaaDoorW.PrintWords Go.Proofs.YtohhlnkdgfgjgaaDoorW.PrintLast Go.Proofs.YtohhlnkdgfgjgaaDoorW.PrintMore
theorem addr_add (b off j : Nat) : (⟨b, off, none⟩ : Addr).add j = ⟨b, off + j, none⟩ := by
  unfold Addr.add
  by_cases h : j = 0
  · subst h; rfl
  · rw [if_neg h]
/-- A slice of bytes that is read. -/
def RdB (w : World) (A : Option Addr) (n : Nat) (xs : List Int) : Prop :=
  xs.length = n ∧ ((A = none ∧ n = 0) ∨ ∃ b off, A = some ⟨b, off, none⟩ ∧ ∀ (j : Nat) (x : Int), xs[j]? = some x → w.cell? ⟨b, off + j, none⟩ = some (.int .u8 x))
theorem RdB.below {w w' : World} {A : Option Addr} {n : Nat} {xs : List Int} (h : RdB w A n xs) (hb : Below w.heap.size w w') : RdB w' A n xs :=
  ⟨h.1, h.2.imp_right fun ⟨b, off, e, hc⟩ => ⟨b, off, e, fun j x hj => pw_cell_below hb (hc j x hj)⟩⟩
theorem RdB.take {w : World} {A : Option Addr} {n : Nat} {xs : List Int} (h : RdB w A n xs) (k : Nat) (hk : k ≤ n) : RdB w A k (xs.take k) := by
  obtain ⟨h1, h2⟩ := h
  refine ⟨by rw [List.length_take]; omega, ?_⟩
  rcases h2 with ⟨e, h0⟩ | ⟨b, off, e, hc⟩
  · exact .inl ⟨e, by omega⟩
  · refine .inr ⟨b, off, e, fun j x hj => hc j x ?_⟩
    rw [List.getElem?_take] at hj
    split at hj
    · exact hj
    · cases hj
theorem RdB.drop {w : World} {A : Option Addr} {n c : Nat} {xs : List Int} (h : RdB w A n xs) (k : Nat) (hk : k ≤ n) (hc : n ≤ c) : RdB w (if c = k then A else A.map (·.add k)) (n - k) (xs.drop k) := by
  obtain ⟨h1, h2⟩ := h
  refine ⟨by rw [List.length_drop, h1], ?_⟩
  rcases h2 with ⟨e, h0⟩ | ⟨b, off, e, hcell⟩
  · subst e
    exact .inl ⟨by split <;> rfl, by omega⟩
  · subst e
    by_cases e1 : c = k
    · rw [if_pos e1]
      refine .inr ⟨b, off, rfl, fun j x hj => ?_⟩
      have hl := (List.getElem?_eq_some_iff.1 hj).1
      rw [List.length_drop] at hl
      omega
    · rw [if_neg e1]
      refine .inr ⟨b, off + k, ?_, fun j x hj => ?_⟩
      · show some ((⟨b, off, none⟩ : Addr).add k) = _
        unfold Addr.add
        by_cases hk0 : k = 0
        · subst hk0; rfl
        · rw [if_neg hk0]
      · rw [List.getElem?_drop] at hj
        have := hcell (k + j) x hj
        rwa [← Nat.add_assoc] at this
theorem owns_cellsB {w : World} {base n b c : Nat} {xs : List Int} (h : w.ownsRow base 5 1 (.slice (some ⟨b, 0, none⟩) n c) n (xs.map (Value.int .u8))) (j : Nat) (x : Int) (hj : xs[j]? = some x) : w.cell? ⟨b, 0 + j, none⟩ = some (.int .u8 x) := by
  rcases h.2 with ⟨e1, _⟩ | ⟨g, cap, cur, e1, _, hh, _, _, _, hcur⟩
  · cases e1
  · cases e1
    rw [Nat.zero_add, blk_cell hh j, ← Array.getElem?_toList]
    have hj' : (xs.map (Value.int .u8))[j]? = some (.int .u8 x) := by rw [List.getElem?_map, hj]; rfl
    rw [← hcur, List.getElem?_take] at hj'
    split at hj'
    · exact hj'
    · cases hj'
theorem RdB.of_own {w : World} {base n c : Nat} {A : Option Addr} {xs : List Int} (h : w.ownsRow base 5 1 (.slice A n c) n (xs.map (Value.int .u8))) : RdB w A n xs ∧ n ≤ c := by
  have hl : xs.length = n := by simpa using h.1
  have h0 := h
  rcases h.2 with ⟨e1, rfl⟩ | ⟨g, cap, cur, e1, _, hh, hc, _⟩
  · cases e1
    exact ⟨⟨hl, .inl ⟨rfl, rfl⟩⟩, by omega⟩
  · cases e1
    exact ⟨⟨hl, .inr ⟨g, 0, rfl, fun j x hj => owns_cellsB h0 j x hj⟩⟩, hc⟩
theorem info5 : (Tryd.prog.info? 5).map (fun i => (i.zero, i.size, i.bytes)) = some (some (.int .u8 0), 1, 1) := by kernel_rfl
def Tryd.laysClB_ren : Go.Shelf.Ren := ⟨fun | 41 => 24 | n => n, fun | 22 => 23 | 23 => 5 | 4 => 4 | n => n, fun | n => n⟩
theorem Tryd.laysClB : Go.Proofs.SlLaysE0.n41 Tryd.prog Tryd.laysClB_ren := {
  mixed := by kernel_rfl
  f41 := ⟨Tryd.f24.name, by decide, Tryd.func24.trans (congrArg some (by kernel_rfl))⟩
  t4 := Tryd.underlying4
  a4 := Tryd.isAgg4
  z4 := Tryd.sizeOf4
  v4 := Tryd.zeroValue4
  t22 := Tryd.underlying23
  a22 := Tryd.isAgg23
  z22 := Tryd.sizeOf23
  v22 := Tryd.zeroValue23 }
theorem cloneB {w : World} {n : Nat} {A : Option Addr} {xs : List Int} (h : RdB w A n xs) (c : Nat) (hn : n < 1000000000) :
    Calls Tryd.prog 24 #[.slice A n c] w fun e w' => ∃ (A' : Option Addr) (c' : Nat), e = .returned (.slice A' n c') ∧ w'.ownsRow w.heap.size 5 1 (.slice A' n c') n (xs.map (Value.int .u8)) ∧ Below w.heap.size w w' := by
  obtain ⟨i0, hi, hzz⟩ := Option.map_eq_some_iff.1 info5
  simp only [Prod.mk.injEq] at hzz
  obtain ⟨hz0, hz1, hz2⟩ := hzz
  obtain ⟨hlen, h2⟩ := h
  rcases h2 with ⟨rfl, rfl⟩ | ⟨b, off, rfl, hc⟩
  · have hx : xs = [] := List.eq_nil_of_length_eq_zero hlen
    subst hx
    refine (AnyE.slices_Clone_nil Tryd.laysClB 0 c w).mono fun e w' ⟨he, hw⟩ => ⟨_, _, he, ⟨rfl, .inl ⟨rfl, rfl⟩⟩, ?_⟩
    rw [hw]; exact Below.refl _ _
  · refine (AnyE.slices_Clone Tryd.laysClB i0 _ 1 1 hi hz0 hz1 hz2 rfl (by decide) (fun w => by kernel_rfl) b off n c (xs.map (Value.int .u8)) w (by simp [hlen]) (by unfold maxLen; omega) (by omega) (fun j u hj => ?_) (fun u hu => ?_)).mono fun e w' ⟨v', he, ho, _, hb⟩ => ?_
    · rw [List.getElem?_map] at hj
      obtain ⟨x, hx, rfl⟩ := Option.map_eq_some_iff.1 hj
      exact hc j x hx
    · obtain ⟨x, _, rfl⟩ := List.mem_map.1 hu
      rfl
    · obtain ⟨A', c', rfl⟩ := owns_slice ho
      exact ⟨A', c', he, ho, hb⟩
/-! A thing's bytes are others. -/
def setT (T : List Th) (p : List ByteArray) (s : List Int) : List Th := T.map fun x => if x.1 = p then (x.1, x.2.1, s) else x
theorem setT_names (T : List Th) (p : List ByteArray) (s : List Int) : (setT T p s).map (·.1) = T.map (·.1) := by
  unfold setT
  rw [List.map_map]
  apply List.map_congr_left
  intro x _
  simp only [Function.comp]
  split <;> rfl
theorem look_setT (p : List ByteArray) (s : List Int) (q : List ByteArray) : ∀ T : List Th, look (setT T p s) q = (look T q).map fun y => if q = p then (y.1, s) else y
  | [] => rfl
  | (r, y) :: T => by
    have ih := look_setT p s q T
    unfold setT at ih ⊢
    rw [List.map_cons]
    by_cases h : r = p
    · subst h
      rw [if_pos rfl, look, look]
      by_cases h2 : r = q
      · subst h2; simp
      · rw [if_neg h2, if_neg h2]; exact ih
    · rw [if_neg h, look, look]
      by_cases h2 : r = q
      · subst h2; simp [h]
      · rw [if_neg h2, if_neg h2]; exact ih
theorem TreeAt.turn {w w' : World} {own : Nat → Tag} {g N : Nat} {nb : List ByteArray → Nat} {T : List Th} (h : TreeAt w own g nb N T) {p : List ByteArray} {s s' : List Int} (hp : at' T p = some (false, s)) {v' : Value}
    (hz : w.heap.size ≤ w'.heap.size) (hn : w'.heap[nb p]? = some (.cells #[.bool false, v', .map none] 53 (0, 0))) (ho : w'.ownsRow 0 5 1 v' s'.length (s'.map (Value.int .u8)))
    (hk : ∀ b, own b ≠ .no → own b ≠ .row p → b ≠ nb p → w'.heap[b]? = w.heap[b]?) (hv : ∀ b, v'.ownBlock = some b → own b = .row p ∨ own b = .no) :
    ∃ own', TreeAt w' own' g nb N (setT T p s') ∧ ∀ b, own' b ≠ .no → own b ≠ .no ∨ v'.ownBlock = some b := by
  have hp0 : p ≠ [] := fun e => by subst e; rw [at_nil] at hp; cases hp
  let own' : Nat → Tag := fun b => if v'.ownBlock = some b then .row p else own b
  have hsame : ∀ b, own b ≠ .no → own b ≠ .row p → own' b = own b := fun b h1 h2 => by
    show (if v'.ownBlock = some b then Tag.row p else own b) = own b
    rw [if_neg]
    intro e
    rcases hv b e with e | e
    · exact h2 e
    · exact h1 e
  have hself : own' g = .self := by rw [hsame g (by rw [h.self]; simp) (by rw [h.self]; simp)]; exact h.self
  have hlies := (h.node p false s hp).1
  have hat : ∀ q, at' (setT T p s') q = (at' T q).map fun y => if q = p then (y.1, s') else y := fun q => by
    by_cases e : q = []
    · subst e
      rw [at_nil, at_nil, Option.map_some, if_neg (Ne.symm hp0)]
    · rw [at_cons _ e, at_cons _ e, look_setT]
  have hsome : ∀ q, (look (setT T p s') q).isSome = (look T q).isSome := fun q => by rw [look_setT, Option.isSome_map]
  refine ⟨own', ⟨?_, hself, ?_, ?_, ?_, ?_, ?_⟩, ?_⟩
  · intro b hb
    by_cases e : v'.ownBlock = some b
    · exact owns_block ho e
    · have : own b ≠ .no := by
        intro e2
        apply hb
        show (if v'.ownBlock = some b then Tag.row p else own b) = .no
        rw [if_neg e, e2]
      exact Nat.lt_of_lt_of_le (h.lt b this) hz
  · rw [hk g (by rw [h.self]; simp) (by rw [h.self]; simp) (fun e => by have := h.self; rw [e, hlies] at this; cases this)]; exact h.top
  · rw [setT_names]; exact h.nod
  · intro x hx
    have : x.1 ∈ (setT T p s').map (·.1) := List.mem_map_of_mem hx
    rw [setT_names] at this
    obtain ⟨y, hy, e⟩ := List.mem_map.1 this
    rw [← e]
    exact h.nn y hy
  · intro q y hq
    rw [hsome] at hq
    obtain ⟨sq, hsq⟩ := h.par q y hq
    have hqp : q ≠ p := fun e => by subst e; rw [hp] at hsq; cases hsq
    exact ⟨sq, by rw [hat, hsq, Option.map_some, if_neg hqp]⟩
  · intro q d sq hq
    by_cases e : q = p
    · subst e
      rw [hat, hp, Option.map_some, if_pos rfl] at hq
      cases hq
      exact ⟨by rw [hsame _ (by rw [hlies]; simp) (by rw [hlies]; simp)]; exact hlies, v', none, hn, ho, (fun b hb => if_pos hb), (fun _ => rfl), fun hd => by cases hd⟩
    · have hq' : at' T q = some (d, sq) := by
        rw [hat] at hq
        cases hl : at' T q with
        | none => rw [hl] at hq; cases hq
        | some y => rw [hl, Option.map_some, if_neg e] at hq; exact hq
      refine (h.node q d sq hq').move (Nat.le_refl _) (fun b hb => ?_) rfl (fun x => hsome _) (fun _ _ => rfl)
      have h1 : own b ≠ .no := by rcases hb with e' | e' | e' <;> rw [e'] <;> simp
      have h2 : own b ≠ .row p := by
        rcases hb with e' | e' | e' <;> rw [e'] <;> simp
        exact e
      refine ⟨hk b h1 h2 (fun e' => ?_), hsame b h1 h2⟩
      subst e'
      rw [hlies] at hb
      rcases hb with e' | e' | e' <;> simp at e'
      exact e e'.symm
  · intro b hb
    by_cases e : v'.ownBlock = some b
    · exact .inr e
    · left
      intro e2
      apply hb
      show (if v'.ownBlock = some b then Tag.row p else own b) = .no
      rw [if_neg e, e2]
end Go.Proofs.YtohhlnkdgfgjgaaDoor.P
