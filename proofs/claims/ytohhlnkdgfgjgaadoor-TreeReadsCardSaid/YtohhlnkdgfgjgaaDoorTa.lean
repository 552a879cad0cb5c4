/- A tree in memory: each thing's block, its row of bytes, its map of kids; which block is which part; and how that lasts over what writes elsewhere. -/
import Derived.Test.YtohhlnkdgfgjgaaDoorPx0
import Derived.Maps.OwnSet
import Derived.Maps.Ext
import Derived.Maps.RangeWalk
import Derived.Sort.KeysCollected
import Derived.WalkLawsBesides
namespace Go.Proofs.YtohhlnkdgfgjgaaDoor.P
open Go.RowKit Go.Proofs.YtohhlnkdgfgjgaaDoorW.PrintWords Go.Proofs.YtohhlnkdgfgjgaaDoorW.PrintLast Go.Proofs.YtohhlnkdgfgjgaaDoorW.PrintMore
open Go.Maps (Keyed)
/-- A thing: its names; is it a directory; its bytes. -/
abbrev Th := List ByteArray × Bool × List Int
def look : List Th → List ByteArray → Option (Bool × List Int)
  | [], _ => none
  | (q, x) :: r, p => if q = p then some x else look r p
/-- The root is there, a directory. -/
def at' (T : List Th) (p : List ByteArray) : Option (Bool × List Int) := if p = [] then some (true, []) else look T p
/-- Which part a block is. -/
inductive Tag where
  | no
  | self
  | node (p : List ByteArray)
  | kids (p : List ByteArray)
  | row (p : List ByteArray)
deriving DecidableEq
/-- A pointer as a map's element: its block's number. -/
def ptrR : Value → Option (DataW Unit × List MemPlace)
  | .pointer (some ⟨p, 0, none⟩) => some (.lit (.int .i64 (p : Int)), [])
  | .pointer none => some (.nil, [])
  | _ => none
theorem ptrR_inv_lit {v : Value} {p : Nat} {ps : List MemPlace} (h : ptrR v = some (.lit (.int .i64 (p : Int)), ps)) : v = .pointer (some ⟨p, 0, none⟩) := by
  unfold ptrR at h
  split at h
  · simp only [Option.some.injEq, Prod.mk.injEq, DataW.lit.injEq, Lit.int.injEq, true_and] at h
    have : (_ : Nat) = p := Int.ofNat.inj h.1
    rw [this]
  · simp at h
  · cases h
theorem ptrR_inv_nil {v : Value} {ps : List MemPlace} (h : ptrR v = some (.nil, ps)) : v = .pointer none := by
  unfold ptrR at h
  split at h
  · simp at h
  · rfl
  · cases h
abbrev strL (x : ByteArray) : Lit := .string x.data.toList
/-- A map of kids: a name's element is its thing's block. -/
def KidsAre (nb : List ByteArray → Nat) (T : List Th) (p : List ByteArray) (M : DataW Unit) : Prop :=
  ∀ x : ByteArray, M.atKey (strL x) .nil = (match look T (p ++ [x]) with | none => .nil | some _ => .lit (.int .i64 (nb (p ++ [x]) : Int))) ∧ Go.Maps.has M (strL x) = (look T (p ++ [x])).isSome
/-- A thing's blocks. -/
def Lies (w : World) (own : Nat → Tag) (nb : List ByteArray → Nat) (N : Nat) (T : List Th) (p : List ByteArray) (d : Bool) (s : List Int) : Prop :=
  own (nb p) = .node p ∧ ∃ (v : Value) (mb : Option Nat), w.heap[nb p]? = some (.cells #[.bool d, v, .map mb] 53 (0, 0)) ∧
    w.ownsRow 0 5 1 v s.length (s.map (Value.int .u8)) ∧ (∀ b, v.ownBlock = some b → own b = .row p) ∧
    (d = false → mb = none) ∧ (d = true → s = [] ∧ ∃ (bm : Nat) (M : DataW Unit), mb = some bm ∧ own bm = .kids p ∧ w.ownsMap Tryd.prog 9 ptrR bm N M ∧ KidsAre nb T p M)
structure TreeAt (w : World) (own : Nat → Tag) (g : Nat) (nb : List ByteArray → Nat) (N : Nat) (T : List Th) : Prop where
  lt : ∀ b, own b ≠ .no → b < w.heap.size
  self : own g = .self
  top : w.heap[g]? = some (.cells #[.pointer (some ⟨nb [], 0, none⟩)] 46 (0, 0))
  nod : (T.map (·.1)).Nodup
  nn : ∀ x ∈ T, x.1 ≠ []
  par : ∀ q y, (look T (q ++ [y])).isSome = true → ∃ s, at' T q = some (true, s)
  node : ∀ p d s, at' T p = some (d, s) → Lies w own nb N T p d s
theorem owns_block {w : World} {base e size n : Nat} {v : Value} {xs : List Value} (h : w.ownsRow base e size v n xs) {b : Nat} (hb : v.ownBlock = some b) : b < w.heap.size := by
  rcases h.2 with ⟨rfl, _⟩ | ⟨g, cap, cur, rfl, _, hh, _⟩
  · cases hb
  · have : g = b := by simpa [Value.ownBlock] using hb
    subst this
    exact blk_lt hh
theorem map_move {w w' : World} {b n : Nat} {M : DataW Unit} (h : w.ownsMap Tryd.prog 9 ptrR b n M) (hb : w'.heap[b]? = w.heap[b]?) : w'.ownsMap Tryd.prog 9 ptrR b n M := by
  obtain ⟨es, clock, h1, h2⟩ := h
  exact ⟨es, clock, hb.trans h1, h2⟩
theorem owns_unique {w : World} {b n n' : Nat} {M M' : DataW Unit} (h : w.ownsMap Tryd.prog 9 ptrR b n M) (h' : w.ownsMap Tryd.prog 9 ptrR b n' M') : M = M' := by
  obtain ⟨es, c, h1, _, _, rfl⟩ := h
  obtain ⟨es', c', h1', _, _, rfl⟩ := h'
  rw [h1] at h1'
  cases h1'
  rfl
/-- A thing's blocks elsewhere: another world, other labels, another tree with the same kids. -/
theorem Lies.move {w w' : World} {own own' : Nat → Tag} {nb nb' : List ByteArray → Nat} {N N' : Nat} {T T' : List Th} {p : List ByteArray} {d : Bool} {s : List Int} (h : Lies w own nb N T p d s) (hN : N ≤ N')
    (hk : ∀ b, own b = .node p ∨ own b = .row p ∨ own b = .kids p → w'.heap[b]? = w.heap[b]? ∧ own' b = own b) (hp : nb' p = nb p)
    (hT : ∀ x, (look T' (p ++ [x])).isSome = (look T (p ++ [x])).isSome) (hn : ∀ x, (look T (p ++ [x])).isSome = true → nb' (p ++ [x]) = nb (p ++ [x])) : Lies w' own' nb' N' T' p d s := by
  obtain ⟨h1, v, mb, h2, h3, h4, h5, h6⟩ := h
  have hT0 : ∀ x, look T (p ++ [x]) = none → look T' (p ++ [x]) = none := fun x hx => by
    have := hT x
    rw [hx] at this
    simpa using this
  refine ⟨by rw [hp]; exact (hk _ (.inl h1)).2.trans h1, v, mb, by rw [hp]; exact (hk _ (.inl h1)).1.trans h2, own_move h3 (fun b hb => (hk b (.inr (.inl (h4 b hb)))).1), fun b hb => (hk b (.inr (.inl (h4 b hb)))).2.trans (h4 b hb), h5, fun hd => ?_⟩
  obtain ⟨h60, bm, M, e, h7, h8, h9⟩ := h6 hd
  refine ⟨h60, bm, M, e, (hk bm (.inr (.inr h7))).2.trans h7, (map_move h8 (hk bm (.inr (.inr h7))).1).mono hN, fun x => ?_⟩
  obtain ⟨e1, e2⟩ := h9 x
  refine ⟨e1.trans ?_, e2.trans (hT x).symm⟩
  cases ho : look T (p ++ [x]) with
  | none => rw [hT0 x ho]
  | some y =>
    have hs := hT x
    rw [ho] at hs
    cases ho' : look T' (p ++ [x]) with
    | none => rw [ho'] at hs; cases hs
    | some y' => simp only [hn x (by rw [ho]; rfl)]
theorem TreeAt.kept {w w' : World} {own : Nat → Tag} {g N : Nat} {nb : List ByteArray → Nat} {T : List Th} (h : TreeAt w own g nb N T) (hs : w.heap.size ≤ w'.heap.size) (hk : ∀ b, own b ≠ .no → w'.heap[b]? = w.heap[b]?) : TreeAt w' own g nb N T :=
  ⟨fun b hb => Nat.lt_of_lt_of_le (h.lt b hb) hs, h.self, (hk g (by rw [h.self]; simp)).trans h.top, h.nod, h.nn, h.par, fun p d s hp => (h.node p d s hp).move (Nat.le_refl _) (fun b hb => ⟨hk b (by rcases hb with e | e | e <;> rw [e] <;> simp), rfl⟩) rfl (fun _ => rfl) (fun _ _ => rfl)⟩
theorem TreeAt.below {w w' : World} {own : Nat → Tag} {g N : Nat} {nb : List ByteArray → Nat} {T : List Th} (h : TreeAt w own g nb N T) (hb : Below w.heap.size w w') : TreeAt w' own g nb N T :=
  h.kept hb.size (fun b hb' => hb.block b (h.lt b hb'))
/-- What a call may turn: the blocks of a tree, and what is new; and which are its own behind it. -/
structure Touch (w w' : World) (own own' : Nat → Tag) : Prop where
  z : Below 0 w w'
  kept : ∀ b, b < w.heap.size → own b = .no → w'.heap[b]? = w.heap[b]?
  more : ∀ b, own' b ≠ .no → own b ≠ .no ∨ w.heap.size ≤ b
theorem Touch.refl (w : World) (own : Nat → Tag) : Touch w w own own := ⟨Below.refl _ _, fun _ _ _ => rfl, fun _ h => .inl h⟩
theorem Touch.of_below {w w' : World} (h : Below w.heap.size w w') (own : Nat → Tag) : Touch w w' own own := ⟨⟨h.os, h.tape, h.output, h.size, fun _ hk => absurd hk (Nat.not_lt_zero _)⟩, fun b hb _ => h.block b hb, fun _ h => .inl h⟩
theorem Touch.trans {w w1 w2 : World} {o o1 o2 : Nat → Tag} (h : Touch w w1 o o1) (k : Touch w1 w2 o1 o2) : Touch w w2 o o2 := by
  refine ⟨h.z.trans k.z, fun b hb hn => ?_, fun b hb => ?_⟩
  · have hn1 : o1 b = .no := by
      rcases Classical.em (o1 b = .no) with e | e
      · exact e
      · rcases h.more b e with e | e
        · exact absurd hn e
        · omega
    exact (k.kept b (Nat.lt_of_lt_of_le hb h.z.size) hn1).trans (h.kept b hb hn)
  · rcases k.more b hb with e | e
    · exact h.more b e
    · exact .inr (Nat.le_trans h.z.size e)
theorem Touch.below {w w' : World} {o o' : Nat → Tag} (h : Touch w w' o o') {lo : Nat} (hlo : lo ≤ w.heap.size) (hn : ∀ b, b < lo → o b = .no) : Below lo w w' :=
  ⟨h.z.os, h.z.tape, h.z.output, h.z.size, fun b hb => h.kept b (Nat.lt_of_lt_of_le hb hlo) (hn b hb)⟩
theorem Touch.lo {w w' : World} {o o' : Nat → Tag} (h : Touch w w' o o') {lo : Nat} (hlo : lo ≤ w.heap.size) (hn : ∀ b, b < lo → o b = .no) : ∀ b, b < lo → o' b = .no := by
  intro b hb
  rcases Classical.em (o' b = .no) with e | e
  · exact e
  · rcases h.more b e with e | e
    · exact absurd (hn b hb) e
    · omega
theorem setCell_size (w : World) (p : Addr) (u : Value) : (w.setCell p u).heap.size = w.heap.size := by simp [World.setCell]
theorem Touch.set {w w1 : World} {o o1 : Nat → Tag} (h : Touch w w1 o o1) {g : Nat} (hg : o g ≠ .no ∨ w.heap.size ≤ g) (i : Nat) (u : Value) : Touch w (w1.setCell ⟨g, i, none⟩ u) o o1 := by
  refine ⟨⟨h.z.os, h.z.tape, h.z.output, by simpa [World.setCell] using h.z.size, fun _ hk => absurd hk (Nat.not_lt_zero _)⟩, fun b hb hn => ?_, h.more⟩
  have hne : b ≠ g := by
    intro e
    subst e
    rcases hg with hg | hg
    · exact hg hn
    · omega
  exact (Below.heap_setCell w1 ⟨g, i, none⟩ u b hne).trans (h.kept b hb hn)
theorem owns_slice {w : World} {base e size n : Nat} {v : Value} {xs : List Value} (h : w.ownsRow base e size v n xs) : ∃ A c, v = .slice A n c := by
  rcases h.2 with ⟨rfl, rfl⟩ | ⟨g, cap, cur, rfl, _⟩
  · exact ⟨_, _, rfl⟩
  · exact ⟨_, _, rfl⟩
theorem own_base' {w : World} {base base' e size n : Nat} {v : Value} {xs : List Value} (h : w.ownsRow base e size v n xs) (hb : base' ≤ base) : w.ownsRow base' e size v n xs :=
  ⟨h.1, h.2.imp_right fun ⟨g, cap, cur, e, hg, r⟩ => ⟨g, cap, cur, e, Nat.le_trans hb hg, r⟩⟩
/-! The tree's answers, over the row of things alone. -/
theorem at_nil (T : List Th) : at' T [] = some (true, []) := rfl
theorem at_cons (T : List Th) {p : List ByteArray} (h : p ≠ []) : at' T p = look T p := if_neg h
theorem at_snoc (T : List Th) (p : List ByteArray) (x : ByteArray) : at' T (p ++ [x]) = look T (p ++ [x]) := if_neg (by simp)
/-- To names, from a directory on: the error's number. -/
def goF (T : List Th) : List ByteArray → List ByteArray → Int
  | _, [] => 0
  | pre, x :: r => match at' T pre with
    | some (true, _) => if (look T (pre ++ [x])).isSome then goF T (pre ++ [x]) r else 4
    | _ => 6
theorem goF_at (T : List Th) : ∀ (r pre : List ByteArray), (at' T pre).isSome = true → goF T pre r = 0 → (at' T (pre ++ r)).isSome = true
  | [], pre, h, _ => by simpa using h
  | x :: r, pre, _, h => by
    rw [goF] at h
    split at h
    · split at h
      · rename_i h2
        have := goF_at T r (pre ++ [x]) (by rw [at_snoc]; exact h2) h
        simpa using this
      · cases h
    · cases h
end Go.Proofs.YtohhlnkdgfgjgaaDoor.P
