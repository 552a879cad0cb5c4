/- A tree in memory: each thing's block, its row of bytes, its map of kids; which block is which part; and how that lasts over what writes elsewhere. A new thing, a new tree, and the walk to names. The walk to names, a path's thing, a path's file. A path's thing, a path's file. A thing more in a tree. add, Create, Mkdir. add: the walks. add, Create, Mkdir: what they answer and leave. A file's bytes are turned: the row of things behind it, and slices.Clone of bytes. node.size: a file has so many bytes. Write: bytes of a file. Write: the bytes are laid over the file's. Write and Read whole. Rmdir of a directory in which something is; a tree's state, its blocks and labels kept out of sight. The thirteenth chapter's example lives. -/
import Derived.Test.YtohhlnkdgfgjgaaDoorPx0
import Derived.Test.YtohhlnkdgfgjgaaDoorPx4
import Derived.Test.YtohhlnkdgfgjgaaDoorPS
import Derived.Test.YtohhlnkdgfgjgaaDoorShelf
import Derived.Maps.OwnSet
import Derived.Maps.Ext
import Derived.Maps.RangeWalk
import Derived.Sort.KeysCollected
import Derived.WalkLawsBesides
import Derived.Deep.RegionHeld3
import Derived.Deep.RegionLaw
import Derived.Laws.CopyOwn
import Derived.LaidEqlPtr
import Derived.Lib.SlBytesConst
namespace Go.Proofs.YtohhlnkdgfgjgaaDoor.P
open Go.RowKit Go.Proofs.YtohhlnkdgfgjgaaDoorW.PrintWords Go.Proofs.YtohhlnkdgfgjgaaDoorW.PrintLast Go.Proofs.YtohhlnkdgfgjgaaDoorW.PrintMore
open Go.Maps (Keyed)
/-- A thing: its names; is it a directory; its bytes. -/
abbrev Th := List ByteArray × Bool × List Int
def look : List Th → List ByteArray → Option (Bool × List Int)
  | [], _ => none
  | (q, x) :: r, p => if q = p then some x else look r p
/-- The root is there, a directory. -/
def at' (T : List Th) (p : List ByteArray) : Option (Bool × List Int) := if p = [] then some (true, []) else look T p
/-- Which part a block is. -/
inductive Tag where
  | no
  | self
  | node (p : List ByteArray)
  | kids (p : List ByteArray)
  | row (p : List ByteArray)
deriving DecidableEq
/-- A pointer as a map's element: its block's number. -/
def ptrR : Value → Option (DataW Unit × List MemPlace)
  | .pointer (some ⟨p, 0, none⟩) => some (.lit (.int .i64 (p : Int)), [])
  | .pointer none => some (.nil, [])
  | _ => none
theorem ptrR_inv_lit {v : Value} {p : Nat} {ps : List MemPlace} (h : ptrR v = some (.lit (.int .i64 (p : Int)), ps)) : v = .pointer (some ⟨p, 0, none⟩) := by
  unfold ptrR at h
  split at h
  · simp only [Option.some.injEq, Prod.mk.injEq, DataW.lit.injEq, Lit.int.injEq, true_and] at h
    have : (_ : Nat) = p := Int.ofNat.inj h.1
    rw [this]
  · simp at h
  · cases h
theorem ptrR_inv_nil {v : Value} {ps : List MemPlace} (h : ptrR v = some (.nil, ps)) : v = .pointer none := by
  unfold ptrR at h
  split at h
  · simp at h
  · rfl
  · cases h
abbrev strL (x : ByteArray) : Lit := .string x.data.toList
/-- A map of kids: a name's element is its thing's block. -/
def KidsAre (nb : List ByteArray → Nat) (T : List Th) (p : List ByteArray) (M : DataW Unit) : Prop :=
  ∀ x : ByteArray, M.atKey (strL x) .nil = (match look T (p ++ [x]) with | none => .nil | some _ => .lit (.int .i64 (nb (p ++ [x]) : Int))) ∧ Go.Maps.has M (strL x) = (look T (p ++ [x])).isSome
/-- A thing's blocks. -/
def Lies (w : World) (own : Nat → Tag) (nb : List ByteArray → Nat) (N : Nat) (T : List Th) (p : List ByteArray) (d : Bool) (s : List Int) : Prop :=
  own (nb p) = .node p ∧ ∃ (v : Value) (mb : Option Nat), w.heap[nb p]? = some (.cells #[.bool d, v, .map mb] 53 (0, 0)) ∧
    w.ownsRow 0 5 1 v s.length (s.map (Value.int .u8)) ∧ (∀ b, v.ownBlock = some b → own b = .row p) ∧
    (d = false → mb = none) ∧ (d = true → s = [] ∧ ∃ (bm : Nat) (M : DataW Unit), mb = some bm ∧ own bm = .kids p ∧ w.ownsMap Tryd.prog 9 ptrR bm N M ∧ KidsAre nb T p M)
structure TreeAt (w : World) (own : Nat → Tag) (g : Nat) (nb : List ByteArray → Nat) (N : Nat) (T : List Th) : Prop where
  lt : ∀ b, own b ≠ .no → b < w.heap.size
  self : own g = .self
  top : w.heap[g]? = some (.cells #[.pointer (some ⟨nb [], 0, none⟩)] 46 (0, 0))
  nod : (T.map (·.1)).Nodup
  nn : ∀ x ∈ T, x.1 ≠ []
  par : ∀ q y, (look T (q ++ [y])).isSome = true → ∃ s, at' T q = some (true, s)
  node : ∀ p d s, at' T p = some (d, s) → Lies w own nb N T p d s
theorem owns_block {w : World} {base e size n : Nat} {v : Value} {xs : List Value} (h : w.ownsRow base e size v n xs) {b : Nat} (hb : v.ownBlock = some b) : b < w.heap.size := by
  rcases h.2 with ⟨rfl, _⟩ | ⟨g, cap, cur, rfl, _, hh, _⟩
  · cases hb
  · have : g = b := by simpa [Value.ownBlock] using hb
    subst this
    exact blk_lt hh
theorem map_move {w w' : World} {b n : Nat} {M : DataW Unit} (h : w.ownsMap Tryd.prog 9 ptrR b n M) (hb : w'.heap[b]? = w.heap[b]?) : w'.ownsMap Tryd.prog 9 ptrR b n M := by
  obtain ⟨es, clock, h1, h2⟩ := h
  exact ⟨es, clock, hb.trans h1, h2⟩
theorem owns_unique {w : World} {b n n' : Nat} {M M' : DataW Unit} (h : w.ownsMap Tryd.prog 9 ptrR b n M) (h' : w.ownsMap Tryd.prog 9 ptrR b n' M') : M = M' := by
  obtain ⟨es, c, h1, _, _, rfl⟩ := h
  obtain ⟨es', c', h1', _, _, rfl⟩ := h'
  rw [h1] at h1'
  cases h1'
  rfl
/-- A thing's blocks elsewhere: another world, other labels, another tree with the same kids. -/
theorem Lies.move {w w' : World} {own own' : Nat → Tag} {nb nb' : List ByteArray → Nat} {N N' : Nat} {T T' : List Th} {p : List ByteArray} {d : Bool} {s : List Int} (h : Lies w own nb N T p d s) (hN : N ≤ N')
    (hk : ∀ b, own b = .node p ∨ own b = .row p ∨ own b = .kids p → w'.heap[b]? = w.heap[b]? ∧ own' b = own b) (hp : nb' p = nb p)
    (hT : ∀ x, (look T' (p ++ [x])).isSome = (look T (p ++ [x])).isSome) (hn : ∀ x, (look T (p ++ [x])).isSome = true → nb' (p ++ [x]) = nb (p ++ [x])) : Lies w' own' nb' N' T' p d s := by
  obtain ⟨h1, v, mb, h2, h3, h4, h5, h6⟩ := h
  have hT0 : ∀ x, look T (p ++ [x]) = none → look T' (p ++ [x]) = none := fun x hx => by
    have := hT x
    rw [hx] at this
    simpa using this
  refine ⟨by rw [hp]; exact (hk _ (.inl h1)).2.trans h1, v, mb, by rw [hp]; exact (hk _ (.inl h1)).1.trans h2, own_move h3 (fun b hb => (hk b (.inr (.inl (h4 b hb)))).1), fun b hb => (hk b (.inr (.inl (h4 b hb)))).2.trans (h4 b hb), h5, fun hd => ?_⟩
  obtain ⟨h60, bm, M, e, h7, h8, h9⟩ := h6 hd
  refine ⟨h60, bm, M, e, (hk bm (.inr (.inr h7))).2.trans h7, (map_move h8 (hk bm (.inr (.inr h7))).1).mono hN, fun x => ?_⟩
  obtain ⟨e1, e2⟩ := h9 x
  refine ⟨e1.trans ?_, e2.trans (hT x).symm⟩
  cases ho : look T (p ++ [x]) with
  | none => rw [hT0 x ho]
  | some y =>
    have hs := hT x
    rw [ho] at hs
    cases ho' : look T' (p ++ [x]) with
    | none => rw [ho'] at hs; cases hs
    | some y' => simp only [hn x (by rw [ho]; rfl)]
theorem TreeAt.kept {w w' : World} {own : Nat → Tag} {g N : Nat} {nb : List ByteArray → Nat} {T : List Th} (h : TreeAt w own g nb N T) (hs : w.heap.size ≤ w'.heap.size) (hk : ∀ b, own b ≠ .no → w'.heap[b]? = w.heap[b]?) : TreeAt w' own g nb N T :=
  ⟨fun b hb => Nat.lt_of_lt_of_le (h.lt b hb) hs, h.self, (hk g (by rw [h.self]; simp)).trans h.top, h.nod, h.nn, h.par, fun p d s hp => (h.node p d s hp).move (Nat.le_refl _) (fun b hb => ⟨hk b (by rcases hb with e | e | e <;> rw [e] <;> simp), rfl⟩) rfl (fun _ => rfl) (fun _ _ => rfl)⟩
theorem TreeAt.below {w w' : World} {own : Nat → Tag} {g N : Nat} {nb : List ByteArray → Nat} {T : List Th} (h : TreeAt w own g nb N T) (hb : Below w.heap.size w w') : TreeAt w' own g nb N T :=
  h.kept hb.size (fun b hb' => hb.block b (h.lt b hb'))
/-- What a call may turn: the blocks of a tree, and what is new; and which are its own behind it. -/
structure Touch (w w' : World) (own own' : Nat → Tag) : Prop where
  z : Below 0 w w'
  kept : ∀ b, b < w.heap.size → own b = .no → w'.heap[b]? = w.heap[b]?
  more : ∀ b, own' b ≠ .no → own b ≠ .no ∨ w.heap.size ≤ b
theorem Touch.refl (w : World) (own : Nat → Tag) : Touch w w own own := ⟨Below.refl _ _, fun _ _ _ => rfl, fun _ h => .inl h⟩
theorem Touch.of_below {w w' : World} (h : Below w.heap.size w w') (own : Nat → Tag) : Touch w w' own own := ⟨⟨h.os, h.tape, h.output, h.size, fun _ hk => absurd hk (Nat.not_lt_zero _)⟩, fun b hb _ => h.block b hb, fun _ h => .inl h⟩
theorem Touch.trans {w w1 w2 : World} {o o1 o2 : Nat → Tag} (h : Touch w w1 o o1) (k : Touch w1 w2 o1 o2) : Touch w w2 o o2 := by
  refine ⟨h.z.trans k.z, fun b hb hn => ?_, fun b hb => ?_⟩
  · have hn1 : o1 b = .no := by
      rcases Classical.em (o1 b = .no) with e | e
      · exact e
      · rcases h.more b e with e | e
        · exact absurd hn e
        · omega
    exact (k.kept b (Nat.lt_of_lt_of_le hb h.z.size) hn1).trans (h.kept b hb hn)
  · rcases k.more b hb with e | e
    · exact h.more b e
    · exact .inr (Nat.le_trans h.z.size e)
theorem Touch.below {w w' : World} {o o' : Nat → Tag} (h : Touch w w' o o') {lo : Nat} (hlo : lo ≤ w.heap.size) (hn : ∀ b, b < lo → o b = .no) : Below lo w w' :=
  ⟨h.z.os, h.z.tape, h.z.output, h.z.size, fun b hb => h.kept b (Nat.lt_of_lt_of_le hb hlo) (hn b hb)⟩
theorem Touch.lo {w w' : World} {o o' : Nat → Tag} (h : Touch w w' o o') {lo : Nat} (hlo : lo ≤ w.heap.size) (hn : ∀ b, b < lo → o b = .no) : ∀ b, b < lo → o' b = .no := by
  intro b hb
  rcases Classical.em (o' b = .no) with e | e
  · exact e
  · rcases h.more b e with e | e
    · exact absurd (hn b hb) e
    · omega
theorem setCell_size (w : World) (p : Addr) (u : Value) : (w.setCell p u).heap.size = w.heap.size := by simp [World.setCell]
theorem Touch.set {w w1 : World} {o o1 : Nat → Tag} (h : Touch w w1 o o1) {g : Nat} (hg : o g ≠ .no ∨ w.heap.size ≤ g) (i : Nat) (u : Value) : Touch w (w1.setCell ⟨g, i, none⟩ u) o o1 := by
  refine ⟨⟨h.z.os, h.z.tape, h.z.output, by simpa [World.setCell] using h.z.size, fun _ hk => absurd hk (Nat.not_lt_zero _)⟩, fun b hb hn => ?_, h.more⟩
  have hne : b ≠ g := by
    intro e
    subst e
    rcases hg with hg | hg
    · exact hg hn
    · omega
  exact (Below.heap_setCell w1 ⟨g, i, none⟩ u b hne).trans (h.kept b hb hn)
theorem owns_slice {w : World} {base e size n : Nat} {v : Value} {xs : List Value} (h : w.ownsRow base e size v n xs) : ∃ A c, v = .slice A n c := by
  rcases h.2 with ⟨rfl, rfl⟩ | ⟨g, cap, cur, rfl, _⟩
  · exact ⟨_, _, rfl⟩
  · exact ⟨_, _, rfl⟩
theorem own_base' {w : World} {base base' e size n : Nat} {v : Value} {xs : List Value} (h : w.ownsRow base e size v n xs) (hb : base' ≤ base) : w.ownsRow base' e size v n xs :=
  ⟨h.1, h.2.imp_right fun ⟨g, cap, cur, e, hg, r⟩ => ⟨g, cap, cur, e, Nat.le_trans hb hg, r⟩⟩
/-! The tree's answers, over the row of things alone. -/
theorem at_nil (T : List Th) : at' T [] = some (true, []) := rfl
theorem at_cons (T : List Th) {p : List ByteArray} (h : p ≠ []) : at' T p = look T p := if_neg h
theorem at_snoc (T : List Th) (p : List ByteArray) (x : ByteArray) : at' T (p ++ [x]) = look T (p ++ [x]) := if_neg (by simp)
/-- To names, from a directory on: the error's number. -/
def goF (T : List Th) : List ByteArray → List ByteArray → Int
  | _, [] => 0
  | pre, x :: r => match at' T pre with
    | some (true, _) => if (look T (pre ++ [x])).isSome then goF T (pre ++ [x]) r else 4
    | _ => 6
theorem goF_at (T : List Th) : ∀ (r pre : List ByteArray), (at' T pre).isSome = true → goF T pre r = 0 → (at' T (pre ++ r)).isSome = true
  | [], pre, h, _ => by simpa using h
  | x :: r, pre, _, h => by
    rw [goF] at h
    split at h
    · split at h
      · rename_i h2
        have := goF_at T r (pre ++ [x]) (by rw [at_snoc]; exact h2) h
        simpa using this
      · cases h
    · cases h
end Go.Proofs.YtohhlnkdgfgjgaaDoor.P
namespace Go.Proofs.YtohhlnkdgfgjgaaDoor.P
open Go.RowKit Go.Proofs.YtohhlnkdgfgjgaaDoorW.PrintWords Go.Proofs.YtohhlnkdgfgjgaaDoorW.PrintLast Go.Proofs.YtohhlnkdgfgjgaaDoorW.PrintMore
open Go.Maps (Keyed string_keyed)
/-- A new thing's blocks. -/
def NewAt (w w' : World) (g : Nat) (d : Bool) : Prop :=
  w.heap.size ≤ g ∧ ∃ mb : Option Nat, w'.heap[g]? = some (.cells #[.bool d, .slice none 0 0, .map mb] 53 (0, 0)) ∧ (d = false → mb = none) ∧
    (d = true → ∃ bm, mb = some bm ∧ w.heap.size ≤ bm ∧ bm ≠ g ∧ bm < w'.heap.size ∧ w'.ownsMap Tryd.prog 9 ptrR bm 0 (.map []))
theorem tree_thing.calls (d : Bool) (w : World) :
    Calls Tryd.prog 20 #[.bool d] w fun e w' => ∃ g, e = .returned (.pointer (some ⟨g, 0, none⟩)) ∧ NewAt w w' g d ∧ Below w.heap.size w w' := by
  cases d with
  | false =>
    go_enter Tryd.func20, Tryd.ntmps20
    go_wp2
    go_ret
    exact ⟨w.heap.size, rfl, ⟨Nat.le_refl _, none, blk_new w _, fun _ => rfl, fun h => by cases h⟩, below_alloc (Below.refl _ _) _⟩
  | true =>
    have hmm := @run_makeMap Tryd.prog
    go_enter Tryd.func20, Tryd.ntmps20
    go_wp2
    go_ret
    have hs1 : (w.alloc (.cells #[.bool true, .slice none 0 0, .map (some (w.heap.size + 1))] 53)).heap.size = w.heap.size + 1 := by show (w.heap.push _).size = _; simp
    have hs2 : ((w.alloc (.cells #[.bool true, .slice none 0 0, .map (some (w.heap.size + 1))] 53)).alloc (.map #[] 0)).heap.size = w.heap.size + 2 := by show ((w.heap.push _).push _).size = _; simp
    refine ⟨w.heap.size, rfl, ⟨Nat.le_refl _, some (w.heap.size + 1), blk_alloc (blk_new w _) _, (fun h => by cases h), fun _ => ⟨w.heap.size + 1, rfl, by omega, by omega, by rw [hs2]; omega, ?_⟩⟩, below_alloc (below_alloc (Below.refl _ _) _) _⟩
    have h0 := World.ownsMap_made (w.alloc (.cells #[.bool true, .slice none 0 0, .map (some (w.heap.size + 1))] 53)) Tryd.prog 9 ptrR
    rw [hs1] at h0
    exact h0
/-- A new tree: a root alone. -/
theorem TreeAt.made {w w' : World} {r : Nat} (h : NewAt w w' r true) (hb : Below w.heap.size w w') :
    ∃ own, TreeAt (w'.alloc (.cells #[.pointer (some ⟨r, 0, none⟩)] 46)) own w'.heap.size (fun _ => r) 0 [] ∧ ∀ b, b < w.heap.size → own b = .no := by
  obtain ⟨hr, mb, h1, _, h3⟩ := h
  obtain ⟨bm, rfl, h4, h5, h6, h7⟩ := h3 rfl
  have hrl := blk_lt h1
  have hs : (w'.alloc (.cells #[.pointer (some ⟨r, 0, none⟩)] 46)).heap.size = w'.heap.size + 1 := by show (w'.heap.push _).size = _; simp
  refine ⟨fun b => if b = w'.heap.size then .self else if b = r then .node [] else if b = bm then .kids [] else .no, ⟨?_, if_pos rfl, blk_new w' _, by simp, by simp, (fun q y h => by cases h), ?_⟩, ?_⟩
  · intro b hb'
    rw [hs]
    rcases Nat.lt_or_ge b (w'.heap.size + 1) with e | e
    · exact e
    · exfalso
      apply hb'
      show (if b = w'.heap.size then Tag.self else if b = r then .node [] else if b = bm then .kids [] else .no) = .no
      rw [if_neg (by omega), if_neg (by omega), if_neg (by omega)]
  · intro p d s hp
    by_cases e : p = []
    · subst e
      rw [at_nil] at hp
      cases hp
      refine ⟨?_, .slice none 0 0, some bm, blk_alloc h1 _, ⟨rfl, .inl ⟨rfl, rfl⟩⟩, (fun b hb' => by cases hb'), (fun h => by cases h), fun _ => ⟨rfl, bm, .map [], rfl, ?_, h7.alloc _, fun x => ⟨rfl, rfl⟩⟩⟩
      · show (if r = w'.heap.size then Tag.self else if r = r then .node [] else if r = bm then .kids [] else .no) = _
        rw [if_neg (by omega), if_pos rfl]
      · show (if bm = w'.heap.size then Tag.self else if bm = r then .node [] else if bm = bm then .kids [] else .no) = _
        rw [if_neg (by omega), if_neg h5, if_pos rfl]
    · rw [at_cons _ e] at hp
      cases hp
  · intro b hb'
    have := hb.size
    show (if b = w'.heap.size then Tag.self else if b = r then .node [] else if b = bm then .kids [] else .no) = .no
    rw [if_neg (by omega), if_neg (by omega), if_neg (by omega)]
theorem tree_New.calls (w : World) :
    Calls Tryd.prog 7 #[] w fun e w' => ∃ g own nb, e = .returned (.pointer (some ⟨g, 0, none⟩)) ∧ TreeAt w' own g nb 0 [] ∧ Below w.heap.size w w' ∧ ∀ b, b < w.heap.size → own b = .no := by
  have C := Aside0.mk (tree_thing.calls true w)
  go_enter Tryd.func7, Tryd.ntmps7
  go_wp2_with (go_at_call 20; refine C.out.mono ?_; rintro e w1 ⟨r, rfl, hn, hb⟩)
  go_ret
  obtain ⟨own, hT, hno⟩ := TreeAt.made hn hb
  exact ⟨_, own, _, rfl, hT, below_alloc hb _, hno⟩
/-- A look-up in a directory's map. -/
theorem law9 : Keyed Tryd.prog 9 := string_keyed Tryd.underlying9
theorem zeroNode (w : World) : (zeroValue 43).run Tryd.prog w = .ok (.pointer none) w := by kernel_rfl
def ptrOf : Option Nat → Value
  | none => .pointer none
  | some b => .pointer (some ⟨b, 0, none⟩)
theorem kid_look {w : World} {nb : List ByteArray → Nat} {T : List Th} {p : List ByteArray} {bm n : Nat} {M : DataW Unit} (hM : w.ownsMap Tryd.prog 9 ptrR bm n M) (hK : KidsAre nb T p M) (x : ByteArray) (hx : x.size ≤ maxLen) :
    (Instr.lookup 51 (.map (some bm)) (.string x) false).run Tryd.prog w = .ok (ptrOf ((look T (p ++ [x])).map fun _ => nb (p ++ [x]))) w := by
  obtain ⟨v, ps, hrun, hv⟩ := hM.lookup law9 Tryd.underlying51 (zeroNode w) (zd := .nil) (zp := []) rfl (Go.WideMaps.keyOf_string_mk Tryd.underlying9 hx)
  rw [(hK x).1] at hv
  cases hl : look T (p ++ [x]) with
  | none =>
    rw [hl] at hv
    rw [hrun, ptrR_inv_nil hv]
    rfl
  | some y =>
    rw [hl] at hv
    rw [hrun, ptrR_inv_lit hv]
    rfl
/-- The walk to names: a thing's block, or the error's number. -/
def walkV (nb : List ByteArray → Nat) (T : List Th) (ns : List ByteArray) : Value := if goF T [] ns = 0 then .pointer (some ⟨nb ns, 0, none⟩) else .pointer none
theorem goF_step {T : List Th} {pre : List ByteArray} {x : ByteArray} {r : List ByteArray} {s : List Int} (h : at' T pre = some (true, s)) : goF T pre (x :: r) = if (look T (pre ++ [x])).isSome then goF T (pre ++ [x]) r else 4 := by
  rw [goF, h]
theorem goF_file {T : List Th} {pre : List ByteArray} {x : ByteArray} {r : List ByteArray} {s : List Int} (h : at' T pre = some (false, s)) : goF T pre (x :: r) = 6 := by
  rw [goF, h]
end Go.Proofs.YtohhlnkdgfgjgaaDoor.P
namespace Go.Proofs.YtohhlnkdgfgjgaaDoor.P
open Go.RowKit Go.Proofs.YtohhlnkdgfgjgaaDoorW.PrintWords Go.Proofs.YtohhlnkdgfgjgaaDoorW.PrintLast Go.Proofs.YtohhlnkdgfgjgaaDoorW.PrintMore
open Go.Maps (Keyed string_keyed)
/-- What the walks ask of a thing's own cells. -/
theorem TreeAt.cells {w : World} {own : Nat → Tag} {g N : Nat} {nb : List ByteArray → Nat} {T : List Th} (h : TreeAt w own g nb N T) {p : List ByteArray} {d : Bool} {s : List Int} (hp : at' T p = some (d, s)) :
    ∃ (A : Option Addr) (c : Nat) (mb : Option Nat), w.heap[nb p]? = some (.cells #[.bool d, .slice A s.length c, .map mb] 53 (0, 0)) ∧ w.ownsRow 0 5 1 (.slice A s.length c) s.length (s.map (Value.int .u8)) ∧ (d = false → mb = none) ∧
      (d = true → s = [] ∧ ∃ bm M, mb = some bm ∧ own bm = .kids p ∧ w.ownsMap Tryd.prog 9 ptrR bm N M ∧ KidsAre nb T p M) := by
  obtain ⟨h1, v, mb, h2, h3, h4, h5, h6⟩ := h.node p d s hp
  obtain ⟨A, c, rfl⟩ := owns_slice h3
  exact ⟨A, c, mb, h2, h3, h5, h6⟩
theorem walkV_ok {nb : List ByteArray → Nat} {T : List Th} {ns : List ByteArray} (h : goF T [] ns = 0) : walkV nb T ns = .pointer (some ⟨nb ns, 0, none⟩) := if_pos h
theorem walkV_no {nb : List ByteArray → Nat} {T : List Th} {ns : List ByteArray} (h : goF T [] ns ≠ 0) : walkV nb T ns = .pointer none := if_neg h
theorem take_succ' {l : List ByteArray} {i : Nat} {x : ByteArray} (h : l[i]? = some x) : l.take (i + 1) = l.take i ++ [x] := by
  rw [List.take_add_one, h]; rfl
theorem drop_cons' {l : List ByteArray} {i : Nat} {x : ByteArray} (h : l[i]? = some x) : l.drop i = x :: l.drop (i + 1) := by
  obtain ⟨hi, rfl⟩ := List.getElem?_eq_some_iff.1 h
  exact List.drop_eq_getElem_cons hi
set_option maxHeartbeats 4000000 in
set_option maxRecDepth 100000 in
theorem tree_Tree_walk.calls {w : World} {own : Nat → Tag} {g N : Nat} {nb : List ByteArray → Nat} {T : List Th} (h : TreeAt w own g nb N T) (A : Option Addr) (c : Nat) (ns : List ByteArray) (hr : Kd.C Kd.string w A ns.length ns) (hx : ∀ x ∈ ns, x.size ≤ 140737488355328) :
    Calls Tryd.prog 33 #[.pointer (some ⟨g, 0, none⟩), .slice A ns.length c] w fun e w' => e = .returned (.tuple #[walkV nb T ns, .int .i64 (goF T [] ns)]) ∧ w' = w := by
  have htop : w.cell? ⟨g, 0, none⟩ = some (.pointer (some ⟨nb [], 0, none⟩)) := blk_cell h.top 0
  have HT := Aside0.mk h
  have HR := Aside0.mk hr
  have HX := Aside0.mk hx
  have hlen : ns.length ≤ 9223372036854775807 := hr.2.1
  clear h hr hx
  go_enter Tryd.func33, Tryd.ntmps33
  go_wp2_with fail
  go_loop [6, 15] (fun n i => ∃ k : Nat, k ≤ ns.length ∧ i = .int .i64 k ∧ n = .pointer (some ⟨nb (ns.take k), 0, none⟩) ∧ Aside0 ((at' T (ns.take k)).isSome = true ∧ goF T [] ns = goF T (ns.take k) (ns.drop k))) (fun _ i => ns.length - (intOf i).toNat)
  case atStart => exact ⟨0, Nat.zero_le _, rfl, rfl, ⟨rfl, rfl⟩⟩
  case round =>
    obtain ⟨k, hk, rfl, rfl, HI⟩ := hrel
    by_cases hlt : k < ns.length
    · obtain ⟨x, hx⟩ : ∃ x, ns[k]? = some x := ⟨_, List.getElem?_eq_getElem hlt⟩
      obtain ⟨ad, e0, hc⟩ := Kd.at_string HR.out (k : Int) (by omega) (by omega)
      cases e0
      have ex : rdOf ByteArray.empty ns (k : Int) = x := by
        unfold rdOf
        rw [Int.toNat_natCast, List.getD_eq_getElem?_getD, hx]
        rfl
      rw [ex, Int.toNat_natCast] at hc
      obtain ⟨⟨d, s⟩, hat⟩ := Option.isSome_iff_exists.1 HI.out.1
      obtain ⟨A', c', mb, hb, _, hd0, hd1⟩ := HT.out.cells hat
      have hc0 : w.cell? ⟨nb (ns.take k), 0, none⟩ = some (.bool d) := blk_cell hb 0
      have hc2 : w.cell? ⟨nb (ns.take k), 2, none⟩ = some (.map mb) := blk_cell hb 2
      have HAT := Aside0.mk hat
      have HXX := Aside0.mk hx
      have hxs : x.size ≤ maxLen := by
        have := HX.out x (List.mem_of_getElem? hx)
        unfold maxLen
        omega
      cases d with
      | false =>
        have hres : Aside0 (goF T [] ns = 6) := ⟨by rw [HI.out.2, drop_cons' hx, goF_file hat]⟩
        clear hb hx hat ex hxs hd0 hd1
        go_wp2_with fail
        go_ret2
        rw [walkV_no (by rw [hres.out]; decide), hres.out]
        exact ⟨rfl, rfl⟩
      | true =>
        obtain ⟨_, bm, M, rfl, _, hM, hK⟩ := hd1 rfl
        have hrun := kid_look hM hK x hxs
        have hstep := goF_step (x := x) (r := ns.drop (k + 1)) hat
        rw [← drop_cons' hx, ← take_succ' hx] at hstep
        rw [← take_succ' hx] at hrun
        have HS := Aside0.mk hstep
        cases hl : look T (ns.take (k + 1)) with
        | none =>
          rw [hl] at hrun
          have hres : Aside0 (goF T [] ns = 4) := ⟨by rw [HI.out.2, HS.out, hl]; rfl⟩
          have hrun' : (Instr.lookup 51 (.map (some bm)) (.string x) false).run Tryd.prog w = .ok (.pointer none) w := hrun
          clear hb hx hat ex hxs hd0 hd1 hM hK hstep hrun hl
          go_wp2_with fail
          go_ret2
          rw [walkV_no (by rw [hres.out]; decide), hres.out]
          exact ⟨rfl, rfl⟩
        | some y =>
          rw [hl] at hrun
          have hrun' : (Instr.lookup 51 (.map (some bm)) (.string x) false).run Tryd.prog w = .ok (.pointer (some ⟨nb (ns.take (k + 1)), 0, none⟩)) w := hrun
          have hnext : Aside0 ((at' T (ns.take (k + 1))).isSome = true ∧ goF T [] ns = goF T (ns.take (k + 1)) (ns.drop (k + 1))) := ⟨by rw [take_succ' hx, at_snoc, ← take_succ' hx, hl]; rfl, by rw [HI.out.2, HS.out, hl]; rfl⟩
          clear hb hx hat ex hxs hd0 hd1 hM hK hstep hrun hl
          go_wp2_with fail
          go_round
          case rel => exact ⟨k + 1, by omega, by go_num, rfl, hnext⟩
          case measure => simp [intOf]; omega
    · obtain rfl : k = ns.length := by omega
      have hI := HI.out
      rw [List.take_length, List.drop_length] at hI
      have hres : Aside0 (goF T [] ns = 0) := ⟨hI.2⟩
      have hnb : nb (ns.take ns.length) = nb ns := by rw [List.take_length]
      clear hI
      go_wp2_with fail
      go_ret2
      rw [walkV_ok hres.out, hres.out]
      exact ⟨rfl, rfl⟩
end Go.Proofs.YtohhlnkdgfgjgaaDoor.P
namespace Go.Proofs.YtohhlnkdgfgjgaaDoor.P
open Go.RowKit Go.Proofs.YtohhlnkdgfgjgaaDoorW.PrintWords Go.Proofs.YtohhlnkdgfgjgaaDoorW.PrintLast Go.Proofs.YtohhlnkdgfgjgaaDoorW.PrintMore
def ptrIf (b : Bool) (n : Nat) : Value := if b then .pointer (some ⟨n, 0, none⟩) else .pointer none
def findE (T : List Th) (s : ByteArray) : Int := if (cutB s).2 = true then goF T [] (cutB s).1 else 3
def findV (nb : List ByteArray → Nat) (T : List Th) (s : ByteArray) : Value := ptrIf (decide (findE T s = 0)) (nb (cutB s).1)
theorem findE_ok {T : List Th} {s : ByteArray} (h : (cutB s).2 = true) : findE T s = goF T [] (cutB s).1 := if_pos h
theorem findE_no {T : List Th} {s : ByteArray} (h : (cutB s).2 = false) : findE T s = 3 := if_neg (by rw [h]; decide)
theorem walkV_if (nb : List ByteArray → Nat) (T : List Th) (ns : List ByteArray) : walkV nb T ns = ptrIf (decide (goF T [] ns = 0)) (nb ns) := by
  unfold walkV ptrIf
  by_cases h : goF T [] ns = 0
  · rw [if_pos h, decide_eq_true h]; rfl
  · rw [if_neg h, decide_eq_false h]; rfl
theorem split_calls (s : ByteArray) (hs : s.size ≤ 4000) (w : World) : Calls Tryd.prog 28 #[.string s] w fun e w' => ∃ (A : Option Addr) (c : Nat), e = .returned (.tuple #[.slice A (cutB s).1.length c, .int .i64 (if (cutB s).2 then 0 else 3)]) ∧ (cutB s).1.length ≤ c ∧ Kd.C Kd.string w' A (cutB s).1.length (cutB s).1 ∧ Below w.heap.size w w' := by
  refine (path_Split.calls s _ _ w (cut_f s hs)).mono fun e w' ⟨v, he, hR, hb⟩ => ?_
  obtain ⟨A, c, rfl, hc, hC⟩ := Kd.R_reads hR
  exact ⟨A, c, he, hc, hC, hb⟩
set_option maxHeartbeats 4000000 in
set_option maxRecDepth 100000 in
theorem tree_Tree_find.calls {w : World} {own : Nat → Tag} {g N : Nat} {nb : List ByteArray → Nat} {T : List Th} (h : TreeAt w own g nb N T) (s : ByteArray) (hs : s.size ≤ 4000) :
    Calls Tryd.prog 30 #[.pointer (some ⟨g, 0, none⟩), .string s] w fun e w' => e = .returned (.tuple #[findV nb T s, .int .i64 (findE T s)]) ∧ Below w.heap.size w w' := by
  have C1 := Aside0.mk (split_calls s hs w)
  have HT := Aside0.mk h
  have HX := Aside0.mk (cutB_sizes s)
  unfold findV
  clear h
  cases hc : (cutB s).2 with
  | true =>
    rw [hc] at C1
    rw [findE_ok hc]
    generalize (cutB s).1 = ns at *
    clear hc
    go_enter Tryd.func30, Tryd.ntmps30
    go_wp2_with (first | (go_at_call 28; refine C1.out.mono ?_; rintro e w1 ⟨A, c, rfl, hcap, hC, hb⟩; have C2 := Aside0.mk (tree_Tree_walk.calls (HT.out.below hb) A c ns hC HX.out)) | (go_at_call 33; refine C2.out.mono ?_; rintro e w2 ⟨rfl, rfl⟩))
    go_ret2
    exact ⟨by rw [← walkV_if]; rfl, hb⟩
  | false =>
    rw [hc] at C1
    rw [findE_no hc]
    generalize (cutB s).1 = ns at *
    clear hc
    go_enter Tryd.func30, Tryd.ntmps30
    go_wp2_with (go_at_call 28; refine C1.out.mono ?_; rintro e w1 ⟨A, c, rfl, hcap, hC, hb⟩)
    go_ret2
    exact ⟨rfl, hb⟩
/-- Is what is there a directory? -/
def isDir (T : List Th) (p : List ByteArray) : Bool := match at' T p with | some (d, _) => d | none => false
def fileE (T : List Th) (s : ByteArray) : Int := if findE T s = 0 then (if isDir T (cutB s).1 then 7 else 0) else findE T s
theorem find_at {T : List Th} {s : ByteArray} (h : findE T s = 0) : ∃ d y, at' T (cutB s).1 = some (d, y) := by
  unfold findE at h
  split at h
  · have := goF_at T (cutB s).1 [] rfl h
    obtain ⟨⟨d, y⟩, hy⟩ := Option.isSome_iff_exists.1 this
    exact ⟨d, y, by simpa using hy⟩
  · cases h
theorem file_at {T : List Th} {s : ByteArray} (h : fileE T s = 0) : ∃ y, at' T (cutB s).1 = some (false, y) := by
  unfold fileE at h
  split at h
  · rename_i h2
    obtain ⟨d, y, hy⟩ := find_at h2
    unfold isDir at h
    rw [hy] at h
    cases d with
    | false => exact ⟨y, hy⟩
    | true => cases h
  · rename_i h2
    exact absurd h h2
set_option maxHeartbeats 4000000 in
set_option maxRecDepth 100000 in
theorem tree_Tree_file.calls {w : World} {own : Nat → Tag} {g N : Nat} {nb : List ByteArray → Nat} {T : List Th} (h : TreeAt w own g nb N T) (s : ByteArray) (hs : s.size ≤ 4000) :
    Calls Tryd.prog 22 #[.pointer (some ⟨g, 0, none⟩), .string s] w fun e w' => e = .returned (.tuple #[ptrIf (decide (fileE T s = 0)) (nb (cutB s).1), .int .i64 (fileE T s)]) ∧ Below w.heap.size w w' := by
  have C1 := tree_Tree_find.calls h s hs
  by_cases hf : findE T s = 0
  · obtain ⟨d, y, hy⟩ := find_at hf
    obtain ⟨A, c, mb, hb, _⟩ := h.cells hy
    have hc0 : w.cell? ⟨nb (cutB s).1, 0, none⟩ = some (.bool d) := blk_cell hb 0
    unfold findV at C1
    rw [hf, decide_eq_true rfl] at C1
    simp only [ptrIf, if_true] at C1
    have hfe : fileE T s = if d then 7 else 0 := by
      unfold fileE isDir
      rw [if_pos hf, hy]
    rw [hfe]
    generalize nb (cutB s).1 = b at *
    have C := Aside0.mk C1
    clear C1 hf hy hfe hb h
    cases d with
    | true =>
      go_enter Tryd.func22, Tryd.ntmps22
      go_wp2_with (go_at_call 30; refine C.out.mono ?_; rintro e w1 ⟨rfl, hb⟩; have hc0' := pw_cell_below hb hc0)
      go_ret2
      exact ⟨rfl, hb⟩
    | false =>
      go_enter Tryd.func22, Tryd.ntmps22
      go_wp2_with (go_at_call 30; refine C.out.mono ?_; rintro e w1 ⟨rfl, hb⟩; have hc0' := pw_cell_below hb hc0)
      go_ret2
      exact ⟨rfl, hb⟩
  · have hfe : fileE T s = findE T s := by unfold fileE; rw [if_neg hf]
    unfold findV at C1
    rw [hfe]
    rw [decide_eq_false hf] at C1 ⊢
    simp only [ptrIf, Bool.false_eq_true, if_false] at C1
    have hne : (findE T s == 0) = false := by simpa using hf
    generalize findE T s = x at *
    have C := Aside0.mk C1
    clear C1 hf hfe h
    go_enter Tryd.func22, Tryd.ntmps22
    go_wp2_with (go_at_call 30; refine C.out.mono ?_; rintro e w1 ⟨rfl, hb⟩)
    go_ret2
    exact ⟨rfl, hb⟩
end Go.Proofs.YtohhlnkdgfgjgaaDoor.P
namespace Go.Proofs.YtohhlnkdgfgjgaaDoor.P
open Go.RowKit Go.Proofs.YtohhlnkdgfgjgaaDoorW.PrintWords Go.Proofs.YtohhlnkdgfgjgaaDoorW.PrintLast Go.Proofs.YtohhlnkdgfgjgaaDoorW.PrintMore
theorem look_snoc (q : List ByteArray) (y : Bool × List Int) (p : List ByteArray) : ∀ T : List Th, look (T ++ [(q, y)]) p = match look T p with | some z => some z | none => if q = p then some y else none
  | [] => by simp [look]
  | (r, z) :: T => by
    rw [List.cons_append, look, look]
    by_cases h : r = p
    · rw [if_pos h, if_pos h]
    · rw [if_neg h, if_neg h]; exact look_snoc q y p T
theorem look_mem {T : List Th} {p : List ByteArray} : (look T p).isSome = true ↔ p ∈ T.map (·.1) := by
  induction T with
  | nil => simp [look]
  | cons x T ih =>
    obtain ⟨q, y⟩ := x
    rw [look, List.map_cons, List.mem_cons]
    by_cases h : q = p
    · rw [if_pos h]; simp [h]
    · rw [if_neg h, ih]
      constructor
      · exact .inr
      · rintro (e | e)
        · exact absurd e.symm h
        · exact e
theorem snoc_inj' {p q : List ByteArray} {x y : ByteArray} (h : p ++ [x] = q ++ [y]) : p = q ∧ x = y := by
  have := List.append_inj' h rfl
  exact ⟨this.1, by simpa using this.2⟩
theorem strL_inj {x y : ByteArray} (h : strL x = strL y) : x = y := by
  unfold strL at h
  injection h with h
  exact ba_ext h
theorem strL_key (x : ByteArray) : WideAt.IsKeyLit (strL x) := by trivial
theorem TreeAt.adds {w w1 w2 : World} {own : Nat → Tag} {g N : Nat} {nb : List ByteArray → Nat} {T : List Th} (h : TreeAt w own g nb N T) {up : List ByteArray} {x : ByteArray} {d : Bool} {gn : Nat} {sup : List Int}
    (hup : at' T up = some (true, sup)) (hno : look T (up ++ [x]) = none) (hn : NewAt w w1 gn d) (hb : Below w.heap.size w w1) {bm : Nat} {M : DataW Unit} {v0 : Value} (hcell : w.heap[nb up]? = some (.cells #[.bool true, v0, .map (some bm)] 53 (0, 0))) (hbm : own bm = .kids up) (hM : w.ownsMap Tryd.prog 9 ptrR bm N M) (hK : KidsAre nb T up M)
    (hg : w1.grownBy w2 (some bm)) (hm : w2.ownsMap Tryd.prog 9 ptrR bm (N + 1) (M.put (strL x) (.lit (.int .i64 (gn : Int))))) :
    ∃ own' nb', TreeAt w2 own' g nb' (N + 1) (T ++ [(up ++ [x], d, [])]) ∧ Touch w w2 own own' ∧ nb' [] = nb [] := by
  obtain ⟨hgn, mb, hn1, hn2, hn3⟩ := hn
  have hgl := blk_lt hn1
  have hfresh : ∀ b, w.heap.size ≤ b → own b = .no := fun b hb' => by
    rcases Classical.em (own b = .no) with e | e
    · exact e
    · have := h.lt b e
      omega
  have hbl : bm < w.heap.size := h.lt bm (by rw [hbm]; simp)
  have hne : up ++ [x] ≠ [] := by simp
  let own' : Nat → Tag := fun b => if b = gn then .node (up ++ [x]) else if mb = some b then .kids (up ++ [x]) else own b
  let nb' : List ByteArray → Nat := fun p => if p = up ++ [x] then gn else nb p
  have hmb : ∀ b, mb = some b → w.heap.size ≤ b ∧ b ≠ gn ∧ b < w1.heap.size := by
    intro b e
    cases d with
    | false => rw [hn2 rfl] at e; cases e
    | true =>
      obtain ⟨b', e', h1, h2, h3, _⟩ := hn3 rfl
      rw [e] at e'
      cases e'
      exact ⟨h1, h2, h3⟩
  have hold : ∀ b, b < w.heap.size → own' b = own b := fun b hb' => by
    show (if b = gn then Tag.node (up ++ [x]) else if mb = some b then .kids (up ++ [x]) else own b) = own b
    rw [if_neg (by omega), if_neg (fun e => by have := hmb b e; omega)]
  have hstay : ∀ b, b < w.heap.size → b ≠ bm → w2.heap[b]? = w.heap[b]? := fun b hb' hne' =>
    (hg.block b (Nat.lt_of_lt_of_le hb' hb.size) (by simpa using hne')).trans (hb.block b hb')
  have hnb : ∀ p, p ≠ up ++ [x] → nb' p = nb p := fun p hp => if_neg hp
  have hlookT : ∀ p, look (T ++ [(up ++ [x], d, [])]) p = match look T p with | some z => some z | none => if up ++ [x] = p then some (d, []) else none := fun p => look_snoc _ _ _ _
  have hnotin : up ++ [x] ∉ T.map (·.1) := fun hin => by
    have := look_mem.2 hin
    rw [hno] at this
    cases this
  refine ⟨own', nb', ⟨?_, ?_, ?_, ?_, ?_, ?_, ?_⟩, ?_, hnb [] (fun e => hne e.symm)⟩
  · intro b hb'
    have hs := hg.size
    by_cases e1 : b = gn
    · omega
    · by_cases e2 : mb = some b
      · have := hmb b e2; omega
      · have hb2 : own b ≠ .no := by
          intro e
          apply hb'
          show (if b = gn then Tag.node (up ++ [x]) else if mb = some b then .kids (up ++ [x]) else own b) = .no
          rw [if_neg e1, if_neg e2, e]
        have := h.lt b hb2
        have := hb.size
        omega
  · have hgl' : g < w.heap.size := h.lt g (by rw [h.self]; simp)
    rw [hold g hgl']; exact h.self
  · have hgl' : g < w.heap.size := h.lt g (by rw [h.self]; simp)
    rw [hstay g hgl' (fun e => by have := h.self; rw [e, hbm] at this; cases this), hnb [] (fun e => hne e.symm)]
    exact h.top
  · rw [List.map_append, List.nodup_append]
    exact ⟨h.nod, by simp, fun a ha b hb' => by
      simp at hb'
      subst hb'
      exact fun e => hnotin (e ▸ ha)⟩
  · intro y hy
    rcases List.mem_append.1 hy with hy | hy
    · exact h.nn y hy
    · simp at hy
      subst hy
      exact hne
  · intro q y hq
    rw [hlookT] at hq
    have key : ∀ s', at' T q = some (true, s') → at' (T ++ [(up ++ [x], d, [])]) q = some (true, s') := fun s' hs' => by
      by_cases e0 : q = []
      · subst e0; exact hs'
      · rw [at_cons _ e0] at hs' ⊢
        rw [hlookT, hs']
    cases hl : look T (q ++ [y]) with
    | some z =>
      obtain ⟨s', hs'⟩ := h.par q y (by rw [hl]; rfl)
      exact ⟨s', key s' hs'⟩
    | none =>
      rw [hl] at hq
      simp only at hq
      split at hq
      · rename_i e
        obtain rfl := (snoc_inj' e).1
        exact ⟨sup, key sup hup⟩
      · cases hq
  · intro p d' s hp
    by_cases e : p = up ++ [x]
    · subst e
      rw [at_cons _ hne, hlookT, hno] at hp
      simp only [if_true] at hp
      cases hp
      have e1 : nb' (up ++ [x]) = gn := if_pos rfl
      have e2 : own' gn = .node (up ++ [x]) := if_pos rfl
      have hnk : ∀ y, look (T ++ [(up ++ [x], d, [])]) (up ++ [x] ++ [y]) = none := fun y => by
        rw [hlookT]
        have : look T (up ++ [x] ++ [y]) = none := by
          cases hl : look T (up ++ [x] ++ [y]) with
          | none => rfl
          | some z =>
            obtain ⟨s', hs'⟩ := h.par (up ++ [x]) y (by rw [hl]; rfl)
            rw [at_cons _ hne, hno] at hs'
            cases hs'
        rw [this, if_neg (fun e => by have := congrArg List.length e; simp at this)]
      refine ⟨by rw [e1, e2], .slice none 0 0, mb, by rw [e1]; exact (hg.block gn hgl (by simp; omega)).trans hn1, ⟨rfl, .inl ⟨rfl, rfl⟩⟩, (fun b hb' => by cases hb'), hn2, fun hd => ⟨rfl, ?_⟩⟩
      obtain ⟨b', e', h1, h2, h3, h4⟩ := hn3 hd
      refine ⟨b', .map [], e', ?_, (map_move h4 (hg.block b' h3 (by simp; omega))).mono (Nat.zero_le _), fun y => ?_⟩
      · show (if b' = gn then Tag.node (up ++ [x]) else if mb = some b' then .kids (up ++ [x]) else own b') = _
        rw [if_neg h2, if_pos e']
      · rw [hnk y]
        exact ⟨rfl, rfl⟩
    · have hp' : at' T p = some (d', s) := by
        by_cases e0 : p = []
        · subst e0; exact hp
        · rw [at_cons _ e0, hlookT] at hp
          rw [at_cons _ e0]
          cases hl : look T p with
          | none => rw [hl] at hp; simp only [if_neg (fun e' => e (Eq.symm e'))] at hp; cases hp
          | some z => rw [hl] at hp; exact hp
      by_cases eu : p = up
      · subst eu
        obtain ⟨h1, v, mb', h2, h3, h4, h5, h6⟩ := h.node p d' s hp'
        rw [hup] at hp'
        cases hp'
        obtain ⟨h60, bm', M', e', h7, h8, h9⟩ := h6 rfl
        have hbb : bm' = bm := by
          rw [hcell] at h2
          simp only [Option.some.injEq, Obj.cells.injEq] at h2
          have e3 := congrArg (fun a : Array Value => a[2]?) h2.1
          simp [e'] at e3
          exact e3.symm
        subst hbb
        obtain rfl := owns_unique hM h8
        have hl1 : nb p < w.heap.size := h.lt _ (by rw [h1]; simp)
        refine ⟨by rw [hnb p e, hold _ hl1]; exact h1, v, mb', by rw [hnb p e]; exact (hstay _ hl1 (fun e' => by rw [e', hbm] at h1; cases h1)).trans h2, own_move h3 (fun b hb' => hstay b (owns_block h3 hb') (fun e' => by have := h4 b hb'; rw [e', hbm] at this; cases this)), fun b hb' => by rw [hold b (owns_block h3 hb')]; exact h4 b hb', h5, fun _ => ⟨h60, bm', _, e', by rw [hold bm' hbl]; exact hbm, hm, fun y => ?_⟩⟩
        rw [hlookT]
        by_cases ey : y = x
        · subst ey
          rw [hno]
          simp only [if_true]
          exact ⟨by rw [Go.Maps.atKey_put_same hM.isMap (strL_key _)]; show _ = DataW.lit (.int .i64 ((if p ++ [y] = p ++ [y] then gn else nb (p ++ [y]) : Nat) : Int)); rw [if_pos rfl], Go.Maps.has_put_same hM.isMap (strL_key _) _⟩
        · have hne2 : strL y ≠ strL x := fun e2 => ey (strL_inj e2)
          have hne3 : p ++ [y] ≠ p ++ [x] := fun e2 => ey (snoc_inj' e2).2
          rw [Go.Maps.atKey_put_other hne2, Go.Maps.has_put_other hne2]
          obtain ⟨k1, k2⟩ := hK y
          rw [k1, k2]
          cases look T (p ++ [y]) with
          | none => simp only [if_neg (Ne.symm hne3)]; exact ⟨trivial, trivial⟩
          | some z => simp only [hnb _ hne3]; exact ⟨trivial, trivial⟩
      · refine (h.node p d' s hp').move (Nat.le_succ _) (fun b hb' => ?_) (hnb p e) (fun y => ?_) (fun y hy => ?_)
        · have hl1 : b < w.heap.size := h.lt b (by rcases hb' with e' | e' | e' <;> rw [e'] <;> simp)
          refine ⟨hstay b hl1 (fun e' => ?_), hold b hl1⟩
          subst e'
          rw [hbm] at hb'
          rcases hb' with e' | e' | e' <;> simp at e'
          exact eu e'.symm
        · rw [hlookT]
          cases hl : look T (p ++ [y]) with
          | none => simp only [if_neg (fun e' => eu (snoc_inj' e').1.symm)]
          | some z => rfl
        · exact hnb _ (fun e' => eu (snoc_inj' e').1)
  · refine ⟨⟨hg.os.trans hb.os, hg.tape.trans hb.tape, hg.output.trans hb.output, Nat.le_trans hb.size hg.size, fun _ hk => absurd hk (Nat.not_lt_zero _)⟩, fun b hb' hno' => hstay b hb' (fun e => by rw [e, hbm] at hno'; cases hno'), fun b hb' => ?_⟩
    by_cases e1 : b < w.heap.size
    · rw [hold b e1] at hb'
      exact .inl hb'
    · exact .inr (by omega)
end Go.Proofs.YtohhlnkdgfgjgaaDoor.P
namespace Go.Proofs.YtohhlnkdgfgjgaaDoor.P
open Go.RowKit Go.Proofs.YtohhlnkdgfgjgaaDoorW.PrintWords Go.Proofs.YtohhlnkdgfgjgaaDoorW.PrintLast Go.Proofs.YtohhlnkdgfgjgaaDoorW.PrintMore
theorem TreeAt.more {w : World} {own : Nat → Tag} {g N N' : Nat} {nb : List ByteArray → Nat} {T : List Th} (h : TreeAt w own g nb N T) (hN : N ≤ N') : TreeAt w own g nb N' T :=
  ⟨h.lt, h.self, h.top, h.nod, h.nn, h.par, fun p d s hp => (h.node p d s hp).move hN (fun _ _ => ⟨rfl, rfl⟩) rfl (fun _ => rfl) (fun _ _ => rfl)⟩
/-- To add a thing: the error's number, from its names on. -/
def addF (T : List Th) (ns : List ByteArray) : Int :=
  if ns = [] then 5 else if goF T [] ns.dropLast ≠ 0 then goF T [] ns.dropLast else if isDir T ns.dropLast = false then 6 else if (look T ns).isSome then 5 else 0
def addE (T : List Th) (s : ByteArray) : Int := if (cutB s).2 then addF T (cutB s).1 else 3
def addT (T : List Th) (s : ByteArray) (d : Bool) : List Th := if addE T s = 0 then T ++ [((cutB s).1, d, [])] else T
theorem parent_calls {ns up : List ByteArray} {x : ByteArray} (e : ns = up ++ [x]) (hl : ns.length < 100000) (A : Option Addr) (c : Nat) (w : World) (hr : Kd.C Kd.string w A ns.length ns) (hc : ns.length ≤ c) :
    Calls Tryd.prog 32 #[.slice A ns.length c] w fun e w' => ∃ (A' : Option Addr) (c' : Nat), e = .returned (.tuple #[.slice A' up.length c', .string x, .bool true]) ∧ up.length ≤ c' ∧ Kd.C Kd.string w' A' up.length up ∧ Below w.heap.size w w' := by
  have hp : path_Parent.f ns = some (up, x, true) := by
    subst e
    have := parent_f (up ++ [x]) (by omega) (by simp)
    simpa using this
  refine (path_Parent.calls A c ns up x true w hr hc hp).mono fun e w' ⟨v, he, hR, hb⟩ => ?_
  obtain ⟨A', c', rfl, hc', hC⟩ := Kd.R_reads hR
  exact ⟨A', c', he, hc', hC, hb⟩
theorem parent_calls_nil (A : Option Addr) (c : Nat) (w : World) : Calls Tryd.prog 32 #[.slice A 0 c] w fun e w' => ∃ (A' : Option Addr) (c' : Nat), e = .returned (.tuple #[.slice A' 0 c', .string ⟨#[]⟩, .bool false]) ∧ Below w.heap.size w w' := by
  refine (path_Parent.calls A c [] [] ⟨#[]⟩ false w ⟨rfl, by decide, fun h => absurd h (by decide)⟩ (Nat.zero_le _) parent_nil).mono fun e w' ⟨v, he, hR, hb⟩ => ?_
  obtain ⟨A', c', rfl, hc', hC⟩ := Kd.R_reads hR
  exact ⟨A', c', he, hb⟩
theorem isDir_at {T : List Th} {p : List ByteArray} {d : Bool} {s : List Int} (h : at' T p = some (d, s)) : isDir T p = d := by
  unfold isDir
  rw [h]
theorem addF_goes {T : List Th} {up : List ByteArray} {x : ByteArray} (h : goF T [] up ≠ 0) : addF T (up ++ [x]) = goF T [] up := by
  unfold addF
  rw [if_neg (by simp), List.dropLast_concat, if_pos h]
theorem addF_file {T : List Th} {up : List ByteArray} {x : ByteArray} (h : goF T [] up = 0) (h2 : isDir T up = false) : addF T (up ++ [x]) = 6 := by
  unfold addF
  rw [if_neg (by simp), List.dropLast_concat, if_neg (fun e => e h), if_pos h2]
theorem addF_is {T : List Th} {up : List ByteArray} {x : ByteArray} (h : goF T [] up = 0) (h2 : isDir T up = true) : addF T (up ++ [x]) = if (look T (up ++ [x])).isSome then 5 else 0 := by
  unfold addF
  rw [if_neg (by simp), List.dropLast_concat, if_neg (fun e => e h), if_neg (by rw [h2]; decide)]
/-- What add leaves, whatever it answers. -/
def Left (w w' : World) (own : Nat → Tag) (g : Nat) (nb : List ByteArray → Nat) (N : Nat) (T : List Th) : Prop :=
  ∃ own' nb', TreeAt w' own' g nb' N T ∧ Touch w w' own own' ∧ nb' [] = nb []
theorem Left.same {w w' : World} {own : Nat → Tag} {g N : Nat} {nb : List ByteArray → Nat} {T : List Th} (h : TreeAt w own g nb N T) (hb : Below w.heap.size w w') : Left w w' own g nb (N + 1) T :=
  ⟨own, nb, (h.below hb).more (Nat.le_succ _), Touch.of_below hb _, rfl⟩
/-- What the walks of a path's parent need. -/
structure Goes (w : World) (own : Nat → Tag) (g : Nat) (nb : List ByteArray → Nat) (T : List Th) (s : ByteArray) (n : Nat) (m : Nat) (x : ByteArray) (z : Int) (v : Value) : Prop where
  split : Calls Tryd.prog 28 #[.string s] w fun e w' => ∃ (A : Option Addr) (c : Nat), e = .returned (.tuple #[.slice A n c, .int .i64 0]) ∧ Below w.heap.size w w' ∧ Aside0 (∀ w1, Below w'.heap.size w' w1 → Calls Tryd.prog 32 #[.slice A n c] w1 fun e w' => ∃ (A' : Option Addr) (c' : Nat), e = .returned (.tuple #[.slice A' m c', .string x, .bool true]) ∧ Below w1.heap.size w1 w' ∧
      Aside0 (∀ w2, Below w'.heap.size w' w2 → Calls Tryd.prog 33 #[.pointer (some ⟨g, 0, none⟩), .slice A' m c'] w2 fun e w' => e = .returned (.tuple #[v, .int .i64 z]) ∧ w' = w2))
theorem goes {w : World} {own : Nat → Tag} {g N : Nat} {nb : List ByteArray → Nat} {T : List Th} (h : TreeAt w own g nb N T) {s : ByteArray} (hs : s.size ≤ 4000) (hc : (cutB s).2 = true) {up : List ByteArray} {x : ByteArray} (e : (cutB s).1 = up ++ [x]) :
    Goes w own g nb T s (cutB s).1.length up.length x (goF T [] up) (walkV nb T up) ∧ x.size ≤ maxLen := by
  have hX := cutB_sizes s
  have hlen : (cutB s).1.length ≤ 64 := cutB_len s
  refine ⟨⟨(split_calls s hs w).mono fun e1 w1 ⟨A, c, he, hcap, hC, hb⟩ => ⟨A, c, by rw [he, hc]; rfl, hb, ⟨fun w2 hb2 => ?_⟩⟩⟩, ?_⟩
  · refine (parent_calls e (by omega) A c w2 (Kd.C_below hC hb2) hcap).mono fun e3 w3 ⟨A', c', he3, hcap3, hC3, hb3⟩ => ⟨A', c', he3, hb3, ⟨fun w4 hb4 => ?_⟩⟩
    have hb13 : Below w1.heap.size w1 w3 := hb2.trans (hb3.mono hb2.size)
    have hb03 : Below w.heap.size w w3 := hb.trans (hb13.mono hb.size)
    exact tree_Tree_walk.calls (h.below (hb03.trans (hb4.mono hb03.size))) A' c' up (Kd.C_below hC3 hb4) (fun y hy => hX y (by rw [e]; exact List.mem_append_left _ hy))
  · have := hX x (by rw [e]; simp)
    unfold maxLen
    omega
end Go.Proofs.YtohhlnkdgfgjgaaDoor.P
namespace Go.Proofs.YtohhlnkdgfgjgaaDoor.P
open Go.RowKit Go.Proofs.YtohhlnkdgfgjgaaDoorW.PrintWords Go.Proofs.YtohhlnkdgfgjgaaDoorW.PrintLast Go.Proofs.YtohhlnkdgfgjgaaDoorW.PrintMore
set_option maxHeartbeats 4000000 in
set_option maxRecDepth 100000 in
theorem add_goes {w : World} {own : Nat → Tag} {g : Nat} {nb : List ByteArray → Nat} {T : List Th} {s : ByteArray} (d : Bool) {n m : Nat} {x : ByteArray} {z : Int} (hz : z ≠ 0) (S0 : Goes w own g nb T s n m x z (.pointer none)) :
    Calls Tryd.prog 21 #[.pointer (some ⟨g, 0, none⟩), .string s, .bool d] w fun e w' => e = .returned (.int .i64 z) ∧ Below w.heap.size w w' := by
  have S := Aside0.mk S0
  have hne : (z == 0) = false := by simpa using hz
  clear S0 hz
  go_enter Tryd.func21, Tryd.ntmps21
  go_wp2_with (first | (go_at_call 28; (with_reducible refine S.out.split.mono ?_); rintro e w1 ⟨A, c, rfl, hb1, P1⟩) | (go_at_call 32; (with_reducible refine (P1.out _ (Below.refl _ _)).mono ?_); rintro e w2 ⟨A2, c2, rfl, hb2, W1⟩; have HB := Aside0.mk (hb1.trans (hb2.mono hb1.size))) | (go_at_call 33; (with_reducible refine (W1.out _ (Below.refl _ _)).mono ?_); rintro e w3 ⟨rfl, rfl⟩))
  go_ret
  exact ⟨rfl, HB.out⟩
set_option maxHeartbeats 4000000 in
set_option maxRecDepth 100000 in
theorem add_file {w : World} {own : Nat → Tag} {g : Nat} {nb : List ByteArray → Nat} {T : List Th} {s : ByteArray} (d : Bool) {n m : Nat} {x : ByteArray} {b : Nat} (S0 : Goes w own g nb T s n m x 0 (.pointer (some ⟨b, 0, none⟩))) (hk0 : w.cell? ⟨b, 0, none⟩ = some (.bool false)) :
    Calls Tryd.prog 21 #[.pointer (some ⟨g, 0, none⟩), .string s, .bool d] w fun e w' => e = .returned (.int .i64 6) ∧ Below w.heap.size w w' := by
  have S := Aside0.mk S0
  clear S0
  go_enter Tryd.func21, Tryd.ntmps21
  go_wp2_with (first | (go_at_call 28; (with_reducible refine S.out.split.mono ?_); rintro e w1 ⟨A, c, rfl, hb1, P1⟩) | (go_at_call 32; (with_reducible refine (P1.out _ (Below.refl _ _)).mono ?_); rintro e w2 ⟨A2, c2, rfl, hb2, W1⟩; have HB := Aside0.mk (hb1.trans (hb2.mono hb1.size)); have hk0' := pw_cell_below HB.out hk0) | (go_at_call 33; (with_reducible refine (W1.out _ (Below.refl _ _)).mono ?_); rintro e w3 ⟨rfl, rfl⟩))
  go_ret
  exact ⟨rfl, HB.out⟩
set_option maxHeartbeats 4000000 in
set_option maxRecDepth 100000 in
theorem add_there {w : World} {own : Nat → Tag} {g : Nat} {nb : List ByteArray → Nat} {T : List Th} {s : ByteArray} (d : Bool) {n m : Nat} {x : ByteArray} {b bm b1 : Nat} (S0 : Goes w own g nb T s n m x 0 (.pointer (some ⟨b, 0, none⟩))) (hk0 : w.cell? ⟨b, 0, none⟩ = some (.bool true)) (hk2 : w.cell? ⟨b, 2, none⟩ = some (.map (some bm)))
    (L : Aside0 (∀ w1, Below w.heap.size w w1 → (Instr.lookup 51 (.map (some bm)) (.string x) false).run Tryd.prog w1 = .ok (.pointer (some ⟨b1, 0, none⟩)) w1)) :
    Calls Tryd.prog 21 #[.pointer (some ⟨g, 0, none⟩), .string s, .bool d] w fun e w' => e = .returned (.int .i64 5) ∧ Below w.heap.size w w' := by
  have S := Aside0.mk S0
  clear S0
  go_enter Tryd.func21, Tryd.ntmps21
  go_wp2_with (first | (go_at_call 28; (with_reducible refine S.out.split.mono ?_); rintro e w1 ⟨A, c, rfl, hb1, P1⟩) | (go_at_call 32; (with_reducible refine (P1.out _ (Below.refl _ _)).mono ?_); rintro e w2 ⟨A2, c2, rfl, hb2, W1⟩; have HB := Aside0.mk (hb1.trans (hb2.mono hb1.size)); have hk0' := pw_cell_below HB.out hk0; have hk2' := pw_cell_below HB.out hk2; have hrun := L.out _ HB.out) | (go_at_call 33; (with_reducible refine (W1.out _ (Below.refl _ _)).mono ?_); rintro e w3 ⟨rfl, rfl⟩))
  go_ret
  exact ⟨rfl, HB.out⟩
set_option maxHeartbeats 8000000 in
set_option maxRecDepth 100000 in
theorem add_new {w : World} {own : Nat → Tag} {g : Nat} {nb : List ByteArray → Nat} {T : List Th} {s : ByteArray} (d : Bool) {n m : Nat} {x : ByteArray} {b bm N : Nat} {M : DataW Unit} (S0 : Goes w own g nb T s n m x 0 (.pointer (some ⟨b, 0, none⟩))) (hk0 : w.cell? ⟨b, 0, none⟩ = some (.bool true)) (hk2 : w.cell? ⟨b, 2, none⟩ = some (.map (some bm)))
    (L : Aside0 (∀ w1, Below w.heap.size w w1 → (Instr.lookup 51 (.map (some bm)) (.string x) false).run Tryd.prog w1 = .ok (.pointer none) w1))
    (hM : w.ownsMap Tryd.prog 9 ptrR bm N M) (hN : N < 1000000) (hxs : x.size ≤ maxLen) :
    Calls Tryd.prog 21 #[.pointer (some ⟨g, 0, none⟩), .string s, .bool d] w fun e w' => e = .returned (.int .i64 0) ∧ ∃ w2 w3 gn, Below w.heap.size w w2 ∧ Below w2.heap.size w2 w3 ∧ NewAt w2 w3 gn d ∧ w3.grownBy w' (some bm) ∧ w'.ownsMap Tryd.prog 9 ptrR bm (N + 1) (M.put (strL x) (.lit (.int .i64 (gn : Int)))) := by
  have S := Aside0.mk S0
  have CT := Aside0.mk (tree_thing.calls d)
  have hbl := hM.lt
  have HNE : Aside0 (b ≠ bm) := ⟨fun e => by
    subst e
    obtain ⟨es, ck, h1, _⟩ := hM
    unfold World.cell? at hk0
    rw [h1] at hk0
    simp at hk0⟩
  have K : Aside0 (∀ w3 gn, Below w.heap.size w w3 → ∃ w4, (Instr.mapUpdate 51 (.map (some bm)) (.string x) (.pointer (some ⟨gn, 0, none⟩))).run Tryd.prog w3 = .ok () w4 ∧ w4.ownsMap Tryd.prog 9 ptrR bm (N + 1) (M.put (strL x) (.lit (.int .i64 (gn : Int)))) ∧ w3.grownBy w4 (some bm)) :=
    ⟨fun w3 gn h1 => (map_move hM (h1.block bm hbl)).update law9 Tryd.underlying51 (by unfold maxLen; omega) (Go.WideMaps.keyOf_string_mk Tryd.underlying9 hxs) rfl⟩
  clear S0 hM hN hxs hbl
  go_enter Tryd.func21, Tryd.ntmps21
  go_wp2_with (first | (go_at_call 28; (with_reducible refine S.out.split.mono ?_); rintro e w1 ⟨A, c, rfl, hb1, P1⟩) | (go_at_call 32; (with_reducible refine (P1.out _ (Below.refl _ _)).mono ?_); rintro e w2 ⟨A2, c2, rfl, hb2, W1⟩; have HB := Aside0.mk (hb1.trans (hb2.mono hb1.size)); have hk0' := pw_cell_below HB.out hk0; have hk2' := pw_cell_below HB.out hk2; have hrun := L.out _ HB.out) | (go_at_call 33; (with_reducible refine (W1.out _ (Below.refl _ _)).mono ?_); rintro e w3 ⟨rfl, rfl⟩))
  have hbn : b ≠ bm := HNE.out
  go_region_held3 (fun w' => w'.cell? ⟨b, 2, none⟩ = some (.map (some bm))) (first | assumption | go_keep)
    (first | (go_at_call 20; (with_reducible refine (CT.out _).mono ?_); rintro e w5 ⟨gn, rfl, hn, hb5⟩; have HB5 := Aside0.mk ((below_drew HB.out).trans (hb5.mono HB.out.size)); have hk5 := pw_cell_below hb5 hk2'; obtain ⟨w6, hrun6, hm6, hg6⟩ := K.out _ gn HB5.out; have hk6 : w6.cell? ⟨b, 2, none⟩ = some (.map (some bm)) := (hg6.cell_far _ (World.block_lt_of_cell? w5 _ hk5) (by simpa using hbn)).trans hk5))
  go_wp2_with fail
  go_ret
  exact ⟨rfl, _, _, gn, below_drew HB.out, hb5, hn, hg6, hm6⟩
end Go.Proofs.YtohhlnkdgfgjgaaDoor.P
namespace Go.Proofs.YtohhlnkdgfgjgaaDoor.P
open Go.RowKit Go.Proofs.YtohhlnkdgfgjgaaDoorW.PrintWords Go.Proofs.YtohhlnkdgfgjgaaDoorW.PrintLast Go.Proofs.YtohhlnkdgfgjgaaDoorW.PrintMore
set_option maxHeartbeats 4000000 in
set_option maxRecDepth 100000 in
theorem add_bad {w : World} {g : Nat} {s : ByteArray} (d : Bool) (hs : s.size ≤ 4000) (hc : (cutB s).2 = false) :
    Calls Tryd.prog 21 #[.pointer (some ⟨g, 0, none⟩), .string s, .bool d] w fun e w' => e = .returned (.int .i64 3) ∧ Below w.heap.size w w' := by
  have C1 := Aside0.mk (split_calls s hs w)
  rw [hc] at C1
  simp only [Bool.false_eq_true, if_false] at C1
  generalize (cutB s).1 = ns at *
  clear hc hs
  go_enter Tryd.func21, Tryd.ntmps21
  go_wp2_with (go_at_call 28; (with_reducible refine C1.out.mono ?_); rintro e w1 ⟨A, c, rfl, hcap, hC, hb⟩)
  go_ret
  exact ⟨rfl, hb⟩
set_option maxHeartbeats 4000000 in
set_option maxRecDepth 100000 in
theorem add_root {w : World} {g : Nat} {s : ByteArray} (d : Bool) (hs : s.size ≤ 4000) (hc : (cutB s).2 = true) (hn : (cutB s).1 = []) :
    Calls Tryd.prog 21 #[.pointer (some ⟨g, 0, none⟩), .string s, .bool d] w fun e w' => e = .returned (.int .i64 5) ∧ Below w.heap.size w w' := by
  have C0 := split_calls s hs w
  rw [hc, hn] at C0
  have C1 : Aside0 (Calls Tryd.prog 28 #[.string s] w fun e w' => ∃ (A : Option Addr) (c : Nat), e = .returned (.tuple #[.slice A 0 c, .int .i64 0]) ∧ Below w.heap.size w w') := ⟨C0.mono fun e w' ⟨A, c, he, _, _, hb⟩ => ⟨A, c, he, hb⟩⟩
  have C2 : Aside0 (∀ A c w1, Calls Tryd.prog 32 #[.slice A 0 c] w1 fun e w' => ∃ (A' : Option Addr) (c' : Nat), e = .returned (.tuple #[.slice A' 0 c', .string ⟨#[]⟩, .bool false]) ∧ Below w1.heap.size w1 w') := ⟨parent_calls_nil⟩
  clear hc hs hn C0
  go_enter Tryd.func21, Tryd.ntmps21
  go_wp2_with (first | (go_at_call 28; (with_reducible refine C1.out.mono ?_); rintro e w1 ⟨A, c, rfl, hb⟩) | (go_at_call 32; (with_reducible refine (C2.out A c _).mono ?_); rintro e w2 ⟨A2, c2, rfl, hb2⟩))
  go_ret
  exact ⟨rfl, hb.trans (hb2.mono hb.size)⟩
theorem tree_Tree_add.calls {w : World} {own : Nat → Tag} {g N : Nat} {nb : List ByteArray → Nat} {T : List Th} (h : TreeAt w own g nb N T) (s : ByteArray) (d : Bool) (hs : s.size ≤ 4000) (hN : N < 1000000) :
    Calls Tryd.prog 21 #[.pointer (some ⟨g, 0, none⟩), .string s, .bool d] w fun e w' => e = .returned (.int .i64 (addE T s)) ∧ Left w w' own g nb (N + 1) (addT T s d) := by
  have stay : ∀ {z : Int}, z ≠ 0 → addE T s = z → (Calls Tryd.prog 21 #[.pointer (some ⟨g, 0, none⟩), .string s, .bool d] w fun e w' => e = .returned (.int .i64 z) ∧ Below w.heap.size w w') →
      Calls Tryd.prog 21 #[.pointer (some ⟨g, 0, none⟩), .string s, .bool d] w fun e w' => e = .returned (.int .i64 (addE T s)) ∧ Left w w' own g nb (N + 1) (addT T s d) := by
    intro z hz he hC
    have hT : addT T s d = T := by unfold addT; rw [if_neg (by rw [he]; exact hz)]
    rw [hT, he]
    exact hC.mono fun e w' ⟨h1, h2⟩ => ⟨h1, Left.same h h2⟩
  cases hc : (cutB s).2 with
  | false => exact stay (z := 3) (by decide) (by unfold addE; rw [hc]; rfl) (add_bad d hs hc)
  | true =>
    have hE : addE T s = addF T (cutB s).1 := by unfold addE; rw [hc]; rfl
    rcases List.eq_nil_or_concat (cutB s).1 with hn | ⟨up, x, e0⟩
    · exact stay (z := 5) (by decide) (by rw [hE, hn]; rfl) (add_root d hs hc hn)
    · have e1 : (cutB s).1 = up ++ [x] := by simpa using e0
      obtain ⟨G, hxs⟩ := goes h hs hc e1
      by_cases hgo : goF T [] up = 0
      · obtain ⟨⟨d0, sup⟩, hup⟩ := Option.isSome_iff_exists.1 (goF_at T up [] rfl hgo)
        simp only [List.nil_append] at hup
        obtain ⟨A0, c0, mb, hcell, _, hd0, hd1⟩ := h.cells hup
        rw [walkV_ok hgo, hgo] at G
        have hk0 : w.cell? ⟨nb up, 0, none⟩ = some (.bool d0) := blk_cell hcell 0
        have hk2 : w.cell? ⟨nb up, 2, none⟩ = some (.map mb) := blk_cell hcell 2
        cases d0 with
        | false => exact stay (z := 6) (by decide) (by rw [hE, e1, addF_file hgo (isDir_at hup)]) (add_file d G hk0)
        | true =>
          obtain ⟨_, bm, M, rfl, hbm, hM, hK⟩ := hd1 rfl
          have hF : addE T s = if (look T (up ++ [x])).isSome then 5 else 0 := by rw [hE, e1, addF_is hgo (isDir_at hup)]
          have L : Aside0 (∀ w1, Below w.heap.size w w1 → (Instr.lookup 51 (.map (some bm)) (.string x) false).run Tryd.prog w1 = .ok (ptrOf ((look T (up ++ [x])).map fun _ => nb (up ++ [x]))) w1) :=
            ⟨fun w1 hb => kid_look (map_move hM (hb.block bm (h.lt bm (by rw [hbm]; simp)))) hK x hxs⟩
          cases hl : look T (up ++ [x]) with
          | some y =>
            rw [hl] at L hF
            exact stay (z := 5) (by decide) hF (add_there d G hk0 hk2 L)
          | none =>
            rw [hl] at L hF
            have hF0 : addE T s = 0 := hF
            have hT : addT T s d = T ++ [(up ++ [x], d, [])] := by unfold addT; rw [if_pos hF0, e1]
            rw [hT, hF0]
            refine (add_new d G hk0 hk2 L hM hN hxs).mono fun e w' ⟨he, w2, w3, gn, h1, h2, h3, h4, h5⟩ => ⟨he, ?_⟩
            have hbl := h.lt bm (by rw [hbm]; simp)
            obtain ⟨own', nb', t1, t2, t3⟩ := (h.below h1).adds hup hl h3 h2 (blk_below hcell h1) hbm (map_move hM (h1.block bm hbl)) hK h4 h5
            exact ⟨own', nb', t1, (Touch.of_below h1 own).trans t2, t3⟩
      · exact stay hgo (by rw [hE, e1, addF_goes hgo]) (add_goes d hgo (by rw [walkV_no hgo] at G; exact G))
def AddC (K : Nat) (d : Bool) : Prop := ∀ {w : World} {own : Nat → Tag} {g N : Nat} {nb : List ByteArray → Nat} {T : List Th}, TreeAt w own g nb N T → ∀ s : ByteArray, s.size ≤ 4000 → N < 1000000 →
    Calls Tryd.prog K #[.pointer (some ⟨g, 0, none⟩), .string s] w fun e w' => e = .returned (.int .i64 (addE T s)) ∧ Left w w' own g nb (N + 1) (addT T s d)
set_option maxHeartbeats 4000000 in
set_option maxRecDepth 100000 in
theorem tree_Tree_Create.calls : AddC 8 false := by
  intro w own g N nb T h s hs hN
  have C1 := Aside0.mk (tree_Tree_add.calls h s false hs hN)
  clear h hs hN
  go_enter Tryd.func8, Tryd.ntmps8
  go_wp2_with (go_at_call 21; (with_reducible refine C1.out.mono ?_); rintro e w1 ⟨rfl, hl⟩; have HL := Aside0.mk hl; clear hl)
  go_ret
  exact ⟨rfl, HL.out⟩
set_option maxHeartbeats 4000000 in
set_option maxRecDepth 100000 in
theorem tree_Tree_Mkdir.calls : AddC 18 true := by
  intro w own g N nb T h s hs hN
  have C1 := Aside0.mk (tree_Tree_add.calls h s true hs hN)
  clear h hs hN
  go_enter Tryd.func18, Tryd.ntmps18
  go_wp2_with (go_at_call 21; (with_reducible refine C1.out.mono ?_); rintro e w1 ⟨rfl, hl⟩; have HL := Aside0.mk hl; clear hl)
  go_ret
  exact ⟨rfl, HL.out⟩
end Go.Proofs.YtohhlnkdgfgjgaaDoor.P
namespace Go.Proofs.YtohhlnkdgfgjgaaDoor.P
open Go.RowKit Go.Proofs.YtohhlnkdgfgjgaaDoorW.PrintWords Go.Proofs.YtohhlnkdgfgjgaaDoorW.PrintLast Go.Proofs.YtohhlnkdgfgjgaaDoorW.PrintMore
theorem addr_add (b off j : Nat) : (⟨b, off, none⟩ : Addr).add j = ⟨b, off + j, none⟩ := by
  unfold Addr.add
  by_cases h : j = 0
  · subst h; rfl
  · rw [if_neg h]
/-- A slice of bytes that is read. -/
def RdB (w : World) (A : Option Addr) (n : Nat) (xs : List Int) : Prop :=
  xs.length = n ∧ ((A = none ∧ n = 0) ∨ ∃ b off, A = some ⟨b, off, none⟩ ∧ ∀ (j : Nat) (x : Int), xs[j]? = some x → w.cell? ⟨b, off + j, none⟩ = some (.int .u8 x))
theorem RdB.below {w w' : World} {A : Option Addr} {n : Nat} {xs : List Int} (h : RdB w A n xs) (hb : Below w.heap.size w w') : RdB w' A n xs :=
  ⟨h.1, h.2.imp_right fun ⟨b, off, e, hc⟩ => ⟨b, off, e, fun j x hj => pw_cell_below hb (hc j x hj)⟩⟩
theorem RdB.take {w : World} {A : Option Addr} {n : Nat} {xs : List Int} (h : RdB w A n xs) (k : Nat) (hk : k ≤ n) : RdB w A k (xs.take k) := by
  obtain ⟨h1, h2⟩ := h
  refine ⟨by rw [List.length_take]; omega, ?_⟩
  rcases h2 with ⟨e, h0⟩ | ⟨b, off, e, hc⟩
  · exact .inl ⟨e, by omega⟩
  · refine .inr ⟨b, off, e, fun j x hj => hc j x ?_⟩
    rw [List.getElem?_take] at hj
    split at hj
    · exact hj
    · cases hj
theorem RdB.drop {w : World} {A : Option Addr} {n c : Nat} {xs : List Int} (h : RdB w A n xs) (k : Nat) (hk : k ≤ n) (hc : n ≤ c) : RdB w (if c = k then A else A.map (·.add k)) (n - k) (xs.drop k) := by
  obtain ⟨h1, h2⟩ := h
  refine ⟨by rw [List.length_drop, h1], ?_⟩
  rcases h2 with ⟨e, h0⟩ | ⟨b, off, e, hcell⟩
  · subst e
    exact .inl ⟨by split <;> rfl, by omega⟩
  · subst e
    by_cases e1 : c = k
    · rw [if_pos e1]
      refine .inr ⟨b, off, rfl, fun j x hj => ?_⟩
      have hl := (List.getElem?_eq_some_iff.1 hj).1
      rw [List.length_drop] at hl
      omega
    · rw [if_neg e1]
      refine .inr ⟨b, off + k, ?_, fun j x hj => ?_⟩
      · show some ((⟨b, off, none⟩ : Addr).add k) = _
        unfold Addr.add
        by_cases hk0 : k = 0
        · subst hk0; rfl
        · rw [if_neg hk0]
      · rw [List.getElem?_drop] at hj
        have := hcell (k + j) x hj
        rwa [← Nat.add_assoc] at this
theorem owns_cellsB {w : World} {base n b c : Nat} {xs : List Int} (h : w.ownsRow base 5 1 (.slice (some ⟨b, 0, none⟩) n c) n (xs.map (Value.int .u8))) (j : Nat) (x : Int) (hj : xs[j]? = some x) : w.cell? ⟨b, 0 + j, none⟩ = some (.int .u8 x) := by
  rcases h.2 with ⟨e1, _⟩ | ⟨g, cap, cur, e1, _, hh, _, _, _, hcur⟩
  · cases e1
  · cases e1
    rw [Nat.zero_add, blk_cell hh j, ← Array.getElem?_toList]
    have hj' : (xs.map (Value.int .u8))[j]? = some (.int .u8 x) := by rw [List.getElem?_map, hj]; rfl
    rw [← hcur, List.getElem?_take] at hj'
    split at hj'
    · exact hj'
    · cases hj'
theorem RdB.of_own {w : World} {base n c : Nat} {A : Option Addr} {xs : List Int} (h : w.ownsRow base 5 1 (.slice A n c) n (xs.map (Value.int .u8))) : RdB w A n xs ∧ n ≤ c := by
  have hl : xs.length = n := by simpa using h.1
  have h0 := h
  rcases h.2 with ⟨e1, rfl⟩ | ⟨g, cap, cur, e1, _, hh, hc, _⟩
  · cases e1
    exact ⟨⟨hl, .inl ⟨rfl, rfl⟩⟩, by omega⟩
  · cases e1
    exact ⟨⟨hl, .inr ⟨g, 0, rfl, fun j x hj => owns_cellsB h0 j x hj⟩⟩, hc⟩
theorem info5 : (Tryd.prog.info? 5).map (fun i => (i.zero, i.size, i.bytes)) = some (some (.int .u8 0), 1, 1) := by kernel_rfl
def Tryd.laysClB_ren : Go.Shelf.Ren := ⟨fun | 41 => 24 | n => n, fun | 22 => 23 | 23 => 5 | 4 => 4 | n => n, fun | n => n⟩
theorem Tryd.laysClB : Go.Proofs.SlLaysE0.n41 Tryd.prog Tryd.laysClB_ren := {
  mixed := by kernel_rfl
  f41 := ⟨Tryd.f24.name, by decide, Tryd.func24.trans (congrArg some (by kernel_rfl))⟩
  t4 := Tryd.underlying4
  a4 := Tryd.isAgg4
  z4 := Tryd.sizeOf4
  v4 := Tryd.zeroValue4
  t22 := Tryd.underlying23
  a22 := Tryd.isAgg23
  z22 := Tryd.sizeOf23
  v22 := Tryd.zeroValue23 }
theorem cloneB {w : World} {n : Nat} {A : Option Addr} {xs : List Int} (h : RdB w A n xs) (c : Nat) (hn : n < 1000000000) :
    Calls Tryd.prog 24 #[.slice A n c] w fun e w' => ∃ (A' : Option Addr) (c' : Nat), e = .returned (.slice A' n c') ∧ w'.ownsRow w.heap.size 5 1 (.slice A' n c') n (xs.map (Value.int .u8)) ∧ Below w.heap.size w w' := by
  obtain ⟨i0, hi, hzz⟩ := Option.map_eq_some_iff.1 info5
  simp only [Prod.mk.injEq] at hzz
  obtain ⟨hz0, hz1, hz2⟩ := hzz
  obtain ⟨hlen, h2⟩ := h
  rcases h2 with ⟨rfl, rfl⟩ | ⟨b, off, rfl, hc⟩
  · have hx : xs = [] := List.eq_nil_of_length_eq_zero hlen
    subst hx
    refine (AnyE.slices_Clone_nil Tryd.laysClB 0 c w).mono fun e w' ⟨he, hw⟩ => ⟨_, _, he, ⟨rfl, .inl ⟨rfl, rfl⟩⟩, ?_⟩
    rw [hw]; exact Below.refl _ _
  · refine (AnyE.slices_Clone Tryd.laysClB i0 _ 1 1 hi hz0 hz1 hz2 rfl (by decide) (fun w => by kernel_rfl) b off n c (xs.map (Value.int .u8)) w (by simp [hlen]) (by unfold maxLen; omega) (by omega) (fun j u hj => ?_) (fun u hu => ?_)).mono fun e w' ⟨v', he, ho, _, hb⟩ => ?_
    · rw [List.getElem?_map] at hj
      obtain ⟨x, hx, rfl⟩ := Option.map_eq_some_iff.1 hj
      exact hc j x hx
    · obtain ⟨x, _, rfl⟩ := List.mem_map.1 hu
      rfl
    · obtain ⟨A', c', rfl⟩ := owns_slice ho
      exact ⟨A', c', he, ho, hb⟩
/-! A thing's bytes are others. -/
def setT (T : List Th) (p : List ByteArray) (s : List Int) : List Th := T.map fun x => if x.1 = p then (x.1, x.2.1, s) else x
theorem setT_names (T : List Th) (p : List ByteArray) (s : List Int) : (setT T p s).map (·.1) = T.map (·.1) := by
  unfold setT
  rw [List.map_map]
  apply List.map_congr_left
  intro x _
  simp only [Function.comp]
  split <;> rfl
theorem look_setT (p : List ByteArray) (s : List Int) (q : List ByteArray) : ∀ T : List Th, look (setT T p s) q = (look T q).map fun y => if q = p then (y.1, s) else y
  | [] => rfl
  | (r, y) :: T => by
    have ih := look_setT p s q T
    unfold setT at ih ⊢
    rw [List.map_cons]
    by_cases h : r = p
    · subst h
      rw [if_pos rfl, look, look]
      by_cases h2 : r = q
      · subst h2; simp
      · rw [if_neg h2, if_neg h2]; exact ih
    · rw [if_neg h, look, look]
      by_cases h2 : r = q
      · subst h2; simp [h]
      · rw [if_neg h2, if_neg h2]; exact ih
theorem TreeAt.turn {w w' : World} {own : Nat → Tag} {g N : Nat} {nb : List ByteArray → Nat} {T : List Th} (h : TreeAt w own g nb N T) {p : List ByteArray} {s s' : List Int} (hp : at' T p = some (false, s)) {v' : Value}
    (hz : w.heap.size ≤ w'.heap.size) (hn : w'.heap[nb p]? = some (.cells #[.bool false, v', .map none] 53 (0, 0))) (ho : w'.ownsRow 0 5 1 v' s'.length (s'.map (Value.int .u8)))
    (hk : ∀ b, own b ≠ .no → own b ≠ .row p → b ≠ nb p → w'.heap[b]? = w.heap[b]?) (hv : ∀ b, v'.ownBlock = some b → own b = .row p ∨ own b = .no) :
    ∃ own', TreeAt w' own' g nb N (setT T p s') ∧ ∀ b, own' b ≠ .no → own b ≠ .no ∨ v'.ownBlock = some b := by
  have hp0 : p ≠ [] := fun e => by subst e; rw [at_nil] at hp; cases hp
  let own' : Nat → Tag := fun b => if v'.ownBlock = some b then .row p else own b
  have hsame : ∀ b, own b ≠ .no → own b ≠ .row p → own' b = own b := fun b h1 h2 => by
    show (if v'.ownBlock = some b then Tag.row p else own b) = own b
    rw [if_neg]
    intro e
    rcases hv b e with e | e
    · exact h2 e
    · exact h1 e
  have hself : own' g = .self := by rw [hsame g (by rw [h.self]; simp) (by rw [h.self]; simp)]; exact h.self
  have hlies := (h.node p false s hp).1
  have hat : ∀ q, at' (setT T p s') q = (at' T q).map fun y => if q = p then (y.1, s') else y := fun q => by
    by_cases e : q = []
    · subst e
      rw [at_nil, at_nil, Option.map_some, if_neg (Ne.symm hp0)]
    · rw [at_cons _ e, at_cons _ e, look_setT]
  have hsome : ∀ q, (look (setT T p s') q).isSome = (look T q).isSome := fun q => by rw [look_setT, Option.isSome_map]
  refine ⟨own', ⟨?_, hself, ?_, ?_, ?_, ?_, ?_⟩, ?_⟩
  · intro b hb
    by_cases e : v'.ownBlock = some b
    · exact owns_block ho e
    · have : own b ≠ .no := by
        intro e2
        apply hb
        show (if v'.ownBlock = some b then Tag.row p else own b) = .no
        rw [if_neg e, e2]
      exact Nat.lt_of_lt_of_le (h.lt b this) hz
  · rw [hk g (by rw [h.self]; simp) (by rw [h.self]; simp) (fun e => by have := h.self; rw [e, hlies] at this; cases this)]; exact h.top
  · rw [setT_names]; exact h.nod
  · intro x hx
    have : x.1 ∈ (setT T p s').map (·.1) := List.mem_map_of_mem hx
    rw [setT_names] at this
    obtain ⟨y, hy, e⟩ := List.mem_map.1 this
    rw [← e]
    exact h.nn y hy
  · intro q y hq
    rw [hsome] at hq
    obtain ⟨sq, hsq⟩ := h.par q y hq
    have hqp : q ≠ p := fun e => by subst e; rw [hp] at hsq; cases hsq
    exact ⟨sq, by rw [hat, hsq, Option.map_some, if_neg hqp]⟩
  · intro q d sq hq
    by_cases e : q = p
    · subst e
      rw [hat, hp, Option.map_some, if_pos rfl] at hq
      cases hq
      exact ⟨by rw [hsame _ (by rw [hlies]; simp) (by rw [hlies]; simp)]; exact hlies, v', none, hn, ho, (fun b hb => if_pos hb), (fun _ => rfl), fun hd => by cases hd⟩
    · have hq' : at' T q = some (d, sq) := by
        rw [hat] at hq
        cases hl : at' T q with
        | none => rw [hl] at hq; cases hq
        | some y => rw [hl, Option.map_some, if_neg e] at hq; exact hq
      refine (h.node q d sq hq').move (Nat.le_refl _) (fun b hb => ?_) rfl (fun x => hsome _) (fun _ _ => rfl)
      have h1 : own b ≠ .no := by rcases hb with e' | e' | e' <;> rw [e'] <;> simp
      have h2 : own b ≠ .row p := by
        rcases hb with e' | e' | e' <;> rw [e'] <;> simp
        exact e
      refine ⟨hk b h1 h2 (fun e' => ?_), hsame b h1 h2⟩
      subst e'
      rw [hlies] at hb
      rcases hb with e' | e' | e' <;> simp at e'
      exact e e'.symm
  · intro b hb
    by_cases e : v'.ownBlock = some b
    · exact .inr e
    · left
      intro e2
      apply hb
      show (if v'.ownBlock = some b then Tag.row p else own b) = .no
      rw [if_neg e, e2]
end Go.Proofs.YtohhlnkdgfgjgaaDoor.P
namespace Go.Proofs.YtohhlnkdgfgjgaaDoor.P
open Go.RowKit Go.Proofs.YtohhlnkdgfgjgaaDoorW.PrintWords Go.Proofs.YtohhlnkdgfgjgaaDoorW.PrintLast Go.Proofs.YtohhlnkdgfgjgaaDoorW.PrintMore
/-- A builtin append whose run is known, as one step of a region that draws. -/
theorem step_append_run {P : Program} {ops : Array Oper} {o : Oper} {a : Act} {w w' : World} {K : Act → World → Prop} {Q : Exit → Act → World → Prop} {E : Prop}
    (hg : o.guard = none) (s x : Operand) (t ti : TypeId) (hop : o.op = Op.call { callee := Callee.builtin Builtin.append, args := #[s, x], argTypes := #[t, ti] })
    {sv xv v' : Value} (hrun : (Builtin.append_ #[t, ti] o.type #[sv, xv]).run P w = .ok v' w') (hs : a.eval s = sv) (hx : a.eval x = xv)
    (hK : K (a.put o.dst v') w') : if Region.wanted o (yielded ops a.tmps) = true then Oper.wp P o a w K Q else E := by
  have hw : Region.wanted o (yielded ops a.tmps) = true := by simp [Region.wanted, hg]
  rw [if_pos hw]
  unfold Oper.wp
  simp [execOp, hop, resolve, invoke, builtin, hs, hx, hrun, Result.andThen]
  exact hK
theorem zeros_are (m : Nat) : (Builtin.zeroCells (Value.int .u8 0).cells m).toList = (List.replicate m (0 : Int)).map (Value.int .u8) := by
  simp only [Builtin.zeroCells, Value.cells]
  refine List.ext_getElem (by simp) (fun i h1 h2 => ?_)
  simp [Nat.mod_one]
def sized (s : List Int) (k : Nat) : List Int := s.take k ++ List.replicate (k - s.length) 0
theorem sized_length (s : List Int) (k : Nat) : (sized s k).length = k := by simp [sized]; omega
/-- What a turned file leaves. -/
def Turned (w w' : World) (own : Nat → Tag) (g : Nat) (nb : List ByteArray → Nat) (N : Nat) (T : List Th) : Prop := ∃ own', TreeAt w' own' g nb N T ∧ Touch w w' own own'
theorem turned_store {w w1 : World} {own : Nat → Tag} {g N : Nat} {nb : List ByteArray → Nat} {T : List Th} (h : TreeAt w own g nb N T) {p : List ByteArray} {s s' : List Int} (hp : at' T p = some (false, s)) {v0 v' : Value} (hb : Below w.heap.size w w1)
    (hcell : w.heap[nb p]? = some (.cells #[.bool false, v0, .map none] 53 (0, 0))) (ho : w1.ownsRow w.heap.size 5 1 v' s'.length (s'.map (Value.int .u8))) : Turned w (w1.setCell ⟨nb p, 1, none⟩ v') own g nb N (setT T p s') := by
  have hlies := (h.node p false s hp).1
  have hfresh : ∀ b, w.heap.size ≤ b → own b = .no := fun b hb' => by
    rcases Classical.em (own b = .no) with e | e
    · exact e
    · have := h.lt b e
      omega
  have hvb : ∀ b, v'.ownBlock = some b → w.heap.size ≤ b := fun b hb' => by
    rcases ho.2 with ⟨rfl, _⟩ | ⟨g', cap, cur, rfl, hg', _⟩
    · cases hb'
    · have : g' = b := by simpa [Value.ownBlock] using hb'
      omega
  have hne : ∀ b, v'.ownBlock = some b → b ≠ nb p := fun b hb' e => by
    have := hvb b hb'
    have := blk_lt hcell
    omega
  obtain ⟨own', hT, hm⟩ := h.turn (w' := w1.setCell ⟨nb p, 1, none⟩ v') (s' := s') (v' := v') hp (by rw [setCell_size]; exact hb.size) (blk_put (blk_below hcell hb) 1 _ rfl)
    (own_move (own_base' ho (Nat.zero_le _)) (fun b hb' => Below.heap_setCell w1 ⟨nb p, 1, none⟩ v' b (hne b hb'))) (fun b h1 h2 h3 => (Below.heap_setCell w1 ⟨nb p, 1, none⟩ v' b h3).trans (hb.block b (h.lt b h1))) (fun b hb' => .inr (hfresh b (hvb b hb')))
  refine ⟨own', hT, ?_⟩
  have ht := (Touch.of_below hb own).set (g := nb p) (.inl (by rw [hlies]; simp)) 1 v'
  exact ⟨ht.z, ht.kept, fun b hb' => (hm b hb').imp_right (hvb b)⟩
set_option maxHeartbeats 4000000 in
set_option maxRecDepth 100000 in
theorem size_less {w : World} {b n c : Nat} {A : Option Addr} {xs : List Int} (hcell : w.heap[b]? = some (.cells #[.bool false, .slice A n c, .map none] 53 (0, 0))) (hx : RdB w A n xs) (hnc : n ≤ c) (k : Nat) (hk : k ≤ n) (hn : n ≤ 300000000) :
    Calls Tryd.prog 23 #[.pointer (some ⟨b, 0, none⟩), .int .i64 k] w fun e w' => e = .returned (.tuple #[]) ∧ ∃ w1 v', w' = w1.setCell ⟨b, 1, none⟩ v' ∧ Below w.heap.size w w1 ∧ w1.ownsRow w.heap.size 5 1 v' k ((xs.take k).map (Value.int .u8)) := by
  have C := Aside0.mk (cloneB (hx.take k hk) c (by omega))
  have hc1 : w.cell? ⟨b, 1, none⟩ = some (.slice A n c) := blk_cell hcell 1
  have HC := Aside0.mk hcell
  have d0 : decide ((0 : Int) ≤ (k : Int)) = true := decide_eq_true (by omega)
  have d1 : decide ((k : Int) ≤ (c : Int)) = true := decide_eq_true (by omega)
  have d2 : decide ((k : Int) ≤ (n : Int)) = true := decide_eq_true (by omega)
  have e1 : (k : Int) ≤ (c : Int) := by omega
  have e2 : (k : Int) ≤ (n : Int) := by omega
  have e3 : k ≤ c := by omega
  clear hcell hx hk hn
  go_enter Tryd.func23, Tryd.ntmps23
  go_wp2_with (go_at_call 24; (with_reducible refine C.out.mono ?_); rintro e w1 ⟨A', c', rfl, ho, hb⟩; have HO := Aside0.mk ho; clear ho; have hf1 := blk_frozen (blk_below HC.out hb) 1; have hc1' := pw_cell_below hb hc1)
  go_end0
  exact ⟨rfl, w1, _, rfl, hb, HO.out⟩
set_option maxHeartbeats 4000000 in
set_option maxRecDepth 100000 in
theorem size_more {w : World} {b n c : Nat} {A : Option Addr} {xs : List Int} (hcell : w.heap[b]? = some (.cells #[.bool false, .slice A n c, .map none] 53 (0, 0))) (hx : RdB w A n xs) (_hnc : n ≤ c) (k : Nat) (hk : n < k) (hn : k ≤ 300000000) :
    Calls Tryd.prog 23 #[.pointer (some ⟨b, 0, none⟩), .int .i64 k] w fun e w' => e = .returned (.tuple #[]) ∧ ∃ w1 v', w' = w1.setCell ⟨b, 1, none⟩ v' ∧ Below w.heap.size w w1 ∧ w1.ownsRow w.heap.size 5 1 v' k ((xs ++ List.replicate (k - n) 0).map (Value.int .u8)) := by
  have C : Aside0 (∀ w0, Below w.heap.size w w0 → Calls Tryd.prog 24 #[.slice A n c] w0 fun e w' => ∃ (A' : Option Addr) (c' : Nat), e = .returned (.slice A' n c') ∧ w'.ownsRow w0.heap.size 5 1 (.slice A' n c') n (xs.map (Value.int .u8)) ∧ Below w0.heap.size w0 w') := ⟨fun w0 hb => cloneB (hx.below hb) c (by omega)⟩
  have hc1 : w.cell? ⟨b, 1, none⟩ = some (.slice A n c) := blk_cell hcell 1
  have HC := Aside0.mk hcell
  have HBL := Aside0.mk (blk_lt hcell)
  have d2 : decide ((k : Int) ≤ (n : Int)) = false := decide_eq_false (by omega)
  have e2 : ¬ (k : Int) ≤ (n : Int) := by omega
  have e3 : IntKind.i64.wrap ((k : Int) - (n : Int)) = ((k - n : Nat) : Int) := by rw [IntKind.wrap_i64]; omega
  have e4 : wrap64 ((k : Int) - (n : Int)) = ((k - n : Nat) : Int) := by unfold wrap64; omega
  have R : Aside0 (∀ (w1 : World) (v : Value) (base : Nat), w1.ownsRow base 5 1 v n (xs.map (Value.int .u8)) → base ≤ w1.heap.size → ∃ v' w', (Builtin.append_ #[23, 3] 23 #[v, .int .i64 ((k - n : Nat) : Int)]).run Tryd.prog w1 = .ok v' w' ∧ w'.ownsRow base 5 1 v' k ((xs ++ List.replicate (k - n) 0).map (Value.int .u8)) ∧ w1.grownBy w' v.ownBlock ∧ (v'.ownBlock = v.ownBlock ∨ v'.ownBlock = some w1.heap.size)) := ⟨fun w1 v base ho hbase => by
    obtain ⟨i0, hi, hzz⟩ := Option.map_eq_some_iff.1 info5
    simp only [Prod.mk.injEq] at hzz
    obtain ⟨hz0, hz1, hz2⟩ := hzz
    obtain ⟨v', w', h1, h2, h3, h4⟩ := run_append_zeros (P := Tryd.prog) w1 base 23 3 23 5 i0 _ 1 1 Tryd.underlying23 Tryd.underlying3 hi hz0 hz1 hz2 rfl (by decide) (by decide) v n _ ho .i64 (k - n) (fun u hu => by rw [zeros_are] at hu; obtain ⟨x, _, rfl⟩ := List.mem_map.1 hu; rfl) (by omega) hbase
    refine ⟨v', w', h1, ?_, h3, h4⟩
    have e5 : n + (k - n) = k := by omega
    rw [e5] at h2
    rw [List.map_append]
    rw [zeros_are] at h2
    exact h2⟩
  clear hcell hx hk hn
  go_enter Tryd.func23, Tryd.ntmps23
  go_wp2_with fail
  go_region_law (first | (refine step_append_run rfl (.tmp 26) (.tmp 33) 23 3 rfl hrun (by simp [Act.eval, Act.put]) (by simp [Act.eval, Act.put]) ?_) | (go_simp; (go_at_call 24; (with_reducible refine (C.out _ (below_drew (Below.refl _ _))).mono ?_); rintro e w1 ⟨A', c', rfl, ho, hb0⟩; have hb : Below w.heap.size w w1 := (below_drew (Below.refl w.heap.size w)).trans hb0; have hc1' := pw_cell_below hb hc1; obtain ⟨v6, w6, hrun, ho6, hg6, hat6⟩ := R.out w1 _ w.heap.size ho hb.size; obtain ⟨A6, c6, rfl⟩ := owns_slice ho6; have hb6 : w6.heap[b]? = some (.cells #[.bool false, .slice A n c, .map none] 53 (0, 0)) := (hg6.block b (Nat.lt_of_lt_of_le HBL.out hb.size) (fun e => by have h3 : w.heap.size ≤ b := own_base ho b e.symm; have := HBL.out; omega)).trans (blk_below HC.out hb); have hf6 := blk_frozen hb6 1; have hc6 := blk_cell hb6 1; simp at hc6; have HO6 := Aside0.mk ho6; have HB6 := Aside0.mk hb6; have HW6 : Aside0 (Below w.heap.size w w6) := ⟨hb.grown hg6 hb.size (fun k hk => own_base ho k hk)⟩; clear ho6 hb6 ho)))
  all_goals go_wp2_with fail
  all_goals go_end0
  all_goals exact ⟨rfl, w6, _, rfl, HW6.out, HO6.out⟩
theorem node_size.calls {w : World} {own : Nat → Tag} {g N : Nat} {nb : List ByteArray → Nat} {T : List Th} (h : TreeAt w own g nb N T) {p : List ByteArray} {s : List Int} (hp : at' T p = some (false, s)) (k : Nat) (hk : k ≤ 300000000) (hs : s.length ≤ 300000000) :
    Calls Tryd.prog 23 #[.pointer (some ⟨nb p, 0, none⟩), .int .i64 k] w fun e w' => e = .returned (.tuple #[]) ∧ Turned w w' own g nb N (setT T p (sized s k)) := by
  obtain ⟨A, c, mb, hb, ho, hd, _⟩ := h.cells hp
  obtain rfl := hd rfl
  obtain ⟨hR, hc⟩ := RdB.of_own ho
  rcases Nat.lt_or_ge s.length k with h1 | h1
  · refine (size_more hb hR hc k h1 hk).mono fun e w' ⟨he, w1, v', hw, hbl, ho'⟩ => ⟨he, ?_⟩
    rw [hw]
    have e1 : s ++ List.replicate (k - s.length) 0 = sized s k := by unfold sized; rw [List.take_of_length_le (by omega)]
    rw [e1] at ho'
    exact turned_store h hp hbl hb (by rw [sized_length]; exact ho')
  · refine (size_less hb hR hc k h1 hs).mono fun e w' ⟨he, w1, v', hw, hbl, ho'⟩ => ⟨he, ?_⟩
    rw [hw]
    have e1 : s.take k = sized s k := by unfold sized; rw [show k - s.length = 0 by omega]; simp
    rw [e1] at ho'
    exact turned_store h hp hbl hb (by rw [sized_length]; exact ho')
end Go.Proofs.YtohhlnkdgfgjgaaDoor.P
namespace Go.Proofs.YtohhlnkdgfgjgaaDoor.P
open Go.RowKit Go.Proofs.YtohhlnkdgfgjgaaDoorW.PrintWords Go.Proofs.YtohhlnkdgfgjgaaDoorW.PrintLast Go.Proofs.YtohhlnkdgfgjgaaDoorW.PrintMore
attribute [local go_sem] min2_int min_two max2_int max_two
def writeE (T : List Th) (s : ByteArray) (k : Int) (n : Nat) : Int := if fileE T s ≠ 0 then fileE T s else if k < 0 ∨ 268435456 < k ∨ 268435456 - k < n then 9 else 0
def written (s : List Int) (k : Nat) (xs : List Int) : List Int := splice (sized s (max s.length (k + xs.length))) k xs
theorem written_length (s : List Int) (k : Nat) (xs : List Int) : (written s k xs).length = max s.length (k + xs.length) := by
  unfold written
  rw [length_splice _ _ _ (by rw [sized_length]; omega), sized_length]
def bytesAt (T : List Th) (p : List ByteArray) : List Int := match at' T p with | some (_, s) => s | none => []
def writeT (T : List Th) (s : ByteArray) (k : Int) (xs : List Int) : List Th := if writeE T s k xs.length = 0 ∧ xs ≠ [] then setT T (cutB s).1 (written (bytesAt T (cutB s).1) k.toNat xs) else T
section
variable {w : World} {own : Nat → Tag} {g N : Nat} {nb : List ByteArray → Nat} {T : List Th}
set_option maxHeartbeats 4000000 in
set_option maxRecDepth 100000 in
theorem write_err (h : TreeAt w own g nb N T) (s : ByteArray) (hs : s.size ≤ 4000) (k : Int) (A : Option Addr) (n c : Nat) (hf : fileE T s ≠ 0) :
    Calls Tryd.prog 9 #[.pointer (some ⟨g, 0, none⟩), .string s, .int .i64 k, .slice A n c] w fun e w' => e = .returned (.int .i64 (fileE T s)) ∧ Below w.heap.size w w' := by
  have C1 := tree_Tree_file.calls h s hs
  rw [decide_eq_false hf] at C1
  simp only [ptrIf, Bool.false_eq_true, if_false] at C1
  have hne : (fileE T s == 0) = false := by simpa using hf
  have hne2 : (fileE T s != 0) = true := by simpa using hf
  generalize fileE T s = z at *
  have C := Aside0.mk C1
  clear C1 hf h hs
  go_enter Tryd.func9, Tryd.ntmps9
  go_wp2_with (go_at_call 22; (with_reducible refine C.out.mono ?_); rintro e w1 ⟨rfl, hb⟩)
  go_ret
  exact ⟨rfl, hb⟩
theorem file_ok (h : TreeAt w own g nb N T) (s : ByteArray) (hs : s.size ≤ 4000) (hf : fileE T s = 0) :
    Calls Tryd.prog 22 #[.pointer (some ⟨g, 0, none⟩), .string s] w fun e w' => e = .returned (.tuple #[.pointer (some ⟨nb (cutB s).1, 0, none⟩), .int .i64 0]) ∧ Below w.heap.size w w' := by
  have C1 := tree_Tree_file.calls h s hs
  rw [hf, decide_eq_true rfl] at C1
  exact C1
set_option maxHeartbeats 4000000 in
set_option maxRecDepth 100000 in
theorem write_neg (h : TreeAt w own g nb N T) (s : ByteArray) (hs : s.size ≤ 4000) (k : Int) (A : Option Addr) (n c : Nat) (hf : fileE T s = 0) (hk : k < 0) :
    Calls Tryd.prog 9 #[.pointer (some ⟨g, 0, none⟩), .string s, .int .i64 k, .slice A n c] w fun e w' => e = .returned (.int .i64 9) ∧ Below w.heap.size w w' := by
  have C := Aside0.mk (file_ok h s hs hf)
  generalize nb (cutB s).1 = b at *
  have d0 : decide (k < 0) = true := decide_eq_true hk
  clear h hs hf
  go_enter Tryd.func9, Tryd.ntmps9
  go_wp2_with (go_at_call 22; (with_reducible refine C.out.mono ?_); rintro e w1 ⟨rfl, hb⟩)
  all_goals (go_ret; exact ⟨rfl, hb⟩)
set_option maxHeartbeats 4000000 in
set_option maxRecDepth 100000 in
theorem write_far (h : TreeAt w own g nb N T) (s : ByteArray) (hs : s.size ≤ 4000) (k : Int) (A : Option Addr) (n c : Nat) (hf : fileE T s = 0) (_hk0 : 0 ≤ k) (hk : 268435456 < k) :
    Calls Tryd.prog 9 #[.pointer (some ⟨g, 0, none⟩), .string s, .int .i64 k, .slice A n c] w fun e w' => e = .returned (.int .i64 9) ∧ Below w.heap.size w w' := by
  have C := Aside0.mk (file_ok h s hs hf)
  generalize nb (cutB s).1 = b at *
  have d0 : decide (k < 0) = false := decide_eq_false (by omega)
  have d1 : decide (268435456 < k) = true := decide_eq_true hk
  clear h hs hf
  go_enter Tryd.func9, Tryd.ntmps9
  go_wp2_with (go_at_call 22; (with_reducible refine C.out.mono ?_); rintro e w1 ⟨rfl, hb⟩)
  all_goals (go_ret; exact ⟨rfl, hb⟩)
set_option maxHeartbeats 4000000 in
set_option maxRecDepth 100000 in
theorem write_long (h : TreeAt w own g nb N T) (s : ByteArray) (hs : s.size ≤ 4000) (k : Int) (A : Option Addr) (n c : Nat) (hf : fileE T s = 0) (hk0 : 0 ≤ k) (hk : k ≤ 268435456) (hn : 268435456 - k < n) :
    Calls Tryd.prog 9 #[.pointer (some ⟨g, 0, none⟩), .string s, .int .i64 k, .slice A n c] w fun e w' => e = .returned (.int .i64 9) ∧ Below w.heap.size w w' := by
  have C := Aside0.mk (file_ok h s hs hf)
  generalize nb (cutB s).1 = b at *
  have d0 : decide (k < 0) = false := decide_eq_false (by omega)
  have d1 : decide (268435456 < k) = false := decide_eq_false (by omega)
  have d2 : decide (268435456 - k < (n : Int)) = true := decide_eq_true hn
  clear h hs hf
  go_enter Tryd.func9, Tryd.ntmps9
  go_wp2_with (go_at_call 22; (with_reducible refine C.out.mono ?_); rintro e w1 ⟨rfl, hb⟩)
  all_goals (go_ret; exact ⟨rfl, hb⟩)
set_option maxHeartbeats 4000000 in
set_option maxRecDepth 100000 in
theorem write_none (h : TreeAt w own g nb N T) (s : ByteArray) (hs : s.size ≤ 4000) (k : Int) (A : Option Addr) (c : Nat) (hf : fileE T s = 0) (hk0 : 0 ≤ k) (hk : k ≤ 268435456) :
    Calls Tryd.prog 9 #[.pointer (some ⟨g, 0, none⟩), .string s, .int .i64 k, .slice A 0 c] w fun e w' => e = .returned (.int .i64 0) ∧ Below w.heap.size w w' := by
  have C := Aside0.mk (file_ok h s hs hf)
  generalize nb (cutB s).1 = b at *
  have d0 : decide (k < 0) = false := decide_eq_false (by omega)
  have d1 : decide (268435456 < k) = false := decide_eq_false (by omega)
  have d2 : decide (268435456 - k < 0) = false := decide_eq_false (by omega)
  clear h hs hf
  go_enter Tryd.func9, Tryd.ntmps9
  go_wp2_with (go_at_call 22; (with_reducible refine C.out.mono ?_); rintro e w1 ⟨rfl, hb⟩)
  all_goals (go_ret; exact ⟨rfl, hb⟩)
end
end Go.Proofs.YtohhlnkdgfgjgaaDoor.P
namespace Go.Proofs.YtohhlnkdgfgjgaaDoor.P
open Go.RowKit Go.Proofs.YtohhlnkdgfgjgaaDoorW.PrintWords Go.Proofs.YtohhlnkdgfgjgaaDoorW.PrintLast Go.Proofs.YtohhlnkdgfgjgaaDoorW.PrintMore
attribute [local go_sem] min2_int min_two max2_int max_two
section
variable {w : World} {own : Nat → Tag} {g N : Nat} {nb : List ByteArray → Nat} {T : List Th}
theorem setT_at {T : List Th} {p : List ByteArray} {s s' : List Int} (h : at' T p = some (false, s)) : at' (setT T p s') p = some (false, s') := by
  have hp0 : p ≠ [] := fun e => by subst e; rw [at_nil] at h; cases h
  rw [at_cons _ hp0] at h ⊢
  rw [look_setT, h, Option.map_some, if_pos rfl]
theorem setT_setT (T : List Th) (p : List ByteArray) (s s' : List Int) : setT (setT T p s) p s' = setT T p s' := by
  unfold setT
  rw [List.map_map]
  apply List.map_congr_left
  intro x _
  simp only [Function.comp]
  by_cases h : x.1 = p
  · rw [if_pos h, if_pos (by exact h), if_pos h]
  · rw [if_neg h, if_neg h]
theorem own_row {w : World} {base n c : Nat} {A : Option Addr} {xs : List Value} (h : w.ownsRow base 5 1 (.slice A n c) n xs) (hn : 0 < n) : ∃ (g : Nat) (cur : Array Value), A = some ⟨g, 0, none⟩ ∧ w.heap[g]? = some (.cells cur 5 (0, 0)) ∧ n ≤ c ∧ c ≤ maxLen ∧ cur.size = c ∧ cur.toList.take n = xs ∧ base ≤ g := by
  rcases h.2 with ⟨e, h0⟩ | ⟨g, cap, cur, e, hg, hh, hc, hm, hcs, hcur⟩
  · omega
  · cases e
    exact ⟨g, cur, rfl, hh, hc, hm, by simpa using hcs, by simpa using hcur, hg⟩
theorem map_splice {α β : Type} (f : α → β) (L : List α) (k : Nat) (cs : List α) : (splice L k cs).map f = splice (L.map f) k (cs.map f) := by
  unfold splice
  simp [List.map_take, List.map_drop]
theorem splice_take {α : Type} (L : List α) (m k : Nat) (cs : List α) (h : k + cs.length ≤ m) : (L.take k ++ (cs ++ L.drop (k + cs.length))).take m = splice (L.take m) k cs := by
  unfold splice
  rw [List.take_take, Nat.min_eq_left (by omega), List.drop_take]
  rcases Nat.le_total L.length k with h1 | h1
  · rw [List.take_of_length_le h1, List.drop_of_length_le (by omega)]
    simp only [List.take_nil, List.append_nil]
    rw [List.take_of_length_le (by simp; omega)]
  · rw [← List.append_assoc, List.take_append, List.take_of_length_le (l := L.take k ++ cs) (by rw [List.length_append, List.length_take]; omega), List.append_assoc, List.length_append, List.length_take, Nat.min_eq_left h1]
/-- The row of a file's own is turned in place. -/
theorem turned_row (h : TreeAt w own g nb N T) {p : List ByteArray} {s s' : List Int} (hp : at' T p = some (false, s)) {gr c : Nat} {cur : Array Value} (hcell : w.heap[nb p]? = some (.cells #[.bool false, .slice (some ⟨gr, 0, none⟩) s.length c, .map none] 53 (0, 0)))
    (hr : w.heap[gr]? = some (.cells cur 5 (0, 0))) {cur' : Array Value} (hl : s'.length = s.length) (hsz : cur'.size = cur.size) (hc : s.length ≤ c) (hcm : c ≤ maxLen) (hcs : cur.size = c) (hcur : cur'.toList.take s.length = s'.map (Value.int .u8)) : Turned w (w.setRow gr cur') own g nb N (setT T p s') := by
  have hlies := (h.node p false s hp).1
  obtain ⟨_, v, mb, h2, _, h4, _⟩ := h.node p false s hp
  have hgr : own gr = .row p := by
    rw [hcell] at h2
    simp only [Option.some.injEq, Obj.cells.injEq] at h2
    have e3 := congrArg (fun a : Array Value => a[1]?) h2.1
    simp at e3
    subst e3
    exact h4 gr rfl
  have hsize : (w.setRow gr cur').heap.size = w.heap.size := by simp [World.setRow]
  have hne : nb p ≠ gr := fun e => by rw [e, hgr] at hlies; cases hlies
  obtain ⟨own', hT, hm⟩ := h.turn (w' := w.setRow gr cur') (s' := s') (v' := .slice (some ⟨gr, 0, none⟩) s.length c) hp (by rw [hsize]; exact Nat.le_refl _) ((setRow_other w gr (nb p) cur' hne).trans hcell)
    ⟨by simp, .inr ⟨gr, c, cur', by rw [hl], Nat.zero_le _, setRow_heap w gr cur cur' 5 (0, 0) hr, by omega, hcm, by simp; omega, by simp only [Nat.mul_one]; rw [hl]; exact hcur⟩⟩
    (fun b h1 h2' h3 => setRow_other w gr b cur' (fun e => h2' (by rw [e]; exact hgr))) (fun b hb => .inl (by
      have : gr = b := by simpa [Value.ownBlock] using hb
      rw [← this]; exact hgr))
  refine ⟨own', hT, ⟨⟨rfl, rfl, rfl, by rw [hsize]; exact Nat.le_refl _, fun _ hk => absurd hk (Nat.not_lt_zero _)⟩, fun b hb hn => setRow_other w gr b cur' (fun e => by rw [e, hgr] at hn; cases hn), fun b hb => (hm b hb).elim .inl (fun e => .inl (by
    have : gr = b := by simpa [Value.ownBlock] using e
    rw [← this, hgr]; simp))⟩⟩
/-- A file's row behind a turn. -/
def RowAt (w w2 : World) (own : Nat → Tag) (g : Nat) (nb : List ByteArray → Nat) (N : Nat) (T : List Th) (p : List ByteArray) (s : List Int) (own2 : Nat → Tag) (gr c2 : Nat) (cur : Array Value) : Prop :=
  TreeAt w2 own2 g nb N (setT T p s) ∧ Touch w w2 own own2 ∧ w2.heap[nb p]? = some (.cells #[.bool false, .slice (some ⟨gr, 0, none⟩) s.length c2, .map none] 53 (0, 0)) ∧ w2.heap[gr]? = some (.cells cur 5 (0, 0)) ∧ s.length ≤ c2 ∧ c2 ≤ maxLen ∧ cur.size = c2 ∧ cur.toList.take s.length = s.map (Value.int .u8)
theorem row_at {w w2 : World} {own : Nat → Tag} {g N : Nat} {nb : List ByteArray → Nat} {T : List Th} {p : List ByteArray} {s data : List Int} (h : Turned w w2 own g nb N (setT T p s)) (hp : at' T p = some (false, data)) (hs : 0 < s.length) : ∃ own2 gr c2 cur, RowAt w w2 own g nb N T p s own2 gr c2 cur := by
  obtain ⟨own2, hT, ht⟩ := h
  obtain ⟨A, c, mb, hb, ho, hd, _⟩ := hT.cells (setT_at hp)
  obtain rfl := hd rfl
  obtain ⟨gr, cur, rfl, h1, h2, h3, h4, h5, _⟩ := own_row ho hs
  exact ⟨own2, gr, c, cur, hT, ht, hb, h1, h2, h3, h4, h5⟩
theorem rd_kept {w w1 w2 : World} {own own2 : Nat → Tag} {A : Option Addr} {n : Nat} {xs : List Int} (h : RdB w A n xs) (hA : ∀ a, A = some a → own a.block = .no) (hb : Below w.heap.size w w1) (ht : Touch w1 w2 own own2) (h0 : 0 < n) :
    ∃ b off, A = some ⟨b, off, none⟩ ∧ ∀ (j : Nat) (x : Int), xs[j]? = some x → w2.cell? ⟨b, off + j, none⟩ = some (.int .u8 x) := by
  rcases h.2 with ⟨_, e⟩ | ⟨b, off, e, hc⟩
  · omega
  · refine ⟨b, off, e, fun j x hj => ?_⟩
    have h1 := pw_cell_below hb (hc j x hj)
    have hlt := World.block_lt_of_cell? w1 _ h1
    have := ht.kept b hlt (hA _ e)
    unfold World.cell? at h1 ⊢
    rw [this]
    exact h1
set_option maxHeartbeats 4000000 in
set_option maxRecDepth 100000 in
theorem write_main (h : TreeAt w own g nb N T) (s : ByteArray) (hs : s.size ≤ 4000) (k : Nat) (A : Option Addr) (c : Nat) (xs : List Int) (hf : fileE T s = 0) (hk : k ≤ 268435456) (hn : (xs.length : Int) ≤ 268435456 - k) (h0 : 0 < xs.length)
    (hx : RdB w A xs.length xs) (hA : ∀ a, A = some a → own a.block = .no) {data : List Int} (hd : at' T (cutB s).1 = some (false, data)) (hdl : data.length ≤ 268435456) :
    Calls Tryd.prog 9 #[.pointer (some ⟨g, 0, none⟩), .string s, .int .i64 k, .slice A xs.length c] w fun e w' => e = .returned (.int .i64 0) ∧ Turned w w' own g nb N (setT T (cutB s).1 (written data k xs)) := by
  have C := Aside0.mk (file_ok h s hs hf)
  have HT := Aside0.mk h
  have HD := Aside0.mk hd
  have HW : Aside0 (written data k xs = splice (sized data (max data.length (k + xs.length))) k xs) := ⟨rfl⟩
  generalize written data k xs = wr at *
  generalize (cutB s).1 = p at *
  obtain ⟨A0, c0, mb, hcell, _⟩ := h.cells hd
  have hc1 : w.cell? ⟨nb p, 1, none⟩ = some (.slice A0 data.length c0) := blk_cell hcell 1
  have HX := Aside0.mk hx
  have HA := Aside0.mk hA
  obtain ⟨mx, hmx⟩ : ∃ mx, mx = max data.length (k + xs.length) := ⟨_, rfl⟩
  have CS : Aside0 (∀ w1 (z : Int), Below w.heap.size w w1 → z = (mx : Int) → Calls Tryd.prog 23 #[.pointer (some ⟨nb p, 0, none⟩), .int .i64 z] w1 fun e w' => e = .returned (.tuple #[]) ∧ Turned w1 w' own g nb N (setT T p (sized data mx))) :=
    ⟨fun w1 z hb hz => by subst hz; exact node_size.calls (HT.out.below hb) HD.out mx (by omega) (by omega)⟩
  have d0 : decide ((k : Int) < 0) = false := decide_eq_false (by omega)
  have d1 : decide (268435456 < (k : Int)) = false := decide_eq_false (by omega)
  have d2 : decide (268435456 - (k : Int) < (xs.length : Int)) = false := decide_eq_false (by omega)
  have d3 : ((xs.length : Int) == 0) = false := beq_eq_false_iff_ne.2 (by omega)
  have b1 : (data.length : Int) ≤ 268435456 := by omega
  have b2 : (xs.length : Int) ≤ 268435456 := by omega
  have b3 : (k : Int) ≤ 268435456 := by omega
  have HMX := Aside0.mk hmx
  have HN := Aside0.mk hn
  have H0 := Aside0.mk h0
  have HONE : Aside0 (∀ v ∈ xs.map (Value.int .u8), v.oneCell' = true) := ⟨fun v hv => by obtain ⟨x, _, rfl⟩ := List.mem_map.1 hv; rfl⟩
  clear h hs hf hd hcell hx hA hmx hn h0 hdl
  generalize data.length = dl at *
  go_enter Tryd.func9, Tryd.ntmps9
  go_wp2_with (first | (go_at_call 22; (with_reducible refine C.out.mono ?_); rintro e w1 ⟨rfl, hb⟩; have hc1' := pw_cell_below hb hc1) | (go_at_call 23; (with_reducible refine (CS.out _ _ hb (by have := HMX.out; first | omega | (split <;> omega))).mono ?_); rintro e w2 ⟨rfl, hT2⟩; obtain ⟨own2, gr, c2, cur, hRA⟩ := row_at hT2 HD.out (by rw [sized_length]; have h1' := HMX.out; have h2' := H0.out; omega); have HRA := Aside0.mk hRA; clear hRA hT2; have hlen2 : (sized data mx).length = mx := sized_length _ _; have hc2 : w2.cell? ⟨nb p, 1, none⟩ = some (.slice (some ⟨gr, 0, none⟩) mx c2) := (blk_cell HRA.out.2.2.1 1).trans (by rw [hlen2]; rfl); have f1 : k + xs.length ≤ mx := (by have := HMX.out; omega); have f2 : mx ≤ c2 := (by have := HRA.out.2.2.2.2.1; omega); have f3 := H0.out; have e0 : decide ((0 : Int) ≤ (k : Int)) = true := decide_eq_true (by omega); have e1 : decide ((k : Int) ≤ (mx : Int)) = true := decide_eq_true (by omega); have e2 : ¬ c2 = k := (by omega); have e3 : (k : Int) ≤ (mx : Int) := (by omega); have e4 : k ≤ mx := (by omega); have F1 := Aside0.mk f1; have F2 := Aside0.mk f2; obtain ⟨ba, offa, rfl, hrd⟩ := rd_kept HX.out HA.out hb HRA.out.2.1 H0.out; have HN2 : Aside0 ((xs.map (Value.int .u8)).length = Nat.min xs.length (mx - k)) := ⟨by rw [List.length_map]; exact (Nat.min_eq_left (by omega)).symm⟩; have HSRC : Aside0 (∀ (j : Nat) (v : Value), (xs.map (Value.int .u8))[j]? = some v → w2.cell? ((⟨ba, offa, none⟩ : Addr).add j) = some v) := ⟨fun j v hj => by rw [addr_add]; rw [List.getElem?_map] at hj; obtain ⟨x, hx', rfl⟩ := Option.map_eq_some_iff.1 hj; exact hrd j x hx'⟩; have HFIT : Aside0 (k + (xs.map (Value.int .u8)).length ≤ cur.size) := ⟨by rw [List.length_map]; have := HRA.out.2.2.2.2.2.2.1; omega⟩; clear f1 f2 f3 hlen2 hrd) | (refine wpList_copy_own rfl (.tmp 56) (.tmp 57) 23 23 rfl 5 Tryd.underlying23 (by kernel_rfl) gr k (mx - k) (c2 - k) ⟨ba, offa, none⟩ xs.length c rfl rfl cur 5 HRA.out.2.2.2.1 (xs.map (Value.int .u8)) HN2.out HSRC.out HFIT.out HONE.out ?_))
  all_goals go_ret
  all_goals
    refine ⟨rfl, ?_⟩
    obtain ⟨hT2, ht2, hb2, hr2, g1, g2, g3, g4⟩ := HRA.out
    have hlen2 : (sized data mx).length = mx := sized_length _ _
    have hmx : mx = max dl (k + xs.length) := HMX.out
    have hwr := HW.out
    rw [← hmx] at hwr
    have hq := turned_row hT2 (setT_at HD.out) hb2 hr2 (s' := wr) (cur' := (cur.toList.take k ++ (xs.map (Value.int .u8) ++ cur.toList.drop (k + (xs.map (Value.int .u8)).length))).toArray)
      (by rw [hwr, length_splice _ _ _ (by rw [hlen2]; omega)]) (by have := HFIT.out; have e9 : cur.toList.length = cur.size := Array.length_toList; simp at this ⊢; omega) g1 g2 g3 (by
        rw [hwr, map_splice, ← g4, ← splice_take _ _ _ _ (by rw [hlen2, List.length_map]; omega)])
    rw [setT_setT] at hq
    simp only [List.length_map] at hq
    obtain ⟨own3, hT3, ht3⟩ := hq
    exact ⟨own3, hT3, ((Touch.of_below hb own).trans ht2).trans ht3⟩
end
end Go.Proofs.YtohhlnkdgfgjgaaDoor.P
namespace Go.Proofs.YtohhlnkdgfgjgaaDoor.P
open Go.RowKit Go.Proofs.YtohhlnkdgfgjgaaDoorW.PrintWords Go.Proofs.YtohhlnkdgfgjgaaDoorW.PrintLast Go.Proofs.YtohhlnkdgfgjgaaDoorW.PrintMore
attribute [local go_sem] min2_int min_two max2_int max_two
section
variable {w : World} {own : Nat → Tag} {g N : Nat} {nb : List ByteArray → Nat} {T : List Th}
theorem Turned.same (h : TreeAt w own g nb N T) {w' : World} (hb : Below w.heap.size w w') : Turned w w' own g nb N T := ⟨own, h.below hb, Touch.of_below hb _⟩
/-- No file is too long. -/
def Short (T : List Th) : Prop := ∀ p d s, at' T p = some (d, s) → s.length ≤ 268435456
theorem tree_Tree_Write.calls (h : TreeAt w own g nb N T) (s : ByteArray) (hs : s.size ≤ 4000) (k : Int) (A : Option Addr) (c : Nat) (xs : List Int) (hx : 0 < xs.length → RdB w A xs.length xs) (hA : 0 < xs.length → ∀ a, A = some a → own a.block = .no) (hT : Short T) :
    Calls Tryd.prog 9 #[.pointer (some ⟨g, 0, none⟩), .string s, .int .i64 k, .slice A xs.length c] w fun e w' => e = .returned (.int .i64 (writeE T s k xs.length)) ∧ Turned w w' own g nb N (writeT T s k xs) := by
  have no : writeE T s k xs.length ≠ 0 → writeT T s k xs = T := fun h => if_neg (fun e => h e.1)
  by_cases hf : fileE T s = 0
  · by_cases hr : k < 0 ∨ 268435456 < k ∨ 268435456 - k < (xs.length : Int)
    · have e9 : writeE T s k xs.length = 9 := by unfold writeE; rw [if_neg (fun e => e hf), if_pos hr]
      rw [no (by rw [e9]; decide), e9]
      by_cases h0 : k < 0
      · exact (write_neg h s hs k A _ c hf h0).mono fun e w' ⟨h1, h2⟩ => ⟨h1, Turned.same h h2⟩
      · by_cases h1 : 268435456 < k
        · exact (write_far h s hs k A _ c hf (by omega) h1).mono fun e w' ⟨h1, h2⟩ => ⟨h1, Turned.same h h2⟩
        · exact (write_long h s hs k A _ c hf (by omega) (by omega) (by omega)).mono fun e w' ⟨h1, h2⟩ => ⟨h1, Turned.same h h2⟩
    · have e0 : writeE T s k xs.length = 0 := by unfold writeE; rw [if_neg (fun e => e hf), if_neg hr]
      rw [e0]
      obtain ⟨kn, rfl⟩ : ∃ kn : Nat, k = kn := ⟨k.toNat, by omega⟩
      by_cases h0 : xs = []
      · have e1 : writeT T s (kn : Int) xs = T := if_neg (fun e => e.2 h0)
        rw [e1]
        subst h0
        exact (write_none h s hs kn A c hf (by omega) (by omega)).mono fun e w' ⟨h1, h2⟩ => ⟨h1, Turned.same h h2⟩
      · obtain ⟨data, hd⟩ := file_at hf
        have e1 : writeT T s (kn : Int) xs = setT T (cutB s).1 (written data kn xs) := by
          unfold writeT bytesAt
          rw [if_pos ⟨e0, h0⟩, hd, Int.toNat_natCast]
        rw [e1]
        have hl := hT _ _ _ hd
        exact write_main h s hs kn A c xs hf (by omega) (by omega) (List.length_pos_iff.2 h0) (hx (List.length_pos_iff.2 h0)) (hA (List.length_pos_iff.2 h0)) hd hl
  · have e0 : writeE T s k xs.length = fileE T s := by unfold writeE; rw [if_pos hf]
    rw [no (by rw [e0]; exact hf), e0]
    exact (write_err h s hs k A _ c hf).mono fun e w' ⟨h1, h2⟩ => ⟨h1, Turned.same h h2⟩
/-- A slice of bytes from a place on. -/
theorem cut_drop {A : Option Addr} {n c : Nat} {xs : List Int} (h : RdB w A n xs) (m : Nat) (hm : m ≤ n) (hc : n ≤ c) : ∃ (A1 : Option Addr) (n1 c1 : Nat), (∀ W : World, (Instr.slice 23 (.slice A n c) (some (.int .i64 (m : Int))) none none).run Tryd.prog W = .ok (.slice A1 n1 c1) W) ∧ RdB w A1 n1 (xs.drop m) ∧ n1 = n - m ∧ n1 ≤ c1 := by
  refine ⟨if c = m then A else A.map (·.add m), n - m, c - m, fun W => ?_, h.drop m hm hc, rfl, by omega⟩
  obtain ⟨i, hi, hzz⟩ := Option.map_eq_some_iff.1 info5
  simp only [Prod.mk.injEq] at hzz
  have hel : Tryd.prog.elem 23 = 5 := by kernel_rfl
  have hu : Tryd.prog.underlying 23 = some (.slice (Tryd.prog.elem 23)) := by rw [hel]; exact Tryd.underlying23
  rw [run_slice_l W 23 A n c hu .i64 (m : Int) (Int.natCast_nonneg _) (by omega), hel]
  simp [sizeOf, typeInfo, hi, hzz.2.1, sliced, Result.andThen]
def readE (T : List Th) (s : ByteArray) (k n : Int) : Int := if fileE T s ≠ 0 then fileE T s else if k < 0 ∨ n < 0 then 9 else 0
def readB (T : List Th) (s : ByteArray) (k n : Int) : List Int := if readE T s k n = 0 then ((bytesAt T (cutB s).1).drop k.toNat).take n.toNat else []
/-- What Read hands back: a row of the call's own. -/
def Got (w w' : World) (e : Ending) (xs : List Int) (z : Int) : Prop := ∃ (A : Option Addr) (c : Nat), e = .returned (.tuple #[.slice A xs.length c, .int .i64 z]) ∧ w'.ownsRow w.heap.size 5 1 (.slice A xs.length c) xs.length (xs.map (Value.int .u8)) ∧ Below w.heap.size w w'
theorem Got.of {w1 w2 : World} {A : Option Addr} {q c : Nat} {xs : List Int} {z : Int} (hl : xs.length = q) (hb1 : Below w.heap.size w w1) (ho : w2.ownsRow w1.heap.size 5 1 (.slice A q c) q (xs.map (Value.int .u8))) (hb : Below w1.heap.size w1 w2) : Got w w2 (.returned (.tuple #[.slice A q c, .int .i64 z])) xs z := by
  subst hl
  exact ⟨A, c, rfl, own_base' ho hb1.size, hb1.trans (hb.mono hb1.size)⟩
theorem Got.nil {w' : World} {z : Int} (hb : Below w.heap.size w w') : Got w w' (.returned (.tuple #[.slice none 0 0, .int .i64 z])) [] z := ⟨none, 0, rfl, ⟨rfl, .inl ⟨rfl, rfl⟩⟩, hb⟩
set_option maxHeartbeats 4000000 in
set_option maxRecDepth 100000 in
theorem read_err (h : TreeAt w own g nb N T) (s : ByteArray) (hs : s.size ≤ 4000) (k n : Int) (hf : fileE T s ≠ 0) :
    Calls Tryd.prog 10 #[.pointer (some ⟨g, 0, none⟩), .string s, .int .i64 k, .int .i64 n] w fun e w' => Got w w' e [] (fileE T s) := by
  have C1 := tree_Tree_file.calls h s hs
  rw [decide_eq_false hf] at C1
  simp only [ptrIf, Bool.false_eq_true, if_false] at C1
  have hne : (fileE T s == 0) = false := by simpa using hf
  have hne2 : (fileE T s != 0) = true := by simpa using hf
  generalize fileE T s = z at *
  have C := Aside0.mk C1
  clear C1 hf h hs
  go_enter Tryd.func10, Tryd.ntmps10
  go_wp2_with (go_at_call 22; (with_reducible refine C.out.mono ?_); rintro e w1 ⟨rfl, hb⟩)
  go_ret2
  exact Got.nil hb
set_option maxHeartbeats 4000000 in
set_option maxRecDepth 100000 in
theorem read_neg (h : TreeAt w own g nb N T) (s : ByteArray) (hs : s.size ≤ 4000) (k n : Int) (hf : fileE T s = 0) (hk : k < 0 ∨ n < 0) :
    Calls Tryd.prog 10 #[.pointer (some ⟨g, 0, none⟩), .string s, .int .i64 k, .int .i64 n] w fun e w' => Got w w' e [] 9 := by
  have C := Aside0.mk (file_ok h s hs hf)
  generalize nb (cutB s).1 = b at *
  clear h hs hf
  by_cases h0 : k < 0
  · have d0 : decide (k < 0) = true := decide_eq_true h0
    clear hk
    go_enter Tryd.func10, Tryd.ntmps10
    go_wp2_with (go_at_call 22; (with_reducible refine C.out.mono ?_); rintro e w1 ⟨rfl, hb⟩)
    all_goals (go_ret2; exact Got.nil hb)
  · have h1 : n < 0 := by omega
    have d0 : decide (k < 0) = false := decide_eq_false h0
    have d1 : decide (n < 0) = true := decide_eq_true h1
    clear hk
    go_enter Tryd.func10, Tryd.ntmps10
    go_wp2_with (go_at_call 22; (with_reducible refine C.out.mono ?_); rintro e w1 ⟨rfl, hb⟩)
    all_goals (go_ret2; exact Got.nil hb)
set_option maxHeartbeats 4000000 in
set_option maxRecDepth 100000 in
theorem read_main (h : TreeAt w own g nb N T) (s : ByteArray) (hs : s.size ≤ 4000) (k n : Nat) (hf : fileE T s = 0) {data : List Int} (hd : at' T (cutB s).1 = some (false, data)) (hdl : data.length ≤ 268435456) :
    Calls Tryd.prog 10 #[.pointer (some ⟨g, 0, none⟩), .string s, .int .i64 k, .int .i64 n] w fun e w' => Got w w' e ((data.drop k).take n) 0 := by
  have C := Aside0.mk (file_ok h s hs hf)
  generalize (cutB s).1 = p at *
  obtain ⟨A0, c0, mb, hcell, ho, _⟩ := h.cells hd
  obtain ⟨hR, hc0⟩ := RdB.of_own ho
  have hc1 : w.cell? ⟨nb p, 1, none⟩ = some (.slice A0 data.length c0) := blk_cell hcell 1
  generalize nb p = b at *
  obtain ⟨l, hl⟩ : ∃ l, l = data.length := ⟨_, rfl⟩
  rw [← hl] at hR hc0 hc1
  have m0 : decide ((k : Int) < 0) = false := decide_eq_false (by omega)
  have m1 : decide ((n : Int) < 0) = false := decide_eq_false (by omega)
  have go : ∀ (m : Nat), m ≤ l → data.drop m = data.drop k → ((l < k ∧ m = l) ∨ (¬ l < k ∧ m = k)) → Calls Tryd.prog 10 #[.pointer (some ⟨g, 0, none⟩), .string s, .int .i64 k, .int .i64 n] w fun e w' => Got w w' e ((data.drop k).take n) 0 := by
    intro m hm hdr hcase
    obtain ⟨A1, n1, c1, hcut, hR1, hn1, hc11⟩ := cut_drop hR m hm hc0
    rw [hdr] at hR1
    have go2 : ∀ q : Nat, q ≤ n1 → ((n1 < n ∧ q = n1) ∨ (¬ n1 < n ∧ q = n)) → Calls Tryd.prog 10 #[.pointer (some ⟨g, 0, none⟩), .string s, .int .i64 k, .int .i64 n] w fun e w' => Got w w' e ((data.drop k).take n) 0 := by
      intro q hq hqc
      have hR2 := hR1.take q hq
      have hlen : ((data.drop k).take n).length = q := by
        rw [List.length_take, hR1.1]
        omega
      have htk : (data.drop k).take q = (data.drop k).take n := by
        rcases hqc with ⟨h1, rfl⟩ | ⟨h1, rfl⟩
        · rw [List.take_of_length_le (by rw [hR1.1]; exact Nat.le_refl _), List.take_of_length_le (by rw [hR1.1]; omega)]
        · rfl
      rw [htk] at hR2
      have CC : Aside0 (∀ w1, Below w.heap.size w w1 → Calls Tryd.prog 24 #[.slice A1 q c1] w1 fun e w' => ∃ (A' : Option Addr) (c' : Nat), e = .returned (.slice A' q c') ∧ w'.ownsRow w1.heap.size 5 1 (.slice A' q c') q (((data.drop k).take n).map (Value.int .u8)) ∧ Below w1.heap.size w1 w') :=
        ⟨fun w1 hb => cloneB (hR2.below hb) c1 (by omega)⟩
      have e0 : decide ((0 : Int) ≤ (q : Int)) = true := decide_eq_true (by omega)
      have e1 : decide ((q : Int) ≤ (c1 : Int)) = true := decide_eq_true (by omega)
      have e2 : (q : Int) ≤ (c1 : Int) := by omega
      have e3 : q ≤ c1 := by omega
      have LEN := Aside0.mk hlen
      clear h hs hf hd hcell ho hR hR1 hR2 hdr hlen htk hn1 hdl hl
      generalize (data.drop k).take n = ys at *
      rcases hcase with ⟨h1, rfl⟩ | ⟨h1, rfl⟩
      · rcases hqc with ⟨h2, rfl⟩ | ⟨h2, rfl⟩
        · have p1 : (m : Int) < (k : Int) := by omega
          have p2 : (q : Int) < (n : Int) := by omega
          clear h1 h2 hc0 hc11
          go_enter Tryd.func10, Tryd.ntmps10
          go_wp2_with (go_at_call 22; (with_reducible refine C.out.mono ?_); rintro e w1 ⟨rfl, hb⟩; have hc1' := pw_cell_below hb hc1)
          go_quiet (fail)
          go_wp2_with (go_at_call 24; (with_reducible refine (CC.out _ (pw_below_drewN hb _)).mono ?_); rintro e w2 ⟨A', c', rfl, ho, hb2⟩; have HO := Aside0.mk ho; clear ho)
          go_ret2
          exact Got.of LEN.out (pw_below_drewN hb _) HO.out hb2
        · have p1 : (m : Int) < (k : Int) := by omega
          have p2 : ¬ (n1 : Int) < (q : Int) := by omega
          clear h1 h2 hc0 hc11
          go_enter Tryd.func10, Tryd.ntmps10
          go_wp2_with (go_at_call 22; (with_reducible refine C.out.mono ?_); rintro e w1 ⟨rfl, hb⟩; have hc1' := pw_cell_below hb hc1)
          go_quiet (fail)
          go_wp2_with (go_at_call 24; (with_reducible refine (CC.out _ (pw_below_drewN hb _)).mono ?_); rintro e w2 ⟨A', c', rfl, ho, hb2⟩; have HO := Aside0.mk ho; clear ho)
          go_ret2
          exact Got.of LEN.out (pw_below_drewN hb _) HO.out hb2
      · rcases hqc with ⟨h2, rfl⟩ | ⟨h2, rfl⟩
        · have p1 : ¬ (l : Int) < (m : Int) := by omega
          have p2 : (q : Int) < (n : Int) := by omega
          clear h1 h2 hc0 hc11
          go_enter Tryd.func10, Tryd.ntmps10
          go_wp2_with (go_at_call 22; (with_reducible refine C.out.mono ?_); rintro e w1 ⟨rfl, hb⟩; have hc1' := pw_cell_below hb hc1)
          go_quiet (fail)
          go_wp2_with (go_at_call 24; (with_reducible refine (CC.out _ (pw_below_drewN hb _)).mono ?_); rintro e w2 ⟨A', c', rfl, ho, hb2⟩; have HO := Aside0.mk ho; clear ho)
          go_ret2
          exact Got.of LEN.out (pw_below_drewN hb _) HO.out hb2
        · have p1 : ¬ (l : Int) < (m : Int) := by omega
          have p2 : ¬ (n1 : Int) < (q : Int) := by omega
          clear h1 h2 hc0 hc11
          go_enter Tryd.func10, Tryd.ntmps10
          go_wp2_with (go_at_call 22; (with_reducible refine C.out.mono ?_); rintro e w1 ⟨rfl, hb⟩; have hc1' := pw_cell_below hb hc1)
          go_quiet (fail)
          go_wp2_with (go_at_call 24; (with_reducible refine (CC.out _ (pw_below_drewN hb _)).mono ?_); rintro e w2 ⟨A', c', rfl, ho, hb2⟩; have HO := Aside0.mk ho; clear ho)
          go_ret2
          exact Got.of LEN.out (pw_below_drewN hb _) HO.out hb2
    rcases Nat.lt_or_ge n1 n with h2 | h2
    · exact go2 n1 (Nat.le_refl _) (.inl ⟨h2, rfl⟩)
    · exact go2 n h2 (.inr ⟨by omega, rfl⟩)
  rcases Nat.lt_or_ge l k with h1 | h1
  · exact go l (Nat.le_refl _) (by rw [List.drop_of_length_le (by omega), List.drop_of_length_le (by omega)]) (.inl ⟨h1, rfl⟩)
  · exact go k h1 rfl (.inr ⟨by omega, rfl⟩)
end
end Go.Proofs.YtohhlnkdgfgjgaaDoor.P
namespace Go.Proofs.YtohhlnkdgfgjgaaDoor.P
open Go.RowKit Go.Proofs.YtohhlnkdgfgjgaaDoorW.PrintWords Go.Proofs.YtohhlnkdgfgjgaaDoorW.PrintLast Go.Proofs.YtohhlnkdgfgjgaaDoorW.PrintMore
section
variable {w : World} {own : Nat → Tag} {g N : Nat} {nb : List ByteArray → Nat} {T : List Th}
theorem find_ok (h : TreeAt w own g nb N T) (s : ByteArray) (hs : s.size ≤ 4000) (hf : findE T s = 0) :
    Calls Tryd.prog 30 #[.pointer (some ⟨g, 0, none⟩), .string s] w fun e w' => e = .returned (.tuple #[.pointer (some ⟨nb (cutB s).1, 0, none⟩), .int .i64 0]) ∧ Below w.heap.size w w' := by
  have C1 := tree_Tree_find.calls h s hs
  unfold findV at C1
  rw [hf, decide_eq_true rfl] at C1
  exact C1
theorem nb_root (h : TreeAt w own g nb N T) {p : List ByteArray} {d : Bool} {s : List Int} (hp : at' T p = some (d, s)) (h0 : p ≠ []) : nb p ≠ nb [] := fun e => by
  have h1 := (h.node p d s hp).1
  have h2 := (h.node [] true [] rfl).1
  rw [e, h2] at h1
  injection h1 with h1
  exact h0 h1.symm
theorem size_pos {M : DataW Unit} {y : ByteArray} (h : Go.Maps.has M (strL y) = true) : 0 < Go.Maps.size M := by
  unfold Go.Maps.has at h
  split at h
  · rename_i es
    rw [List.any_eq_true] at h
    obtain ⟨x, hx, _⟩ := h
    exact List.length_pos_of_mem hx
  · cases h
theorem info_node : (Tryd.prog.info? 53).map (·.size) = some 3 := by kernel_rfl
theorem ptr_other (h : TreeAt w own g nb N T) {p : List ByteArray} {d : Bool} {s : List Int} (hp : at' T p = some (d, s)) (h0 : p ≠ []) {w1 : World} (hb : Below w.heap.size w w1) :
    (binOp .eql 43 (.pointer (some ⟨nb p, 0, none⟩)) (.pointer (some ⟨nb [], 0, none⟩))).run Tryd.prog w1 = .ok (.bool false) w1 := by
  obtain ⟨A, c, mb, h1, _⟩ := h.cells hp
  obtain ⟨A', c', mb', h2, _⟩ := h.cells (p := []) rfl
  obtain ⟨j, hj, hz⟩ := Option.map_eq_some_iff.1 info_node
  have hne := nb_root h hp h0
  exact run_eql_ptr_other w1 Tryd.underlying43 hj (by rw [hz]; decide) (fun e => hne (by injection e)) (blk_below h1 hb) (blk_below h2 hb)
theorem ptr_same (b : Nat) (w1 : World) : (binOp .eql 43 (.pointer (some ⟨b, 0, none⟩)) (.pointer (some ⟨b, 0, none⟩))).run Tryd.prog w1 = .ok (.bool true) w1 := by
  obtain ⟨j, hj, hz⟩ := Option.map_eq_some_iff.1 info_node
  exact run_eql_ptr_same w1 _ Tryd.underlying43 hj
set_option maxHeartbeats 4000000 in
set_option maxRecDepth 100000 in
theorem rmdir_full (h : TreeAt w own g nb N T) (s : ByteArray) (hs : s.size ≤ 4000) (hf : findE T s = 0) (hd : at' T (cutB s).1 = some (true, [])) (hne : (cutB s).1 ≠ []) {y : ByteArray} (hy : (look T ((cutB s).1 ++ [y])).isSome = true) (_hN : N ≤ 1000000) :
    Calls Tryd.prog 19 #[.pointer (some ⟨g, 0, none⟩), .string s] w fun e w' => e = .returned (.int .i64 8) ∧ Below w.heap.size w w' := by
  have C := Aside0.mk (find_ok h s hs hf)
  have HE : Aside0 (∀ w1, Below w.heap.size w w1 → (binOp .eql 43 (.pointer (some ⟨nb (cutB s).1, 0, none⟩)) (.pointer (some ⟨nb [], 0, none⟩))).run Tryd.prog w1 = .ok (.bool false) w1) := ⟨fun w1 hb => ptr_other h hd hne hb⟩
  generalize (cutB s).1 = p at *
  obtain ⟨A0, c0, mb, hcell, _, _, hd1⟩ := h.cells hd
  obtain ⟨_, bm, M, rfl, hbm, hM, hK⟩ := hd1 rfl
  have hk0 : w.cell? ⟨nb p, 0, none⟩ = some (.bool true) := blk_cell hcell 0
  have hk2 : w.cell? ⟨nb p, 2, none⟩ = some (.map (some bm)) := blk_cell hcell 2
  have htop : w.cell? ⟨g, 0, none⟩ = some (.pointer (some ⟨nb [], 0, none⟩)) := blk_cell h.top 0
  have hpos : 0 < Go.Maps.size M := size_pos (y := y) (by rw [(hK y).2]; exact hy)
  have hle := hM.size_le
  have HM : Aside0 (∀ w1, Below w.heap.size w w1 → w1.ownsMap Tryd.prog 9 ptrR bm N M) := ⟨fun w1 hb => map_move hM (hb.block bm hM.lt)⟩
  have hsz : decide (0 < Go.Maps.size M) = true := decide_eq_true hpos
  have hsz2 : decide ((0 : Int) < (Go.Maps.size M : Int)) = true := decide_eq_true (by omega)
  have hsz3 : (0 : Int) < (Go.Maps.size M : Int) := by omega
  generalize nb p = b at *
  generalize nb [] = r at *
  clear h hs hf hd hne hy hcell hd1 hM hK hbm hle
  go_enter Tryd.func19, Tryd.ntmps19
  go_wp2_with (first | (go_at_call 30; (with_reducible refine C.out.mono ?_); rintro e w1 ⟨rfl, hb⟩; have hk0' := pw_cell_below hb hk0; have hk2' := pw_cell_below hb hk2; have htop' := pw_cell_below hb htop; have heq := HE.out _ hb) | (at_len; refine wpList_len_own _ rfl _ 51 rfl 9 43 Tryd.underlying51 ptrR bm N M rfl (HM.out _ hb) ?_))
  all_goals go_ret
  all_goals exact ⟨rfl, hb⟩
end
/-- A tree behind a world: what lay before it is as it was, and none of its blocks. -/
def St (w0 w : World) (g N : Nat) (T : List Th) : Prop := ∃ own nb, TreeAt w own g nb N T ∧ Below w0.heap.size w0 w ∧ ∀ b, b < w0.heap.size → own b = .no
section
variable {w0 w w1 : World} {g N : Nat} {T : List Th}
theorem St.below (h : St w0 w g N T) (hb : Below w.heap.size w w1) : St w0 w1 g N T := by
  obtain ⟨own, nb, hT, hw, hn⟩ := h
  exact ⟨own, nb, hT.below hb, hw.trans (hb.mono hw.size), hn⟩
theorem St.base (h : St w0 w g N T) : Below w0.heap.size w0 w := by
  obtain ⟨_, _, _, hw, _⟩ := h
  exact hw
theorem St.touch {own own' : Nat → Tag} {nb' : List ByteArray → Nat} {N' : Nat} {T' : List Th} (hw : Below w0.heap.size w0 w) (hn : ∀ b, b < w0.heap.size → own b = .no) (hT : TreeAt w1 own' g nb' N' T') (ht : Touch w w1 own own') : St w0 w1 g N' T' :=
  ⟨own', nb', hT, hw.trans (ht.below hw.size hn), ht.lo hw.size hn⟩
theorem St.new (hw : Below w0.heap.size w0 w) : Calls Tryd.prog 7 #[] w fun e w' => ∃ g, e = .returned (.pointer (some ⟨g, 0, none⟩)) ∧ St w0 w' g 0 [] :=
  (tree_New.calls w).mono fun _ _ ⟨g, own, nb, he, hT, hb, hn⟩ => ⟨g, he, own, nb, hT, hw.trans (hb.mono hw.size), fun b hb' => hn b (Nat.lt_of_lt_of_le hb' hw.size)⟩
theorem St.adds {K : Nat} {d : Bool} (C : AddC K d) (h : St w0 w g N T) (s : ByteArray) (hs : s.size ≤ 4000) (hN : N < 1000000) :
    Calls Tryd.prog K #[.pointer (some ⟨g, 0, none⟩), .string s] w fun e w' => e = .returned (.int .i64 (addE T s)) ∧ St w0 w' g (N + 1) (addT T s d) := by
  obtain ⟨own, nb, hT, hw, hn⟩ := h
  exact (C hT s hs hN).mono fun e w' ⟨he, own', nb', hT', ht, _⟩ => ⟨he, St.touch hw hn hT' ht⟩
theorem St.write (h : St w0 w g N T) (hb : Below w.heap.size w w1) (s : ByteArray) (hs : s.size ≤ 4000) (k : Int) (A : Option Addr) (c : Nat) (xs : List Int) (hx : 0 < xs.length → RdB w1 A xs.length xs) (hA : 0 < xs.length → ∀ a, A = some a → a.block < w0.heap.size ∨ w.heap.size ≤ a.block) (hT : Short T) :
    Calls Tryd.prog 9 #[.pointer (some ⟨g, 0, none⟩), .string s, .int .i64 k, .slice A xs.length c] w1 fun e w' => e = .returned (.int .i64 (writeE T s k xs.length)) ∧ St w0 w' g N (writeT T s k xs) := by
  obtain ⟨own, nb, h1, hw, hn⟩ := h
  have hw1 := hw.trans (hb.mono hw.size)
  refine (tree_Tree_Write.calls (h1.below hb) s hs k A c xs hx (fun h0 a ha => ?_) hT).mono fun e w' ⟨he, own', hT', ht⟩ => ⟨he, St.touch hw1 hn hT' ht⟩
  rcases hA h0 a ha with h2 | h2
  · exact hn _ h2
  · rcases Classical.em (own a.block = .no) with e1 | e1
    · exact e1
    · have := h1.lt _ e1
      omega
theorem tree_Tree_Read.calls {own : Nat → Tag} {nb : List ByteArray → Nat} (h : TreeAt w own g nb N T) (s : ByteArray) (hs : s.size ≤ 4000) (k n : Int) (hT : Short T) :
    Calls Tryd.prog 10 #[.pointer (some ⟨g, 0, none⟩), .string s, .int .i64 k, .int .i64 n] w fun e w' => Got w w' e (readB T s k n) (readE T s k n) := by
  by_cases hf : fileE T s = 0
  · by_cases hr : k < 0 ∨ n < 0
    · have e9 : readE T s k n = 9 := by unfold readE; rw [if_neg (fun e => e hf), if_pos hr]
      have eB : readB T s k n = [] := by unfold readB; rw [if_neg (by rw [e9]; decide)]
      rw [e9, eB]
      exact read_neg h s hs k n hf hr
    · have e0 : readE T s k n = 0 := by unfold readE; rw [if_neg (fun e => e hf), if_neg hr]
      obtain ⟨data, hd⟩ := file_at hf
      have eB : readB T s k n = (data.drop k.toNat).take n.toNat := by unfold readB bytesAt; rw [if_pos e0, hd]
      rw [e0, eB]
      obtain ⟨kn, rfl⟩ : ∃ kn : Nat, k = kn := ⟨k.toNat, by omega⟩
      obtain ⟨nn, rfl⟩ : ∃ nn : Nat, n = nn := ⟨n.toNat, by omega⟩
      exact read_main h s hs kn nn hf hd (hT _ _ _ hd)
  · have e0 : readE T s k n = fileE T s := by unfold readE; rw [if_pos hf]
    have eB : readB T s k n = [] := by unfold readB; rw [if_neg (by rw [e0]; exact hf)]
    rw [e0, eB]
    exact read_err h s hs k n hf
theorem St.read (h : St w0 w g N T) (s : ByteArray) (hs : s.size ≤ 4000) (k n : Int) (hT : Short T) :
    Calls Tryd.prog 10 #[.pointer (some ⟨g, 0, none⟩), .string s, .int .i64 k, .int .i64 n] w fun e w' => Got w w' e (readB T s k n) (readE T s k n) := by
  obtain ⟨own, nb, h1, hw, hn⟩ := h
  exact tree_Tree_Read.calls h1 s hs k n hT
theorem St.full (h : St w0 w g N T) (s : ByteArray) (hs : s.size ≤ 4000) (hf : findE T s = 0) (hd : at' T (cutB s).1 = some (true, [])) (hne : (cutB s).1 ≠ []) {y : ByteArray} (hy : (look T ((cutB s).1 ++ [y])).isSome = true) (hN : N ≤ 1000000) :
    Calls Tryd.prog 19 #[.pointer (some ⟨g, 0, none⟩), .string s] w fun e w' => e = .returned (.int .i64 8) ∧ Below w.heap.size w w' := by
  obtain ⟨own, nb, h1, hw, hn⟩ := h
  exact rmdir_full h1 s hs hf hd hne hy hN
end
end Go.Proofs.YtohhlnkdgfgjgaaDoor.P
namespace Go.Proofs.YtohhlnkdgfgjgaaDoor.P
open Go.RowKit Go.Proofs.YtohhlnkdgfgjgaaDoorW.PrintWords Go.Proofs.YtohhlnkdgfgjgaaDoorW.PrintLast Go.Proofs.YtohhlnkdgfgjgaaDoorW.PrintMore
def La : List Th := [([⟨#[97]⟩], true, [])]
def Lab : List Th := [([⟨#[97]⟩], true, []), ([⟨#[97]⟩, ⟨#[98]⟩], false, [])]
def Labx : List Th := [([⟨#[97]⟩], true, []), ([⟨#[97]⟩, ⟨#[98]⟩], false, [0, 0, 120])]
theorem look_in {T : List Th} {p : List ByteArray} {y : Bool × List Int} (h : look T p = some y) : (p, y) ∈ T := by
  induction T with
  | nil => cases h
  | cons x T ih =>
    obtain ⟨q, z⟩ := x
    rw [look] at h
    by_cases e : q = p
    · rw [if_pos e] at h
      cases h
      rw [e]
      exact List.mem_cons_self
    · rw [if_neg e] at h
      exact List.mem_cons_of_mem _ (ih h)
theorem short_of {T : List Th} (h : ∀ x ∈ T, x.2.2.length ≤ 268435456) : Short T := fun p d s hp => by
  by_cases e : p = []
  · subst e
    rw [at_nil] at hp
    cases hp
    decide
  · rw [at_cons _ e] at hp
    exact h _ (look_in hp)
section
variable {w0 w w1 : World} {g N : Nat} {T : List Th}
theorem l13_a (h : St w0 w g 0 []) : Calls Tryd.prog 18 #[.pointer (some ⟨g, 0, none⟩), .string ⟨#[47, 97]⟩] w fun e w' => e = .returned (.int .i64 0) ∧ St w0 w' g 1 La := by
  have := St.adds tree_Tree_Mkdir.calls h ⟨#[47, 97]⟩ (by decide) (by decide)
  rw [show addE [] ⟨#[47, 97]⟩ = 0 by decide +kernel, show addT [] ⟨#[47, 97]⟩ true = La by decide +kernel] at this
  exact this
theorem l13_ab (h : St w0 w g 1 La) : Calls Tryd.prog 8 #[.pointer (some ⟨g, 0, none⟩), .string ⟨#[47, 97, 47, 98]⟩] w fun e w' => e = .returned (.int .i64 0) ∧ St w0 w' g 2 Lab := by
  have := St.adds tree_Tree_Create.calls h ⟨#[47, 97, 47, 98]⟩ (by decide) (by decide)
  rw [show addE La ⟨#[47, 97, 47, 98]⟩ = 0 by decide +kernel, show addT La ⟨#[47, 97, 47, 98]⟩ false = Lab by decide +kernel] at this
  exact this
theorem l13_x (h : St w0 w g 2 Lab) (hb : Below w.heap.size w w1) (b c : Nat) (hc : w1.cell? ⟨b, 0, none⟩ = some (.int .u8 120)) (hle : w.heap.size ≤ b) :
    Calls Tryd.prog 9 #[.pointer (some ⟨g, 0, none⟩), .string ⟨#[47, 97, 47, 98]⟩, .int .i64 2, .slice (some ⟨b, 0, none⟩) 1 c] w1 fun e w' => e = .returned (.int .i64 0) ∧ St w0 w' g 2 Labx := by
  have := St.write h hb ⟨#[47, 97, 47, 98]⟩ (by decide) 2 (some ⟨b, 0, none⟩) c [120] (fun _ => ⟨rfl, .inr ⟨b, 0, rfl, fun j x hj => by
    match j, hj with
    | 0, hj => cases hj; exact hc
    | _ + 1, hj => cases hj⟩⟩) (fun _ a ha => by cases ha; exact .inr hle) (short_of (by decide))
  rw [show writeE Lab ⟨#[47, 97, 47, 98]⟩ 2 ([120] : List Int).length = 0 by decide +kernel, show writeT Lab ⟨#[47, 97, 47, 98]⟩ 2 [120] = Labx by decide +kernel] at this
  exact this
theorem l13_full (h : St w0 w g 2 Labx) : Calls Tryd.prog 19 #[.pointer (some ⟨g, 0, none⟩), .string ⟨#[47, 97]⟩] w fun e w' => e = .returned (.int .i64 8) ∧ Below w.heap.size w w' :=
  St.full h ⟨#[47, 97]⟩ (by decide) (by decide +kernel) (by decide +kernel) (by decide +kernel) (y := ⟨#[98]⟩) (by decide +kernel) (by decide)
theorem l13_read (h : St w0 w g 2 Labx) : Calls Tryd.prog 10 #[.pointer (some ⟨g, 0, none⟩), .string ⟨#[47, 97, 47, 98]⟩, .int .i64 0, .int .i64 9] w fun e w' => ∃ b c, e = .returned (.tuple #[.slice (some ⟨b, 0, none⟩) 3 c, .int .i64 0]) ∧ (convert 23 9 (.slice (some ⟨b, 0, none⟩) 3 c)).run Tryd.prog w' = .ok (.string ⟨#[0, 0, 120]⟩) w' ∧ Below w.heap.size w w' := by
  have := St.read h ⟨#[47, 97, 47, 98]⟩ (by decide) 0 9 (short_of (by decide))
  rw [show readE Labx ⟨#[47, 97, 47, 98]⟩ 0 9 = 0 by decide +kernel, show readB Labx ⟨#[47, 97, 47, 98]⟩ 0 9 = [0, 0, 120] by decide +kernel] at this
  refine this.mono fun e w' ⟨A, c, he, ho, hb⟩ => ?_
  obtain ⟨b, cur, rfl, hh, _⟩ := own_row ho (by decide)
  refine ⟨b, c, he, ?_, hb⟩
  have hcell : ∀ i, i < 3 → w'.cell? ⟨b, 0 + i, none⟩ = some (.int .u8 (([0, 0, 120] : List Int).getD i 0)) := by
    intro i hi
    refine owns_cellsB ho i _ ?_
    match i, hi with
    | 0, _ => rfl
    | 1, _ => rfl
    | 2, _ => rfl
  have h2 := run_convert_bytes_arg (P := Tryd.prog) w' 23 5 Tryd.underlying23 Tryd.underlying5 b 0 3 c [0, 0, 120] rfl hcell 9 Tryd.underlying9
  rw [h2]
  rfl
end
set_option maxHeartbeats 4000000 in
set_option maxRecDepth 100000 in
theorem lives13 (w : World) : Calls Tryd.prog 6 #[] w fun e w' => e = .returned (.bool true) ∧ Below w.heap.size w w' := by
  have kc := fun (w : World) (C : Array Value) (n c : Nat) => Lib.run_convert_bytes_const (P := Tryd.prog) w 23 5 C n c Tryd.underlying23 Tryd.underlying5
  go_enter Tryd.func6, Tryd.ntmps6
  go_wp2_with fail
  refine (St.new (Below.refl w.heap.size w)).mono ?_
  rintro e w1 ⟨g, rfl, h1⟩
  have H1 := Aside0.mk h1
  clear h1
  go_wp2_with fail
  refine (cantlelaw12_Lives.calls true _ lives12).mono ?_
  rintro e w2 ⟨rfl, hb2⟩
  have H2 := Aside0.mk (H1.out.below hb2)
  go_wp2_with fail
  refine (l13_a H2.out).mono ?_
  rintro e w3 ⟨rfl, h3⟩
  have H3 := Aside0.mk h3
  clear h3
  go_wp2_with fail
  refine (l13_ab H3.out).mono ?_
  rintro e w4 ⟨rfl, h4⟩
  have H4 := Aside0.mk h4
  clear h4
  go_wp2_with fail
  refine (l13_x H4.out (below_alloc (Below.refl _ _) _) _ 1 (by rw [cell_new _ _ _ _ _ _ rfl]; rfl) (Nat.le_refl _)).mono ?_
  rintro e w5 ⟨rfl, h5⟩
  have H5 := Aside0.mk h5
  clear h5
  go_wp2_with fail
  refine (l13_full H5.out).mono ?_
  rintro e w6 ⟨rfl, hb6⟩
  have H6 := Aside0.mk (H5.out.below hb6)
  go_wp2_with fail
  refine (l13_read H6.out).mono ?_
  rintro e w7 ⟨b, c, rfl, hconv, hb7⟩
  have H7 := Aside0.mk (H6.out.below hb7)
  have hs : ((⟨#[0, 0, 120]⟩ : ByteArray).toList == [0, 0, 120]) = true := by rw [Lib.toList_data]; rfl
  go_wp2_with fail
  go_ret
  exact ⟨rfl, H7.out.base⟩
end Go.Proofs.YtohhlnkdgfgjgaaDoor.P
