/- TreeReads: what is written is read. -/
import Derived.Test.YtohhlnkdgfgjgaaDoorTo
namespace Go.Proofs.YtohhlnkdgfgjgaaDoor.P
open Go.RowKit Go.Proofs.YtohhlnkdgfgjgaaDoorW.PrintWords Go.Proofs.YtohhlnkdgfgjgaaDoorW.PrintLast Go.Proofs.YtohhlnkdgfgjgaaDoorW.PrintMore
attribute [local go_sem] min2_int min_two max2_int max_two
def Lf (s : List Int) : List Th := [([⟨#[102]⟩], false, s)]
def wrote (s : List Int) (p : Nat) (xs : List Int) : List Int := if xs = [] then s else written s p xs
theorem cut_f' : cutB ⟨#[47, 102]⟩ = ([⟨#[102]⟩], true) := by decide +kernel
theorem file_f (s : List Int) : fileE (Lf s) ⟨#[47, 102]⟩ = 0 := by
  unfold fileE findE isDir
  rw [cut_f']
  rfl
theorem bytes_f (s : List Int) : bytesAt (Lf s) (cutB ⟨#[47, 102]⟩).1 = s := by
  unfold bytesAt
  rw [cut_f']
  rfl
theorem short_f {s : List Int} (h : s.length ≤ 268435456) : Short (Lf s) := short_of (fun x hx => by
  simp [Lf] at hx
  subst hx
  exact h)
theorem set_f (s s' : List Int) : setT (Lf s) (cutB ⟨#[47, 102]⟩).1 s' = Lf s' := by
  rw [cut_f']
  rfl
theorem wrote_length (s : List Int) (p : Nat) (xs : List Int) : (wrote s p xs).length = if xs = [] then s.length else max s.length (p + xs.length) := by
  unfold wrote
  split
  · rfl
  · rw [written_length]
/-- The byte at a place. -/
theorem written_at (s : List Int) (p : Nat) (xs : List Int) (i : Nat) : (written s p xs).getD i 0 = if p ≤ i ∧ i - p < xs.length then xs.getD (i - p) 0 else s.getD i 0 := by
  have hs : ∀ j, (sized s (max s.length (p + xs.length))).getD j 0 = s.getD j 0 := by
    intro j
    unfold sized
    rw [List.take_of_length_le (by omega)]
    rw [List.getD_eq_getElem?_getD, List.getD_eq_getElem?_getD, List.getElem?_append]
    split
    · rfl
    · rename_i h
      rw [List.getElem?_replicate, List.getElem?_eq_none (by omega)]
      split <;> rfl
  have hl : (sized s (max s.length (p + xs.length))).length = max s.length (p + xs.length) := sized_length _ _
  unfold written
  rw [← hs i]
  generalize sized s (max s.length (p + xs.length)) = L at hl ⊢
  unfold splice
  have e1 : (L.take p).length = p := by rw [List.length_take]; omega
  simp only [List.getD_eq_getElem?_getD]
  by_cases h1 : i < p
  · rw [List.getElem?_append_left (by omega), if_neg (by omega), List.getElem?_take, if_pos h1]
  · rw [List.getElem?_append_right (by omega), e1]
    by_cases h2 : i - p < xs.length
    · rw [List.getElem?_append_left h2, if_pos ⟨by omega, h2⟩]
    · rw [List.getElem?_append_right (by omega), if_neg (by omega), List.getElem?_drop]
      congr 2
      omega
theorem wrote_at (s : List Int) (p : Nat) (xs : List Int) (i : Nat) : (wrote s p xs).getD i 0 = if p ≤ i ∧ i - p < xs.length then xs.getD (i - p) 0 else s.getD i 0 := by
  unfold wrote
  split
  · rename_i h
    subst h
    rw [if_neg (by simp)]
  · exact written_at s p xs i
section
variable {w0 w w1 : World} {g N : Nat} {T : List Th}
theorem tr_create (h : St w0 w g 0 []) : Calls Tryd.prog 8 #[.pointer (some ⟨g, 0, none⟩), .string ⟨#[47, 102]⟩] w fun e w' => e = .returned (.int .i64 0) ∧ St w0 w' g 1 (Lf []) := by
  have := St.adds tree_Tree_Create.calls h ⟨#[47, 102]⟩ (by decide) (by decide)
  rw [show addE [] ⟨#[47, 102]⟩ = 0 by decide +kernel, show addT [] ⟨#[47, 102]⟩ false = Lf [] by decide +kernel] at this
  exact this
theorem tr_write {s : List Int} (h : St w0 w g 1 (Lf s)) (p : Nat) (A : Option Addr) (n c : Nat) (xs : List Int) (hn : xs.length = n) (hx : 0 < n → RdB w0 A n xs) (hp : p ≤ 1500) (hl : n ≤ 500) (hs : s.length ≤ 2000) :
    Calls Tryd.prog 9 #[.pointer (some ⟨g, 0, none⟩), .string ⟨#[47, 102]⟩, .int .i64 p, .slice A n c] w fun e w' => e = .returned (.int .i64 0) ∧ St w0 w' g 1 (Lf (wrote s p xs)) := by
  subst hn
  have := St.write h (Below.refl _ _) ⟨#[47, 102]⟩ (by decide) p A c xs (fun h0 => (hx h0).below h.base) (fun h0 a ha => .inl (by
    rcases (hx h0).2 with ⟨_, e⟩ | ⟨b, off, e, hc⟩
    · omega
    · rw [e] at ha
      cases ha
      exact World.block_lt_of_cell? w0 _ (hc 0 _ (List.getElem?_eq_getElem h0)))) (short_f (by omega))
  have e0 : writeE (Lf s) ⟨#[47, 102]⟩ p xs.length = 0 := by
    unfold writeE
    rw [file_f, if_neg (by decide), if_neg (by omega)]
  have eT : writeT (Lf s) ⟨#[47, 102]⟩ p xs = Lf (wrote s p xs) := by
    unfold writeT
    rw [e0]
    by_cases h0 : xs = []
    · rw [if_neg (fun e => e.2 h0)]
      unfold wrote
      rw [if_pos h0]
    · rw [if_pos ⟨rfl, h0⟩, bytes_f, set_f, Int.toNat_natCast]
      unfold wrote
      rw [if_neg h0]
  rw [e0, eT] at this
  exact this
theorem tr_read {s : List Int} (h : St w0 w g 1 (Lf s)) (n : Nat) (hn : s.length = n) (hs : n ≤ 5000) :
    Calls Tryd.prog 10 #[.pointer (some ⟨g, 0, none⟩), .string ⟨#[47, 102]⟩, .int .i64 0, .int .i64 5000] w fun e w' => ∃ (A : Option Addr) (c : Nat), e = .returned (.tuple #[.slice A n c, .int .i64 0]) ∧ RdB w' A n s ∧ Below w0.heap.size w0 w' := by
  subst hn
  have := St.read h ⟨#[47, 102]⟩ (by decide) 0 5000 (short_f (by omega))
  have e0 : readE (Lf s) ⟨#[47, 102]⟩ 0 5000 = 0 := by
    unfold readE
    rw [file_f]
    rfl
  have eB : readB (Lf s) ⟨#[47, 102]⟩ 0 5000 = s := by
    unfold readB
    rw [e0, if_pos rfl, bytes_f]
    show (s.drop 0).take 5000 = s
    rw [List.drop_zero, List.take_of_length_le hs]
  rw [e0, eB] at this
  exact this.mono fun e w' ⟨A, c, he, ho, hb⟩ => ⟨A, c, he, (RdB.of_own ho).1, h.base.trans (hb.mono h.base.size)⟩
theorem RdB.at {w : World} {A : Option Addr} {n : Nat} {xs : List Int} (h : RdB w A n xs) (h0 : 0 < n) : ∃ ad, A = some ad ∧ ∀ j, j < n → w.cell? (ad.add j) = some (.int .u8 (xs.getD j 0)) := by
  rcases h.2 with ⟨_, e⟩ | ⟨b, off, e, hc⟩
  · omega
  · refine ⟨_, e, fun j hj => ?_⟩
    rw [addr_add]
    refine hc j _ ?_
    have hl := h.1
    rw [List.getD_eq_getElem?_getD, List.getElem?_eq_getElem (by omega)]
    rfl
end
end Go.Proofs.YtohhlnkdgfgjgaaDoor.P
