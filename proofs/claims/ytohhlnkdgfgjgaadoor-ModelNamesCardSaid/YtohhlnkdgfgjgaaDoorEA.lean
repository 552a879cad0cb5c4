/- slices.Clone of strings hands back a row of the call's own with the same elements. -/
import Derived.Test.YtohhlnkdgfgjgaaDoorPx0
import Derived.Test.YtohhlnkdgfgjgaaDoorShelf
namespace Go.Proofs.YtohhlnkdgfgjgaaDoor.P
open Go.RowKit Go.Proofs.YtohhlnkdgfgjgaaDoorW.PrintWords Go.Proofs.YtohhlnkdgfgjgaaDoorW.PrintLast Go.Proofs.YtohhlnkdgfgjgaaDoorW.PrintMore
theorem spot_of_cell {w : World} {a : Addr} {v : Value} (h : w.cell? a = some v) : a.spot = none := by
  unfold World.cell? at h
  split at h
  · split at h
    · cases h
    · rename_i h'; simpa using h'
  · cases h
/-- A row of strings that is read: its cells, plainly. -/
theorem strings_at {w : World} {A : Option Addr} {n : Nat} {l : List ByteArray} (h : Kd.C Kd.string w A n l) (hn : 0 < n) :
    ∃ b off, A = some ⟨b, off, none⟩ ∧ b < w.heap.size ∧ ∀ j x, l[j]? = some x → w.cell? ⟨b, off + j, none⟩ = some (.string x) := by
  obtain ⟨hl, _, hc0⟩ := h
  obtain ⟨ad, rfl, hc1⟩ := hc0 hn
  have hat : ∀ j x, l[j]? = some x → w.cell? (ad.add j) = some (.string x) := by
    intro j x hx
    obtain ⟨c, hs, hr, hcell⟩ := hc1 j x hx
    have hr' : c = [Value.string x] := hr
    subst hr'
    have := hcell 0 _ rfl
    simpa [show Kd.string.sz = 1 from rfl] using this
  have h0 := hat 0 _ (List.getElem?_eq_getElem (by omega))
  have hs : ad.spot = none := by
    have := spot_of_cell h0
    simpa [Addr.add] using this
  obtain ⟨b, off, sp⟩ := ad
  simp only at hs
  subst hs
  have hb : b < w.heap.size := by
    have := World.block_lt_of_cell? w _ h0
    simpa [Addr.add] using this
  refine ⟨b, off, rfl, hb, fun j x hx => ?_⟩
  have := hat j x hx
  unfold Addr.add at this
  by_cases hj : j = 0
  · subst hj; simpa using this
  · rw [if_neg hj] at this; exact this
theorem R_strings {w : World} {base : Nat} {v : Value} {n : Nat} {l : List ByteArray} (h : w.ownsRow base 9 1 v n (l.map Value.string)) (hn : n = l.length) : Kd.R Kd.string 9 w base (fun _ => True) v l := by
  subst hn
  exact Kd.R_of_own (enc := Value.string) h (fun _ _ => trivial)
def slices_Clone_string_string.f (l0 : List ByteArray) : Option (List ByteArray) := if l0.length < 8796093022208 then some l0 else none
theorem slices_Clone_string_string.calls (A0 : Option Addr) (c0 : Nat) (l0 : List ByteArray) (r : List ByteArray) (w : World) (hr0 : Kd.C Kd.string w A0 l0.length l0) (hc0 : l0.length ≤ c0) (h : slices_Clone_string_string.f l0 = some r) :
    Calls Tryd.prog 40 #[.slice A0 l0.length c0] w fun e w' => ∃ v0_ : Value, e = .returned (v0_) ∧ Kd.R Kd.string 9 w' w.heap.size (fun _ => True) v0_ r ∧ Below w.heap.size w w' := by
  unfold slices_Clone_string_string.f at h
  split at h
  · rename_i hlt
    obtain rfl := Option.some.inj h
    rcases Nat.eq_zero_or_pos l0.length with h0 | h0
    · obtain rfl : l0 = [] := List.eq_nil_of_length_eq_zero h0
      cases A0 with
      | none =>
        refine (Tryd.slices_Clone_string_nil 0 c0 w).mono fun e w' ⟨he, hw⟩ => ⟨_, he, Kd.R_nil _ _ _ _ _, ?_⟩
        rw [hw]; exact Below.refl _ _
      | some a =>
        refine (Tryd.slices_Clone_string_zero a c0 w).mono fun e w' ⟨v', he, ho, _, hb⟩ => ⟨v', he, R_strings ho rfl, hb⟩
    · obtain ⟨b, off, rfl, _, hc⟩ := strings_at hr0 h0
      refine (Tryd.slices_Clone_string b off l0.length c0 l0 w (Nat.le_refl _) (by omega) fun j hj => ?_).mono fun e w' ⟨v', he, ho, _, hb⟩ => ⟨v', he, R_strings (by rw [List.take_length] at ho; exact ho) rfl, hb⟩
      rw [hc j _ (List.getElem?_eq_getElem hj)]
      simp [List.getD_eq_getElem?_getD, List.getElem?_eq_getElem hj]
  · cases h
end Go.Proofs.YtohhlnkdgfgjgaaDoor.P
