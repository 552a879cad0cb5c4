/- What the rows share: how a slice of bytes is opened, and a world in which the listed tables lie. -/
import Derived.Test.YtohhlnkdgfgjgaaDoorCards
import Derived.Test.YtohhlnkdgfgjgaaDoorTie
import Derived.Test.YtohhlnkdgfgjgaaDoorTT
import Derived.WalkKit
import Derived.ProofKit
import Derived.OpenShut
import Derived.ShutString
import Derived.ChangeOld
import Derived.Below
import Derived.SizedLaws
import Derived.SliceStrings
import Derived.Lib.SmallJoins
import Derived.ChangeSlices
import Derived.Deep.DeepHandedRow
import Derived.Lib.LaidTab
namespace Go.Proofs.YtohhlnkdgfgjgaaDoor.RowOf
open Go.ChangeShapes Go.WideShapes Go.ChangeAt Go.RowKit
open Go.ChangeMaps (open_string shut_string)
open Go.Proofs.YtohhlnkdgfgjgaaDoorW.PrintWords
theorem own : ownKnob Tryd.prog.godebug = none := by kernel_rfl
theorem laidOut : laidOutB Tryd.prog = true := by kernel_rfl
/-- A slice of bytes that came in, as the walks read it. -/
theorem opened {H : Type} {enc : TypeId × Value → H} {W : World} {a : Option Addr} {len cap : Nat} {d : DataW H} {ps : List MemPlace}
    (h : DataW.Trod enc Tryd.prog W 0 (fun _ => true) true 23 (.slice a len cap) d ps) : ∃ xs : List Int, xs.length = len ∧ len ≤ cap ∧ (0 < len → P.RdB W a len xs) ∧ (∀ x ∈ xs, 0 ≤ x ∧ x ≤ 255) := by
  obtain ⟨fuel, hf⟩ := h
  rcases open_ints Tryd.underlying23 Tryd.underlying5 (by kernel_rfl) hf with ⟨hcs, _⟩ | ⟨x, l, c, zs, hcs, _, hl, hm, hz, hx, hcell, hw⟩
  · simp [Value.cells] at hcs
    obtain ⟨rfl, rfl, rfl⟩ := hcs
    exact ⟨[], rfl, Nat.le_refl _, fun h => absurd h (by decide), fun x hx => by cases hx⟩
  · simp [Value.cells] at hcs
    obtain ⟨rfl, rfl, rfl⟩ := hcs
    have hzl : len ≤ zs.length := by
      rw [hz]
      split
      · exact hl
      · exact Nat.le_refl _
    have hlen : (zs.take len).length = len := by rw [List.length_take]; omega
    refine ⟨zs.take len, hlen, hl, fun h0 => ⟨hlen, .inr ?_⟩, fun y hy => ?_⟩
    · obtain ⟨b, off, sp⟩ := x
      have h0' := hcell 0 (by omega)
      have hs : sp = none := by
        have := P.spot_of_cell h0'
        simpa [Addr.add] using this
      subst hs
      refine ⟨b, off, rfl, fun j y hj => ?_⟩
      rw [List.getElem?_take] at hj
      split at hj
      · rename_i hj2
        have hjl : j < zs.length := by omega
        have := hcell j hjl
        rw [P.addr_add] at this
        rw [this, List.getD_eq_getElem?_getD, hj]
        rfl
      · cases hj
    · have := hw y (List.mem_of_mem_take hy)
      simp only [Lit.wf, Bool.and_eq_true, decide_eq_true_eq] at this
      exact this
theorem openI {H : Type} {enc : TypeId × Value → H} {W : World} {m : Nat} {v : Value} {y : DataW H × List MemPlace} (h : DataW.trod enc Tryd.prog W 0 (fun _ => true) true m 27 [v] = some y) : ∃ n : Int, v = .int .i64 n := by
  obtain ⟨n, hx, _⟩ := DataW.trod_int Tryd.underlying27 h
  exact ⟨n, by simpa using hx⟩
theorem openB {H : Type} {enc : TypeId × Value → H} {W : World} {m : Nat} {v : Value} {y : DataW H × List MemPlace} (h : DataW.trod enc Tryd.prog W 0 (fun _ => true) true m 23 [v] = some y) : ∃ (a : Option Addr) (c : Nat) (xs : List Int), v = .slice a xs.length c ∧ xs.length ≤ c ∧ Kd.C (Kd.int .u8) W a xs.length xs := by
  rcases open_ints Tryd.underlying23 Tryd.underlying5 (by kernel_rfl) h with ⟨hcs, _⟩ | ⟨x, l, c, zs, hcs, _, hl, hm, hz, hx, hcell, hw⟩
  · simp at hcs
    exact ⟨none, 0, [], hcs, Nat.le_refl _, Kd.C_nil _ _⟩
  · simp at hcs
    have hzl : l ≤ zs.length := by
      rw [hz]
      split
      · exact hl
      · exact Nat.le_refl _
    have hlen : (zs.take l).length = l := by rw [List.length_take]; omega
    refine ⟨some x, c, zs.take l, by rw [hlen]; exact hcs, by rw [hlen]; exact hl, ⟨rfl, by rw [hlen]; unfold maxLen at hm; omega, fun h0 => ⟨x, rfl, fun j p hj => ?_⟩⟩⟩
    have hj' : j < l := by have := (List.getElem?_eq_some_iff.1 hj).1; omega
    have hp : zs[j]? = some p := by rw [List.getElem?_take, if_pos hj'] at hj; exact hj
    refine ⟨[.int .u8 p], rfl, rfl, fun i u hu => ?_⟩
    match i, hu with
    | 0, hu =>
      cases hu
      have := hcell j (by omega)
      rw [List.getD_eq_getElem?_getD, hp] at this
      rw [show (Kd.int .u8).sz = 1 from rfl, Nat.mul_one, Nat.add_zero]
      exact this
    | _ + 1, hu => cases hu
theorem openS {H : Type} {enc : TypeId × Value → H} {W : World} {m : Nat} {v : Value} {y : DataW H × List MemPlace} (h : DataW.trod enc Tryd.prog W 0 (fun _ => true) true m 38 [v] = some y) : ∃ (a : Option Addr) (c : Nat) (xs : List ByteArray), v = .slice a xs.length c ∧ xs.length ≤ c ∧ Kd.C Kd.string W a xs.length xs := by
  rcases open_strings Tryd.underlying38 Tryd.underlying9 (by kernel_rfl) h with ⟨hcs, _⟩ | ⟨x, l, c, zs, hcs, _, hl, hm, hz, hx, hcell, hw⟩
  · simp at hcs
    exact ⟨none, 0, [], hcs, Nat.le_refl _, Kd.C_nil _ _⟩
  · simp at hcs
    have hzl : l ≤ zs.length := by
      rw [hz]
      split
      · exact hl
      · exact Nat.le_refl _
    have hlen : (zs.take l).length = l := by rw [List.length_take]; omega
    refine ⟨some x, c, zs.take l, by rw [hlen]; exact hcs, by rw [hlen]; exact hl, ⟨rfl, by rw [hlen]; unfold maxLen at hm; omega, fun h0 => ⟨x, rfl, fun j p hj => ?_⟩⟩⟩
    have hj' : j < l := by have := (List.getElem?_eq_some_iff.1 hj).1; omega
    have hp : zs[j]? = some p := by rw [List.getElem?_take, if_pos hj'] at hj; exact hj
    refine ⟨[.string p], rfl, rfl, fun i u hu => ?_⟩
    match i, hu with
    | 0, hu =>
      cases hu
      have := hcell j (by omega)
      rw [List.getD_eq_getElem?_getD, hp] at this
      rw [show Kd.string.sz = 1 from rfl, Nat.mul_one, Nat.add_zero]
      exact this
    | _ + 1, hu => cases hu
/-- A world for the witness: the settled one, the tables holding what their initialisers lay. -/
def lay (A : Array Value) : Obj → Obj
  | .cells _ t fr => .cells A t fr
  | o => o
noncomputable def laidHeap (os : Os) : Array Obj :=
  Array.modify (Array.modify (World.holding Tryd.prog os ⟨#[], #[], []⟩).heap 2 (lay (Go.Pinned.utf8FirstZ.map fun (n : Nat) => Value.int .u8 (Int.ofNat n)).toArray)) 3 (lay #[.int .u8 128, .int .u8 191, .int .u8 160, .int .u8 191, .int .u8 128, .int .u8 159, .int .u8 144, .int .u8 191, .int .u8 128, .int .u8 143, .int .u8 0, .int .u8 0, .int .u8 0, .int .u8 0, .int .u8 0, .int .u8 0, .int .u8 0, .int .u8 0, .int .u8 0, .int .u8 0, .int .u8 0, .int .u8 0, .int .u8 0, .int .u8 0, .int .u8 0, .int .u8 0, .int .u8 0, .int .u8 0, .int .u8 0, .int .u8 0, .int .u8 0, .int .u8 0])
noncomputable def laidWorld (os : Os) : World := { World.holding Tryd.prog os ⟨#[], #[], []⟩ with heap := laidHeap os }
/-- The same, with the table of names. -/
noncomputable def laidNames (os : Os) : World := { laidWorld os with heap := ((laidHeap os).modify 0 (lay #[.slice (some ⟨(laidHeap os).size, 0, none⟩) 8 8])).push (.cells #[.string ⟨#[99, 114, 101, 97, 116, 101]⟩, .string ⟨#[109, 107, 100, 105, 114]⟩, .string ⟨#[119, 114, 105, 116, 101]⟩, .string ⟨#[116, 114, 117, 110, 99, 97, 116, 101]⟩, .string ⟨#[117, 110, 108, 105, 110, 107]⟩, .string ⟨#[114, 109, 100, 105, 114]⟩, .string ⟨#[114, 101, 97, 100]⟩, .string ⟨#[108, 105, 115, 116]⟩] 9 (0, 0)) }
end Go.Proofs.YtohhlnkdgfgjgaaDoor.RowOf
