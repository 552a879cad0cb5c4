/- What the rows on paths share: how slices of strings are opened, and a world in which the two listed tables lie. -/
import Derived.Test.YtjbgebcgnmdjaaaDoorCards
import Derived.Test.YtjbgebcgnmdjaaaDoorTie
import Derived.Test.YtjbgebcgnmdjaaaDoorEA
import Derived.WalkKit
import Derived.ProofKit
import Derived.OpenShut
import Derived.ShutString
import Derived.ChangeOld
import Derived.Below
import Derived.SizedLaws
import Derived.SliceStrings
import Derived.Deep.DeepHandedRow
import Derived.Lib.LaidTab
namespace Go.Proofs.YtjbgebcgnmdjaaaDoor.RowOf
open Go.ChangeShapes Go.WideShapes Go.ChangeAt Go.RowKit
open Go.ChangeMaps (open_string shut_string)
open Go.Proofs.YtjbgebcgnmdjaaaDoorW.PrintWords
theorem own : ownKnob Tryd.prog.godebug = none := by kernel_rfl
theorem laidOut : laidOutB Tryd.prog = true := by kernel_rfl
/-- A slice of strings that came in: a row that is read, and no longer than its weight allows. -/
theorem opened {H : Type} {enc : TypeId × Value → H} {W : World} {a : Option Addr} {len cap : Nat} {d : DataW H} {ps : List MemPlace} {ts : List TypeId} {ds : List (DataW H)} {j : Nat}
    (hsz : (DataW.weightsEach Tryd.prog ts ds).all (· ≤ reachBytes) = true) (ht : ts[j]? = some 22) (hd : ds[j]? = some d)
    (h : DataW.Trod enc Tryd.prog W 0 (fun _ => true) true 22 (.slice a len cap) d ps) :
    ∃ l : List ByteArray, len = l.length ∧ l.length ≤ cap ∧ Kd.C Kd.string W a l.length l ∧ l.length * 16 ≤ 140737488351232 := by
  obtain ⟨fuel, hf⟩ := h
  rcases open_strings Tryd.underlying22 Tryd.underlying9 (by kernel_rfl) hf with ⟨hcs, _⟩ | ⟨x, l, c, ss, hcs, _, hl, hm, hz, hx, hcell, _⟩
  · simp [Value.cells] at hcs
    obtain ⟨rfl, rfl, rfl⟩ := hcs
    exact ⟨[], rfl, Nat.le_refl _, Kd.C_nil _ _, by simp⟩
  · simp [Value.cells] at hcs
    obtain ⟨rfl, rfl, rfl⟩ := hcs
    obtain ⟨hx, _⟩ := Prod.mk.inj hx
    subst hx
    have hzl : len ≤ ss.length := by
      rw [hz]
      split
      · exact hl
      · exact Nat.le_refl _
    have hlen : (ss.take len).length = len := by rw [List.length_take]; omega
    have z := sized_slice hsz ht hd Tryd.underlying22
    rw [show Tryd.prog.bytesOf 9 = 16 by kernel_rfl] at z
    have h1 : (strs (H := H) (ss.take len)).length + (strs (H := H) (ss.drop len)).length = ss.length := by
      simp [strs]
      omega
    rw [h1] at z
    have z2 : len * 16 ≤ 140737488351232 := Nat.le_trans (Nat.mul_le_mul_right _ hzl) z
    refine ⟨ss.take len, hlen.symm, by rw [hlen]; exact hl, ⟨rfl, by rw [hlen]; omega, fun h0 => ⟨x, rfl, fun j p hj => ?_⟩⟩, by rw [hlen]; exact z2⟩
    have hj' : j < len := by have := (List.getElem?_eq_some_iff.1 hj).1; omega
    have hp : ss[j]? = some p := by rw [List.getElem?_take, if_pos hj'] at hj; exact hj
    refine ⟨[.string p], rfl, rfl, fun i u hu => ?_⟩
    match i, hu with
    | 0, hu =>
      cases hu
      have := hcell j (by omega)
      rw [List.getD_eq_getElem?_getD, hp] at this
      rw [show Kd.string.sz = 1 from rfl, Nat.mul_one, Nat.add_zero]
      exact this
    | _ + 1, hu => cases hu
/-- A world for the witness: the settled one, the two tables holding what their initialisers lay. -/
def lay (A : Array Value) : Obj → Obj
  | .cells _ t fr => .cells A t fr
  | o => o
noncomputable def laidHeap (os : Os) : Array Obj :=
  Array.modify (Array.modify (World.holding Tryd.prog os ⟨#[], #[], []⟩).heap 1 (lay (Go.Pinned.utf8FirstZ.map fun (n : Nat) => Value.int .u8 (Int.ofNat n)).toArray)) 2 (lay #[.int .u8 128, .int .u8 191, .int .u8 160, .int .u8 191, .int .u8 128, .int .u8 159, .int .u8 144, .int .u8 191, .int .u8 128, .int .u8 143, .int .u8 0, .int .u8 0, .int .u8 0, .int .u8 0, .int .u8 0, .int .u8 0, .int .u8 0, .int .u8 0, .int .u8 0, .int .u8 0, .int .u8 0, .int .u8 0, .int .u8 0, .int .u8 0, .int .u8 0, .int .u8 0, .int .u8 0, .int .u8 0, .int .u8 0, .int .u8 0, .int .u8 0, .int .u8 0])
noncomputable def laidWorld (os : Os) : World := { World.holding Tryd.prog os ⟨#[], #[], []⟩ with heap := laidHeap os }
end Go.Proofs.YtjbgebcgnmdjaaaDoor.RowOf
