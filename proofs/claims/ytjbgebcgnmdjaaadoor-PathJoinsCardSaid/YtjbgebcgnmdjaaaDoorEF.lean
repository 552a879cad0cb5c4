/- cmp.Compare of strings answers which of two texts is ahead. -/
import Derived.Test.YtjbgebcgnmdjaaaDoorPx0
import Derived.WalkLawsBesides
namespace Go.Proofs.YtjbgebcgnmdjaaaDoor.P
open Go.RowKit Go.Proofs.YtjbgebcgnmdjaaaDoorW.PrintWords Go.Proofs.YtjbgebcgnmdjaaaDoorW.PrintLast Go.Proofs.YtjbgebcgnmdjaaaDoorW.PrintMore
def cmp_Compare_string.f (a0 a1 : ByteArray) : Option Int := some (if Op.bytesLess a0.toList a1.toList = true then -1 else if a0.toList = a1.toList then 0 else 1)
set_option maxHeartbeats 1000000 in
theorem cmp_Compare_string.calls (a0 : ByteArray) (a1 : ByteArray) (r : Int) (w : World) (h : cmp_Compare_string.f a0 a1 = some r) :
    Calls Tryd.prog 28 #[.string a0, .string a1] w fun e w' => e = .returned (.int .i64 r) ∧ Below w.heap.size w w' := by
  unfold cmp_Compare_string.f at h
  obtain rfl := Option.some.inj h
  clear h
  have hb : ∀ s : ByteArray, (s.toList != s.toList) = false := fun s => by simp
  by_cases h1 : Op.bytesLess a0.toList a1.toList = true
  · rw [if_pos h1]
    go_enter Tryd.func28, Tryd.ntmps28
    go_wp2
    all_goals (go_ret; exact ⟨rfl, Below.refl _ _⟩)
  · rw [if_neg h1]
    have h1' : Op.bytesLess a0.toList a1.toList = false := by simpa using h1
    clear h1
    by_cases h2 : a0.toList = a1.toList
    · rw [if_pos h2]
      have h2' : (a0.toList == a1.toList) = true := by simpa using h2
      clear h2
      go_enter Tryd.func28, Tryd.ntmps28
      go_wp2
      all_goals (go_ret; exact ⟨rfl, Below.refl _ _⟩)
    · rw [if_neg h2]
      have h2' : (a0.toList == a1.toList) = false := by simpa using h2
      clear h2
      go_enter Tryd.func28, Tryd.ntmps28
      go_wp2
      all_goals (go_ret; exact ⟨rfl, Below.refl _ _⟩)
end Go.Proofs.YtjbgebcgnmdjaaaDoor.P
