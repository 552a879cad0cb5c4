/- The thirteenth chapter's example lives. -/
import Derived.Test.YtohhlnkdgfgjgaaDoorTn
import Derived.Lib.SlBytesConst
namespace Go.Proofs.YtohhlnkdgfgjgaaDoor.P
open Go.RowKit Go.Proofs.YtohhlnkdgfgjgaaDoorW.PrintWords Go.Proofs.YtohhlnkdgfgjgaaDoorW.PrintLast Go.Proofs.YtohhlnkdgfgjgaaDoorW.PrintMore
def La : List Th := [([⟨#[97]⟩], true, [])]
def Lab : List Th := [([⟨#[97]⟩], true, []), ([⟨#[97]⟩, ⟨#[98]⟩], false, [])]
def Labx : List Th := [([⟨#[97]⟩], true, []), ([⟨#[97]⟩, ⟨#[98]⟩], false, [0, 0, 120])]
theorem look_in {T : List Th} {p : List ByteArray} {y : Bool × List Int} (h : look T p = some y) : (p, y) ∈ T := by
  induction T with
  | nil => cases h
  | cons x T ih =>
    obtain ⟨q, z⟩ := x
    rw [look] at h
    by_cases e : q = p
    · rw [if_pos e] at h
      cases h
      rw [e]
      exact List.mem_cons_self
    · rw [if_neg e] at h
      exact List.mem_cons_of_mem _ (ih h)
theorem short_of {T : List Th} (h : ∀ x ∈ T, x.2.2.length ≤ 268435456) : Short T := fun p d s hp => by
  by_cases e : p = []
  · subst e
    rw [at_nil] at hp
    cases hp
    decide
  · rw [at_cons _ e] at hp
    exact h _ (look_in hp)
section
variable {w0 w w1 : World} {g N : Nat} {T : List Th}
theorem l13_a (h : St w0 w g 0 []) : Calls Tryd.prog 18 #[.pointer (some ⟨g, 0, none⟩), .string ⟨#[47, 97]⟩] w fun e w' => e = .returned (.int .i64 0) ∧ St w0 w' g 1 La := by
  have := St.adds tree_Tree_Mkdir.calls h ⟨#[47, 97]⟩ (by decide) (by decide)
  rw [show addE [] ⟨#[47, 97]⟩ = 0 by decide +kernel, show addT [] ⟨#[47, 97]⟩ true = La by decide +kernel] at this
  exact this
theorem l13_ab (h : St w0 w g 1 La) : Calls Tryd.prog 8 #[.pointer (some ⟨g, 0, none⟩), .string ⟨#[47, 97, 47, 98]⟩] w fun e w' => e = .returned (.int .i64 0) ∧ St w0 w' g 2 Lab := by
  have := St.adds tree_Tree_Create.calls h ⟨#[47, 97, 47, 98]⟩ (by decide) (by decide)
  rw [show addE La ⟨#[47, 97, 47, 98]⟩ = 0 by decide +kernel, show addT La ⟨#[47, 97, 47, 98]⟩ false = Lab by decide +kernel] at this
  exact this
theorem l13_x (h : St w0 w g 2 Lab) (hb : Below w.heap.size w w1) (b c : Nat) (hc : w1.cell? ⟨b, 0, none⟩ = some (.int .u8 120)) (hle : w.heap.size ≤ b) :
    Calls Tryd.prog 9 #[.pointer (some ⟨g, 0, none⟩), .string ⟨#[47, 97, 47, 98]⟩, .int .i64 2, .slice (some ⟨b, 0, none⟩) 1 c] w1 fun e w' => e = .returned (.int .i64 0) ∧ St w0 w' g 2 Labx := by
  have := St.write h hb ⟨#[47, 97, 47, 98]⟩ (by decide) 2 (some ⟨b, 0, none⟩) c [120] (fun _ => ⟨rfl, .inr ⟨b, 0, rfl, fun j x hj => by
    match j, hj with
    | 0, hj => cases hj; exact hc
    | _ + 1, hj => cases hj⟩⟩) (fun _ a ha => by cases ha; exact .inr hle) (short_of (by decide))
  rw [show writeE Lab ⟨#[47, 97, 47, 98]⟩ 2 ([120] : List Int).length = 0 by decide +kernel, show writeT Lab ⟨#[47, 97, 47, 98]⟩ 2 [120] = Labx by decide +kernel] at this
  exact this
theorem l13_full (h : St w0 w g 2 Labx) : Calls Tryd.prog 19 #[.pointer (some ⟨g, 0, none⟩), .string ⟨#[47, 97]⟩] w fun e w' => e = .returned (.int .i64 8) ∧ Below w.heap.size w w' :=
  St.full h ⟨#[47, 97]⟩ (by decide) (by decide +kernel) (by decide +kernel) (by decide +kernel) (y := ⟨#[98]⟩) (by decide +kernel) (by decide)
theorem l13_read (h : St w0 w g 2 Labx) : Calls Tryd.prog 10 #[.pointer (some ⟨g, 0, none⟩), .string ⟨#[47, 97, 47, 98]⟩, .int .i64 0, .int .i64 9] w fun e w' => ∃ b c, e = .returned (.tuple #[.slice (some ⟨b, 0, none⟩) 3 c, .int .i64 0]) ∧ (convert 23 9 (.slice (some ⟨b, 0, none⟩) 3 c)).run Tryd.prog w' = .ok (.string ⟨#[0, 0, 120]⟩) w' ∧ Below w.heap.size w w' := by
  have := St.read h ⟨#[47, 97, 47, 98]⟩ (by decide) 0 9 (short_of (by decide))
  rw [show readE Labx ⟨#[47, 97, 47, 98]⟩ 0 9 = 0 by decide +kernel, show readB Labx ⟨#[47, 97, 47, 98]⟩ 0 9 = [0, 0, 120] by decide +kernel] at this
  refine this.mono fun e w' ⟨A, c, he, ho, hb⟩ => ?_
  obtain ⟨b, cur, rfl, hh, _⟩ := own_row ho (by decide)
  refine ⟨b, c, he, ?_, hb⟩
  have hcell : ∀ i, i < 3 → w'.cell? ⟨b, 0 + i, none⟩ = some (.int .u8 (([0, 0, 120] : List Int).getD i 0)) := by
    intro i hi
    refine owns_cellsB ho i _ ?_
    match i, hi with
    | 0, _ => rfl
    | 1, _ => rfl
    | 2, _ => rfl
  have h2 := run_convert_bytes_arg (P := Tryd.prog) w' 23 5 Tryd.underlying23 Tryd.underlying5 b 0 3 c [0, 0, 120] rfl hcell 9 Tryd.underlying9
  rw [h2]
  rfl
end
set_option maxHeartbeats 4000000 in
set_option maxRecDepth 100000 in
theorem lives13 (w : World) : Calls Tryd.prog 6 #[] w fun e w' => e = .returned (.bool true) ∧ Below w.heap.size w w' := by
  have kc := fun (w : World) (C : Array Value) (n c : Nat) => Lib.run_convert_bytes_const (P := Tryd.prog) w 23 5 C n c Tryd.underlying23 Tryd.underlying5
  go_enter Tryd.func6, Tryd.ntmps6
  go_wp2_with fail
  refine (St.new (Below.refl w.heap.size w)).mono ?_
  rintro e w1 ⟨g, rfl, h1⟩
  have H1 := Aside0.mk h1
  clear h1
  go_wp2_with fail
  refine (cantlelaw12_Lives.calls true _ lives12).mono ?_
  rintro e w2 ⟨rfl, hb2⟩
  have H2 := Aside0.mk (H1.out.below hb2)
  go_wp2_with fail
  refine (l13_a H2.out).mono ?_
  rintro e w3 ⟨rfl, h3⟩
  have H3 := Aside0.mk h3
  clear h3
  go_wp2_with fail
  refine (l13_ab H3.out).mono ?_
  rintro e w4 ⟨rfl, h4⟩
  have H4 := Aside0.mk h4
  clear h4
  go_wp2_with fail
  refine (l13_x H4.out (below_alloc (Below.refl _ _) _) _ 1 (by rw [cell_new _ _ _ _ _ _ rfl]; rfl) (Nat.le_refl _)).mono ?_
  rintro e w5 ⟨rfl, h5⟩
  have H5 := Aside0.mk h5
  clear h5
  go_wp2_with fail
  refine (l13_full H5.out).mono ?_
  rintro e w6 ⟨rfl, hb6⟩
  have H6 := Aside0.mk (H5.out.below hb6)
  go_wp2_with fail
  refine (l13_read H6.out).mono ?_
  rintro e w7 ⟨b, c, rfl, hconv, hb7⟩
  have H7 := Aside0.mk (H6.out.below hb7)
  have hs : ((⟨#[0, 0, 120]⟩ : ByteArray).toList == [0, 0, 120]) = true := by rw [Lib.toList_data]; rfl
  go_wp2_with fail
  go_ret
  exact ⟨rfl, H7.out.base⟩
end Go.Proofs.YtohhlnkdgfgjgaaDoor.P
