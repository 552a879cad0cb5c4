/- strings.IndexRune finds no rune from 128 on in the text of a slash and a nought. -/
import Derived.Test.YtohhlnkdgfgjgaaDoorShelf
import Derived.Laws.Runes
import Derived.Laws.RangeAny
import Derived.WalkKit
import Derived.Deep.QuietTactic
import Derived.BigQuiet
import Derived.Deep.LoopGhost
import Derived.Lib.Hide
import Derived.Lib.OthersKept
import Derived.WalkMore
import Derived.Outline
import Derived.Deep.DeepMust
namespace Go.Proofs.YtohhlnkdgfgjgaaDoor.P
open Go.RowKit Go.Lib
def chars2 : ByteArray := ⟨#[47, 0]⟩
theorem below_dn (w : World) (n : Nat) : Below w.heap.size w (w.drewN n) := ⟨rfl, rfl, rfl, Nat.le_refl _, fun _ _ => rfl⟩
theorem c2_size : chars2.size = 2 := rfl
theorem c2_at0 (h : 0 < chars2.size) : chars2[0]'h = 47 := rfl
theorem c2_at1 (h : 1 < chars2.size) : chars2[1]'h = 0 := rfl
set_option maxHeartbeats 4000000 in
set_option maxRecDepth 1000000 in
theorem indexRune_err (w : World) : Calls Tryd.prog 67 #[.string chars2, .int .i32 65533] w fun e w' => e = .returned (.int .i64 (-1)) ∧ Below w.heap.size w w' := by
  have n0 : ∀ ty, (Instr.next (.pointer (some ⟨w.heap.size, 0, none⟩)) true ty).run Tryd.prog (w.iter chars2 0) = .ok (.tuple #[.bool true, .int .i64 0, .int .i32 47]) (w.iter chars2 1) := fun ty => run_next_ascii (P := Tryd.prog) w chars2 0 ty (by decide) (by decide)
  have n1 : ∀ ty, (Instr.next (.pointer (some ⟨w.heap.size, 0, none⟩)) true ty).run Tryd.prog (w.iter chars2 1) = .ok (.tuple #[.bool true, .int .i64 1, .int .i32 0]) (w.iter chars2 2) := fun ty => run_next_ascii (P := Tryd.prog) w chars2 1 ty (by decide) (by decide)
  have n2 : ∀ ty, (Instr.next (.pointer (some ⟨w.heap.size, 0, none⟩)) true ty).run Tryd.prog (w.iter chars2 2) = .ok (.tuple #[.bool false]) (w.iter chars2 2) := fun ty => run_next_end (P := Tryd.prog) w chars2 2 ty (by decide)
  go_enter Tryd.func67, Tryd.ntmps67
  go_wp2
  go_loopg [5, 6] 2 (fun g _ _ wx => ∃ i : Nat, i + g = 2 ∧ wx = w.iter chars2 i)
  case atStart => exact ⟨0, rfl, rfl⟩
  case round =>
    obtain ⟨i, hi, rfl⟩ := hrel
    cases gk with
    | zero =>
      obtain rfl : i = 2 := by omega
      go_wp2
      go_ret
      exact ⟨rfl, Below.alloc (Below.refl _ _) (Nat.le_refl _) _⟩
    | succ g =>
      cases g with
      | zero =>
        obtain rfl : i = 1 := by omega
        go_wp2
        go_roundg 0
        case measure => omega
        case rel => exact ⟨2, rfl, rfl⟩
      | succ g =>
        obtain rfl : i = 0 := by omega
        obtain rfl : g = 0 := by omega
        go_wp2
        go_roundg 1
        case measure => omega
        case rel => exact ⟨1, rfl, rfl⟩
set_option maxHeartbeats 4000000 in
set_option maxRecDepth 1000000 in
theorem indexRune_high (r : Int) (h0 : 128 ≤ r) (h1 : r ≤ 1114111) (hv : Lib.validRune r = true) (hne : (r == 65533) = false) (w : World) : Calls Tryd.prog 67 #[.string chars2, .int .i32 r] w fun e w' => e = .returned (.int .i64 (-1)) ∧ Below w.heap.size w w' := by
  unfold chars2
  obtain ⟨e2, e4, el⟩ := encode_facts r (by rw [validRune_eq]; exact hv) h0
  have hcv : ∀ W : World, (convert 21 9 (.int .i32 r)).run Tryd.prog W = .ok (.string (Utf8.encode r)) W := fun W => run_convert_int_string W 21 9 .i32 r rfl Tryd.underlying9
  generalize Utf8.encode r = rs at *
  by_cases hs : rs.size = 2
  · obtain ⟨a, x, rfl⟩ : ∃ a x : UInt8, rs = ⟨#[a, x]⟩ := by
      obtain ⟨⟨l⟩⟩ := rs
      match l, hs with
      | [a, x], _ => exact ⟨a, x, rfl⟩
    have hx128 : 128 ≤ x.toNat := el (by show 1 < 2; omega)
    clear el e2 e4 hs
    have hi0 : ∀ W : World, (Instr.index 9 (.string ⟨#[47, 0]⟩) (.int .i64 1)).run Tryd.prog W = .ok (.int .u8 0) W := fun W => by kernel_rfl
    have hi1 : ∀ W : World, (Instr.index 9 (.string ⟨#[a, x]⟩) (.int .i64 1)).run Tryd.prog W = .ok (.int .u8 (x.toNat : Int)) W := fun W => by kernel_rfl
    have hsl : ∀ W : World, (Instr.slice 9 (.string ⟨#[47, 0]⟩) (some (.int .i64 2)) none none).run Tryd.prog W = .ok (.string ⟨#[]⟩) W := fun W => by kernel_rfl
    have hix : ∀ W : World, Calls Tryd.prog 73 #[.string ⟨#[]⟩, .int .u8 (x.toNat : Int)] W fun e w' => e = .returned (.int .i64 (-1)) ∧ w' = W := fun W => Tryd.strings_IndexByte ⟨#[]⟩ (x.toNat : Int) W
    have hw1 : IntKind.i64.wrap (1 + 1) = 2 := by decide
    have hw2 : IntKind.i64.wrap 2 = 2 := by decide
    have HIX := Lib.hid hix
    clear hix
    have hz : ((x.toNat : Int) == 0) = false := beq_eq_false_iff_ne.2 (by omega)
    have hz1 : ((0 : Int) == (x.toNat : Int)) = false := beq_eq_false_iff_ne.2 (by omega)
    have hz2 : ((0 : Int) != (x.toNat : Int)) = true := bne_iff_ne.2 (by omega)
    go_enter Tryd.func67, Tryd.ntmps67
    go_wp2_with (go_at_call 74; refine (Tryd.utf8_ValidRune r _).mono ?_; rintro e w' ⟨rfl, hw⟩; rw [hw, hv])
    go_step3
    go_wp2
    refine wp_loop_once ?_
    go_wp2
    go_step3
    go_wp2
    go_quiet (fail)
    go_wp2
    go_quiet ((go_at_call 73; exact (HIX.out _).mono fun e w1 hh => ⟨hh.1, _, hh.2⟩))
    go_wp2
    simp +zetaDelta only [Exit.noGoto_ret, Exit.inBlock, Exit.then]
    go_ret
    exact ⟨rfl, below_dn _ _⟩
  · have hl1 : ¬ ((rs.size : Int) - 1 < 2) := by omega
    have hl2 : decide ((rs.size : Int) - 1 < 2) = false := decide_eq_false hl1
    clear el
    go_enter Tryd.func67, Tryd.ntmps67
    go_wp2_with (go_at_call 74; refine (Tryd.utf8_ValidRune r _).mono ?_; rintro e w' ⟨rfl, hw⟩; rw [hw, hv])
    go_step3
    go_wp2
    refine wp_loop_once ?_
    go_wp2
    rw [Exit.noGoto_ret]
    go_ret
    exact ⟨rfl, Below.refl _ _⟩
end Go.Proofs.YtohhlnkdgfgjgaaDoor.P
