/- add: the walks. -/
import Derived.Test.YtohhlnkdgfgjgaaDoorTf
namespace Go.Proofs.YtohhlnkdgfgjgaaDoor.P
open Go.RowKit Go.Proofs.YtohhlnkdgfgjgaaDoorW.PrintWords Go.Proofs.YtohhlnkdgfgjgaaDoorW.PrintLast Go.Proofs.YtohhlnkdgfgjgaaDoorW.PrintMore
set_option maxHeartbeats 4000000 in
set_option maxRecDepth 100000 in
theorem add_goes {w : World} {own : Nat → Tag} {g : Nat} {nb : List ByteArray → Nat} {T : List Th} {s : ByteArray} (d : Bool) {n m : Nat} {x : ByteArray} {z : Int} (hz : z ≠ 0) (S0 : Goes w own g nb T s n m x z (.pointer none)) :
    Calls Tryd.prog 21 #[.pointer (some ⟨g, 0, none⟩), .string s, .bool d] w fun e w' => e = .returned (.int .i64 z) ∧ Below w.heap.size w w' := by
  have S := Aside0.mk S0
  have hne : (z == 0) = false := by simpa using hz
  clear S0 hz
  go_enter Tryd.func21, Tryd.ntmps21
  go_wp2_with (first | (go_at_call 28; (with_reducible refine S.out.split.mono ?_); rintro e w1 ⟨A, c, rfl, hb1, P1⟩) | (go_at_call 32; (with_reducible refine (P1.out _ (Below.refl _ _)).mono ?_); rintro e w2 ⟨A2, c2, rfl, hb2, W1⟩; have HB := Aside0.mk (hb1.trans (hb2.mono hb1.size))) | (go_at_call 33; (with_reducible refine (W1.out _ (Below.refl _ _)).mono ?_); rintro e w3 ⟨rfl, rfl⟩))
  go_ret
  exact ⟨rfl, HB.out⟩
set_option maxHeartbeats 4000000 in
set_option maxRecDepth 100000 in
theorem add_file {w : World} {own : Nat → Tag} {g : Nat} {nb : List ByteArray → Nat} {T : List Th} {s : ByteArray} (d : Bool) {n m : Nat} {x : ByteArray} {b : Nat} (S0 : Goes w own g nb T s n m x 0 (.pointer (some ⟨b, 0, none⟩))) (hk0 : w.cell? ⟨b, 0, none⟩ = some (.bool false)) :
    Calls Tryd.prog 21 #[.pointer (some ⟨g, 0, none⟩), .string s, .bool d] w fun e w' => e = .returned (.int .i64 6) ∧ Below w.heap.size w w' := by
  have S := Aside0.mk S0
  clear S0
  go_enter Tryd.func21, Tryd.ntmps21
  go_wp2_with (first | (go_at_call 28; (with_reducible refine S.out.split.mono ?_); rintro e w1 ⟨A, c, rfl, hb1, P1⟩) | (go_at_call 32; (with_reducible refine (P1.out _ (Below.refl _ _)).mono ?_); rintro e w2 ⟨A2, c2, rfl, hb2, W1⟩; have HB := Aside0.mk (hb1.trans (hb2.mono hb1.size)); have hk0' := pw_cell_below HB.out hk0) | (go_at_call 33; (with_reducible refine (W1.out _ (Below.refl _ _)).mono ?_); rintro e w3 ⟨rfl, rfl⟩))
  go_ret
  exact ⟨rfl, HB.out⟩
set_option maxHeartbeats 4000000 in
set_option maxRecDepth 100000 in
theorem add_there {w : World} {own : Nat → Tag} {g : Nat} {nb : List ByteArray → Nat} {T : List Th} {s : ByteArray} (d : Bool) {n m : Nat} {x : ByteArray} {b bm b1 : Nat} (S0 : Goes w own g nb T s n m x 0 (.pointer (some ⟨b, 0, none⟩))) (hk0 : w.cell? ⟨b, 0, none⟩ = some (.bool true)) (hk2 : w.cell? ⟨b, 2, none⟩ = some (.map (some bm)))
    (L : Aside0 (∀ w1, Below w.heap.size w w1 → (Instr.lookup 51 (.map (some bm)) (.string x) false).run Tryd.prog w1 = .ok (.pointer (some ⟨b1, 0, none⟩)) w1)) :
    Calls Tryd.prog 21 #[.pointer (some ⟨g, 0, none⟩), .string s, .bool d] w fun e w' => e = .returned (.int .i64 5) ∧ Below w.heap.size w w' := by
  have S := Aside0.mk S0
  clear S0
  go_enter Tryd.func21, Tryd.ntmps21
  go_wp2_with (first | (go_at_call 28; (with_reducible refine S.out.split.mono ?_); rintro e w1 ⟨A, c, rfl, hb1, P1⟩) | (go_at_call 32; (with_reducible refine (P1.out _ (Below.refl _ _)).mono ?_); rintro e w2 ⟨A2, c2, rfl, hb2, W1⟩; have HB := Aside0.mk (hb1.trans (hb2.mono hb1.size)); have hk0' := pw_cell_below HB.out hk0; have hk2' := pw_cell_below HB.out hk2; have hrun := L.out _ HB.out) | (go_at_call 33; (with_reducible refine (W1.out _ (Below.refl _ _)).mono ?_); rintro e w3 ⟨rfl, rfl⟩))
  go_ret
  exact ⟨rfl, HB.out⟩
set_option maxHeartbeats 8000000 in
set_option maxRecDepth 100000 in
theorem add_new {w : World} {own : Nat → Tag} {g : Nat} {nb : List ByteArray → Nat} {T : List Th} {s : ByteArray} (d : Bool) {n m : Nat} {x : ByteArray} {b bm N : Nat} {M : DataW Unit} (S0 : Goes w own g nb T s n m x 0 (.pointer (some ⟨b, 0, none⟩))) (hk0 : w.cell? ⟨b, 0, none⟩ = some (.bool true)) (hk2 : w.cell? ⟨b, 2, none⟩ = some (.map (some bm)))
    (L : Aside0 (∀ w1, Below w.heap.size w w1 → (Instr.lookup 51 (.map (some bm)) (.string x) false).run Tryd.prog w1 = .ok (.pointer none) w1))
    (hM : w.ownsMap Tryd.prog 9 ptrR bm N M) (hN : N < 1000000) (hxs : x.size ≤ maxLen) :
    Calls Tryd.prog 21 #[.pointer (some ⟨g, 0, none⟩), .string s, .bool d] w fun e w' => e = .returned (.int .i64 0) ∧ ∃ w2 w3 gn, Below w.heap.size w w2 ∧ Below w2.heap.size w2 w3 ∧ NewAt w2 w3 gn d ∧ w3.grownBy w' (some bm) ∧ w'.ownsMap Tryd.prog 9 ptrR bm (N + 1) (M.put (strL x) (.lit (.int .i64 (gn : Int)))) := by
  have S := Aside0.mk S0
  have CT := Aside0.mk (tree_thing.calls d)
  have hbl := hM.lt
  have HNE : Aside0 (b ≠ bm) := ⟨fun e => by
    subst e
    obtain ⟨es, ck, h1, _⟩ := hM
    unfold World.cell? at hk0
    rw [h1] at hk0
    simp at hk0⟩
  have K : Aside0 (∀ w3 gn, Below w.heap.size w w3 → ∃ w4, (Instr.mapUpdate 51 (.map (some bm)) (.string x) (.pointer (some ⟨gn, 0, none⟩))).run Tryd.prog w3 = .ok () w4 ∧ w4.ownsMap Tryd.prog 9 ptrR bm (N + 1) (M.put (strL x) (.lit (.int .i64 (gn : Int)))) ∧ w3.grownBy w4 (some bm)) :=
    ⟨fun w3 gn h1 => (map_move hM (h1.block bm hbl)).update law9 Tryd.underlying51 (by unfold maxLen; omega) (Go.WideMaps.keyOf_string_mk Tryd.underlying9 hxs) rfl⟩
  clear S0 hM hN hxs hbl
  go_enter Tryd.func21, Tryd.ntmps21
  go_wp2_with (first | (go_at_call 28; (with_reducible refine S.out.split.mono ?_); rintro e w1 ⟨A, c, rfl, hb1, P1⟩) | (go_at_call 32; (with_reducible refine (P1.out _ (Below.refl _ _)).mono ?_); rintro e w2 ⟨A2, c2, rfl, hb2, W1⟩; have HB := Aside0.mk (hb1.trans (hb2.mono hb1.size)); have hk0' := pw_cell_below HB.out hk0; have hk2' := pw_cell_below HB.out hk2; have hrun := L.out _ HB.out) | (go_at_call 33; (with_reducible refine (W1.out _ (Below.refl _ _)).mono ?_); rintro e w3 ⟨rfl, rfl⟩))
  have hbn : b ≠ bm := HNE.out
  go_region_held3 (fun w' => w'.cell? ⟨b, 2, none⟩ = some (.map (some bm))) (first | assumption | go_keep)
    (first | (go_at_call 20; (with_reducible refine (CT.out _).mono ?_); rintro e w5 ⟨gn, rfl, hn, hb5⟩; have HB5 := Aside0.mk ((below_drew HB.out).trans (hb5.mono HB.out.size)); have hk5 := pw_cell_below hb5 hk2'; obtain ⟨w6, hrun6, hm6, hg6⟩ := K.out _ gn HB5.out; have hk6 : w6.cell? ⟨b, 2, none⟩ = some (.map (some bm)) := (hg6.cell_far _ (World.block_lt_of_cell? w5 _ hk5) (by simpa using hbn)).trans hk5))
  go_wp2_with fail
  go_ret
  exact ⟨rfl, _, _, gn, below_drew HB.out, hb5, hn, hg6, hm6⟩
end Go.Proofs.YtohhlnkdgfgjgaaDoor.P
