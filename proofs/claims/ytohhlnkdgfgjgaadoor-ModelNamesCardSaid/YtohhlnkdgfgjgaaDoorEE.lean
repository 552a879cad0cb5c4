/- The eighth chapter's example lives. -/
import Derived.Test.YtohhlnkdgfgjgaaDoorPx1
import Derived.Test.YtohhlnkdgfgjgaaDoorEA
import Derived.Test.YtohhlnkdgfgjgaaDoorAny
import Derived.Lib.SlBytesConst
import Derived.Lib.BufferWrite
import Derived.Deep.WholeRow
namespace Go.Proofs.YtohhlnkdgfgjgaaDoor.P
open Go.RowKit Go.Proofs.YtohhlnkdgfgjgaaDoorW.PrintWords Go.Proofs.YtohhlnkdgfgjgaaDoorW.PrintLast Go.Proofs.YtohhlnkdgfgjgaaDoorW.PrintMore
/-- One row of bytes, told as the one element of a row. -/
theorem bytes_in_row {W : World} {g0 g1 n c0 : Nat} {xs : List Int} (hn : xs.length = n) (hc : n ≤ c0) (hm : n ≤ 9223372036854775807) (h1 : W.cell? ⟨g1, 0, none⟩ = some (.slice (some ⟨g0, 0, none⟩) n c0))
    (h0 : ∀ j x, xs[j]? = some x → W.cell? ⟨g0, j, none⟩ = some (.int .u8 x)) : Kd.C (Kd.slice 5 (Kd.int .u8)) W (some ⟨g1, 0, none⟩) ([xs] : List (List Int)).length [xs] := by
  subst hn
  have hin : Kd.C (Kd.int .u8) W (some ⟨g0, 0, none⟩) xs.length xs := by
    refine ⟨rfl, hm, fun _ => ⟨_, rfl, fun j p hj => ⟨[.int .u8 p], rfl, rfl, fun i u hu => ?_⟩⟩⟩
    match i, hu with
    | 0, hu =>
      cases hu
      have := h0 j p hj
      rw [show (Kd.int .u8).sz = 1 from rfl, Nat.mul_one, Nat.add_zero, add_plain]
      exact this
    | _ + 1, hu => cases hu
  refine ⟨rfl, by show 1 ≤ 9223372036854775807; decide, fun _ => ⟨_, rfl, fun j p hj => ?_⟩⟩
  match j, hj with
  | 0, hj =>
    cases hj
    refine ⟨[.slice (some ⟨g0, 0, none⟩) xs.length c0], rfl, ⟨_, _, rfl, hc, hin⟩, fun i u hu => ?_⟩
    match i, hu with
    | 0, hu => cases hu; rw [Nat.zero_mul, Nat.add_zero, add_plain]; exact h1
    | _ + 1, hu => cases hu
  | _ + 1, hj => cases hj
def nine : List Int := [49, 50, 51, 52, 53, 54, 55, 56, 57]
theorem nine32 : crc_Sum32.f 200 [nine] = some 3421780262 := by kernel_rfl
theorem nine16 : crc_Sum16.f 200 [nine] = some 10673 := by kernel_rfl
theorem drawn_dn {w w' : World} (h : Drawn0 w w') : ∃ n, w' = w.drewN n := h.out
theorem cell_new (W : World) (A : Array Value) (e : TypeId) (fr : Nat × Nat) (j : Nat) (b : Nat) (hb : b = W.heap.size) : (W.alloc (.cells A e fr)).cell? ⟨b, j, none⟩ = A[j]? := by
  subst hb
  have h : (W.alloc (.cells A e fr)).heap[W.heap.size]? = some (.cells A e fr) := heap_alloc_new W _
  unfold World.cell?
  rw [h]
  rfl
theorem cell_old (W : World) (o : Obj) (b j : Nat) (h : b < W.heap.size) : (W.alloc o).cell? ⟨b, j, none⟩ = W.cell? ⟨b, j, none⟩ := by
  have h1 : (W.alloc o).heap[b]? = W.heap[b]? := Lib.alloc_old W o b h
  unfold World.cell?
  rw [h1]
theorem size_new (W : World) (o : Obj) : (W.alloc o).heap.size = W.heap.size + 1 := by
  show (W.heap.push o).size = _
  simp
theorem nine_at {W : World} {g : Nat} {j : Nat} {x : Int} (hj : nine[j]? = some x) (h : ∀ k : Nat, W.cell? ⟨g, k, none⟩ = (#[Value.int .u8 49, .int .u8 50, .int .u8 51, .int .u8 52, .int .u8 53, .int .u8 54, .int .u8 55, .int .u8 56, .int .u8 57] : Array Value)[k]?) : W.cell? ⟨g, j, none⟩ = some (.int .u8 x) := by
  rw [h j]
  match j, hj with
  | 0, h => cases h; rfl
  | 1, h => cases h; rfl
  | 2, h => cases h; rfl
  | 3, h => cases h; rfl
  | 4, h => cases h; rfl
  | 5, h => cases h; rfl
  | 6, h => cases h; rfl
  | 7, h => cases h; rfl
  | 8, h => cases h; rfl
  | _ + 9, h => cases h
def cantlelaw08_Lives.f : Option (Bool) := some true
set_option maxHeartbeats 2000000 in
theorem lives02 (w : World) : Calls Tryd.prog 39 #[] w fun e w' => e = .returned (.bool true) ∧ Below w.heap.size w w' := by
  have kc := fun (w : World) (C : Array Value) (n c : Nat) => Lib.run_convert_bytes_const (P := Tryd.prog) w 23 5 C n c Tryd.underlying23 Tryd.underlying5
  go_enter Tryd.func39, Tryd.ntmps39
  go_wp2_with fail
  refine (crc_Sum32.calls 200 _ _ [nine] 3421780262 _ (bytes_in_row (g0 := w.heap.size) (g1 := w.heap.size + 1) (n := 9) (c0 := 9) rfl (by decide) (by decide) (by rw [cell_new _ _ _ _ _ _ (size_new _ _).symm]; rfl) (fun j x hj => nine_at hj (fun k => by rw [cell_old _ _ _ _ (by rw [size_new]; omega), cell_new _ _ _ _ _ _ rfl]))) (by decide) nine32).mono ?_
  rintro e w' ⟨rfl, ⟨nd, rfl⟩⟩
  go_wp2_with fail
  refine (crc_Sum16.calls 200 _ _ [nine] 10673 _ (bytes_in_row (g0 := w.heap.size) (g1 := w.heap.size + 1 + 1) (n := 9) (c0 := 9) rfl (by decide) (by decide) (by show World.cell? (World.alloc _ _) _ = _; rw [cell_new _ _ _ _ _ _ (by show _ = ((w.alloc _).alloc _).heap.size; rw [size_new, size_new])]; rfl) (fun j x hj => nine_at hj (fun k => by show World.cell? (World.alloc _ _) _ = _; rw [cell_old _ _ _ _ (by show _ < ((w.alloc _).alloc _).heap.size; rw [size_new, size_new]; omega)]; show World.cell? (World.alloc _ _) _ = _; rw [cell_old _ _ _ _ (by rw [size_new]; omega), cell_new _ _ _ _ _ _ rfl]))) (by decide) nine16).mono ?_
  rintro e w' ⟨rfl, ⟨nd2, rfl⟩⟩
  go_wp2_with fail
  go_ret
  exact ⟨rfl, by repeat (first | exact Below.refl _ _ | apply pw_below_drewN | apply below_alloc)⟩
def ab : ByteArray := ⟨#[97, 98]⟩
theorem ab_right : rightB ab = true := by decide +kernel
set_option maxHeartbeats 2000000 in
theorem may_ab (w : World) : Calls Tryd.prog 46 #[.agg #[.string ab, .int .i64 258]] w fun e w' => e = .returned (.bool true) ∧ Below w.heap.size w w' := by
  have c := fun W => entry_Right.calls ab W
  rw [ab_right] at c
  have C := Lib.hid c
  clear c
  go_enter Tryd.func46, Tryd.ntmps46
  go_wp2_with fail
  refine (C.out _).mono ?_
  rintro e w1 ⟨rfl, hb⟩
  have hc0 : w1.cell? ⟨w.heap.size, 0, none⟩ = some (.string ab) := by rw [hb.cell (p := ⟨w.heap.size, 0, none⟩) (by simp)]; simp [go_sem]
  have hc1 : w1.cell? ⟨w.heap.size, 1, none⟩ = some (.int .i64 258) := by rw [hb.cell (p := ⟨w.heap.size, 1, none⟩) (by simp)]; simp [go_sem]
  go_wp2_with fail
  go_ret
  exact ⟨rfl, (below_alloc (Below.refl _ _) _).trans (hb.mono (by simp))⟩
def z64 : Array Value := (List.replicate 64 (Value.int .u8 0)).toArray
theorem make_z (W : World) : (Instr.makeSlice 23 (.int .i64 60) (.int .i64 64)).run Tryd.prog W = .ok (.slice (some ⟨W.heap.size, 0, none⟩) 60 64) (W.alloc (.cells z64 5)) := by kernel_rfl
theorem ab_size : ab.size = 2 := rfl
def c3 : Array Value := ((z64.setIfInBounds 0 (.int .u8 2)).setIfInBounds 1 (.int .u8 1)).setIfInBounds 2 (.int .u8 2)
def bytes60 : List Int := [2, 1, 2, 0, 97, 98] ++ List.replicate 54 0
def c64 : Array Value := (nums .u8 (bytes60 ++ [0, 0, 0, 0])).toArray
theorem copied : (c3.toList.take 4 ++ Lib.byteCells ab.data.toList ++ c3.toList.drop (4 + ab.size)).toArray = c64 := by rfl
theorem copy_ab (W : World) : (Builtin.copy_ #[23, 9] 3 #[.slice (some ⟨W.heap.size, 4, none⟩) 56 60, .string ab]).run Tryd.prog (W.alloc (.cells c3 5)).drew.drew = .ok (.int .i64 2) (W.alloc (.cells c64 5)).drew.drew := by
  have h := Lib.run_copy_row_string (P := Tryd.prog) (W.alloc (.cells c3 5)).drew.drew 23 9 3 5 W.heap.size 4 56 60 ab c3 5 Tryd.underlying23 (by kernel_rfl) (heap_alloc_new W _) (by decide) (by decide)
  rw [h, copied]
  have h2 := World.setRow_alloc_new W c3 c64 5
  show Result.ok _ ((W.alloc (.cells c3 5)).setRow W.heap.size c64).drew.drew = _
  rw [h2]
  rfl
def crc4 : List Int := [26, 249, 213, 149]
theorem sum60 : crc_Sum32.f 600 [bytes60] = some 2513828122 := by kernel_rfl
theorem c64_at {W : World} {g : Nat} {j : Nat} {x : Int} (hj : bytes60[j]? = some x) (h : ∀ k : Nat, W.cell? ⟨g, k, none⟩ = c64[k]?) : W.cell? ⟨g, j, none⟩ = some (.int .u8 x) := by
  rw [h j, c64, List.getElem?_toArray, nums, List.getElem?_map, List.getElem?_append_left (List.getElem?_eq_some_iff.1 hj).1, hj]
  rfl
theorem own60 (W : World) (base : Nat) (hb : base ≤ W.heap.size) (o : Obj) (n : Nat) : (((W.alloc (.cells c64 5)).alloc o).drewN n).ownsRow base 5 1 (.slice (some ⟨W.heap.size, 0, none⟩) 60 64) bytes60.length (nums .u8 bytes60) := by
  refine ⟨by decide, .inr ⟨W.heap.size, 64, c64, rfl, hb, ?_, by decide, by decide, by decide, by rfl⟩⟩
  show ((W.alloc (.cells c64 5)).alloc o).heap[W.heap.size]? = _
  rw [Lib.alloc_old _ _ _ (by rw [size_new]; omega)]
  exact heap_alloc_new W _
set_option maxHeartbeats 8000000 in
set_option maxRecDepth 100000 in
theorem encode_ab (w : World) : Calls Tryd.prog 38 #[.agg #[.string ab, .int .i64 258]] w fun e w' => ∃ v, e = .returned (.tuple #[v, .int .i64 0]) ∧ w'.ownsRow w.heap.size 5 1 v 64 (nums .u8 (bytes60 ++ crc4)) ∧ Below w.heap.size w w' := by
  have C := Lib.hid may_ab
  go_enter Tryd.func38, Tryd.ntmps38
  go_wp2_with fail
  refine (C.out _).mono ?_
  rintro e w1 ⟨rfl, hb⟩
  have hc0 : w1.cell? ⟨w.heap.size, 0, none⟩ = some (.string ab) := by rw [hb.cell (p := ⟨w.heap.size, 0, none⟩) (by simp)]; simp [go_sem]
  have hc1 : w1.cell? ⟨w.heap.size, 1, none⟩ = some (.int .i64 258) := by rw [hb.cell (p := ⟨w.heap.size, 1, none⟩) (by simp)]; simp [go_sem]
  have HB := Lib.hid ((below_alloc (Below.refl w.heap.size w) (.cells #[.string ab, .int .i64 258] 76)).trans (hb.mono (by simp)))
  have hz : w.heap.size < w1.heap.size := by have := hb.size; simp at this; omega
  clear hb
  have hmk := make_z
  have q00 : z64[0]? = some (.int .u8 0) := rfl
  have q01 : z64[1]? = some (.int .u8 0) := rfl
  have q02 : z64[2]? = some (.int .u8 0) := rfl
  have q0s : z64.size = 64 := rfl
  go_wp2_with fail
  go_region
  have hcp := copy_ab w1
  have habs := ab_size
  go_wp2
  rw [show ((z64.setIfInBounds 0 (Value.int IntKind.u8 2)).setIfInBounds 1 (Value.int IntKind.u8 1)).setIfInBounds 2 (Value.int IntKind.u8 ((ab.size : Int) % 256)) = c3 from rfl]
  go_region
  go_wp2_with fail
  refine (crc_Sum32.calls 600 _ _ [bytes60] 2513828122 _ (bytes_in_row (g0 := w1.heap.size) (g1 := w1.heap.size + 1) (n := 60) (c0 := 64) rfl (by decide) (by decide) (by show World.cell? (World.alloc _ _) _ = _; rw [cell_new _ _ _ _ _ _ (size_new _ _).symm]; rfl) (fun j x hj => c64_at hj (fun k => by show World.cell? (World.alloc _ _) _ = _; rw [cell_old _ _ _ _ (by rw [size_new]; omega), cell_new _ _ _ _ _ _ rfl]))) (by decide) sum60).mono ?_
  rintro e w2 ⟨rfl, ⟨nd, rfl⟩⟩
  have HO := Lib.hid (own60 w1 w.heap.size (by omega) (Obj.cells #[Value.slice (some { block := w1.heap.size, off := 0 }) 60 64] 23))
  have HB2 := Lib.hid (pw_below_drewN (below_alloc (below_alloc HB.out (Obj.cells c64 5)) (Obj.cells #[Value.slice (some { block := w1.heap.size, off := 0 }) 60 64] 23)))
  clear hcp q00 q01 q02 q0s hmk hc0 hc1 habs
  go_wp2_with fail
  go_loopg [4, 6, 36] 4 (fun g v4 _ v36 wx => ∃ k : Nat, k + g = 4 ∧ v36 = .int .i64 k ∧ Hid (wx.ownsRow w.heap.size 5 1 v4 (bytes60 ++ crc4.take k).length (nums .u8 (bytes60 ++ crc4.take k))) ∧ Hid (Below w.heap.size w wx))
  case atStart => exact ⟨0, rfl, rfl, Lib.hid (HO.out _), Lib.hid (HB2.out _)⟩
  case round =>
    obtain ⟨k, hk, rfl, HO1, HB1⟩ := hrel
    clear HO HB2 HB
    cases gk with
    | zero =>
      obtain rfl : k = 4 := by omega
      go_wp2_with fail
      go_ret2
      exact ⟨_, rfl, HO1.out, HB1.out⟩
    | succ g =>
      have hk4 : k = 0 ∨ k = 1 ∨ k = 2 ∨ k = 3 := by omega
      rcases hk4 with rfl | rfl | rfl | rfl
      · go_wp2_with (at_builtin; refine print_append_num w.heap.size rfl (.tmp 39) (.tmp 45) 23 5 .u8 1 rfl Tryd.underlying23 (by kernel_rfl) (by decide) _ _ _ rfl rfl HO1.out HB1.out (Below.size HB1.out) (by decide) ?_; intro v1 w3 ho3 hb3 _ _)
        go_roundg g
        case measure => omega
        case rel => exact ⟨1, by omega, by go_num, Lib.hid ho3, Lib.hid hb3⟩
      · go_wp2_with (at_builtin; refine print_append_num w.heap.size rfl (.tmp 39) (.tmp 45) 23 5 .u8 1 rfl Tryd.underlying23 (by kernel_rfl) (by decide) _ _ _ rfl rfl HO1.out HB1.out (Below.size HB1.out) (by decide) ?_; intro v1 w3 ho3 hb3 _ _)
        go_roundg g
        case measure => omega
        case rel => exact ⟨2, by omega, by go_num, Lib.hid ho3, Lib.hid hb3⟩
      · go_wp2_with (at_builtin; refine print_append_num w.heap.size rfl (.tmp 39) (.tmp 45) 23 5 .u8 1 rfl Tryd.underlying23 (by kernel_rfl) (by decide) _ _ _ rfl rfl HO1.out HB1.out (Below.size HB1.out) (by decide) ?_; intro v1 w3 ho3 hb3 _ _)
        go_roundg g
        case measure => omega
        case rel => exact ⟨3, by omega, by go_num, Lib.hid ho3, Lib.hid hb3⟩
      · go_wp2_with (at_builtin; refine print_append_num w.heap.size rfl (.tmp 39) (.tmp 45) 23 5 .u8 1 rfl Tryd.underlying23 (by kernel_rfl) (by decide) _ _ _ rfl rfl HO1.out HB1.out (Below.size HB1.out) (by decide) ?_; intro v1 w3 ho3 hb3 _ _)
        go_roundg g
        case measure => omega
        case rel => exact ⟨4, by omega, by go_num, Lib.hid ho3, Lib.hid hb3⟩
def s7 : ByteArray := ⟨#[2, 1, 2, 0, 97, 98, 0]⟩
theorem s7_eq : strOfNums [2, 1, 2, 0, 97, 98, 0] = s7 := by rfl
theorem all_at (j : Nat) (hj : j < 7) : (nums .u8 (bytes60 ++ crc4))[j]? = some (.int .u8 (([2, 1, 2, 0, 97, 98, 0] : List Int).getD j 0)) := by
  match j, hj with
  | 0, _ => rfl
  | 1, _ => rfl
  | 2, _ => rfl
  | 3, _ => rfl
  | 4, _ => rfl
  | 5, _ => rfl
  | 6, _ => rfl
set_option maxHeartbeats 2000000 in
theorem lives08 (w : World) : Calls Tryd.prog 29 #[] w fun e w' => e = .returned (.bool true) ∧ Below w.heap.size w w' := by
  go_enter Tryd.func29, Tryd.ntmps29
  go_wp2_with fail
  refine (encode_ab _).mono ?_
  rintro e w1 ⟨v, rfl, ho, hb⟩
  obtain ⟨g, cap, rfl, hg, hc⟩ := ho.form (by decide)
  have hcap : (7 : Int) ≤ (cap : Int) := by
    rcases ho.2 with ⟨_, h⟩ | ⟨g', cap', cur, he, _, _, h1, _⟩
    · omega
    · injection he with _ _ he
      omega
  have HO := Lib.hid ho
  have HB := Lib.hid hb
  clear ho hb
  go_wp2_with fail
  refine (lives02 _).mono ?_
  rintro e w2 ⟨rfl, hb2⟩
  have hconv : (convert 23 9 (.slice (some ⟨g, 0, none⟩) 7 cap)).run Tryd.prog w2 = .ok (.string s7) w2 := by
    have hcell : ∀ i, i < 7 → w2.cell? ⟨g, 0 + i, none⟩ = some (.int .u8 (([2, 1, 2, 0, 97, 98, 0] : List Int).getD i 0)) := by
      intro i hi
      have := HO.out.cells (g := g) rfl i _ (all_at i hi)
      rw [add_plain] at this
      rw [Nat.zero_add]
      exact pw_cell_below hb2 this
    have := run_convert_bytes_arg (P := Tryd.prog) w2 23 5 Tryd.underlying23 Tryd.underlying5 g 0 7 cap [2, 1, 2, 0, 97, 98, 0] rfl hcell 9 Tryd.underlying9
    rw [s7_eq] at this
    exact this
  have hs7 : (s7.toList == [2, 1, 2, 0, 97, 98, 0]) = true := by rw [Lib.toList_data]; rfl
  go_wp2_with fail
  go_ret
  exact ⟨rfl, HB.out.trans (hb2.mono HB.out.size)⟩
theorem cantlelaw08_Lives.calls (r : Bool) (w : World) (h : cantlelaw08_Lives.f = some r) :
    Calls Tryd.prog 29 #[] w fun e w' => e = .returned (.bool r) ∧ Below w.heap.size w w' := by
  obtain rfl := Option.some.inj h
  exact lives08 w
end Go.Proofs.YtohhlnkdgfgjgaaDoor.P
