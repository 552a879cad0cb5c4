/- The walk to names, a path's thing, a path's file. -/
import Derived.Test.YtohhlnkdgfgjgaaDoorTb
import Derived.Test.YtohhlnkdgfgjgaaDoorPx4
namespace Go.Proofs.YtohhlnkdgfgjgaaDoor.P
open Go.RowKit Go.Proofs.YtohhlnkdgfgjgaaDoorW.PrintWords Go.Proofs.YtohhlnkdgfgjgaaDoorW.PrintLast Go.Proofs.YtohhlnkdgfgjgaaDoorW.PrintMore
open Go.Maps (Keyed string_keyed)
/-- What the walks ask of a thing's own cells. -/
theorem TreeAt.cells {w : World} {own : Nat → Tag} {g N : Nat} {nb : List ByteArray → Nat} {T : List Th} (h : TreeAt w own g nb N T) {p : List ByteArray} {d : Bool} {s : List Int} (hp : at' T p = some (d, s)) :
    ∃ (A : Option Addr) (c : Nat) (mb : Option Nat), w.heap[nb p]? = some (.cells #[.bool d, .slice A s.length c, .map mb] 53 (0, 0)) ∧ w.ownsRow 0 5 1 (.slice A s.length c) s.length (s.map (Value.int .u8)) ∧ (d = false → mb = none) ∧
      (d = true → s = [] ∧ ∃ bm M, mb = some bm ∧ own bm = .kids p ∧ w.ownsMap Tryd.prog 9 ptrR bm N M ∧ KidsAre nb T p M) := by
  obtain ⟨h1, v, mb, h2, h3, h4, h5, h6⟩ := h.node p d s hp
  obtain ⟨A, c, rfl⟩ := owns_slice h3
  exact ⟨A, c, mb, h2, h3, h5, h6⟩
theorem walkV_ok {nb : List ByteArray → Nat} {T : List Th} {ns : List ByteArray} (h : goF T [] ns = 0) : walkV nb T ns = .pointer (some ⟨nb ns, 0, none⟩) := if_pos h
theorem walkV_no {nb : List ByteArray → Nat} {T : List Th} {ns : List ByteArray} (h : goF T [] ns ≠ 0) : walkV nb T ns = .pointer none := if_neg h
theorem take_succ' {l : List ByteArray} {i : Nat} {x : ByteArray} (h : l[i]? = some x) : l.take (i + 1) = l.take i ++ [x] := by
  rw [List.take_add_one, h]; rfl
theorem drop_cons' {l : List ByteArray} {i : Nat} {x : ByteArray} (h : l[i]? = some x) : l.drop i = x :: l.drop (i + 1) := by
  obtain ⟨hi, rfl⟩ := List.getElem?_eq_some_iff.1 h
  exact List.drop_eq_getElem_cons hi
set_option maxHeartbeats 4000000 in
set_option maxRecDepth 100000 in
theorem tree_Tree_walk.calls {w : World} {own : Nat → Tag} {g N : Nat} {nb : List ByteArray → Nat} {T : List Th} (h : TreeAt w own g nb N T) (A : Option Addr) (c : Nat) (ns : List ByteArray) (hr : Kd.C Kd.string w A ns.length ns) (hx : ∀ x ∈ ns, x.size ≤ 140737488355328) :
    Calls Tryd.prog 33 #[.pointer (some ⟨g, 0, none⟩), .slice A ns.length c] w fun e w' => e = .returned (.tuple #[walkV nb T ns, .int .i64 (goF T [] ns)]) ∧ w' = w := by
  have htop : w.cell? ⟨g, 0, none⟩ = some (.pointer (some ⟨nb [], 0, none⟩)) := blk_cell h.top 0
  have HT := Aside0.mk h
  have HR := Aside0.mk hr
  have HX := Aside0.mk hx
  have hlen : ns.length ≤ 9223372036854775807 := hr.2.1
  clear h hr hx
  go_enter Tryd.func33, Tryd.ntmps33
  go_wp2_with fail
  go_loop [6, 15] (fun n i => ∃ k : Nat, k ≤ ns.length ∧ i = .int .i64 k ∧ n = .pointer (some ⟨nb (ns.take k), 0, none⟩) ∧ Aside0 ((at' T (ns.take k)).isSome = true ∧ goF T [] ns = goF T (ns.take k) (ns.drop k))) (fun _ i => ns.length - (intOf i).toNat)
  case atStart => exact ⟨0, Nat.zero_le _, rfl, rfl, ⟨rfl, rfl⟩⟩
  case round =>
    obtain ⟨k, hk, rfl, rfl, HI⟩ := hrel
    by_cases hlt : k < ns.length
    · obtain ⟨x, hx⟩ : ∃ x, ns[k]? = some x := ⟨_, List.getElem?_eq_getElem hlt⟩
      obtain ⟨ad, e0, hc⟩ := Kd.at_string HR.out (k : Int) (by omega) (by omega)
      cases e0
      have ex : rdOf ByteArray.empty ns (k : Int) = x := by
        unfold rdOf
        rw [Int.toNat_natCast, List.getD_eq_getElem?_getD, hx]
        rfl
      rw [ex, Int.toNat_natCast] at hc
      obtain ⟨⟨d, s⟩, hat⟩ := Option.isSome_iff_exists.1 HI.out.1
      obtain ⟨A', c', mb, hb, _, hd0, hd1⟩ := HT.out.cells hat
      have hc0 : w.cell? ⟨nb (ns.take k), 0, none⟩ = some (.bool d) := blk_cell hb 0
      have hc2 : w.cell? ⟨nb (ns.take k), 2, none⟩ = some (.map mb) := blk_cell hb 2
      have HAT := Aside0.mk hat
      have HXX := Aside0.mk hx
      have hxs : x.size ≤ maxLen := by
        have := HX.out x (List.mem_of_getElem? hx)
        unfold maxLen
        omega
      cases d with
      | false =>
        have hres : Aside0 (goF T [] ns = 6) := ⟨by rw [HI.out.2, drop_cons' hx, goF_file hat]⟩
        clear hb hx hat ex hxs hd0 hd1
        go_wp2_with fail
        go_ret2
        rw [walkV_no (by rw [hres.out]; decide), hres.out]
        exact ⟨rfl, rfl⟩
      | true =>
        obtain ⟨_, bm, M, rfl, _, hM, hK⟩ := hd1 rfl
        have hrun := kid_look hM hK x hxs
        have hstep := goF_step (x := x) (r := ns.drop (k + 1)) hat
        rw [← drop_cons' hx, ← take_succ' hx] at hstep
        rw [← take_succ' hx] at hrun
        have HS := Aside0.mk hstep
        cases hl : look T (ns.take (k + 1)) with
        | none =>
          rw [hl] at hrun
          have hres : Aside0 (goF T [] ns = 4) := ⟨by rw [HI.out.2, HS.out, hl]; rfl⟩
          have hrun' : (Instr.lookup 51 (.map (some bm)) (.string x) false).run Tryd.prog w = .ok (.pointer none) w := hrun
          clear hb hx hat ex hxs hd0 hd1 hM hK hstep hrun hl
          go_wp2_with fail
          go_ret2
          rw [walkV_no (by rw [hres.out]; decide), hres.out]
          exact ⟨rfl, rfl⟩
        | some y =>
          rw [hl] at hrun
          have hrun' : (Instr.lookup 51 (.map (some bm)) (.string x) false).run Tryd.prog w = .ok (.pointer (some ⟨nb (ns.take (k + 1)), 0, none⟩)) w := hrun
          have hnext : Aside0 ((at' T (ns.take (k + 1))).isSome = true ∧ goF T [] ns = goF T (ns.take (k + 1)) (ns.drop (k + 1))) := ⟨by rw [take_succ' hx, at_snoc, ← take_succ' hx, hl]; rfl, by rw [HI.out.2, HS.out, hl]; rfl⟩
          clear hb hx hat ex hxs hd0 hd1 hM hK hstep hrun hl
          go_wp2_with fail
          go_round
          case rel => exact ⟨k + 1, by omega, by go_num, rfl, hnext⟩
          case measure => simp [intOf]; omega
    · obtain rfl : k = ns.length := by omega
      have hI := HI.out
      rw [List.take_length, List.drop_length] at hI
      have hres : Aside0 (goF T [] ns = 0) := ⟨hI.2⟩
      have hnb : nb (ns.take ns.length) = nb ns := by rw [List.take_length]
      clear hI
      go_wp2_with fail
      go_ret2
      rw [walkV_ok hres.out, hres.out]
      exact ⟨rfl, rfl⟩
end Go.Proofs.YtohhlnkdgfgjgaaDoor.P
