/- Write: bytes of a file. -/
import Derived.Test.YtohhlnkdgfgjgaaDoorTj
import Derived.Laws.CopyOwn
namespace Go.Proofs.YtohhlnkdgfgjgaaDoor.P
open Go.RowKit Go.Proofs.YtohhlnkdgfgjgaaDoorW.PrintWords Go.Proofs.YtohhlnkdgfgjgaaDoorW.PrintLast Go.Proofs.YtohhlnkdgfgjgaaDoorW.PrintMore
attribute [local go_sem] min2_int min_two max2_int max_two
def writeE (T : List Th) (s : ByteArray) (k : Int) (n : Nat) : Int := if fileE T s ≠ 0 then fileE T s else if k < 0 ∨ 268435456 < k ∨ 268435456 - k < n then 9 else 0
def written (s : List Int) (k : Nat) (xs : List Int) : List Int := splice (sized s (max s.length (k + xs.length))) k xs
theorem written_length (s : List Int) (k : Nat) (xs : List Int) : (written s k xs).length = max s.length (k + xs.length) := by
  unfold written
  rw [length_splice _ _ _ (by rw [sized_length]; omega), sized_length]
def bytesAt (T : List Th) (p : List ByteArray) : List Int := match at' T p with | some (_, s) => s | none => []
def writeT (T : List Th) (s : ByteArray) (k : Int) (xs : List Int) : List Th := if writeE T s k xs.length = 0 ∧ xs ≠ [] then setT T (cutB s).1 (written (bytesAt T (cutB s).1) k.toNat xs) else T
section
variable {w : World} {own : Nat → Tag} {g N : Nat} {nb : List ByteArray → Nat} {T : List Th}
set_option maxHeartbeats 4000000 in
set_option maxRecDepth 100000 in
theorem write_err (h : TreeAt w own g nb N T) (s : ByteArray) (hs : s.size ≤ 4000) (k : Int) (A : Option Addr) (n c : Nat) (hf : fileE T s ≠ 0) :
    Calls Tryd.prog 9 #[.pointer (some ⟨g, 0, none⟩), .string s, .int .i64 k, .slice A n c] w fun e w' => e = .returned (.int .i64 (fileE T s)) ∧ Below w.heap.size w w' := by
  have C1 := tree_Tree_file.calls h s hs
  rw [decide_eq_false hf] at C1
  simp only [ptrIf, Bool.false_eq_true, if_false] at C1
  have hne : (fileE T s == 0) = false := by simpa using hf
  have hne2 : (fileE T s != 0) = true := by simpa using hf
  generalize fileE T s = z at *
  have C := Aside0.mk C1
  clear C1 hf h hs
  go_enter Tryd.func9, Tryd.ntmps9
  go_wp2_with (go_at_call 22; (with_reducible refine C.out.mono ?_); rintro e w1 ⟨rfl, hb⟩)
  go_ret
  exact ⟨rfl, hb⟩
theorem file_ok (h : TreeAt w own g nb N T) (s : ByteArray) (hs : s.size ≤ 4000) (hf : fileE T s = 0) :
    Calls Tryd.prog 22 #[.pointer (some ⟨g, 0, none⟩), .string s] w fun e w' => e = .returned (.tuple #[.pointer (some ⟨nb (cutB s).1, 0, none⟩), .int .i64 0]) ∧ Below w.heap.size w w' := by
  have C1 := tree_Tree_file.calls h s hs
  rw [hf, decide_eq_true rfl] at C1
  exact C1
set_option maxHeartbeats 4000000 in
set_option maxRecDepth 100000 in
theorem write_neg (h : TreeAt w own g nb N T) (s : ByteArray) (hs : s.size ≤ 4000) (k : Int) (A : Option Addr) (n c : Nat) (hf : fileE T s = 0) (hk : k < 0) :
    Calls Tryd.prog 9 #[.pointer (some ⟨g, 0, none⟩), .string s, .int .i64 k, .slice A n c] w fun e w' => e = .returned (.int .i64 9) ∧ Below w.heap.size w w' := by
  have C := Aside0.mk (file_ok h s hs hf)
  generalize nb (cutB s).1 = b at *
  have d0 : decide (k < 0) = true := decide_eq_true hk
  clear h hs hf
  go_enter Tryd.func9, Tryd.ntmps9
  go_wp2_with (go_at_call 22; (with_reducible refine C.out.mono ?_); rintro e w1 ⟨rfl, hb⟩)
  all_goals (go_ret; exact ⟨rfl, hb⟩)
set_option maxHeartbeats 4000000 in
set_option maxRecDepth 100000 in
theorem write_far (h : TreeAt w own g nb N T) (s : ByteArray) (hs : s.size ≤ 4000) (k : Int) (A : Option Addr) (n c : Nat) (hf : fileE T s = 0) (_hk0 : 0 ≤ k) (hk : 268435456 < k) :
    Calls Tryd.prog 9 #[.pointer (some ⟨g, 0, none⟩), .string s, .int .i64 k, .slice A n c] w fun e w' => e = .returned (.int .i64 9) ∧ Below w.heap.size w w' := by
  have C := Aside0.mk (file_ok h s hs hf)
  generalize nb (cutB s).1 = b at *
  have d0 : decide (k < 0) = false := decide_eq_false (by omega)
  have d1 : decide (268435456 < k) = true := decide_eq_true hk
  clear h hs hf
  go_enter Tryd.func9, Tryd.ntmps9
  go_wp2_with (go_at_call 22; (with_reducible refine C.out.mono ?_); rintro e w1 ⟨rfl, hb⟩)
  all_goals (go_ret; exact ⟨rfl, hb⟩)
set_option maxHeartbeats 4000000 in
set_option maxRecDepth 100000 in
theorem write_long (h : TreeAt w own g nb N T) (s : ByteArray) (hs : s.size ≤ 4000) (k : Int) (A : Option Addr) (n c : Nat) (hf : fileE T s = 0) (hk0 : 0 ≤ k) (hk : k ≤ 268435456) (hn : 268435456 - k < n) :
    Calls Tryd.prog 9 #[.pointer (some ⟨g, 0, none⟩), .string s, .int .i64 k, .slice A n c] w fun e w' => e = .returned (.int .i64 9) ∧ Below w.heap.size w w' := by
  have C := Aside0.mk (file_ok h s hs hf)
  generalize nb (cutB s).1 = b at *
  have d0 : decide (k < 0) = false := decide_eq_false (by omega)
  have d1 : decide (268435456 < k) = false := decide_eq_false (by omega)
  have d2 : decide (268435456 - k < (n : Int)) = true := decide_eq_true hn
  clear h hs hf
  go_enter Tryd.func9, Tryd.ntmps9
  go_wp2_with (go_at_call 22; (with_reducible refine C.out.mono ?_); rintro e w1 ⟨rfl, hb⟩)
  all_goals (go_ret; exact ⟨rfl, hb⟩)
set_option maxHeartbeats 4000000 in
set_option maxRecDepth 100000 in
theorem write_none (h : TreeAt w own g nb N T) (s : ByteArray) (hs : s.size ≤ 4000) (k : Int) (A : Option Addr) (c : Nat) (hf : fileE T s = 0) (hk0 : 0 ≤ k) (hk : k ≤ 268435456) :
    Calls Tryd.prog 9 #[.pointer (some ⟨g, 0, none⟩), .string s, .int .i64 k, .slice A 0 c] w fun e w' => e = .returned (.int .i64 0) ∧ Below w.heap.size w w' := by
  have C := Aside0.mk (file_ok h s hs hf)
  generalize nb (cutB s).1 = b at *
  have d0 : decide (k < 0) = false := decide_eq_false (by omega)
  have d1 : decide (268435456 < k) = false := decide_eq_false (by omega)
  have d2 : decide (268435456 - k < 0) = false := decide_eq_false (by omega)
  clear h hs hf
  go_enter Tryd.func9, Tryd.ntmps9
  go_wp2_with (go_at_call 22; (with_reducible refine C.out.mono ?_); rintro e w1 ⟨rfl, hb⟩)
  all_goals (go_ret; exact ⟨rfl, hb⟩)
end
end Go.Proofs.YtohhlnkdgfgjgaaDoor.P
