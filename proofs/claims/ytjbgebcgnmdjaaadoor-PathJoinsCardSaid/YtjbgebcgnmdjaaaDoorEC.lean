/- strings.Join of at most 64 names of at most 48 bytes with a slash between them. -/
import Derived.Test.YtjbgebcgnmdjaaaDoorPx0
import Derived.Test.YtjbgebcgnmdjaaaDoorShelf
import Derived.Test.YtjbgebcgnmdjaaaDoorEA
import Derived.Test.YtjbgebcgnmdjaaaDoorEB
namespace Go.Proofs.YtjbgebcgnmdjaaaDoor.P
open Go.RowKit Go.Proofs.YtjbgebcgnmdjaaaDoorW.PrintWords Go.Proofs.YtjbgebcgnmdjaaaDoorW.PrintLast Go.Proofs.YtjbgebcgnmdjaaaDoorW.PrintMore
def joinedL (l : List ByteArray) : List UInt8 := Lib.join (l.map fun x => x.data.toList) [47]
def strings_Join.f (l0 : List ByteArray) (a1 : ByteArray) : Option (ByteArray) := if a1.toList = ([47] : List UInt8) ∧ l0.length ≤ 64 ∧ (l0.all fun x => decide (x.size ≤ 48)) = true then some ⟨(joinedL l0).toArray⟩ else none
theorem join_two (x y : List UInt8) (l : List (List UInt8)) : Lib.join (x :: y :: l) [47] = x ++ 47 :: Lib.join (y :: l) [47] := by
  rw [Lib.join_cons, Lib.join_cons]
  simp [Lib.joinTail]
theorem join_len : ∀ (l : List (List UInt8)) (n : Nat), (∀ x ∈ l, x.length ≤ n) → (Lib.join l [47]).length ≤ l.length * (n + 1)
  | [], n, _ => by simp [Lib.join_nil]
  | [x], n, h => by have := h x (by simp); rw [Lib.join_one]; simp only [List.length_cons, List.length_nil]; omega
  | x :: y :: l, n, h => by
    have h1 := h x (by simp)
    have h2 := join_len (y :: l) n (fun z hz => h z (List.mem_cons_of_mem _ hz))
    rw [join_two, List.length_append, List.length_cons, List.length_cons, Nat.succ_mul]
    omega
theorem strings_Join.calls (A0 : Option Addr) (c0 : Nat) (l0 : List ByteArray) (a1 : ByteArray) (r : ByteArray) (w : World) (hr0 : Kd.C Kd.string w A0 l0.length l0) (hc0 : l0.length ≤ c0) (h : strings_Join.f l0 a1 = some r) :
    Calls Tryd.prog 25 #[.slice A0 l0.length c0, .string a1] w fun e w' => e = .returned (.string r) ∧ Below w.heap.size w w' := by
  unfold strings_Join.f at h
  split at h
  · rename_i hh
    obtain rfl := Option.some.inj h
    obtain ⟨h1, h2, h3⟩ := hh
    obtain rfl := of_toList h1
    have hlen : (Lib.join (l0.map fun x => x.data.toList) [47]).length ≤ 140737488355328 := by
      have := join_len (l0.map fun x => x.data.toList) 48 (fun x hx => by
        obtain ⟨y, hy, rfl⟩ := List.mem_map.1 hx
        have := List.all_eq_true.1 h3 y hy
        have := of_decide_eq_true this
        rwa [Array.length_toList])
      rw [List.length_map] at this
      omega
    rcases Nat.eq_zero_or_pos l0.length with h0 | h0
    · obtain rfl : l0 = [] := List.eq_nil_of_length_eq_zero h0
      refine (Tryd.strings_Join_none A0 c0 _ w).mono fun e w' ⟨he, hw⟩ => ⟨he, ?_⟩
      rw [hw]; exact Below.refl _ _
    · obtain ⟨b, off, rfl, hb, hc⟩ := strings_at hr0 h0
      exact Tryd.strings_Join b off c0 l0 ⟨#[47]⟩ w hc hb (by omega) hc0 hlen
  · cases h
end Go.Proofs.YtjbgebcgnmdjaaaDoor.P
