/- TreeReads: the law's walk. -/
import Derived.Test.YtohhlnkdgfgjgaaDoorTp
namespace Go.Proofs.YtohhlnkdgfgjgaaDoor.P
open Go.RowKit Go.Proofs.YtohhlnkdgfgjgaaDoorW.PrintWords Go.Proofs.YtohhlnkdgfgjgaaDoorW.PrintLast Go.Proofs.YtohhlnkdgfgjgaaDoorW.PrintMore
attribute [local go_sem] min2_int min_two max2_int max_two
set_option maxHeartbeats 8000000 in
set_option maxRecDepth 100000 in
theorem reads_long (w : World) (at0 then0 : Int) (Aa Ab : Option Addr) (la lb ca cb : Nat) (h : 500 < la ∨ 500 < lb) :
    Calls Tryd.prog 3 #[.int .u16 at0, .int .u16 then0, .slice Aa la ca, .slice Ab lb cb] w fun e w' => e = .returned (.bool true) ∧ Below w.heap.size w w' := by
  by_cases h1 : 500 < la
  · have d1 : decide ((500 : Int) < (la : Int)) = true := decide_eq_true (by omega)
    clear h h1
    go_enter Tryd.func3, Tryd.ntmps3
    go_wp2_with fail
    refine (lives13 w).mono ?_
    rintro e w1 ⟨rfl, hb1⟩
    go_wp2_with fail
    refine (lives13 w1).mono ?_
    rintro e w2 ⟨rfl, hb2⟩
    go_wp2_with fail
    go_ret
    exact ⟨rfl, hb1.trans (hb2.mono hb1.size)⟩
  · have d1 : decide ((500 : Int) < (la : Int)) = false := decide_eq_false (by omega)
    have d2 : decide ((500 : Int) < (lb : Int)) = true := decide_eq_true (by omega)
    clear h h1
    go_enter Tryd.func3, Tryd.ntmps3
    go_wp2_with fail
    refine (lives13 w).mono ?_
    rintro e w1 ⟨rfl, hb1⟩
    go_wp2_with fail
    refine (lives13 w1).mono ?_
    rintro e w2 ⟨rfl, hb2⟩
    go_wp2_with fail
    go_ret
    exact ⟨rfl, hb1.trans (hb2.mono hb1.size)⟩
/-- How long a file is behind a write. -/
theorem wrote_len (s : List Int) (p : Nat) (xs : List Int) : (xs.length = 0 ∧ (wrote s p xs).length = s.length) ∨ (0 < xs.length ∧ s.length < p + xs.length ∧ (wrote s p xs).length = p + xs.length) ∨ (0 < xs.length ∧ p + xs.length ≤ s.length ∧ (wrote s p xs).length = s.length) := by
  rw [wrote_length]
  by_cases h : xs = []
  · subst h; exact .inl ⟨rfl, rfl⟩
  · have := List.length_pos_iff.2 h
    rw [if_neg h]
    omega
set_option maxHeartbeats 16000000 in
set_option maxRecDepth 400000 in
theorem reads_short (w : World) (an tn : Nat) (Aa Ab : Option Addr) (la lb ca cb : Nat) (a b : List Int) (hla : a.length = la) (hlb : b.length = lb) (ha5 : la ≤ 500) (hb5 : lb ≤ 500) (han : an < 65536) (htn : tn < 65536)
    (ha : 0 < la → RdB w Aa la a) (hb : 0 < lb → RdB w Ab lb b) :
    Calls Tryd.prog 3 #[.int .u16 an, .int .u16 tn, .slice Aa la ca, .slice Ab lb cb] w fun e w' => e = .returned (.bool true) ∧ Below w.heap.size w w' := by
  have d1 : decide ((500 : Int) < (la : Int)) = false := decide_eq_false (by omega)
  have d2 : decide ((500 : Int) < (lb : Int)) = false := decide_eq_false (by omega)
  have b1 : (0 : Int) ≤ (an : Int) := by omega
  have b2 : (an : Int) < 65536 := by omega
  have b3 : (0 : Int) ≤ (tn : Int) := by omega
  have b4 : (tn : Int) < 65536 := by omega
  obtain ⟨p, hpe, hp⟩ : ∃ p : Nat, (an : Int) % 1500 = (p : Int) ∧ p < 1500 := ⟨an % 1500, by omega, by omega⟩
  obtain ⟨q, hqe, hq⟩ : ∃ q : Nat, (tn : Int) % 1500 = (q : Int) ∧ q < 1500 := ⟨tn % 1500, by omega, by omega⟩
  have HA := Aside0.mk ha
  have HB := Aside0.mk hb
  have HLA := Aside0.mk hla
  have HLB := Aside0.mk hlb
  have HP := Aside0.mk hp
  have HQ := Aside0.mk hq
  have HA5 := Aside0.mk ha5
  have HB5 := Aside0.mk hb5
  have W1 : Aside0 ((la = 0 ∧ (wrote [] p a).length = 0) ∨ (0 < la ∧ (wrote [] p a).length = p + la)) := ⟨by
    have := wrote_len [] p a
    rw [hla] at this
    simp only [List.length_nil] at this
    omega⟩
  have W2 : Aside0 ((lb = 0 ∧ (wrote (wrote [] p a) q b).length = (wrote [] p a).length) ∨ (0 < lb ∧ (wrote [] p a).length < q + lb ∧ (wrote (wrote [] p a) q b).length = q + lb) ∨ (0 < lb ∧ q + lb ≤ (wrote [] p a).length ∧ (wrote (wrote [] p a) q b).length = (wrote [] p a).length)) := ⟨by
    have := wrote_len (wrote [] p a) q b
    rw [hlb] at this
    exact this⟩
  have AT : Aside0 (∀ k, (wrote (wrote [] p a) q b).getD k 0 = if q ≤ k ∧ k - q < lb then b.getD (k - q) 0 else if p ≤ k ∧ k - p < la then a.getD (k - p) 0 else 0) := ⟨fun k => by
    rw [wrote_at, wrote_at, hla, hlb]
    simp⟩
  generalize hs1 : wrote [] p a = s1 at *
  generalize hs2 : wrote s1 q b = s2 at *
  have HS1 := Aside0.mk hs1
  have HS2 := Aside0.mk hs2
  obtain ⟨n1, hn1⟩ : ∃ n1, n1 = s1.length := ⟨_, rfl⟩
  obtain ⟨L, hL⟩ : ∃ L, L = s2.length := ⟨_, rfl⟩
  rw [← hn1] at W1 W2
  rw [← hL] at W2
  have HN1 := Aside0.mk hn1
  have HL := Aside0.mk hL
  have HL5 : Aside0 (L ≤ 5000) := ⟨by have h1 := W1.out; have h2 := W2.out; omega⟩
  clear ha hb hla hlb ha5 hb5 han htn hp hq hs1 hs2 hn1 hL
  go_enter Tryd.func3, Tryd.ntmps3
  go_wp2_with fail
  refine (lives13 w).mono ?_
  rintro e w1 ⟨rfl, hb1⟩
  go_wp2_with fail
  refine (St.new hb1).mono ?_
  rintro e w2 ⟨g, rfl, h2⟩
  have H2 := Aside0.mk h2
  clear h2
  go_wp2_with fail
  refine (tr_create H2.out).mono ?_
  rintro e w3 ⟨rfl, h3⟩
  have H3 := Aside0.mk h3
  clear h3
  go_wp2_with fail
  refine (tr_write H3.out p Aa la ca a HLA.out HA.out (by have := HP.out; omega) HA5.out (by simp)).mono ?_
  rintro e w4 ⟨rfl, h4⟩
  rw [HS1.out] at h4
  have H4 := Aside0.mk h4
  clear h4
  go_wp2_with fail
  refine (tr_write H4.out q Ab lb cb b HLB.out HB.out (by have := HQ.out; omega) HB5.out (by have h1 := W1.out; have h2 := HN1.out; have h3 := HP.out; have h4 := HA5.out; omega)).mono ?_
  rintro e w5 ⟨rfl, h5⟩
  rw [HS2.out] at h5
  have H5 := Aside0.mk h5
  clear h5
  go_wp2_with fail
  refine (tr_read H5.out L HL.out.symm (by have h1 := W1.out; have h2 := HN1.out; have h3 := HP.out; have h4 := HA5.out; have h5 := W2.out; have h7 := HQ.out; have h8 := HB5.out; omega)).mono ?_
  rintro e w6 ⟨A, c, rfl, h6, hb6⟩
  have HR := Aside0.mk h6
  clear h6
  clear d1 d2 b1 b2 b3 b4 hpe hqe hb1
  have p1 : Aside0 (p < 1500) := HP
  have loops : Aside0 (Below w.heap.size w w6) := ⟨hb6⟩
  clear hb6
  rcases W1.out with ⟨e1, e2⟩ | ⟨e1, e2⟩
  · have E1 := Aside0.mk e1
    have f1 : decide (0 < la) = false := decide_eq_false (by omega)
    have f1i : decide ((0 : Int) < (la : Int)) = false := decide_eq_false (by omega)
    rcases W2.out with ⟨e3, e4⟩ | ⟨e3, e5, e4⟩ | ⟨e3, e5, e4⟩
    · have f2 : decide (0 < lb) = false := decide_eq_false (by omega)
      have z1 : wrap64 ((p : Int) + (la : Int)) = (p : Int) + (la : Int) := by have h1 := HP.out; have h2 := HA5.out; unfold wrap64; omega
      have z2 : wrap64 ((q : Int) + (lb : Int)) = (q : Int) + (lb : Int) := by have h1 := HQ.out; have h2 := HB5.out; unfold wrap64; omega
      have f3 : ((L : Int) != 0) = false := bne_eq_false_iff_eq.2 (by omega)
      have FL : Aside0 ((L : Int) = 0) := ⟨by omega⟩
      have hl5 := HL5.out
      clear e1 e2 e3 e4 
      go_wp2_with fail
      all_goals first
        | (exfalso; have := FL.out; omega)
        | skip
      clear z1 z2
      go_loop [86] (fun i => ∃ k : Nat, k ≤ L ∧ i = .int .i64 k) (fun i => L - (intOf i).toNat)
      case atStart => exact ⟨0, Nat.zero_le _, rfl⟩
      case round =>
        obtain ⟨k, hk, rfl⟩ := hrel
        by_cases hlt : k < L
        · obtain ⟨ad, rA, hcall⟩ := HR.out.at (by omega)
          subst rA
          have hv := AT.out k
          have hc := hcall k hlt
          rw [hv] at hc
          clear hcall hv
          have hlt2 : decide (k < L) = true := decide_eq_true hlt
          have hlt3 : decide ((k : Int) < (L : Int)) = true := decide_eq_true (by omega)
          have hi0 : (0 : Int) ≤ (k : Int) := by omega
          rcases (show k < p ∨ (p ≤ k ∧ la ≤ k - p) ∨ (p ≤ k ∧ k - p < la) by omega) with cp | cp | cp
          · rcases (show k < q ∨ (q ≤ k ∧ lb ≤ k - q) ∨ (q ≤ k ∧ k - q < lb) by omega) with cq | cq | cq
            · rw [if_neg (by omega), if_neg (by omega)] at hc
              have gp1 : decide (p ≤ k) = false := decide_eq_false (by omega)
              have gp2 : decide ((p : Int) ≤ (k : Int)) = false := decide_eq_false (by omega)
              have gq1 : decide (q ≤ k) = false := decide_eq_false (by omega)
              have gq2 : decide ((q : Int) ≤ (k : Int)) = false := decide_eq_false (by omega)
              clear cp cq 
              go_wp2_with fail
              go_round
              case rel => exact ⟨k + 1, by omega, by go_num⟩
              case measure => (simp [intOf]; try omega)
            · rw [if_neg (by omega), if_neg (by omega)] at hc
              have gp1 : decide (p ≤ k) = false := decide_eq_false (by omega)
              have gp2 : decide ((p : Int) ≤ (k : Int)) = false := decide_eq_false (by omega)
              have gq1 : decide (q ≤ k) = true := decide_eq_true (by omega)
              have gq2 : decide ((q : Int) ≤ (k : Int)) = true := decide_eq_true (by omega)
              obtain ⟨kq, hkq⟩ : ∃ kq, kq = k - q := ⟨_, rfl⟩
              have gq3 : IntKind.i64.wrap ((k : Int) - (q : Int)) = (kq : Int) := by rw [IntKind.wrap_i64]; omega
              have gq4 : decide (kq < lb) = false := decide_eq_false (by omega)
              have gq5 : decide ((kq : Int) < (lb : Int)) = false := decide_eq_false (by omega)
              clear cp cq hkq
              go_wp2_with fail
              go_round
              case rel => exact ⟨k + 1, by omega, by go_num⟩
              case measure => (simp [intOf]; try omega)
            · rw [if_pos (by omega)] at hc
              have gp1 : decide (p ≤ k) = false := decide_eq_false (by omega)
              have gp2 : decide ((p : Int) ≤ (k : Int)) = false := decide_eq_false (by omega)
              have gq1 : decide (q ≤ k) = true := decide_eq_true (by omega)
              have gq2 : decide ((q : Int) ≤ (k : Int)) = true := decide_eq_true (by omega)
              obtain ⟨kq, hkq⟩ : ∃ kq, kq = k - q := ⟨_, rfl⟩
              have gq3 : IntKind.i64.wrap ((k : Int) - (q : Int)) = (kq : Int) := by rw [IntKind.wrap_i64]; omega
              have gq4 : decide (kq < lb) = true := decide_eq_true (by omega)
              have gq5 : decide ((kq : Int) < (lb : Int)) = true := decide_eq_true (by omega)
              have gq6 : kq < lb := by omega
              have gq7 : (kq : Int) < (lb : Int) := by omega
              have gq8 : (0 : Int) ≤ (kq : Int) := by omega
              obtain ⟨adq, rq, hcq⟩ := (((HB).out (by omega)).below loops.out).at (by omega)
              subst rq
              have hcq2 := hcq kq (by omega)
              clear hcq
              rw [← hkq] at hc
              generalize b.getD kq 0 = vb at hc hcq2
              clear cp cq hkq
              go_wp2_with fail
              go_round
              case rel => exact ⟨k + 1, by omega, by go_num⟩
              case measure => (simp [intOf]; try omega)
          · rcases (show k < q ∨ (q ≤ k ∧ lb ≤ k - q) ∨ (q ≤ k ∧ k - q < lb) by omega) with cq | cq | cq
            · rw [if_neg (by omega), if_neg (by omega)] at hc
              have gp1 : decide (p ≤ k) = true := decide_eq_true (by omega)
              have gp2 : decide ((p : Int) ≤ (k : Int)) = true := decide_eq_true (by omega)
              obtain ⟨kp, hkp⟩ : ∃ kp, kp = k - p := ⟨_, rfl⟩
              have gp3 : IntKind.i64.wrap ((k : Int) - (p : Int)) = (kp : Int) := by rw [IntKind.wrap_i64]; omega
              have gp4 : decide (kp < la) = false := decide_eq_false (by omega)
              have gp5 : decide ((kp : Int) < (la : Int)) = false := decide_eq_false (by omega)
              have gq1 : decide (q ≤ k) = false := decide_eq_false (by omega)
              have gq2 : decide ((q : Int) ≤ (k : Int)) = false := decide_eq_false (by omega)
              clear cp cq hkp
              go_wp2_with fail
              go_round
              case rel => exact ⟨k + 1, by omega, by go_num⟩
              case measure => (simp [intOf]; try omega)
            · rw [if_neg (by omega), if_neg (by omega)] at hc
              have gp1 : decide (p ≤ k) = true := decide_eq_true (by omega)
              have gp2 : decide ((p : Int) ≤ (k : Int)) = true := decide_eq_true (by omega)
              obtain ⟨kp, hkp⟩ : ∃ kp, kp = k - p := ⟨_, rfl⟩
              have gp3 : IntKind.i64.wrap ((k : Int) - (p : Int)) = (kp : Int) := by rw [IntKind.wrap_i64]; omega
              have gp4 : decide (kp < la) = false := decide_eq_false (by omega)
              have gp5 : decide ((kp : Int) < (la : Int)) = false := decide_eq_false (by omega)
              have gq1 : decide (q ≤ k) = true := decide_eq_true (by omega)
              have gq2 : decide ((q : Int) ≤ (k : Int)) = true := decide_eq_true (by omega)
              obtain ⟨kq, hkq⟩ : ∃ kq, kq = k - q := ⟨_, rfl⟩
              have gq3 : IntKind.i64.wrap ((k : Int) - (q : Int)) = (kq : Int) := by rw [IntKind.wrap_i64]; omega
              have gq4 : decide (kq < lb) = false := decide_eq_false (by omega)
              have gq5 : decide ((kq : Int) < (lb : Int)) = false := decide_eq_false (by omega)
              clear cp cq hkp hkq
              go_wp2_with fail
              go_round
              case rel => exact ⟨k + 1, by omega, by go_num⟩
              case measure => (simp [intOf]; try omega)
            · rw [if_pos (by omega)] at hc
              have gp1 : decide (p ≤ k) = true := decide_eq_true (by omega)
              have gp2 : decide ((p : Int) ≤ (k : Int)) = true := decide_eq_true (by omega)
              obtain ⟨kp, hkp⟩ : ∃ kp, kp = k - p := ⟨_, rfl⟩
              have gp3 : IntKind.i64.wrap ((k : Int) - (p : Int)) = (kp : Int) := by rw [IntKind.wrap_i64]; omega
              have gp4 : decide (kp < la) = false := decide_eq_false (by omega)
              have gp5 : decide ((kp : Int) < (la : Int)) = false := decide_eq_false (by omega)
              have gq1 : decide (q ≤ k) = true := decide_eq_true (by omega)
              have gq2 : decide ((q : Int) ≤ (k : Int)) = true := decide_eq_true (by omega)
              obtain ⟨kq, hkq⟩ : ∃ kq, kq = k - q := ⟨_, rfl⟩
              have gq3 : IntKind.i64.wrap ((k : Int) - (q : Int)) = (kq : Int) := by rw [IntKind.wrap_i64]; omega
              have gq4 : decide (kq < lb) = true := decide_eq_true (by omega)
              have gq5 : decide ((kq : Int) < (lb : Int)) = true := decide_eq_true (by omega)
              have gq6 : kq < lb := by omega
              have gq7 : (kq : Int) < (lb : Int) := by omega
              have gq8 : (0 : Int) ≤ (kq : Int) := by omega
              obtain ⟨adq, rq, hcq⟩ := (((HB).out (by omega)).below loops.out).at (by omega)
              subst rq
              have hcq2 := hcq kq (by omega)
              clear hcq
              rw [← hkq] at hc
              generalize b.getD kq 0 = vb at hc hcq2
              clear cp cq hkp hkq
              go_wp2_with fail
              go_round
              case rel => exact ⟨k + 1, by omega, by go_num⟩
              case measure => (simp [intOf]; try omega)
          · rcases (show k < q ∨ (q ≤ k ∧ lb ≤ k - q) ∨ (q ≤ k ∧ k - q < lb) by omega) with cq | cq | cq
            · rw [if_neg (by omega), if_pos (by omega)] at hc
              have gp1 : decide (p ≤ k) = true := decide_eq_true (by omega)
              have gp2 : decide ((p : Int) ≤ (k : Int)) = true := decide_eq_true (by omega)
              obtain ⟨kp, hkp⟩ : ∃ kp, kp = k - p := ⟨_, rfl⟩
              have gp3 : IntKind.i64.wrap ((k : Int) - (p : Int)) = (kp : Int) := by rw [IntKind.wrap_i64]; omega
              have gp4 : decide (kp < la) = true := decide_eq_true (by omega)
              have gp5 : decide ((kp : Int) < (la : Int)) = true := decide_eq_true (by omega)
              have gp6 : kp < la := by omega
              have gp7 : (kp : Int) < (la : Int) := by omega
              have gp8 : (0 : Int) ≤ (kp : Int) := by omega
              obtain ⟨adp, rp, hcp⟩ := (((HA).out (by omega)).below loops.out).at (by omega)
              subst rp
              have hcp2 := hcp kp (by omega)
              clear hcp
              have gq1 : decide (q ≤ k) = false := decide_eq_false (by omega)
              have gq2 : decide ((q : Int) ≤ (k : Int)) = false := decide_eq_false (by omega)
              rw [← hkp] at hc
              generalize a.getD kp 0 = va at *
              clear cp cq hkp
              go_wp2_with fail
              go_round
              case rel => exact ⟨k + 1, by omega, by go_num⟩
              case measure => (simp [intOf]; try omega)
            · rw [if_neg (by omega), if_pos (by omega)] at hc
              have gp1 : decide (p ≤ k) = true := decide_eq_true (by omega)
              have gp2 : decide ((p : Int) ≤ (k : Int)) = true := decide_eq_true (by omega)
              obtain ⟨kp, hkp⟩ : ∃ kp, kp = k - p := ⟨_, rfl⟩
              have gp3 : IntKind.i64.wrap ((k : Int) - (p : Int)) = (kp : Int) := by rw [IntKind.wrap_i64]; omega
              have gp4 : decide (kp < la) = true := decide_eq_true (by omega)
              have gp5 : decide ((kp : Int) < (la : Int)) = true := decide_eq_true (by omega)
              have gp6 : kp < la := by omega
              have gp7 : (kp : Int) < (la : Int) := by omega
              have gp8 : (0 : Int) ≤ (kp : Int) := by omega
              obtain ⟨adp, rp, hcp⟩ := (((HA).out (by omega)).below loops.out).at (by omega)
              subst rp
              have hcp2 := hcp kp (by omega)
              clear hcp
              have gq1 : decide (q ≤ k) = true := decide_eq_true (by omega)
              have gq2 : decide ((q : Int) ≤ (k : Int)) = true := decide_eq_true (by omega)
              obtain ⟨kq, hkq⟩ : ∃ kq, kq = k - q := ⟨_, rfl⟩
              have gq3 : IntKind.i64.wrap ((k : Int) - (q : Int)) = (kq : Int) := by rw [IntKind.wrap_i64]; omega
              have gq4 : decide (kq < lb) = false := decide_eq_false (by omega)
              have gq5 : decide ((kq : Int) < (lb : Int)) = false := decide_eq_false (by omega)
              rw [← hkp] at hc
              generalize a.getD kp 0 = va at *
              clear cp cq hkp hkq
              go_wp2_with fail
              go_round
              case rel => exact ⟨k + 1, by omega, by go_num⟩
              case measure => (simp [intOf]; try omega)
            · rw [if_pos (by omega)] at hc
              have gp1 : decide (p ≤ k) = true := decide_eq_true (by omega)
              have gp2 : decide ((p : Int) ≤ (k : Int)) = true := decide_eq_true (by omega)
              obtain ⟨kp, hkp⟩ : ∃ kp, kp = k - p := ⟨_, rfl⟩
              have gp3 : IntKind.i64.wrap ((k : Int) - (p : Int)) = (kp : Int) := by rw [IntKind.wrap_i64]; omega
              have gp4 : decide (kp < la) = true := decide_eq_true (by omega)
              have gp5 : decide ((kp : Int) < (la : Int)) = true := decide_eq_true (by omega)
              have gp6 : kp < la := by omega
              have gp7 : (kp : Int) < (la : Int) := by omega
              have gp8 : (0 : Int) ≤ (kp : Int) := by omega
              obtain ⟨adp, rp, hcp⟩ := (((HA).out (by omega)).below loops.out).at (by omega)
              subst rp
              have hcp2 := hcp kp (by omega)
              clear hcp
              have gq1 : decide (q ≤ k) = true := decide_eq_true (by omega)
              have gq2 : decide ((q : Int) ≤ (k : Int)) = true := decide_eq_true (by omega)
              obtain ⟨kq, hkq⟩ : ∃ kq, kq = k - q := ⟨_, rfl⟩
              have gq3 : IntKind.i64.wrap ((k : Int) - (q : Int)) = (kq : Int) := by rw [IntKind.wrap_i64]; omega
              have gq4 : decide (kq < lb) = true := decide_eq_true (by omega)
              have gq5 : decide ((kq : Int) < (lb : Int)) = true := decide_eq_true (by omega)
              have gq6 : kq < lb := by omega
              have gq7 : (kq : Int) < (lb : Int) := by omega
              have gq8 : (0 : Int) ≤ (kq : Int) := by omega
              obtain ⟨adq, rq, hcq⟩ := (((HB).out (by omega)).below loops.out).at (by omega)
              subst rq
              have hcq2 := hcq kq (by omega)
              clear hcq
              rw [← hkq] at hc
              generalize b.getD kq 0 = vb at hc hcq2
              generalize a.getD kp 0 = va at *
              clear cp cq hkp hkq
              go_wp2_with fail
              go_round
              case rel => exact ⟨k + 1, by omega, by go_num⟩
              case measure => (simp [intOf]; try omega)
        · obtain rfl : k = L := by omega
          have hno : ¬ ((k : Int) < (k : Int)) := by omega
          go_wp2_with fail
          go_ret
          exact ⟨rfl, loops.out⟩
    · have f2 : decide (0 < lb) = true := decide_eq_true e3
      have z1 : wrap64 ((p : Int) + (la : Int)) = (p : Int) + (la : Int) := by have h1 := HP.out; have h2 := HA5.out; unfold wrap64; omega
      have z2 : wrap64 ((q : Int) + (lb : Int)) = (q : Int) + (lb : Int) := by have h1 := HQ.out; have h2 := HB5.out; unfold wrap64; omega
      have f4 : (0 : Int) < (q : Int) + (lb : Int) := by omega
      have f3 : ((L : Int) != (q : Int) + (lb : Int)) = false := bne_eq_false_iff_eq.2 (by omega)
      have FL : Aside0 ((L : Int) = (q : Int) + (lb : Int)) := ⟨by omega⟩
      have hl5 := HL5.out
      clear e1 e2 e3 e4 e5
      go_wp2_with fail
      all_goals first
        | (exfalso; have := FL.out; omega)
        | skip
      clear z1 z2
      go_loop [86] (fun i => ∃ k : Nat, k ≤ L ∧ i = .int .i64 k) (fun i => L - (intOf i).toNat)
      case atStart => exact ⟨0, Nat.zero_le _, rfl⟩
      case round =>
        obtain ⟨k, hk, rfl⟩ := hrel
        by_cases hlt : k < L
        · obtain ⟨ad, rA, hcall⟩ := HR.out.at (by omega)
          subst rA
          have hv := AT.out k
          have hc := hcall k hlt
          rw [hv] at hc
          clear hcall hv
          have hlt2 : decide (k < L) = true := decide_eq_true hlt
          have hlt3 : decide ((k : Int) < (L : Int)) = true := decide_eq_true (by omega)
          have hi0 : (0 : Int) ≤ (k : Int) := by omega
          rcases (show k < p ∨ (p ≤ k ∧ la ≤ k - p) ∨ (p ≤ k ∧ k - p < la) by omega) with cp | cp | cp
          · rcases (show k < q ∨ (q ≤ k ∧ lb ≤ k - q) ∨ (q ≤ k ∧ k - q < lb) by omega) with cq | cq | cq
            · rw [if_neg (by omega), if_neg (by omega)] at hc
              have gp1 : decide (p ≤ k) = false := decide_eq_false (by omega)
              have gp2 : decide ((p : Int) ≤ (k : Int)) = false := decide_eq_false (by omega)
              have gq1 : decide (q ≤ k) = false := decide_eq_false (by omega)
              have gq2 : decide ((q : Int) ≤ (k : Int)) = false := decide_eq_false (by omega)
              clear cp cq 
              go_wp2_with fail
              go_round
              case rel => exact ⟨k + 1, by omega, by go_num⟩
              case measure => (simp [intOf]; try omega)
            · rw [if_neg (by omega), if_neg (by omega)] at hc
              have gp1 : decide (p ≤ k) = false := decide_eq_false (by omega)
              have gp2 : decide ((p : Int) ≤ (k : Int)) = false := decide_eq_false (by omega)
              have gq1 : decide (q ≤ k) = true := decide_eq_true (by omega)
              have gq2 : decide ((q : Int) ≤ (k : Int)) = true := decide_eq_true (by omega)
              obtain ⟨kq, hkq⟩ : ∃ kq, kq = k - q := ⟨_, rfl⟩
              have gq3 : IntKind.i64.wrap ((k : Int) - (q : Int)) = (kq : Int) := by rw [IntKind.wrap_i64]; omega
              have gq4 : decide (kq < lb) = false := decide_eq_false (by omega)
              have gq5 : decide ((kq : Int) < (lb : Int)) = false := decide_eq_false (by omega)
              clear cp cq hkq
              go_wp2_with fail
              go_round
              case rel => exact ⟨k + 1, by omega, by go_num⟩
              case measure => (simp [intOf]; try omega)
            · rw [if_pos (by omega)] at hc
              have gp1 : decide (p ≤ k) = false := decide_eq_false (by omega)
              have gp2 : decide ((p : Int) ≤ (k : Int)) = false := decide_eq_false (by omega)
              have gq1 : decide (q ≤ k) = true := decide_eq_true (by omega)
              have gq2 : decide ((q : Int) ≤ (k : Int)) = true := decide_eq_true (by omega)
              obtain ⟨kq, hkq⟩ : ∃ kq, kq = k - q := ⟨_, rfl⟩
              have gq3 : IntKind.i64.wrap ((k : Int) - (q : Int)) = (kq : Int) := by rw [IntKind.wrap_i64]; omega
              have gq4 : decide (kq < lb) = true := decide_eq_true (by omega)
              have gq5 : decide ((kq : Int) < (lb : Int)) = true := decide_eq_true (by omega)
              have gq6 : kq < lb := by omega
              have gq7 : (kq : Int) < (lb : Int) := by omega
              have gq8 : (0 : Int) ≤ (kq : Int) := by omega
              obtain ⟨adq, rq, hcq⟩ := (((HB).out (by omega)).below loops.out).at (by omega)
              subst rq
              have hcq2 := hcq kq (by omega)
              clear hcq
              rw [← hkq] at hc
              generalize b.getD kq 0 = vb at hc hcq2
              clear cp cq hkq
              go_wp2_with fail
              go_round
              case rel => exact ⟨k + 1, by omega, by go_num⟩
              case measure => (simp [intOf]; try omega)
          · rcases (show k < q ∨ (q ≤ k ∧ lb ≤ k - q) ∨ (q ≤ k ∧ k - q < lb) by omega) with cq | cq | cq
            · rw [if_neg (by omega), if_neg (by omega)] at hc
              have gp1 : decide (p ≤ k) = true := decide_eq_true (by omega)
              have gp2 : decide ((p : Int) ≤ (k : Int)) = true := decide_eq_true (by omega)
              obtain ⟨kp, hkp⟩ : ∃ kp, kp = k - p := ⟨_, rfl⟩
              have gp3 : IntKind.i64.wrap ((k : Int) - (p : Int)) = (kp : Int) := by rw [IntKind.wrap_i64]; omega
              have gp4 : decide (kp < la) = false := decide_eq_false (by omega)
              have gp5 : decide ((kp : Int) < (la : Int)) = false := decide_eq_false (by omega)
              have gq1 : decide (q ≤ k) = false := decide_eq_false (by omega)
              have gq2 : decide ((q : Int) ≤ (k : Int)) = false := decide_eq_false (by omega)
              clear cp cq hkp
              go_wp2_with fail
              go_round
              case rel => exact ⟨k + 1, by omega, by go_num⟩
              case measure => (simp [intOf]; try omega)
            · rw [if_neg (by omega), if_neg (by omega)] at hc
              have gp1 : decide (p ≤ k) = true := decide_eq_true (by omega)
              have gp2 : decide ((p : Int) ≤ (k : Int)) = true := decide_eq_true (by omega)
              obtain ⟨kp, hkp⟩ : ∃ kp, kp = k - p := ⟨_, rfl⟩
              have gp3 : IntKind.i64.wrap ((k : Int) - (p : Int)) = (kp : Int) := by rw [IntKind.wrap_i64]; omega
              have gp4 : decide (kp < la) = false := decide_eq_false (by omega)
              have gp5 : decide ((kp : Int) < (la : Int)) = false := decide_eq_false (by omega)
              have gq1 : decide (q ≤ k) = true := decide_eq_true (by omega)
              have gq2 : decide ((q : Int) ≤ (k : Int)) = true := decide_eq_true (by omega)
              obtain ⟨kq, hkq⟩ : ∃ kq, kq = k - q := ⟨_, rfl⟩
              have gq3 : IntKind.i64.wrap ((k : Int) - (q : Int)) = (kq : Int) := by rw [IntKind.wrap_i64]; omega
              have gq4 : decide (kq < lb) = false := decide_eq_false (by omega)
              have gq5 : decide ((kq : Int) < (lb : Int)) = false := decide_eq_false (by omega)
              clear cp cq hkp hkq
              go_wp2_with fail
              go_round
              case rel => exact ⟨k + 1, by omega, by go_num⟩
              case measure => (simp [intOf]; try omega)
            · rw [if_pos (by omega)] at hc
              have gp1 : decide (p ≤ k) = true := decide_eq_true (by omega)
              have gp2 : decide ((p : Int) ≤ (k : Int)) = true := decide_eq_true (by omega)
              obtain ⟨kp, hkp⟩ : ∃ kp, kp = k - p := ⟨_, rfl⟩
              have gp3 : IntKind.i64.wrap ((k : Int) - (p : Int)) = (kp : Int) := by rw [IntKind.wrap_i64]; omega
              have gp4 : decide (kp < la) = false := decide_eq_false (by omega)
              have gp5 : decide ((kp : Int) < (la : Int)) = false := decide_eq_false (by omega)
              have gq1 : decide (q ≤ k) = true := decide_eq_true (by omega)
              have gq2 : decide ((q : Int) ≤ (k : Int)) = true := decide_eq_true (by omega)
              obtain ⟨kq, hkq⟩ : ∃ kq, kq = k - q := ⟨_, rfl⟩
              have gq3 : IntKind.i64.wrap ((k : Int) - (q : Int)) = (kq : Int) := by rw [IntKind.wrap_i64]; omega
              have gq4 : decide (kq < lb) = true := decide_eq_true (by omega)
              have gq5 : decide ((kq : Int) < (lb : Int)) = true := decide_eq_true (by omega)
              have gq6 : kq < lb := by omega
              have gq7 : (kq : Int) < (lb : Int) := by omega
              have gq8 : (0 : Int) ≤ (kq : Int) := by omega
              obtain ⟨adq, rq, hcq⟩ := (((HB).out (by omega)).below loops.out).at (by omega)
              subst rq
              have hcq2 := hcq kq (by omega)
              clear hcq
              rw [← hkq] at hc
              generalize b.getD kq 0 = vb at hc hcq2
              clear cp cq hkp hkq
              go_wp2_with fail
              go_round
              case rel => exact ⟨k + 1, by omega, by go_num⟩
              case measure => (simp [intOf]; try omega)
          · rcases (show k < q ∨ (q ≤ k ∧ lb ≤ k - q) ∨ (q ≤ k ∧ k - q < lb) by omega) with cq | cq | cq
            · rw [if_neg (by omega), if_pos (by omega)] at hc
              have gp1 : decide (p ≤ k) = true := decide_eq_true (by omega)
              have gp2 : decide ((p : Int) ≤ (k : Int)) = true := decide_eq_true (by omega)
              obtain ⟨kp, hkp⟩ : ∃ kp, kp = k - p := ⟨_, rfl⟩
              have gp3 : IntKind.i64.wrap ((k : Int) - (p : Int)) = (kp : Int) := by rw [IntKind.wrap_i64]; omega
              have gp4 : decide (kp < la) = true := decide_eq_true (by omega)
              have gp5 : decide ((kp : Int) < (la : Int)) = true := decide_eq_true (by omega)
              have gp6 : kp < la := by omega
              have gp7 : (kp : Int) < (la : Int) := by omega
              have gp8 : (0 : Int) ≤ (kp : Int) := by omega
              obtain ⟨adp, rp, hcp⟩ := (((HA).out (by omega)).below loops.out).at (by omega)
              subst rp
              have hcp2 := hcp kp (by omega)
              clear hcp
              have gq1 : decide (q ≤ k) = false := decide_eq_false (by omega)
              have gq2 : decide ((q : Int) ≤ (k : Int)) = false := decide_eq_false (by omega)
              rw [← hkp] at hc
              generalize a.getD kp 0 = va at *
              clear cp cq hkp
              go_wp2_with fail
              go_round
              case rel => exact ⟨k + 1, by omega, by go_num⟩
              case measure => (simp [intOf]; try omega)
            · rw [if_neg (by omega), if_pos (by omega)] at hc
              have gp1 : decide (p ≤ k) = true := decide_eq_true (by omega)
              have gp2 : decide ((p : Int) ≤ (k : Int)) = true := decide_eq_true (by omega)
              obtain ⟨kp, hkp⟩ : ∃ kp, kp = k - p := ⟨_, rfl⟩
              have gp3 : IntKind.i64.wrap ((k : Int) - (p : Int)) = (kp : Int) := by rw [IntKind.wrap_i64]; omega
              have gp4 : decide (kp < la) = true := decide_eq_true (by omega)
              have gp5 : decide ((kp : Int) < (la : Int)) = true := decide_eq_true (by omega)
              have gp6 : kp < la := by omega
              have gp7 : (kp : Int) < (la : Int) := by omega
              have gp8 : (0 : Int) ≤ (kp : Int) := by omega
              obtain ⟨adp, rp, hcp⟩ := (((HA).out (by omega)).below loops.out).at (by omega)
              subst rp
              have hcp2 := hcp kp (by omega)
              clear hcp
              have gq1 : decide (q ≤ k) = true := decide_eq_true (by omega)
              have gq2 : decide ((q : Int) ≤ (k : Int)) = true := decide_eq_true (by omega)
              obtain ⟨kq, hkq⟩ : ∃ kq, kq = k - q := ⟨_, rfl⟩
              have gq3 : IntKind.i64.wrap ((k : Int) - (q : Int)) = (kq : Int) := by rw [IntKind.wrap_i64]; omega
              have gq4 : decide (kq < lb) = false := decide_eq_false (by omega)
              have gq5 : decide ((kq : Int) < (lb : Int)) = false := decide_eq_false (by omega)
              rw [← hkp] at hc
              generalize a.getD kp 0 = va at *
              clear cp cq hkp hkq
              go_wp2_with fail
              go_round
              case rel => exact ⟨k + 1, by omega, by go_num⟩
              case measure => (simp [intOf]; try omega)
            · rw [if_pos (by omega)] at hc
              have gp1 : decide (p ≤ k) = true := decide_eq_true (by omega)
              have gp2 : decide ((p : Int) ≤ (k : Int)) = true := decide_eq_true (by omega)
              obtain ⟨kp, hkp⟩ : ∃ kp, kp = k - p := ⟨_, rfl⟩
              have gp3 : IntKind.i64.wrap ((k : Int) - (p : Int)) = (kp : Int) := by rw [IntKind.wrap_i64]; omega
              have gp4 : decide (kp < la) = true := decide_eq_true (by omega)
              have gp5 : decide ((kp : Int) < (la : Int)) = true := decide_eq_true (by omega)
              have gp6 : kp < la := by omega
              have gp7 : (kp : Int) < (la : Int) := by omega
              have gp8 : (0 : Int) ≤ (kp : Int) := by omega
              obtain ⟨adp, rp, hcp⟩ := (((HA).out (by omega)).below loops.out).at (by omega)
              subst rp
              have hcp2 := hcp kp (by omega)
              clear hcp
              have gq1 : decide (q ≤ k) = true := decide_eq_true (by omega)
              have gq2 : decide ((q : Int) ≤ (k : Int)) = true := decide_eq_true (by omega)
              obtain ⟨kq, hkq⟩ : ∃ kq, kq = k - q := ⟨_, rfl⟩
              have gq3 : IntKind.i64.wrap ((k : Int) - (q : Int)) = (kq : Int) := by rw [IntKind.wrap_i64]; omega
              have gq4 : decide (kq < lb) = true := decide_eq_true (by omega)
              have gq5 : decide ((kq : Int) < (lb : Int)) = true := decide_eq_true (by omega)
              have gq6 : kq < lb := by omega
              have gq7 : (kq : Int) < (lb : Int) := by omega
              have gq8 : (0 : Int) ≤ (kq : Int) := by omega
              obtain ⟨adq, rq, hcq⟩ := (((HB).out (by omega)).below loops.out).at (by omega)
              subst rq
              have hcq2 := hcq kq (by omega)
              clear hcq
              rw [← hkq] at hc
              generalize b.getD kq 0 = vb at hc hcq2
              generalize a.getD kp 0 = va at *
              clear cp cq hkp hkq
              go_wp2_with fail
              go_round
              case rel => exact ⟨k + 1, by omega, by go_num⟩
              case measure => (simp [intOf]; try omega)
        · obtain rfl : k = L := by omega
          have hno : ¬ ((k : Int) < (k : Int)) := by omega
          go_wp2_with fail
          go_ret
          exact ⟨rfl, loops.out⟩
    · exfalso
      omega
  · rcases W2.out with ⟨e3, e4⟩ | ⟨e3, e5, e4⟩ | ⟨e3, e5, e4⟩
    · have f2 : decide (0 < lb) = false := decide_eq_false (by omega)
      have f1 : decide (0 < la) = true := decide_eq_true e1
      have z1 : wrap64 ((p : Int) + (la : Int)) = (p : Int) + (la : Int) := by have h1 := HP.out; have h2 := HA5.out; unfold wrap64; omega
      have z2 : wrap64 ((q : Int) + (lb : Int)) = (q : Int) + (lb : Int) := by have h1 := HQ.out; have h2 := HB5.out; unfold wrap64; omega
      have f3 : ((L : Int) != (p : Int) + (la : Int)) = false := bne_eq_false_iff_eq.2 (by omega)
      have FL : Aside0 ((L : Int) = (p : Int) + (la : Int)) := ⟨by omega⟩
      have hl5 := HL5.out
      clear e1 e2 e3 e4 
      go_wp2_with fail
      all_goals first
        | (exfalso; have := FL.out; omega)
        | skip
      clear z1 z2
      go_loop [86] (fun i => ∃ k : Nat, k ≤ L ∧ i = .int .i64 k) (fun i => L - (intOf i).toNat)
      case atStart => exact ⟨0, Nat.zero_le _, rfl⟩
      case round =>
        obtain ⟨k, hk, rfl⟩ := hrel
        by_cases hlt : k < L
        · obtain ⟨ad, rA, hcall⟩ := HR.out.at (by omega)
          subst rA
          have hv := AT.out k
          have hc := hcall k hlt
          rw [hv] at hc
          clear hcall hv
          have hlt2 : decide (k < L) = true := decide_eq_true hlt
          have hlt3 : decide ((k : Int) < (L : Int)) = true := decide_eq_true (by omega)
          have hi0 : (0 : Int) ≤ (k : Int) := by omega
          rcases (show k < p ∨ (p ≤ k ∧ la ≤ k - p) ∨ (p ≤ k ∧ k - p < la) by omega) with cp | cp | cp
          · rcases (show k < q ∨ (q ≤ k ∧ lb ≤ k - q) ∨ (q ≤ k ∧ k - q < lb) by omega) with cq | cq | cq
            · rw [if_neg (by omega), if_neg (by omega)] at hc
              have gp1 : decide (p ≤ k) = false := decide_eq_false (by omega)
              have gp2 : decide ((p : Int) ≤ (k : Int)) = false := decide_eq_false (by omega)
              have gq1 : decide (q ≤ k) = false := decide_eq_false (by omega)
              have gq2 : decide ((q : Int) ≤ (k : Int)) = false := decide_eq_false (by omega)
              clear cp cq 
              go_wp2_with fail
              go_round
              case rel => exact ⟨k + 1, by omega, by go_num⟩
              case measure => (simp [intOf]; try omega)
            · rw [if_neg (by omega), if_neg (by omega)] at hc
              have gp1 : decide (p ≤ k) = false := decide_eq_false (by omega)
              have gp2 : decide ((p : Int) ≤ (k : Int)) = false := decide_eq_false (by omega)
              have gq1 : decide (q ≤ k) = true := decide_eq_true (by omega)
              have gq2 : decide ((q : Int) ≤ (k : Int)) = true := decide_eq_true (by omega)
              obtain ⟨kq, hkq⟩ : ∃ kq, kq = k - q := ⟨_, rfl⟩
              have gq3 : IntKind.i64.wrap ((k : Int) - (q : Int)) = (kq : Int) := by rw [IntKind.wrap_i64]; omega
              have gq4 : decide (kq < lb) = false := decide_eq_false (by omega)
              have gq5 : decide ((kq : Int) < (lb : Int)) = false := decide_eq_false (by omega)
              clear cp cq hkq
              go_wp2_with fail
              go_round
              case rel => exact ⟨k + 1, by omega, by go_num⟩
              case measure => (simp [intOf]; try omega)
            · rw [if_pos (by omega)] at hc
              have gp1 : decide (p ≤ k) = false := decide_eq_false (by omega)
              have gp2 : decide ((p : Int) ≤ (k : Int)) = false := decide_eq_false (by omega)
              have gq1 : decide (q ≤ k) = true := decide_eq_true (by omega)
              have gq2 : decide ((q : Int) ≤ (k : Int)) = true := decide_eq_true (by omega)
              obtain ⟨kq, hkq⟩ : ∃ kq, kq = k - q := ⟨_, rfl⟩
              have gq3 : IntKind.i64.wrap ((k : Int) - (q : Int)) = (kq : Int) := by rw [IntKind.wrap_i64]; omega
              have gq4 : decide (kq < lb) = true := decide_eq_true (by omega)
              have gq5 : decide ((kq : Int) < (lb : Int)) = true := decide_eq_true (by omega)
              have gq6 : kq < lb := by omega
              have gq7 : (kq : Int) < (lb : Int) := by omega
              have gq8 : (0 : Int) ≤ (kq : Int) := by omega
              obtain ⟨adq, rq, hcq⟩ := (((HB).out (by omega)).below loops.out).at (by omega)
              subst rq
              have hcq2 := hcq kq (by omega)
              clear hcq
              rw [← hkq] at hc
              generalize b.getD kq 0 = vb at hc hcq2
              clear cp cq hkq
              go_wp2_with fail
              go_round
              case rel => exact ⟨k + 1, by omega, by go_num⟩
              case measure => (simp [intOf]; try omega)
          · rcases (show k < q ∨ (q ≤ k ∧ lb ≤ k - q) ∨ (q ≤ k ∧ k - q < lb) by omega) with cq | cq | cq
            · rw [if_neg (by omega), if_neg (by omega)] at hc
              have gp1 : decide (p ≤ k) = true := decide_eq_true (by omega)
              have gp2 : decide ((p : Int) ≤ (k : Int)) = true := decide_eq_true (by omega)
              obtain ⟨kp, hkp⟩ : ∃ kp, kp = k - p := ⟨_, rfl⟩
              have gp3 : IntKind.i64.wrap ((k : Int) - (p : Int)) = (kp : Int) := by rw [IntKind.wrap_i64]; omega
              have gp4 : decide (kp < la) = false := decide_eq_false (by omega)
              have gp5 : decide ((kp : Int) < (la : Int)) = false := decide_eq_false (by omega)
              have gq1 : decide (q ≤ k) = false := decide_eq_false (by omega)
              have gq2 : decide ((q : Int) ≤ (k : Int)) = false := decide_eq_false (by omega)
              clear cp cq hkp
              go_wp2_with fail
              go_round
              case rel => exact ⟨k + 1, by omega, by go_num⟩
              case measure => (simp [intOf]; try omega)
            · rw [if_neg (by omega), if_neg (by omega)] at hc
              have gp1 : decide (p ≤ k) = true := decide_eq_true (by omega)
              have gp2 : decide ((p : Int) ≤ (k : Int)) = true := decide_eq_true (by omega)
              obtain ⟨kp, hkp⟩ : ∃ kp, kp = k - p := ⟨_, rfl⟩
              have gp3 : IntKind.i64.wrap ((k : Int) - (p : Int)) = (kp : Int) := by rw [IntKind.wrap_i64]; omega
              have gp4 : decide (kp < la) = false := decide_eq_false (by omega)
              have gp5 : decide ((kp : Int) < (la : Int)) = false := decide_eq_false (by omega)
              have gq1 : decide (q ≤ k) = true := decide_eq_true (by omega)
              have gq2 : decide ((q : Int) ≤ (k : Int)) = true := decide_eq_true (by omega)
              obtain ⟨kq, hkq⟩ : ∃ kq, kq = k - q := ⟨_, rfl⟩
              have gq3 : IntKind.i64.wrap ((k : Int) - (q : Int)) = (kq : Int) := by rw [IntKind.wrap_i64]; omega
              have gq4 : decide (kq < lb) = false := decide_eq_false (by omega)
              have gq5 : decide ((kq : Int) < (lb : Int)) = false := decide_eq_false (by omega)
              clear cp cq hkp hkq
              go_wp2_with fail
              go_round
              case rel => exact ⟨k + 1, by omega, by go_num⟩
              case measure => (simp [intOf]; try omega)
            · rw [if_pos (by omega)] at hc
              have gp1 : decide (p ≤ k) = true := decide_eq_true (by omega)
              have gp2 : decide ((p : Int) ≤ (k : Int)) = true := decide_eq_true (by omega)
              obtain ⟨kp, hkp⟩ : ∃ kp, kp = k - p := ⟨_, rfl⟩
              have gp3 : IntKind.i64.wrap ((k : Int) - (p : Int)) = (kp : Int) := by rw [IntKind.wrap_i64]; omega
              have gp4 : decide (kp < la) = false := decide_eq_false (by omega)
              have gp5 : decide ((kp : Int) < (la : Int)) = false := decide_eq_false (by omega)
              have gq1 : decide (q ≤ k) = true := decide_eq_true (by omega)
              have gq2 : decide ((q : Int) ≤ (k : Int)) = true := decide_eq_true (by omega)
              obtain ⟨kq, hkq⟩ : ∃ kq, kq = k - q := ⟨_, rfl⟩
              have gq3 : IntKind.i64.wrap ((k : Int) - (q : Int)) = (kq : Int) := by rw [IntKind.wrap_i64]; omega
              have gq4 : decide (kq < lb) = true := decide_eq_true (by omega)
              have gq5 : decide ((kq : Int) < (lb : Int)) = true := decide_eq_true (by omega)
              have gq6 : kq < lb := by omega
              have gq7 : (kq : Int) < (lb : Int) := by omega
              have gq8 : (0 : Int) ≤ (kq : Int) := by omega
              obtain ⟨adq, rq, hcq⟩ := (((HB).out (by omega)).below loops.out).at (by omega)
              subst rq
              have hcq2 := hcq kq (by omega)
              clear hcq
              rw [← hkq] at hc
              generalize b.getD kq 0 = vb at hc hcq2
              clear cp cq hkp hkq
              go_wp2_with fail
              go_round
              case rel => exact ⟨k + 1, by omega, by go_num⟩
              case measure => (simp [intOf]; try omega)
          · rcases (show k < q ∨ (q ≤ k ∧ lb ≤ k - q) ∨ (q ≤ k ∧ k - q < lb) by omega) with cq | cq | cq
            · rw [if_neg (by omega), if_pos (by omega)] at hc
              have gp1 : decide (p ≤ k) = true := decide_eq_true (by omega)
              have gp2 : decide ((p : Int) ≤ (k : Int)) = true := decide_eq_true (by omega)
              obtain ⟨kp, hkp⟩ : ∃ kp, kp = k - p := ⟨_, rfl⟩
              have gp3 : IntKind.i64.wrap ((k : Int) - (p : Int)) = (kp : Int) := by rw [IntKind.wrap_i64]; omega
              have gp4 : decide (kp < la) = true := decide_eq_true (by omega)
              have gp5 : decide ((kp : Int) < (la : Int)) = true := decide_eq_true (by omega)
              have gp6 : kp < la := by omega
              have gp7 : (kp : Int) < (la : Int) := by omega
              have gp8 : (0 : Int) ≤ (kp : Int) := by omega
              obtain ⟨adp, rp, hcp⟩ := (((HA).out (by omega)).below loops.out).at (by omega)
              subst rp
              have hcp2 := hcp kp (by omega)
              clear hcp
              have gq1 : decide (q ≤ k) = false := decide_eq_false (by omega)
              have gq2 : decide ((q : Int) ≤ (k : Int)) = false := decide_eq_false (by omega)
              rw [← hkp] at hc
              generalize a.getD kp 0 = va at *
              clear cp cq hkp
              go_wp2_with fail
              go_round
              case rel => exact ⟨k + 1, by omega, by go_num⟩
              case measure => (simp [intOf]; try omega)
            · rw [if_neg (by omega), if_pos (by omega)] at hc
              have gp1 : decide (p ≤ k) = true := decide_eq_true (by omega)
              have gp2 : decide ((p : Int) ≤ (k : Int)) = true := decide_eq_true (by omega)
              obtain ⟨kp, hkp⟩ : ∃ kp, kp = k - p := ⟨_, rfl⟩
              have gp3 : IntKind.i64.wrap ((k : Int) - (p : Int)) = (kp : Int) := by rw [IntKind.wrap_i64]; omega
              have gp4 : decide (kp < la) = true := decide_eq_true (by omega)
              have gp5 : decide ((kp : Int) < (la : Int)) = true := decide_eq_true (by omega)
              have gp6 : kp < la := by omega
              have gp7 : (kp : Int) < (la : Int) := by omega
              have gp8 : (0 : Int) ≤ (kp : Int) := by omega
              obtain ⟨adp, rp, hcp⟩ := (((HA).out (by omega)).below loops.out).at (by omega)
              subst rp
              have hcp2 := hcp kp (by omega)
              clear hcp
              have gq1 : decide (q ≤ k) = true := decide_eq_true (by omega)
              have gq2 : decide ((q : Int) ≤ (k : Int)) = true := decide_eq_true (by omega)
              obtain ⟨kq, hkq⟩ : ∃ kq, kq = k - q := ⟨_, rfl⟩
              have gq3 : IntKind.i64.wrap ((k : Int) - (q : Int)) = (kq : Int) := by rw [IntKind.wrap_i64]; omega
              have gq4 : decide (kq < lb) = false := decide_eq_false (by omega)
              have gq5 : decide ((kq : Int) < (lb : Int)) = false := decide_eq_false (by omega)
              rw [← hkp] at hc
              generalize a.getD kp 0 = va at *
              clear cp cq hkp hkq
              go_wp2_with fail
              go_round
              case rel => exact ⟨k + 1, by omega, by go_num⟩
              case measure => (simp [intOf]; try omega)
            · rw [if_pos (by omega)] at hc
              have gp1 : decide (p ≤ k) = true := decide_eq_true (by omega)
              have gp2 : decide ((p : Int) ≤ (k : Int)) = true := decide_eq_true (by omega)
              obtain ⟨kp, hkp⟩ : ∃ kp, kp = k - p := ⟨_, rfl⟩
              have gp3 : IntKind.i64.wrap ((k : Int) - (p : Int)) = (kp : Int) := by rw [IntKind.wrap_i64]; omega
              have gp4 : decide (kp < la) = true := decide_eq_true (by omega)
              have gp5 : decide ((kp : Int) < (la : Int)) = true := decide_eq_true (by omega)
              have gp6 : kp < la := by omega
              have gp7 : (kp : Int) < (la : Int) := by omega
              have gp8 : (0 : Int) ≤ (kp : Int) := by omega
              obtain ⟨adp, rp, hcp⟩ := (((HA).out (by omega)).below loops.out).at (by omega)
              subst rp
              have hcp2 := hcp kp (by omega)
              clear hcp
              have gq1 : decide (q ≤ k) = true := decide_eq_true (by omega)
              have gq2 : decide ((q : Int) ≤ (k : Int)) = true := decide_eq_true (by omega)
              obtain ⟨kq, hkq⟩ : ∃ kq, kq = k - q := ⟨_, rfl⟩
              have gq3 : IntKind.i64.wrap ((k : Int) - (q : Int)) = (kq : Int) := by rw [IntKind.wrap_i64]; omega
              have gq4 : decide (kq < lb) = true := decide_eq_true (by omega)
              have gq5 : decide ((kq : Int) < (lb : Int)) = true := decide_eq_true (by omega)
              have gq6 : kq < lb := by omega
              have gq7 : (kq : Int) < (lb : Int) := by omega
              have gq8 : (0 : Int) ≤ (kq : Int) := by omega
              obtain ⟨adq, rq, hcq⟩ := (((HB).out (by omega)).below loops.out).at (by omega)
              subst rq
              have hcq2 := hcq kq (by omega)
              clear hcq
              rw [← hkq] at hc
              generalize b.getD kq 0 = vb at hc hcq2
              generalize a.getD kp 0 = va at *
              clear cp cq hkp hkq
              go_wp2_with fail
              go_round
              case rel => exact ⟨k + 1, by omega, by go_num⟩
              case measure => (simp [intOf]; try omega)
        · obtain rfl : k = L := by omega
          have hno : ¬ ((k : Int) < (k : Int)) := by omega
          go_wp2_with fail
          go_ret
          exact ⟨rfl, loops.out⟩
    · have f1 : decide (0 < la) = true := decide_eq_true e1
      have f2 : decide (0 < lb) = true := decide_eq_true e3
      have z1 : wrap64 ((p : Int) + (la : Int)) = (p : Int) + (la : Int) := by have h1 := HP.out; have h2 := HA5.out; unfold wrap64; omega
      have z2 : wrap64 ((q : Int) + (lb : Int)) = (q : Int) + (lb : Int) := by have h1 := HQ.out; have h2 := HB5.out; unfold wrap64; omega
      have f4 : (p : Int) + (la : Int) < (q : Int) + (lb : Int) := by omega
      have f3 : ((L : Int) != (q : Int) + (lb : Int)) = false := bne_eq_false_iff_eq.2 (by omega)
      have FL : Aside0 ((L : Int) = (q : Int) + (lb : Int)) := ⟨by omega⟩
      have hl5 := HL5.out
      clear e1 e2 e3 e4 e5
      go_wp2_with fail
      all_goals first
        | (exfalso; have := FL.out; omega)
        | skip
      clear z1 z2
      go_loop [86] (fun i => ∃ k : Nat, k ≤ L ∧ i = .int .i64 k) (fun i => L - (intOf i).toNat)
      case atStart => exact ⟨0, Nat.zero_le _, rfl⟩
      case round =>
        obtain ⟨k, hk, rfl⟩ := hrel
        by_cases hlt : k < L
        · obtain ⟨ad, rA, hcall⟩ := HR.out.at (by omega)
          subst rA
          have hv := AT.out k
          have hc := hcall k hlt
          rw [hv] at hc
          clear hcall hv
          have hlt2 : decide (k < L) = true := decide_eq_true hlt
          have hlt3 : decide ((k : Int) < (L : Int)) = true := decide_eq_true (by omega)
          have hi0 : (0 : Int) ≤ (k : Int) := by omega
          rcases (show k < p ∨ (p ≤ k ∧ la ≤ k - p) ∨ (p ≤ k ∧ k - p < la) by omega) with cp | cp | cp
          · rcases (show k < q ∨ (q ≤ k ∧ lb ≤ k - q) ∨ (q ≤ k ∧ k - q < lb) by omega) with cq | cq | cq
            · rw [if_neg (by omega), if_neg (by omega)] at hc
              have gp1 : decide (p ≤ k) = false := decide_eq_false (by omega)
              have gp2 : decide ((p : Int) ≤ (k : Int)) = false := decide_eq_false (by omega)
              have gq1 : decide (q ≤ k) = false := decide_eq_false (by omega)
              have gq2 : decide ((q : Int) ≤ (k : Int)) = false := decide_eq_false (by omega)
              clear cp cq 
              go_wp2_with fail
              go_round
              case rel => exact ⟨k + 1, by omega, by go_num⟩
              case measure => (simp [intOf]; try omega)
            · rw [if_neg (by omega), if_neg (by omega)] at hc
              have gp1 : decide (p ≤ k) = false := decide_eq_false (by omega)
              have gp2 : decide ((p : Int) ≤ (k : Int)) = false := decide_eq_false (by omega)
              have gq1 : decide (q ≤ k) = true := decide_eq_true (by omega)
              have gq2 : decide ((q : Int) ≤ (k : Int)) = true := decide_eq_true (by omega)
              obtain ⟨kq, hkq⟩ : ∃ kq, kq = k - q := ⟨_, rfl⟩
              have gq3 : IntKind.i64.wrap ((k : Int) - (q : Int)) = (kq : Int) := by rw [IntKind.wrap_i64]; omega
              have gq4 : decide (kq < lb) = false := decide_eq_false (by omega)
              have gq5 : decide ((kq : Int) < (lb : Int)) = false := decide_eq_false (by omega)
              clear cp cq hkq
              go_wp2_with fail
              go_round
              case rel => exact ⟨k + 1, by omega, by go_num⟩
              case measure => (simp [intOf]; try omega)
            · rw [if_pos (by omega)] at hc
              have gp1 : decide (p ≤ k) = false := decide_eq_false (by omega)
              have gp2 : decide ((p : Int) ≤ (k : Int)) = false := decide_eq_false (by omega)
              have gq1 : decide (q ≤ k) = true := decide_eq_true (by omega)
              have gq2 : decide ((q : Int) ≤ (k : Int)) = true := decide_eq_true (by omega)
              obtain ⟨kq, hkq⟩ : ∃ kq, kq = k - q := ⟨_, rfl⟩
              have gq3 : IntKind.i64.wrap ((k : Int) - (q : Int)) = (kq : Int) := by rw [IntKind.wrap_i64]; omega
              have gq4 : decide (kq < lb) = true := decide_eq_true (by omega)
              have gq5 : decide ((kq : Int) < (lb : Int)) = true := decide_eq_true (by omega)
              have gq6 : kq < lb := by omega
              have gq7 : (kq : Int) < (lb : Int) := by omega
              have gq8 : (0 : Int) ≤ (kq : Int) := by omega
              obtain ⟨adq, rq, hcq⟩ := (((HB).out (by omega)).below loops.out).at (by omega)
              subst rq
              have hcq2 := hcq kq (by omega)
              clear hcq
              rw [← hkq] at hc
              generalize b.getD kq 0 = vb at hc hcq2
              clear cp cq hkq
              go_wp2_with fail
              go_round
              case rel => exact ⟨k + 1, by omega, by go_num⟩
              case measure => (simp [intOf]; try omega)
          · rcases (show k < q ∨ (q ≤ k ∧ lb ≤ k - q) ∨ (q ≤ k ∧ k - q < lb) by omega) with cq | cq | cq
            · rw [if_neg (by omega), if_neg (by omega)] at hc
              have gp1 : decide (p ≤ k) = true := decide_eq_true (by omega)
              have gp2 : decide ((p : Int) ≤ (k : Int)) = true := decide_eq_true (by omega)
              obtain ⟨kp, hkp⟩ : ∃ kp, kp = k - p := ⟨_, rfl⟩
              have gp3 : IntKind.i64.wrap ((k : Int) - (p : Int)) = (kp : Int) := by rw [IntKind.wrap_i64]; omega
              have gp4 : decide (kp < la) = false := decide_eq_false (by omega)
              have gp5 : decide ((kp : Int) < (la : Int)) = false := decide_eq_false (by omega)
              have gq1 : decide (q ≤ k) = false := decide_eq_false (by omega)
              have gq2 : decide ((q : Int) ≤ (k : Int)) = false := decide_eq_false (by omega)
              clear cp cq hkp
              go_wp2_with fail
              go_round
              case rel => exact ⟨k + 1, by omega, by go_num⟩
              case measure => (simp [intOf]; try omega)
            · rw [if_neg (by omega), if_neg (by omega)] at hc
              have gp1 : decide (p ≤ k) = true := decide_eq_true (by omega)
              have gp2 : decide ((p : Int) ≤ (k : Int)) = true := decide_eq_true (by omega)
              obtain ⟨kp, hkp⟩ : ∃ kp, kp = k - p := ⟨_, rfl⟩
              have gp3 : IntKind.i64.wrap ((k : Int) - (p : Int)) = (kp : Int) := by rw [IntKind.wrap_i64]; omega
              have gp4 : decide (kp < la) = false := decide_eq_false (by omega)
              have gp5 : decide ((kp : Int) < (la : Int)) = false := decide_eq_false (by omega)
              have gq1 : decide (q ≤ k) = true := decide_eq_true (by omega)
              have gq2 : decide ((q : Int) ≤ (k : Int)) = true := decide_eq_true (by omega)
              obtain ⟨kq, hkq⟩ : ∃ kq, kq = k - q := ⟨_, rfl⟩
              have gq3 : IntKind.i64.wrap ((k : Int) - (q : Int)) = (kq : Int) := by rw [IntKind.wrap_i64]; omega
              have gq4 : decide (kq < lb) = false := decide_eq_false (by omega)
              have gq5 : decide ((kq : Int) < (lb : Int)) = false := decide_eq_false (by omega)
              clear cp cq hkp hkq
              go_wp2_with fail
              go_round
              case rel => exact ⟨k + 1, by omega, by go_num⟩
              case measure => (simp [intOf]; try omega)
            · rw [if_pos (by omega)] at hc
              have gp1 : decide (p ≤ k) = true := decide_eq_true (by omega)
              have gp2 : decide ((p : Int) ≤ (k : Int)) = true := decide_eq_true (by omega)
              obtain ⟨kp, hkp⟩ : ∃ kp, kp = k - p := ⟨_, rfl⟩
              have gp3 : IntKind.i64.wrap ((k : Int) - (p : Int)) = (kp : Int) := by rw [IntKind.wrap_i64]; omega
              have gp4 : decide (kp < la) = false := decide_eq_false (by omega)
              have gp5 : decide ((kp : Int) < (la : Int)) = false := decide_eq_false (by omega)
              have gq1 : decide (q ≤ k) = true := decide_eq_true (by omega)
              have gq2 : decide ((q : Int) ≤ (k : Int)) = true := decide_eq_true (by omega)
              obtain ⟨kq, hkq⟩ : ∃ kq, kq = k - q := ⟨_, rfl⟩
              have gq3 : IntKind.i64.wrap ((k : Int) - (q : Int)) = (kq : Int) := by rw [IntKind.wrap_i64]; omega
              have gq4 : decide (kq < lb) = true := decide_eq_true (by omega)
              have gq5 : decide ((kq : Int) < (lb : Int)) = true := decide_eq_true (by omega)
              have gq6 : kq < lb := by omega
              have gq7 : (kq : Int) < (lb : Int) := by omega
              have gq8 : (0 : Int) ≤ (kq : Int) := by omega
              obtain ⟨adq, rq, hcq⟩ := (((HB).out (by omega)).below loops.out).at (by omega)
              subst rq
              have hcq2 := hcq kq (by omega)
              clear hcq
              rw [← hkq] at hc
              generalize b.getD kq 0 = vb at hc hcq2
              clear cp cq hkp hkq
              go_wp2_with fail
              go_round
              case rel => exact ⟨k + 1, by omega, by go_num⟩
              case measure => (simp [intOf]; try omega)
          · rcases (show k < q ∨ (q ≤ k ∧ lb ≤ k - q) ∨ (q ≤ k ∧ k - q < lb) by omega) with cq | cq | cq
            · rw [if_neg (by omega), if_pos (by omega)] at hc
              have gp1 : decide (p ≤ k) = true := decide_eq_true (by omega)
              have gp2 : decide ((p : Int) ≤ (k : Int)) = true := decide_eq_true (by omega)
              obtain ⟨kp, hkp⟩ : ∃ kp, kp = k - p := ⟨_, rfl⟩
              have gp3 : IntKind.i64.wrap ((k : Int) - (p : Int)) = (kp : Int) := by rw [IntKind.wrap_i64]; omega
              have gp4 : decide (kp < la) = true := decide_eq_true (by omega)
              have gp5 : decide ((kp : Int) < (la : Int)) = true := decide_eq_true (by omega)
              have gp6 : kp < la := by omega
              have gp7 : (kp : Int) < (la : Int) := by omega
              have gp8 : (0 : Int) ≤ (kp : Int) := by omega
              obtain ⟨adp, rp, hcp⟩ := (((HA).out (by omega)).below loops.out).at (by omega)
              subst rp
              have hcp2 := hcp kp (by omega)
              clear hcp
              have gq1 : decide (q ≤ k) = false := decide_eq_false (by omega)
              have gq2 : decide ((q : Int) ≤ (k : Int)) = false := decide_eq_false (by omega)
              rw [← hkp] at hc
              generalize a.getD kp 0 = va at *
              clear cp cq hkp
              go_wp2_with fail
              go_round
              case rel => exact ⟨k + 1, by omega, by go_num⟩
              case measure => (simp [intOf]; try omega)
            · rw [if_neg (by omega), if_pos (by omega)] at hc
              have gp1 : decide (p ≤ k) = true := decide_eq_true (by omega)
              have gp2 : decide ((p : Int) ≤ (k : Int)) = true := decide_eq_true (by omega)
              obtain ⟨kp, hkp⟩ : ∃ kp, kp = k - p := ⟨_, rfl⟩
              have gp3 : IntKind.i64.wrap ((k : Int) - (p : Int)) = (kp : Int) := by rw [IntKind.wrap_i64]; omega
              have gp4 : decide (kp < la) = true := decide_eq_true (by omega)
              have gp5 : decide ((kp : Int) < (la : Int)) = true := decide_eq_true (by omega)
              have gp6 : kp < la := by omega
              have gp7 : (kp : Int) < (la : Int) := by omega
              have gp8 : (0 : Int) ≤ (kp : Int) := by omega
              obtain ⟨adp, rp, hcp⟩ := (((HA).out (by omega)).below loops.out).at (by omega)
              subst rp
              have hcp2 := hcp kp (by omega)
              clear hcp
              have gq1 : decide (q ≤ k) = true := decide_eq_true (by omega)
              have gq2 : decide ((q : Int) ≤ (k : Int)) = true := decide_eq_true (by omega)
              obtain ⟨kq, hkq⟩ : ∃ kq, kq = k - q := ⟨_, rfl⟩
              have gq3 : IntKind.i64.wrap ((k : Int) - (q : Int)) = (kq : Int) := by rw [IntKind.wrap_i64]; omega
              have gq4 : decide (kq < lb) = false := decide_eq_false (by omega)
              have gq5 : decide ((kq : Int) < (lb : Int)) = false := decide_eq_false (by omega)
              rw [← hkp] at hc
              generalize a.getD kp 0 = va at *
              clear cp cq hkp hkq
              go_wp2_with fail
              go_round
              case rel => exact ⟨k + 1, by omega, by go_num⟩
              case measure => (simp [intOf]; try omega)
            · rw [if_pos (by omega)] at hc
              have gp1 : decide (p ≤ k) = true := decide_eq_true (by omega)
              have gp2 : decide ((p : Int) ≤ (k : Int)) = true := decide_eq_true (by omega)
              obtain ⟨kp, hkp⟩ : ∃ kp, kp = k - p := ⟨_, rfl⟩
              have gp3 : IntKind.i64.wrap ((k : Int) - (p : Int)) = (kp : Int) := by rw [IntKind.wrap_i64]; omega
              have gp4 : decide (kp < la) = true := decide_eq_true (by omega)
              have gp5 : decide ((kp : Int) < (la : Int)) = true := decide_eq_true (by omega)
              have gp6 : kp < la := by omega
              have gp7 : (kp : Int) < (la : Int) := by omega
              have gp8 : (0 : Int) ≤ (kp : Int) := by omega
              obtain ⟨adp, rp, hcp⟩ := (((HA).out (by omega)).below loops.out).at (by omega)
              subst rp
              have hcp2 := hcp kp (by omega)
              clear hcp
              have gq1 : decide (q ≤ k) = true := decide_eq_true (by omega)
              have gq2 : decide ((q : Int) ≤ (k : Int)) = true := decide_eq_true (by omega)
              obtain ⟨kq, hkq⟩ : ∃ kq, kq = k - q := ⟨_, rfl⟩
              have gq3 : IntKind.i64.wrap ((k : Int) - (q : Int)) = (kq : Int) := by rw [IntKind.wrap_i64]; omega
              have gq4 : decide (kq < lb) = true := decide_eq_true (by omega)
              have gq5 : decide ((kq : Int) < (lb : Int)) = true := decide_eq_true (by omega)
              have gq6 : kq < lb := by omega
              have gq7 : (kq : Int) < (lb : Int) := by omega
              have gq8 : (0 : Int) ≤ (kq : Int) := by omega
              obtain ⟨adq, rq, hcq⟩ := (((HB).out (by omega)).below loops.out).at (by omega)
              subst rq
              have hcq2 := hcq kq (by omega)
              clear hcq
              rw [← hkq] at hc
              generalize b.getD kq 0 = vb at hc hcq2
              generalize a.getD kp 0 = va at *
              clear cp cq hkp hkq
              go_wp2_with fail
              go_round
              case rel => exact ⟨k + 1, by omega, by go_num⟩
              case measure => (simp [intOf]; try omega)
        · obtain rfl : k = L := by omega
          have hno : ¬ ((k : Int) < (k : Int)) := by omega
          go_wp2_with fail
          go_ret
          exact ⟨rfl, loops.out⟩
    · have f1 : decide (0 < la) = true := decide_eq_true e1
      have f2 : decide (0 < lb) = true := decide_eq_true e3
      have z1 : wrap64 ((p : Int) + (la : Int)) = (p : Int) + (la : Int) := by have h1 := HP.out; have h2 := HA5.out; unfold wrap64; omega
      have z2 : wrap64 ((q : Int) + (lb : Int)) = (q : Int) + (lb : Int) := by have h1 := HQ.out; have h2 := HB5.out; unfold wrap64; omega
      have f4 : ¬ (p : Int) + (la : Int) < (q : Int) + (lb : Int) := by omega
      have f3 : ((L : Int) != (p : Int) + (la : Int)) = false := bne_eq_false_iff_eq.2 (by omega)
      have FL : Aside0 ((L : Int) = (p : Int) + (la : Int)) := ⟨by omega⟩
      have hl5 := HL5.out
      clear e1 e2 e3 e4 e5
      go_wp2_with fail
      all_goals first
        | (exfalso; have := FL.out; omega)
        | skip
      clear z1 z2
      go_loop [86] (fun i => ∃ k : Nat, k ≤ L ∧ i = .int .i64 k) (fun i => L - (intOf i).toNat)
      case atStart => exact ⟨0, Nat.zero_le _, rfl⟩
      case round =>
        obtain ⟨k, hk, rfl⟩ := hrel
        by_cases hlt : k < L
        · obtain ⟨ad, rA, hcall⟩ := HR.out.at (by omega)
          subst rA
          have hv := AT.out k
          have hc := hcall k hlt
          rw [hv] at hc
          clear hcall hv
          have hlt2 : decide (k < L) = true := decide_eq_true hlt
          have hlt3 : decide ((k : Int) < (L : Int)) = true := decide_eq_true (by omega)
          have hi0 : (0 : Int) ≤ (k : Int) := by omega
          rcases (show k < p ∨ (p ≤ k ∧ la ≤ k - p) ∨ (p ≤ k ∧ k - p < la) by omega) with cp | cp | cp
          · rcases (show k < q ∨ (q ≤ k ∧ lb ≤ k - q) ∨ (q ≤ k ∧ k - q < lb) by omega) with cq | cq | cq
            · rw [if_neg (by omega), if_neg (by omega)] at hc
              have gp1 : decide (p ≤ k) = false := decide_eq_false (by omega)
              have gp2 : decide ((p : Int) ≤ (k : Int)) = false := decide_eq_false (by omega)
              have gq1 : decide (q ≤ k) = false := decide_eq_false (by omega)
              have gq2 : decide ((q : Int) ≤ (k : Int)) = false := decide_eq_false (by omega)
              clear cp cq 
              go_wp2_with fail
              go_round
              case rel => exact ⟨k + 1, by omega, by go_num⟩
              case measure => (simp [intOf]; try omega)
            · rw [if_neg (by omega), if_neg (by omega)] at hc
              have gp1 : decide (p ≤ k) = false := decide_eq_false (by omega)
              have gp2 : decide ((p : Int) ≤ (k : Int)) = false := decide_eq_false (by omega)
              have gq1 : decide (q ≤ k) = true := decide_eq_true (by omega)
              have gq2 : decide ((q : Int) ≤ (k : Int)) = true := decide_eq_true (by omega)
              obtain ⟨kq, hkq⟩ : ∃ kq, kq = k - q := ⟨_, rfl⟩
              have gq3 : IntKind.i64.wrap ((k : Int) - (q : Int)) = (kq : Int) := by rw [IntKind.wrap_i64]; omega
              have gq4 : decide (kq < lb) = false := decide_eq_false (by omega)
              have gq5 : decide ((kq : Int) < (lb : Int)) = false := decide_eq_false (by omega)
              clear cp cq hkq
              go_wp2_with fail
              go_round
              case rel => exact ⟨k + 1, by omega, by go_num⟩
              case measure => (simp [intOf]; try omega)
            · rw [if_pos (by omega)] at hc
              have gp1 : decide (p ≤ k) = false := decide_eq_false (by omega)
              have gp2 : decide ((p : Int) ≤ (k : Int)) = false := decide_eq_false (by omega)
              have gq1 : decide (q ≤ k) = true := decide_eq_true (by omega)
              have gq2 : decide ((q : Int) ≤ (k : Int)) = true := decide_eq_true (by omega)
              obtain ⟨kq, hkq⟩ : ∃ kq, kq = k - q := ⟨_, rfl⟩
              have gq3 : IntKind.i64.wrap ((k : Int) - (q : Int)) = (kq : Int) := by rw [IntKind.wrap_i64]; omega
              have gq4 : decide (kq < lb) = true := decide_eq_true (by omega)
              have gq5 : decide ((kq : Int) < (lb : Int)) = true := decide_eq_true (by omega)
              have gq6 : kq < lb := by omega
              have gq7 : (kq : Int) < (lb : Int) := by omega
              have gq8 : (0 : Int) ≤ (kq : Int) := by omega
              obtain ⟨adq, rq, hcq⟩ := (((HB).out (by omega)).below loops.out).at (by omega)
              subst rq
              have hcq2 := hcq kq (by omega)
              clear hcq
              rw [← hkq] at hc
              generalize b.getD kq 0 = vb at hc hcq2
              clear cp cq hkq
              go_wp2_with fail
              go_round
              case rel => exact ⟨k + 1, by omega, by go_num⟩
              case measure => (simp [intOf]; try omega)
          · rcases (show k < q ∨ (q ≤ k ∧ lb ≤ k - q) ∨ (q ≤ k ∧ k - q < lb) by omega) with cq | cq | cq
            · rw [if_neg (by omega), if_neg (by omega)] at hc
              have gp1 : decide (p ≤ k) = true := decide_eq_true (by omega)
              have gp2 : decide ((p : Int) ≤ (k : Int)) = true := decide_eq_true (by omega)
              obtain ⟨kp, hkp⟩ : ∃ kp, kp = k - p := ⟨_, rfl⟩
              have gp3 : IntKind.i64.wrap ((k : Int) - (p : Int)) = (kp : Int) := by rw [IntKind.wrap_i64]; omega
              have gp4 : decide (kp < la) = false := decide_eq_false (by omega)
              have gp5 : decide ((kp : Int) < (la : Int)) = false := decide_eq_false (by omega)
              have gq1 : decide (q ≤ k) = false := decide_eq_false (by omega)
              have gq2 : decide ((q : Int) ≤ (k : Int)) = false := decide_eq_false (by omega)
              clear cp cq hkp
              go_wp2_with fail
              go_round
              case rel => exact ⟨k + 1, by omega, by go_num⟩
              case measure => (simp [intOf]; try omega)
            · rw [if_neg (by omega), if_neg (by omega)] at hc
              have gp1 : decide (p ≤ k) = true := decide_eq_true (by omega)
              have gp2 : decide ((p : Int) ≤ (k : Int)) = true := decide_eq_true (by omega)
              obtain ⟨kp, hkp⟩ : ∃ kp, kp = k - p := ⟨_, rfl⟩
              have gp3 : IntKind.i64.wrap ((k : Int) - (p : Int)) = (kp : Int) := by rw [IntKind.wrap_i64]; omega
              have gp4 : decide (kp < la) = false := decide_eq_false (by omega)
              have gp5 : decide ((kp : Int) < (la : Int)) = false := decide_eq_false (by omega)
              have gq1 : decide (q ≤ k) = true := decide_eq_true (by omega)
              have gq2 : decide ((q : Int) ≤ (k : Int)) = true := decide_eq_true (by omega)
              obtain ⟨kq, hkq⟩ : ∃ kq, kq = k - q := ⟨_, rfl⟩
              have gq3 : IntKind.i64.wrap ((k : Int) - (q : Int)) = (kq : Int) := by rw [IntKind.wrap_i64]; omega
              have gq4 : decide (kq < lb) = false := decide_eq_false (by omega)
              have gq5 : decide ((kq : Int) < (lb : Int)) = false := decide_eq_false (by omega)
              clear cp cq hkp hkq
              go_wp2_with fail
              go_round
              case rel => exact ⟨k + 1, by omega, by go_num⟩
              case measure => (simp [intOf]; try omega)
            · rw [if_pos (by omega)] at hc
              have gp1 : decide (p ≤ k) = true := decide_eq_true (by omega)
              have gp2 : decide ((p : Int) ≤ (k : Int)) = true := decide_eq_true (by omega)
              obtain ⟨kp, hkp⟩ : ∃ kp, kp = k - p := ⟨_, rfl⟩
              have gp3 : IntKind.i64.wrap ((k : Int) - (p : Int)) = (kp : Int) := by rw [IntKind.wrap_i64]; omega
              have gp4 : decide (kp < la) = false := decide_eq_false (by omega)
              have gp5 : decide ((kp : Int) < (la : Int)) = false := decide_eq_false (by omega)
              have gq1 : decide (q ≤ k) = true := decide_eq_true (by omega)
              have gq2 : decide ((q : Int) ≤ (k : Int)) = true := decide_eq_true (by omega)
              obtain ⟨kq, hkq⟩ : ∃ kq, kq = k - q := ⟨_, rfl⟩
              have gq3 : IntKind.i64.wrap ((k : Int) - (q : Int)) = (kq : Int) := by rw [IntKind.wrap_i64]; omega
              have gq4 : decide (kq < lb) = true := decide_eq_true (by omega)
              have gq5 : decide ((kq : Int) < (lb : Int)) = true := decide_eq_true (by omega)
              have gq6 : kq < lb := by omega
              have gq7 : (kq : Int) < (lb : Int) := by omega
              have gq8 : (0 : Int) ≤ (kq : Int) := by omega
              obtain ⟨adq, rq, hcq⟩ := (((HB).out (by omega)).below loops.out).at (by omega)
              subst rq
              have hcq2 := hcq kq (by omega)
              clear hcq
              rw [← hkq] at hc
              generalize b.getD kq 0 = vb at hc hcq2
              clear cp cq hkp hkq
              go_wp2_with fail
              go_round
              case rel => exact ⟨k + 1, by omega, by go_num⟩
              case measure => (simp [intOf]; try omega)
          · rcases (show k < q ∨ (q ≤ k ∧ lb ≤ k - q) ∨ (q ≤ k ∧ k - q < lb) by omega) with cq | cq | cq
            · rw [if_neg (by omega), if_pos (by omega)] at hc
              have gp1 : decide (p ≤ k) = true := decide_eq_true (by omega)
              have gp2 : decide ((p : Int) ≤ (k : Int)) = true := decide_eq_true (by omega)
              obtain ⟨kp, hkp⟩ : ∃ kp, kp = k - p := ⟨_, rfl⟩
              have gp3 : IntKind.i64.wrap ((k : Int) - (p : Int)) = (kp : Int) := by rw [IntKind.wrap_i64]; omega
              have gp4 : decide (kp < la) = true := decide_eq_true (by omega)
              have gp5 : decide ((kp : Int) < (la : Int)) = true := decide_eq_true (by omega)
              have gp6 : kp < la := by omega
              have gp7 : (kp : Int) < (la : Int) := by omega
              have gp8 : (0 : Int) ≤ (kp : Int) := by omega
              obtain ⟨adp, rp, hcp⟩ := (((HA).out (by omega)).below loops.out).at (by omega)
              subst rp
              have hcp2 := hcp kp (by omega)
              clear hcp
              have gq1 : decide (q ≤ k) = false := decide_eq_false (by omega)
              have gq2 : decide ((q : Int) ≤ (k : Int)) = false := decide_eq_false (by omega)
              rw [← hkp] at hc
              generalize a.getD kp 0 = va at *
              clear cp cq hkp
              go_wp2_with fail
              go_round
              case rel => exact ⟨k + 1, by omega, by go_num⟩
              case measure => (simp [intOf]; try omega)
            · rw [if_neg (by omega), if_pos (by omega)] at hc
              have gp1 : decide (p ≤ k) = true := decide_eq_true (by omega)
              have gp2 : decide ((p : Int) ≤ (k : Int)) = true := decide_eq_true (by omega)
              obtain ⟨kp, hkp⟩ : ∃ kp, kp = k - p := ⟨_, rfl⟩
              have gp3 : IntKind.i64.wrap ((k : Int) - (p : Int)) = (kp : Int) := by rw [IntKind.wrap_i64]; omega
              have gp4 : decide (kp < la) = true := decide_eq_true (by omega)
              have gp5 : decide ((kp : Int) < (la : Int)) = true := decide_eq_true (by omega)
              have gp6 : kp < la := by omega
              have gp7 : (kp : Int) < (la : Int) := by omega
              have gp8 : (0 : Int) ≤ (kp : Int) := by omega
              obtain ⟨adp, rp, hcp⟩ := (((HA).out (by omega)).below loops.out).at (by omega)
              subst rp
              have hcp2 := hcp kp (by omega)
              clear hcp
              have gq1 : decide (q ≤ k) = true := decide_eq_true (by omega)
              have gq2 : decide ((q : Int) ≤ (k : Int)) = true := decide_eq_true (by omega)
              obtain ⟨kq, hkq⟩ : ∃ kq, kq = k - q := ⟨_, rfl⟩
              have gq3 : IntKind.i64.wrap ((k : Int) - (q : Int)) = (kq : Int) := by rw [IntKind.wrap_i64]; omega
              have gq4 : decide (kq < lb) = false := decide_eq_false (by omega)
              have gq5 : decide ((kq : Int) < (lb : Int)) = false := decide_eq_false (by omega)
              rw [← hkp] at hc
              generalize a.getD kp 0 = va at *
              clear cp cq hkp hkq
              go_wp2_with fail
              go_round
              case rel => exact ⟨k + 1, by omega, by go_num⟩
              case measure => (simp [intOf]; try omega)
            · rw [if_pos (by omega)] at hc
              have gp1 : decide (p ≤ k) = true := decide_eq_true (by omega)
              have gp2 : decide ((p : Int) ≤ (k : Int)) = true := decide_eq_true (by omega)
              obtain ⟨kp, hkp⟩ : ∃ kp, kp = k - p := ⟨_, rfl⟩
              have gp3 : IntKind.i64.wrap ((k : Int) - (p : Int)) = (kp : Int) := by rw [IntKind.wrap_i64]; omega
              have gp4 : decide (kp < la) = true := decide_eq_true (by omega)
              have gp5 : decide ((kp : Int) < (la : Int)) = true := decide_eq_true (by omega)
              have gp6 : kp < la := by omega
              have gp7 : (kp : Int) < (la : Int) := by omega
              have gp8 : (0 : Int) ≤ (kp : Int) := by omega
              obtain ⟨adp, rp, hcp⟩ := (((HA).out (by omega)).below loops.out).at (by omega)
              subst rp
              have hcp2 := hcp kp (by omega)
              clear hcp
              have gq1 : decide (q ≤ k) = true := decide_eq_true (by omega)
              have gq2 : decide ((q : Int) ≤ (k : Int)) = true := decide_eq_true (by omega)
              obtain ⟨kq, hkq⟩ : ∃ kq, kq = k - q := ⟨_, rfl⟩
              have gq3 : IntKind.i64.wrap ((k : Int) - (q : Int)) = (kq : Int) := by rw [IntKind.wrap_i64]; omega
              have gq4 : decide (kq < lb) = true := decide_eq_true (by omega)
              have gq5 : decide ((kq : Int) < (lb : Int)) = true := decide_eq_true (by omega)
              have gq6 : kq < lb := by omega
              have gq7 : (kq : Int) < (lb : Int) := by omega
              have gq8 : (0 : Int) ≤ (kq : Int) := by omega
              obtain ⟨adq, rq, hcq⟩ := (((HB).out (by omega)).below loops.out).at (by omega)
              subst rq
              have hcq2 := hcq kq (by omega)
              clear hcq
              rw [← hkq] at hc
              generalize b.getD kq 0 = vb at hc hcq2
              generalize a.getD kp 0 = va at *
              clear cp cq hkp hkq
              go_wp2_with fail
              go_round
              case rel => exact ⟨k + 1, by omega, by go_num⟩
              case measure => (simp [intOf]; try omega)
        · obtain rfl : k = L := by omega
          have hno : ¬ ((k : Int) < (k : Int)) := by omega
          go_wp2_with fail
          go_ret
          exact ⟨rfl, loops.out⟩
theorem treeReads_all (w : World) (a0 a1 : Int) (w0 : (Lit.int .u16 a0).wf = true) (w1 : (Lit.int .u16 a1).wf = true) (Aa Ab : Option Addr) (la lb ca cb : Nat) (a b : List Int) (hla : a.length = la) (hlb : b.length = lb) (ha : 0 < la → RdB w Aa la a) (hb : 0 < lb → RdB w Ab lb b) :
    Calls Tryd.prog 3 #[.int .u16 a0, .int .u16 a1, .slice Aa la ca, .slice Ab lb cb] w fun e w' => e = .returned (.bool true) ∧ Below w.heap.size w w' := by
  by_cases h : 500 < la ∨ 500 < lb
  · exact reads_long w a0 a1 Aa Ab la lb ca cb h
  · simp only [Lit.wf, Bool.and_eq_true, decide_eq_true_eq] at w0 w1
    have q0 : 0 ≤ a0 ∧ a0 ≤ 65535 := w0
    have q1 : 0 ≤ a1 ∧ a1 ≤ 65535 := w1
    obtain ⟨an, rfl⟩ : ∃ an : Nat, a0 = an := ⟨a0.toNat, by omega⟩
    obtain ⟨tn, rfl⟩ : ∃ tn : Nat, a1 = tn := ⟨a1.toNat, by omega⟩
    exact reads_short w an tn Aa Ab la lb ca cb a b hla hlb (by omega) (by omega) (by omega) (by omega) ha hb
end Go.Proofs.YtohhlnkdgfgjgaaDoor.P
