/- The shape of a seed is what the printed function computes. -/
import Derived.Test.YtbdkcjikphlgfaaPShx9
import Derived.Test.YtbdkcjikphlgfaaSa
namespace Go.Proofs.Ytbdkcjikphlgfaa.Sh
open Go.RowKit Go.Proofs.YtbdkcjikphlgfaaW.PrintWords Go.Proofs.YtbdkcjikphlgfaaW.PrintLast Go.Proofs.YtbdkcjikphlgfaaW.PrintMore Go.Proofs.Ytbdkcjikphlgfaa.PSh Go.Proofs.Ytbdkcjikphlgfaa.Ma Go.Proofs.Ytbdkcjikphlgfaa.Fx Go.Proofs.Ytbdkcjikphlgfaa.Dv Go.Proofs.Ytbdkcjikphlgfaa.Vc Go.Proofs.Ytbdkcjikphlgfaa.Ln Go.Proofs.Ytbdkcjikphlgfaa.Tm

def ringP : List P2 := [(⟨65, 0⟩ : P2), (⟨52, 39⟩ : P2), (⟨25, 60⟩ : P2), (⟨(-25), 60⟩ : P2), (⟨(-52), 39⟩ : P2), (⟨(-65), 0⟩ : P2), (⟨(-52), (-39)⟩ : P2), (⟨(-25), (-60)⟩ : P2), (⟨25, (-60)⟩ : P2), (⟨52, (-39)⟩ : P2)]
theorem ringP_len : ringP.length = 10 := rfl
theorem ring_get (j : Nat) (h : j < 10) : (rd_T34 ringP (j : Int)) = ⟨(ring10.getD j (0, 0)).1, (ring10.getD j (0, 0)).2⟩ := by
  match j, h with
  | 0, _ | 1, _ | 2, _ | 3, _ | 4, _ | 5, _ | 6, _ | 7, _ | 8, _ | 9, _ => rfl
theorem seed_loop (c t : Int) (hc : 0 ≤ c ∧ c < 64) (m : Nat) (hm : 3 ≤ m ∧ m ≤ 8) (a0 a1 a2 a3 : Int) (ht : Go.bits .and .i64 a3 255 = t) (ht0 : 0 ≤ t ∧ t < 256) : ∀ (d i k : Nat) (acc : List P2), i + d = m → acc.length = i → d < k →
    bagatellelaw04_Seed_Shape.l0 k ((1 + c) * 268435456) (m : Int) ringP (m : Int) (i : Int) a0 a1 a2 a3 2 0 acc = some (2, 0, acc ++ scaled ((1 + c) * 4194304) ((List.range' i d).map (pick m (t % 10).toNat)))
  | 0, i, k, acc, h1, h2, h3 => by
    obtain ⟨k, rfl⟩ : ∃ m, k = m + 1 := ⟨k - 1, by omega⟩
    simp only [bagatellelaw04_Seed_Shape.l0]
    rw [if_neg (by omega)]; simp [scaled]
  | d + 1, i, k, acc, h1, h2, h3 => by
    obtain ⟨k, rfl⟩ : ∃ m, k = m + 1 := ⟨k - 1, by omega⟩
    have l1 : (i : Int) < (m : Int) := by omega
    have l2 : ¬ (m : Int) = 0 := by omega
    have l3 : acc.length < 8796093022208 := by omega
    have l5 : I64 ((i : Int) + 1) := by unfold I64; omega
    have e0 : Int.tdiv (wrap64 ((i : Int) * 10)) (m : Int) = ((i * 10 / m : Nat) : Int) := by
      rw [w64 (by unfold I64; omega), Int.tdiv_eq_ediv_of_nonneg (by omega)]
      rw [Int.natCast_ediv]; rfl
    have hq : i * 10 / m < 10 := by rw [Nat.div_lt_iff_lt_mul (by omega)]; omega
    have e1 : Int.tmod (wrap64 ((wrap64 (Int.tdiv (wrap64 ((i : Int) * 10)) (m : Int))) + (Go.bits .and .i64 a3 255))) 10 = (((i * 10 / m + (t % 10).toNat) % 10 : Nat) : Int) := by
      rw [e0, ht]
      generalize i * 10 / m = q at *
      rw [w64 (x := ((q : Nat) : Int)) (by unfold I64; omega), w64 (by unfold I64; omega), Int.tmod_eq_emod_of_nonneg (by omega)]
      omega
    have hj := Nat.mod_lt (i * 10 / m + (t % 10).toNat) (show 10 > 0 by omega)
    have sc : ∀ x : Int, -65 ≤ x → x ≤ 65 → wrap64 (Int.tdiv (wrap64 (x * ((1 + c) * 268435456))) 64) = x * ((1 + c) * 4194304) := by
      intro x h4 h5
      have n := near_scaled (s := (1 + c) * 4194304) (by omega) (by omega) h4 h5
      have e : x * ((1 + c) * 268435456) = x * ((1 + c) * 4194304) * 64 := by grind
      rw [e, w64 (x := x * ((1 + c) * 4194304) * 64) (by unfold I64; omega), Int.mul_tdiv_cancel _ (by omega), w64 (by unfold I64; omega)]
    have pb := pick_b m (t % 10).toNat i
    simp only [bagatellelaw04_Seed_Shape.l0]
    have l4 : (((i * 10 / m + (t % 10).toNat) % 10 : Nat) : Int) < (ringP.length : Int) := Int.ofNat_lt.2 (by rw [ringP_len]; exact hj)
    rw [e1, if_pos l1, if_neg l2, if_pos (Int.natCast_nonneg _), if_pos l4, if_pos l3, ring_get _ hj, w64 l5]
    simp only
    rw [show ring10.getD ((i * 10 / m + (t % 10).toNat) % 10) (0, 0) = pick m (t % 10).toNat i from rfl, sc _ pb.1 pb.2.1, sc _ pb.2.2.1 pb.2.2.2]
    have := seed_loop c t hc m hm a0 a1 a2 a3 ht ht0 d (i + 1) k (acc ++ [(⟨(pick m (t % 10).toNat i).1 * ((1 + c) * 4194304), (pick m (t % 10).toNat i).2 * ((1 + c) * 4194304)⟩ : P2)]) (by omega) (by simp; omega) (by omega)
    rw [show ((i : Int) + 1) = ((i + 1 : Nat) : Int) by omega, this, List.range'_succ, List.map_cons]
    simp [scaled]
theorem Seed_eq {k : Nat} (hk : 12 ≤ k) (a b c d : Int) : bagatellelaw04_Seed_Shape.f k a b c d = some (seed a b c d) := by
  unfold bagatellelaw04_Seed_Shape.f seed
  have hc : 0 ≤ c % 64 ∧ c % 64 < 64 := by omega
  have hd : 0 ≤ d % 32 ∧ d % 32 < 32 := by omega
  have e1 : wrap64 (Int.tdiv (wrap64 ((wrap64 (1 + c % 64)) * 4294967296)) 16) = (1 + c % 64) * 268435456 := by
    rw [w64 (x := 1 + c % 64) (by unfold I64; omega), w64 (x := (1 + c % 64) * 4294967296) (by unfold I64; omega), tdiv16 (by omega), w64 (by unfold I64; omega)]
  have e2 : wrap64 (Int.tdiv (wrap64 ((wrap64 (1 + d % 32)) * 4294967296)) 16) = (1 + d % 32) * 268435456 := by
    rw [w64 (x := 1 + d % 32) (by unfold I64; omega), w64 (x := (1 + d % 32) * 4294967296) (by unfold I64; omega), tdiv16 (by omega), w64 (by unfold I64; omega)]
  rw [m2, m6, m5, e1, e2]
  by_cases h0 : a % 4 = 0
  · rw [if_pos h0, if_pos h0]
  · rw [if_neg h0, if_neg h0]
    by_cases h1 : a % 4 = 1
    · rw [if_pos h1, if_pos h1, Box_eq (by unfold S63; omega) (by unfold S63; omega), Option.bind_some]
    · rw [if_neg h1, if_neg h1]
      have e3 : wrap64 (3 + (Int.tmod (Go.bits .and .i64 b 255) 6)) = (((3 + b % 256 % 6).toNat : Nat) : Int) := by
        rw [m8, Int.tmod_eq_emod_of_nonneg (by omega), w64 (by unfold I64; omega)]; omega
      have e4 : bagatellelaw04_ring.f = some ringP := rfl
      rw [e3, e4, Option.bind_some]
      have := seed_loop (c % 64) (d % 256) hc (3 + b % 256 % 6).toNat (by omega) a b c d (m8 d) (by omega) (3 + b % 256 % 6).toNat 0 k [] (by omega) rfl (by omega)
      rw [List.nil_append, ← List.range_eq_range'] at this
      exact this
end Go.Proofs.Ytbdkcjikphlgfaa.Sh
