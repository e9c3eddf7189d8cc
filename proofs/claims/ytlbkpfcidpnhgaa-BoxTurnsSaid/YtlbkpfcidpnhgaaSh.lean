/- The shapes that a seed makes, and what the printed functions of package shape compute of their corners. -/
import Derived.Test.YtlbkpfcidpnhgaaPBox12
import Derived.Test.YtlbkpfcidpnhgaaPBox5
import Derived.Test.YtlbkpfcidpnhgaaPBox7
import Derived.Test.YtlbkpfcidpnhgaaPBox8
import Derived.Test.YtlbkpfcidpnhgaaLn
import Derived.Test.YtlbkpfcidpnhgaaTm
namespace Go.Proofs.Ytlbkpfcidpnhgaa.Sh
open Go.RowKit Go.Proofs.YtlbkpfcidpnhgaaW.PrintWords Go.Proofs.YtlbkpfcidpnhgaaW.PrintLast Go.Proofs.YtlbkpfcidpnhgaaW.PrintMore Go.Proofs.Ytlbkpfcidpnhgaa.PBo Go.Proofs.Ytlbkpfcidpnhgaa.Ma Go.Proofs.Ytlbkpfcidpnhgaa.Fx Go.Proofs.Ytlbkpfcidpnhgaa.Dv Go.Proofs.Ytlbkpfcidpnhgaa.Vc Go.Proofs.Ytlbkpfcidpnhgaa.Ln Go.Proofs.Ytlbkpfcidpnhgaa.Tm

abbrev P2 := S24
def ring10 : List (Int × Int) := [(65, 0), (52, 39), (25, 60), (-25, 60), (-52, 39), (-65, 0), (-52, -39), (-25, -60), (25, -60), (52, -39)]
def pick (m tt : Nat) (i : Nat) : Int × Int := ring10.getD ((i * 10 / m + tt) % 10) (0, 0)
def base (m tt : Nat) : List (Int × Int) := (List.range m).map (pick m tt)
def scaled (s : Int) (l : List (Int × Int)) : List P2 := l.map fun p => (⟨p.1 * s, p.2 * s⟩ : P2)
def boxPts (w h : Int) : List P2 := [(⟨-w, -h⟩ : P2), (⟨w, -h⟩ : P2), (⟨w, h⟩ : P2), (⟨-w, h⟩ : P2)]
/-- The shape of a seed: its kind, its radius, its corners. -/
def seed (a b c d : Int) : Int × Int × List P2 :=
  if a % 4 = 0 then (1, (1 + c % 64) * 268435456, [])
  else if a % 4 = 1 then (2, 0, boxPts ((1 + c % 64) * 268435456) ((1 + d % 32) * 268435456))
  else (2, 0, scaled ((1 + c % 64) * 4194304) (base (3 + b % 256 % 6).toNat (d % 256 % 10).toNat))
theorem pick_b (m tt i : Nat) : -65 ≤ (pick m tt i).1 ∧ (pick m tt i).1 ≤ 65 ∧ -65 ≤ (pick m tt i).2 ∧ (pick m tt i).2 ≤ 65 := by
  have h : ∀ j : Fin 10, -65 ≤ (ring10.getD j.val (0, 0)).1 ∧ (ring10.getD j.val (0, 0)).1 ≤ 65 ∧ -65 ≤ (ring10.getD j.val (0, 0)).2 ∧ (ring10.getD j.val (0, 0)).2 ≤ 65 := by decide +kernel
  exact h ⟨(i * 10 / m + tt) % 10, Nat.mod_lt _ (by omega)⟩
/-- A corner that is not far. -/
def Near (p : P2) : Prop := -17448304640 ≤ p.f0 ∧ p.f0 ≤ 17448304640 ∧ -17448304640 ≤ p.f1 ∧ p.f1 ≤ 17448304640
theorem near_scaled {s x : Int} (h0 : 0 ≤ s) (h1 : s ≤ 268435456) (h2 : -65 ≤ x) (h3 : x ≤ 65) : -17448304640 ≤ x * s ∧ x * s ≤ 17448304640 := by
  have a := Int.mul_nonneg (show 0 ≤ 65 - x by omega) h0
  have b := Int.mul_nonneg (show 0 ≤ 65 + x by omega) h0
  rw [Int.sub_mul] at a; rw [Int.add_mul] at b
  omega
/-- What is so of each seed's shape. -/
structure Seedy (s : Int × Int × List P2) : Prop where
  kinds : (s.1 = 1 ∧ s.2.2 = [] ∧ 268435456 ≤ s.2.1 ∧ s.2.1 ≤ 17179869184) ∨ (s.1 = 2 ∧ s.2.1 = 0 ∧ 3 ≤ s.2.2.length ∧ s.2.2.length ≤ 8)
  near : ∀ p ∈ s.2.2, Near p
theorem seedy (a b c d : Int) : Seedy (seed a b c d) := by
  unfold seed
  split
  · exact ⟨.inl ⟨rfl, rfl, by show 268435456 ≤ (1 + c % 64) * 268435456; omega, by show (1 + c % 64) * 268435456 ≤ 17179869184; omega⟩, fun p h => by cases h⟩
  · split
    · refine ⟨.inr ⟨rfl, rfl, by show 3 ≤ (boxPts _ _).length; simp [boxPts], by show (boxPts _ _).length ≤ 8; simp [boxPts]⟩, ?_⟩
      intro p h
      have h' : p ∈ boxPts ((1 + c % 64) * 268435456) ((1 + d % 32) * 268435456) := h
      simp only [boxPts, List.mem_cons, List.not_mem_nil, or_false] at h'
      rcases h' with rfl | rfl | rfl | rfl <;> (unfold Near; simp only; omega)
    · refine ⟨.inr ⟨rfl, rfl, by show 3 ≤ (scaled _ _).length; simp [scaled, base]; omega, by show (scaled _ _).length ≤ 8; simp [scaled, base]; omega⟩, ?_⟩
      intro p h
      have h' : p ∈ scaled ((1 + c % 64) * 4194304) (base (3 + b % 256 % 6).toNat (d % 256 % 10).toNat) := h
      simp only [scaled, base, List.map_map, List.mem_map] at h'
      obtain ⟨i, _, rfl⟩ := h'
      obtain ⟨h1, h2, h3, h4⟩ := pick_b (3 + b % 256 % 6).toNat (d % 256 % 10).toNat i
      have n1 := near_scaled (s := (1 + c % 64) * 4194304) (by omega) (by omega) h1 h2
      have n2 := near_scaled (s := (1 + c % 64) * 4194304) (by omega) (by omega) h3 h4
      exact ⟨n1.1, n1.2, n2.1, n2.2⟩
theorem m2 (x : Int) : Go.bits .and .i64 x 3 = x % 4 := mask (m := 2) (by omega) x
theorem m6 (x : Int) : Go.bits .and .i64 x 63 = x % 64 := mask (m := 6) (by omega) x
theorem m5 (x : Int) : Go.bits .and .i64 x 31 = x % 32 := mask (m := 5) (by omega) x
theorem tdiv16 {x : Int} (h0 : 0 ≤ x) : Int.tdiv (x * 4294967296) 16 = x * 268435456 := by rw [Int.tdiv_eq_ediv_of_nonneg (by omega)]; omega
theorem Box_eq {w h : Int} (hw : S63 w) (hh : S63 h) : shape_Box.f w h = some (2, 0, boxPts w h) := by
  unfold shape_Box.f
  rw [neg_eq hw.i, Option.bind_some, neg_eq hh.i, Option.bind_some, Option.bind_some, Option.bind_some, neg_id hw, neg_id hh]; rfl
def ringP : List P2 := [(⟨65, 0⟩ : P2), (⟨52, 39⟩ : P2), (⟨25, 60⟩ : P2), (⟨(-25), 60⟩ : P2), (⟨(-52), 39⟩ : P2), (⟨(-65), 0⟩ : P2), (⟨(-52), (-39)⟩ : P2), (⟨(-25), (-60)⟩ : P2), (⟨25, (-60)⟩ : P2), (⟨52, (-39)⟩ : P2)]
theorem ringP_len : ringP.length = 10 := rfl
theorem ring_get (j : Nat) (h : j < 10) : (rd_T24 ringP (j : Int)) = ⟨(ring10.getD j (0, 0)).1, (ring10.getD j (0, 0)).2⟩ := by
  match j, h with
  | 0, _ | 1, _ | 2, _ | 3, _ | 4, _ | 5, _ | 6, _ | 7, _ | 8, _ | 9, _ => rfl
theorem seed_loop (c t : Int) (hc : 0 ≤ c ∧ c < 64) (m : Nat) (hm : 3 ≤ m ∧ m ≤ 8) (a0 a1 a2 a3 : Int) (ht : Go.bits .and .i64 a3 255 = t) (ht0 : 0 ≤ t ∧ t < 256) : ∀ (d i k : Nat) (acc : List P2), i + d = m → acc.length = i → d < k →
    bagatellelaw04_Seed_Shape.l0 k ((1 + c) * 268435456) (m : Int) ringP (m : Int) (i : Int) a0 a1 a2 a3 2 0 acc = some (2, 0, acc ++ scaled ((1 + c) * 4194304) ((List.range' i d).map (pick m (t % 10).toNat)))
  | 0, i, k, acc, h1, h2, h3 => by
    obtain ⟨k, rfl⟩ : ∃ m, k = m + 1 := ⟨k - 1, by omega⟩
    simp only [bagatellelaw04_Seed_Shape.l0]
    rw [if_neg (by omega)]; simp [scaled]
  | d + 1, i, k, acc, h1, h2, h3 => by
    obtain ⟨k, rfl⟩ : ∃ m, k = m + 1 := ⟨k - 1, by omega⟩
    have l1 : (i : Int) < (m : Int) := by omega
    have l2 : ¬ (m : Int) = 0 := by omega
    have l3 : acc.length < 8796093022208 := by omega
    have l5 : I64 ((i : Int) + 1) := by unfold I64; omega
    have e0 : Int.tdiv (wrap64 ((i : Int) * 10)) (m : Int) = ((i * 10 / m : Nat) : Int) := by
      rw [w64 (by unfold I64; omega), Int.tdiv_eq_ediv_of_nonneg (by omega)]
      rw [Int.natCast_ediv]; rfl
    have hq : i * 10 / m < 10 := by rw [Nat.div_lt_iff_lt_mul (by omega)]; omega
    have e1 : Int.tmod (wrap64 ((wrap64 (Int.tdiv (wrap64 ((i : Int) * 10)) (m : Int))) + (Go.bits .and .i64 a3 255))) 10 = (((i * 10 / m + (t % 10).toNat) % 10 : Nat) : Int) := by
      rw [e0, ht]
      generalize i * 10 / m = q at *
      rw [w64 (x := ((q : Nat) : Int)) (by unfold I64; omega), w64 (by unfold I64; omega), Int.tmod_eq_emod_of_nonneg (by omega)]
      omega
    have hj := Nat.mod_lt (i * 10 / m + (t % 10).toNat) (show 10 > 0 by omega)
    have sc : ∀ x : Int, -65 ≤ x → x ≤ 65 → wrap64 (Int.tdiv (wrap64 (x * ((1 + c) * 268435456))) 64) = x * ((1 + c) * 4194304) := by
      intro x h4 h5
      have n := near_scaled (s := (1 + c) * 4194304) (by omega) (by omega) h4 h5
      have e : x * ((1 + c) * 268435456) = x * ((1 + c) * 4194304) * 64 := by grind
      rw [e, w64 (x := x * ((1 + c) * 4194304) * 64) (by unfold I64; omega), Int.mul_tdiv_cancel _ (by omega), w64 (by unfold I64; omega)]
    have pb := pick_b m (t % 10).toNat i
    simp only [bagatellelaw04_Seed_Shape.l0]
    have l4 : (((i * 10 / m + (t % 10).toNat) % 10 : Nat) : Int) < (ringP.length : Int) := Int.ofNat_lt.2 (by rw [ringP_len]; exact hj)
    rw [e1, if_pos l1, if_neg l2, if_pos (Int.natCast_nonneg _), if_pos l4, if_pos l3, ring_get _ hj, w64 l5]
    simp only
    rw [show ring10.getD ((i * 10 / m + (t % 10).toNat) % 10) (0, 0) = pick m (t % 10).toNat i from rfl, sc _ pb.1 pb.2.1, sc _ pb.2.2.1 pb.2.2.2]
    have := seed_loop c t hc m hm a0 a1 a2 a3 ht ht0 d (i + 1) k (acc ++ [(⟨(pick m (t % 10).toNat i).1 * ((1 + c) * 4194304), (pick m (t % 10).toNat i).2 * ((1 + c) * 4194304)⟩ : P2)]) (by omega) (by simp; omega) (by omega)
    rw [show ((i : Int) + 1) = ((i + 1 : Nat) : Int) by omega, this, List.range'_succ, List.map_cons]
    simp [scaled]
theorem Seed_eq {k : Nat} (hk : 12 ≤ k) (a b c d : Int) : bagatellelaw04_Seed_Shape.f k a b c d = some (seed a b c d) := by
  unfold bagatellelaw04_Seed_Shape.f seed
  have hc : 0 ≤ c % 64 ∧ c % 64 < 64 := by omega
  have hd : 0 ≤ d % 32 ∧ d % 32 < 32 := by omega
  have e1 : wrap64 (Int.tdiv (wrap64 ((wrap64 (1 + c % 64)) * 4294967296)) 16) = (1 + c % 64) * 268435456 := by
    rw [w64 (x := 1 + c % 64) (by unfold I64; omega), w64 (x := (1 + c % 64) * 4294967296) (by unfold I64; omega), tdiv16 (by omega), w64 (by unfold I64; omega)]
  have e2 : wrap64 (Int.tdiv (wrap64 ((wrap64 (1 + d % 32)) * 4294967296)) 16) = (1 + d % 32) * 268435456 := by
    rw [w64 (x := 1 + d % 32) (by unfold I64; omega), w64 (x := (1 + d % 32) * 4294967296) (by unfold I64; omega), tdiv16 (by omega), w64 (by unfold I64; omega)]
  rw [m2, m6, m5, e1, e2]
  by_cases h0 : a % 4 = 0
  · rw [if_pos h0, if_pos h0]
  · rw [if_neg h0, if_neg h0]
    by_cases h1 : a % 4 = 1
    · rw [if_pos h1, if_pos h1, Box_eq (by unfold S63; omega) (by unfold S63; omega), Option.bind_some]
    · rw [if_neg h1, if_neg h1]
      have e3 : wrap64 (3 + (Int.tmod (Go.bits .and .i64 b 255) 6)) = (((3 + b % 256 % 6).toNat : Nat) : Int) := by
        rw [m8, Int.tmod_eq_emod_of_nonneg (by omega), w64 (by unfold I64; omega)]; omega
      have e4 : bagatellelaw04_ring.f = some ringP := rfl
      rw [e3, e4, Option.bind_some]
      have := seed_loop (c % 64) (d % 256) hc (3 + b % 256 % 6).toNat (by omega) a b c d (m8 d) (by omega) (3 + b % 256 % 6).toNat 0 k [] (by omega) rfl (by omega)
      rw [List.nil_append, ← List.range_eq_range'] at this
      exact this
/-- A corner, turned and moved. -/
def placed (C S px py : Int) (p : P2) : P2 := ⟨Ma.add px (Ma.sub (Ma.mul C p.f0) (Ma.mul S p.f1)), Ma.add py (Ma.add (Ma.mul S p.f0) (Ma.mul C p.f1))⟩
def corners (l : List P2) (px py an : Int) : List P2 := l.map (placed (sn (stp an + 256)) (sn (stp an)) px py)
theorem rd_get {l : List P2} {i : Nat} (h : i < l.length) : rd_T24 l (i : Int) = l[i] := by
  unfold rd_T24; rw [Int.toNat_natCast, List.getD_eq_getElem?_getD, List.getElem?_eq_getElem h]; rfl
theorem drop_get {l : List P2} {i : Nat} (h : i < l.length) : l.drop i = rd_T24 l (i : Int) :: l.drop (i + 1) := by
  rw [List.drop_eq_getElem_cons h, rd_get h]
theorem rd_mem {l : List P2} {i : Nat} (h : i < l.length) : rd_T24 l (i : Int) ∈ l := by rw [rd_get h]; exact List.getElem_mem h
theorem corners_loop {C S px py : Int} (hC : I64 C) (hS : I64 S) (hx : I64 px) (hy : I64 py) (l : List P2) (hl : l.length ≤ 1000) (hw : ∀ p ∈ l, I64 p.f0 ∧ I64 p.f1) : ∀ (d i k : Nat) (acc : List P2), i + d = l.length → acc.length = i → d + 60 < k →
    shape_Corners.l0 k acc l (l.length : Int) (i : Int) px py C S = some (acc ++ (l.drop i).map (placed C S px py))
  | 0, i, k, acc, h1, h2, h3 => by
    obtain ⟨k, rfl⟩ : ∃ m, k = m + 1 := ⟨k - 1, by omega⟩
    simp only [shape_Corners.l0]
    rw [if_neg (by omega), List.drop_of_length_le (by omega)]; simp
  | d + 1, i, k, acc, h1, h2, h3 => by
    obtain ⟨k, rfl⟩ : ∃ m, k = m + 1 := ⟨k - 1, by omega⟩
    have hlt : i < l.length := by omega
    obtain ⟨w0, w1⟩ := hw _ (rd_mem hlt)
    simp only [shape_Corners.l0]
    rw [if_pos (by omega), if_pos (by omega), if_pos (by omega), vApply_eq (by omega) hC hS w0 w1, Option.bind_some, vAdd_eq (by omega) hx hy (sub_i _ _) (add_i _ _), Option.bind_some, if_pos (by omega), w64 (by unfold I64; omega), show ((i : Int) + 1) = ((i + 1 : Nat) : Int) by omega]
    rw [corners_loop hC hS hx hy l hl hw d (i + 1) k _ (by omega) (by simp; omega) (by omega), drop_get hlt, List.map_cons]
    simp [placed]
theorem Corners_eq {k : Nat} (hk : 1070 ≤ k) {px py : Int} (hx : I64 px) (hy : I64 py) (r an : Int) (l : List P2) (hl : l.length ≤ 1000) (hw : ∀ p ∈ l, I64 p.f0 ∧ I64 p.f1) : shape_Corners.f k 2 r l px py an = some (corners l px py an) := by
  unfold shape_Corners.f
  rw [if_pos rfl, Of_eq (by omega), Option.bind_some]
  have := corners_loop (sn_S (stp an + 256)).i (sn_S (stp an)).i hx hy l hl hw l.length 0 k [] (by omega) rfl (by omega)
  rw [List.nil_append, List.drop_zero] at this; exact this
theorem Corners_none {k : Nat} {kd : Int} (h : kd ≠ 2) (r px py an : Int) (l : List P2) : shape_Corners.f k kd r l px py an = some [] := by
  unfold shape_Corners.f; rw [if_neg h]
theorem Near.i {p : P2} (h : Near p) : I64 p.f0 ∧ I64 p.f1 := by unfold Near at h; unfold I64; omega
theorem m32' (x : Int) : Go.bits .and .i64 x 4294967295 = x % 4294967296 := m32 x
theorem Place_eq {k : Nat} (hk : 12 ≤ k) (a b c d x y an : Int) : bagatellelaw06_Place_Body.f k a b c d x y an = some (0, bring x 4294967296000, bring y 4294967296000, 0, 0, an % 4294967296, 0, 0, (seed a b c d).1, (seed a b c d).2.1, (seed a b c d).2.2) := by
  unfold bagatellelaw06_Place_Body.f
  rw [vBring_eq (by omega) (by omega), Option.bind_some, Seed_eq hk, Option.bind_some, m32]
end Go.Proofs.Ytlbkpfcidpnhgaa.Sh
