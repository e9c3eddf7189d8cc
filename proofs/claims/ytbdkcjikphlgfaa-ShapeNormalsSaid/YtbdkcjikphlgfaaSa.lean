/- The shapes that a seed makes. -/
import Derived.Test.YtbdkcjikphlgfaaPShx2
import Derived.Test.YtbdkcjikphlgfaaPShx9
import Derived.Test.YtbdkcjikphlgfaaLm
import Derived.Test.YtbdkcjikphlgfaaMk
namespace Go.Proofs.Ytbdkcjikphlgfaa.Sh
open Go.RowKit Go.Proofs.YtbdkcjikphlgfaaW.PrintWords Go.Proofs.YtbdkcjikphlgfaaW.PrintLast Go.Proofs.YtbdkcjikphlgfaaW.PrintMore Go.Proofs.Ytbdkcjikphlgfaa.PSh Go.Proofs.Ytbdkcjikphlgfaa.Ma Go.Proofs.Ytbdkcjikphlgfaa.Fx Go.Proofs.Ytbdkcjikphlgfaa.Dv Go.Proofs.Ytbdkcjikphlgfaa.Vc Go.Proofs.Ytbdkcjikphlgfaa.Ln Go.Proofs.Ytbdkcjikphlgfaa.Tm

abbrev P2 := S34
def ring10 : List (Int × Int) := [(65, 0), (52, 39), (25, 60), (-25, 60), (-52, 39), (-65, 0), (-52, -39), (-25, -60), (25, -60), (52, -39)]
def pick (m tt : Nat) (i : Nat) : Int × Int := ring10.getD ((i * 10 / m + tt) % 10) (0, 0)
def base (m tt : Nat) : List (Int × Int) := (List.range m).map (pick m tt)
def scaled (s : Int) (l : List (Int × Int)) : List P2 := l.map fun p => (⟨p.1 * s, p.2 * s⟩ : P2)
def boxPts (w h : Int) : List P2 := [(⟨-w, -h⟩ : P2), (⟨w, -h⟩ : P2), (⟨w, h⟩ : P2), (⟨-w, h⟩ : P2)]
/-- The shape of a seed: its kind, its radius, its corners. -/
def seed (a b c d : Int) : Int × Int × List P2 :=
  if a % 4 = 0 then (1, (1 + c % 64) * 268435456, [])
  else if a % 4 = 1 then (2, 0, boxPts ((1 + c % 64) * 268435456) ((1 + d % 32) * 268435456))
  else (2, 0, scaled ((1 + c % 64) * 4194304) (base (3 + b % 256 % 6).toNat (d % 256 % 10).toNat))
theorem pick_b (m tt i : Nat) : -65 ≤ (pick m tt i).1 ∧ (pick m tt i).1 ≤ 65 ∧ -65 ≤ (pick m tt i).2 ∧ (pick m tt i).2 ≤ 65 := by
  have h : ∀ j : Fin 10, -65 ≤ (ring10.getD j.val (0, 0)).1 ∧ (ring10.getD j.val (0, 0)).1 ≤ 65 ∧ -65 ≤ (ring10.getD j.val (0, 0)).2 ∧ (ring10.getD j.val (0, 0)).2 ≤ 65 := by decide +kernel
  exact h ⟨(i * 10 / m + tt) % 10, Nat.mod_lt _ (by omega)⟩
/-- A corner that is not far. -/
def Near (p : P2) : Prop := -17448304640 ≤ p.f0 ∧ p.f0 ≤ 17448304640 ∧ -17448304640 ≤ p.f1 ∧ p.f1 ≤ 17448304640
theorem near_scaled {s x : Int} (h0 : 0 ≤ s) (h1 : s ≤ 268435456) (h2 : -65 ≤ x) (h3 : x ≤ 65) : -17448304640 ≤ x * s ∧ x * s ≤ 17448304640 := by
  have a := Int.mul_nonneg (show 0 ≤ 65 - x by omega) h0
  have b := Int.mul_nonneg (show 0 ≤ 65 + x by omega) h0
  rw [Int.sub_mul] at a; rw [Int.add_mul] at b
  omega
/-- What is so of each seed's shape. -/
structure Seedy (s : Int × Int × List P2) : Prop where
  kinds : (s.1 = 1 ∧ s.2.2 = [] ∧ 268435456 ≤ s.2.1 ∧ s.2.1 ≤ 17179869184) ∨ (s.1 = 2 ∧ s.2.1 = 0 ∧ 3 ≤ s.2.2.length ∧ s.2.2.length ≤ 8)
  near : ∀ p ∈ s.2.2, Near p
theorem seedy (a b c d : Int) : Seedy (seed a b c d) := by
  unfold seed
  split
  · exact ⟨.inl ⟨rfl, rfl, by show 268435456 ≤ (1 + c % 64) * 268435456; omega, by show (1 + c % 64) * 268435456 ≤ 17179869184; omega⟩, fun p h => by cases h⟩
  · split
    · refine ⟨.inr ⟨rfl, rfl, by show 3 ≤ (boxPts _ _).length; simp [boxPts], by show (boxPts _ _).length ≤ 8; simp [boxPts]⟩, ?_⟩
      intro p h
      have h' : p ∈ boxPts ((1 + c % 64) * 268435456) ((1 + d % 32) * 268435456) := h
      simp only [boxPts, List.mem_cons, List.not_mem_nil, or_false] at h'
      rcases h' with rfl | rfl | rfl | rfl <;> (unfold Near; simp only; omega)
    · refine ⟨.inr ⟨rfl, rfl, by show 3 ≤ (scaled _ _).length; simp [scaled, base]; omega, by show (scaled _ _).length ≤ 8; simp [scaled, base]; omega⟩, ?_⟩
      intro p h
      have h' : p ∈ scaled ((1 + c % 64) * 4194304) (base (3 + b % 256 % 6).toNat (d % 256 % 10).toNat) := h
      simp only [scaled, base, List.map_map, List.mem_map] at h'
      obtain ⟨i, _, rfl⟩ := h'
      obtain ⟨h1, h2, h3, h4⟩ := pick_b (3 + b % 256 % 6).toNat (d % 256 % 10).toNat i
      have n1 := near_scaled (s := (1 + c % 64) * 4194304) (by omega) (by omega) h1 h2
      have n2 := near_scaled (s := (1 + c % 64) * 4194304) (by omega) (by omega) h3 h4
      exact ⟨n1.1, n1.2, n2.1, n2.2⟩
theorem m2 (x : Int) : Go.bits .and .i64 x 3 = x % 4 := mask (m := 2) (by omega) x
theorem m6 (x : Int) : Go.bits .and .i64 x 63 = x % 64 := mask (m := 6) (by omega) x
theorem m5 (x : Int) : Go.bits .and .i64 x 31 = x % 32 := mask (m := 5) (by omega) x
theorem tdiv16 {x : Int} (h0 : 0 ≤ x) : Int.tdiv (x * 4294967296) 16 = x * 268435456 := by rw [Int.tdiv_eq_ediv_of_nonneg (by omega)]; omega
theorem Box_eq {w h : Int} (hw : S63 w) (hh : S63 h) : shape_Box.f w h = some (2, 0, boxPts w h) := by
  unfold shape_Box.f
  rw [neg_eq hw.i, Option.bind_some, neg_eq hh.i, Option.bind_some, Option.bind_some, Option.bind_some, neg_id hw, neg_id hh]; rfl
theorem rd_get {l : List P2} {i : Nat} (h : i < l.length) : rd_T34 l (i : Int) = l[i] := by
  unfold rd_T34; rw [Int.toNat_natCast, List.getD_eq_getElem?_getD, List.getElem?_eq_getElem h]; rfl
theorem drop_get {l : List P2} {i : Nat} (h : i < l.length) : l.drop i = rd_T34 l (i : Int) :: l.drop (i + 1) := by
  rw [List.drop_eq_getElem_cons h, rd_get h]
theorem rd_mem {l : List P2} {i : Nat} (h : i < l.length) : rd_T34 l (i : Int) ∈ l := by rw [rd_get h]; exact List.getElem_mem h
theorem Near.i {p : P2} (h : Near p) : I64 p.f0 ∧ I64 p.f1 := by unfold Near at h; unfold I64; omega
end Go.Proofs.Ytbdkcjikphlgfaa.Sh
