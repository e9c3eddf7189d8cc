/- The sides of a polygon, one after another: what 'mass.sides' hands over. -/
import Derived.Test.YtghhecijpghfhaaGreatFwZ
import Derived.Test.YtghhecijpghfhaaGreatProg
import Derived.RangeFuncBox
import Derived.RangeFuncLeaves
import Derived.Shelf.Abstract
import Derived.WalkKit
import Derived.OwnWalkIn
import Derived.TacticsInMore
import Derived.LoopNIn
import Derived.LoopIn
import Derived.Shelf.RegionOpen
namespace Go.Proofs.YtghhecijpghfhaaGreat.It
open Go Go.RowKit Go.Shelf Go.Proofs Go.Proofs.YtghhecijpghfhaaGreat.Fw
set_option linter.unusedVariables false
set_option linter.unusedSimpArgs false
attribute [local go_sem] Oper.semAt_some

set_option maxRecDepth 100000 in
set_option maxHeartbeats 4000000 in
theorem sides_in (m l B o1 b off len cap : Nat) (u v : Nat → Value) (hlen : len ≤ 4611686018427387904) (h1 : ∀ j, j < len → (u j).oneCell' = true ∧ (v j).oneCell' = true) (J : Nat → World → Prop)
    (hB : ∀ i A, J i A → A.cell? ⟨B, o1, none⟩ = some (.slice (some ⟨b, off, none⟩) len cap))
    (hu : ∀ i A, J i A → ∀ j, j < len → A.cell? ⟨b, off + j * 2, none⟩ = some (u j))
    (hv : ∀ i A, J i A → ∀ j, j < len → A.cell? ⟨b, off + j * 2 + 1, none⟩ = some (v j))
    (hJ : ∀ i A C, J i A → Below A.heap.size A C → J i C)
    (hY : ∀ i A, i < len → J i A → ∀ m, YieldAt Fence.wide m Tryz.prog l #[.agg #[u i, v i], .agg #[u ((i + 1) % len), v ((i + 1) % len)]] A fun e C => e = .returned (.bool true) ∧ J (i + 1) C)
    (W : World) (h0 : J 0 W) :
    CallsIn Fence.wide m Tryz.prog 105 #[.func (.yield l) #[] #[], .pointer (some ⟨B, o1, none⟩)] W fun e C => (∃ v, e = .returned v) ∧ J len C := by
  have hmx : Tryz.prog.follows .mixedOrders = true := by kernel_rfl
  refine callsIn_of_wp Tryz.func105 rfl trivial ?_ rfl
  simp only [Tryz.ntmps105, List.size_toArray, List.length_cons, List.length_nil, Nat.reduceAdd, Nat.reduceSub, Array.replicate_succ, Array.replicate_zero, List.push_toArray, List.append_toArray, List.nil_append, List.cons_append]
  have hB0 := hB 0 W h0
  gi_wp2
  gi_loopw [7] (fun i wr => ∃ k : Nat, k ≤ len ∧ i = .int .i64 k ∧ J k wr)
    (fun i _ => len - (intOf i).toNat)
  case atStart => exact ⟨0, Nat.zero_le _, rfl, h0⟩
  case round =>
    obtain ⟨k, hk, rfl, hJs⟩ := hrel
    by_cases hlt : k < len
    · have hcx := hu k wr hJs k hlt
      have hcy := hv k wr hJs k hlt
      have su : ∀ (w : World) (a : Addr) (m : Mode), (store a (u k) m).run Tryz.prog w = stored Tryz.prog w a (u k) m := fun w a m => Go.run_store _ w a _ m (h1 k hlt).1
      have sv : ∀ (w : World) (a : Addr) (m : Mode), (store a (v k) m).run Tryz.prog w = stored Tryz.prog w a (v k) m := fun w a m => Go.run_store _ w a _ m (h1 k hlt).2
      gi_wp2
      have hJ2 : J k (wr.alloc (.cells #[u k, v k] 27)) := hJ k _ _ hJs ((Below.refl _ wr).alloc (Nat.le_refl _) _)
      have e0 : (wr.alloc (.cells #[u k, v k] 27)).cell? ⟨wr.heap.size, 0, none⟩ = some (u k) := by simp
      have e1 : (wr.alloc (.cells #[u k, v k] 27)).cell? ⟨wr.heap.size, 1, none⟩ = some (v k) := by simp
      clear hcx hcy su sv
      generalize wr.alloc (.cells #[u k, v k] 27) = W2 at hJ2 e0 e1 ⊢
      have hJ3 : J k W2.drew := hJ k _ _ hJ2 (Below.refl _ W2).drew
      have hlp : 0 < len := by omega
      obtain ⟨j, hj⟩ : ∃ j, (k + 1) % len = j := ⟨_, rfl⟩
      have hjl : j < len := by rw [← hj]; exact Nat.mod_lt _ hlp
      have hmod : Int.tmod ((k : Int) + 1) (len : Int) = (j : Int) := by
        rw [← hj, Int.tmod_eq_emod_of_nonneg (by omega)]; simp
      have hne : ¬ len = 0 := by omega
      have hwr : IntKind.i64.wrap ((k : Int) + 1) = (k : Int) + 1 := by rw [IntKind.wrap_i64]; omega
      have hw0 : IntKind.i64.wrap (k : Int) = (k : Int) := by rw [IntKind.wrap_i64]; omega
      have f0 : W2.drew.cell? ⟨wr.heap.size, 0, none⟩ = some (u k) := e0
      have f1 : W2.drew.cell? ⟨wr.heap.size, 1, none⟩ = some (v k) := e1
      have f2 := hB k _ hJ3
      have f3 := hu k _ hJ3 j hjl
      have f4 := hv k _ hJ3 j hjl
      obtain ⟨fn, tmps, assign, body, hy, hR⟩ := hY k W2.drew hlt hJ3 0
      rw [hj] at hy
      have hR2 : ∀ m, RoundIn Fence.wide m Tryz.prog l fn tmps assign body W2.drew fun e C => e = .returned (.bool true) ∧ J (k + 1) C := fun m => ⟨hR.1, fun c cs _ => hR.2 c cs (room_wide _)⟩
      clear hR
      clear e0 e1 hJ2 hJs hB0 h0 hu hv hB hY h1
      gi_region_with_o (refine ⟨fun h => (by cases h), (hR2 _).mono ?_⟩; rintro e W3 ⟨rfl, hJ4⟩; try simp only)
      all_goals clear f0 f1 f2 f3 f4 hy hR2
      all_goals gi_wp2
      all_goals go_roundw
      all_goals first | exact ⟨k + 1, by omega, by simp, hJ4⟩ | (simp [intOf]; omega)
    · obtain rfl : k = len := by omega
      gi_wp2
      go_end0
      exact ⟨⟨_, rfl⟩, hJs⟩

set_option maxRecDepth 100000 in
set_option maxHeartbeats 1000000 in
theorem sides_nil (m l B o1 : Nat) (W : World) (J : World → Prop) (a : Option Addr) (hB : W.cell? ⟨B, o1, none⟩ = some (.slice a 0 0)) (h0 : J W) :
    CallsIn Fence.wide m Tryz.prog 105 #[.func (.yield l) #[] #[], .pointer (some ⟨B, o1, none⟩)] W fun e C => (∃ v, e = .returned v) ∧ J C := by
  refine callsIn_of_wp Tryz.func105 rfl trivial ?_ rfl
  simp only [Tryz.ntmps105, List.size_toArray, List.length_cons, List.length_nil, Nat.reduceAdd, Nat.reduceSub, Array.replicate_succ, Array.replicate_zero, List.push_toArray, List.append_toArray, List.nil_append, List.cons_append]
  gi_wp2
  gi_loopw [7] (fun i wr => i = .int .i64 0 ∧ J wr) (fun _ _ => 0)
  case atStart => exact ⟨rfl, h0⟩
  case round =>
    obtain ⟨rfl, hJs⟩ := hrel
    gi_wp2
    go_end0
    exact ⟨⟨_, rfl⟩, hJs⟩

/-- What it hands over: each corner and the next one. -/
def sidesIt : Iter where
  wd := 2
  ok := fun
    | [.rp [.lst sz n _ _] 0] => Nat.beq sz 2 && decide (n ≤ 4611686018427387904)
    | _ => false
  rows := fun
    | [.rp [.lst _ n _ get] 0] => some (n, fun i => [.agg (get i), .agg (get ((i + 1) % n))])
    | _ => none

theorem cell_of {A : World} {b : Nat} {arr : Array Value} {RO : RoMap} (h : RoOk RO A) (hb : RO b = some arr) (j : Nat) : A.cell? ⟨b, j, none⟩ = arr[j]? := by
  obtain ⟨t, f, e⟩ := h b arr hb
  simp [World.cell?, e]

theorem sidesIt_ok : sidesIt.Ok Tryz.prog 105 := by
  refine ⟨⟨_, Tryz.func105, by kernel_rfl, by kernel_rfl⟩, fun lcaps n rows hok hrows RO w lb hro hcr => ?_⟩
  unfold sidesIt at hok hrows
  simp only at hok hrows
  split at hrows
  · rename_i sz n' cap get
    cases hrows
    simp only [Bool.and_eq_true, decide_eq_true_eq] at hok
    obtain ⟨h2, hn⟩ := hok
    have h2 := Nat.eq_of_beq_eq_true h2
    subst h2
    obtain ⟨pv, hpv⟩ : ∃ v, lb = #[v] := by
      have := hcr.1
      simp at this
      exact ⟨lb[0]'(by omega), Array.ext (by simp; omega) fun i h1 h2 => by simp at h2; subst h2; rfl⟩
    subst hpv
    have hp := hcr.2 0 _ pv rfl rfl
    cases hp with
    | rp H cs j B off0 arr0 hB hs hc =>
      have hlt : off0 < arr0.size := by simp at hs; omega
      obtain ⟨sv, hsv⟩ : ∃ sv, arr0[off0 + 0]? = some sv := ⟨arr0[off0], by simp [hlt]⟩
      have hv := hc 0 _ sv rfl hsv
      cases hv with
      | lst H sz n cap get b off c arr hb hnc hcap hs hg h1 h =>
        have hin : ∀ i, i < n → ∀ j, j < 2 → off + i * 2 + j < arr.size := by intro i hi j hj; omega
        have at0 : ∀ i, i < n → arr[off + i * 2]? = some (arr.getD (off + i * 2) undef) := fun i hi => by
          have := hin i hi 0 (by omega); simp [Array.getD, show off + i * 2 < arr.size by omega]
        have at1 : ∀ i, i < n → arr[off + i * 2 + 1]? = some (arr.getD (off + i * 2 + 1) undef) := fun i hi => by
          have := hin i hi 1 (by omega); simp [Array.getD, show off + i * 2 + 1 < arr.size by omega]
        have hag : ∀ i, i < n → VR (fun _ => none) RO noHp (.agg (get i)) (.agg #[arr.getD (off + i * 2) undef, arr.getD (off + i * 2 + 1) undef]) := fun i hi => by
          refine .agg _ _ _ (by rw [hg i hi]; rfl) fun k cc x e1 e2 => ?_
          match k, e2 with
          | 0, e2 => cases e2; exact h i 0 cc _ hi e1 (at0 i hi)
          | 1, e2 => cases e2; exact h i 1 cc _ hi e1 (at1 i hi)
          | k + 2, e2 => simp at e2
        refine ⟨fun i => #[.agg #[arr.getD (off + i * 2) undef, arr.getD (off + i * 2 + 1) undef], .agg #[arr.getD (off + (i + 1) % n * 2) undef, arr.getD (off + (i + 1) % n * 2 + 1) undef]], fun _ => rfl, fun i hi => ?_, fun l m J W hJ0 hJ1 hY h0 => ?_⟩
        · exact .cons (hag i hi) (.cons (hag _ (Nat.mod_lt _ (by omega))) .nil)
        · refine sides_in m l B (off0 + 0) b off n c (fun i => arr.getD (off + i * 2) undef) (fun i => arr.getD (off + i * 2 + 1) undef) hn (fun j hj => ⟨h1 (j * 2) _ (by omega) (at0 j hj), h1 (j * 2 + 1) _ (by omega) (at1 j hj)⟩) J
            (fun i A hA => (cell_of (hJ0 i A hA) hB _).trans hsv) (fun i A hA j hj => (cell_of (hJ0 i A hA) hb _).trans (at0 j hj)) (fun i A hA j hj => (cell_of (hJ0 i A hA) hb _).trans (at1 j hj)) hJ1 hY W h0
      | lst0 H sz cap get a hcap =>
        refine ⟨fun i => #[undef, undef], fun _ => rfl, fun i hi => absurd hi (Nat.not_lt_zero i), fun l m J W hJ0 hJ1 hY h0 => ?_⟩
        exact sides_nil m l B (off0 + 0) W (J 0) a ((cell_of (hJ0 0 W h0) hB _).trans hsv) h0
  · cases hrows
end Go.Proofs.YtghhecijpghfhaaGreat.It
