/- For every list of at most 30 numbers of 64 bits fix.Sum goes from the first number on, each time brought; longer lists are not spoken of. -/
import Derived.OpenShut
import Derived.Test.YtkafbfkhgkcdnaaPFixx8
import Derived.Test.YtkafbfkhgkcdnaaLe
namespace Go.Proofs.Ytkafbfkhgkcdnaa.Pure
open Go.RowKit Go.Proofs.YtkafbfkhgkcdnaaW.PrintWords Go.Proofs.YtkafbfkhgkcdnaaW.PrintLast Go.Proofs.YtkafbfkhgkcdnaaW.PrintMore Go.Proofs.Ytkafbfkhgkcdnaa.PFix Go.Proofs.Ytkafbfkhgkcdnaa.Ma Go.Proofs.Ytkafbfkhgkcdnaa.Fx Go.Proofs.Ytkafbfkhgkcdnaa.Dv Go.Proofs.Ytkafbfkhgkcdnaa.Le

def fold (xs : List Int) (s : Int) : Int := xs.foldl (fun s x => Ma.add s (wh x)) s
theorem rd_drop {xs : List Int} {i : Nat} (h : i < xs.length) : xs.drop i = rd xs (i : Int) :: xs.drop (i + 1) := by
  rw [List.drop_eq_getElem_cons h]; congr 1
  unfold rd; rw [Int.toNat_natCast, List.getD_eq_getElem?_getD, List.getElem?_eq_getElem h]; rfl
theorem rd_mem {xs : List Int} {i : Nat} (h : i < xs.length) : rd xs (i : Int) ∈ xs := by
  unfold rd; rw [Int.toNat_natCast, List.getD_eq_getElem?_getD, List.getElem?_eq_getElem h]; exact List.getElem_mem h
theorem add_wh {s x : Int} (hx : I64 x) : Ma.add s (wh x) = Ma.add s x := by unfold Ma.add; rw [wh_id (wh_s hx)]
theorem sum_loop (xs : List Int) (hm : xs.length ≤ 30) (hw : ∀ x ∈ xs, I64 x) : ∀ (d i : Nat) (s : Int) (k : Nat), S63 s → xs.length - i = d → i ≤ xs.length → d + 2 < k →
    fix_Sum.l0 k s xs (xs.length : Int) (i : Int) = some (fold (xs.drop i) s) := by
  intro d
  induction d with
  | zero =>
    intro i s k hs hd hi hk
    obtain ⟨k, rfl⟩ : ∃ m, k = m + 1 := ⟨k - 1, by omega⟩
    simp only [fix_Sum.l0]
    rw [if_neg (by omega), List.drop_of_length_le (by omega)]; rfl
  | succ d ih =>
    intro i s k hs hd hi hk
    obtain ⟨k, rfl⟩ : ∃ m, k = m + 1 := ⟨k - 1, by omega⟩
    simp only [fix_Sum.l0]
    have hlt : i < xs.length := by omega
    have hx := hw _ (rd_mem hlt)
    rw [if_pos (by omega), if_pos (by omega), if_pos (by omega), add_eq' (by omega) hs.i hx, Option.bind_some, w64 (by unfold I64; omega), show ((i : Int) + 1) = ((i + 1 : Nat) : Int) by omega, ih (i + 1) _ k (add_s _ _) (by omega) (by omega) (by omega), rd_drop hlt]
    unfold fold; rw [List.foldl_cons, add_wh hx]
theorem law_loop (xs : List Int) (hm : xs.length ≤ 30) (hw : ∀ x ∈ xs, I64 x) : ∀ (d i : Nat) (s : Int) (k : Nat), S63 s → xs.length - i = d → i ≤ xs.length → fold (xs.drop i) s = fold xs 0 → d + 40 < k →
    bagatellelaw01_FixSums.l0 k xs s xs (xs.length : Int) (i : Int) = some true := by
  intro d
  induction d with
  | zero =>
    intro i s k hs hd hi hf hk
    obtain ⟨k, rfl⟩ : ∃ m, k = m + 1 := ⟨k - 1, by omega⟩
    simp only [bagatellelaw01_FixSums.l0]
    have e : fix_Sum.f k xs = some (fold xs 0) := by
      unfold fix_Sum.f
      have := sum_loop xs hm hw xs.length 0 0 k (by unfold S63; omega) (by omega) (by omega) (by omega)
      rw [List.drop_zero] at this; exact this
    rw [if_neg (by omega), e, Option.bind_some, ← hf, List.drop_of_length_le (by omega)]
    simp [fold]
  | succ d ih =>
    intro i s k hs hd hi hf hk
    obtain ⟨k, rfl⟩ : ∃ m, k = m + 1 := ⟨k - 1, by omega⟩
    simp only [bagatellelaw01_FixSums.l0]
    have hlt : i < xs.length := by omega
    have hx := hw _ (rd_mem hlt)
    have hx' : S63 (mx (rd xs (i : Int)) (-9223372036854775807)) := wh_s hx
    rw [if_pos (by omega), if_pos (by omega), if_pos (by omega), sum_eq (by omega) hs hx', Option.bind_some, w64 (by unfold I64; omega), show ((i : Int) + 1) = ((i + 1 : Nat) : Int) by omega]
    refine ih (i + 1) _ k (add_s _ _) (by omega) (by omega) ?_ (by omega)
    rw [← hf, rd_drop hlt]; rfl
theorem FixSums : bagatellelaw01_FixSums.Pure := by
  intro xs _ _ hw
  refine ⟨140, ?_⟩
  unfold bagatellelaw01_FixSums.f
  rw [fit_eq (by omega), Option.bind_some, if_pos rfl]
  by_cases h : (xs.length : Int) > 30
  · rw [if_pos h]
  · rw [if_neg h]
    exact law_loop xs (by omega) (fun x hx => bounds_i64 (hw x hx)) xs.length 0 0 140 (by unfold S63; omega) (by omega) (by omega) (by rw [List.drop_zero]) (by omega)

end Go.Proofs.Ytkafbfkhgkcdnaa.Pure
