import Derived.Test.YtbcnifnmccaleaaEa
import Derived.Test.YtbcnifnmccaleaaProg
namespace Go.Proofs.Ytbcnifnmccaleaa.E
open Go Go.Proofs Go.Proofs.Ytbcnifnmccaleaa Go.Proofs.Ytbcnifnmccaleaa.Fw Go.RowKit
set_option maxRecDepth 100000
set_option linter.unusedVariables false
/-! ### bagatelle/bagatellelaw09.WorldRuns -/
noncomputable def law09.WorldRuns.cs : List (Nat × Fw.Summ) := [(8, law09.fit.s), (9, world.New.s), (10, law09.Deed.Do.s), (11, law09.Deed.Joint.s), (12, law09.joins.s), (15, world.Right.s), (14, law09.Deed.Body.s), (13, law09.may.s), (16, world.Body.s), (17, world.Joint.s)]
theorem law09.WorldRuns.cs_ok : SumsOk Try.prog law09.WorldRuns.cs := .cons law09.fit.ok (.cons world.New.ok (.cons law09.Deed.Do.ok (.cons law09.Deed.Joint.ok (.cons law09.joins.ok (.cons world.Right.ok (.cons law09.Deed.Body.ok (.cons law09.may.ok (.cons world.Body.ok (.cons world.Joint.ok (.nil))))))))))
def law09.WorldRuns.hs : List (Nat × LHint) := [(0, { mat := [], live := [3, 4, 5, 6, 7, 36, 37, 38], ren := [] }), (1, { rk := [(10, 4, [0, 1, 2, 3], [3, 4, 5, 6, 7, 9, 36, 37, 38]), (13, 5, [0, 1, 2, 3], [3, 4, 5, 6, 7, 9, 10, 11, 12, 36, 37, 38])] }), (2, { rk := [(15, 5, [0, 1, 2], [3, 4, 5, 6, 7, 10, 11, 20, 36, 37, 38])], bk := [(2, 6, [0, 1, 2], [3, 4, 5, 6, 7, 36, 37, 38])] }), (3, { mat := [], live := [3, 4, 5, 6, 7, 15, 36, 37, 38, 155], ren := [] }), (5, { mat := [], live := [3, 4, 5, 6, 21], ren := [] })]
noncomputable def law09.WorldRuns.G (gt : Bool) : Ctx := ⟨Try.prog, sumAt law09.WorldRuns.cs, lookH law09.WorldRuns.hs, gt⟩
noncomputable def law09.WorldRuns.g (gt : Bool) (k0 : Nat) (x : (Nat × (Nat → List AV))) : Option Bool := evF (law09.WorldRuns.G gt) k0 Try.f3 ((tOne (tLz 30 (RiiiiiiiiiiiiiiiiiiiiiiiiiiiiiL2.enc (0, 0, 0, 0, 0, 0, 0, 0, 0, 0, 0, 0, 0, 0, 0, 0, 0, 0, 0, 0, 0, 0, 0, 0, 0, 0, 0, 0, 0, (0, fun _ => []))))).enc x) tB.dec
noncomputable def law09.WorldRuns.f (x : (Nat × (Nat → List AV))) : Option Bool := law09.WorldRuns.g true (1000000) x
noncomputable def law09.WorldRuns.s : Fw.Summ := .mk' (tOne (tLz 30 (RiiiiiiiiiiiiiiiiiiiiiiiiiiiiiL2.enc (0, 0, 0, 0, 0, 0, 0, 0, 0, 0, 0, 0, 0, 0, 0, 0, 0, 0, 0, 0, 0, 0, 0, 0, 0, 0, 0, 0, 0, (0, fun _ => []))))) tB law09.WorldRuns.f
theorem law09.WorldRuns.ok : law09.WorldRuns.s.Ok Try.prog 3 :=
  summ_ok (hint := lookH law09.WorldRuns.hs) (fn := Try.f3) (fun x => 1000000) law09.WorldRuns.cs_ok (by kernel_rfl) (by kernel_rfl) (by kernel_rfl) (by kernel_rfl) (tOne_ok (tLz_ok _ _)) tB_ok (fun _ => rfl)
noncomputable def law09.WorldRuns.l1 (gt : Bool) (k0 k1 k2 : Nat) (v1 : Int) (v2 : Int) (v3 : Int) (v4 : Int) (v5 : Int) (v6 : Nat) (v7 : Nat → List AV) (v8 : Nat) (v9 : Nat → List AV) (v10 : Nat) (v11 : Nat → List AV) (v12 : List Int) (v13 : Int → List AV) (v14 : List Int) (v15 : Int → List AV) (v16 : Int) (v17 : Int) (v18 : Int) (v19 : Int) (v20 : Int) (v21 : Int) (v22 : Int) (v23 : Int) (v24 : Int) (v25 : Int) (v26 : Int) (v27 : Int) (v28 : Int) (v29 : Int) (v30 : Int) (v31 : Int) (v32 : Int) (v33 : Int) (v34 : Int) (v35 : Int) (v36 : Int) (v37 : Int) (v38 : Int) (v39 : Int) (v40 : Int) (v41 : Int) (v42 : Int) (v43 : Int) (v44 : Int) (v45 : Nat) (v46 : Nat → List AV) (v47 : List Int) (v48 : Int) (v49 : Int) (v50 : Int) (v51 : Nat) (v52 : Nat → List AV) (v53 : Int) (v54 : Int) : Option Bool :=
  evLoop (lookH law09.WorldRuns.hs 3) 6 (ev (law09.WorldRuns.G gt) k0 (codeAt [1, 1, 1, 1, 1, 1, 0, 1, 0, 0, 1, 1, 0, 0, 1, 1, 1, 0, 1, 0, 1, 1, 1, 0, 1, 1, 1, 1, 0, 0] (bodyOf Try.f3)) 3) k2
  ⟨[.top, .top, .top, .ptr 0 0 0, .mp 1, .mp 2, .val (.int .i64 v48), .val (.int .i64 v49), .top, .top, .top, .top, .top, .top, .top, .val (.int .i64 v50), .top, .top, .top, .top, .top, .top, .top, .top, .top, .top, .top, .top, .top, .top, .top, .top, .top, .top, .top, .top, .lst 30 v51 none v52, .val (.int .i64 v53), .val (.int .i64 v54), .top, .top, .top, .top, .top, .top, .top, .top, .top, .top, .top, .top, .top, .top, .top, .top, .top, .top, .top, .top, .top, .top, .top, .top, .top, .top, .top, .top, .top, .top, .top, .top, .top, .top, .top, .top, .top, .top, .top, .top, .top, .top, .top, .top, .top, .top, .top, .top, .top, .top, .top, .top, .top, .top, .top, .top, .top, .top, .top, .top, .top, .top, .top, .top, .top, .top, .top, .top, .top, .top, .top, .top, .top, .top, .top, .top, .top, .top, .top, .top, .top, .top, .top, .top, .top, .top, .top, .top, .top, .top, .top, .top, .top, .top, .top, .top, .top, .top, .top, .top, .top, .top, .top, .top, .top, .top, .top, .top, .top, .top, .top, .top, .top, .top, .top, .top, .itr 5, .top, .top, .top, .top, .top, .top, .top, .top, .top, .top, .top, .top, .top, .top, .top, .top, .top, .top, .top, .top, .top, .top, .top, .top, .top, .top, .top, .top, .top, .top, .top, .top, .top, .top, .top, .top, .top, .top, .top, .top, .top, .top, .top, .top, .top, .top, .top, .top, .top, .top, .top, .top, .top, .top, .top, .top, .top, .top, .top, .top, .top, .top, .top, .top, .top, .top, .top, .top, .top, .top, .top, .top, .top, .top, .top, .top, .top, .top, .top, .top, .top, .top, .top, .top, .top, .top, .top, .top, .top, .top, .top, .top, .top, .top, .top, .top, .top, .top, .top, .top, .top, .top, .top, .top, .top, .top, .top, .top, .top, .top, .top, .top, .top, .top, .top, .top, .top, .top, .top, .top, .top, .top, .top, .top, .top, .top, .top, .top, .top, .top, .top, .top, .top, .top, .top], [.live ⟨false, 31, 8, 1, fun _ => [.val (.int .i64 v1), .val (.int .i64 v2), .val (.int .i64 v3), .val (.int .i64 v4), .val (.int .i64 v5), .lst 11 v6 none v7, .lst 8 v8 none v9, .lst 5 v10 none v11], none⟩, .mapd none v12 v13, .mapd (some 2) v14 v15, .live ⟨false, 45, 30, 1, fun _ => [.val (.int .i64 v16), .val (.int .i64 v17), .val (.int .i64 v18), .val (.int .i64 v19), .val (.int .i64 v20), .val (.int .i64 v21), .val (.int .i64 v22), .val (.int .i64 v23), .val (.int .i64 v24), .val (.int .i64 v25), .val (.int .i64 v26), .val (.int .i64 v27), .val (.int .i64 v28), .val (.int .i64 v29), .val (.int .i64 v30), .val (.int .i64 v31), .val (.int .i64 v32), .val (.int .i64 v33), .val (.int .i64 v34), .val (.int .i64 v35), .val (.int .i64 v36), .val (.int .i64 v37), .val (.int .i64 v38), .val (.int .i64 v39), .val (.int .i64 v40), .val (.int .i64 v41), .val (.int .i64 v42), .val (.int .i64 v43), .val (.int .i64 v44), .lst 2 v45 none v46], none⟩, .dead, .iter 2 ⟨v47, none⟩]⟩
  (kBlock (law09.WorldRuns.G gt) 3 (kBlock (law09.WorldRuns.G gt) 2 (kSeq (law09.WorldRuns.G gt) k0 (codeAt [1, 1, 1, 1, 1, 1, 0, 1, 0, 0, 1, 1, 0, 0, 1, 1, 1, 1] (bodyOf Try.f3)) 1 (kBlock (law09.WorldRuns.G gt) 1 (kSeq (law09.WorldRuns.G gt) k0 (codeAt [1, 1, 1, 1, 1, 1, 0, 1, 0, 0, 1, 1, 1] (bodyOf Try.f3)) 0 (kLoop (lookH law09.WorldRuns.hs 0) 3 (ev (law09.WorldRuns.G gt) k0 (codeAt [1, 1, 1, 1, 1, 1, 0, 1, 0, 0] (bodyOf Try.f3)) 0) k1 (kBlock (law09.WorldRuns.G gt) 0 (kSeq (law09.WorldRuns.G gt) k0 (codeAt [1, 1, 1, 1, 1, 1, 1] (bodyOf Try.f3)) 0 (kFin (law09.WorldRuns.G gt) Try.f3 tB.dec)))))))))
noncomputable def law09.WorldRuns.l2 (gt : Bool) (k0 k1 : Nat) (v1 : Int) (v2 : Int) (v3 : Int) (v4 : Int) (v5 : Int) (v6 : Nat) (v7 : Nat → List AV) (v8 : Nat) (v9 : Nat → List AV) (v10 : Nat) (v11 : Nat → List AV) (v12 : List Int) (v13 : Int → List AV) (v14 : List Int) (v15 : Int → List AV) (v16 : Int) (v17 : Int) : Option Bool :=
  evLoop (lookH law09.WorldRuns.hs 5) 3 (ev (law09.WorldRuns.G gt) k0 (codeAt [1, 1, 1, 1, 1, 1, 1, 0, 1, 0, 0] (bodyOf Try.f3)) 5) k1
  ⟨[.top, .top, .top, .ptr 0 0 0, .mp 1, .mp 2, .val (.int .i64 v16), .top, .top, .top, .top, .top, .top, .top, .top, .top, .top, .top, .top, .top, .top, .val (.int .i64 v17), .top, .top, .top, .top, .top, .top, .top, .top, .top, .top, .top, .top, .top, .top, .top, .top, .top, .top, .top, .top, .top, .top, .top, .top, .top, .top, .top, .top, .top, .top, .top, .top, .top, .top, .top, .top, .top, .top, .top, .top, .top, .top, .top, .top, .top, .top, .top, .top, .top, .top, .top, .top, .top, .top, .top, .top, .top, .top, .top, .top, .top, .top, .top, .top, .top, .top, .top, .top, .top, .top, .top, .top, .top, .top, .top, .top, .top, .top, .top, .top, .top, .top, .top, .top, .top, .top, .top, .top, .top, .top, .top, .top, .top, .top, .top, .top, .top, .top, .top, .top, .top, .top, .top, .top, .top, .top, .top, .top, .top, .top, .top, .top, .top, .top, .top, .top, .top, .top, .top, .top, .top, .top, .top, .top, .top, .top, .top, .top, .top, .top, .top, .top, .top, .top, .top, .top, .top, .top, .top, .top, .top, .top, .top, .top, .top, .top, .top, .top, .top, .top, .top, .top, .top, .top, .top, .top, .top, .top, .top, .top, .top, .top, .top, .top, .top, .top, .top, .top, .top, .top, .top, .top, .top, .top, .top, .top, .top, .top, .top, .top, .top, .top, .top, .top, .top, .top, .top, .top, .top, .top, .top, .top, .top, .top, .top, .top, .top, .top, .top, .top, .top, .top, .top, .top, .top, .top, .top, .top, .top, .top, .top, .top, .top, .top, .top, .top, .top, .top, .top, .top, .top, .top, .top, .top, .top, .top, .top, .top, .top, .top, .top, .top, .top, .top, .top, .top, .top, .top, .top, .top, .top, .top, .top, .top, .top, .top, .top, .top, .top, .top, .top, .top, .top, .top, .top, .top, .top, .top, .top, .top, .top, .top, .top, .top, .top, .top, .top, .top, .top], [.live ⟨false, 31, 8, 1, fun _ => [.val (.int .i64 v1), .val (.int .i64 v2), .val (.int .i64 v3), .val (.int .i64 v4), .val (.int .i64 v5), .lst 11 v6 none v7, .lst 8 v8 none v9, .lst 5 v10 none v11], none⟩, .mapd none v12 v13, .mapd (some 2) v14 v15]⟩
  (kBlock (law09.WorldRuns.G gt) 5 (kSeq (law09.WorldRuns.G gt) k0 (codeAt [1, 1, 1, 1, 1, 1, 1, 1] (bodyOf Try.f3)) 0 (kFin (law09.WorldRuns.G gt) Try.f3 tB.dec)))
noncomputable def law09.WorldRuns.l0 (gt : Bool) (k0 k1 : Nat) (v1 : Int) (v2 : Int) (v3 : Int) (v4 : Int) (v5 : Int) (v6 : Nat) (v7 : Nat → List AV) (v8 : Nat) (v9 : Nat → List AV) (v10 : Nat) (v11 : Nat → List AV) (v12 : List Int) (v13 : Int → List AV) (v14 : List Int) (v15 : Int → List AV) (v16 : Int) (v17 : Int) (v18 : Nat) (v19 : Nat → List AV) (v20 : Int) (v21 : Int) : Option Bool :=
  evLoop (lookH law09.WorldRuns.hs 0) 3 (ev (law09.WorldRuns.G gt) k0 (codeAt [1, 1, 1, 1, 1, 1, 0, 1, 0, 0] (bodyOf Try.f3)) 0) k1
  ⟨[.top, .top, .top, .ptr 0 0 0, .mp 1, .mp 2, .val (.int .i64 v16), .val (.int .i64 v17), .top, .top, .top, .top, .top, .top, .top, .top, .top, .top, .top, .top, .top, .top, .top, .top, .top, .top, .top, .top, .top, .top, .top, .top, .top, .top, .top, .top, .lst 30 v18 none v19, .val (.int .i64 v20), .val (.int .i64 v21), .top, .top, .top, .top, .top, .top, .top, .top, .top, .top, .top, .top, .top, .top, .top, .top, .top, .top, .top, .top, .top, .top, .top, .top, .top, .top, .top, .top, .top, .top, .top, .top, .top, .top, .top, .top, .top, .top, .top, .top, .top, .top, .top, .top, .top, .top, .top, .top, .top, .top, .top, .top, .top, .top, .top, .top, .top, .top, .top, .top, .top, .top, .top, .top, .top, .top, .top, .top, .top, .top, .top, .top, .top, .top, .top, .top, .top, .top, .top, .top, .top, .top, .top, .top, .top, .top, .top, .top, .top, .top, .top, .top, .top, .top, .top, .top, .top, .top, .top, .top, .top, .top, .top, .top, .top, .top, .top, .top, .top, .top, .top, .top, .top, .top, .top, .top, .top, .top, .top, .top, .top, .top, .top, .top, .top, .top, .top, .top, .top, .top, .top, .top, .top, .top, .top, .top, .top, .top, .top, .top, .top, .top, .top, .top, .top, .top, .top, .top, .top, .top, .top, .top, .top, .top, .top, .top, .top, .top, .top, .top, .top, .top, .top, .top, .top, .top, .top, .top, .top, .top, .top, .top, .top, .top, .top, .top, .top, .top, .top, .top, .top, .top, .top, .top, .top, .top, .top, .top, .top, .top, .top, .top, .top, .top, .top, .top, .top, .top, .top, .top, .top, .top, .top, .top, .top, .top, .top, .top, .top, .top, .top, .top, .top, .top, .top, .top, .top, .top, .top, .top, .top, .top, .top, .top, .top, .top, .top, .top, .top, .top, .top, .top, .top, .top, .top, .top, .top, .top, .top, .top, .top, .top, .top, .top, .top, .top, .top, .top, .top, .top, .top, .top], [.live ⟨false, 31, 8, 1, fun _ => [.val (.int .i64 v1), .val (.int .i64 v2), .val (.int .i64 v3), .val (.int .i64 v4), .val (.int .i64 v5), .lst 11 v6 none v7, .lst 8 v8 none v9, .lst 5 v10 none v11], none⟩, .mapd none v12 v13, .mapd (some 2) v14 v15]⟩
  (kBlock (law09.WorldRuns.G gt) 0 (kSeq (law09.WorldRuns.G gt) k0 (codeAt [1, 1, 1, 1, 1, 1, 1] (bodyOf Try.f3)) 0 (kFin (law09.WorldRuns.G gt) Try.f3 tB.dec)))
noncomputable def law09.WorldRuns.j0 (gt : Bool) (k0 k1 : Nat) (u385 : Int) (u386 : Int) (u387 : Int) (u388 : Int) (u389 : Int) (u390 : Nat) (u391 : Nat → List AV) (u392 : Nat) (u393 : Nat → List AV) (u394 : Nat) (u395 : Nat → List AV) (u396 : List Int) (u397 : Int → List AV) (u398 : List Int) (u399 : Int → List AV) (u400 : Int) (u401 : Int) (u402 : Int) (u403 : Int) (u404 : Int) (u405 : Int) (u406 : Int) (u407 : Int) (u408 : Int) (u409 : Int) (u410 : Int) (u411 : Int) (u412 : Int) (u413 : Int) (u414 : Int) (u415 : Int) (u416 : Int) (u417 : Int) (u418 : Int) (u419 : Int) (u420 : Int) (u421 : Int) (u422 : Int) (u423 : Int) (u424 : Int) (u425 : Int) (u426 : Int) (u427 : Int) (u428 : Int) (u429 : Nat) (u430 : Nat → List AV) (u431 : Int) (u432 : Int) (u433 : Nat) (u434 : Nat → List AV) (u435 : Int) (u436 : Int) : Option Bool :=
  (kSeq (law09.WorldRuns.G gt) k0 (codeAt [1, 1, 1, 1, 1, 1, 0, 1, 0, 0, 1, 1, 0, 0, 1] (bodyOf Try.f3)) 1 (kBlock (law09.WorldRuns.G gt) 1 (kSeq (law09.WorldRuns.G gt) k0 (codeAt [1, 1, 1, 1, 1, 1, 0, 1, 0, 0, 1, 1, 1] (bodyOf Try.f3)) 0 (kLoop (lookH law09.WorldRuns.hs 0) 3 (ev (law09.WorldRuns.G gt) k0 (codeAt [1, 1, 1, 1, 1, 1, 0, 1, 0, 0] (bodyOf Try.f3)) 0) k1 (kBlock (law09.WorldRuns.G gt) 0 (kSeq (law09.WorldRuns.G gt) k0 (codeAt [1, 1, 1, 1, 1, 1, 1] (bodyOf Try.f3)) 0 (kFin (law09.WorldRuns.G gt) Try.f3 tB.dec))))))) .normal ⟨[.top, .top, .top, .ptr 0 0 0, .mp 1, .mp 2, .val (.int .i64 u431), .val (.int .i64 u432), .top, .ptr 3 0 0, .top, .top, .top, .top, .top, .top, .top, .top, .top, .top, .top, .top, .top, .top, .top, .top, .top, .top, .top, .top, .top, .top, .top, .top, .top, .top, .lst 30 u433 none u434, .val (.int .i64 u435), .val (.int .i64 u436), .top, .top, .top, .top, .top, .top, .top, .top, .top, .top, .top, .top, .top, .top, .top, .top, .top, .top, .top, .top, .top, .top, .top, .top, .top, .top, .top, .top, .top, .top, .top, .top, .top, .top, .top, .top, .top, .top, .top, .top, .top, .top, .top, .top, .top, .top, .top, .top, .top, .top, .top, .top, .top, .top, .top, .top, .top, .top, .top, .top, .top, .top, .top, .top, .top, .top, .top, .top, .top, .top, .top, .top, .top, .top, .top, .top, .top, .top, .top, .top, .top, .top, .top, .top, .top, .top, .top, .top, .top, .top, .top, .top, .top, .top, .top, .top, .top, .top, .top, .top, .top, .top, .top, .top, .top, .top, .top, .top, .top, .top, .top, .top, .top, .top, .top, .top, .top, .top, .top, .top, .top, .top, .top, .top, .top, .top, .top, .top, .top, .top, .top, .top, .top, .top, .top, .top, .top, .top, .top, .top, .top, .top, .top, .top, .top, .top, .top, .top, .top, .top, .top, .top, .top, .top, .top, .top, .top, .top, .top, .top, .top, .top, .top, .top, .top, .top, .top, .top, .top, .top, .top, .top, .top, .top, .top, .top, .top, .top, .top, .top, .top, .top, .top, .top, .top, .top, .top, .top, .top, .top, .top, .top, .top, .top, .top, .top, .top, .top, .top, .top, .top, .top, .top, .top, .top, .top, .top, .top, .top, .top, .top, .top, .top, .top, .top, .top, .top, .top, .top, .top, .top, .top, .top, .top, .top, .top, .top, .top, .top, .top, .top, .top, .top, .top, .top, .top, .top, .top, .top, .top, .top, .top, .top, .top, .top, .top, .top, .top, .top, .top, .top, .top], [.live ⟨false, 31, 8, 1, fun _ => [.val (.int .i64 u385), .val (.int .i64 u386), .val (.int .i64 u387), .val (.int .i64 u388), .val (.int .i64 u389), .lst 11 u390 none u391, .lst 8 u392 none u393, .lst 5 u394 none u395], none⟩, .mapd none u396 u397, .mapd (some 2) u398 u399, .live ⟨false, 45, 30, 1, fun _ => [.val (.int .i64 u400), .val (.int .i64 u401), .val (.int .i64 u402), .val (.int .i64 u403), .val (.int .i64 u404), .val (.int .i64 u405), .val (.int .i64 u406), .val (.int .i64 u407), .val (.int .i64 u408), .val (.int .i64 u409), .val (.int .i64 u410), .val (.int .i64 u411), .val (.int .i64 u412), .val (.int .i64 u413), .val (.int .i64 u414), .val (.int .i64 u415), .val (.int .i64 u416), .val (.int .i64 u417), .val (.int .i64 u418), .val (.int .i64 u419), .val (.int .i64 u420), .val (.int .i64 u421), .val (.int .i64 u422), .val (.int .i64 u423), .val (.int .i64 u424), .val (.int .i64 u425), .val (.int .i64 u426), .val (.int .i64 u427), .val (.int .i64 u428), .lst 2 u429 none u430], none⟩]⟩
noncomputable def law09.WorldRuns.j1 (gt : Bool) (k0 k1 : Nat) (u437 : Int) (u438 : Int) (u439 : Int) (u440 : Int) (u441 : Int) (u442 : Nat) (u443 : Nat → List AV) (u444 : Nat) (u445 : Nat → List AV) (u446 : Nat) (u447 : Nat → List AV) (u448 : List Int) (u449 : Int → List AV) (u450 : List Int) (u451 : Int → List AV) (u452 : Int) (u453 : Int) (u454 : Int) (u455 : Int) (u456 : Int) (u457 : Int) (u458 : Int) (u459 : Int) (u460 : Int) (u461 : Int) (u462 : Int) (u463 : Int) (u464 : Int) (u465 : Int) (u466 : Int) (u467 : Int) (u468 : Int) (u469 : Int) (u470 : Int) (u471 : Int) (u472 : Int) (u473 : Int) (u474 : Int) (u475 : Int) (u476 : Int) (u477 : Int) (u478 : Int) (u479 : Int) (u480 : Int) (u481 : Nat) (u482 : Nat → List AV) (u483 : Int) (u484 : Int) (u485 : Int) (u486 : Int) (u487 : Bool) (u488 : Nat) (u489 : Nat → List AV) (u490 : Int) (u491 : Int) : Option Bool :=
  (kSeq (law09.WorldRuns.G gt) k0 (codeAt [1, 1, 1, 1, 1, 1, 0, 1, 0, 0, 1, 1, 0, 0, 1, 1, 1] (bodyOf Try.f3)) 1 (kBlock (law09.WorldRuns.G gt) 1 (kSeq (law09.WorldRuns.G gt) k0 (codeAt [1, 1, 1, 1, 1, 1, 0, 1, 0, 0, 1, 1, 1] (bodyOf Try.f3)) 0 (kLoop (lookH law09.WorldRuns.hs 0) 3 (ev (law09.WorldRuns.G gt) k0 (codeAt [1, 1, 1, 1, 1, 1, 0, 1, 0, 0] (bodyOf Try.f3)) 0) k1 (kBlock (law09.WorldRuns.G gt) 0 (kSeq (law09.WorldRuns.G gt) k0 (codeAt [1, 1, 1, 1, 1, 1, 1] (bodyOf Try.f3)) 0 (kFin (law09.WorldRuns.G gt) Try.f3 tB.dec))))))) .normal ⟨[.top, .top, .top, .ptr 0 0 0, .mp 1, .mp 2, .val (.int .i64 u483), .val (.int .i64 u484), .top, .ptr 3 0 0, .val (.int .i64 u485), .val (.int .i64 u486), .val (.bool u487), .top, .top, .top, .top, .top, .top, .top, .top, .top, .top, .top, .top, .top, .top, .top, .top, .top, .top, .top, .top, .top, .top, .top, .lst 30 u488 none u489, .val (.int .i64 u490), .val (.int .i64 u491), .top, .top, .top, .top, .top, .top, .top, .top, .top, .top, .top, .top, .top, .top, .top, .top, .top, .top, .top, .top, .top, .top, .top, .top, .top, .top, .top, .top, .top, .top, .top, .top, .top, .top, .top, .top, .top, .top, .top, .top, .top, .top, .top, .top, .top, .top, .top, .top, .top, .top, .top, .top, .top, .top, .top, .top, .top, .top, .top, .top, .top, .top, .top, .top, .top, .top, .top, .top, .top, .top, .top, .top, .top, .top, .top, .top, .top, .top, .top, .top, .top, .top, .top, .top, .top, .top, .top, .top, .top, .top, .top, .top, .top, .top, .top, .top, .top, .top, .top, .top, .top, .top, .top, .top, .top, .top, .top, .top, .top, .top, .top, .top, .top, .top, .top, .top, .top, .top, .top, .top, .top, .top, .top, .top, .top, .top, .top, .top, .top, .top, .top, .top, .top, .top, .top, .top, .top, .top, .top, .top, .top, .top, .top, .top, .top, .top, .top, .top, .top, .top, .top, .top, .top, .top, .top, .top, .top, .top, .top, .top, .top, .top, .top, .top, .top, .top, .top, .top, .top, .top, .top, .top, .top, .top, .top, .top, .top, .top, .top, .top, .top, .top, .top, .top, .top, .top, .top, .top, .top, .top, .top, .top, .top, .top, .top, .top, .top, .top, .top, .top, .top, .top, .top, .top, .top, .top, .top, .top, .top, .top, .top, .top, .top, .top, .top, .top, .top, .top, .top, .top, .top, .top, .top, .top, .top, .top, .top, .top, .top, .top, .top, .top, .top, .top, .top, .top, .top, .top, .top, .top, .top, .top, .top, .top, .top, .top, .top, .top, .top, .top, .top, .top], [.live ⟨false, 31, 8, 1, fun _ => [.val (.int .i64 u437), .val (.int .i64 u438), .val (.int .i64 u439), .val (.int .i64 u440), .val (.int .i64 u441), .lst 11 u442 none u443, .lst 8 u444 none u445, .lst 5 u446 none u447], none⟩, .mapd none u448 u449, .mapd (some 2) u450 u451, .live ⟨false, 45, 30, 1, fun _ => [.val (.int .i64 u452), .val (.int .i64 u453), .val (.int .i64 u454), .val (.int .i64 u455), .val (.int .i64 u456), .val (.int .i64 u457), .val (.int .i64 u458), .val (.int .i64 u459), .val (.int .i64 u460), .val (.int .i64 u461), .val (.int .i64 u462), .val (.int .i64 u463), .val (.int .i64 u464), .val (.int .i64 u465), .val (.int .i64 u466), .val (.int .i64 u467), .val (.int .i64 u468), .val (.int .i64 u469), .val (.int .i64 u470), .val (.int .i64 u471), .val (.int .i64 u472), .val (.int .i64 u473), .val (.int .i64 u474), .val (.int .i64 u475), .val (.int .i64 u476), .val (.int .i64 u477), .val (.int .i64 u478), .val (.int .i64 u479), .val (.int .i64 u480), .lst 2 u481 none u482], none⟩, .dead]⟩
noncomputable def law09.WorldRuns.j2 (gt : Bool) (k0 k1 : Nat) (u492 : Int) (u493 : Int) (u494 : Int) (u495 : Int) (u496 : Int) (u497 : Nat) (u498 : Nat → List AV) (u499 : Nat) (u500 : Nat → List AV) (u501 : Nat) (u502 : Nat → List AV) (u503 : List Int) (u504 : Int → List AV) (u505 : List Int) (u506 : Int → List AV) (u507 : Int) (u508 : Int) (u509 : Nat) (u510 : Nat → List AV) (u511 : Int) (u512 : Int) : Option Bool :=
  (kSeq (law09.WorldRuns.G gt) k0 (codeAt [1, 1, 1, 1, 1, 1, 0, 1, 0, 0, 1, 1, 0, 0, 1, 1, 1, 1] (bodyOf Try.f3)) 1 (kBlock (law09.WorldRuns.G gt) 1 (kSeq (law09.WorldRuns.G gt) k0 (codeAt [1, 1, 1, 1, 1, 1, 0, 1, 0, 0, 1, 1, 1] (bodyOf Try.f3)) 0 (kLoop (lookH law09.WorldRuns.hs 0) 3 (ev (law09.WorldRuns.G gt) k0 (codeAt [1, 1, 1, 1, 1, 1, 0, 1, 0, 0] (bodyOf Try.f3)) 0) k1 (kBlock (law09.WorldRuns.G gt) 0 (kSeq (law09.WorldRuns.G gt) k0 (codeAt [1, 1, 1, 1, 1, 1, 1] (bodyOf Try.f3)) 0 (kFin (law09.WorldRuns.G gt) Try.f3 tB.dec))))))) .normal ⟨[.top, .top, .top, .ptr 0 0 0, .mp 1, .mp 2, .val (.int .i64 u507), .val (.int .i64 u508), .top, .top, .top, .top, .top, .top, .top, .top, .top, .top, .top, .top, .top, .top, .top, .top, .top, .top, .top, .top, .top, .top, .top, .top, .top, .top, .top, .top, .lst 30 u509 none u510, .val (.int .i64 u511), .val (.int .i64 u512), .top, .top, .top, .top, .top, .top, .top, .top, .top, .top, .top, .top, .top, .top, .top, .top, .top, .top, .top, .top, .top, .top, .top, .top, .top, .top, .top, .top, .top, .top, .top, .top, .top, .top, .top, .top, .top, .top, .top, .top, .top, .top, .top, .top, .top, .top, .top, .top, .top, .top, .top, .top, .top, .top, .top, .top, .top, .top, .top, .top, .top, .top, .top, .top, .top, .top, .top, .top, .top, .top, .top, .top, .top, .top, .top, .top, .top, .top, .top, .top, .top, .top, .top, .top, .top, .top, .top, .top, .top, .top, .top, .top, .top, .top, .top, .top, .top, .top, .top, .top, .top, .top, .top, .top, .top, .top, .top, .top, .top, .top, .top, .top, .top, .top, .top, .top, .top, .top, .top, .top, .top, .top, .top, .top, .top, .top, .top, .top, .top, .top, .top, .top, .top, .top, .top, .top, .top, .top, .top, .top, .top, .top, .top, .top, .top, .top, .top, .top, .top, .top, .top, .top, .top, .top, .top, .top, .top, .top, .top, .top, .top, .top, .top, .top, .top, .top, .top, .top, .top, .top, .top, .top, .top, .top, .top, .top, .top, .top, .top, .top, .top, .top, .top, .top, .top, .top, .top, .top, .top, .top, .top, .top, .top, .top, .top, .top, .top, .top, .top, .top, .top, .top, .top, .top, .top, .top, .top, .top, .top, .top, .top, .top, .top, .top, .top, .top, .top, .top, .top, .top, .top, .top, .top, .top, .top, .top, .top, .top, .top, .top, .top, .top, .top, .top, .top, .top, .top, .top, .top, .top, .top, .top, .top, .top, .top, .top, .top, .top, .top, .top, .top, .top], [.live ⟨false, 31, 8, 1, fun _ => [.val (.int .i64 u492), .val (.int .i64 u493), .val (.int .i64 u494), .val (.int .i64 u495), .val (.int .i64 u496), .lst 11 u497 none u498, .lst 8 u499 none u500, .lst 5 u501 none u502], none⟩, .mapd none u503 u504, .mapd (some 2) u505 u506, .dead, .dead, .dead]⟩
noncomputable def law09.WorldRuns.j3 (gt : Bool) (k0 k1 : Nat) (u513 : Int) (u514 : Int) (u515 : Int) (u516 : Int) (u517 : Int) (u518 : Nat) (u519 : Nat → List AV) (u520 : Nat) (u521 : Nat → List AV) (u522 : Nat) (u523 : Nat → List AV) (u524 : List Int) (u525 : Int → List AV) (u526 : List Int) (u527 : Int → List AV) (u528 : Int) (u529 : Int) (u530 : Int) (u531 : Int) (u532 : Bool) (u533 : Nat) (u534 : Nat → List AV) (u535 : Int) (u536 : Int) : Option Bool :=
  (kSeq (law09.WorldRuns.G gt) k0 (codeAt [1, 1, 1, 1, 1, 1, 0, 1, 0, 0, 1, 1, 0, 0, 1, 1, 1, 0, 1, 0, 1, 1, 1, 1, 1, 1, 0, 1] (bodyOf Try.f3)) 2 (kSeq (law09.WorldRuns.G gt) k0 (codeAt [1, 1, 1, 1, 1, 1, 0, 1, 0, 0, 1, 1, 0, 0, 1, 1, 1, 0, 1, 0, 1, 1, 1, 1, 1, 1, 1] (bodyOf Try.f3)) 2 (kBlock (law09.WorldRuns.G gt) 2 (kSeq (law09.WorldRuns.G gt) k0 (codeAt [1, 1, 1, 1, 1, 1, 0, 1, 0, 0, 1, 1, 0, 0, 1, 1, 1, 1] (bodyOf Try.f3)) 1 (kBlock (law09.WorldRuns.G gt) 1 (kSeq (law09.WorldRuns.G gt) k0 (codeAt [1, 1, 1, 1, 1, 1, 0, 1, 0, 0, 1, 1, 1] (bodyOf Try.f3)) 0 (kLoop (lookH law09.WorldRuns.hs 0) 3 (ev (law09.WorldRuns.G gt) k0 (codeAt [1, 1, 1, 1, 1, 1, 0, 1, 0, 0] (bodyOf Try.f3)) 0) k1 (kBlock (law09.WorldRuns.G gt) 0 (kSeq (law09.WorldRuns.G gt) k0 (codeAt [1, 1, 1, 1, 1, 1, 1] (bodyOf Try.f3)) 0 (kFin (law09.WorldRuns.G gt) Try.f3 tB.dec)))))))))) .normal ⟨[.top, .top, .top, .ptr 0 0 0, .mp 1, .mp 2, .val (.int .i64 u528), .val (.int .i64 u529), .top, .top, .val (.int .i64 u530), .val (.int .i64 u531), .top, .top, .top, .top, .top, .top, .top, .top, .val (.bool u532), .top, .top, .top, .top, .top, .top, .top, .top, .top, .top, .top, .top, .top, .top, .top, .lst 30 u533 none u534, .val (.int .i64 u535), .val (.int .i64 u536), .top, .top, .top, .top, .top, .top, .top, .top, .top, .top, .top, .top, .top, .top, .top, .top, .top, .top, .top, .top, .top, .top, .top, .top, .top, .top, .top, .top, .top, .top, .top, .top, .top, .top, .top, .top, .top, .top, .top, .top, .top, .top, .top, .top, .top, .top, .top, .top, .top, .top, .top, .top, .top, .top, .top, .top, .top, .top, .top, .top, .top, .top, .top, .top, .top, .top, .top, .top, .top, .top, .top, .top, .top, .top, .top, .top, .top, .top, .top, .top, .top, .top, .top, .top, .top, .top, .top, .top, .top, .top, .top, .top, .top, .top, .top, .top, .top, .top, .top, .top, .top, .top, .top, .top, .top, .top, .top, .top, .top, .top, .top, .top, .top, .top, .top, .top, .top, .top, .top, .top, .top, .top, .top, .top, .top, .top, .top, .top, .top, .top, .top, .top, .top, .top, .top, .top, .top, .top, .top, .top, .top, .top, .top, .top, .top, .top, .top, .top, .top, .top, .top, .top, .top, .top, .top, .top, .top, .top, .top, .top, .top, .top, .top, .top, .top, .top, .top, .top, .top, .top, .top, .top, .top, .top, .top, .top, .top, .top, .top, .top, .top, .top, .top, .top, .top, .top, .top, .top, .top, .top, .top, .top, .top, .top, .top, .top, .top, .top, .top, .top, .top, .top, .top, .top, .top, .top, .top, .top, .top, .top, .top, .top, .top, .top, .top, .top, .top, .top, .top, .top, .top, .top, .top, .top, .top, .top, .top, .top, .top, .top, .top, .top, .top, .top, .top, .top, .top, .top, .top, .top, .top, .top, .top, .top, .top, .top, .top, .top, .top, .top, .top, .top], [.live ⟨false, 31, 8, 1, fun _ => [.val (.int .i64 u513), .val (.int .i64 u514), .val (.int .i64 u515), .val (.int .i64 u516), .val (.int .i64 u517), .lst 11 u518 none u519, .lst 8 u520 none u521, .lst 5 u522 none u523], none⟩, .mapd none u524 u525, .mapd (some 2) u526 u527, .dead, .dead]⟩
theorem law09.WorldRuns.j0_eq (gt : Bool) (k0 k1 : Nat) (u385 : Int) (u386 : Int) (u387 : Int) (u388 : Int) (u389 : Int) (u390 : Nat) (u391 : Nat → (Int × Int × Int × Int × Int × Int × Int × Int × Int × Int × (Nat × (Nat → List AV)))) (u392 : Nat) (u393 : Nat → (Int × Int × Int × Int × Int × Int × Int × Int)) (u394 : Nat) (u395 : Nat → (Int × Int × Int × Int × Int)) (u396 : List Int) (u397 : Int → Int) (u398 : List Int) (u399 : Int → (Int × Int)) (u400 : Int) (u401 : Int) (u402 : Int) (u403 : Int) (u404 : Int) (u405 : Int) (u406 : Int) (u407 : Int) (u408 : Int) (u409 : Int) (u410 : Int) (u411 : Int) (u412 : Int) (u413 : Int) (u414 : Int) (u415 : Int) (u416 : Int) (u417 : Int) (u418 : Int) (u419 : Int) (u420 : Int) (u421 : Int) (u422 : Int) (u423 : Int) (u424 : Int) (u425 : Int) (u426 : Int) (u427 : Int) (u428 : Int) (u429 : Nat) (u430 : Nat → List AV) (u431 : Int) (u432 : Int) (u433 : Nat) (u434 : Nat → (Int × Int × Int × Int × Int × Int × Int × Int × Int × Int × Int × Int × Int × Int × Int × Int × Int × Int × Int × Int × Int × Int × Int × Int × Int × Int × Int × Int × Int × (Nat × (Nat → List AV)))) (u435 : Int) (u436 : Int) : law09.WorldRuns.j0 gt k0 k1 u385 u386 u387 u388 u389 u390 (fun i => RiiiiiiiiiiL2.enc (u391 i)) u392 (fun i => Riiiiiiii.enc (u393 i)) u394 (fun i => Riiiii.enc (u395 i)) u396 (fun i => Ri.enc (u397 i)) u398 (fun i => Rii.enc (u399 i)) u400 u401 u402 u403 u404 u405 u406 u407 u408 u409 u410 u411 u412 u413 u414 u415 u416 u417 u418 u419 u420 u421 u422 u423 u424 u425 u426 u427 u428 u429 u430 u431 u432 u433 (fun i => RiiiiiiiiiiiiiiiiiiiiiiiiiiiiiL2.enc (u434 i)) u435 u436 =
  bif (decide (((u429 : Nat) : Int) > 12)) then
    some true
  else
  bif ((Go.bits .and .i64 u400 7) == 4) then
    bif ((Go.bits .and .i64 u400 7) == 4) then
      (law09.Deed.Joint.f (u400, u401, u402, u403, u404, u405, u406, u407, u408, u409, u410, u411, u412, u413, u414, u415, u416, u417, u418, u419, u420, u421, u422, u423, u424, u425, u426, u427, u428, (u429, u430))).bind fun r3 =>
      (world.AddJoint.f ((u385, u386, u387, u388, u389, (u390, (fun i => RiiiiiiiiiiL2.enc (u391 i))), (u392, (fun i => Riiiiiiii.enc (u393 i))), (u394, (fun i => Riiiii.enc (u395 i)))), (r3.1, r3.2.1, r3.2.2.1, r3.2.2.2.1, r3.2.2.2.2.1, r3.2.2.2.2.2.1, r3.2.2.2.2.2.2.1, r3.2.2.2.2.2.2.2))).bind fun r4 =>
      gateE gt (law09.WorldRuns.j1 gt k0 k1 r4.2.1 r4.2.2.1 r4.2.2.2.1 r4.2.2.2.2.1 r4.2.2.2.2.2.1 r4.2.2.2.2.2.2.1.1 (fun i => RiiiiiiiiiiL2.enc (r4.2.2.2.2.2.2.1.2 i)) r4.2.2.2.2.2.2.2.1.1 (fun i => Riiiiiiii.enc (r4.2.2.2.2.2.2.2.1.2 i)) r4.2.2.2.2.2.2.2.2.1 (fun i => Riiiii.enc (r4.2.2.2.2.2.2.2.2.2 i)) u396 (fun i => Ri.enc (u397 i)) u398 (fun i => Rii.enc (u399 i)) u400 u401 u402 u403 u404 u405 u406 u407 u408 u409 u410 u411 u412 u413 u414 u415 u416 u417 u418 u419 u420 u421 u422 u423 u424 u425 u426 u427 u428 u429 u430 u431 u432 r4.1.1 r4.1.2 false u433 (fun i => RiiiiiiiiiiiiiiiiiiiiiiiiiiiiiL2.enc (u434 i)) u435 u436)
    else
    bif ((Go.bits .and .i64 u400 7) == 6) then
      (world.RemoveBody.f ((u385, u386, u387, u388, u389, (u390, (fun i => RiiiiiiiiiiL2.enc (u391 i))), (u392, (fun i => Riiiiiiii.enc (u393 i))), (u394, (fun i => Riiiii.enc (u395 i)))), (Go.bits .and .i64 u412 15))).bind fun r15 =>
      gateE gt (law09.WorldRuns.j1 gt k0 k1 r15.2.1 r15.2.2.1 r15.2.2.2.1 r15.2.2.2.2.1 r15.2.2.2.2.2.1 r15.2.2.2.2.2.2.1.1 (fun i => RiiiiiiiiiiL2.enc (r15.2.2.2.2.2.2.1.2 i)) r15.2.2.2.2.2.2.2.1.1 (fun i => Riiiiiiii.enc (r15.2.2.2.2.2.2.2.1.2 i)) r15.2.2.2.2.2.2.2.2.1 (fun i => Riiiii.enc (r15.2.2.2.2.2.2.2.2.2 i)) u396 (fun i => Ri.enc (u397 i)) u398 (fun i => Rii.enc (u399 i)) u400 u401 u402 u403 u404 u405 u406 u407 u408 u409 u410 u411 u412 u413 u414 u415 u416 u417 u418 u419 u420 u421 u422 u423 u424 u425 u426 u427 u428 u429 u430 u431 u432 0 0 r15.1 u433 (fun i => RiiiiiiiiiiiiiiiiiiiiiiiiiiiiiL2.enc (u434 i)) u435 u436)
    else
    bif ((Go.bits .and .i64 u400 7) == 3) then
      (world.RemoveJoint.f ((u385, u386, u387, u388, u389, (u390, (fun i => RiiiiiiiiiiL2.enc (u391 i))), (u392, (fun i => Riiiiiiii.enc (u393 i))), (u394, (fun i => Riiiii.enc (u395 i)))), (Go.bits .and .i64 u412 15))).bind fun r16 =>
      gateE gt (law09.WorldRuns.j1 gt k0 k1 r16.2.1 r16.2.2.1 r16.2.2.2.1 r16.2.2.2.2.1 r16.2.2.2.2.2.1 r16.2.2.2.2.2.2.1.1 (fun i => RiiiiiiiiiiL2.enc (r16.2.2.2.2.2.2.1.2 i)) r16.2.2.2.2.2.2.2.1.1 (fun i => Riiiiiiii.enc (r16.2.2.2.2.2.2.2.1.2 i)) r16.2.2.2.2.2.2.2.2.1 (fun i => Riiiii.enc (r16.2.2.2.2.2.2.2.2.2 i)) u396 (fun i => Ri.enc (u397 i)) u398 (fun i => Rii.enc (u399 i)) u400 u401 u402 u403 u404 u405 u406 u407 u408 u409 u410 u411 u412 u413 u414 u415 u416 u417 u418 u419 u420 u421 u422 u423 u424 u425 u426 u427 u428 u429 u430 u431 u432 0 0 r16.1 u433 (fun i => RiiiiiiiiiiiiiiiiiiiiiiiiiiiiiL2.enc (u434 i)) u435 u436)
    else
    (law09.Deed.Body.f (u400, u401, u402, u403, u404, u405, u406, u407, u408, u409, u410, u411, u412, u413, u414, u415, u416, u417, u418, u419, u420, u421, u422, u423, u424, u425, u426, u427, u428, (u429, u430))).bind fun r17 =>
    (world.AddBody.f ((u385, u386, u387, u388, u389, (u390, (fun i => RiiiiiiiiiiL2.enc (u391 i))), (u392, (fun i => Riiiiiiii.enc (u393 i))), (u394, (fun i => Riiiii.enc (u395 i)))), (r17.1, r17.2.1, r17.2.2.1, r17.2.2.2.1, r17.2.2.2.2.1, r17.2.2.2.2.2.1, r17.2.2.2.2.2.2.1, r17.2.2.2.2.2.2.2.1, r17.2.2.2.2.2.2.2.2.1, r17.2.2.2.2.2.2.2.2.2.1, (r17.2.2.2.2.2.2.2.2.2.2.1, (fun i => Rii.enc (r17.2.2.2.2.2.2.2.2.2.2.2 i)))))).bind fun r18 =>
    gateE gt (law09.WorldRuns.j1 gt k0 k1 r18.2.1 r18.2.2.1 r18.2.2.2.1 r18.2.2.2.2.1 r18.2.2.2.2.2.1 r18.2.2.2.2.2.2.1.1 (fun i => RiiiiiiiiiiL2.enc (r18.2.2.2.2.2.2.1.2 i)) r18.2.2.2.2.2.2.2.1.1 (fun i => Riiiiiiii.enc (r18.2.2.2.2.2.2.2.1.2 i)) r18.2.2.2.2.2.2.2.2.1 (fun i => Riiiii.enc (r18.2.2.2.2.2.2.2.2.2 i)) u396 (fun i => Ri.enc (u397 i)) u398 (fun i => Rii.enc (u399 i)) u400 u401 u402 u403 u404 u405 u406 u407 u408 u409 u410 u411 u412 u413 u414 u415 u416 u417 u418 u419 u420 u421 u422 u423 u424 u425 u426 u427 u428 u429 u430 u431 u432 r18.1.1 r18.1.2 false u433 (fun i => RiiiiiiiiiiiiiiiiiiiiiiiiiiiiiL2.enc (u434 i)) u435 u436)
  else
  bif ((Go.bits .and .i64 u400 7) == 5) then
    (law09.Deed.Joint.f (u400, u401, u402, u403, u404, u405, u406, u407, u408, u409, u410, u411, u412, u413, u414, u415, u416, u417, u418, u419, u420, u421, u422, u423, u424, u425, u426, u427, u428, (u429, u430))).bind fun r19 =>
    (world.AddJoint.f ((u385, u386, u387, u388, u389, (u390, (fun i => RiiiiiiiiiiL2.enc (u391 i))), (u392, (fun i => Riiiiiiii.enc (u393 i))), (u394, (fun i => Riiiii.enc (u395 i)))), (r19.1, r19.2.1, r19.2.2.1, r19.2.2.2.1, r19.2.2.2.2.1, r19.2.2.2.2.2.1, r19.2.2.2.2.2.2.1, r19.2.2.2.2.2.2.2))).bind fun r20 =>
    gateE gt (law09.WorldRuns.j1 gt k0 k1 r20.2.1 r20.2.2.1 r20.2.2.2.1 r20.2.2.2.2.1 r20.2.2.2.2.2.1 r20.2.2.2.2.2.2.1.1 (fun i => RiiiiiiiiiiL2.enc (r20.2.2.2.2.2.2.1.2 i)) r20.2.2.2.2.2.2.2.1.1 (fun i => Riiiiiiii.enc (r20.2.2.2.2.2.2.2.1.2 i)) r20.2.2.2.2.2.2.2.2.1 (fun i => Riiiii.enc (r20.2.2.2.2.2.2.2.2.2 i)) u396 (fun i => Ri.enc (u397 i)) u398 (fun i => Rii.enc (u399 i)) u400 u401 u402 u403 u404 u405 u406 u407 u408 u409 u410 u411 u412 u413 u414 u415 u416 u417 u418 u419 u420 u421 u422 u423 u424 u425 u426 u427 u428 u429 u430 u431 u432 r20.1.1 r20.1.2 false u433 (fun i => RiiiiiiiiiiiiiiiiiiiiiiiiiiiiiL2.enc (u434 i)) u435 u436)
  else
  bif ((Go.bits .and .i64 u400 7) == 6) then
    (world.RemoveBody.f ((u385, u386, u387, u388, u389, (u390, (fun i => RiiiiiiiiiiL2.enc (u391 i))), (u392, (fun i => Riiiiiiii.enc (u393 i))), (u394, (fun i => Riiiii.enc (u395 i)))), (Go.bits .and .i64 u412 15))).bind fun r21 =>
    gateE gt (law09.WorldRuns.j1 gt k0 k1 r21.2.1 r21.2.2.1 r21.2.2.2.1 r21.2.2.2.2.1 r21.2.2.2.2.2.1 r21.2.2.2.2.2.2.1.1 (fun i => RiiiiiiiiiiL2.enc (r21.2.2.2.2.2.2.1.2 i)) r21.2.2.2.2.2.2.2.1.1 (fun i => Riiiiiiii.enc (r21.2.2.2.2.2.2.2.1.2 i)) r21.2.2.2.2.2.2.2.2.1 (fun i => Riiiii.enc (r21.2.2.2.2.2.2.2.2.2 i)) u396 (fun i => Ri.enc (u397 i)) u398 (fun i => Rii.enc (u399 i)) u400 u401 u402 u403 u404 u405 u406 u407 u408 u409 u410 u411 u412 u413 u414 u415 u416 u417 u418 u419 u420 u421 u422 u423 u424 u425 u426 u427 u428 u429 u430 u431 u432 0 0 r21.1 u433 (fun i => RiiiiiiiiiiiiiiiiiiiiiiiiiiiiiL2.enc (u434 i)) u435 u436)
  else
  bif ((Go.bits .and .i64 u400 7) == 3) then
    (world.RemoveJoint.f ((u385, u386, u387, u388, u389, (u390, (fun i => RiiiiiiiiiiL2.enc (u391 i))), (u392, (fun i => Riiiiiiii.enc (u393 i))), (u394, (fun i => Riiiii.enc (u395 i)))), (Go.bits .and .i64 u412 15))).bind fun r22 =>
    gateE gt (law09.WorldRuns.j1 gt k0 k1 r22.2.1 r22.2.2.1 r22.2.2.2.1 r22.2.2.2.2.1 r22.2.2.2.2.2.1 r22.2.2.2.2.2.2.1.1 (fun i => RiiiiiiiiiiL2.enc (r22.2.2.2.2.2.2.1.2 i)) r22.2.2.2.2.2.2.2.1.1 (fun i => Riiiiiiii.enc (r22.2.2.2.2.2.2.2.1.2 i)) r22.2.2.2.2.2.2.2.2.1 (fun i => Riiiii.enc (r22.2.2.2.2.2.2.2.2.2 i)) u396 (fun i => Ri.enc (u397 i)) u398 (fun i => Rii.enc (u399 i)) u400 u401 u402 u403 u404 u405 u406 u407 u408 u409 u410 u411 u412 u413 u414 u415 u416 u417 u418 u419 u420 u421 u422 u423 u424 u425 u426 u427 u428 u429 u430 u431 u432 0 0 r22.1 u433 (fun i => RiiiiiiiiiiiiiiiiiiiiiiiiiiiiiL2.enc (u434 i)) u435 u436)
  else
  (law09.Deed.Body.f (u400, u401, u402, u403, u404, u405, u406, u407, u408, u409, u410, u411, u412, u413, u414, u415, u416, u417, u418, u419, u420, u421, u422, u423, u424, u425, u426, u427, u428, (u429, u430))).bind fun r23 =>
  (world.AddBody.f ((u385, u386, u387, u388, u389, (u390, (fun i => RiiiiiiiiiiL2.enc (u391 i))), (u392, (fun i => Riiiiiiii.enc (u393 i))), (u394, (fun i => Riiiii.enc (u395 i)))), (r23.1, r23.2.1, r23.2.2.1, r23.2.2.2.1, r23.2.2.2.2.1, r23.2.2.2.2.2.1, r23.2.2.2.2.2.2.1, r23.2.2.2.2.2.2.2.1, r23.2.2.2.2.2.2.2.2.1, r23.2.2.2.2.2.2.2.2.2.1, (r23.2.2.2.2.2.2.2.2.2.2.1, (fun i => Rii.enc (r23.2.2.2.2.2.2.2.2.2.2.2 i)))))).bind fun r24 =>
  gateE gt (law09.WorldRuns.j1 gt k0 k1 r24.2.1 r24.2.2.1 r24.2.2.2.1 r24.2.2.2.2.1 r24.2.2.2.2.2.1 r24.2.2.2.2.2.2.1.1 (fun i => RiiiiiiiiiiL2.enc (r24.2.2.2.2.2.2.1.2 i)) r24.2.2.2.2.2.2.2.1.1 (fun i => Riiiiiiii.enc (r24.2.2.2.2.2.2.2.1.2 i)) r24.2.2.2.2.2.2.2.2.1 (fun i => Riiiii.enc (r24.2.2.2.2.2.2.2.2.2 i)) u396 (fun i => Ri.enc (u397 i)) u398 (fun i => Rii.enc (u399 i)) u400 u401 u402 u403 u404 u405 u406 u407 u408 u409 u410 u411 u412 u413 u414 u415 u416 u417 u418 u419 u420 u421 u422 u423 u424 u425 u426 u427 u428 u429 u430 u431 u432 r24.1.1 r24.1.2 false u433 (fun i => RiiiiiiiiiiiiiiiiiiiiiiiiiiiiiL2.enc (u434 i)) u435 u436) := by kernel_rfl
theorem law09.WorldRuns.j1_eq (gt : Bool) (k0 k1 : Nat) (u437 : Int) (u438 : Int) (u439 : Int) (u440 : Int) (u441 : Int) (u442 : Nat) (u443 : Nat → (Int × Int × Int × Int × Int × Int × Int × Int × Int × Int × (Nat × (Nat → List AV)))) (u444 : Nat) (u445 : Nat → (Int × Int × Int × Int × Int × Int × Int × Int)) (u446 : Nat) (u447 : Nat → (Int × Int × Int × Int × Int)) (u448 : List Int) (u449 : Int → Int) (u450 : List Int) (u451 : Int → (Int × Int)) (u452 : Int) (u453 : Int) (u454 : Int) (u455 : Int) (u456 : Int) (u457 : Int) (u458 : Int) (u459 : Int) (u460 : Int) (u461 : Int) (u462 : Int) (u463 : Int) (u464 : Int) (u465 : Int) (u466 : Int) (u467 : Int) (u468 : Int) (u469 : Int) (u470 : Int) (u471 : Int) (u472 : Int) (u473 : Int) (u474 : Int) (u475 : Int) (u476 : Int) (u477 : Int) (u478 : Int) (u479 : Int) (u480 : Int) (u481 : Nat) (u482 : Nat → List AV) (u483 : Int) (u484 : Int) (u485 : Int) (u486 : Int) (u487 : Bool) (u488 : Nat) (u489 : Nat → (Int × Int × Int × Int × Int × Int × Int × Int × Int × Int × Int × Int × Int × Int × Int × Int × Int × Int × Int × Int × Int × Int × Int × Int × Int × Int × Int × Int × Int × (Nat × (Nat → List AV)))) (u490 : Int) (u491 : Int) : law09.WorldRuns.j1 gt k0 k1 u437 u438 u439 u440 u441 u442 (fun i => RiiiiiiiiiiL2.enc (u443 i)) u444 (fun i => Riiiiiiii.enc (u445 i)) u446 (fun i => Riiiii.enc (u447 i)) u448 (fun i => Ri.enc (u449 i)) u450 (fun i => Rii.enc (u451 i)) u452 u453 u454 u455 u456 u457 u458 u459 u460 u461 u462 u463 u464 u465 u466 u467 u468 u469 u470 u471 u472 u473 u474 u475 u476 u477 u478 u479 u480 u481 u482 u483 u484 u485 u486 u487 u488 (fun i => RiiiiiiiiiiiiiiiiiiiiiiiiiiiiiL2.enc (u489 i)) u490 u491 =
  bif ((Go.bits .and .i64 u452 7) == 4) then
    bif ((Go.bits .and .i64 u452 7) == 4) then
      (law09.Deed.Joint.f (u452, u453, u454, u455, u456, u457, u458, u459, u460, u461, u462, u463, u464, u465, u466, u467, u468, u469, u470, u471, u472, u473, u474, u475, u476, u477, u478, u479, u480, (u481, u482))).bind fun r5 =>
      (law09.joins.f (r5.1, r5.2.1, r5.2.2.1, r5.2.2.2.1, r5.2.2.2.2.1, r5.2.2.2.2.2.1, r5.2.2.2.2.2.2.1, r5.2.2.2.2.2.2.2)).bind fun r6 =>
      bif (!r6) then
        bif (u486 != 2) then
          some false
        else
        bif (u486 == 0) then
          bif (u485 != u484) then
            some false
          else
          bif (u486 != 0) then
            bif (u485 != 0) then
              some false
            else
            bif (u486 == 0) then
              gateE gt (law09.WorldRuns.j2 gt k0 k1 u437 u438 u439 u440 u441 u442 (fun i => RiiiiiiiiiiL2.enc (u443 i)) u444 (fun i => Riiiiiiii.enc (u445 i)) u446 (fun i => Riiiii.enc (u447 i)) u448 (fun i => Ri.enc (u449 i)) (putI u450 u485) (fun i => bif i == u485 then Rii.enc (r5.2.1, r5.2.2.1) else Rii.enc (u451 i)) u483 (IntKind.i64.wrap (u484 + 1)) u488 (fun i => RiiiiiiiiiiiiiiiiiiiiiiiiiiiiiL2.enc (u489 i)) u490 u491)
            else
            gateE gt (law09.WorldRuns.j2 gt k0 k1 u437 u438 u439 u440 u441 u442 (fun i => RiiiiiiiiiiL2.enc (u443 i)) u444 (fun i => Riiiiiiii.enc (u445 i)) u446 (fun i => Riiiii.enc (u447 i)) u448 (fun i => Ri.enc (u449 i)) u450 (fun i => Rii.enc (u451 i)) u483 u484 u488 (fun i => RiiiiiiiiiiiiiiiiiiiiiiiiiiiiiL2.enc (u489 i)) u490 u491)
          else
          bif (u486 == 0) then
            gateE gt (law09.WorldRuns.j2 gt k0 k1 u437 u438 u439 u440 u441 u442 (fun i => RiiiiiiiiiiL2.enc (u443 i)) u444 (fun i => Riiiiiiii.enc (u445 i)) u446 (fun i => Riiiii.enc (u447 i)) u448 (fun i => Ri.enc (u449 i)) (putI u450 u485) (fun i => bif i == u485 then Rii.enc (r5.2.1, r5.2.2.1) else Rii.enc (u451 i)) u483 (IntKind.i64.wrap (u484 + 1)) u488 (fun i => RiiiiiiiiiiiiiiiiiiiiiiiiiiiiiL2.enc (u489 i)) u490 u491)
          else
          gateE gt (law09.WorldRuns.j2 gt k0 k1 u437 u438 u439 u440 u441 u442 (fun i => RiiiiiiiiiiL2.enc (u443 i)) u444 (fun i => Riiiiiiii.enc (u445 i)) u446 (fun i => Riiiii.enc (u447 i)) u448 (fun i => Ri.enc (u449 i)) u450 (fun i => Rii.enc (u451 i)) u483 u484 u488 (fun i => RiiiiiiiiiiiiiiiiiiiiiiiiiiiiiL2.enc (u489 i)) u490 u491)
        else
        bif (u486 != 0) then
          bif (u485 != 0) then
            some false
          else
          bif (u486 == 0) then
            gateE gt (law09.WorldRuns.j2 gt k0 k1 u437 u438 u439 u440 u441 u442 (fun i => RiiiiiiiiiiL2.enc (u443 i)) u444 (fun i => Riiiiiiii.enc (u445 i)) u446 (fun i => Riiiii.enc (u447 i)) u448 (fun i => Ri.enc (u449 i)) (putI u450 u485) (fun i => bif i == u485 then Rii.enc (r5.2.1, r5.2.2.1) else Rii.enc (u451 i)) u483 (IntKind.i64.wrap (u484 + 1)) u488 (fun i => RiiiiiiiiiiiiiiiiiiiiiiiiiiiiiL2.enc (u489 i)) u490 u491)
          else
          gateE gt (law09.WorldRuns.j2 gt k0 k1 u437 u438 u439 u440 u441 u442 (fun i => RiiiiiiiiiiL2.enc (u443 i)) u444 (fun i => Riiiiiiii.enc (u445 i)) u446 (fun i => Riiiii.enc (u447 i)) u448 (fun i => Ri.enc (u449 i)) u450 (fun i => Rii.enc (u451 i)) u483 u484 u488 (fun i => RiiiiiiiiiiiiiiiiiiiiiiiiiiiiiL2.enc (u489 i)) u490 u491)
        else
        bif (u486 == 0) then
          gateE gt (law09.WorldRuns.j2 gt k0 k1 u437 u438 u439 u440 u441 u442 (fun i => RiiiiiiiiiiL2.enc (u443 i)) u444 (fun i => Riiiiiiii.enc (u445 i)) u446 (fun i => Riiiii.enc (u447 i)) u448 (fun i => Ri.enc (u449 i)) (putI u450 u485) (fun i => bif i == u485 then Rii.enc (r5.2.1, r5.2.2.1) else Rii.enc (u451 i)) u483 (IntKind.i64.wrap (u484 + 1)) u488 (fun i => RiiiiiiiiiiiiiiiiiiiiiiiiiiiiiL2.enc (u489 i)) u490 u491)
        else
        gateE gt (law09.WorldRuns.j2 gt k0 k1 u437 u438 u439 u440 u441 u442 (fun i => RiiiiiiiiiiL2.enc (u443 i)) u444 (fun i => Riiiiiiii.enc (u445 i)) u446 (fun i => Riiiii.enc (u447 i)) u448 (fun i => Ri.enc (u449 i)) u450 (fun i => Rii.enc (u451 i)) u483 u484 u488 (fun i => RiiiiiiiiiiiiiiiiiiiiiiiiiiiiiL2.enc (u489 i)) u490 u491)
      else
      bif ((u449 r5.2.1) == 0) then
        bif (u486 != 4) then
          some false
        else
        bif (u486 == 0) then
          bif (u485 != u484) then
            some false
          else
          bif (u486 != 0) then
            bif (u485 != 0) then
              some false
            else
            bif (u486 == 0) then
              gateE gt (law09.WorldRuns.j2 gt k0 k1 u437 u438 u439 u440 u441 u442 (fun i => RiiiiiiiiiiL2.enc (u443 i)) u444 (fun i => Riiiiiiii.enc (u445 i)) u446 (fun i => Riiiii.enc (u447 i)) u448 (fun i => Ri.enc (u449 i)) (putI u450 u485) (fun i => bif i == u485 then Rii.enc (r5.2.1, r5.2.2.1) else Rii.enc (u451 i)) u483 (IntKind.i64.wrap (u484 + 1)) u488 (fun i => RiiiiiiiiiiiiiiiiiiiiiiiiiiiiiL2.enc (u489 i)) u490 u491)
            else
            gateE gt (law09.WorldRuns.j2 gt k0 k1 u437 u438 u439 u440 u441 u442 (fun i => RiiiiiiiiiiL2.enc (u443 i)) u444 (fun i => Riiiiiiii.enc (u445 i)) u446 (fun i => Riiiii.enc (u447 i)) u448 (fun i => Ri.enc (u449 i)) u450 (fun i => Rii.enc (u451 i)) u483 u484 u488 (fun i => RiiiiiiiiiiiiiiiiiiiiiiiiiiiiiL2.enc (u489 i)) u490 u491)
          else
          bif (u486 == 0) then
            gateE gt (law09.WorldRuns.j2 gt k0 k1 u437 u438 u439 u440 u441 u442 (fun i => RiiiiiiiiiiL2.enc (u443 i)) u444 (fun i => Riiiiiiii.enc (u445 i)) u446 (fun i => Riiiii.enc (u447 i)) u448 (fun i => Ri.enc (u449 i)) (putI u450 u485) (fun i => bif i == u485 then Rii.enc (r5.2.1, r5.2.2.1) else Rii.enc (u451 i)) u483 (IntKind.i64.wrap (u484 + 1)) u488 (fun i => RiiiiiiiiiiiiiiiiiiiiiiiiiiiiiL2.enc (u489 i)) u490 u491)
          else
          gateE gt (law09.WorldRuns.j2 gt k0 k1 u437 u438 u439 u440 u441 u442 (fun i => RiiiiiiiiiiL2.enc (u443 i)) u444 (fun i => Riiiiiiii.enc (u445 i)) u446 (fun i => Riiiii.enc (u447 i)) u448 (fun i => Ri.enc (u449 i)) u450 (fun i => Rii.enc (u451 i)) u483 u484 u488 (fun i => RiiiiiiiiiiiiiiiiiiiiiiiiiiiiiL2.enc (u489 i)) u490 u491)
        else
        bif (u486 != 0) then
          bif (u485 != 0) then
            some false
          else
          bif (u486 == 0) then
            gateE gt (law09.WorldRuns.j2 gt k0 k1 u437 u438 u439 u440 u441 u442 (fun i => RiiiiiiiiiiL2.enc (u443 i)) u444 (fun i => Riiiiiiii.enc (u445 i)) u446 (fun i => Riiiii.enc (u447 i)) u448 (fun i => Ri.enc (u449 i)) (putI u450 u485) (fun i => bif i == u485 then Rii.enc (r5.2.1, r5.2.2.1) else Rii.enc (u451 i)) u483 (IntKind.i64.wrap (u484 + 1)) u488 (fun i => RiiiiiiiiiiiiiiiiiiiiiiiiiiiiiL2.enc (u489 i)) u490 u491)
          else
          gateE gt (law09.WorldRuns.j2 gt k0 k1 u437 u438 u439 u440 u441 u442 (fun i => RiiiiiiiiiiL2.enc (u443 i)) u444 (fun i => Riiiiiiii.enc (u445 i)) u446 (fun i => Riiiii.enc (u447 i)) u448 (fun i => Ri.enc (u449 i)) u450 (fun i => Rii.enc (u451 i)) u483 u484 u488 (fun i => RiiiiiiiiiiiiiiiiiiiiiiiiiiiiiL2.enc (u489 i)) u490 u491)
        else
        bif (u486 == 0) then
          gateE gt (law09.WorldRuns.j2 gt k0 k1 u437 u438 u439 u440 u441 u442 (fun i => RiiiiiiiiiiL2.enc (u443 i)) u444 (fun i => Riiiiiiii.enc (u445 i)) u446 (fun i => Riiiii.enc (u447 i)) u448 (fun i => Ri.enc (u449 i)) (putI u450 u485) (fun i => bif i == u485 then Rii.enc (r5.2.1, r5.2.2.1) else Rii.enc (u451 i)) u483 (IntKind.i64.wrap (u484 + 1)) u488 (fun i => RiiiiiiiiiiiiiiiiiiiiiiiiiiiiiL2.enc (u489 i)) u490 u491)
        else
        gateE gt (law09.WorldRuns.j2 gt k0 k1 u437 u438 u439 u440 u441 u442 (fun i => RiiiiiiiiiiL2.enc (u443 i)) u444 (fun i => Riiiiiiii.enc (u445 i)) u446 (fun i => Riiiii.enc (u447 i)) u448 (fun i => Ri.enc (u449 i)) u450 (fun i => Rii.enc (u451 i)) u483 u484 u488 (fun i => RiiiiiiiiiiiiiiiiiiiiiiiiiiiiiL2.enc (u489 i)) u490 u491)
      else
      bif ((u449 r5.2.2.1) == 0) then
        bif (u486 != 4) then
          some false
        else
        bif (u486 == 0) then
          bif (u485 != u484) then
            some false
          else
          bif (u486 != 0) then
            bif (u485 != 0) then
              some false
            else
            bif (u486 == 0) then
              gateE gt (law09.WorldRuns.j2 gt k0 k1 u437 u438 u439 u440 u441 u442 (fun i => RiiiiiiiiiiL2.enc (u443 i)) u444 (fun i => Riiiiiiii.enc (u445 i)) u446 (fun i => Riiiii.enc (u447 i)) u448 (fun i => Ri.enc (u449 i)) (putI u450 u485) (fun i => bif i == u485 then Rii.enc (r5.2.1, r5.2.2.1) else Rii.enc (u451 i)) u483 (IntKind.i64.wrap (u484 + 1)) u488 (fun i => RiiiiiiiiiiiiiiiiiiiiiiiiiiiiiL2.enc (u489 i)) u490 u491)
            else
            gateE gt (law09.WorldRuns.j2 gt k0 k1 u437 u438 u439 u440 u441 u442 (fun i => RiiiiiiiiiiL2.enc (u443 i)) u444 (fun i => Riiiiiiii.enc (u445 i)) u446 (fun i => Riiiii.enc (u447 i)) u448 (fun i => Ri.enc (u449 i)) u450 (fun i => Rii.enc (u451 i)) u483 u484 u488 (fun i => RiiiiiiiiiiiiiiiiiiiiiiiiiiiiiL2.enc (u489 i)) u490 u491)
          else
          bif (u486 == 0) then
            gateE gt (law09.WorldRuns.j2 gt k0 k1 u437 u438 u439 u440 u441 u442 (fun i => RiiiiiiiiiiL2.enc (u443 i)) u444 (fun i => Riiiiiiii.enc (u445 i)) u446 (fun i => Riiiii.enc (u447 i)) u448 (fun i => Ri.enc (u449 i)) (putI u450 u485) (fun i => bif i == u485 then Rii.enc (r5.2.1, r5.2.2.1) else Rii.enc (u451 i)) u483 (IntKind.i64.wrap (u484 + 1)) u488 (fun i => RiiiiiiiiiiiiiiiiiiiiiiiiiiiiiL2.enc (u489 i)) u490 u491)
          else
          gateE gt (law09.WorldRuns.j2 gt k0 k1 u437 u438 u439 u440 u441 u442 (fun i => RiiiiiiiiiiL2.enc (u443 i)) u444 (fun i => Riiiiiiii.enc (u445 i)) u446 (fun i => Riiiii.enc (u447 i)) u448 (fun i => Ri.enc (u449 i)) u450 (fun i => Rii.enc (u451 i)) u483 u484 u488 (fun i => RiiiiiiiiiiiiiiiiiiiiiiiiiiiiiL2.enc (u489 i)) u490 u491)
        else
        bif (u486 != 0) then
          bif (u485 != 0) then
            some false
          else
          bif (u486 == 0) then
            gateE gt (law09.WorldRuns.j2 gt k0 k1 u437 u438 u439 u440 u441 u442 (fun i => RiiiiiiiiiiL2.enc (u443 i)) u444 (fun i => Riiiiiiii.enc (u445 i)) u446 (fun i => Riiiii.enc (u447 i)) u448 (fun i => Ri.enc (u449 i)) (putI u450 u485) (fun i => bif i == u485 then Rii.enc (r5.2.1, r5.2.2.1) else Rii.enc (u451 i)) u483 (IntKind.i64.wrap (u484 + 1)) u488 (fun i => RiiiiiiiiiiiiiiiiiiiiiiiiiiiiiL2.enc (u489 i)) u490 u491)
          else
          gateE gt (law09.WorldRuns.j2 gt k0 k1 u437 u438 u439 u440 u441 u442 (fun i => RiiiiiiiiiiL2.enc (u443 i)) u444 (fun i => Riiiiiiii.enc (u445 i)) u446 (fun i => Riiiii.enc (u447 i)) u448 (fun i => Ri.enc (u449 i)) u450 (fun i => Rii.enc (u451 i)) u483 u484 u488 (fun i => RiiiiiiiiiiiiiiiiiiiiiiiiiiiiiL2.enc (u489 i)) u490 u491)
        else
        bif (u486 == 0) then
          gateE gt (law09.WorldRuns.j2 gt k0 k1 u437 u438 u439 u440 u441 u442 (fun i => RiiiiiiiiiiL2.enc (u443 i)) u444 (fun i => Riiiiiiii.enc (u445 i)) u446 (fun i => Riiiii.enc (u447 i)) u448 (fun i => Ri.enc (u449 i)) (putI u450 u485) (fun i => bif i == u485 then Rii.enc (r5.2.1, r5.2.2.1) else Rii.enc (u451 i)) u483 (IntKind.i64.wrap (u484 + 1)) u488 (fun i => RiiiiiiiiiiiiiiiiiiiiiiiiiiiiiL2.enc (u489 i)) u490 u491)
        else
        gateE gt (law09.WorldRuns.j2 gt k0 k1 u437 u438 u439 u440 u441 u442 (fun i => RiiiiiiiiiiL2.enc (u443 i)) u444 (fun i => Riiiiiiii.enc (u445 i)) u446 (fun i => Riiiii.enc (u447 i)) u448 (fun i => Ri.enc (u449 i)) u450 (fun i => Rii.enc (u451 i)) u483 u484 u488 (fun i => RiiiiiiiiiiiiiiiiiiiiiiiiiiiiiL2.enc (u489 i)) u490 u491)
      else
      bif (u486 != 0) then
        some false
      else
      bif (u486 == 0) then
        bif (u485 != u484) then
          some false
        else
        bif (u486 != 0) then
          bif (u485 != 0) then
            some false
          else
          bif (u486 == 0) then
            gateE gt (law09.WorldRuns.j2 gt k0 k1 u437 u438 u439 u440 u441 u442 (fun i => RiiiiiiiiiiL2.enc (u443 i)) u444 (fun i => Riiiiiiii.enc (u445 i)) u446 (fun i => Riiiii.enc (u447 i)) u448 (fun i => Ri.enc (u449 i)) (putI u450 u485) (fun i => bif i == u485 then Rii.enc (r5.2.1, r5.2.2.1) else Rii.enc (u451 i)) u483 (IntKind.i64.wrap (u484 + 1)) u488 (fun i => RiiiiiiiiiiiiiiiiiiiiiiiiiiiiiL2.enc (u489 i)) u490 u491)
          else
          gateE gt (law09.WorldRuns.j2 gt k0 k1 u437 u438 u439 u440 u441 u442 (fun i => RiiiiiiiiiiL2.enc (u443 i)) u444 (fun i => Riiiiiiii.enc (u445 i)) u446 (fun i => Riiiii.enc (u447 i)) u448 (fun i => Ri.enc (u449 i)) u450 (fun i => Rii.enc (u451 i)) u483 u484 u488 (fun i => RiiiiiiiiiiiiiiiiiiiiiiiiiiiiiL2.enc (u489 i)) u490 u491)
        else
        bif (u486 == 0) then
          gateE gt (law09.WorldRuns.j2 gt k0 k1 u437 u438 u439 u440 u441 u442 (fun i => RiiiiiiiiiiL2.enc (u443 i)) u444 (fun i => Riiiiiiii.enc (u445 i)) u446 (fun i => Riiiii.enc (u447 i)) u448 (fun i => Ri.enc (u449 i)) (putI u450 u485) (fun i => bif i == u485 then Rii.enc (r5.2.1, r5.2.2.1) else Rii.enc (u451 i)) u483 (IntKind.i64.wrap (u484 + 1)) u488 (fun i => RiiiiiiiiiiiiiiiiiiiiiiiiiiiiiL2.enc (u489 i)) u490 u491)
        else
        gateE gt (law09.WorldRuns.j2 gt k0 k1 u437 u438 u439 u440 u441 u442 (fun i => RiiiiiiiiiiL2.enc (u443 i)) u444 (fun i => Riiiiiiii.enc (u445 i)) u446 (fun i => Riiiii.enc (u447 i)) u448 (fun i => Ri.enc (u449 i)) u450 (fun i => Rii.enc (u451 i)) u483 u484 u488 (fun i => RiiiiiiiiiiiiiiiiiiiiiiiiiiiiiL2.enc (u489 i)) u490 u491)
      else
      bif (u486 != 0) then
        bif (u485 != 0) then
          some false
        else
        bif (u486 == 0) then
          gateE gt (law09.WorldRuns.j2 gt k0 k1 u437 u438 u439 u440 u441 u442 (fun i => RiiiiiiiiiiL2.enc (u443 i)) u444 (fun i => Riiiiiiii.enc (u445 i)) u446 (fun i => Riiiii.enc (u447 i)) u448 (fun i => Ri.enc (u449 i)) (putI u450 u485) (fun i => bif i == u485 then Rii.enc (r5.2.1, r5.2.2.1) else Rii.enc (u451 i)) u483 (IntKind.i64.wrap (u484 + 1)) u488 (fun i => RiiiiiiiiiiiiiiiiiiiiiiiiiiiiiL2.enc (u489 i)) u490 u491)
        else
        gateE gt (law09.WorldRuns.j2 gt k0 k1 u437 u438 u439 u440 u441 u442 (fun i => RiiiiiiiiiiL2.enc (u443 i)) u444 (fun i => Riiiiiiii.enc (u445 i)) u446 (fun i => Riiiii.enc (u447 i)) u448 (fun i => Ri.enc (u449 i)) u450 (fun i => Rii.enc (u451 i)) u483 u484 u488 (fun i => RiiiiiiiiiiiiiiiiiiiiiiiiiiiiiL2.enc (u489 i)) u490 u491)
      else
      bif (u486 == 0) then
        gateE gt (law09.WorldRuns.j2 gt k0 k1 u437 u438 u439 u440 u441 u442 (fun i => RiiiiiiiiiiL2.enc (u443 i)) u444 (fun i => Riiiiiiii.enc (u445 i)) u446 (fun i => Riiiii.enc (u447 i)) u448 (fun i => Ri.enc (u449 i)) (putI u450 u485) (fun i => bif i == u485 then Rii.enc (r5.2.1, r5.2.2.1) else Rii.enc (u451 i)) u483 (IntKind.i64.wrap (u484 + 1)) u488 (fun i => RiiiiiiiiiiiiiiiiiiiiiiiiiiiiiL2.enc (u489 i)) u490 u491)
      else
      gateE gt (law09.WorldRuns.j2 gt k0 k1 u437 u438 u439 u440 u441 u442 (fun i => RiiiiiiiiiiL2.enc (u443 i)) u444 (fun i => Riiiiiiii.enc (u445 i)) u446 (fun i => Riiiii.enc (u447 i)) u448 (fun i => Ri.enc (u449 i)) u450 (fun i => Rii.enc (u451 i)) u483 u484 u488 (fun i => RiiiiiiiiiiiiiiiiiiiiiiiiiiiiiL2.enc (u489 i)) u490 u491)
    else
    bif ((Go.bits .and .i64 u452 7) == 6) then
      bif (!(u487 == (decide ((u449 (Go.bits .and .i64 u464 15)) > 0)))) then
        some false
      else
      law09.WorldRuns.l1 gt k0 k1 k0 u437 u438 u439 u440 u441 u442 (fun i => RiiiiiiiiiiL2.enc (u443 i)) u444 (fun i => Riiiiiiii.enc (u445 i)) u446 (fun i => Riiiii.enc (u447 i)) (delI u448 (Go.bits .and .i64 u464 15)) (fun i => bif i == (Go.bits .and .i64 u464 15) then Ri.enc 0 else Ri.enc (u449 i)) u450 (fun i => Rii.enc (u451 i)) u452 u453 u454 u455 u456 u457 u458 u459 u460 u461 u462 u463 u464 u465 u466 u467 u468 u469 u470 u471 u472 u473 u474 u475 u476 u477 u478 u479 u480 u481 u482 u450 u483 u484 (Go.bits .and .i64 u464 15) u488 (fun i => RiiiiiiiiiiiiiiiiiiiiiiiiiiiiiL2.enc (u489 i)) u490 u491
    else
    bif ((Go.bits .and .i64 u452 7) == 3) then
      bif (!((memI u450 (Go.bits .and .i64 u464 15)) == u487)) then
        some false
      else
      gateE gt (law09.WorldRuns.j2 gt k0 k1 u437 u438 u439 u440 u441 u442 (fun i => RiiiiiiiiiiL2.enc (u443 i)) u444 (fun i => Riiiiiiii.enc (u445 i)) u446 (fun i => Riiiii.enc (u447 i)) u448 (fun i => Ri.enc (u449 i)) (delI u450 (Go.bits .and .i64 u464 15)) (fun i => bif i == (Go.bits .and .i64 u464 15) then Rii.enc (0, 0) else Rii.enc (u451 i)) u483 u484 u488 (fun i => RiiiiiiiiiiiiiiiiiiiiiiiiiiiiiL2.enc (u489 i)) u490 u491)
    else
    (law09.Deed.Body.f (u452, u453, u454, u455, u456, u457, u458, u459, u460, u461, u462, u463, u464, u465, u466, u467, u468, u469, u470, u471, u472, u473, u474, u475, u476, u477, u478, u479, u480, (u481, u482))).bind fun r9 =>
    (law09.may.f (r9.1, r9.2.1, r9.2.2.1, r9.2.2.2.1, r9.2.2.2.2.1, r9.2.2.2.2.2.1, r9.2.2.2.2.2.2.1, r9.2.2.2.2.2.2.2.1, r9.2.2.2.2.2.2.2.2.1, r9.2.2.2.2.2.2.2.2.2.1, (r9.2.2.2.2.2.2.2.2.2.2.1, (fun i => Rii.enc (r9.2.2.2.2.2.2.2.2.2.2.2 i))))).bind fun r10 =>
    gateE gt (law09.WorldRuns.j3 gt k0 k1 u437 u438 u439 u440 u441 u442 (fun i => RiiiiiiiiiiL2.enc (u443 i)) u444 (fun i => Riiiiiiii.enc (u445 i)) u446 (fun i => Riiiii.enc (u447 i)) u448 (fun i => Ri.enc (u449 i)) u450 (fun i => Rii.enc (u451 i)) u483 u484 u485 u486 r10 u488 (fun i => RiiiiiiiiiiiiiiiiiiiiiiiiiiiiiL2.enc (u489 i)) u490 u491)
  else
  bif ((Go.bits .and .i64 u452 7) == 5) then
    (law09.Deed.Joint.f (u452, u453, u454, u455, u456, u457, u458, u459, u460, u461, u462, u463, u464, u465, u466, u467, u468, u469, u470, u471, u472, u473, u474, u475, u476, u477, u478, u479, u480, (u481, u482))).bind fun r11 =>
    (law09.joins.f (r11.1, r11.2.1, r11.2.2.1, r11.2.2.2.1, r11.2.2.2.2.1, r11.2.2.2.2.2.1, r11.2.2.2.2.2.2.1, r11.2.2.2.2.2.2.2)).bind fun r12 =>
    bif (!r12) then
      bif (u486 != 2) then
        some false
      else
      bif (u486 == 0) then
        bif (u485 != u484) then
          some false
        else
        bif (u486 != 0) then
          bif (u485 != 0) then
            some false
          else
          bif (u486 == 0) then
            gateE gt (law09.WorldRuns.j2 gt k0 k1 u437 u438 u439 u440 u441 u442 (fun i => RiiiiiiiiiiL2.enc (u443 i)) u444 (fun i => Riiiiiiii.enc (u445 i)) u446 (fun i => Riiiii.enc (u447 i)) u448 (fun i => Ri.enc (u449 i)) (putI u450 u485) (fun i => bif i == u485 then Rii.enc (r11.2.1, r11.2.2.1) else Rii.enc (u451 i)) u483 (IntKind.i64.wrap (u484 + 1)) u488 (fun i => RiiiiiiiiiiiiiiiiiiiiiiiiiiiiiL2.enc (u489 i)) u490 u491)
          else
          gateE gt (law09.WorldRuns.j2 gt k0 k1 u437 u438 u439 u440 u441 u442 (fun i => RiiiiiiiiiiL2.enc (u443 i)) u444 (fun i => Riiiiiiii.enc (u445 i)) u446 (fun i => Riiiii.enc (u447 i)) u448 (fun i => Ri.enc (u449 i)) u450 (fun i => Rii.enc (u451 i)) u483 u484 u488 (fun i => RiiiiiiiiiiiiiiiiiiiiiiiiiiiiiL2.enc (u489 i)) u490 u491)
        else
        bif (u486 == 0) then
          gateE gt (law09.WorldRuns.j2 gt k0 k1 u437 u438 u439 u440 u441 u442 (fun i => RiiiiiiiiiiL2.enc (u443 i)) u444 (fun i => Riiiiiiii.enc (u445 i)) u446 (fun i => Riiiii.enc (u447 i)) u448 (fun i => Ri.enc (u449 i)) (putI u450 u485) (fun i => bif i == u485 then Rii.enc (r11.2.1, r11.2.2.1) else Rii.enc (u451 i)) u483 (IntKind.i64.wrap (u484 + 1)) u488 (fun i => RiiiiiiiiiiiiiiiiiiiiiiiiiiiiiL2.enc (u489 i)) u490 u491)
        else
        gateE gt (law09.WorldRuns.j2 gt k0 k1 u437 u438 u439 u440 u441 u442 (fun i => RiiiiiiiiiiL2.enc (u443 i)) u444 (fun i => Riiiiiiii.enc (u445 i)) u446 (fun i => Riiiii.enc (u447 i)) u448 (fun i => Ri.enc (u449 i)) u450 (fun i => Rii.enc (u451 i)) u483 u484 u488 (fun i => RiiiiiiiiiiiiiiiiiiiiiiiiiiiiiL2.enc (u489 i)) u490 u491)
      else
      bif (u486 != 0) then
        bif (u485 != 0) then
          some false
        else
        bif (u486 == 0) then
          gateE gt (law09.WorldRuns.j2 gt k0 k1 u437 u438 u439 u440 u441 u442 (fun i => RiiiiiiiiiiL2.enc (u443 i)) u444 (fun i => Riiiiiiii.enc (u445 i)) u446 (fun i => Riiiii.enc (u447 i)) u448 (fun i => Ri.enc (u449 i)) (putI u450 u485) (fun i => bif i == u485 then Rii.enc (r11.2.1, r11.2.2.1) else Rii.enc (u451 i)) u483 (IntKind.i64.wrap (u484 + 1)) u488 (fun i => RiiiiiiiiiiiiiiiiiiiiiiiiiiiiiL2.enc (u489 i)) u490 u491)
        else
        gateE gt (law09.WorldRuns.j2 gt k0 k1 u437 u438 u439 u440 u441 u442 (fun i => RiiiiiiiiiiL2.enc (u443 i)) u444 (fun i => Riiiiiiii.enc (u445 i)) u446 (fun i => Riiiii.enc (u447 i)) u448 (fun i => Ri.enc (u449 i)) u450 (fun i => Rii.enc (u451 i)) u483 u484 u488 (fun i => RiiiiiiiiiiiiiiiiiiiiiiiiiiiiiL2.enc (u489 i)) u490 u491)
      else
      bif (u486 == 0) then
        gateE gt (law09.WorldRuns.j2 gt k0 k1 u437 u438 u439 u440 u441 u442 (fun i => RiiiiiiiiiiL2.enc (u443 i)) u444 (fun i => Riiiiiiii.enc (u445 i)) u446 (fun i => Riiiii.enc (u447 i)) u448 (fun i => Ri.enc (u449 i)) (putI u450 u485) (fun i => bif i == u485 then Rii.enc (r11.2.1, r11.2.2.1) else Rii.enc (u451 i)) u483 (IntKind.i64.wrap (u484 + 1)) u488 (fun i => RiiiiiiiiiiiiiiiiiiiiiiiiiiiiiL2.enc (u489 i)) u490 u491)
      else
      gateE gt (law09.WorldRuns.j2 gt k0 k1 u437 u438 u439 u440 u441 u442 (fun i => RiiiiiiiiiiL2.enc (u443 i)) u444 (fun i => Riiiiiiii.enc (u445 i)) u446 (fun i => Riiiii.enc (u447 i)) u448 (fun i => Ri.enc (u449 i)) u450 (fun i => Rii.enc (u451 i)) u483 u484 u488 (fun i => RiiiiiiiiiiiiiiiiiiiiiiiiiiiiiL2.enc (u489 i)) u490 u491)
    else
    bif ((u449 r11.2.1) == 0) then
      bif (u486 != 4) then
        some false
      else
      bif (u486 == 0) then
        bif (u485 != u484) then
          some false
        else
        bif (u486 != 0) then
          bif (u485 != 0) then
            some false
          else
          bif (u486 == 0) then
            gateE gt (law09.WorldRuns.j2 gt k0 k1 u437 u438 u439 u440 u441 u442 (fun i => RiiiiiiiiiiL2.enc (u443 i)) u444 (fun i => Riiiiiiii.enc (u445 i)) u446 (fun i => Riiiii.enc (u447 i)) u448 (fun i => Ri.enc (u449 i)) (putI u450 u485) (fun i => bif i == u485 then Rii.enc (r11.2.1, r11.2.2.1) else Rii.enc (u451 i)) u483 (IntKind.i64.wrap (u484 + 1)) u488 (fun i => RiiiiiiiiiiiiiiiiiiiiiiiiiiiiiL2.enc (u489 i)) u490 u491)
          else
          gateE gt (law09.WorldRuns.j2 gt k0 k1 u437 u438 u439 u440 u441 u442 (fun i => RiiiiiiiiiiL2.enc (u443 i)) u444 (fun i => Riiiiiiii.enc (u445 i)) u446 (fun i => Riiiii.enc (u447 i)) u448 (fun i => Ri.enc (u449 i)) u450 (fun i => Rii.enc (u451 i)) u483 u484 u488 (fun i => RiiiiiiiiiiiiiiiiiiiiiiiiiiiiiL2.enc (u489 i)) u490 u491)
        else
        bif (u486 == 0) then
          gateE gt (law09.WorldRuns.j2 gt k0 k1 u437 u438 u439 u440 u441 u442 (fun i => RiiiiiiiiiiL2.enc (u443 i)) u444 (fun i => Riiiiiiii.enc (u445 i)) u446 (fun i => Riiiii.enc (u447 i)) u448 (fun i => Ri.enc (u449 i)) (putI u450 u485) (fun i => bif i == u485 then Rii.enc (r11.2.1, r11.2.2.1) else Rii.enc (u451 i)) u483 (IntKind.i64.wrap (u484 + 1)) u488 (fun i => RiiiiiiiiiiiiiiiiiiiiiiiiiiiiiL2.enc (u489 i)) u490 u491)
        else
        gateE gt (law09.WorldRuns.j2 gt k0 k1 u437 u438 u439 u440 u441 u442 (fun i => RiiiiiiiiiiL2.enc (u443 i)) u444 (fun i => Riiiiiiii.enc (u445 i)) u446 (fun i => Riiiii.enc (u447 i)) u448 (fun i => Ri.enc (u449 i)) u450 (fun i => Rii.enc (u451 i)) u483 u484 u488 (fun i => RiiiiiiiiiiiiiiiiiiiiiiiiiiiiiL2.enc (u489 i)) u490 u491)
      else
      bif (u486 != 0) then
        bif (u485 != 0) then
          some false
        else
        bif (u486 == 0) then
          gateE gt (law09.WorldRuns.j2 gt k0 k1 u437 u438 u439 u440 u441 u442 (fun i => RiiiiiiiiiiL2.enc (u443 i)) u444 (fun i => Riiiiiiii.enc (u445 i)) u446 (fun i => Riiiii.enc (u447 i)) u448 (fun i => Ri.enc (u449 i)) (putI u450 u485) (fun i => bif i == u485 then Rii.enc (r11.2.1, r11.2.2.1) else Rii.enc (u451 i)) u483 (IntKind.i64.wrap (u484 + 1)) u488 (fun i => RiiiiiiiiiiiiiiiiiiiiiiiiiiiiiL2.enc (u489 i)) u490 u491)
        else
        gateE gt (law09.WorldRuns.j2 gt k0 k1 u437 u438 u439 u440 u441 u442 (fun i => RiiiiiiiiiiL2.enc (u443 i)) u444 (fun i => Riiiiiiii.enc (u445 i)) u446 (fun i => Riiiii.enc (u447 i)) u448 (fun i => Ri.enc (u449 i)) u450 (fun i => Rii.enc (u451 i)) u483 u484 u488 (fun i => RiiiiiiiiiiiiiiiiiiiiiiiiiiiiiL2.enc (u489 i)) u490 u491)
      else
      bif (u486 == 0) then
        gateE gt (law09.WorldRuns.j2 gt k0 k1 u437 u438 u439 u440 u441 u442 (fun i => RiiiiiiiiiiL2.enc (u443 i)) u444 (fun i => Riiiiiiii.enc (u445 i)) u446 (fun i => Riiiii.enc (u447 i)) u448 (fun i => Ri.enc (u449 i)) (putI u450 u485) (fun i => bif i == u485 then Rii.enc (r11.2.1, r11.2.2.1) else Rii.enc (u451 i)) u483 (IntKind.i64.wrap (u484 + 1)) u488 (fun i => RiiiiiiiiiiiiiiiiiiiiiiiiiiiiiL2.enc (u489 i)) u490 u491)
      else
      gateE gt (law09.WorldRuns.j2 gt k0 k1 u437 u438 u439 u440 u441 u442 (fun i => RiiiiiiiiiiL2.enc (u443 i)) u444 (fun i => Riiiiiiii.enc (u445 i)) u446 (fun i => Riiiii.enc (u447 i)) u448 (fun i => Ri.enc (u449 i)) u450 (fun i => Rii.enc (u451 i)) u483 u484 u488 (fun i => RiiiiiiiiiiiiiiiiiiiiiiiiiiiiiL2.enc (u489 i)) u490 u491)
    else
    bif ((u449 r11.2.2.1) == 0) then
      bif (u486 != 4) then
        some false
      else
      bif (u486 == 0) then
        bif (u485 != u484) then
          some false
        else
        bif (u486 != 0) then
          bif (u485 != 0) then
            some false
          else
          bif (u486 == 0) then
            gateE gt (law09.WorldRuns.j2 gt k0 k1 u437 u438 u439 u440 u441 u442 (fun i => RiiiiiiiiiiL2.enc (u443 i)) u444 (fun i => Riiiiiiii.enc (u445 i)) u446 (fun i => Riiiii.enc (u447 i)) u448 (fun i => Ri.enc (u449 i)) (putI u450 u485) (fun i => bif i == u485 then Rii.enc (r11.2.1, r11.2.2.1) else Rii.enc (u451 i)) u483 (IntKind.i64.wrap (u484 + 1)) u488 (fun i => RiiiiiiiiiiiiiiiiiiiiiiiiiiiiiL2.enc (u489 i)) u490 u491)
          else
          gateE gt (law09.WorldRuns.j2 gt k0 k1 u437 u438 u439 u440 u441 u442 (fun i => RiiiiiiiiiiL2.enc (u443 i)) u444 (fun i => Riiiiiiii.enc (u445 i)) u446 (fun i => Riiiii.enc (u447 i)) u448 (fun i => Ri.enc (u449 i)) u450 (fun i => Rii.enc (u451 i)) u483 u484 u488 (fun i => RiiiiiiiiiiiiiiiiiiiiiiiiiiiiiL2.enc (u489 i)) u490 u491)
        else
        bif (u486 == 0) then
          gateE gt (law09.WorldRuns.j2 gt k0 k1 u437 u438 u439 u440 u441 u442 (fun i => RiiiiiiiiiiL2.enc (u443 i)) u444 (fun i => Riiiiiiii.enc (u445 i)) u446 (fun i => Riiiii.enc (u447 i)) u448 (fun i => Ri.enc (u449 i)) (putI u450 u485) (fun i => bif i == u485 then Rii.enc (r11.2.1, r11.2.2.1) else Rii.enc (u451 i)) u483 (IntKind.i64.wrap (u484 + 1)) u488 (fun i => RiiiiiiiiiiiiiiiiiiiiiiiiiiiiiL2.enc (u489 i)) u490 u491)
        else
        gateE gt (law09.WorldRuns.j2 gt k0 k1 u437 u438 u439 u440 u441 u442 (fun i => RiiiiiiiiiiL2.enc (u443 i)) u444 (fun i => Riiiiiiii.enc (u445 i)) u446 (fun i => Riiiii.enc (u447 i)) u448 (fun i => Ri.enc (u449 i)) u450 (fun i => Rii.enc (u451 i)) u483 u484 u488 (fun i => RiiiiiiiiiiiiiiiiiiiiiiiiiiiiiL2.enc (u489 i)) u490 u491)
      else
      bif (u486 != 0) then
        bif (u485 != 0) then
          some false
        else
        bif (u486 == 0) then
          gateE gt (law09.WorldRuns.j2 gt k0 k1 u437 u438 u439 u440 u441 u442 (fun i => RiiiiiiiiiiL2.enc (u443 i)) u444 (fun i => Riiiiiiii.enc (u445 i)) u446 (fun i => Riiiii.enc (u447 i)) u448 (fun i => Ri.enc (u449 i)) (putI u450 u485) (fun i => bif i == u485 then Rii.enc (r11.2.1, r11.2.2.1) else Rii.enc (u451 i)) u483 (IntKind.i64.wrap (u484 + 1)) u488 (fun i => RiiiiiiiiiiiiiiiiiiiiiiiiiiiiiL2.enc (u489 i)) u490 u491)
        else
        gateE gt (law09.WorldRuns.j2 gt k0 k1 u437 u438 u439 u440 u441 u442 (fun i => RiiiiiiiiiiL2.enc (u443 i)) u444 (fun i => Riiiiiiii.enc (u445 i)) u446 (fun i => Riiiii.enc (u447 i)) u448 (fun i => Ri.enc (u449 i)) u450 (fun i => Rii.enc (u451 i)) u483 u484 u488 (fun i => RiiiiiiiiiiiiiiiiiiiiiiiiiiiiiL2.enc (u489 i)) u490 u491)
      else
      bif (u486 == 0) then
        gateE gt (law09.WorldRuns.j2 gt k0 k1 u437 u438 u439 u440 u441 u442 (fun i => RiiiiiiiiiiL2.enc (u443 i)) u444 (fun i => Riiiiiiii.enc (u445 i)) u446 (fun i => Riiiii.enc (u447 i)) u448 (fun i => Ri.enc (u449 i)) (putI u450 u485) (fun i => bif i == u485 then Rii.enc (r11.2.1, r11.2.2.1) else Rii.enc (u451 i)) u483 (IntKind.i64.wrap (u484 + 1)) u488 (fun i => RiiiiiiiiiiiiiiiiiiiiiiiiiiiiiL2.enc (u489 i)) u490 u491)
      else
      gateE gt (law09.WorldRuns.j2 gt k0 k1 u437 u438 u439 u440 u441 u442 (fun i => RiiiiiiiiiiL2.enc (u443 i)) u444 (fun i => Riiiiiiii.enc (u445 i)) u446 (fun i => Riiiii.enc (u447 i)) u448 (fun i => Ri.enc (u449 i)) u450 (fun i => Rii.enc (u451 i)) u483 u484 u488 (fun i => RiiiiiiiiiiiiiiiiiiiiiiiiiiiiiL2.enc (u489 i)) u490 u491)
    else
    bif (u486 != 0) then
      some false
    else
    bif (u486 == 0) then
      bif (u485 != u484) then
        some false
      else
      bif (u486 != 0) then
        bif (u485 != 0) then
          some false
        else
        bif (u486 == 0) then
          gateE gt (law09.WorldRuns.j2 gt k0 k1 u437 u438 u439 u440 u441 u442 (fun i => RiiiiiiiiiiL2.enc (u443 i)) u444 (fun i => Riiiiiiii.enc (u445 i)) u446 (fun i => Riiiii.enc (u447 i)) u448 (fun i => Ri.enc (u449 i)) (putI u450 u485) (fun i => bif i == u485 then Rii.enc (r11.2.1, r11.2.2.1) else Rii.enc (u451 i)) u483 (IntKind.i64.wrap (u484 + 1)) u488 (fun i => RiiiiiiiiiiiiiiiiiiiiiiiiiiiiiL2.enc (u489 i)) u490 u491)
        else
        gateE gt (law09.WorldRuns.j2 gt k0 k1 u437 u438 u439 u440 u441 u442 (fun i => RiiiiiiiiiiL2.enc (u443 i)) u444 (fun i => Riiiiiiii.enc (u445 i)) u446 (fun i => Riiiii.enc (u447 i)) u448 (fun i => Ri.enc (u449 i)) u450 (fun i => Rii.enc (u451 i)) u483 u484 u488 (fun i => RiiiiiiiiiiiiiiiiiiiiiiiiiiiiiL2.enc (u489 i)) u490 u491)
      else
      bif (u486 == 0) then
        gateE gt (law09.WorldRuns.j2 gt k0 k1 u437 u438 u439 u440 u441 u442 (fun i => RiiiiiiiiiiL2.enc (u443 i)) u444 (fun i => Riiiiiiii.enc (u445 i)) u446 (fun i => Riiiii.enc (u447 i)) u448 (fun i => Ri.enc (u449 i)) (putI u450 u485) (fun i => bif i == u485 then Rii.enc (r11.2.1, r11.2.2.1) else Rii.enc (u451 i)) u483 (IntKind.i64.wrap (u484 + 1)) u488 (fun i => RiiiiiiiiiiiiiiiiiiiiiiiiiiiiiL2.enc (u489 i)) u490 u491)
      else
      gateE gt (law09.WorldRuns.j2 gt k0 k1 u437 u438 u439 u440 u441 u442 (fun i => RiiiiiiiiiiL2.enc (u443 i)) u444 (fun i => Riiiiiiii.enc (u445 i)) u446 (fun i => Riiiii.enc (u447 i)) u448 (fun i => Ri.enc (u449 i)) u450 (fun i => Rii.enc (u451 i)) u483 u484 u488 (fun i => RiiiiiiiiiiiiiiiiiiiiiiiiiiiiiL2.enc (u489 i)) u490 u491)
    else
    bif (u486 != 0) then
      bif (u485 != 0) then
        some false
      else
      bif (u486 == 0) then
        gateE gt (law09.WorldRuns.j2 gt k0 k1 u437 u438 u439 u440 u441 u442 (fun i => RiiiiiiiiiiL2.enc (u443 i)) u444 (fun i => Riiiiiiii.enc (u445 i)) u446 (fun i => Riiiii.enc (u447 i)) u448 (fun i => Ri.enc (u449 i)) (putI u450 u485) (fun i => bif i == u485 then Rii.enc (r11.2.1, r11.2.2.1) else Rii.enc (u451 i)) u483 (IntKind.i64.wrap (u484 + 1)) u488 (fun i => RiiiiiiiiiiiiiiiiiiiiiiiiiiiiiL2.enc (u489 i)) u490 u491)
      else
      gateE gt (law09.WorldRuns.j2 gt k0 k1 u437 u438 u439 u440 u441 u442 (fun i => RiiiiiiiiiiL2.enc (u443 i)) u444 (fun i => Riiiiiiii.enc (u445 i)) u446 (fun i => Riiiii.enc (u447 i)) u448 (fun i => Ri.enc (u449 i)) u450 (fun i => Rii.enc (u451 i)) u483 u484 u488 (fun i => RiiiiiiiiiiiiiiiiiiiiiiiiiiiiiL2.enc (u489 i)) u490 u491)
    else
    bif (u486 == 0) then
      gateE gt (law09.WorldRuns.j2 gt k0 k1 u437 u438 u439 u440 u441 u442 (fun i => RiiiiiiiiiiL2.enc (u443 i)) u444 (fun i => Riiiiiiii.enc (u445 i)) u446 (fun i => Riiiii.enc (u447 i)) u448 (fun i => Ri.enc (u449 i)) (putI u450 u485) (fun i => bif i == u485 then Rii.enc (r11.2.1, r11.2.2.1) else Rii.enc (u451 i)) u483 (IntKind.i64.wrap (u484 + 1)) u488 (fun i => RiiiiiiiiiiiiiiiiiiiiiiiiiiiiiL2.enc (u489 i)) u490 u491)
    else
    gateE gt (law09.WorldRuns.j2 gt k0 k1 u437 u438 u439 u440 u441 u442 (fun i => RiiiiiiiiiiL2.enc (u443 i)) u444 (fun i => Riiiiiiii.enc (u445 i)) u446 (fun i => Riiiii.enc (u447 i)) u448 (fun i => Ri.enc (u449 i)) u450 (fun i => Rii.enc (u451 i)) u483 u484 u488 (fun i => RiiiiiiiiiiiiiiiiiiiiiiiiiiiiiL2.enc (u489 i)) u490 u491)
  else
  bif ((Go.bits .and .i64 u452 7) == 6) then
    bif (!(u487 == (decide ((u449 (Go.bits .and .i64 u464 15)) > 0)))) then
      some false
    else
    law09.WorldRuns.l1 gt k0 k1 k0 u437 u438 u439 u440 u441 u442 (fun i => RiiiiiiiiiiL2.enc (u443 i)) u444 (fun i => Riiiiiiii.enc (u445 i)) u446 (fun i => Riiiii.enc (u447 i)) (delI u448 (Go.bits .and .i64 u464 15)) (fun i => bif i == (Go.bits .and .i64 u464 15) then Ri.enc 0 else Ri.enc (u449 i)) u450 (fun i => Rii.enc (u451 i)) u452 u453 u454 u455 u456 u457 u458 u459 u460 u461 u462 u463 u464 u465 u466 u467 u468 u469 u470 u471 u472 u473 u474 u475 u476 u477 u478 u479 u480 u481 u482 u450 u483 u484 (Go.bits .and .i64 u464 15) u488 (fun i => RiiiiiiiiiiiiiiiiiiiiiiiiiiiiiL2.enc (u489 i)) u490 u491
  else
  bif ((Go.bits .and .i64 u452 7) == 3) then
    bif (!((memI u450 (Go.bits .and .i64 u464 15)) == u487)) then
      some false
    else
    gateE gt (law09.WorldRuns.j2 gt k0 k1 u437 u438 u439 u440 u441 u442 (fun i => RiiiiiiiiiiL2.enc (u443 i)) u444 (fun i => Riiiiiiii.enc (u445 i)) u446 (fun i => Riiiii.enc (u447 i)) u448 (fun i => Ri.enc (u449 i)) (delI u450 (Go.bits .and .i64 u464 15)) (fun i => bif i == (Go.bits .and .i64 u464 15) then Rii.enc (0, 0) else Rii.enc (u451 i)) u483 u484 u488 (fun i => RiiiiiiiiiiiiiiiiiiiiiiiiiiiiiL2.enc (u489 i)) u490 u491)
  else
  (law09.Deed.Body.f (u452, u453, u454, u455, u456, u457, u458, u459, u460, u461, u462, u463, u464, u465, u466, u467, u468, u469, u470, u471, u472, u473, u474, u475, u476, u477, u478, u479, u480, (u481, u482))).bind fun r13 =>
  (law09.may.f (r13.1, r13.2.1, r13.2.2.1, r13.2.2.2.1, r13.2.2.2.2.1, r13.2.2.2.2.2.1, r13.2.2.2.2.2.2.1, r13.2.2.2.2.2.2.2.1, r13.2.2.2.2.2.2.2.2.1, r13.2.2.2.2.2.2.2.2.2.1, (r13.2.2.2.2.2.2.2.2.2.2.1, (fun i => Rii.enc (r13.2.2.2.2.2.2.2.2.2.2.2 i))))).bind fun r14 =>
  gateE gt (law09.WorldRuns.j3 gt k0 k1 u437 u438 u439 u440 u441 u442 (fun i => RiiiiiiiiiiL2.enc (u443 i)) u444 (fun i => Riiiiiiii.enc (u445 i)) u446 (fun i => Riiiii.enc (u447 i)) u448 (fun i => Ri.enc (u449 i)) u450 (fun i => Rii.enc (u451 i)) u483 u484 u485 u486 r14 u488 (fun i => RiiiiiiiiiiiiiiiiiiiiiiiiiiiiiL2.enc (u489 i)) u490 u491) := by kernel_rfl
theorem law09.WorldRuns.j2_eq (gt : Bool) (k0 k1 : Nat) (u492 : Int) (u493 : Int) (u494 : Int) (u495 : Int) (u496 : Int) (u497 : Nat) (u498 : Nat → (Int × Int × Int × Int × Int × Int × Int × Int × Int × Int × (Nat × (Nat → List AV)))) (u499 : Nat) (u500 : Nat → (Int × Int × Int × Int × Int × Int × Int × Int)) (u501 : Nat) (u502 : Nat → (Int × Int × Int × Int × Int)) (u503 : List Int) (u504 : Int → Int) (u505 : List Int) (u506 : Int → (Int × Int)) (u507 : Int) (u508 : Int) (u509 : Nat) (u510 : Nat → (Int × Int × Int × Int × Int × Int × Int × Int × Int × Int × Int × Int × Int × Int × Int × Int × Int × Int × Int × Int × Int × Int × Int × Int × Int × Int × Int × Int × Int × (Nat × (Nat → List AV)))) (u511 : Int) (u512 : Int) : law09.WorldRuns.j2 gt k0 k1 u492 u493 u494 u495 u496 u497 (fun i => RiiiiiiiiiiL2.enc (u498 i)) u499 (fun i => Riiiiiiii.enc (u500 i)) u501 (fun i => Riiiii.enc (u502 i)) u503 (fun i => Ri.enc (u504 i)) u505 (fun i => Rii.enc (u506 i)) u507 u508 u509 (fun i => RiiiiiiiiiiiiiiiiiiiiiiiiiiiiiL2.enc (u510 i)) u511 u512 =
  (world.Right.f (u492, u493, u494, u495, u496, (u497, (fun i => RiiiiiiiiiiL2.enc (u498 i))), (u499, (fun i => Riiiiiiii.enc (u500 i))), (u501, (fun i => Riiiii.enc (u502 i))))).bind fun r7 =>
  bif (!r7) then
    some false
  else
  bif (((u497 : Nat) : Int) != ((List.length u503 : Nat) : Int)) then
    some false
  else
  bif (((u499 : Nat) : Int) != ((List.length u505 : Nat) : Int)) then
    some false
  else
  bif (u493 != u507) then
    some false
  else
  bif (u494 != u508) then
    some false
  else
  law09.WorldRuns.l0 gt k0 k1 u492 u493 u494 u495 u496 u497 (fun i => RiiiiiiiiiiL2.enc (u498 i)) u499 (fun i => Riiiiiiii.enc (u500 i)) u501 (fun i => Riiiii.enc (u502 i)) u503 (fun i => Ri.enc (u504 i)) u505 (fun i => Rii.enc (u506 i)) u507 u508 u509 (fun i => RiiiiiiiiiiiiiiiiiiiiiiiiiiiiiL2.enc (u510 i)) u511 (IntKind.i64.wrap (u512 + 1)) := by kernel_rfl
theorem law09.WorldRuns.j3_eq (gt : Bool) (k0 k1 : Nat) (u513 : Int) (u514 : Int) (u515 : Int) (u516 : Int) (u517 : Int) (u518 : Nat) (u519 : Nat → (Int × Int × Int × Int × Int × Int × Int × Int × Int × Int × (Nat × (Nat → List AV)))) (u520 : Nat) (u521 : Nat → (Int × Int × Int × Int × Int × Int × Int × Int)) (u522 : Nat) (u523 : Nat → (Int × Int × Int × Int × Int)) (u524 : List Int) (u525 : Int → Int) (u526 : List Int) (u527 : Int → (Int × Int)) (u528 : Int) (u529 : Int) (u530 : Int) (u531 : Int) (u532 : Bool) (u533 : Nat) (u534 : Nat → (Int × Int × Int × Int × Int × Int × Int × Int × Int × Int × Int × Int × Int × Int × Int × Int × Int × Int × Int × Int × Int × Int × Int × Int × Int × Int × Int × Int × Int × (Nat × (Nat → List AV)))) (u535 : Int) (u536 : Int) : law09.WorldRuns.j3 gt k0 k1 u513 u514 u515 u516 u517 u518 (fun i => RiiiiiiiiiiL2.enc (u519 i)) u520 (fun i => Riiiiiiii.enc (u521 i)) u522 (fun i => Riiiii.enc (u523 i)) u524 (fun i => Ri.enc (u525 i)) u526 (fun i => Rii.enc (u527 i)) u528 u529 u530 u531 u532 u533 (fun i => RiiiiiiiiiiiiiiiiiiiiiiiiiiiiiL2.enc (u534 i)) u535 u536 =
  bif (!(u532 == (u531 == 0))) then
    some false
  else
  bif u532 then
    bif (u530 != u528) then
      some false
    else
    bif (!u532) then
      bif (u531 != 2) then
        some false
      else
      bif (u530 != 0) then
        some false
      else
      bif (u531 == 0) then
        gateE gt (law09.WorldRuns.j2 gt k0 k1 u513 u514 u515 u516 u517 u518 (fun i => RiiiiiiiiiiL2.enc (u519 i)) u520 (fun i => Riiiiiiii.enc (u521 i)) u522 (fun i => Riiiii.enc (u523 i)) (putI u524 u530) (fun i => bif i == u530 then Ri.enc 1 else Ri.enc (u525 i)) u526 (fun i => Rii.enc (u527 i)) (IntKind.i64.wrap (u528 + 1)) u529 u533 (fun i => RiiiiiiiiiiiiiiiiiiiiiiiiiiiiiL2.enc (u534 i)) u535 u536)
      else
      gateE gt (law09.WorldRuns.j2 gt k0 k1 u513 u514 u515 u516 u517 u518 (fun i => RiiiiiiiiiiL2.enc (u519 i)) u520 (fun i => Riiiiiiii.enc (u521 i)) u522 (fun i => Riiiii.enc (u523 i)) u524 (fun i => Ri.enc (u525 i)) u526 (fun i => Rii.enc (u527 i)) u528 u529 u533 (fun i => RiiiiiiiiiiiiiiiiiiiiiiiiiiiiiL2.enc (u534 i)) u535 u536)
    else
    bif (u531 == 0) then
      gateE gt (law09.WorldRuns.j2 gt k0 k1 u513 u514 u515 u516 u517 u518 (fun i => RiiiiiiiiiiL2.enc (u519 i)) u520 (fun i => Riiiiiiii.enc (u521 i)) u522 (fun i => Riiiii.enc (u523 i)) (putI u524 u530) (fun i => bif i == u530 then Ri.enc 1 else Ri.enc (u525 i)) u526 (fun i => Rii.enc (u527 i)) (IntKind.i64.wrap (u528 + 1)) u529 u533 (fun i => RiiiiiiiiiiiiiiiiiiiiiiiiiiiiiL2.enc (u534 i)) u535 u536)
    else
    gateE gt (law09.WorldRuns.j2 gt k0 k1 u513 u514 u515 u516 u517 u518 (fun i => RiiiiiiiiiiL2.enc (u519 i)) u520 (fun i => Riiiiiiii.enc (u521 i)) u522 (fun i => Riiiii.enc (u523 i)) u524 (fun i => Ri.enc (u525 i)) u526 (fun i => Rii.enc (u527 i)) u528 u529 u533 (fun i => RiiiiiiiiiiiiiiiiiiiiiiiiiiiiiL2.enc (u534 i)) u535 u536)
  else
  bif (!u532) then
    bif (u531 != 2) then
      some false
    else
    bif (u530 != 0) then
      some false
    else
    bif (u531 == 0) then
      gateE gt (law09.WorldRuns.j2 gt k0 k1 u513 u514 u515 u516 u517 u518 (fun i => RiiiiiiiiiiL2.enc (u519 i)) u520 (fun i => Riiiiiiii.enc (u521 i)) u522 (fun i => Riiiii.enc (u523 i)) (putI u524 u530) (fun i => bif i == u530 then Ri.enc 1 else Ri.enc (u525 i)) u526 (fun i => Rii.enc (u527 i)) (IntKind.i64.wrap (u528 + 1)) u529 u533 (fun i => RiiiiiiiiiiiiiiiiiiiiiiiiiiiiiL2.enc (u534 i)) u535 u536)
    else
    gateE gt (law09.WorldRuns.j2 gt k0 k1 u513 u514 u515 u516 u517 u518 (fun i => RiiiiiiiiiiL2.enc (u519 i)) u520 (fun i => Riiiiiiii.enc (u521 i)) u522 (fun i => Riiiii.enc (u523 i)) u524 (fun i => Ri.enc (u525 i)) u526 (fun i => Rii.enc (u527 i)) u528 u529 u533 (fun i => RiiiiiiiiiiiiiiiiiiiiiiiiiiiiiL2.enc (u534 i)) u535 u536)
  else
  bif (u531 == 0) then
    gateE gt (law09.WorldRuns.j2 gt k0 k1 u513 u514 u515 u516 u517 u518 (fun i => RiiiiiiiiiiL2.enc (u519 i)) u520 (fun i => Riiiiiiii.enc (u521 i)) u522 (fun i => Riiiii.enc (u523 i)) (putI u524 u530) (fun i => bif i == u530 then Ri.enc 1 else Ri.enc (u525 i)) u526 (fun i => Rii.enc (u527 i)) (IntKind.i64.wrap (u528 + 1)) u529 u533 (fun i => RiiiiiiiiiiiiiiiiiiiiiiiiiiiiiL2.enc (u534 i)) u535 u536)
  else
  gateE gt (law09.WorldRuns.j2 gt k0 k1 u513 u514 u515 u516 u517 u518 (fun i => RiiiiiiiiiiL2.enc (u519 i)) u520 (fun i => Riiiiiiii.enc (u521 i)) u522 (fun i => Riiiii.enc (u523 i)) u524 (fun i => Ri.enc (u525 i)) u526 (fun i => Rii.enc (u527 i)) u528 u529 u533 (fun i => RiiiiiiiiiiiiiiiiiiiiiiiiiiiiiL2.enc (u534 i)) u535 u536) := by kernel_rfl
theorem law09.WorldRuns.l1_eq (gt : Bool) (k0 k1 k2 : Nat) (v1 : Int) (v2 : Int) (v3 : Int) (v4 : Int) (v5 : Int) (v6 : Nat) (v7 : Nat → (Int × Int × Int × Int × Int × Int × Int × Int × Int × Int × (Nat × (Nat → List AV)))) (v8 : Nat) (v9 : Nat → (Int × Int × Int × Int × Int × Int × Int × Int)) (v10 : Nat) (v11 : Nat → (Int × Int × Int × Int × Int)) (v12 : List Int) (v13 : Int → Int) (v14 : List Int) (v15 : Int → (Int × Int)) (v16 : Int) (v17 : Int) (v18 : Int) (v19 : Int) (v20 : Int) (v21 : Int) (v22 : Int) (v23 : Int) (v24 : Int) (v25 : Int) (v26 : Int) (v27 : Int) (v28 : Int) (v29 : Int) (v30 : Int) (v31 : Int) (v32 : Int) (v33 : Int) (v34 : Int) (v35 : Int) (v36 : Int) (v37 : Int) (v38 : Int) (v39 : Int) (v40 : Int) (v41 : Int) (v42 : Int) (v43 : Int) (v44 : Int) (v45 : Nat) (v46 : Nat → List AV) (v47 : List Int) (v48 : Int) (v49 : Int) (v50 : Int) (v51 : Nat) (v52 : Nat → (Int × Int × Int × Int × Int × Int × Int × Int × Int × Int × Int × Int × Int × Int × Int × Int × Int × Int × Int × Int × Int × Int × Int × Int × Int × Int × Int × Int × Int × (Nat × (Nat → List AV)))) (v53 : Int) (v54 : Int) : law09.WorldRuns.l1 gt k0 k1 (k2 + 1) v1 v2 v3 v4 v5 v6 (fun i => RiiiiiiiiiiL2.enc (v7 i)) v8 (fun i => Riiiiiiii.enc (v9 i)) v10 (fun i => Riiiii.enc (v11 i)) v12 (fun i => Ri.enc (v13 i)) v14 (fun i => Rii.enc (v15 i)) v16 v17 v18 v19 v20 v21 v22 v23 v24 v25 v26 v27 v28 v29 v30 v31 v32 v33 v34 v35 v36 v37 v38 v39 v40 v41 v42 v43 v44 v45 v46 v47 v48 v49 v50 v51 (fun i => RiiiiiiiiiiiiiiiiiiiiiiiiiiiiiL2.enc (v52 i)) v53 v54 =
  nextK v47 (fun r8 =>
    bif ((v15 r8).1 == v50) then
      law09.WorldRuns.l1 gt k0 k1 k2 v1 v2 v3 v4 v5 v6 (fun i => RiiiiiiiiiiL2.enc (v7 i)) v8 (fun i => Riiiiiiii.enc (v9 i)) v10 (fun i => Riiiii.enc (v11 i)) v12 (fun i => Ri.enc (v13 i)) (delI v14 r8) (fun i => bif i == r8 then Rii.enc (0, 0) else Rii.enc (v15 i)) v16 v17 v18 v19 v20 v21 v22 v23 v24 v25 v26 v27 v28 v29 v30 v31 v32 v33 v34 v35 v36 v37 v38 v39 v40 v41 v42 v43 v44 v45 v46 (delI (delI v47 r8) r8) v48 v49 v50 v51 (fun i => RiiiiiiiiiiiiiiiiiiiiiiiiiiiiiL2.enc (v52 i)) v53 v54
    else
    bif ((v15 r8).2 == v50) then
      law09.WorldRuns.l1 gt k0 k1 k2 v1 v2 v3 v4 v5 v6 (fun i => RiiiiiiiiiiL2.enc (v7 i)) v8 (fun i => Riiiiiiii.enc (v9 i)) v10 (fun i => Riiiii.enc (v11 i)) v12 (fun i => Ri.enc (v13 i)) (delI v14 r8) (fun i => bif i == r8 then Rii.enc (0, 0) else Rii.enc (v15 i)) v16 v17 v18 v19 v20 v21 v22 v23 v24 v25 v26 v27 v28 v29 v30 v31 v32 v33 v34 v35 v36 v37 v38 v39 v40 v41 v42 v43 v44 v45 v46 (delI (delI v47 r8) r8) v48 v49 v50 v51 (fun i => RiiiiiiiiiiiiiiiiiiiiiiiiiiiiiL2.enc (v52 i)) v53 v54
    else
    law09.WorldRuns.l1 gt k0 k1 k2 v1 v2 v3 v4 v5 v6 (fun i => RiiiiiiiiiiL2.enc (v7 i)) v8 (fun i => Riiiiiiii.enc (v9 i)) v10 (fun i => Riiiii.enc (v11 i)) v12 (fun i => Ri.enc (v13 i)) v14 (fun i => Rii.enc (v15 i)) v16 v17 v18 v19 v20 v21 v22 v23 v24 v25 v26 v27 v28 v29 v30 v31 v32 v33 v34 v35 v36 v37 v38 v39 v40 v41 v42 v43 v44 v45 v46 (delI v47 r8) v48 v49 v50 v51 (fun i => RiiiiiiiiiiiiiiiiiiiiiiiiiiiiiL2.enc (v52 i)) v53 v54) (
    gateE gt (law09.WorldRuns.j2 gt k0 k1 v1 v2 v3 v4 v5 v6 (fun i => RiiiiiiiiiiL2.enc (v7 i)) v8 (fun i => Riiiiiiii.enc (v9 i)) v10 (fun i => Riiiii.enc (v11 i)) v12 (fun i => Ri.enc (v13 i)) v14 (fun i => Rii.enc (v15 i)) v48 v49 v51 (fun i => RiiiiiiiiiiiiiiiiiiiiiiiiiiiiiL2.enc (v52 i)) v53 v54)) := by kernel_rfl
theorem law09.WorldRuns.l2_eq (gt : Bool) (k0 k1 : Nat) (v1 : Int) (v2 : Int) (v3 : Int) (v4 : Int) (v5 : Int) (v6 : Nat) (v7 : Nat → (Int × Int × Int × Int × Int × Int × Int × Int × Int × Int × (Nat × (Nat → List AV)))) (v8 : Nat) (v9 : Nat → (Int × Int × Int × Int × Int × Int × Int × Int)) (v10 : Nat) (v11 : Nat → (Int × Int × Int × Int × Int)) (v12 : List Int) (v13 : Int → Int) (v14 : List Int) (v15 : Int → (Int × Int)) (v16 : Int) (v17 : Int) : law09.WorldRuns.l2 gt k0 (k1 + 1) v1 v2 v3 v4 v5 v6 (fun i => RiiiiiiiiiiL2.enc (v7 i)) v8 (fun i => Riiiiiiii.enc (v9 i)) v10 (fun i => Riiiii.enc (v11 i)) v12 (fun i => Ri.enc (v13 i)) v14 (fun i => Rii.enc (v15 i)) v16 v17 =
  bif (decide (v17 < (IntKind.i64.wrap (v16 + 2)))) then
    (world.Body.f ((v1, v2, v3, v4, v5, (v6, (fun i => RiiiiiiiiiiL2.enc (v7 i))), (v8, (fun i => Riiiiiiii.enc (v9 i))), (v10, (fun i => Riiiii.enc (v11 i)))), v17)).bind fun r25 =>
    (world.Joint.f ((v1, v2, v3, v4, v5, (v6, (fun i => RiiiiiiiiiiL2.enc (v7 i))), (v8, (fun i => Riiiiiiii.enc (v9 i))), (v10, (fun i => Riiiii.enc (v11 i)))), v17)).bind fun r26 =>
    bif (!(r25.2 == (decide ((v13 v17) > 0)))) then
      some false
    else
    bif r25.2 then
      bif ((decide (0 ≤ r25.1)) && (decide (r25.1 < ((v6 : Nat) : Int)))) then
      bif ((v7 (Int.toNat r25.1)).1 != v17) then
        some false
      else
      bif (!r25.2) then
        bif (r25.1 != 0) then
          some false
        else
        bif (!(r26.2 == (memI v14 v17))) then
          some false
        else
        bif r26.2 then
          bif ((decide (0 ≤ r26.1)) && (decide (r26.1 < ((v8 : Nat) : Int)))) then
          bif ((v9 (Int.toNat r26.1)).1 != v17) then
            some false
          else
          law09.WorldRuns.l2 gt k0 k1 v1 v2 v3 v4 v5 v6 (fun i => RiiiiiiiiiiL2.enc (v7 i)) v8 (fun i => Riiiiiiii.enc (v9 i)) v10 (fun i => Riiiii.enc (v11 i)) v12 (fun i => Ri.enc (v13 i)) v14 (fun i => Rii.enc (v15 i)) v16 (IntKind.i64.wrap (v17 + 1))
          else none
        else
        law09.WorldRuns.l2 gt k0 k1 v1 v2 v3 v4 v5 v6 (fun i => RiiiiiiiiiiL2.enc (v7 i)) v8 (fun i => Riiiiiiii.enc (v9 i)) v10 (fun i => Riiiii.enc (v11 i)) v12 (fun i => Ri.enc (v13 i)) v14 (fun i => Rii.enc (v15 i)) v16 (IntKind.i64.wrap (v17 + 1))
      else
      bif (!(r26.2 == (memI v14 v17))) then
        some false
      else
      bif r26.2 then
        bif ((decide (0 ≤ r26.1)) && (decide (r26.1 < ((v8 : Nat) : Int)))) then
        bif ((v9 (Int.toNat r26.1)).1 != v17) then
          some false
        else
        law09.WorldRuns.l2 gt k0 k1 v1 v2 v3 v4 v5 v6 (fun i => RiiiiiiiiiiL2.enc (v7 i)) v8 (fun i => Riiiiiiii.enc (v9 i)) v10 (fun i => Riiiii.enc (v11 i)) v12 (fun i => Ri.enc (v13 i)) v14 (fun i => Rii.enc (v15 i)) v16 (IntKind.i64.wrap (v17 + 1))
        else none
      else
      law09.WorldRuns.l2 gt k0 k1 v1 v2 v3 v4 v5 v6 (fun i => RiiiiiiiiiiL2.enc (v7 i)) v8 (fun i => Riiiiiiii.enc (v9 i)) v10 (fun i => Riiiii.enc (v11 i)) v12 (fun i => Ri.enc (v13 i)) v14 (fun i => Rii.enc (v15 i)) v16 (IntKind.i64.wrap (v17 + 1))
      else none
    else
    bif (!r25.2) then
      bif (r25.1 != 0) then
        some false
      else
      bif (!(r26.2 == (memI v14 v17))) then
        some false
      else
      bif r26.2 then
        bif ((decide (0 ≤ r26.1)) && (decide (r26.1 < ((v8 : Nat) : Int)))) then
        bif ((v9 (Int.toNat r26.1)).1 != v17) then
          some false
        else
        law09.WorldRuns.l2 gt k0 k1 v1 v2 v3 v4 v5 v6 (fun i => RiiiiiiiiiiL2.enc (v7 i)) v8 (fun i => Riiiiiiii.enc (v9 i)) v10 (fun i => Riiiii.enc (v11 i)) v12 (fun i => Ri.enc (v13 i)) v14 (fun i => Rii.enc (v15 i)) v16 (IntKind.i64.wrap (v17 + 1))
        else none
      else
      law09.WorldRuns.l2 gt k0 k1 v1 v2 v3 v4 v5 v6 (fun i => RiiiiiiiiiiL2.enc (v7 i)) v8 (fun i => Riiiiiiii.enc (v9 i)) v10 (fun i => Riiiii.enc (v11 i)) v12 (fun i => Ri.enc (v13 i)) v14 (fun i => Rii.enc (v15 i)) v16 (IntKind.i64.wrap (v17 + 1))
    else
    bif (!(r26.2 == (memI v14 v17))) then
      some false
    else
    bif r26.2 then
      bif ((decide (0 ≤ r26.1)) && (decide (r26.1 < ((v8 : Nat) : Int)))) then
      bif ((v9 (Int.toNat r26.1)).1 != v17) then
        some false
      else
      law09.WorldRuns.l2 gt k0 k1 v1 v2 v3 v4 v5 v6 (fun i => RiiiiiiiiiiL2.enc (v7 i)) v8 (fun i => Riiiiiiii.enc (v9 i)) v10 (fun i => Riiiii.enc (v11 i)) v12 (fun i => Ri.enc (v13 i)) v14 (fun i => Rii.enc (v15 i)) v16 (IntKind.i64.wrap (v17 + 1))
      else none
    else
    law09.WorldRuns.l2 gt k0 k1 v1 v2 v3 v4 v5 v6 (fun i => RiiiiiiiiiiL2.enc (v7 i)) v8 (fun i => Riiiiiiii.enc (v9 i)) v10 (fun i => Riiiii.enc (v11 i)) v12 (fun i => Ri.enc (v13 i)) v14 (fun i => Rii.enc (v15 i)) v16 (IntKind.i64.wrap (v17 + 1))
  else
  some true := by kernel_rfl
theorem law09.WorldRuns.l0_eq (gt : Bool) (k0 k1 : Nat) (v1 : Int) (v2 : Int) (v3 : Int) (v4 : Int) (v5 : Int) (v6 : Nat) (v7 : Nat → (Int × Int × Int × Int × Int × Int × Int × Int × Int × Int × (Nat × (Nat → List AV)))) (v8 : Nat) (v9 : Nat → (Int × Int × Int × Int × Int × Int × Int × Int)) (v10 : Nat) (v11 : Nat → (Int × Int × Int × Int × Int)) (v12 : List Int) (v13 : Int → Int) (v14 : List Int) (v15 : Int → (Int × Int)) (v16 : Int) (v17 : Int) (v18 : Nat) (v19 : Nat → (Int × Int × Int × Int × Int × Int × Int × Int × Int × Int × Int × Int × Int × Int × Int × Int × Int × Int × Int × Int × Int × Int × Int × Int × Int × Int × Int × Int × Int × (Nat × (Nat → List AV)))) (v20 : Int) (v21 : Int) : law09.WorldRuns.l0 gt k0 (k1 + 1) v1 v2 v3 v4 v5 v6 (fun i => RiiiiiiiiiiL2.enc (v7 i)) v8 (fun i => Riiiiiiii.enc (v9 i)) v10 (fun i => Riiiii.enc (v11 i)) v12 (fun i => Ri.enc (v13 i)) v14 (fun i => Rii.enc (v15 i)) v16 v17 v18 (fun i => RiiiiiiiiiiiiiiiiiiiiiiiiiiiiiL2.enc (v19 i)) v20 v21 =
  bif (decide (v21 < v20)) then
    bif ((decide (0 ≤ v21)) && (decide (v21 < ((v18 : Nat) : Int)))) then
    gateE gt (law09.WorldRuns.j0 gt k0 k1 v1 v2 v3 v4 v5 v6 (fun i => RiiiiiiiiiiL2.enc (v7 i)) v8 (fun i => Riiiiiiii.enc (v9 i)) v10 (fun i => Riiiii.enc (v11 i)) v12 (fun i => Ri.enc (v13 i)) v14 (fun i => Rii.enc (v15 i)) (v19 (Int.toNat v21)).1 (v19 (Int.toNat v21)).2.1 (v19 (Int.toNat v21)).2.2.1 (v19 (Int.toNat v21)).2.2.2.1 (v19 (Int.toNat v21)).2.2.2.2.1 (v19 (Int.toNat v21)).2.2.2.2.2.1 (v19 (Int.toNat v21)).2.2.2.2.2.2.1 (v19 (Int.toNat v21)).2.2.2.2.2.2.2.1 (v19 (Int.toNat v21)).2.2.2.2.2.2.2.2.1 (v19 (Int.toNat v21)).2.2.2.2.2.2.2.2.2.1 (v19 (Int.toNat v21)).2.2.2.2.2.2.2.2.2.2.1 (v19 (Int.toNat v21)).2.2.2.2.2.2.2.2.2.2.2.1 (v19 (Int.toNat v21)).2.2.2.2.2.2.2.2.2.2.2.2.1 (v19 (Int.toNat v21)).2.2.2.2.2.2.2.2.2.2.2.2.2.1 (v19 (Int.toNat v21)).2.2.2.2.2.2.2.2.2.2.2.2.2.2.1 (v19 (Int.toNat v21)).2.2.2.2.2.2.2.2.2.2.2.2.2.2.2.1 (v19 (Int.toNat v21)).2.2.2.2.2.2.2.2.2.2.2.2.2.2.2.2.1 (v19 (Int.toNat v21)).2.2.2.2.2.2.2.2.2.2.2.2.2.2.2.2.2.1 (v19 (Int.toNat v21)).2.2.2.2.2.2.2.2.2.2.2.2.2.2.2.2.2.2.1 (v19 (Int.toNat v21)).2.2.2.2.2.2.2.2.2.2.2.2.2.2.2.2.2.2.2.1 (v19 (Int.toNat v21)).2.2.2.2.2.2.2.2.2.2.2.2.2.2.2.2.2.2.2.2.1 (v19 (Int.toNat v21)).2.2.2.2.2.2.2.2.2.2.2.2.2.2.2.2.2.2.2.2.2.1 (v19 (Int.toNat v21)).2.2.2.2.2.2.2.2.2.2.2.2.2.2.2.2.2.2.2.2.2.2.1 (v19 (Int.toNat v21)).2.2.2.2.2.2.2.2.2.2.2.2.2.2.2.2.2.2.2.2.2.2.2.1 (v19 (Int.toNat v21)).2.2.2.2.2.2.2.2.2.2.2.2.2.2.2.2.2.2.2.2.2.2.2.2.1 (v19 (Int.toNat v21)).2.2.2.2.2.2.2.2.2.2.2.2.2.2.2.2.2.2.2.2.2.2.2.2.2.1 (v19 (Int.toNat v21)).2.2.2.2.2.2.2.2.2.2.2.2.2.2.2.2.2.2.2.2.2.2.2.2.2.2.1 (v19 (Int.toNat v21)).2.2.2.2.2.2.2.2.2.2.2.2.2.2.2.2.2.2.2.2.2.2.2.2.2.2.2.1 (v19 (Int.toNat v21)).2.2.2.2.2.2.2.2.2.2.2.2.2.2.2.2.2.2.2.2.2.2.2.2.2.2.2.2.1 (v19 (Int.toNat v21)).2.2.2.2.2.2.2.2.2.2.2.2.2.2.2.2.2.2.2.2.2.2.2.2.2.2.2.2.2.1 (v19 (Int.toNat v21)).2.2.2.2.2.2.2.2.2.2.2.2.2.2.2.2.2.2.2.2.2.2.2.2.2.2.2.2.2.2 v16 v17 v18 (fun i => RiiiiiiiiiiiiiiiiiiiiiiiiiiiiiL2.enc (v19 i)) v20 v21)
    else none
  else
  law09.WorldRuns.l2 gt k0 k0 v1 v2 v3 v4 v5 v6 (fun i => RiiiiiiiiiiL2.enc (v7 i)) v8 (fun i => Riiiiiiii.enc (v9 i)) v10 (fun i => Riiiii.enc (v11 i)) v12 (fun i => Ri.enc (v13 i)) v14 (fun i => Rii.enc (v15 i)) v16 (-1) := by kernel_rfl
theorem law09.WorldRuns.eq (gt : Bool) (k0 : Nat) (p0_n : Nat) (p0_g : Nat → (Int × Int × Int × Int × Int × Int × Int × Int × Int × Int × Int × Int × Int × Int × Int × Int × Int × Int × Int × Int × Int × Int × Int × Int × Int × Int × Int × Int × Int × (Nat × (Nat → List AV)))) : law09.WorldRuns.g gt k0 (p0_n, (fun i => RiiiiiiiiiiiiiiiiiiiiiiiiiiiiiL2.enc (p0_g i))) =
  (law09.fit.f ()).bind fun r1 =>
  bif (!r1) then
    some false
  else
  bif (decide (((p0_n : Nat) : Int) > 30)) then
    some true
  else
  (world.New.f ()).bind fun r2 =>
  law09.WorldRuns.l0 gt k0 k0 r2.1 r2.2.1 r2.2.2.1 r2.2.2.2.1 r2.2.2.2.2.1 r2.2.2.2.2.2.1.1 (fun i => RiiiiiiiiiiL2.enc (r2.2.2.2.2.2.1.2 i)) r2.2.2.2.2.2.2.1.1 (fun i => Riiiiiiii.enc (r2.2.2.2.2.2.2.1.2 i)) r2.2.2.2.2.2.2.2.1 (fun i => Riiiii.enc (r2.2.2.2.2.2.2.2.2 i)) [] (fun _ => Ri.enc 0) [] (fun _ => Rii.enc (0, 0)) 1 1 p0_n (fun i => RiiiiiiiiiiiiiiiiiiiiiiiiiiiiiL2.enc (p0_g i)) ((p0_n : Nat) : Int) 0 := by kernel_rfl
end Go.Proofs.Ytbcnifnmccaleaa.E
