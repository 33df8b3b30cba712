/-
  Contracts of the program's functions for the statements Serial, by the rules of the logic. Conditions: none but those in the theorems.
-/
import Derived.Test.YtjkpoekgnmgofaaGreatQSE1
set_option maxHeartbeats 4000000
set_option maxRecDepth 100000
namespace Go.Proofs.YtjkpoekgnmgofaaGreat
open Go.RowKit
open Go.Proofs
set_option linter.unusedVariables false
set_option linter.unusedSimpArgs false

theorem a3z {α : Type} [Inhabited α] {enc : α → List DV} {xs : List α} {k : Nat} (hk : k < xs.length) : (xs.take k).flatMap enc ++ enc (xs.getD (k : Int).toNat default) = (xs.take (k + 1)).flatMap enc ∧ (xs.take k).length + 1 = (xs.take (k + 1)).length := by
 have e : xs.getD (k : Int).toNat default = xs[k] := by simp [List.getD, List.getElem?_eq_getElem hk]
 rw [List.take_add_one, List.getElem?_eq_getElem hk, e]
 simp only [Option.toList_some, List.flatMap_append, List.flatMap_cons, List.flatMap_nil, List.append_nil, List.length_append, List.length_singleton]
 exact ⟨trivial, trivial⟩
theorem b6j (o : OpT) : o.2.2.2.1.length ≤ wOp o := by unfold wOp a5E a1a; omega

theorem c4F {x : List OpT} (hb : a1a wOp x ≤ 1099511627776) : KFn Tryz.prog 71 [.one (.dv [] (a1m (x)))] (.one (.key 6)) [(6, some (a0b false (a1m (x))))] := by
 refine ⟨a0R Tryz.func71 rfl Tryz.ntmps71 Tryz.results71 rfl (fun C => ?_)⟩
 have hwl : a1a wOp x = x.length + a0D wOp x := rfl
 refine a1i (x := .tmp 0) (a0a rfl) fun f0 => ?_
 iterate 4 refine z ?_
 refine a3p (k := 6) hT rfl rfl rfl rfl rfl rfl rfl rfl ?_
 iterate 9 refine z ?_
 refine a1f (ι := Nat) (fun zz => ⟨[(2, .one .nil), (3, .one (.key 6)), (7, .one (.dv [] (a1m (x)))), (8, .one (.dv [] (.int .i64 ((((x)).length : Int))))), (9, .one (.dv [] (.int .i64 ((zz : Int)))))], [], [(6, some (a0b false (.sl 68 7 ((x.take zz).length) ((x.take zz).flatMap eOp))))]⟩) (fun zz => zz ≤ x.length) (fun zz => x.length - zz) (0) ?_ (a0e ⟨rfl, rfl, rfl, rfl, rfl, trivial⟩ trivial ⟨rfl, trivial⟩ rfl) (fun zz hx => ?_)
 ·exact Nat.zero_le _
 obtain ⟨k, rfl⟩ : ∃ v, v = zz := ⟨_, rfl⟩
 replace hx : k ≤ x.length := hx
 have hw := fun h => a3j wOp x k h
 show Ok _ _ _ _ _ (⟨[(2, .one .nil), (3, .one (.key 6)), (7, .one (.dv [] (a1m (x)))), (8, .one (.dv [] (.int .i64 ((((x)).length : Int))))), (9, .one (.dv [] (.int .i64 ((k : Int)))))], [], [(6, some (a0b false (.sl 68 7 ((x.take k).length) ((x.take k).flatMap eOp))))]⟩ : St)
 iterate 3 refine z ?_
 refine a0p ?_
 refine yQ rfl (fun c1 => ?_) fun c1 => ?_
 ·have d1 := of_decide_eq_true c1
  have hk2 : k < x.length := by omega
  obtain ⟨hw1, hw2⟩ := hw hk2
  have hrec := b6j (x.getD (k : Int).toNat default)
  iterate 13 refine z ?_
  refine zK 697 Tryz.call74 ?_ (hf := a7s (x := (((x)).getD ((k : Int)).toNat default).2.2.2.1) (by omega))
  iterate 3 refine z ?_
  refine a0o ?_
  iterate 2 refine z ?_
  refine a4b (k := 19) (js := [700]) hT rfl rfl rfl rfl rfl rfl rfl rfl rfl (a0a rfl) rfl rfl (a0q (a0B rfl) (a0q (a0B rfl) (a0q (a0B rfl) (a0q (a0B rfl) (a0q (a0B rfl) (a0q (a2b rfl) (a0q (a0B rfl) a1t rfl) rfl) rfl) rfl) rfl) rfl) rfl) (by decide) (by decide) rfl rfl ?_
  simp only [a0l, a0i, SV.kill, CV.kill, kk, Nat.reduceBEq]
  refine a2z (k := 6) (j := 19) (cs := (x.take (k + 1)).flatMap eOp) (n := (x.take (k + 1)).length) hT rfl rfl rfl rfl rfl rfl rfl (a0a rfl) rfl rfl rfl (a0a rfl) rfl rfl (by decide) (by dsimp only [a0b]; simp only [List.length_take]; omega) (by dsimp only [a0b]; simp only [List.length_take]; omega) ((a3z (enc := eOp) hk2).2) ((a3z (enc := eOp) hk2).1) ?_
  simp only [a0l, a0i, SV.kill, CV.kill, kk, Nat.reduceBEq]
  refine z ?_
  refine a1z ?_
  iterate 2 refine z ?_
  refine a0o ?_
  iterate 3 refine z ?_
  refine ⟨k + 1, ?_, ?_, a0e ⟨rfl, rfl, rfl, rfl, rfl, trivial⟩ trivial ⟨rfl, trivial⟩ rfl⟩
  ·omega
  ·omega
 ·have d1 := of_decide_eq_false c1
  iterate 9 refine z ?_
  refine a0h (σ' := ⟨[(2, .one (.key 6))], [], [(6, some (a0b false (a1m (x))))]⟩) (a0e ⟨rfl, trivial⟩ trivial ⟨(congrArg (fun l : List (OpT) => some (some (KC.mk false 68 7 l.length (l.flatMap eOp)))) (List.take_of_length_le (by omega))), trivial⟩ rfl) ?_
  refine z ?_
  refine a1x (a0v rfl) ?_
  exact ⟨rfl, rfl⟩
theorem b2D {x : List OpT} (hb : a1a wOp x ≤ 1099511627776) : KFn Tryz.prog 69 [.one (.dv [] (a1m (x)))] (.one (.key 6)) [(6, some (a0b false (a1m (x))))] := by
 refine ⟨a0R Tryz.func69 rfl Tryz.ntmps69 Tryz.results69 rfl (fun C => ?_)⟩
 have hwl : a1a wOp x = x.length + a0D wOp x := rfl
 refine a1i (x := .tmp 0) (a0a rfl) fun f0 => ?_
 iterate 4 refine z ?_
 refine a3p (k := 6) hT rfl rfl rfl rfl rfl rfl rfl rfl ?_
 iterate 7 refine z ?_
 refine a1f (ι := Nat) (fun zz => ⟨[(0, .one (.dv [] (a1m (x)))), (2, .one .nil), (3, .one (.key 6)), (4, .one (.dv [] (.int .i64 ((zz : Int)))))], [], [(6, some (a0b false (.sl 68 7 ((x.take zz).length) ((x.take zz).flatMap eOp))))]⟩) (fun zz => zz ≤ x.length) (fun zz => x.length - zz) (0) ?_ (a0e ⟨rfl, rfl, rfl, rfl, trivial⟩ trivial ⟨rfl, trivial⟩ rfl) (fun zz hx => ?_)
 ·exact Nat.zero_le _
 obtain ⟨k, rfl⟩ : ∃ v, v = zz := ⟨_, rfl⟩
 replace hx : k ≤ x.length := hx
 have hw := fun h => a3j wOp x k h
 show Ok _ _ _ _ _ (⟨[(0, .one (.dv [] (a1m (x)))), (2, .one .nil), (3, .one (.key 6)), (4, .one (.dv [] (.int .i64 ((k : Int)))))], [], [(6, some (a0b false (.sl 68 7 ((x.take k).length) ((x.take k).flatMap eOp))))]⟩ : St)
 iterate 7 refine z ?_
 refine yQ rfl (fun c1 => ?_) fun c1 => ?_
 ·have d1 := of_decide_eq_true c1
  have hk2 : k < x.length := by omega
  obtain ⟨hw1, hw2⟩ := hw hk2
  have hrec := b6j (x.getD (k : Int).toNat default)
  iterate 18 refine z ?_
  refine zK 697 Tryz.call107 ?_ (hf := a7o (x := (((x)).getD ((k : Int)).toNat default).2.2.2.1) (by omega))
  iterate 3 refine z ?_
  refine a0o ?_
  iterate 2 refine z ?_
  refine a4b (k := 26) (js := [700]) hT rfl rfl rfl rfl rfl rfl rfl rfl rfl (a0a rfl) rfl rfl (a0q (a0B rfl) (a0q (a0B rfl) (a0q (a0B rfl) (a0q (a0B rfl) (a0q (a0B rfl) (a0q (a2b rfl) (a0q (a0B rfl) a1t rfl) rfl) rfl) rfl) rfl) rfl) rfl) (by decide) (by decide) rfl rfl ?_
  simp only [a0l, a0i, SV.kill, CV.kill, kk, Nat.reduceBEq]
  refine a2z (k := 6) (j := 26) (cs := (x.take (k + 1)).flatMap eOp) (n := (x.take (k + 1)).length) hT rfl rfl rfl rfl rfl rfl rfl (a0a rfl) rfl rfl rfl (a0a rfl) rfl rfl (by decide) (by dsimp only [a0b]; simp only [List.length_take]; omega) (by dsimp only [a0b]; simp only [List.length_take]; omega) ((a3z (enc := eOp) hk2).2) ((a3z (enc := eOp) hk2).1) ?_
  simp only [a0l, a0i, SV.kill, CV.kill, kk, Nat.reduceBEq]
  refine z ?_
  refine a1z ?_
  iterate 2 refine z ?_
  refine a0o ?_
  iterate 4 refine z ?_
  refine ⟨k + 1, ?_, ?_, a0e ⟨rfl, rfl, rfl, rfl, trivial⟩ trivial ⟨rfl, trivial⟩ rfl⟩
  ·omega
  ·omega
 ·have d1 := of_decide_eq_false c1
  iterate 9 refine z ?_
  refine a0h (σ' := ⟨[(2, .one (.key 6))], [], [(6, some (a0b false (a1m (x))))]⟩) (a0e ⟨rfl, trivial⟩ trivial ⟨(congrArg (fun l : List (OpT) => some (some (KC.mk false 68 7 l.length (l.flatMap eOp)))) (List.take_of_length_le (by omega))), trivial⟩ rfl) ?_
  refine z ?_
  refine a1x (a0v rfl) ?_
  exact ⟨rfl, rfl⟩
theorem b9C {x : List a0u} (hb : a1a a0X x ≤ 1099511627776) : KFn Tryz.prog 106 [.one (.dv [] (a0k (x)))] (.one (.key 5)) [(5, some (a0b false (a0k (x))))] := by
 refine ⟨a0R Tryz.func106 rfl Tryz.ntmps106 Tryz.results106 rfl (fun C => ?_)⟩
 have hwl : a1a a0X x = x.length + a0D a0X x := rfl
 refine a1i (x := .tmp 0) (a0a rfl) fun f0 => ?_
 iterate 4 refine z ?_
 refine a3p (k := 5) hT rfl rfl rfl rfl rfl rfl rfl rfl ?_
 iterate 7 refine z ?_
 refine a1f (ι := Nat) (fun zz => ⟨[(0, .one (.dv [] (a0k (x)))), (2, .one .nil), (3, .one (.key 5)), (4, .one (.dv [] (.int .i64 ((zz : Int)))))], [], [(5, some (a0b false (.sl 60 3 ((x.take zz).length) ((x.take zz).flatMap a0T))))]⟩) (fun zz => zz ≤ x.length) (fun zz => x.length - zz) (0) ?_ (a0e ⟨rfl, rfl, rfl, rfl, trivial⟩ trivial ⟨rfl, trivial⟩ rfl) (fun zz hx => ?_)
 ·exact Nat.zero_le _
 obtain ⟨k, rfl⟩ : ∃ v, v = zz := ⟨_, rfl⟩
 replace hx : k ≤ x.length := hx
 have hw := fun h => a3j a0X x k h
 show Ok _ _ _ _ _ (⟨[(0, .one (.dv [] (a0k (x)))), (2, .one .nil), (3, .one (.key 5)), (4, .one (.dv [] (.int .i64 ((k : Int)))))], [], [(5, some (a0b false (.sl 60 3 ((x.take k).length) ((x.take k).flatMap a0T))))]⟩ : St)
 iterate 7 refine z ?_
 refine yQ rfl (fun c1 => ?_) fun c1 => ?_
 ·have d1 := of_decide_eq_true c1
  have hk2 : k < x.length := by omega
  obtain ⟨hw1, hw2⟩ := hw hk2
  iterate 4 refine z ?_
  refine a0o ?_
  iterate 5 refine z ?_
  refine zK 17000 Tryz.call54 ?_ (hf := a5W (x := (((x)).getD ((k : Int)).toNat default)) (by omega))
  refine a4b (k := 18) (js := [17030]) hT rfl rfl rfl rfl rfl rfl rfl rfl rfl (a0a rfl) rfl rfl (a0q (a0B rfl) (a0q (a2b rfl) (a0q (a0B rfl) a1t rfl) rfl) rfl) (by decide) (by decide) rfl rfl ?_
  simp only [a0l, a0i, SV.kill, CV.kill, kk, Nat.reduceBEq]
  refine a2z (k := 5) (j := 18) (cs := (x.take (k + 1)).flatMap a0T) (n := (x.take (k + 1)).length) hT rfl rfl rfl rfl rfl rfl rfl (a0a rfl) rfl rfl rfl (a0a rfl) rfl rfl (by decide) (by dsimp only [a0b]; simp only [List.length_take]; omega) (by dsimp only [a0b]; simp only [List.length_take]; omega) ((a3z (enc := a0T) hk2).2) ((a3z (enc := a0T) hk2).1) ?_
  simp only [a0l, a0i, SV.kill, CV.kill, kk, Nat.reduceBEq]
  refine z ?_
  refine a1z ?_
  iterate 2 refine z ?_
  refine a0o ?_
  iterate 4 refine z ?_
  refine ⟨k + 1, ?_, ?_, a0e ⟨rfl, rfl, rfl, rfl, trivial⟩ trivial ⟨rfl, trivial⟩ rfl⟩
  ·omega
  ·omega
 ·have d1 := of_decide_eq_false c1
  iterate 9 refine z ?_
  refine a0h (σ' := ⟨[(2, .one (.key 5))], [], [(5, some (a0b false (a0k (x))))]⟩) (a0e ⟨rfl, trivial⟩ trivial ⟨(congrArg (fun l : List (a0u) => some (some (KC.mk false 60 3 l.length (l.flatMap a0T)))) (List.take_of_length_le (by omega))), trivial⟩ rfl) ?_
  refine z ?_
  refine a1x (a0v rfl) ?_
  exact ⟨rfl, rfl⟩
theorem c5p {x : TxT} (hb : wTx x ≤ 1099511627776) : KFn Tryz.prog 40 [.agg [(.dv [] (.int .i64 (x.1))), (.dv [] (a1m (x.2.1))), (.dv [] (.int .i64 (x.2.2.1))), (.dv [] (.int .i64 (x.2.2.2.1))), (.dv [] (a0k (x.2.2.2.2)))]] (.agg [(.dv [] (.int .i64 (x.1))), (.key 800), (.dv [] (.int .i64 (x.2.2.1))), (.dv [] (.int .i64 (x.2.2.2.1))), (.key 31)]) [(800, some (a0b false (a1m (x.2.1)))), (31, some (a0b false (a0k (x.2.2.2.2))))] := by
 refine ⟨a0R Tryz.func40 rfl Tryz.ntmps40 Tryz.results40 rfl (fun C => ?_)⟩
 have hwt : wTx x = a1a wOp x.2.1 + a1a a0X x.2.2.2.2 := rfl
 have hwl : a1a a0X x.2.2.2.2 = x.2.2.2.2.length + a0D a0X x.2.2.2.2 := rfl
 refine yF 0 0 rfl rfl fun f0_0 => ?_
 refine yF 0 1 rfl rfl fun f0_1 => ?_
 refine yF 0 2 rfl rfl fun f0_2 => ?_
 refine yF 0 3 rfl rfl fun f0_3 => ?_
 refine yF 0 4 rfl rfl fun f0_4 => ?_
 iterate 4 refine z ?_
 refine a0p ?_
 refine a1L (oB := [1, 2]) (oK := []) (by kernel_rfl) rfl rfl ?_
 refine zD 0 ?_
 refine zD 1 ?_
 refine zD 2 ?_
 refine zD 3 ?_
 refine zD 5 ?_
 refine zD 6 ?_
 refine zD 7 ?_
 refine zD 8 ?_
 refine a5K (A := [(10, 3, 40, _)]) hT ⟨⟨_, _, rfl⟩, rfl, trivial⟩ ?_
 refine a7N 794 4 rfl (by kernel_rfl) rfl rfl rfl (vok hT ⟨⟨_, _, rfl⟩, rfl, trivial⟩ (by kernel_rfl) (by kernel_rfl)) (vok hT ⟨⟨_, _, rfl⟩, rfl, trivial⟩ (by kernel_rfl) (by kernel_rfl)) rfl Tryz.call71 (c4F (x := x.2.1) (by omega)) (a0g (a0a rfl) (a0I a0c) a0w) rfl rfl rfl rfl rfl ?_
 refine a6k 9 rfl (by kernel_rfl) rfl rfl rfl (vok hT ⟨⟨_, _, rfl⟩, rfl, trivial⟩ (by kernel_rfl) (by kernel_rfl)) (vok hT ⟨⟨_, _, rfl⟩, rfl, trivial⟩ (by kernel_rfl) (by kernel_rfl)) (a1F hT hB rfl rfl rfl (a1b (a0a rfl) rfl rfl rfl rfl rfl (a1b (a0a rfl) rfl rfl rfl rfl rfl (a1b (a0a rfl) rfl rfl rfl rfl rfl (a1b (a0a rfl) rfl rfl rfl rfl rfl a1E))))) rfl rfl rfl rfl ?_
 refine a5Z (vok hT ⟨⟨_, _, rfl⟩, rfl, trivial⟩ (by kernel_rfl) (by kernel_rfl)) rfl rfl (by kernel_rfl) ?_
 dsimp only [a2S, a2R]
 refine b3o 11 rfl (by kernel_rfl) rfl (by kernel_rfl) (a4A hT rfl rfl rfl (a0a rfl) (a0a rfl) rfl rfl rfl rfl rfl rfl) (by kernel_rfl) ?_
 refine z ?_
 refine a0p ?_
 refine a0p ?_
 refine a0h (a3a 31 (b := 3) (i := 4) (e := 60) (sz := 3) rfl rfl rfl rfl rfl) ?_
 simp only [a0l, a0i, SV.kill, CV.kill, kk, Nat.reduceBEq]
 refine a0o ?_
 iterate 6 refine z ?_
 refine a1f (ι := Nat) (fun zz => ⟨[(2, .box 2 0), (3, .box 3 0), (17, .one (.dv [] (a0k (x.2.2.2.2)))), (18, .one (.dv [] (.int .i64 ((((x.2.2.2.2)).length : Int))))), (19, .one (.dv [] (.int .i64 ((zz : Int)))))], [(2, 40, [(.dv [] (.int .i64 (0))), .nil, (.dv [] (.int .i64 (0))), (.dv [] (.int .i64 (0))), .nil]), (3, 40, [(.dv [] (.int .i64 (x.1))), (.key 800), (.dv [] (.int .i64 (x.2.2.1))), (.dv [] (.int .i64 (x.2.2.2.1))), (.key 31)])], [(31, some (a0b false (.sl 60 3 ((x.2.2.2.2.take zz).length) ((x.2.2.2.2.take zz).flatMap a0T)))), (800, some (a0b false (a1m ((x.2.1)))))]⟩) (fun zz => zz ≤ x.2.2.2.2.length) (fun zz => x.2.2.2.2.length - zz) (0) ?_ (a0e ⟨rfl, rfl, rfl, rfl, rfl, trivial⟩ ⟨rfl, rfl, trivial⟩ ⟨rfl, rfl, trivial⟩ rfl) (fun zz hx => ?_)
 ·exact Nat.zero_le _
 obtain ⟨k, rfl⟩ : ∃ v, v = zz := ⟨_, rfl⟩
 replace hx : k ≤ x.2.2.2.2.length := hx
 have hw := fun h => a3j a0X x.2.2.2.2 k h
 show Ok _ _ _ _ _ (⟨[(2, .box 2 0), (3, .box 3 0), (17, .one (.dv [] (a0k (x.2.2.2.2)))), (18, .one (.dv [] (.int .i64 ((((x.2.2.2.2)).length : Int))))), (19, .one (.dv [] (.int .i64 ((k : Int)))))], [(2, 40, [(.dv [] (.int .i64 (0))), .nil, (.dv [] (.int .i64 (0))), (.dv [] (.int .i64 (0))), .nil]), (3, 40, [(.dv [] (.int .i64 (x.1))), (.key 800), (.dv [] (.int .i64 (x.2.2.1))), (.dv [] (.int .i64 (x.2.2.2.1))), (.key 31)])], [(31, some (a0b false (.sl 60 3 ((x.2.2.2.2.take k).length) ((x.2.2.2.2.take k).flatMap a0T)))), (800, some (a0b false (a1m ((x.2.1)))))]⟩ : St)
 iterate 3 refine z ?_
 refine a0p ?_
 refine yQ rfl (fun c1 => ?_) fun c1 => ?_
 ·have d1 := of_decide_eq_true c1
  have hk2 : k < x.2.2.2.2.length := by omega
  obtain ⟨hw1, hw2⟩ := hw hk2
  iterate 10 refine z ?_
  refine a3G [0, 1, 2, 3, 4] (oB := [2, 3, 5]) (oK := [31, 800]) (by kernel_rfl) rfl rfl ?_
  refine zD 0 ?_
  refine zD 1 ?_
  refine zD 2 ?_
  refine a3f 26000 3 rfl (by kernel_rfl) rfl rfl rfl Tryz.call22 (a4J (x := (((x.2.2.2.2)).getD ((k : Int)).toNat default)) (by omega)) (a0g (a0a rfl) (a0t (a0d a0c (a0d a0c (a0d a0c a0s)))) a0w) rfl rfl rfl rfl rfl ?_
  refine a4o (k := 27) (js := [26030]) 4 hT rfl (by kernel_rfl) rfl rfl rfl rfl rfl rfl rfl rfl rfl (a0a rfl) rfl rfl (a0q (a0B rfl) (a0q (a2b rfl) (a0q (a0B rfl) a1t rfl) rfl) rfl) (by decide) (by decide) rfl rfl (by decide) ?_
  simp only [a0l, a0i, SV.kill, CV.kill, kk, Nat.reduceBEq]
  refine a2B [5, 6, 7] rfl rfl (by kernel_rfl) ?_
  refine a2z (k := 31) (j := 27) (cs := (x.2.2.2.2.take (k + 1)).flatMap a0T) (n := (x.2.2.2.2.take (k + 1)).length) hT rfl rfl rfl rfl rfl rfl rfl (a0a rfl) rfl rfl rfl (a0a rfl) rfl rfl (by decide) (by dsimp only [a0b]; simp only [List.length_take]; omega) (by dsimp only [a0b]; simp only [List.length_take]; omega) ((a3z (enc := a0T) hk2).2) ((a3z (enc := a0T) hk2).1) ?_
  simp only [a0l, a0i, SV.kill, CV.kill, kk, Nat.reduceBEq]
  iterate 2 refine z ?_
  refine a1z ?_
  iterate 2 refine z ?_
  refine a0o ?_
  iterate 3 refine z ?_
  refine ⟨k + 1, ?_, ?_, a0e ⟨rfl, rfl, rfl, rfl, rfl, trivial⟩ ⟨rfl, rfl, trivial⟩ ⟨rfl, rfl, trivial⟩ rfl⟩
  ·omega
  ·omega
 ·have d1 := of_decide_eq_false c1
  iterate 9 refine z ?_
  refine a0h (σ' := ⟨[(2, .box 2 0)], [(2, 40, [(.dv [] (.int .i64 (x.1))), (.key 800), (.dv [] (.int .i64 (x.2.2.1))), (.dv [] (.int .i64 (x.2.2.2.1))), (.key 31)])], [(800, some (a0b false (a1m (x.2.1)))), (31, some (a0b false (a0k (x.2.2.2.2))))]⟩) (a0e ⟨rfl, trivial⟩ ⟨rfl, trivial⟩ ⟨rfl, (congrArg (fun l : List (a0u) => some (some (KC.mk false 60 3 l.length (l.flatMap a0T)))) (List.take_of_length_le (by omega))), trivial⟩ rfl) ?_
  refine z ?_
  refine a1x (a0C hT rfl rfl rfl rfl) ?_
  exact ⟨rfl, rfl⟩
theorem b3h {x : List TxT} (hb : a1a wTx x ≤ 1099511627776) : KFn Tryz.prog 19 [.agg [(.dv [] (a1q (x)))]] (.agg [(.key 31)]) [(31, some (a0b false (a1q (x))))] := by
 refine ⟨a0R Tryz.func19 rfl Tryz.ntmps19 Tryz.results19 rfl (fun C => ?_)⟩
 have hwl : a1a wTx x = x.length + a0D wTx x := rfl
 refine yF 0 0 rfl rfl fun f0_0 => ?_
 iterate 5 refine z ?_
 refine yO rfl rfl (a1F hT hB rfl rfl rfl a1E) rfl ?_
 iterate 3 refine z ?_
 refine a0p ?_
 refine a0p ?_
 refine a0h (a3a 31 (b := 3) (i := 0) (e := 40) (sz := 5) rfl rfl rfl rfl rfl) ?_
 simp only [a0l, a0i, SV.kill, CV.kill, kk, Nat.reduceBEq]
 refine a0o ?_
 iterate 6 refine z ?_
 refine a1f (ι := Nat) (fun zz => ⟨[(2, .box 2 0), (3, .box 3 0), (8, .one (.dv [] (a1q (x)))), (9, .one (.dv [] (.int .i64 ((((x)).length : Int))))), (10, .one (.dv [] (.int .i64 ((zz : Int)))))], [(2, 30, [.nil]), (3, 30, [(.key 31)])], [(31, some (a0b false (.sl 40 5 ((x.take zz).length) ((x.take zz).flatMap eTx))))]⟩) (fun zz => zz ≤ x.length) (fun zz => x.length - zz) (0) ?_ (a0e ⟨rfl, rfl, rfl, rfl, rfl, trivial⟩ ⟨rfl, rfl, trivial⟩ ⟨rfl, trivial⟩ rfl) (fun zz hx => ?_)
 ·exact Nat.zero_le _
 obtain ⟨k, rfl⟩ : ∃ v, v = zz := ⟨_, rfl⟩
 replace hx : k ≤ x.length := hx
 have hw := fun h => a3j wTx x k h
 show Ok _ _ _ _ _ (⟨[(2, .box 2 0), (3, .box 3 0), (8, .one (.dv [] (a1q (x)))), (9, .one (.dv [] (.int .i64 ((((x)).length : Int))))), (10, .one (.dv [] (.int .i64 ((k : Int)))))], [(2, 30, [.nil]), (3, 30, [(.key 31)])], [(31, some (a0b false (.sl 40 5 ((x.take k).length) ((x.take k).flatMap eTx))))]⟩ : St)
 iterate 3 refine z ?_
 refine a0p ?_
 refine yQ rfl (fun c1 => ?_) fun c1 => ?_
 ·have d1 := of_decide_eq_true c1
  have hk2 : k < x.length := by omega
  obtain ⟨hw1, hw2⟩ := hw hk2
  iterate 10 refine z ?_
  refine a3G [0, 1, 2, 3, 4] (oB := [2, 3, 5]) (oK := [31]) (by kernel_rfl) rfl rfl ?_
  refine zD 0 ?_
  refine zD 1 ?_
  refine zD 2 ?_
  refine a3f 17000 3 rfl (by kernel_rfl) rfl rfl rfl Tryz.call40 (c5p (x := (((x)).getD ((k : Int)).toNat default)) (by omega)) (a0g (a0a rfl) (a0t (a0d a0c (a0d a0c (a0d a0c (a0d a0c (a0d a0c a0s)))))) a0w) rfl rfl rfl rfl rfl ?_
  refine a4o (k := 18) (js := [17800, 17031]) 4 hT rfl (by kernel_rfl) rfl rfl rfl rfl rfl rfl rfl rfl rfl (a0a rfl) rfl rfl (a0q (a0B rfl) (a0q (a2b rfl) (a0q (a0B rfl) (a0q (a0B rfl) (a0q (a2b rfl) a1t rfl) rfl) rfl) rfl) rfl) (by decide) (by decide) rfl rfl (by decide) ?_
  simp only [a0l, a0i, SV.kill, CV.kill, kk, Nat.reduceBEq]
  refine a2B [5, 6, 7] rfl rfl (by kernel_rfl) ?_
  refine a2z (k := 31) (j := 18) (cs := (x.take (k + 1)).flatMap eTx) (n := (x.take (k + 1)).length) hT rfl rfl rfl rfl rfl rfl rfl (a0a rfl) rfl rfl rfl (a0a rfl) rfl rfl (by decide) (by dsimp only [a0b]; simp only [List.length_take]; omega) (by dsimp only [a0b]; simp only [List.length_take]; omega) ((a3z (enc := eTx) hk2).2) ((a3z (enc := eTx) hk2).1) ?_
  simp only [a0l, a0i, SV.kill, CV.kill, kk, Nat.reduceBEq]
  iterate 2 refine z ?_
  refine a1z ?_
  iterate 2 refine z ?_
  refine a0o ?_
  iterate 3 refine z ?_
  refine ⟨k + 1, ?_, ?_, a0e ⟨rfl, rfl, rfl, rfl, rfl, trivial⟩ ⟨rfl, rfl, trivial⟩ ⟨rfl, trivial⟩ rfl⟩
  ·omega
  ·omega
 ·have d1 := of_decide_eq_false c1
  iterate 9 refine z ?_
  refine a0h (σ' := ⟨[(2, .box 2 0)], [(2, 30, [(.key 31)])], [(31, some (a0b false (a1q (x))))]⟩) (a0e ⟨rfl, trivial⟩ ⟨rfl, trivial⟩ ⟨(congrArg (fun l : List (TxT) => some (some (KC.mk false 40 5 l.length (l.flatMap eTx)))) (List.take_of_length_le (by omega))), trivial⟩ rfl) ?_
  refine z ?_
  refine a1x (a0C hT rfl rfl rfl rfl) ?_
  exact ⟨rfl, rfl⟩
theorem c1I {x : List TxT} (hb : a1a wTx x ≤ 1099511627776) : KFn Tryz.prog 68 [.agg [(.dv [] (a1q (x)))]] (.agg [(.key 31)]) [(31, some (a0b false (a1q (x))))] := by
 refine ⟨a0R Tryz.func68 rfl Tryz.ntmps68 Tryz.results68 rfl (fun C => ?_)⟩
 have hwl : a1a wTx x = x.length + a0D wTx x := rfl
 refine yF 0 0 rfl rfl fun f0_0 => ?_
 iterate 5 refine z ?_
 refine yO rfl rfl (a1F hT hB rfl rfl rfl a1E) rfl ?_
 iterate 3 refine z ?_
 refine a0p ?_
 refine a0p ?_
 refine a0h (a3a 31 (b := 3) (i := 0) (e := 40) (sz := 5) rfl rfl rfl rfl rfl) ?_
 simp only [a0l, a0i, SV.kill, CV.kill, kk, Nat.reduceBEq]
 refine a0o ?_
 iterate 3 refine z ?_
 refine a1f (ι := Nat) (fun zz => ⟨[(1, .box 1 0), (2, .box 2 0), (3, .box 3 0), (4, .one (.dv [] (.int .i64 ((zz : Int)))))], [(1, 30, [(.dv [] (a1q (x)))]), (2, 30, [.nil]), (3, 30, [(.key 31)])], [(31, some (a0b false (.sl 40 5 ((x.take zz).length) ((x.take zz).flatMap eTx))))]⟩) (fun zz => zz ≤ x.length) (fun zz => x.length - zz) (0) ?_ (a0e ⟨rfl, rfl, rfl, rfl, trivial⟩ ⟨rfl, rfl, rfl, trivial⟩ ⟨rfl, trivial⟩ rfl) (fun zz hx => ?_)
 ·exact Nat.zero_le _
 obtain ⟨k, rfl⟩ : ∃ v, v = zz := ⟨_, rfl⟩
 replace hx : k ≤ x.length := hx
 have hw := fun h => a3j wTx x k h
 show Ok _ _ _ _ _ (⟨[(1, .box 1 0), (2, .box 2 0), (3, .box 3 0), (4, .one (.dv [] (.int .i64 ((k : Int)))))], [(1, 30, [(.dv [] (a1q (x)))]), (2, 30, [.nil]), (3, 30, [(.key 31)])], [(31, some (a0b false (.sl 40 5 ((x.take k).length) ((x.take k).flatMap eTx))))]⟩ : St)
 iterate 8 refine z ?_
 refine yQ rfl (fun c1 => ?_) fun c1 => ?_
 ·have d1 := of_decide_eq_true c1
  have hk2 : k < x.length := by omega
  obtain ⟨hw1, hw2⟩ := hw hk2
  have hwt : wTx (x.getD (k : Int).toNat default) = a1a wOp (x.getD (k : Int).toNat default).2.1 + a1a a0X (x.getD (k : Int).toNat default).2.2.2.2 := rfl
  iterate 20 refine z ?_
  refine zK 25000 Tryz.call69 ?_ (hf := b2D (x := (((x)).getD ((k : Int)).toNat default).2.1) (by omega))
  iterate 10 refine z ?_
  refine zK 33000 Tryz.call106 ?_ (hf := b9C (x := (((x)).getD ((k : Int)).toNat default).2.2.2.2) (by omega))
  iterate 3 refine z ?_
  refine a0o ?_
  iterate 3 refine z ?_
  refine a4b (k := 38) (js := [25006, 33005]) hT rfl rfl rfl rfl rfl rfl rfl rfl rfl (a0a rfl) rfl rfl (a0q (a0B rfl) (a0q (a2b rfl) (a0q (a0B rfl) (a0q (a0B rfl) (a0q (a2b rfl) a1t rfl) rfl) rfl) rfl) rfl) (by decide) (by decide) rfl rfl ?_
  simp only [a0l, a0i, SV.kill, CV.kill, kk, Nat.reduceBEq]
  refine a2z (k := 31) (j := 38) (cs := (x.take (k + 1)).flatMap eTx) (n := (x.take (k + 1)).length) hT rfl rfl rfl rfl rfl rfl rfl (a0a rfl) rfl rfl rfl (a0a rfl) rfl rfl (by decide) (by dsimp only [a0b]; simp only [List.length_take]; omega) (by dsimp only [a0b]; simp only [List.length_take]; omega) ((a3z (enc := eTx) hk2).2) ((a3z (enc := eTx) hk2).1) ?_
  simp only [a0l, a0i, SV.kill, CV.kill, kk, Nat.reduceBEq]
  iterate 2 refine z ?_
  refine a1z ?_
  iterate 2 refine z ?_
  refine a0o ?_
  iterate 4 refine z ?_
  refine ⟨k + 1, ?_, ?_, a0e ⟨rfl, rfl, rfl, rfl, trivial⟩ ⟨rfl, rfl, rfl, trivial⟩ ⟨rfl, trivial⟩ rfl⟩
  ·omega
  ·omega
 ·have d1 := of_decide_eq_false c1
  iterate 9 refine z ?_
  refine a0h (σ' := ⟨[(2, .box 2 0)], [(2, 30, [(.key 31)])], [(31, some (a0b false (a1q (x))))]⟩) (a0e ⟨rfl, trivial⟩ ⟨rfl, trivial⟩ ⟨(congrArg (fun l : List (TxT) => some (some (KC.mk false 40 5 l.length (l.flatMap eTx)))) (List.take_of_length_le (by omega))), trivial⟩ rfl) ?_
  refine z ?_
  refine a1x (a0C hT rfl rfl rfl rfl) ?_
  exact ⟨rfl, rfl⟩
theorem a5S {x : DbT} (hb : a1B x ≤ 1099511627776) : KFn Tryz.prog 24 [.agg [(.dv [] (.str (x.1))), (.dv [] (.int .i64 (x.2.1))), (.dv [] (a0k (x.2.2.1))), (.dv [] (a0r (x.2.2.2)))]] (.agg [(.dv [] (.str (x.1))), (.dv [] (.int .i64 (x.2.1))), (.key 31), (.key 900)]) [(31, some (a0b false (a0k (x.2.2.1)))), (900, some (a0b false (a0r (x.2.2.2))))] := by
 refine ⟨a0R Tryz.func24 rfl Tryz.ntmps24 Tryz.results24 rfl (fun C => ?_)⟩
 have hwd : a1B x = x.1.size + a1a a0X x.2.2.1 + a1a a2x x.2.2.2 := rfl
 have hwl : a1a a0X x.2.2.1 = x.2.2.1.length + a0D a0X x.2.2.1 := rfl
 have hwi : a1a a2x x.2.2.2 = x.2.2.2.length + a0D a2x x.2.2.2 := rfl
 refine yF 0 0 rfl rfl fun f0_0 => ?_
 refine yF 0 1 rfl rfl fun f0_1 => ?_
 refine yF 0 2 rfl rfl fun f0_2 => ?_
 refine yF 0 3 rfl rfl fun f0_3 => ?_
 iterate 4 refine z ?_
 refine a7h (σ' := ⟨[(1, .box 1 0), (2, .box 2 0), (3, .box 3 0)], [(1, 27, [(.dv [] (.str (x.1))), (.dv [] (.int .i64 (x.2.1))), (.dv [] (a0k (x.2.2.1))), (.dv [] (a0r (x.2.2.2)))]), (2, 27, [(.dv [] (.str (ByteArray.empty))), (.dv [] (.int .i64 (0))), .nil, .nil]), (3, 27, [(.dv [] (.str (x.1))), (.dv [] (.int .i64 (x.2.1))), .nil, (.key 900)])], [(900, some (a0b false (.sl 78 2 ((x.2.2.2).length) ((x.2.2.2).flatMap a1O))))]⟩) ?_ ?_
 ·refine a3G [0, 1, 2, 3, 4, 5, 6, 7, 8, 9] (oB := [1, 2]) (oK := []) (by kernel_rfl) rfl rfl ?_
  refine b3S ?_
  refine zN 0 ?_
  refine zN 1 ?_
  refine zN 2 ?_
  refine zN 3 ?_
  refine zN 5 ?_
  refine zN 6 ?_
  refine a2g 4 [9] (by kernel_rfl) ⟨?_, ?_, trivial⟩
  ·refine a7W (k := 900) 4 hT rfl rfl rfl rfl rfl rfl rfl rfl rfl rfl rfl rfl ?_
   refine a2g 7 [9] (by kernel_rfl) ⟨?_, ?_, trivial⟩
   ·refine a3N (k := 900) (cs := (x.2.2.2).flatMap a1O) (n := (x.2.2.2).length) 7 hT rfl rfl rfl rfl rfl rfl rfl rfl (a0a rfl) rfl rfl rfl (a0a rfl) (a3S (fun _ => rfl) _) (by first | (dsimp only [a0b]; omega) | omega) (by first | (dsimp only [a0b]; omega) | omega) (Nat.zero_add _) (rfl) rfl rfl ?_
    simp only [a0l, a0i, SV.kill, CV.kill, kk, Nat.reduceBEq]
    refine a5B 8 rfl (by kernel_rfl) rfl rfl (a1F hT hB rfl rfl rfl (a1b (a0a rfl) rfl rfl rfl rfl rfl (a1b (a0a rfl) rfl rfl rfl rfl rfl (a1b (a0a rfl) rfl rfl rfl rfl rfl a1E)))) rfl rfl rfl rfl ?_
    refine a2g 9 [] (by kernel_rfl) ⟨?_, trivial⟩
    ·refine a8p 9 hT rfl rfl rfl rfl rfl rfl rfl rfl rfl rfl ?_
     refine a2g 10 [] (by kernel_rfl) ⟨?_, trivial⟩
     ·refine a6r 10 rfl rfl (by kernel_rfl) (a4A hT rfl rfl rfl (a0a rfl) (a0a rfl) rfl rfl rfl rfl rfl rfl) (by kernel_rfl) ?_
      exact a3C (a0e ⟨rfl, rfl, rfl, trivial⟩ ⟨rfl, rfl, rfl, trivial⟩ ⟨rfl, trivial⟩ rfl)
   ·refine a8p 9 hT rfl rfl rfl rfl rfl rfl rfl rfl rfl rfl ?_
    refine a2g 7 [] (by kernel_rfl) ⟨?_, trivial⟩
    ·refine a3N (k := 900) (cs := (x.2.2.2).flatMap a1O) (n := (x.2.2.2).length) 7 hT rfl rfl rfl rfl rfl rfl rfl rfl (a0a rfl) rfl rfl rfl (a0a rfl) (a3S (fun _ => rfl) _) (by first | (dsimp only [a0b]; omega) | omega) (by first | (dsimp only [a0b]; omega) | omega) (Nat.zero_add _) (rfl) rfl rfl ?_
     simp only [a0l, a0i, SV.kill, CV.kill, kk, Nat.reduceBEq]
     refine a5B 8 rfl (by kernel_rfl) rfl rfl (a1F hT hB rfl rfl rfl (a1b (a0a rfl) rfl rfl rfl rfl rfl (a1b (a0a rfl) rfl rfl rfl rfl rfl (a1b (a0a rfl) rfl rfl rfl rfl rfl a1E)))) rfl rfl rfl rfl ?_
     refine a2g 10 [] (by kernel_rfl) ⟨?_, trivial⟩
     ·refine a6r 10 rfl rfl (by kernel_rfl) (a4A hT rfl rfl rfl (a0a rfl) (a0a rfl) rfl rfl rfl rfl rfl rfl) (by kernel_rfl) ?_
      exact a3C (a0e ⟨rfl, rfl, rfl, trivial⟩ ⟨rfl, rfl, rfl, trivial⟩ ⟨rfl, trivial⟩ rfl)
  ·refine a8p 9 hT rfl rfl rfl rfl rfl rfl rfl rfl rfl rfl ?_
   refine a2g 4 [] (by kernel_rfl) ⟨?_, trivial⟩
   ·refine a7W (k := 900) 4 hT rfl rfl rfl rfl rfl rfl rfl rfl rfl rfl rfl rfl ?_
    refine a2g 7 [] (by kernel_rfl) ⟨?_, trivial⟩
    ·refine a3N (k := 900) (cs := (x.2.2.2).flatMap a1O) (n := (x.2.2.2).length) 7 hT rfl rfl rfl rfl rfl rfl rfl rfl (a0a rfl) rfl rfl rfl (a0a rfl) (a3S (fun _ => rfl) _) (by first | (dsimp only [a0b]; omega) | omega) (by first | (dsimp only [a0b]; omega) | omega) (Nat.zero_add _) (rfl) rfl rfl ?_
     simp only [a0l, a0i, SV.kill, CV.kill, kk, Nat.reduceBEq]
     refine a5B 8 rfl (by kernel_rfl) rfl rfl (a1F hT hB rfl rfl rfl (a1b (a0a rfl) rfl rfl rfl rfl rfl (a1b (a0a rfl) rfl rfl rfl rfl rfl (a1b (a0a rfl) rfl rfl rfl rfl rfl a1E)))) rfl rfl rfl rfl ?_
     refine a2g 10 [] (by kernel_rfl) ⟨?_, trivial⟩
     ·refine a6r 10 rfl rfl (by kernel_rfl) (a4A hT rfl rfl rfl (a0a rfl) (a0a rfl) rfl rfl rfl rfl rfl rfl) (by kernel_rfl) ?_
      exact a3C (a0e ⟨rfl, rfl, rfl, trivial⟩ ⟨rfl, rfl, rfl, trivial⟩ ⟨rfl, trivial⟩ rfl)
 refine a0p ?_
 refine a0p ?_
 refine a0h (a3a 31 (b := 3) (i := 2) (e := 60) (sz := 3) rfl rfl rfl rfl rfl) ?_
 simp only [a0l, a0i, SV.kill, CV.kill, kk, Nat.reduceBEq]
 refine a0o ?_
 iterate 6 refine z ?_
 refine a1f (ι := Nat) (fun zz => ⟨[(2, .box 2 0), (3, .box 3 0), (16, .one (.dv [] (a0k (x.2.2.1)))), (17, .one (.dv [] (.int .i64 ((((x.2.2.1)).length : Int))))), (18, .one (.dv [] (.int .i64 ((zz : Int)))))], [(1, 27, [(.dv [] (.str (x.1))), (.dv [] (.int .i64 (x.2.1))), (.dv [] (a0k (x.2.2.1))), (.dv [] (a0r (x.2.2.2)))]), (2, 27, [(.dv [] (.str (ByteArray.empty))), (.dv [] (.int .i64 (0))), .nil, .nil]), (3, 27, [(.dv [] (.str (x.1))), (.dv [] (.int .i64 (x.2.1))), (.key 31), (.key 900)])], [(31, some (a0b false (.sl 60 3 ((x.2.2.1.take zz).length) ((x.2.2.1.take zz).flatMap a0T)))), (900, some (a0b false (.sl 78 2 ((x.2.2.2).length) ((x.2.2.2).flatMap a1O))))]⟩) (fun zz => zz ≤ x.2.2.1.length) (fun zz => x.2.2.1.length - zz) (0) ?_ (a0e ⟨rfl, rfl, rfl, rfl, rfl, trivial⟩ ⟨rfl, rfl, rfl, trivial⟩ ⟨rfl, rfl, trivial⟩ rfl) (fun zz hx => ?_)
 ·exact Nat.zero_le _
 obtain ⟨k, rfl⟩ : ∃ v, v = zz := ⟨_, rfl⟩
 replace hx : k ≤ x.2.2.1.length := hx
 have hw := fun h => a3j a0X x.2.2.1 k h
 show Ok _ _ _ _ _ (⟨[(2, .box 2 0), (3, .box 3 0), (16, .one (.dv [] (a0k (x.2.2.1)))), (17, .one (.dv [] (.int .i64 ((((x.2.2.1)).length : Int))))), (18, .one (.dv [] (.int .i64 ((k : Int)))))], [(1, 27, [(.dv [] (.str (x.1))), (.dv [] (.int .i64 (x.2.1))), (.dv [] (a0k (x.2.2.1))), (.dv [] (a0r (x.2.2.2)))]), (2, 27, [(.dv [] (.str (ByteArray.empty))), (.dv [] (.int .i64 (0))), .nil, .nil]), (3, 27, [(.dv [] (.str (x.1))), (.dv [] (.int .i64 (x.2.1))), (.key 31), (.key 900)])], [(31, some (a0b false (.sl 60 3 ((x.2.2.1.take k).length) ((x.2.2.1.take k).flatMap a0T)))), (900, some (a0b false (.sl 78 2 ((x.2.2.2).length) ((x.2.2.2).flatMap a1O))))]⟩ : St)
 iterate 3 refine z ?_
 refine a0p ?_
 refine yQ rfl (fun c1 => ?_) fun c1 => ?_
 ·have d1 := of_decide_eq_true c1
  have hk2 : k < x.2.2.1.length := by omega
  obtain ⟨hw1, hw2⟩ := hw hk2
  iterate 10 refine z ?_
  refine a3G [0, 1, 2, 3, 4] (oB := [1, 2, 3, 5]) (oK := [31, 900]) (by kernel_rfl) rfl rfl ?_
  refine zD 0 ?_
  refine zD 1 ?_
  refine zD 2 ?_
  refine a3f 25000 3 rfl (by kernel_rfl) rfl rfl rfl Tryz.call22 (a4J (x := (((x.2.2.1)).getD ((k : Int)).toNat default)) (by omega)) (a0g (a0a rfl) (a0t (a0d a0c (a0d a0c (a0d a0c a0s)))) a0w) rfl rfl rfl rfl rfl ?_
  refine a4o (k := 26) (js := [25030]) 4 hT rfl (by kernel_rfl) rfl rfl rfl rfl rfl rfl rfl rfl rfl (a0a rfl) rfl rfl (a0q (a0B rfl) (a0q (a2b rfl) (a0q (a0B rfl) a1t rfl) rfl) rfl) (by decide) (by decide) rfl rfl (by decide) ?_
  simp only [a0l, a0i, SV.kill, CV.kill, kk, Nat.reduceBEq]
  refine a2B [5, 6, 7] rfl rfl (by kernel_rfl) ?_
  refine a2z (k := 31) (j := 26) (cs := (x.2.2.1.take (k + 1)).flatMap a0T) (n := (x.2.2.1.take (k + 1)).length) hT rfl rfl rfl rfl rfl rfl rfl (a0a rfl) rfl rfl rfl (a0a rfl) rfl rfl (by decide) (by dsimp only [a0b]; simp only [List.length_take]; omega) (by dsimp only [a0b]; simp only [List.length_take]; omega) ((a3z (enc := a0T) hk2).2) ((a3z (enc := a0T) hk2).1) ?_
  simp only [a0l, a0i, SV.kill, CV.kill, kk, Nat.reduceBEq]
  iterate 2 refine z ?_
  refine a1z ?_
  iterate 2 refine z ?_
  refine a0o ?_
  iterate 3 refine z ?_
  refine ⟨k + 1, ?_, ?_, a0e ⟨rfl, rfl, rfl, rfl, rfl, trivial⟩ ⟨rfl, rfl, rfl, trivial⟩ ⟨rfl, rfl, trivial⟩ rfl⟩
  ·omega
  ·omega
 ·have d1 := of_decide_eq_false c1
  iterate 9 refine z ?_
  refine a0h (σ' := ⟨[(2, .box 2 0)], [(2, 27, [(.dv [] (.str (x.1))), (.dv [] (.int .i64 (x.2.1))), (.key 31), (.key 900)])], [(31, some (a0b false (a0k (x.2.2.1)))), (900, some (a0b false (a0r (x.2.2.2))))]⟩) (a0e ⟨rfl, trivial⟩ ⟨rfl, trivial⟩ ⟨(congrArg (fun l : List (a0u) => some (some (KC.mk false 60 3 l.length (l.flatMap a0T)))) (List.take_of_length_le (by omega))), rfl, trivial⟩ rfl) ?_
  refine z ?_
  refine a1x (a0C hT rfl rfl rfl rfl) ?_
  exact ⟨rfl, rfl⟩
theorem a5L {x : DbT} (hb : a1B x ≤ 1099511627776) : KFn Tryz.prog 32 [.agg [(.dv [] (.str (x.1))), (.dv [] (.int .i64 (x.2.1))), (.dv [] (a0k (x.2.2.1))), (.dv [] (a0r (x.2.2.2)))]] (.agg [(.dv [] (.str (x.1))), (.dv [] (.int .i64 (x.2.1))), (.key 31), (.key 900)]) [(31, some (a0b false (a0k (x.2.2.1)))), (900, some (a0b false (a0r (x.2.2.2))))] := by
 refine ⟨a0R Tryz.func32 rfl Tryz.ntmps32 Tryz.results32 rfl (fun C => ?_)⟩
 have hwd : a1B x = x.1.size + a1a a0X x.2.2.1 + a1a a2x x.2.2.2 := rfl
 have hwl : a1a a0X x.2.2.1 = x.2.2.1.length + a0D a0X x.2.2.1 := rfl
 have hwi : a1a a2x x.2.2.2 = x.2.2.2.length + a0D a2x x.2.2.2 := rfl
 refine yF 0 0 rfl rfl fun f0_0 => ?_
 refine yF 0 1 rfl rfl fun f0_1 => ?_
 refine yF 0 2 rfl rfl fun f0_2 => ?_
 refine yF 0 3 rfl rfl fun f0_3 => ?_
 iterate 4 refine z ?_
 refine a7h (σ' := ⟨[(1, .box 1 0), (2, .box 2 0), (3, .box 3 0)], [(1, 27, [(.dv [] (.str (x.1))), (.dv [] (.int .i64 (x.2.1))), (.dv [] (a0k (x.2.2.1))), (.dv [] (a0r (x.2.2.2)))]), (2, 27, [(.dv [] (.str (ByteArray.empty))), (.dv [] (.int .i64 (0))), .nil, .nil]), (3, 27, [(.dv [] (.str (x.1))), (.dv [] (.int .i64 (x.2.1))), .nil, (.key 900)])], [(900, some (a0b false (.sl 78 2 ((x.2.2.2).length) ((x.2.2.2).flatMap a1O))))]⟩) ?_ ?_
 ·refine a3G [0, 1, 2, 3, 4, 5, 6, 7, 8, 9] (oB := [1, 2]) (oK := []) (by kernel_rfl) rfl rfl ?_
  refine b3S ?_
  refine zN 0 ?_
  refine zN 1 ?_
  refine zN 2 ?_
  refine zN 3 ?_
  refine zN 5 ?_
  refine zN 6 ?_
  refine a2g 4 [9] (by kernel_rfl) ⟨?_, ?_, trivial⟩
  ·refine a7W (k := 900) 4 hT rfl rfl rfl rfl rfl rfl rfl rfl rfl rfl rfl rfl ?_
   refine a2g 7 [9] (by kernel_rfl) ⟨?_, ?_, trivial⟩
   ·refine a3N (k := 900) (cs := (x.2.2.2).flatMap a1O) (n := (x.2.2.2).length) 7 hT rfl rfl rfl rfl rfl rfl rfl rfl (a0a rfl) rfl rfl rfl (a0a rfl) (a3S (fun _ => rfl) _) (by first | (dsimp only [a0b]; omega) | omega) (by first | (dsimp only [a0b]; omega) | omega) (Nat.zero_add _) (rfl) rfl rfl ?_
    simp only [a0l, a0i, SV.kill, CV.kill, kk, Nat.reduceBEq]
    refine a5B 8 rfl (by kernel_rfl) rfl rfl (a1F hT hB rfl rfl rfl (a1b (a0a rfl) rfl rfl rfl rfl rfl (a1b (a0a rfl) rfl rfl rfl rfl rfl (a1b (a0a rfl) rfl rfl rfl rfl rfl a1E)))) rfl rfl rfl rfl ?_
    refine a2g 9 [] (by kernel_rfl) ⟨?_, trivial⟩
    ·refine a8p 9 hT rfl rfl rfl rfl rfl rfl rfl rfl rfl rfl ?_
     refine a2g 10 [] (by kernel_rfl) ⟨?_, trivial⟩
     ·refine a6r 10 rfl rfl (by kernel_rfl) (a4A hT rfl rfl rfl (a0a rfl) (a0a rfl) rfl rfl rfl rfl rfl rfl) (by kernel_rfl) ?_
      exact a3C (a0e ⟨rfl, rfl, rfl, trivial⟩ ⟨rfl, rfl, rfl, trivial⟩ ⟨rfl, trivial⟩ rfl)
   ·refine a8p 9 hT rfl rfl rfl rfl rfl rfl rfl rfl rfl rfl ?_
    refine a2g 7 [] (by kernel_rfl) ⟨?_, trivial⟩
    ·refine a3N (k := 900) (cs := (x.2.2.2).flatMap a1O) (n := (x.2.2.2).length) 7 hT rfl rfl rfl rfl rfl rfl rfl rfl (a0a rfl) rfl rfl rfl (a0a rfl) (a3S (fun _ => rfl) _) (by first | (dsimp only [a0b]; omega) | omega) (by first | (dsimp only [a0b]; omega) | omega) (Nat.zero_add _) (rfl) rfl rfl ?_
     simp only [a0l, a0i, SV.kill, CV.kill, kk, Nat.reduceBEq]
     refine a5B 8 rfl (by kernel_rfl) rfl rfl (a1F hT hB rfl rfl rfl (a1b (a0a rfl) rfl rfl rfl rfl rfl (a1b (a0a rfl) rfl rfl rfl rfl rfl (a1b (a0a rfl) rfl rfl rfl rfl rfl a1E)))) rfl rfl rfl rfl ?_
     refine a2g 10 [] (by kernel_rfl) ⟨?_, trivial⟩
     ·refine a6r 10 rfl rfl (by kernel_rfl) (a4A hT rfl rfl rfl (a0a rfl) (a0a rfl) rfl rfl rfl rfl rfl rfl) (by kernel_rfl) ?_
      exact a3C (a0e ⟨rfl, rfl, rfl, trivial⟩ ⟨rfl, rfl, rfl, trivial⟩ ⟨rfl, trivial⟩ rfl)
  ·refine a8p 9 hT rfl rfl rfl rfl rfl rfl rfl rfl rfl rfl ?_
   refine a2g 4 [] (by kernel_rfl) ⟨?_, trivial⟩
   ·refine a7W (k := 900) 4 hT rfl rfl rfl rfl rfl rfl rfl rfl rfl rfl rfl rfl ?_
    refine a2g 7 [] (by kernel_rfl) ⟨?_, trivial⟩
    ·refine a3N (k := 900) (cs := (x.2.2.2).flatMap a1O) (n := (x.2.2.2).length) 7 hT rfl rfl rfl rfl rfl rfl rfl rfl (a0a rfl) rfl rfl rfl (a0a rfl) (a3S (fun _ => rfl) _) (by first | (dsimp only [a0b]; omega) | omega) (by first | (dsimp only [a0b]; omega) | omega) (Nat.zero_add _) (rfl) rfl rfl ?_
     simp only [a0l, a0i, SV.kill, CV.kill, kk, Nat.reduceBEq]
     refine a5B 8 rfl (by kernel_rfl) rfl rfl (a1F hT hB rfl rfl rfl (a1b (a0a rfl) rfl rfl rfl rfl rfl (a1b (a0a rfl) rfl rfl rfl rfl rfl (a1b (a0a rfl) rfl rfl rfl rfl rfl a1E)))) rfl rfl rfl rfl ?_
     refine a2g 10 [] (by kernel_rfl) ⟨?_, trivial⟩
     ·refine a6r 10 rfl rfl (by kernel_rfl) (a4A hT rfl rfl rfl (a0a rfl) (a0a rfl) rfl rfl rfl rfl rfl rfl) (by kernel_rfl) ?_
      exact a3C (a0e ⟨rfl, rfl, rfl, trivial⟩ ⟨rfl, rfl, rfl, trivial⟩ ⟨rfl, trivial⟩ rfl)
 refine a0p ?_
 refine a0p ?_
 refine a0h (a3a 31 (b := 3) (i := 2) (e := 60) (sz := 3) rfl rfl rfl rfl rfl) ?_
 simp only [a0l, a0i, SV.kill, CV.kill, kk, Nat.reduceBEq]
 refine a0o ?_
 iterate 3 refine z ?_
 refine a1f (ι := Nat) (fun zz => ⟨[(1, .box 1 0), (2, .box 2 0), (3, .box 3 0), (4, .one (.dv [] (.int .i64 ((zz : Int)))))], [(1, 27, [(.dv [] (.str (x.1))), (.dv [] (.int .i64 (x.2.1))), (.dv [] (a0k (x.2.2.1))), (.dv [] (a0r (x.2.2.2)))]), (2, 27, [(.dv [] (.str (ByteArray.empty))), (.dv [] (.int .i64 (0))), .nil, .nil]), (3, 27, [(.dv [] (.str (x.1))), (.dv [] (.int .i64 (x.2.1))), (.key 31), (.key 900)])], [(31, some (a0b false (.sl 60 3 ((x.2.2.1.take zz).length) ((x.2.2.1.take zz).flatMap a0T)))), (900, some (a0b false (.sl 78 2 ((x.2.2.2).length) ((x.2.2.2).flatMap a1O))))]⟩) (fun zz => zz ≤ x.2.2.1.length) (fun zz => x.2.2.1.length - zz) (0) ?_ (a0e ⟨rfl, rfl, rfl, rfl, trivial⟩ ⟨rfl, rfl, rfl, trivial⟩ ⟨rfl, rfl, trivial⟩ rfl) (fun zz hx => ?_)
 ·exact Nat.zero_le _
 obtain ⟨k, rfl⟩ : ∃ v, v = zz := ⟨_, rfl⟩
 replace hx : k ≤ x.2.2.1.length := hx
 have hw := fun h => a3j a0X x.2.2.1 k h
 show Ok _ _ _ _ _ (⟨[(1, .box 1 0), (2, .box 2 0), (3, .box 3 0), (4, .one (.dv [] (.int .i64 ((k : Int)))))], [(1, 27, [(.dv [] (.str (x.1))), (.dv [] (.int .i64 (x.2.1))), (.dv [] (a0k (x.2.2.1))), (.dv [] (a0r (x.2.2.2)))]), (2, 27, [(.dv [] (.str (ByteArray.empty))), (.dv [] (.int .i64 (0))), .nil, .nil]), (3, 27, [(.dv [] (.str (x.1))), (.dv [] (.int .i64 (x.2.1))), (.key 31), (.key 900)])], [(31, some (a0b false (.sl 60 3 ((x.2.2.1.take k).length) ((x.2.2.1.take k).flatMap a0T)))), (900, some (a0b false (.sl 78 2 ((x.2.2.2).length) ((x.2.2.2).flatMap a1O))))]⟩ : St)
 iterate 8 refine z ?_
 refine yQ rfl (fun c1 => ?_) fun c1 => ?_
 ·have d1 := of_decide_eq_true c1
  have hk2 : k < x.2.2.1.length := by omega
  obtain ⟨hw1, hw2⟩ := hw hk2
  iterate 4 refine z ?_
  refine a3G [0, 1, 2, 3, 4, 5, 6, 7, 8] (oB := [1, 2, 3]) (oK := [31, 900]) (by kernel_rfl) rfl rfl ?_
  refine zD 0 ?_
  refine zD 1 ?_
  refine zD 2 ?_
  refine zD 3 ?_
  refine zD 4 ?_
  refine zD 5 ?_
  refine zD 6 ?_
  refine a3f 28000 7 rfl (by kernel_rfl) rfl rfl rfl Tryz.call54 (a5W (x := (((x.2.2.1)).getD ((k : Int)).toNat default)) (by omega)) (a0g (a0a rfl) (a0t (a0d a0c (a0d a0c (a0d a0c a0s)))) a0w) rfl rfl rfl rfl rfl ?_
  refine a4o (k := 29) (js := [28030]) 8 hT rfl (by kernel_rfl) rfl rfl rfl rfl rfl rfl rfl rfl rfl (a0a rfl) rfl rfl (a0q (a0B rfl) (a0q (a2b rfl) (a0q (a0B rfl) a1t rfl) rfl) rfl) (by decide) (by decide) rfl rfl (by decide) ?_
  simp only [a0l, a0i, SV.kill, CV.kill, kk, Nat.reduceBEq]
  refine a2B [9, 10, 11] rfl rfl (by kernel_rfl) ?_
  refine a2z (k := 31) (j := 29) (cs := (x.2.2.1.take (k + 1)).flatMap a0T) (n := (x.2.2.1.take (k + 1)).length) hT rfl rfl rfl rfl rfl rfl rfl (a0a rfl) rfl rfl rfl (a0a rfl) rfl rfl (by decide) (by dsimp only [a0b]; simp only [List.length_take]; omega) (by dsimp only [a0b]; simp only [List.length_take]; omega) ((a3z (enc := a0T) hk2).2) ((a3z (enc := a0T) hk2).1) ?_
  simp only [a0l, a0i, SV.kill, CV.kill, kk, Nat.reduceBEq]
  iterate 2 refine z ?_
  refine a1z ?_
  iterate 2 refine z ?_
  refine a0o ?_
  iterate 4 refine z ?_
  refine ⟨k + 1, ?_, ?_, a0e ⟨rfl, rfl, rfl, rfl, trivial⟩ ⟨rfl, rfl, rfl, trivial⟩ ⟨rfl, rfl, trivial⟩ rfl⟩
  ·omega
  ·omega
 ·have d1 := of_decide_eq_false c1
  iterate 9 refine z ?_
  refine a0h (σ' := ⟨[(2, .box 2 0)], [(2, 27, [(.dv [] (.str (x.1))), (.dv [] (.int .i64 (x.2.1))), (.key 31), (.key 900)])], [(31, some (a0b false (a0k (x.2.2.1)))), (900, some (a0b false (a0r (x.2.2.2))))]⟩) (a0e ⟨rfl, trivial⟩ ⟨rfl, trivial⟩ ⟨(congrArg (fun l : List (a0u) => some (some (KC.mk false 60 3 l.length (l.flatMap a0T)))) (List.take_of_length_le (by omega))), rfl, trivial⟩ rfl) ?_
  refine z ?_
  refine a1x (a0C hT rfl rfl rfl rfl) ?_
  exact ⟨rfl, rfl⟩
end Go.Proofs.YtjkpoekgnmgofaaGreat

namespace Go.Proofs.YtjkpoekgnmgofaaGreat
open Go.RowKit
open Go.Proofs
set_option linter.unusedVariables false
set_option linter.unusedSimpArgs false

def a5o (q : List TxT) : Int := if 0 < q.length then IntKind.i64.wrap ((q.getD ((q.length : Int) - 1).toNat default).1 + 1) else 1
def a4Y (q : List TxT) (o : List OpT) : List TxT × Int × Bool := if decide (6 ≤ q.length) || !a4g o then (q, 0, false) else (q ++ [(a5o q, o, 0, 0, [])], a5o q, true)
theorem b6r {a : Nat} : decide ((6 : Int) ≤ (a : Int)) = decide (6 ≤ a) := decide_eq_decide.2 (by omega)
theorem b8d {q : List TxT} {o : List OpT} (h : (decide ((6 : Int) ≤ (q.length : Int)) || !a4g o) = true) : a4Y q o = (q, 0, false) := by
 rw [b6r] at h
 rw [a4Y, if_pos h]
theorem b7g {q : List TxT} {o : List OpT} {z : Int} (h : (decide ((6 : Int) ≤ (q.length : Int)) || !a4g o) = false) (hz : z = a5o q) : a4Y q o = (q ++ [(z, o, 0, 0, [])], z, true) := by
 rw [b6r] at h
 rw [a4Y, if_neg (by rw [h]; simp), hz]
theorem c2r {q : List TxT} (h : (0 : Int) < (q.length : Int)) : IntKind.i64.wrap ((q.getD ((q.length : Int) - 1).toNat default).1 + 1) = a5o q := by rw [a5o, if_pos (by omega)]
theorem c0K {q : List TxT} (h : ¬ (0 : Int) < (q.length : Int)) : 1 = a5o q := by rw [a5o, if_neg (by omega)]
theorem c4M {l : List OpT} (h : (6 : Int) < (l.length : Int)) : a4g l = false := by
 unfold a4g; rw [decide_eq_false (by omega)]; simp
theorem c0D {x : List TxT} {y : List OpT} (hb : a1a wTx x ≤ 1099511627776) (hb2 : a1a wOp y ≤ 1099511627776) : KFn Tryz.prog 38 [.agg [(.dv [] (a1q (x)))], .one (.dv [] (a1m (y)))] (.tup [(true, [(.key 90001)]), (false, [(.dv [] (.int .i64 ((a4Y x y).2.1)))]), (false, [(.dv [] (.bool ((a4Y x y).2.2)))])]) [(90001, some (a0b false (a1q ((a4Y x y).1))))] := by
 refine ⟨a0R Tryz.func38 rfl Tryz.ntmps38 Tryz.results38 rfl (fun C => ?_)⟩
 have hwl : a1a wTx x = x.length + a0D wTx x := rfl
 refine yF 0 0 rfl rfl fun f0_0 => ?_
 refine a1i (x := .tmp 1) (a0a rfl) fun f1 => ?_
 iterate 8 refine z ?_
 refine zK 89970 Tryz.call68 ?_ (hf := c1I (x := x) (by omega))
 iterate 15 refine z ?_
 refine yQ rfl (fun c1 => ?_) fun c1 => ?_
 ·have hbad : (decide ((6 : Int) ≤ (x.length : Int)) || !a4g y) = true := by
   cases h : decide ((6 : Int) < (y.length : Int)) with
   | true => rw [c4M (of_decide_eq_true h)]; simp
   | false => rw [h, Bool.or_false] at c1; rw [c1]; rfl
  iterate 6 refine z ?_
  rw [b8d hbad]
  refine a0h (σ' := ⟨[(4, .box 4 0), (5, .one (.dv [] (.int .i64 (0)))), (6, .one (.dv [] (.bool (false))))], [(4, 30, [(.key 90001)])], [(90001, some (a0b false (a1q (x))))]⟩) (a0e ⟨rfl, rfl, rfl, trivial⟩ ⟨rfl, trivial⟩ ⟨rfl, trivial⟩ rfl) ?_
  iterate 2 refine z ?_
  refine a1J (a0C hT rfl rfl rfl rfl) (a0v rfl) (a0v rfl) rfl rfl rfl ?_
  first | exact ⟨rfl, rfl⟩ | skip
 ·iterate 7 refine z ?_
  refine a1f (ι := Nat) (fun zz => ⟨[(1, .one (.dv [] (a1m (y)))), (2, .box 2 0), (4, .box 4 0), (7, .box 7 0), (8, .one (.dv [] (.int .i64 ((zz : Int)))))], [(2, 30, [(.dv [] (a1q (x)))]), (4, 30, [.nil]), (7, 30, [(.key 90001)])], [(90001, some (a0b false (a1q ((x)))))]⟩) (fun zz => zz ≤ y.length ∧ (y.take zz).all a1X = true) (fun zz => y.length - zz) (0) ?_ (a0e ⟨rfl, rfl, rfl, rfl, rfl, trivial⟩ ⟨rfl, rfl, rfl, trivial⟩ ⟨rfl, trivial⟩ rfl) (fun zz hx => ?_)
  ·exact ⟨Nat.zero_le _, rfl⟩
  obtain ⟨k, rfl⟩ : ∃ v, v = zz := ⟨_, rfl⟩
  replace hx : k ≤ y.length ∧ (y.take k).all a1X = true := hx
  obtain ⟨hk, hall⟩ := hx
  show Ok _ _ _ _ _ (⟨[(1, .one (.dv [] (a1m (y)))), (2, .box 2 0), (4, .box 4 0), (7, .box 7 0), (8, .one (.dv [] (.int .i64 ((k : Int)))))], [(2, 30, [(.dv [] (a1q (x)))]), (4, 30, [.nil]), (7, 30, [(.key 90001)])], [(90001, some (a0b false (a1q ((x)))))]⟩ : St)
  iterate 7 refine z ?_
  refine yQ rfl (fun c2 => ?_) fun c2 => ?_
  ·have d2 := of_decide_eq_true c2
   iterate 9 refine z ?_
   refine zC Tryz.call60 ?_ (hf := b6t (x := (((y)).getD ((k : Int)).toNat default)) )
   iterate 2 refine z ?_
   refine yQ rfl (fun c3 => ?_) fun c3 => ?_
   ·have hbad : (decide ((6 : Int) ≤ (x.length : Int)) || !a4g y) = true := by
     rw [c4r (k := k) (by omega) (by simpa using c3)]; simp
    iterate 6 refine z ?_
    rw [b8d hbad]
    refine a0h (σ' := ⟨[(4, .box 4 0), (5, .one (.dv [] (.int .i64 (0)))), (6, .one (.dv [] (.bool (false))))], [(4, 30, [(.key 90001)])], [(90001, some (a0b false (a1q (x))))]⟩) (a0e ⟨rfl, rfl, rfl, trivial⟩ ⟨rfl, trivial⟩ ⟨rfl, trivial⟩ rfl) ?_
    iterate 6 refine z ?_
    refine a1J (a0C hT rfl rfl rfl rfl) (a0v rfl) (a0v rfl) rfl rfl rfl ?_
    first | exact ⟨rfl, rfl⟩ | skip
   ·iterate 3 refine z ?_
    refine a0o ?_
    iterate 4 refine z ?_
    refine ⟨k + 1, ?_, ?_, a0e ⟨rfl, rfl, rfl, rfl, rfl, trivial⟩ ⟨rfl, rfl, rfl, trivial⟩ ⟨rfl, trivial⟩ rfl⟩
    ·exact ⟨by omega, c1R hall (by omega) (by simpa using c3)⟩
    ·omega
  ·have d2 := of_decide_eq_false c2
   have hgood : (decide ((6 : Int) ≤ (x.length : Int)) || !a4g y) = false := by
    have h1 := c1
    simp only [Bool.or_eq_false_iff, decide_eq_false_iff_not] at h1
    rw [c1N hall (by omega), decide_eq_true (by omega : (y.length : Int) ≤ 6), decide_eq_false (by omega : ¬ (6 : Int) ≤ (x.length : Int))]; rfl
   iterate 15 refine z ?_
   refine yQ rfl (fun c4 => ?_) fun c4 => ?_
   ·have d4 := of_decide_eq_true c4
    refine a0o ?_
    iterate 9 refine z ?_
    refine yO rfl rfl (a8l rfl (a0a rfl) (a0n (a0m rfl))) rfl ?_
    iterate 2 refine z ?_
    refine a0p ?_
    refine a3G [0, 1, 2, 3, 4, 5, 6] (oB := [2, 4, 7]) (oK := [90001]) (by kernel_rfl) rfl rfl ?_
    refine zD 0 ?_
    refine zD 1 ?_
    refine zD 2 ?_
    refine zD 3 ?_
    refine a3f 89999 4 rfl (by kernel_rfl) rfl rfl rfl Tryz.call69 (b2D (x := y) (by omega)) (a0g (a0a rfl) (a0I a0c) a0w) rfl rfl rfl rfl rfl ?_
    refine a1k 5 rfl (by kernel_rfl) rfl rfl (a1F hT hB rfl rfl rfl (a1b (a0a rfl) rfl rfl rfl rfl rfl (a1b (a0a rfl) rfl rfl rfl rfl rfl a1E))) rfl rfl rfl rfl ?_
    refine a4o (k := 55) (js := [90005]) 6 hT rfl (by kernel_rfl) rfl rfl rfl rfl rfl rfl rfl rfl rfl (a0a rfl) rfl rfl (a0q (a0B rfl) (a0q (a2b rfl) (a0q (a0B rfl) (a0q (a0B rfl) (a0q (a7m (e := 60) (sz := 3) rfl) a1t rfl) rfl) rfl) rfl) rfl) (by decide) (by decide) rfl rfl (by decide) ?_
    simp only [a0l, a0i, SV.kill, CV.kill, kk, Nat.reduceBEq]
    refine a2B [7, 8, 9] rfl rfl (by kernel_rfl) ?_
    refine a2z (k := 90001) (j := 55) (cs := (x ++ [(IntKind.i64.wrap ((x.getD ((x.length : Int) - 1).toNat default).1 + 1), y, (0 : Int), (0 : Int), ([] : List a0u))]).flatMap eTx) (n := (x ++ [(IntKind.i64.wrap ((x.getD ((x.length : Int) - 1).toNat default).1 + 1), y, (0 : Int), (0 : Int), ([] : List a0u))]).length) hT rfl rfl rfl rfl rfl rfl rfl (a0a rfl) rfl rfl rfl (a0a rfl) rfl rfl (by decide) (by dsimp only [a0b, KC.old]; omega) (by dsimp only [a0b, KC.old]; omega) (by rw [List.length_append]; rfl) (by rw [List.flatMap_append]; rfl) ?_
    simp only [a0l, a0i, SV.kill, CV.kill, kk, Nat.reduceBEq]
    iterate 10 refine z ?_
    rw [b7g hgood (c2r d4)]
    refine a0h (σ' := ⟨[(4, .box 4 0), (5, .one (.dv [] (.int .i64 (IntKind.i64.wrap (((((x)).getD (((((x)).length : Int)) - (1)).toNat default).1) + (1)))))), (6, .one (.dv [] (.bool (true))))], [(4, 30, [(.key 90001)])], [(90001, some (a0b false (a1q (x ++ [(IntKind.i64.wrap ((x.getD ((x.length : Int) - 1).toNat default).1 + 1), y, (0 : Int), (0 : Int), ([] : List a0u))]))))]⟩) (a0e ⟨rfl, rfl, rfl, trivial⟩ ⟨rfl, trivial⟩ ⟨rfl, trivial⟩ rfl) ?_
    refine z ?_
    refine a1J (a0C hT rfl rfl rfl rfl) (a0v rfl) (a0v rfl) rfl rfl rfl ?_
    first | exact ⟨rfl, rfl⟩ | skip
   ·have d4 := of_decide_eq_false c4
    iterate 2 refine z ?_
    refine a0p ?_
    refine a3G [0, 1, 2, 3, 4, 5, 6] (oB := [2, 4, 7]) (oK := [90001]) (by kernel_rfl) rfl rfl ?_
    refine zD 0 ?_
    refine zD 1 ?_
    refine zD 2 ?_
    refine zD 3 ?_
    refine a3f 89999 4 rfl (by kernel_rfl) rfl rfl rfl Tryz.call69 (b2D (x := y) (by omega)) (a0g (a0a rfl) (a0I a0c) a0w) rfl rfl rfl rfl rfl ?_
    refine a1k 5 rfl (by kernel_rfl) rfl rfl (a1F hT hB rfl rfl rfl (a1b (a0a rfl) rfl rfl rfl rfl rfl (a1b (a0a rfl) rfl rfl rfl rfl rfl a1E))) rfl rfl rfl rfl ?_
    refine a4o (k := 55) (js := [90005]) 6 hT rfl (by kernel_rfl) rfl rfl rfl rfl rfl rfl rfl rfl rfl (a0a rfl) rfl rfl (a0q (a0B rfl) (a0q (a2b rfl) (a0q (a0B rfl) (a0q (a0B rfl) (a0q (a7m (e := 60) (sz := 3) rfl) a1t rfl) rfl) rfl) rfl) rfl) (by decide) (by decide) rfl rfl (by decide) ?_
    simp only [a0l, a0i, SV.kill, CV.kill, kk, Nat.reduceBEq]
    refine a2B [7, 8, 9] rfl rfl (by kernel_rfl) ?_
    refine a2z (k := 90001) (j := 55) (cs := (x ++ [((1 : Int), y, (0 : Int), (0 : Int), ([] : List a0u))]).flatMap eTx) (n := (x ++ [((1 : Int), y, (0 : Int), (0 : Int), ([] : List a0u))]).length) hT rfl rfl rfl rfl rfl rfl rfl (a0a rfl) rfl rfl rfl (a0a rfl) rfl rfl (by decide) (by dsimp only [a0b, KC.old]; omega) (by dsimp only [a0b, KC.old]; omega) (by rw [List.length_append]; rfl) (by rw [List.flatMap_append]; rfl) ?_
    simp only [a0l, a0i, SV.kill, CV.kill, kk, Nat.reduceBEq]
    iterate 10 refine z ?_
    rw [b7g hgood (c0K d4)]
    refine a0h (σ' := ⟨[(4, .box 4 0), (5, .one (.dv [] (.int .i64 (1)))), (6, .one (.dv [] (.bool (true))))], [(4, 30, [(.key 90001)])], [(90001, some (a0b false (a1q (x ++ [((1 : Int), y, (0 : Int), (0 : Int), ([] : List a0u))]))))]⟩) (a0e ⟨rfl, rfl, rfl, trivial⟩ ⟨rfl, trivial⟩ ⟨rfl, trivial⟩ rfl) ?_
    refine z ?_
    refine a1J (a0C hT rfl rfl rfl rfl) (a0v rfl) (a0v rfl) rfl rfl rfl ?_
    first | exact ⟨rfl, rfl⟩ | skip
end Go.Proofs.YtjkpoekgnmgofaaGreat

namespace Go.Proofs.YtjkpoekgnmgofaaGreat
open Go.RowKit
open Go.Proofs
set_option linter.unusedVariables false
set_option linter.unusedSimpArgs false

section
variable {α : Type} {enc : α → List DV} {sz : Nat} {q : α → Bool} {x : List α}
theorem a3V (hs : ∀ y, (enc y).length = sz) : ∀ xs : List α, (xs.flatMap enc).length = xs.length * sz
 | [] => by simp
 | y :: xs => by rw [List.flatMap_cons, List.length_append, a3V hs xs, hs, List.length_cons, Nat.add_mul, Nat.one_mul, Nat.add_comm]
theorem a6y {p : α → Bool} {d : α} : ∀ (xs : List α) (i : Int), 0 ≤ i → (a0j p xs i = -1 ∧ xs.any p = false) ∨ ∃ m, m < xs.length ∧ a0j p xs i = i + (m : Int) ∧ (xs.take m).any p = false ∧ p (xs.getD m d) = true
 | [], i, h => .inl ⟨rfl, rfl⟩
 | y :: xs, i, h => by
  rw [a0j]
  by_cases hp : p y = true
  ·rw [if_pos hp]
   exact .inr ⟨0, by simp, by simp, by simp, by simpa using hp⟩
  ·rw [if_neg hp]
   rcases a6y (p := p) (d := d) xs (i + 1) (by omega) with ⟨h1, h2⟩ | ⟨m, h1, h2, h3, h4⟩
   ·exact .inl ⟨h1, by simp [h2, hp]⟩
   ·exact .inr ⟨m + 1, by simpa using h1, by rw [h2]; omega, by simp [h3, hp], by simpa using h4⟩
def a2W (enc : α → List DV) (q : α → Bool) (x : List α) (k : Nat) (G : List DV) : List DV := ((x.take k).filter q).flatMap enc ++ (G ++ (x.drop k).flatMap enc)
theorem c0n (hs : ∀ y, (enc y).length = sz) {i k : Nat} {G : List DV} (hi : i = ((x.take k).filter q).length) (hG : G.length + i * sz = k * sz) (hk : k ≤ x.length) : (a2W enc q x k G).length = x.length * sz := by
 have e : (x.length - k) * sz + k * sz = x.length * sz := by rw [← Nat.add_mul]; congr 1; omega
 rw [a2W, List.length_append, List.length_append, a3V hs, a3V hs, ← hi, List.length_drop]
 omega
theorem b4E (hs : ∀ y, (enc y).length = sz) {i k : Nat} {G : List DV} [Inhabited α] (hi : i = ((x.take k).filter q).length) (hG : G.length + i * sz = k * sz) (hk : k < x.length) : sub (k * sz) sz (a2W enc q x k G) = enc (x.getD k default) := by
 have e : x.drop k = x.getD k default :: x.drop (k + 1) := by rw [List.drop_eq_getElem_cons hk]; simp [List.getD, List.getElem?_eq_getElem hk]
 rw [a2W, ← List.append_assoc, e, List.flatMap_cons, sub, List.drop_left' (by rw [List.length_append, a3V hs, ← hi]; omega), List.take_left' (hs _)]
theorem c5K (hs : ∀ y, (enc y).length = sz) {i k : Nat} {G : List DV} [Inhabited α] (hi : i = ((x.take k).filter q).length) (hG : G.length + i * sz = k * sz) (hk : k < x.length) (hik : i < k) (hq : q (x.getD k default) = true) :
  a1e (i * sz) (enc (x.getD k default)) (a1e (k * sz) (List.replicate sz .hole) (a2W enc q x k G)) = a2W enc q x (k + 1) (G.drop sz ++ List.replicate sz .hole) := by
 have e : x.drop k = x.getD k default :: x.drop (k + 1) := by rw [List.drop_eq_getElem_cons hk]; simp [List.getD, List.getElem?_eq_getElem hk]
 have m1 : (i + 1) * sz ≤ k * sz := Nat.mul_le_mul_right _ hik
 rw [Nat.add_mul, Nat.one_mul] at m1
 have l1 : (((x.take k).filter q).flatMap enc).length = i * sz := by rw [a3V hs, ← hi]
 have e1 : a1e (k * sz) (List.replicate sz DV.hole) (a2W enc q x k G) = ((x.take k).filter q).flatMap enc ++ (G.take sz ++ (G.drop sz ++ (List.replicate sz .hole ++ (x.drop (k + 1)).flatMap enc))) := by
  rw [a2W, e, List.flatMap_cons, ← List.append_assoc, a6g (by rw [List.length_append, l1]; omega) (by simp [hs])]
  rw [List.append_assoc, ← List.append_assoc (G.take sz), List.take_append_drop]
 rw [e1, a6g l1.symm (by rw [hs, List.length_take]; omega), a2W, List.take_add_one, List.getElem?_eq_getElem hk, List.filter_append, List.flatMap_append]
 have : x.getD k default = x[k] := by simp [List.getD, List.getElem?_eq_getElem hk]
 rw [this] at hq ⊢
 simp [hq]
theorem c6l (hs : ∀ y, (enc y).length = sz) {k : Nat} {G : List DV} [Inhabited α] (hk : k < x.length) (hq : q (x.getD k default) = false) : a2W enc q x k G = a2W enc q x (k + 1) (G ++ enc (x.getD k default)) ∧ ((x.take (k + 1)).filter q).length = ((x.take k).filter q).length := by
 have e : x.drop k = x.getD k default :: x.drop (k + 1) := by rw [List.drop_eq_getElem_cons hk]; simp [List.getD, List.getElem?_eq_getElem hk]
 have : x.getD k default = x[k] := by simp [List.getD, List.getElem?_eq_getElem hk]
 have e2 : (x.take (k + 1)).filter q = (x.take k).filter q := by
  rw [List.take_add_one, List.getElem?_eq_getElem hk, List.filter_append]
  rw [this] at hq
  simp [hq]
 refine ⟨?_, by rw [e2]⟩
 rw [a2W, a2W, e2, e, List.flatMap_cons]
 simp
theorem c3H {k : Nat} [Inhabited α] (hk : k < x.length) (hq : q (x.getD k default) = true) : ((x.take (k + 1)).filter q).length = ((x.take k).filter q).length + 1 := by
 have : x.getD k default = x[k] := by simp [List.getD, List.getElem?_eq_getElem hk]
 rw [List.take_add_one, List.getElem?_eq_getElem hk, List.filter_append]
 rw [this] at hq
 simp [hq]
theorem c3l (hs : ∀ y, (enc y).length = sz) {i k : Nat} {G : List DV} (hi : i = ((x.take k).filter q).length) (hG : G.length + i * sz = k * sz) (hk : k = x.length) : a1e (i * sz) (List.replicate ((x.length - i) * sz) .hole) (a2W enc q x k G) = (x.filter q).flatMap enc ++ List.replicate ((x.length - i) * sz) .hole := by
 subst hk
 rw [List.take_length] at hi
 have m : (x.length - i) * sz + i * sz = x.length * sz := by rw [← Nat.add_mul]; congr 1; have := List.length_filter_le q x; omega
 rw [a2W, List.take_length, List.drop_length, List.flatMap_nil]
 have := a6g (A := (x.filter q).flatMap enc) (B := G) (us := List.replicate ((x.length - i) * sz) DV.hole) (D := []) (off := i * sz) (by rw [a3V hs, hi]) (by simp; omega)
 simpa using this
theorem c5V (hs : ∀ y, (enc y).length = sz) {i : Nat} {H : List DV} (hi : i = (x.filter q).length) : ((x.filter q).flatMap enc ++ H).take (i * sz) = (x.filter q).flatMap enc := List.take_left' (by rw [a3V hs, hi])
theorem c4V {m : Nat} [Inhabited α] (hm : m < x.length) (h3 : (x.take m).any (fun y => !q y) = false) (h4 : q (x.getD m default) = false) : x.flatMap enc = a2W enc q x (m + 1) (enc (x.getD m default)) ∧ m = ((x.take (m + 1)).filter q).length := by
 have e : x.drop m = x.getD m default :: x.drop (m + 1) := by rw [List.drop_eq_getElem_cons hm]; simp [List.getD, List.getElem?_eq_getElem hm]
 have this : x.getD m default = x[m] := by simp [List.getD, List.getElem?_eq_getElem hm]
 have e1 : (x.take m).filter q = x.take m := by
  rw [List.filter_eq_self]
  intro y hy
  rw [List.any_eq_false] at h3
  simpa using h3 y hy
 have e2 : (x.take (m + 1)).filter q = x.take m := by
  rw [List.take_add_one, List.getElem?_eq_getElem hm, List.filter_append, e1]
  rw [this] at h4
  simp [h4]
 refine ⟨?_, by rw [e2, List.length_take]; omega⟩
 rw [a2W, e2, ← List.flatMap_cons, ← e, ← List.flatMap_append, List.take_append_drop]
theorem c2L (h : x.any (fun y => !q y) = false) : x.filter q = x := by
 rw [List.filter_eq_self]
 intro y hy
 rw [List.any_eq_false] at h
 simpa using h y hy
end
def a4R (r : a3v) (y : a0O) : Bool := a5M y.1 r
def a1D (r : a3v) (y : a0O) : Bool := !a5M y.1 r
theorem b7W (r : a3v) : (fun y => !a1D r y) = a4R r := by funext y; simp [a1D, a4R]
def a1M (x : a0u) (r : a3v) : a0u × Int := if a1g x then ((x.1, x.2.1.filter (a1D r), x.2.2), (x.2.1.length : Int) - ((x.2.1.filter (a1D r)).length : Int)) else (x, 0)
theorem b5Q {p : a0O → Bool} {xs : List a0O} {k : Nat} (hk : k < xs.length) (h : p (xs.getD (k : Int).toNat default) = true) : ((xs.take k).filter p).flatMap a0K ++ a0K (xs.getD (k : Int).toNat default) = ((xs.take (k + 1)).filter p).flatMap a0K ∧ ((xs.take k).filter p).length + 1 = ((xs.take (k + 1)).filter p).length := by
 rw [b6i hk, if_pos h, List.flatMap_append, List.flatMap_cons, List.flatMap_nil, List.append_nil, List.length_append]
 exact ⟨rfl, rfl⟩
theorem c0W {p : a0O → Bool} {xs : List a0O} {k : Nat} (hk : k < xs.length) (h : p (xs.getD (k : Int).toNat default) = false) : (xs.take k).filter p = (xs.take (k + 1)).filter p := by
 rw [b6i hk, if_neg (by rw [h]; simp), List.append_nil]
theorem b7m {x : a0u} {r : a3v} (h : (!a1g x) = true) : a1M x r = (x, 0) := by rw [a1M, if_neg (by simpa using h)]
theorem b5V {x : a0u} {r : a3v} (h : (!a1g x) = false) : a1M x r = ((x.1, x.2.1.filter (a1D r), x.2.2), (x.2.1.length : Int) - ((x.2.1.filter (a1D r)).length : Int)) := by rw [a1M, if_pos (by simpa using h)]

theorem b5O {y : a0O} {r : a3v}  : PFn Tryz.prog 124 [.agg [(.dv [] (.int .i64 (y.1.1))), (.dv [] (.int .i64 (y.1.2.1))), (.dv [] (.str (y.1.2.2))), (.dv [] (a0L (y.2)))], .ref [] [.bool (r.1), .bool (r.2.1), .int .i64 (r.2.2.1.1), .int .i64 (r.2.2.1.2.1), .str (r.2.2.1.2.2), .int .i64 (r.2.2.2.1), .int .i64 (r.2.2.2.2.1), .str (r.2.2.2.2.2)]] (.one (.dv [] (.bool (a4R r y)))) := by
 refine ⟨a0R Tryz.func124 rfl Tryz.ntmps124 Tryz.results124 rfl (fun C => ?_)⟩
 refine yF 0 0 rfl rfl fun f0_0 => ?_
 refine yF 0 1 rfl rfl fun f0_1 => ?_
 refine yF 0 2 rfl rfl fun f0_2 => ?_
 refine yF 0 3 rfl rfl fun f0_3 => ?_
 iterate 8 refine z ?_
 refine zC Tryz.call125 ?_ (hf := c0S)
 iterate 4 refine z ?_
 rfl
theorem c0N {x : List a0O} {r : a3v}  : PFn Tryz.prog 120 [.one (.dv [] (a0x (x))), .fn 124 [[.bool (r.1), .bool (r.2.1), .int .i64 (r.2.2.1.1), .int .i64 (r.2.2.1.2.1), .str (r.2.2.1.2.2), .int .i64 (r.2.2.2.1), .int .i64 (r.2.2.2.2.1), .str (r.2.2.2.2.2)]]] (.one (.dv [] (.int .i64 (a0j (a4R r) x 0)))) := by
 refine ⟨a0R Tryz.func120 rfl Tryz.ntmps120 Tryz.results120 rfl (fun C => ?_)⟩
 refine a1i (x := .tmp 0) (a0a rfl) fun f0 => ?_
 iterate 10 refine z ?_
 refine a1f (ι := Nat) (fun zz => ⟨[(0, .one (.dv [] (a0x (x)))), (1, .fn 124 [[.bool (r.1), .bool (r.2.1), .int .i64 (r.2.2.1.1), .int .i64 (r.2.2.1.2.1), .str (r.2.2.1.2.2), .int .i64 (r.2.2.2.1), .int .i64 (r.2.2.2.2.1), .str (r.2.2.2.2.2)]]), (7, .one (.dv [] (.int .i64 ((((x)).length : Int))))), (8, .one (.dv [] (.int .i64 ((zz : Int)))))], [], []⟩) (fun zz => zz ≤ x.length ∧ (x.take zz).any (a4R r) = false) (fun zz => x.length - zz) (0) ?_ (a0e ⟨rfl, rfl, rfl, rfl, trivial⟩ trivial trivial rfl) (fun zz hx => ?_)
 ·exact ⟨Nat.zero_le _, rfl⟩
 obtain ⟨n, rfl⟩ : ∃ v, v = zz := ⟨_, rfl⟩
 replace hx : n ≤ x.length ∧ (x.take n).any (a4R r) = false := hx
 obtain ⟨hk, hall⟩ := hx
 show Ok _ _ _ _ _ (⟨[(0, .one (.dv [] (a0x (x)))), (1, .fn 124 [[.bool (r.1), .bool (r.2.1), .int .i64 (r.2.2.1.1), .int .i64 (r.2.2.1.2.1), .str (r.2.2.1.2.2), .int .i64 (r.2.2.2.1), .int .i64 (r.2.2.2.2.1), .str (r.2.2.2.2.2)]]), (7, .one (.dv [] (.int .i64 ((((x)).length : Int))))), (8, .one (.dv [] (.int .i64 ((n : Int)))))], [], []⟩ : St)
 iterate 3 refine z ?_
 refine a0p ?_
 refine yQ rfl (fun c1 => ?_) fun c1 => ?_
 ·have d1 := of_decide_eq_true c1
  iterate 14 refine z ?_
  refine a7u rfl rfl rfl (a0a rfl) Tryz.call124 b5O (a0g (a0a rfl) (a0t (a0d a0c (a0d a0c (a0d a0c (a0d a0c a0s))))) a0w) rfl rfl ?_
  refine z ?_
  refine yQ rfl (fun c2 => ?_) fun c2 => ?_
  ·iterate 11 refine z ?_
   exact (a6h (p := a4R r) (d := default) hall (by omega) c2).symm
  ·iterate 3 refine z ?_
   refine a0o ?_
   iterate 3 refine z ?_
   refine ⟨n + 1, ?_, ?_, a0e ⟨rfl, rfl, rfl, rfl, trivial⟩ trivial trivial rfl⟩
   ·exact ⟨by omega, a6e (d := default) hall (by omega) c2⟩
   ·omega
 ·have d1 := of_decide_eq_false c1
  iterate 10 refine z ?_
  exact (a5V (p := a4R r) hall (by omega)).symm
theorem c0i {x : List a0O} {r : a3v} (hb : x.length ≤ 1099511627776) : MFn Tryz.prog 123 [.fn 124 [[.bool (r.1), .bool (r.2.1), .int .i64 (r.2.2.1.1), .int .i64 (r.2.2.1.2.1), .str (r.2.2.1.2.2), .int .i64 (r.2.2.2.1), .int .i64 (r.2.2.2.2.1), .str (r.2.2.2.2.2)]]] (a0b false (.sl 93 4 (x.length) (x.flatMap a0K))) (a0b false (.sl 93 4 ((x.filter (a1D r)).length) ((x.filter (a1D r)).flatMap a0K))) := by
 refine ⟨a0R Tryz.func123 rfl Tryz.ntmps123 Tryz.results123 rfl (fun C => ?_)⟩
 iterate 6 refine z ?_
 refine a4i rfl rfl rfl Tryz.call120 c0N (a0g (a0a rfl) (a0I (a1d rfl rfl)) (a0g (a0a rfl) b1J a0w)) rfl rfl ?_
 iterate 7 refine z ?_
 refine yQ rfl (fun c1 => ?_) fun c1 => ?_
 ·have d1 := of_decide_eq_true c1
  have hn := (a6y (p := a4R r) (d := default) x 0 (by omega)).resolve_right (fun ⟨m, h1, h2, _⟩ => by omega)
  rw [← b7W r] at hn
  have hfe := c2L hn.2
  iterate 4 refine z ?_
  refine a0h (σ' := ⟨[(4, .one (.key 0))], [], [(0, some (a0b false (.sl 93 4 ((x.filter (a1D r)).length) ((x.filter (a1D r)).flatMap a0K))))]⟩) (a0e ⟨rfl, trivial⟩ trivial ⟨(congrArg (fun l : List a0O => some (some (KC.mk false 93 4 l.length (l.flatMap a0K)))) hfe.symm), trivial⟩ rfl) ?_
  iterate 2 refine z ?_
  refine a1x (a0v rfl) ?_
  exact ⟨rfl, rfl⟩
 ·have d1 := of_decide_eq_false c1
  obtain ⟨m, hm1, hm2, hm3, hm4⟩ := (a6y (p := a4R r) (d := default) x 0 (by omega)).resolve_left (fun h => d1 h.1)
  rw [← b7W r] at hm3
  have hm5 : a1D r (x.getD m default) = false := by unfold a1D; rw [show a5M (x.getD m default).1 r = true from hm4]; rfl
  have hst := c4V (enc := a0K) hm1 hm3 hm5
  iterate 9 refine z ?_
  refine a1f (ι := Nat × Nat × List DV) (fun zz => ⟨[(0, .one (.key 0)), (1, .fn 124 [[.bool (r.1), .bool (r.2.1), .int .i64 (r.2.2.1.1), .int .i64 (r.2.2.1.2.1), .str (r.2.2.1.2.2), .int .i64 (r.2.2.2.1), .int .i64 (r.2.2.2.2.1), .str (r.2.2.2.2.2)]]), (4, .one .nil), (5, .one (.dv [] (.int .i64 ((zz.1 : Int))))), (6, .one (.dv [] (.int .i64 ((zz.2.1 : Int)))))], [], [(0, some (a0b false (.sl 93 4 (x.length) (a2W a0K (a1D r) x zz.2.1 zz.2.2))))]⟩) (fun zz => zz.1 = ((x.take zz.2.1).filter (a1D r)).length ∧ zz.1 < zz.2.1 ∧ zz.2.1 ≤ x.length ∧ zz.2.2.length + zz.1 * 4 = zz.2.1 * 4) (fun zz => x.length - zz.2.1) ((m, m + 1, a0K (x.getD m default))) ?_ (a0e ⟨rfl, rfl, rfl, (congrArg (fun z : Int => some (SV.one (CV.dv [] (DV.int .i64 z)))) (show a0j (a4R r) x 0 = (m : Int) by omega)), (congrArg (fun z : Int => some (SV.one (CV.dv [] (DV.int .i64 z)))) (show a0j (a4R r) x 0 + 1 = ((m + 1 : Nat) : Int) by omega)), trivial⟩ trivial ⟨(congrArg (fun cs => some (some (KC.mk false 93 4 x.length cs))) (hst.1)), trivial⟩ rfl) (fun zz hx => ?_)
  ·exact ⟨hst.2, by show m < m + 1; omega, by show m + 1 ≤ x.length; omega, by show 4 + m * 4 = (m + 1) * 4; omega⟩
  obtain ⟨i, k, G⟩ := zz
  replace hx : i = ((x.take k).filter (a1D r)).length ∧ i < k ∧ k ≤ x.length ∧ G.length + i * 4 = k * 4 := hx
  obtain ⟨hi, hik, hk, hG⟩ := hx
  show Ok _ _ _ _ _ (⟨[(0, .one (.key 0)), (1, .fn 124 [[.bool (r.1), .bool (r.2.1), .int .i64 (r.2.2.1.1), .int .i64 (r.2.2.1.2.1), .str (r.2.2.1.2.2), .int .i64 (r.2.2.2.1), .int .i64 (r.2.2.2.2.1), .str (r.2.2.2.2.2)]]), (4, .one .nil), (5, .one (.dv [] (.int .i64 ((i : Int))))), (6, .one (.dv [] (.int .i64 ((k : Int)))))], [], [(0, some (a0b false (.sl 93 4 (x.length) (a2W a0K (a1D r) x k G))))]⟩ : St)
  iterate 4 refine z ?_
  refine yO rfl rfl (a8w (n := (x.length)) hT rfl rfl (a0a rfl) rfl rfl) rfl ?_
  iterate 2 refine z ?_
  refine yQ rfl (fun c2 => ?_) fun c2 => ?_
  ·have d2 := of_decide_eq_true c2
   have hk2 : k < x.length := by omega
   iterate 7 refine z ?_
   refine yO rfl rfl (a4a (i := k) hT rfl rfl rfl (a0a rfl) rfl (a0a rfl) rfl (by show _ < (x.length); omega)) rfl ?_
   refine yO rfl rfl (b3k (ds := [.int .i64 ((x.getD (k : Int).toNat default).1.1), .int .i64 ((x.getD (k : Int).toNat default).1.2.1), .str ((x.getD (k : Int).toNat default).1.2.2), a0L ((x.getD (k : Int).toNat default).2)]) hT rfl rfl (a0a rfl) rfl rfl (by decide) (b4E (enc := a0K) (q := a1D r) (sz := 4) (fun _ => rfl) hi hG hk2)) rfl ?_
   iterate 6 refine z ?_
   refine a7u rfl rfl rfl (a0a rfl) Tryz.call124 b5O (a0g (a0a rfl) (a0t (a0d a0c (a0d a0c (a0d a0c (a0d a8L a0s))))) a0w) rfl rfl ?_
   iterate 2 refine z ?_
   refine yQ rfl (fun c3 => ?_) fun c3 => ?_
   ·have hq : a1D r (x.getD k default) = true := c3
    have hy := c3H (q := a1D r) hk2 hq
    iterate 4 refine z ?_
    refine yO rfl rfl (a4a (i := i) hT rfl rfl rfl (a0a rfl) rfl (a0a rfl) rfl (by show _ < (x.length); omega)) rfl ?_
    refine c1t (src := k * 4) (ds := [.int .i64 ((x.getD (k : Int).toNat default).1.1), .int .i64 ((x.getD (k : Int).toNat default).1.2.1), .str ((x.getD (k : Int).toNat default).1.2.2), a0L ((x.getD (k : Int).toNat default).2)]) (cs := a2W a0K (a1D r) x (k + 1) (G.drop 4 ++ List.replicate 4 .hole)) hT rfl rfl rfl rfl (a0a rfl) (a0a rfl) rfl rfl (b4E (enc := a0K) (q := a1D r) (sz := 4) (fun _ => rfl) hi hG hk2) (by omega) (by rw [c0n (sz := 4) (fun _ => rfl) hi hG hk]; omega) (c5K (sz := 4) (fun _ => rfl) hi hG hk2 hik hq) ?_
    simp only [a0l, a0i, SV.kill, CV.kill, kk, Nat.reduceBEq]
    refine z ?_
    refine a0o ?_
    iterate 3 refine z ?_
    refine a1z ?_
    iterate 2 refine z ?_
    refine a0o ?_
    iterate 4 refine z ?_
    refine ⟨(i + 1, k + 1, (G.drop 4 ++ List.replicate 4 .hole)), ?_, ?_, a0e ⟨rfl, rfl, rfl, rfl, rfl, trivial⟩ trivial ⟨rfl, trivial⟩ rfl⟩
    ·exact ⟨by dsimp only; omega, by dsimp only; omega, by dsimp only; omega, by simp; omega⟩
    ·dsimp only; omega
   ·have hq : a1D r (x.getD k default) = false := c3
    have hno := c6l (enc := a0K) (q := a1D r) (sz := 4) (G := G) (fun _ => rfl) hk2 hq
    iterate 3 refine z ?_
    refine a0o ?_
    iterate 4 refine z ?_
    refine ⟨(i, k + 1, G ++ a0K (x.getD k default)), ?_, ?_, a0e ⟨rfl, rfl, rfl, rfl, rfl, trivial⟩ trivial ⟨(congrArg (fun cs => some (some (KC.mk false 93 4 x.length cs))) (hno.1)), trivial⟩ rfl⟩
    ·exact ⟨by dsimp only; omega, by dsimp only; omega, by dsimp only; omega, by show (G ++ a0K _).length + i * 4 = (k + 1) * 4; rw [List.length_append]; show G.length + 4 + i * 4 = _; omega⟩
    ·dsimp only; omega
  ·have d2 := of_decide_eq_false c2
   iterate 8 refine z ?_
   refine yO rfl rfl (b8M (j := 0) (n := (x.length)) (lo := i) (sz := 4) (z := (i : Int)) hT rfl rfl rfl (a0a rfl) rfl (a0a rfl) rfl rfl (by omega) (by omega)) rfl ?_
   refine c1C (k := 0) (lo := i) (hi := (x.length)) (sz := 4) (cs := (x.filter (a1D r)).flatMap a0K ++ List.replicate ((x.length - i) * 4) .hole) hT rfl rfl rfl rfl rfl rfl (a0a rfl) rfl rfl rfl (by first | omega | (dsimp only [a0b]; omega)) (by first | omega | (dsimp only [a0b]; omega)) (c3l (sz := 4) (fun _ => rfl) hi hG (by omega)) ?_
   simp only [a0l, a0i, SV.kill, CV.kill, kk, Nat.reduceBEq]
   iterate 4 refine z ?_
   refine yO rfl rfl (b7d (j := 0) (n := (x.length)) (hi := i) (sz := 4) (z := (i : Int)) hT rfl rfl rfl (a0a rfl) rfl (a0a rfl) rfl rfl (by omega) (by omega)) rfl ?_
   iterate 2 refine z ?_
   have hke : k = x.length := by omega
   have hi2 : i = (x.filter (a1D r)).length := by rw [hi, hke, List.take_length]
   refine a0h (b6H (s := 4) (k := 0) (m := i) (sz := 4) (cs := (x.filter (a1D r)).flatMap a0K) rfl rfl rfl rfl (by first | omega | (dsimp only [a0b]; omega)) (c5V (sz := 4) (fun _ => rfl) hi2)) ?_
   simp only [a0l, a0i, SV.kill, CV.kill, kk, Nat.reduceBEq]
   refine a0h (σ' := ⟨[(4, .one (.key 0))], [], [(0, some (a0b false (.sl 93 4 ((x.filter (a1D r)).length) ((x.filter (a1D r)).flatMap a0K))))]⟩) (a0e ⟨rfl, trivial⟩ trivial ⟨(congrArg (fun n : Nat => some (some (KC.mk false 93 4 n ((x.filter (a1D r)).flatMap a0K)))) hi2), trivial⟩ rfl) ?_
   refine z ?_
   refine a1x (a0v rfl) ?_
   exact ⟨rfl, rfl⟩
theorem b4A {x : a0u} {r : a3v} (hb : a0X x ≤ 1099511627776) : KFn Tryz.prog 80 [.agg [(.dv [] (.str (x.1))), (.dv [] (a0x (x.2.1))), (.dv [] (.int .i64 (x.2.2)))], .agg [(.dv [] (.bool (r.1))), (.dv [] (.bool (r.2.1))), (.dv [] (.int .i64 (r.2.2.1.1))), (.dv [] (.int .i64 (r.2.2.1.2.1))), (.dv [] (.str (r.2.2.1.2.2))), (.dv [] (.int .i64 (r.2.2.2.1))), (.dv [] (.int .i64 (r.2.2.2.2.1))), (.dv [] (.str (r.2.2.2.2.2)))]] (.tup [(true, [(.dv [] (.str ((a1M x r).1.1))), (.key 9001), (.dv [] (.int .i64 ((a1M x r).1.2.2)))]), (false, [(.dv [] (.int .i64 ((a1M x r).2)))])]) [(9001, some (a0b false (a0x ((a1M x r).1.2.1))))] := by
 refine ⟨a0R Tryz.func80 rfl Tryz.ntmps80 Tryz.results80 rfl (fun C => ?_)⟩
 have hlen : x.2.1.length ≤ 1099511627776 := by have h3 : a0X x = x.1.size + (x.2.1.length + a0D a1S x.2.1) := rfl; omega
 have hfl := List.length_filter_le (a1D r) x.2.1
 refine yF 0 0 rfl rfl fun f0_0 => ?_
 refine yF 0 1 rfl rfl fun f0_1 => ?_
 refine yF 0 2 rfl rfl fun f0_2 => ?_
 refine yF 1 2 rfl rfl fun f1_2 => ?_
 refine yF 1 3 rfl rfl fun f1_3 => ?_
 refine yF 1 4 rfl rfl fun f1_4 => ?_
 refine yF 1 5 rfl rfl fun f1_5 => ?_
 refine yF 1 6 rfl rfl fun f1_6 => ?_
 refine yF 1 7 rfl rfl fun f1_7 => ?_
 iterate 8 refine z ?_
 refine zK 8971 Tryz.call22 ?_ (hf := a4J (x := x) (by omega))
 iterate 6 refine z ?_
 refine zC Tryz.call51 ?_ (hf := a8C (s := x) )
 iterate 2 refine z ?_
 refine yQ rfl (fun c1 => ?_) fun c1 => ?_
 ·iterate 5 refine z ?_
  rw [b7m c1]
  refine a0h (σ' := ⟨[(4, .box 4 0), (5, .one (.dv [] (.int .i64 (0))))], [(4, 60, [(.dv [] (.str ((x).1))), (.key 9001), (.dv [] (.int .i64 ((x).2.2)))])], [(9001, some (a0b false (a0x (x.2.1))))]⟩) (a0e ⟨rfl, rfl, trivial⟩ ⟨rfl, trivial⟩ ⟨rfl, trivial⟩ rfl) ?_
  iterate 2 refine z ?_
  refine a1N (a0C hT rfl rfl rfl rfl) (a0v rfl) rfl rfl ?_
  first | exact ⟨rfl, rfl⟩ | skip
 ·iterate 5 refine z ?_
  refine yO rfl rfl (b0t rfl (a0a rfl)) rfl ?_
  refine c1r (k := 9001) rfl rfl rfl rfl Tryz.call123 (c0i (x := x.2.1) (r := r) (by omega)) (a0a rfl) rfl (rfl) rfl (c5h (a0a rfl) (c1f (a9P rfl rfl b0C)) c0L) ?_
  simp only [a0l, a0i, SV.kill, CV.kill, kk, Nat.reduceBEq]
  iterate 3 refine z ?_
  refine a0p ?_
  refine a5b 4 (oB := [2, 3, 6]) (oK := [9001]) (by kernel_rfl) rfl rfl ?_
  refine a1r 0 rfl (by kernel_rfl) rfl rfl (a2v hT rfl rfl (a0a rfl) rfl rfl) rfl rfl rfl rfl rfl ?_
  refine a1r 1 rfl (by kernel_rfl) rfl rfl (a5k hT rfl rfl rfl (a0a rfl)) rfl rfl rfl rfl rfl ?_
  refine a1r 2 rfl (by kernel_rfl) rfl rfl (a2H hT rfl rfl (a0a rfl) rfl rfl) rfl rfl rfl rfl rfl ?_
  refine a1r 3 rfl (by kernel_rfl) rfl rfl (a4I hT rfl rfl (a0a rfl)) rfl rfl rfl rfl rfl ?_
  refine a1r 4 rfl (by kernel_rfl) rfl rfl (a5k hT rfl rfl rfl (a0a rfl)) rfl rfl rfl rfl rfl ?_
  refine a1r 5 rfl (by kernel_rfl) rfl rfl (a2H hT rfl rfl (a0a rfl) rfl rfl) rfl rfl rfl rfl rfl ?_
  refine a1r 6 rfl (by kernel_rfl) rfl rfl (a8w (n := ((x.2.1.filter (a1D r)).length)) hT rfl rfl (a0a rfl) rfl rfl) rfl rfl rfl rfl rfl ?_
  refine a1r 7 rfl (by kernel_rfl) rfl rfl (a8W rfl (a0a rfl) (a0a rfl) (a6d (by omega) (by omega))) rfl rfl rfl rfl rfl ?_
  refine a4W 8 rfl (by kernel_rfl) rfl hT rfl rfl rfl (a0a rfl) (a0a rfl) rfl rfl rfl rfl rfl rfl ?_
  refine a4G [9] rfl rfl (by kernel_rfl) ?_
  iterate 2 refine z ?_
  rw [b5V c1]
  refine a0h (σ' := ⟨[(4, .box 4 0), (5, .one (.dv [] (.int .i64 (((((x.2.1)).length : Int)) - ((((x.2.1.filter (a1D r)).length) : Int))))))], [(4, 60, [(.dv [] (.str ((x).1))), (.key 9001), (.dv [] (.int .i64 ((x).2.2)))])], [(9001, some (a0b false (a0x (x.2.1.filter (a1D r)))))]⟩) (a0e ⟨rfl, rfl, trivial⟩ ⟨rfl, trivial⟩ ⟨rfl, trivial⟩ rfl) ?_
  refine z ?_
  refine a1N (a0C hT rfl rfl rfl rfl) (a0v rfl) rfl rfl ?_
  first | exact ⟨rfl, rfl⟩ | skip
theorem b7x {x : a0u} {r : a3v} (hb : a0X x ≤ 1099511627776) : KFn Tryz.prog 96 [.agg [(.dv [] (.str (x.1))), (.dv [] (a0x (x.2.1))), (.dv [] (.int .i64 (x.2.2)))], .agg [(.dv [] (.bool (r.1))), (.dv [] (.bool (r.2.1))), (.dv [] (.int .i64 (r.2.2.1.1))), (.dv [] (.int .i64 (r.2.2.1.2.1))), (.dv [] (.str (r.2.2.1.2.2))), (.dv [] (.int .i64 (r.2.2.2.1))), (.dv [] (.int .i64 (r.2.2.2.2.1))), (.dv [] (.str (r.2.2.2.2.2)))]] (.tup [(true, [(.dv [] (.str ((a1M x r).1.1))), (.key 9001), (.dv [] (.int .i64 ((a1M x r).1.2.2)))]), (false, [(.dv [] (.int .i64 ((a1M x r).2)))])]) [(9001, some (a0b false (a0x ((a1M x r).1.2.1))))] := by
 refine ⟨a0R Tryz.func96 rfl Tryz.ntmps96 Tryz.results96 rfl (fun C => ?_)⟩
 have hlen : x.2.1.length ≤ 1099511627776 := by have h3 : a0X x = x.1.size + (x.2.1.length + a0D a1S x.2.1) := rfl; omega
 have hfl := List.length_filter_le (a1D r) x.2.1
 refine yF 0 0 rfl rfl fun f0_0 => ?_
 refine yF 0 1 rfl rfl fun f0_1 => ?_
 refine yF 0 2 rfl rfl fun f0_2 => ?_
 refine yF 1 2 rfl rfl fun f1_2 => ?_
 refine yF 1 3 rfl rfl fun f1_3 => ?_
 refine yF 1 4 rfl rfl fun f1_4 => ?_
 refine yF 1 5 rfl rfl fun f1_5 => ?_
 refine yF 1 6 rfl rfl fun f1_6 => ?_
 refine yF 1 7 rfl rfl fun f1_7 => ?_
 iterate 9 refine z ?_
 refine zC Tryz.call55 ?_ (hf := b1P (s := x) )
 iterate 2 refine z ?_
 refine yQ rfl (fun c1 => ?_) fun c1 => ?_
 ·iterate 2 refine z ?_
  refine zK 8971 Tryz.call54 ?_ (hf := a5W (x := x) (by omega))
  iterate 3 refine z ?_
  rw [b7m c1]
  refine a0h (σ' := ⟨[(4, .box 4 0), (5, .one (.dv [] (.int .i64 (0))))], [(4, 60, [(.dv [] (.str ((x).1))), (.key 9001), (.dv [] (.int .i64 ((x).2.2)))])], [(9001, some (a0b false (a0x (x.2.1))))]⟩) (a0e ⟨rfl, rfl, trivial⟩ ⟨rfl, trivial⟩ ⟨rfl, trivial⟩ rfl) ?_
  iterate 2 refine z ?_
  refine a1N (a0C hT rfl rfl rfl rfl) (a0v rfl) rfl rfl ?_
  exact ⟨rfl, rfl⟩
 ·iterate 7 refine z ?_
  refine yO rfl rfl (a1F hT hB rfl rfl rfl (a1b (a0a rfl) rfl rfl rfl rfl rfl (a1b (a0a rfl) rfl rfl rfl rfl rfl a1E))) rfl ?_
  iterate 3 refine z ?_
  refine a0p ?_
  refine a0p ?_
  refine a0h (a3a 9001 (b := 6) (i := 1) (e := 93) (sz := 4) rfl rfl rfl rfl rfl) ?_
  simp only [a0l, a0i, SV.kill, CV.kill, kk, Nat.reduceBEq]
  refine a0o ?_
  iterate 3 refine z ?_
  refine a1f (ι := Nat) (fun zz => ⟨[(2, .box 2 0), (3, .box 3 0), (4, .box 4 0), (5, .one (.dv [] (.int .i64 (0)))), (6, .box 6 0), (7, .one (.dv [] (.int .i64 ((zz : Int)))))], [(2, 60, [(.dv [] (.str (x.1))), (.dv [] (a0x (x.2.1))), (.dv [] (.int .i64 (x.2.2)))]), (3, 126, [(.dv [] (.bool (r.1))), (.dv [] (.bool (r.2.1))), (.dv [] (.int .i64 (r.2.2.1.1))), (.dv [] (.int .i64 (r.2.2.1.2.1))), (.dv [] (.str (r.2.2.1.2.2))), (.dv [] (.int .i64 (r.2.2.2.1))), (.dv [] (.int .i64 (r.2.2.2.2.1))), (.dv [] (.str (r.2.2.2.2.2)))]), (4, 60, [(.dv [] (.str (ByteArray.empty))), .nil, (.dv [] (.int .i64 (0)))]), (6, 60, [(.dv [] (.str (x.1))), (.key 9001), (.dv [] (.int .i64 (x.2.2)))])], [(9001, some (a0b false (.sl 93 4 (((x.2.1.take zz).filter (a1D r)).length) (((x.2.1.take zz).filter (a1D r)).flatMap a0K))))]⟩) (fun zz => zz ≤ x.2.1.length) (fun zz => x.2.1.length - zz) (0) ?_ (a0e ⟨rfl, rfl, rfl, rfl, rfl, rfl, trivial⟩ ⟨rfl, rfl, rfl, rfl, trivial⟩ ⟨rfl, trivial⟩ rfl) (fun zz hx => ?_)
  ·exact Nat.zero_le _
  obtain ⟨k, rfl⟩ : ∃ v, v = zz := ⟨_, rfl⟩
  replace hx : k ≤ x.2.1.length := hx
  have hw := fun h => a3j a1S x.2.1 k h
  show Ok _ _ _ _ _ (⟨[(2, .box 2 0), (3, .box 3 0), (4, .box 4 0), (5, .one (.dv [] (.int .i64 (0)))), (6, .box 6 0), (7, .one (.dv [] (.int .i64 ((k : Int)))))], [(2, 60, [(.dv [] (.str (x.1))), (.dv [] (a0x (x.2.1))), (.dv [] (.int .i64 (x.2.2)))]), (3, 126, [(.dv [] (.bool (r.1))), (.dv [] (.bool (r.2.1))), (.dv [] (.int .i64 (r.2.2.1.1))), (.dv [] (.int .i64 (r.2.2.1.2.1))), (.dv [] (.str (r.2.2.1.2.2))), (.dv [] (.int .i64 (r.2.2.2.1))), (.dv [] (.int .i64 (r.2.2.2.2.1))), (.dv [] (.str (r.2.2.2.2.2)))]), (4, 60, [(.dv [] (.str (ByteArray.empty))), .nil, (.dv [] (.int .i64 (0)))]), (6, 60, [(.dv [] (.str (x.1))), (.key 9001), (.dv [] (.int .i64 (x.2.2)))])], [(9001, some (a0b false (.sl 93 4 (((x.2.1.take k).filter (a1D r)).length) (((x.2.1.take k).filter (a1D r)).flatMap a0K))))]⟩ : St)
  iterate 8 refine z ?_
  refine yQ rfl (fun c2 => ?_) fun c2 => ?_
  ·have d2 := of_decide_eq_true c2
   have hk2 : k < x.2.1.length := by omega
   have hrec : a1S (x.2.1.getD (k : Int).toNat default) ≤ 1099511627776 := by have := hw hk2; have h3 : a0X x = x.1.size + (x.2.1.length + a0D a1S x.2.1) := rfl; omega
   iterate 4 refine z ?_
   refine a0p ?_
   refine a1L (oB := [2, 3, 4, 6]) (oK := [9001]) (by kernel_rfl) rfl rfl ?_
   refine zD 0 ?_
   refine zD 1 ?_
   refine zD 2 ?_
   refine zD 3 ?_
   refine zD 4 ?_
   refine zD 5 ?_
   refine zD 6 ?_
   refine a4u 7 rfl (by kernel_rfl) rfl rfl rfl Tryz.call135 (c4D (x := (((x.2.1)).getD ((k : Int)).toNat default).1) (y := r) ) (a0g (a0a rfl) (a0t (a0d a0c (a0d a0c (a0d a0c a0s)))) (a0g (a0a rfl) (a0t (a0d a0c (a0d a0c (a0d a0c (a0d a0c (a0d a0c (a0d a0c (a0d a0c (a0d a0c a0s))))))))) a0w)) rfl rfl rfl rfl ?_
   refine zD 8 ?_
   refine a2l (by kernel_rfl) ?_
   refine z ?_
   refine yQ rfl (fun c3 => ?_) fun c3 => ?_
   ·have hq : a1D r (x.2.1.getD (k : Int).toNat default) = true := c3
    refine a3G [0, 1, 2, 3, 4, 5, 6, 7, 8] (oB := [2, 3, 4, 6]) (oK := [9001]) (by kernel_rfl) rfl rfl ?_
    refine zD 0 ?_
    refine zD 1 ?_
    refine zD 2 ?_
    refine zD 3 ?_
    refine zD 4 ?_
    refine zD 5 ?_
    refine zD 6 ?_
    refine a3f 41000 7 rfl (by kernel_rfl) rfl rfl rfl Tryz.call88 (b2C (x := (x.2.1.getD (k : Int).toNat default)) (by exact Nat.le_trans (a6b _) hrec)) (a0g (a0a rfl) (a0t (a0d a0c (a0d a0c (a0d a0c (a0d a0c a0s))))) a0w) rfl rfl rfl rfl rfl ?_
    refine a4o (k := 42) (js := [48003]) 8 hT rfl (by kernel_rfl) rfl rfl rfl rfl rfl rfl rfl rfl rfl (a0a rfl) rfl rfl (a0q (a0B rfl) (a0q (a0B rfl) (a0q (a0B rfl) (a0q (a2b rfl) a1t rfl) rfl) rfl) rfl) (by decide) (by decide) rfl rfl (by decide) ?_
    simp only [a0l, a0i, SV.kill, CV.kill, kk, Nat.reduceBEq]
    refine a2B [9, 10, 11] rfl rfl (by kernel_rfl) ?_
    refine a2z (k := 9001) (j := 42) (cs := ((x.2.1.take (k + 1)).filter (a1D r)).flatMap a0K) (n := ((x.2.1.take (k + 1)).filter (a1D r)).length) hT rfl rfl rfl rfl rfl rfl rfl (a0a rfl) rfl rfl rfl (a0a rfl) rfl rfl (by decide) (by have := List.length_filter_le (a1D r) (x.2.1.take k); rw [List.length_take] at this; dsimp only [a0b]; omega) (by have := List.length_filter_le (a1D r) (x.2.1.take k); rw [List.length_take] at this; dsimp only [a0b]; omega) ((b5Q hk2 hq).2) ((b5Q hk2 hq).1) ?_
    simp only [a0l, a0i, SV.kill, CV.kill, kk, Nat.reduceBEq]
    iterate 2 refine z ?_
    refine a1z ?_
    iterate 2 refine z ?_
    refine a0o ?_
    iterate 4 refine z ?_
    refine ⟨k + 1, ?_, ?_, a0e ⟨rfl, rfl, rfl, rfl, rfl, rfl, trivial⟩ ⟨rfl, rfl, rfl, rfl, trivial⟩ ⟨rfl, trivial⟩ rfl⟩
    ·omega
    ·omega
   ·have hq : a1D r (x.2.1.getD (k : Int).toNat default) = false := c3
    iterate 3 refine z ?_
    refine a0o ?_
    iterate 4 refine z ?_
    refine ⟨k + 1, ?_, ?_, a0e ⟨rfl, rfl, rfl, rfl, rfl, rfl, trivial⟩ ⟨rfl, rfl, rfl, rfl, trivial⟩ ⟨(congrArg (fun l : List a0O => some (some (KC.mk false 93 4 l.length (l.flatMap a0K)))) (c0W hk2 hq)), trivial⟩ rfl⟩
    ·omega
    ·omega
  ·have d2 := of_decide_eq_false c2
   have hfin : ((x.2.1.take k).filter (a1D r)) = (x.2.1.filter (a1D r)) := by rw [List.take_of_length_le (by omega)]
   have hfl2 : ((x.2.1.take k).filter (a1D r)).length ≤ x.2.1.length := by rw [hfin]; exact hfl
   iterate 5 refine z ?_
   refine a0p ?_
   refine a5b 4 (oB := [2, 3, 6]) (oK := [9001]) (by kernel_rfl) rfl rfl ?_
   refine a1r 0 rfl (by kernel_rfl) rfl rfl (a2v hT rfl rfl (a0a rfl) rfl rfl) rfl rfl rfl rfl rfl ?_
   refine a1r 1 rfl (by kernel_rfl) rfl rfl (a5k hT rfl rfl rfl (a0a rfl)) rfl rfl rfl rfl rfl ?_
   refine a1r 2 rfl (by kernel_rfl) rfl rfl (a2H hT rfl rfl (a0a rfl) rfl rfl) rfl rfl rfl rfl rfl ?_
   refine a1r 3 rfl (by kernel_rfl) rfl rfl (a4I hT rfl rfl (a0a rfl)) rfl rfl rfl rfl rfl ?_
   refine a1r 4 rfl (by kernel_rfl) rfl rfl (a5k hT rfl rfl rfl (a0a rfl)) rfl rfl rfl rfl rfl ?_
   refine a1r 5 rfl (by kernel_rfl) rfl rfl (a2H hT rfl rfl (a0a rfl) rfl rfl) rfl rfl rfl rfl rfl ?_
   refine a1r 6 rfl (by kernel_rfl) rfl rfl (a8w (n := (((x.2.1.take k).filter (a1D r)).length)) hT rfl rfl (a0a rfl) rfl rfl) rfl rfl rfl rfl rfl ?_
   refine a1r 7 rfl (by kernel_rfl) rfl rfl (a8W rfl (a0a rfl) (a0a rfl) (a6d (by omega) (by omega))) rfl rfl rfl rfl rfl ?_
   refine a4W 8 rfl (by kernel_rfl) rfl hT rfl rfl rfl (a0a rfl) (a0a rfl) rfl rfl rfl rfl rfl rfl ?_
   refine a4G [9] rfl rfl (by kernel_rfl) ?_
   iterate 2 refine z ?_
   rw [b5V c1]
   refine a0h (σ' := ⟨[(4, .box 4 0), (5, .one (.dv [] (.int .i64 (((((x.2.1)).length : Int)) - (((((x.2.1.take k).filter (a1D r)).length) : Int))))))], [(4, 60, [(.dv [] (.str (x.1))), (.key 9001), (.dv [] (.int .i64 (x.2.2)))])], [(9001, some (a0b false (a0x (x.2.1.filter (a1D r)))))]⟩) (a0e ⟨rfl, rfl, trivial⟩ ⟨rfl, trivial⟩ ⟨(congrArg (fun l : List a0O => some (some (KC.mk false 93 4 l.length (l.flatMap a0K)))) hfin), trivial⟩ rfl) ?_
   refine z ?_
   refine a1N (a0C hT rfl rfl rfl rfl) (a0v rfl) rfl rfl ?_
   exact ⟨by rw [hfin], rfl⟩
end Go.Proofs.YtjkpoekgnmgofaaGreat

namespace Go.Proofs.YtjkpoekgnmgofaaGreat
open Go.RowKit
open Go.Proofs
set_option linter.unusedVariables false
set_option linter.unusedSimpArgs false

theorem a6A : ∀ x : List UInt8, Op.bytesLess x x = false
 | [] => rfl
 | a :: x => by simp [Op.bytesLess, a6A x]
theorem a6p : ∀ x y z : List UInt8, Op.bytesLess x y = true → Op.bytesLess y z = true → Op.bytesLess x z = true
 | x, [], z, h, _ => by cases x <;> simp [Op.bytesLess] at h
 | x, b :: y, [], _, h => by simp [Op.bytesLess] at h
 | [], b :: y, c :: z, _, _ => rfl
 | a :: x, b :: y, c :: z, h1, h2 => by
  simp only [Op.bytesLess, Bool.or_eq_true, decide_eq_true_eq, Bool.and_eq_true, beq_iff_eq] at h1 h2 ⊢
  rcases h1 with h1 | ⟨rfl, h1⟩
  ·rcases h2 with h2 | ⟨rfl, h2⟩
   ·exact .inl (UInt8.lt_trans h1 h2)
   ·exact .inl h1
  ·rcases h2 with h2 | ⟨rfl, h2⟩
   ·exact .inl h2
   ·exact .inr ⟨rfl, a6p x y z h1 h2⟩
def a2m (n : Str) : a0A → Nat
 | [] => 0
 | y :: ys => if sLt y.1 n then a2m n ys + 1 else 0
def a3h (l : a0A) (i : Nat) (v : Int) : a0A := l.set i ((l.getD i default).1, v)
def a2q (l : a0A) (j : Nat) (y : a5f) : a0A := l.take j ++ y :: l.drop j
def a5D (n : Str) (r : a0A) : Bool := decide (a2m n r < r.length) && sEq (r.getD (a2m n r) default).1 n
def a4w (r : a0A) (n : Str) (v : Int) : a0A := if a5D n r then a3h r (a2m n r) v else a2q r (a2m n r) (n, v)
def a1K (r : a0A) (n : Str) (v : Int) : a0A × Bool := if !a1l r || !a1l (a4w r n v) then (r, false) else (a4w r n v, true)
theorem a9J {r o : a0A} {n : Str} {v : Int} (ho : a1l r = true → o = a4w r n v) (h : (!a1l r || !a1l o) = true) : a1K r n v = (r, false) := by
 unfold a1K
 by_cases hr : a1l r = true
 ·rw [← ho hr, if_pos h]
 ·rw [if_pos (by simp [hr])]
theorem b1k {r o : a0A} {n : Str} {v : Int} (ho : a1l r = true → o = a4w r n v) (h : (!a1l r || !a1l o) = false) : a1K r n v = (o, true) := by
 have hr : a1l r = true := by cases hh : a1l r <;> simp_all
 rw [a1K, ← ho hr, if_neg (by rw [h]; simp)]
theorem b3C {l : a0A} {j : Nat} (h : j < l.length) : l.drop j = l.getD j default :: l.drop (j + 1) := by
 rw [List.drop_eq_getElem_cons h]
 simp [List.getD, List.getElem?_eq_getElem h]
def srt : a0A → Prop
 | [] => True
 | y :: ys => (∀ z ∈ ys, sLt y.1 z.1 = true) ∧ srt ys
theorem b8v {r : a0A} (h : a1l r = true) (i : Nat) (hi : i + 1 < r.length) : sLt (r.getD i default).1 (r.getD (i + 1) default).1 = true := by
 rw [a1l, Bool.and_eq_true, List.all_eq_true] at h
 have := h.1 (i + 1) (List.mem_range.2 hi)
 simp only [a4E, Bool.not_eq_true', Bool.or_eq_false_iff, Int.toNat_natCast] at this
 have h2 := this.2
 rw [decide_eq_true (by omega : (0 : Int) < ((i + 1 : Nat) : Int)), Bool.true_and, a6K, show (((i + 1 : Nat) : Int) - 1).toNat = i by omega] at h2
 simpa using h2
theorem b1A : ∀ (l : a0A), (∀ i, i + 1 < l.length → sLt (l.getD i default).1 (l.getD (i + 1) default).1 = true) → srt l
 | [], _ => trivial
 | [y], _ => ⟨by simp, trivial⟩
 | y :: z :: l, h => by
  have ih := b1A (z :: l) (fun i hi => by have := h (i + 1) (by simp only [List.length_cons] at hi ⊢; omega); simpa using this)
  have h0 : sLt y.1 z.1 = true := by simpa using h 0 (by simp)
  refine ⟨fun u hu => ?_, ih⟩
  rcases List.mem_cons.1 hu with rfl | hu
  ·exact h0
  ·exact a6p _ _ _ h0 (ih.1 u hu)
theorem b5M {a b n : Str} (h : sEq a b = true) : sLt n a = sLt n b ∧ sLt a n = sLt b n := by
 have : a.toList = b.toList := by simpa [sEq] using h
 exact ⟨by unfold sLt; rw [this], by unfold sLt; rw [this]⟩
theorem b2Y {n : Str} : ∀ (r : a0A) (i : Int), 0 ≤ i → srt r → (∃ k : Nat, k < r.length ∧ a0j (a1U n) r i = i + (k : Int) ∧ a2m n r = k ∧ sEq (r.getD k default).1 n = true) ∨ (a0j (a1U n) r i = -1 ∧ a5D n r = false)
 | [], i, _, _ => .inr ⟨rfl, rfl⟩
 | y :: ys, i, hi, hs => by
  by_cases he : sEq y.1 n = true
  ·refine .inl ⟨0, by simp, by rw [a0j, if_pos (show a1U n y = true from he)]; simp, ?_, by simpa using he⟩
   rw [a2m, if_neg]
   rw [(b5M (n := n) he).2]
   simp [sLt, a6A]
  ·have hf : a0j (a1U n) (y :: ys) i = a0j (a1U n) ys (i + 1) := by rw [a0j, if_neg (show ¬ a1U n y = true from he)]
   by_cases hl : sLt y.1 n = true
   ·rcases b2Y ys (i + 1) (by omega) hs.2 with ⟨k, h1, h2, h3, h4⟩ | ⟨h1, h2⟩
    ·exact .inl ⟨k + 1, by simpa using h1, by rw [hf, h2]; omega, by rw [a2m, if_pos hl, h3], by simpa using h4⟩
    ·refine .inr ⟨by rw [hf, h1], ?_⟩
     unfold a5D at h2 ⊢
     rw [a2m, if_pos hl]
     simpa using h2
   ·refine .inr ⟨?_, ?_⟩
    ·rw [hf]
     rcases a6y (p := a1U n) (d := default) ys (i + 1) (by omega) with ⟨h1, _⟩ | ⟨m, h1, _, _, h4⟩
     ·exact h1
     ·exfalso
      have hm : ys.getD m default ∈ ys := by simp [List.getD, List.getElem?_eq_getElem h1]
      have := hs.1 _ hm
      rw [(b5M (n := y.1) h4).1] at this
      exact hl this
    ·unfold a5D
     rw [a2m, if_neg hl]
     simp [he]
theorem b7i {r : a0A} {n : Str} {v : Int} (hr : a1l r = true) (h : 0 ≤ a0j (a1U n) r 0) : a3h r (a0j (a1U n) r 0).toNat v = a4w r n v := by
 rcases b2Y (n := n) r 0 (by omega) (b1A r (b8v hr)) with ⟨k, h1, h2, h3, h4⟩ | ⟨h1, _⟩
 ·have hh : a5D n r = true := by unfold a5D; rw [h3, h4, decide_eq_true h1]; rfl
  rw [a4w, if_pos hh, h3, h2]
  congr 1; omega
 ·omega
theorem b8n {r : a0A} {n : Str} {v : Int} {j : Nat} (hr : a1l r = true) (h : ¬ 0 ≤ a0j (a1U n) r 0) (hj : a2m n r = j) : a2q r j (n, v) = a4w r n v := by
 rcases b2Y (n := n) r 0 (by omega) (b1A r (b8v hr)) with ⟨k, h1, h2, h3, h4⟩ | ⟨_, h1⟩
 ·omega
 ·rw [a4w, if_neg (by rw [h1]; simp), hj]
theorem b7F {r : a0A} {n : Str} {v : Int} {j : Nat} (hj : a2m n r = j) (h : (decide ((j : Int) < (r.length : Int)) && sEq (r.getD (j : Int).toNat default).1 n) = true) : a3h r j v = a4w r n v := by
 have hh : a5D n r = true := by
  rw [Bool.and_eq_true, decide_eq_true_eq, Int.toNat_natCast] at h
  unfold a5D; rw [hj, h.2, decide_eq_true (by omega)]; rfl
 rw [a4w, if_pos hh, hj]
theorem b8t {r : a0A} {n : Str} {v : Int} {j : Nat} (hj : a2m n r = j) (h : (decide ((j : Int) < (r.length : Int)) && sEq (r.getD (j : Int).toNat default).1 n) = false) : a2q r j (n, v) = a4w r n v := by
 have hh : a5D n r = false := by
  rw [Int.toNat_natCast] at h
  unfold a5D; rw [hj]
  by_cases hl : j < r.length
  ·rw [decide_eq_true (by omega : (j : Int) < (r.length : Int))] at h; rw [decide_eq_true hl]; exact h
  ·rw [decide_eq_false hl]; rfl
 rw [a4w, if_neg (by rw [hh]; simp), hj]
theorem b6E {n : Str} {l : a0A} {j : Nat} (hp : a2m n l = j + a2m n (l.drop j)) (h : (decide ((j : Int) < (l.length : Int)) && sLt (l.getD (j : Int).toNat default).1 n) = true) : j < l.length ∧ a2m n l = (j + 1) + a2m n (l.drop (j + 1)) := by
 obtain ⟨h1, h2⟩ := (Bool.and_eq_true _ _ ▸ h : _ ∧ _)
 have h1 := of_decide_eq_true h1
 rw [Int.toNat_natCast] at h2
 have h3 : j < l.length := by omega
 refine ⟨h3, ?_⟩
 rw [hp, b3C h3, a2m, if_pos h2]
 omega
theorem b5x {n : Str} {l : a0A} {j : Nat} (hj : j ≤ l.length) (hp : a2m n l = j + a2m n (l.drop j)) (h : (decide ((j : Int) < (l.length : Int)) && sLt (l.getD (j : Int).toNat default).1 n) = false) : a2m n l = j := by
 rcases Nat.lt_or_ge j l.length with h3 | h3
 ·rw [decide_eq_true (by omega : (j : Int) < (l.length : Int)), Bool.true_and, Int.toNat_natCast] at h
  rw [hp, b3C h3, a2m, if_neg (by rw [h]; simp)]
  omega
 ·rw [hp, List.drop_eq_nil_of_le h3, a2m]; omega
theorem b2K (l : a0A) : (l.flatMap a1H).length = l.length * 2 := a3V (enc := a1H) (sz := 2) (fun _ => rfl) l
theorem b3c {l : a0A} {i : Nat} {v : Int} : (a3h l i v).length = l.length := by simp [a3h]
theorem b5p {l : a0A} {i : Nat} {v : Int} (hi : i < l.length) : a1e (i * 2 + 1) [DV.int .i64 v] (l.flatMap a1H) = (a3h l i v).flatMap a1H := by
 have e : l.flatMap a1H = (l.take i).flatMap a1H ++ (a1H (l.getD i default) ++ (l.drop (i + 1)).flatMap a1H) := by
  rw [← List.flatMap_cons, ← b3C hi, ← List.flatMap_append, List.take_append_drop]
 have e2 : (a3h l i v).flatMap a1H = (l.take i).flatMap a1H ++ (a1H ((l.getD i default).1, v) ++ (l.drop (i + 1)).flatMap a1H) := by
  rw [a3h, List.set_eq_take_append_cons_drop, if_pos hi, List.flatMap_append, List.flatMap_cons]
 have hl : ((l.take i).flatMap a1H).length = i * 2 := by rw [b2K, List.length_take]; omega
 rw [e, e2]
 exact a3X (pre := (l.take i).flatMap a1H) (B := a1H (l.getD i default)) (B' := a1H ((l.getD i default).1, v)) (post := (l.drop (i + 1)).flatMap a1H) (m := i * 2) (off := i * 2 + 1) (j := 1) hl rfl rfl (Nat.le_refl _)
theorem b6S {l : a0A} {j : Nat} {y : a5f} : (a2q l j y).length = l.length + 1 := by simp [a2q]; omega
theorem c4m {o : a0A} {j : Nat} {y : a5f} : a5z (o.flatMap a1H) ((j : Int).toNat * 2) (a1H y) = (a2q o j y).flatMap a1H := by
 obtain ⟨h1, h2⟩ := a5n (enc := a1H) (sz := 2) (fun _ => rfl) j o
 rw [Int.toNat_natCast, a5z, a2q, List.flatMap_append, List.flatMap_cons, h1, h2, List.append_assoc]
theorem a9L (r : a0A) (n : Str) (v : Int) : (a1K r n v).1.length ≤ r.length + 1 := by
 unfold a1K a4w
 repeat' split
 all_goals first | (show r.length ≤ _; omega) | (simp only [b3c, b6S]; omega)

theorem a9O {r : a0A} {n : Str} {v : Int} (hb : r.length ≤ 1099511627776) : KFn Tryz.prog 82 [.agg [(.dv [] (a0L (r)))], .one (.dv [] (.str (n))), .one (.dv [] (.int .i64 (v)))] (.tup [(true, [(.key 9001)]), (false, [(.dv [] (.bool ((a1K r n v).2)))])]) [(9001, some (a0b false (a0L ((a1K r n v).1))))] := by
 refine ⟨a0R Tryz.func82 rfl Tryz.ntmps82 Tryz.results82 rfl (fun C => ?_)⟩
 refine yF 0 0 rfl rfl fun f0_0 => ?_
 refine a1i (x := .tmp 1) (a0a rfl) fun f1 => ?_
 refine a1i (x := .tmp 2) (a0a rfl) fun f2 => ?_
 iterate 7 refine z ?_
 refine zK 8998 Tryz.call74 ?_ (hf := a7s (x := r) (by omega))
 iterate 7 refine z ?_
 refine zC Tryz.call126 ?_ (hf := b5N (x := r) (n := n) )
 iterate 6 refine z ?_
 refine yQ rfl (fun c1 => ?_) fun c1 => ?_
 ·have d1 := of_decide_eq_true c1
  have hlt : (a0j (a1U n) r 0).toNat < r.length := by have := a6J (p := a1U n) r 0 (by omega); omega
  refine a0o ?_
  iterate 4 refine z ?_
  refine yO rfl rfl (a4a (i := (a0j (a1U (n)) (r) 0).toNat) hT rfl rfl rfl (a0a rfl) rfl (a0a rfl) (by omega) (by show _ < ((r)).length; omega)) rfl ?_
  refine z ?_
  refine a2Y (js := []) (cs := (a3h r (a0j (a1U n) r 0).toNat v).flatMap a1H) hT rfl rfl rfl rfl (a0a rfl) (a0a rfl) rfl rfl rfl rfl (a0q (a0B rfl) a1t rfl) (by decide) (by decide) rfl (by show _ ≤ List.length ((r).flatMap a1H); rw [b2K]; omega) (b5p (by omega)) ?_
  simp only [a0l, a0i, SV.kill, CV.kill, kk, Nat.reduceBEq]
  refine z ?_
  refine a0p ?_
  refine a0p ?_
  refine a0h (a4s (k := 9001) (c' := a0b false (a0L (a3h r (a0j (a1U n) r 0).toNat v))) rfl (congrArg (fun m => KC.mk false 137 2 m ((a3h r (a0j (a1U n) r 0).toNat v).flatMap a1H)) b3c.symm) rfl) ?_
  refine a0o ?_
  refine z ?_
  refine zC Tryz.call76 ?_ (hf := a8y (r := r) )
  iterate 3 refine z ?_
  refine a1A (a1p rfl rfl rfl rfl rfl) rfl rfl Tryz.call76 (a8y (r := a3h r (a0j (a1U n) r 0).toNat v) ) (fun hg => (a0g (a0z rfl hg) (a0t (a0d (a1d rfl rfl) a0s)) a0w)) rfl rfl ?_
  iterate 3 refine z ?_
  refine yQ rfl (fun c2 => ?_) fun c2 => ?_
  ·refine a0p ?_
   refine a0h (σ' := ⟨[(3, .box 3 0), (6, .box 6 0), (7, .one (.dv [] (.bool (false))))], [(3, 66, [(.dv [] (a0L (r)))]), (6, 66, [.nil])], []⟩) (a0e ⟨rfl, rfl, rfl, trivial⟩ ⟨rfl, rfl, trivial⟩ trivial rfl) ?_
   refine a0o ?_
   refine z ?_
   refine zK 8998 Tryz.call74 ?_ (hf := a7s (x := r) (by omega))
   iterate 3 refine z ?_
   rw [a9J (fun hr => b7i hr d1) c2]
   refine a0h (σ' := ⟨[(6, .box 6 0), (7, .one (.dv [] (.bool (false))))], [(6, 66, [(.key 9001)])], [(9001, some (a0b false (a0L (r))))]⟩) (a0e ⟨rfl, rfl, trivial⟩ ⟨rfl, trivial⟩ ⟨rfl, trivial⟩ rfl) ?_
   iterate 2 refine z ?_
   refine a1N (a0C hT rfl rfl rfl rfl) (a0v rfl) rfl rfl ?_
   first | exact ⟨rfl, rfl⟩ | skip
  ·iterate 7 refine z ?_
   rw [b1k (fun hr => b7i hr d1) c2]
   refine a0h (σ' := ⟨[(6, .box 6 0), (7, .one (.dv [] (.bool (true))))], [(6, 66, [(.key 9001)])], [(9001, some (a0b false (a0L (a3h r (a0j (a1U n) r 0).toNat v))))]⟩) (a0e ⟨rfl, rfl, trivial⟩ ⟨rfl, trivial⟩ ⟨rfl, trivial⟩ rfl) ?_
   refine z ?_
   refine a1N (a0C hT rfl rfl rfl rfl) (a0v rfl) rfl rfl ?_
   first | exact ⟨rfl, rfl⟩ | skip
 ·have d1 := of_decide_eq_false c1
  iterate 5 refine z ?_
  refine a1f (ι := Nat) (fun zz => ⟨[(1, .one (.dv [] (.str (n)))), (2, .one (.dv [] (.int .i64 (v)))), (3, .box 3 0), (6, .box 6 0), (7, .one (.dv [] (.bool (false)))), (8, .box 8 0), (10, .one (.dv [] (.int .i64 ((zz : Int)))))], [(3, 66, [(.dv [] (a0L (r)))]), (6, 66, [.nil]), (8, 66, [(.key 9001)])], [(9001, some (a0b false (.sl 137 2 (r.length) (r.flatMap a1H))))]⟩) (fun zz => zz ≤ r.length ∧ a2m n r = zz + a2m n (r.drop zz)) (fun zz => r.length - zz) (0) ?_ (a0e ⟨rfl, rfl, rfl, rfl, rfl, rfl, rfl, trivial⟩ ⟨rfl, rfl, rfl, trivial⟩ ⟨rfl, trivial⟩ rfl) (fun zz hx => ?_)
  ·exact ⟨Nat.zero_le _, by simp⟩
  obtain ⟨j, rfl⟩ : ∃ v, v = zz := ⟨_, rfl⟩
  replace hx : j ≤ r.length ∧ a2m n r = j + a2m n (r.drop j) := hx
  obtain ⟨hj, hp⟩ := hx
  show Ok _ _ _ _ _ (⟨[(1, .one (.dv [] (.str (n)))), (2, .one (.dv [] (.int .i64 (v)))), (3, .box 3 0), (6, .box 6 0), (7, .one (.dv [] (.bool (false)))), (8, .box 8 0), (10, .one (.dv [] (.int .i64 ((j : Int)))))], [(3, 66, [(.dv [] (a0L (r)))]), (6, 66, [.nil]), (8, 66, [(.key 9001)])], [(9001, some (a0b false (.sl 137 2 (r.length) (r.flatMap a1H))))]⟩ : St)
  iterate 4 refine z ?_
  refine yO rfl rfl (a4F (dd := a0L r) (a2H hT rfl rfl (a0a rfl) rfl rfl) rfl rfl) rfl ?_
  iterate 4 refine z ?_
  refine a8U (a1p rfl rfl rfl rfl rfl) rfl (fun hg => a4F (dd := a0L r) (a2H hT rfl rfl (a0z rfl hg) rfl rfl) rfl rfl) rfl rfl ?_
  iterate 8 refine z ?_
  refine yQ rfl (fun c3 => ?_) fun c3 => ?_
  ·have hst := b6E hp c3
   have hst1 := hst.1
   iterate 3 refine z ?_
   refine a0o ?_
   iterate 3 refine z ?_
   refine a1z ?_
   iterate 2 refine z ?_
   refine ⟨j + 1, ?_, ?_, a0e ⟨rfl, rfl, rfl, rfl, rfl, rfl, rfl, trivial⟩ ⟨rfl, rfl, rfl, trivial⟩ ⟨rfl, trivial⟩ rfl⟩
   ·exact ⟨by omega, hst.2⟩
   ·omega
  ·have hpos := b5x hj hp c3
   iterate 5 refine z ?_
   refine a0o ?_
   iterate 5 refine z ?_
   refine yO rfl rfl (a1F hT hB rfl rfl rfl (a1b (a0a rfl) rfl rfl rfl rfl rfl (a1b (a0a rfl) rfl rfl rfl rfl rfl a1E))) rfl ?_
   refine a4b (k := 47) (js := []) hT rfl rfl rfl rfl rfl rfl rfl rfl rfl (a0a rfl) rfl rfl (a0q (a0B rfl) (a0q (a0B rfl) a1t rfl) rfl) (by decide) (by decide) rfl rfl ?_
   simp only [a0l, a0i, SV.kill, CV.kill, kk, Nat.reduceBEq]
   refine b3g (k := 9001) (j := 47) (cs := (a2q r j (n, v)).flatMap a1H) (n := (a2q r j (n, v)).length) (b9l rfl rfl (by decide)) rfl rfl Tryz.call127 rfl rfl (a0a rfl) rfl rfl rfl (a0a rfl) (by omega) (by dsimp only [a0b]; omega) (a0a rfl) rfl rfl rfl rfl (by decide) (by dsimp only [a0b]; omega) (by dsimp only [a0b]; omega) (by rw [b6S]) (c4m (o := r) (j := j) (y := (n, v))) ?_
   simp only [a0l, a0i, SV.kill, CV.kill, kk, Nat.reduceBEq]
   iterate 3 refine z ?_
   refine a0p ?_
   refine a0p ?_
   refine a0h (a4s (k := 9001) (c' := a0b false (a0L (a2q r j (n, v)))) rfl (rfl) rfl) ?_
   refine a0o ?_
   refine z ?_
   refine zC Tryz.call76 ?_ (hf := a8y (r := r) )
   iterate 3 refine z ?_
   refine a1A (a1p rfl rfl rfl rfl rfl) rfl rfl Tryz.call76 (a8y (r := a2q r j (n, v)) ) (fun hg => (a0g (a0z rfl hg) (a0t (a0d (a1d rfl rfl) a0s)) a0w)) rfl rfl ?_
   iterate 3 refine z ?_
   refine yQ rfl (fun c4 => ?_) fun c4 => ?_
   ·refine a0p ?_
    refine a0h (σ' := ⟨[(3, .box 3 0), (6, .box 6 0), (7, .one (.dv [] (.bool (false))))], [(3, 66, [(.dv [] (a0L (r)))]), (6, 66, [.nil])], []⟩) (a0e ⟨rfl, rfl, rfl, trivial⟩ ⟨rfl, rfl, trivial⟩ trivial rfl) ?_
    refine a0o ?_
    refine z ?_
    refine zK 8998 Tryz.call74 ?_ (hf := a7s (x := r) (by omega))
    iterate 3 refine z ?_
    rw [a9J (fun hr => b8n hr d1 hpos) c4]
    refine a0h (σ' := ⟨[(6, .box 6 0), (7, .one (.dv [] (.bool (false))))], [(6, 66, [(.key 9001)])], [(9001, some (a0b false (a0L (r))))]⟩) (a0e ⟨rfl, rfl, trivial⟩ ⟨rfl, trivial⟩ ⟨rfl, trivial⟩ rfl) ?_
    iterate 2 refine z ?_
    refine a1N (a0C hT rfl rfl rfl rfl) (a0v rfl) rfl rfl ?_
    first | exact ⟨rfl, rfl⟩ | skip
   ·iterate 7 refine z ?_
    rw [b1k (fun hr => b8n hr d1 hpos) c4]
    refine a0h (σ' := ⟨[(6, .box 6 0), (7, .one (.dv [] (.bool (true))))], [(6, 66, [(.key 9001)])], [(9001, some (a0b false (a0L (a2q r j (n, v)))))]⟩) (a0e ⟨rfl, rfl, trivial⟩ ⟨rfl, trivial⟩ ⟨rfl, trivial⟩ rfl) ?_
    refine z ?_
    refine a1N (a0C hT rfl rfl rfl rfl) (a0v rfl) rfl rfl ?_
    first | exact ⟨rfl, rfl⟩ | skip
theorem b2h {r : a0A} {n : Str} {v : Int} (hb : r.length ≤ 1099511627776) : KFn Tryz.prog 136 [.agg [(.dv [] (a0L (r)))], .one (.dv [] (.str (n))), .one (.dv [] (.int .i64 (v)))] (.tup [(true, [(.key 9001)]), (false, [(.dv [] (.bool ((a1K r n v).2)))])]) [(9001, some (a0b false (a0L ((a1K r n v).1))))] := by
 refine ⟨a0R Tryz.func136 rfl Tryz.ntmps136 Tryz.results136 rfl (fun C => ?_)⟩
 refine yF 0 0 rfl rfl fun f0_0 => ?_
 refine a1i (x := .tmp 1) (a0a rfl) fun f1 => ?_
 refine a1i (x := .tmp 2) (a0a rfl) fun f2 => ?_
 iterate 7 refine z ?_
 refine zK 8998 Tryz.call107 ?_ (hf := a7o (x := r) (by omega))
 iterate 8 refine z ?_
 refine a1f (ι := Nat) (fun zz => ⟨[(1, .one (.dv [] (.str (n)))), (2, .one (.dv [] (.int .i64 (v)))), (3, .box 3 0), (6, .box 6 0), (7, .one (.dv [] (.bool (false)))), (8, .box 8 0), (9, .one (.dv [] (.int .i64 ((zz : Int)))))], [(3, 66, [(.dv [] (a0L (r)))]), (6, 66, [.nil]), (8, 66, [(.key 9001)])], [(9001, some (a0b false (.sl 137 2 (r.length) (r.flatMap a1H))))]⟩) (fun zz => zz ≤ r.length ∧ a2m n r = zz + a2m n (r.drop zz)) (fun zz => r.length - zz) (0) ?_ (a0e ⟨rfl, rfl, rfl, rfl, rfl, rfl, rfl, trivial⟩ ⟨rfl, rfl, rfl, trivial⟩ ⟨rfl, trivial⟩ rfl) (fun zz hx => ?_)
 ·exact ⟨Nat.zero_le _, by simp⟩
 obtain ⟨j, rfl⟩ : ∃ v, v = zz := ⟨_, rfl⟩
 replace hx : j ≤ r.length ∧ a2m n r = j + a2m n (r.drop j) := hx
 obtain ⟨hj, hp⟩ := hx
 show Ok _ _ _ _ _ (⟨[(1, .one (.dv [] (.str (n)))), (2, .one (.dv [] (.int .i64 (v)))), (3, .box 3 0), (6, .box 6 0), (7, .one (.dv [] (.bool (false)))), (8, .box 8 0), (9, .one (.dv [] (.int .i64 ((j : Int)))))], [(3, 66, [(.dv [] (a0L (r)))]), (6, 66, [.nil]), (8, 66, [(.key 9001)])], [(9001, some (a0b false (.sl 137 2 (r.length) (r.flatMap a1H))))]⟩ : St)
 iterate 18 refine z ?_
 refine yQ rfl (fun c1 => ?_) fun c1 => ?_
 ·have hst := b6E hp c1
  have hst1 := hst.1
  iterate 3 refine z ?_
  refine a0o ?_
  iterate 3 refine z ?_
  refine a1z ?_
  iterate 2 refine z ?_
  refine ⟨j + 1, ?_, ?_, a0e ⟨rfl, rfl, rfl, rfl, rfl, rfl, rfl, trivial⟩ ⟨rfl, rfl, rfl, trivial⟩ ⟨rfl, trivial⟩ rfl⟩
  ·exact ⟨by omega, hst.2⟩
  ·omega
 ·have hpos := b5x hj hp c1
  iterate 23 refine z ?_
  refine yQ rfl (fun c2 => ?_) fun c2 => ?_
  ·have hlt : j < r.length := by have h8 := c2; rw [Bool.and_eq_true, decide_eq_true_eq] at h8; omega
   refine a0o ?_
   iterate 4 refine z ?_
   refine yO rfl rfl (a4a (i := j) hT rfl rfl rfl (a0a rfl) rfl (a0a rfl) rfl (by show _ < (r.length); omega)) rfl ?_
   refine z ?_
   refine a2Y (js := []) (cs := (a3h r j v).flatMap a1H) hT rfl rfl rfl rfl (a0a rfl) (a0a rfl) rfl rfl rfl rfl (a0q (a0B rfl) a1t rfl) (by decide) (by decide) rfl (by show _ ≤ List.length (r.flatMap a1H); rw [b2K]; omega) (b5p (by omega)) ?_
   simp only [a0l, a0i, SV.kill, CV.kill, kk, Nat.reduceBEq]
   refine z ?_
   refine a0p ?_
   refine a0p ?_
   refine a0h (a4s (k := 9001) (c' := a0b false (a0L (a3h r j v))) rfl (congrArg (fun m => KC.mk false 137 2 m ((a3h r j v).flatMap a1H)) b3c.symm) rfl) ?_
   refine a0o ?_
   refine z ?_
   refine zC Tryz.call90 ?_ (hf := a7H (r := r) )
   iterate 3 refine z ?_
   refine a1A (a1p rfl rfl rfl rfl rfl) rfl rfl Tryz.call90 (a7H (r := a3h r j v) ) (fun hg => (a0g (a0z rfl hg) (a0t (a0d (a1d rfl rfl) a0s)) a0w)) rfl rfl ?_
   iterate 3 refine z ?_
   refine yQ rfl (fun c3 => ?_) fun c3 => ?_
   ·refine a0p ?_
    refine a0h (σ' := ⟨[(3, .box 3 0), (6, .box 6 0), (7, .one (.dv [] (.bool (false))))], [(3, 66, [(.dv [] (a0L (r)))]), (6, 66, [.nil])], []⟩) (a0e ⟨rfl, rfl, rfl, trivial⟩ ⟨rfl, rfl, trivial⟩ trivial rfl) ?_
    refine a0o ?_
    refine z ?_
    refine zK 8998 Tryz.call107 ?_ (hf := a7o (x := r) (by omega))
    iterate 3 refine z ?_
    rw [a9J (fun _ => b7F hpos c2) c3]
    refine a0h (σ' := ⟨[(6, .box 6 0), (7, .one (.dv [] (.bool (false))))], [(6, 66, [(.key 9001)])], [(9001, some (a0b false (a0L (r))))]⟩) (a0e ⟨rfl, rfl, trivial⟩ ⟨rfl, trivial⟩ ⟨rfl, trivial⟩ rfl) ?_
    iterate 2 refine z ?_
    refine a1N (a0C hT rfl rfl rfl rfl) (a0v rfl) rfl rfl ?_
    first | exact ⟨rfl, rfl⟩ | skip
   ·iterate 7 refine z ?_
    rw [b1k (fun _ => b7F hpos c2) c3]
    refine a0h (σ' := ⟨[(6, .box 6 0), (7, .one (.dv [] (.bool (true))))], [(6, 66, [(.key 9001)])], [(9001, some (a0b false (a0L (a3h r j v))))]⟩) (a0e ⟨rfl, rfl, trivial⟩ ⟨rfl, trivial⟩ ⟨rfl, trivial⟩ rfl) ?_
    refine z ?_
    refine a1N (a0C hT rfl rfl rfl rfl) (a0v rfl) rfl rfl ?_
    first | exact ⟨rfl, rfl⟩ | skip
  ·refine c1L (σ' := ⟨[(3, .box 3 0), (6, .box 6 0), (7, .one (.dv [] (.bool (false)))), (8, .box 8 0)], [(3, 66, [(.dv [] (a0L (r)))]), (6, 66, [.nil]), (8, 66, [(.key 9050)])], [(9001, some (a0b false (.sl 137 2 (r.length) (r.flatMap a1H)))), (9050, some (a0b false (.sl 137 2 ((a2q r j (n, v)).length) ((a2q r j (n, v)).flatMap a1H))))]⟩) ?_ ?_
   ·refine a3G [0, 1, 2, 3, 4, 5, 6, 7, 8, 9, 10, 11, 12, 13, 14, 15, 16] (oB := [3, 6, 8]) (oK := [9001]) (by kernel_rfl) rfl rfl ?_
    refine b3S ?_
    refine zN 1 ?_
    refine zN 2 ?_
    refine zN 3 ?_
    refine a5B 4 rfl (by kernel_rfl) rfl rfl (b0J hT rfl rfl rfl (a0a rfl) (a0a rfl) (fun _ => rfl) (by omega) (by omega)) rfl rfl rfl rfl ?_
    refine zN 6 ?_
    refine zN 7 ?_
    refine a5B 8 rfl (by kernel_rfl) rfl rfl (a1F hT hB rfl rfl rfl (a1b (a0a rfl) rfl rfl rfl rfl rfl (a1b (a0a rfl) rfl rfl rfl rfl rfl a1E))) rfl rfl rfl rfl ?_
    refine zN 11 ?_
    refine zN 12 ?_
    refine zN 13 ?_
    refine a5B 14 rfl (by kernel_rfl) rfl rfl (b9R hT rfl rfl rfl (a0a rfl) (a0a rfl) (fun _ => rfl) (by omega) (by omega)) rfl rfl rfl rfl ?_
    refine a2g 0 [9] (by kernel_rfl) ⟨?_, ?_, trivial⟩
    ·refine a7W (k := 9050) 0 hT rfl rfl rfl rfl rfl rfl rfl rfl rfl rfl rfl rfl ?_
     refine a2g 5 [9] (by kernel_rfl) ⟨?_, ?_, trivial⟩
     ·refine a3N (k := 9050) (cs := (r.take j).flatMap a1H) (n := (r.take j).length) 5 hT rfl rfl rfl rfl rfl rfl rfl rfl (a0a rfl) rfl rfl rfl (a0a rfl) (a3S (fun _ => rfl) _) (by dsimp only [a0b]; simp only [List.length_take]; omega) (by dsimp only [a0b]; simp only [List.length_take]; omega) (Nat.zero_add _) (rfl) rfl rfl ?_
      simp only [a0l, a0i, SV.kill, CV.kill, kk, Nat.reduceBEq]
      refine a2g 9 [] (by kernel_rfl) ⟨?_, trivial⟩
      ·refine b2f (k := 9059) (js := []) 9 hT rfl rfl rfl rfl rfl rfl rfl rfl rfl rfl rfl rfl (a1W (a0a rfl) rfl rfl rfl a4p) (a0q (a0B rfl) (a0q (a0B rfl) a1t rfl) rfl) (by decide) (by decide) rfl rfl rfl rfl rfl ?_
       simp only [a0l, a0i, SV.kill, CV.kill, kk, Nat.reduceBEq]
       refine a2g 10 [] (by kernel_rfl) ⟨?_, trivial⟩
       ·refine a3N (k := 9050) (cs := ((r.take j) ++ [(n, v)]).flatMap a1H) (n := ((r.take j) ++ [(n, v)]).length) (m := 1) (ds := [.str (n), .int .i64 (v)]) 10 hT rfl rfl rfl rfl rfl rfl rfl rfl (a0a rfl) rfl rfl rfl (a3R (a0a rfl) rfl rfl) rfl (by dsimp only [a0b]; simp only [List.length_take]; omega) (by dsimp only [a0b]; simp only [List.length_take]; omega) (by simp) (by rw [List.flatMap_append]; rfl) rfl rfl ?_
        simp only [a0l, a0i, SV.kill, CV.kill, kk, Nat.reduceBEq]
        refine a2g 15 [] (by kernel_rfl) ⟨?_, trivial⟩
        ·refine a3N (k := 9050) (cs := (a2q r j (n, v)).flatMap a1H) (n := (a2q r j (n, v)).length) 15 hT rfl rfl rfl rfl rfl rfl rfl rfl (a0a rfl) rfl rfl rfl (a0a rfl) (a3S (fun _ => rfl) _) (by dsimp only [a0b]; simp only [List.length_append, List.length_take, List.length_drop, List.length_singleton]; omega) (by dsimp only [a0b]; simp only [List.length_append, List.length_take, List.length_drop, List.length_singleton]; omega) (by simp [a2q]; omega) (by rw [← List.flatMap_append, a2q, List.append_assoc]; rfl) rfl rfl ?_
         simp only [a0l, a0i, SV.kill, CV.kill, kk, Nat.reduceBEq]
         refine zN 16 ?_
         refine a2g 17 [] (by kernel_rfl) ⟨?_, trivial⟩
         ·refine a6r 17 rfl rfl (by kernel_rfl) (a4A hT rfl rfl rfl (a0a rfl) (a0a rfl) rfl rfl rfl rfl rfl rfl) (by kernel_rfl) ?_
          exact a3C (a0e ⟨rfl, rfl, rfl, rfl, trivial⟩ ⟨rfl, rfl, rfl, trivial⟩ ⟨rfl, rfl, trivial⟩ rfl)
     ·refine b2f (k := 9059) (js := []) 9 hT rfl rfl rfl rfl rfl rfl rfl rfl rfl rfl rfl rfl (a1W (a0a rfl) rfl rfl rfl a4p) (a0q (a0B rfl) (a0q (a0B rfl) a1t rfl) rfl) (by decide) (by decide) rfl rfl rfl rfl rfl ?_
      simp only [a0l, a0i, SV.kill, CV.kill, kk, Nat.reduceBEq]
      refine a2g 5 [] (by kernel_rfl) ⟨?_, trivial⟩
      ·refine a3N (k := 9050) (cs := (r.take j).flatMap a1H) (n := (r.take j).length) 5 hT rfl rfl rfl rfl rfl rfl rfl rfl (a0a rfl) rfl rfl rfl (a0a rfl) (a3S (fun _ => rfl) _) (by dsimp only [a0b]; simp only [List.length_take]; omega) (by dsimp only [a0b]; simp only [List.length_take]; omega) (Nat.zero_add _) (rfl) rfl rfl ?_
       simp only [a0l, a0i, SV.kill, CV.kill, kk, Nat.reduceBEq]
       refine a2g 10 [] (by kernel_rfl) ⟨?_, trivial⟩
       ·refine a3N (k := 9050) (cs := ((r.take j) ++ [(n, v)]).flatMap a1H) (n := ((r.take j) ++ [(n, v)]).length) (m := 1) (ds := [.str (n), .int .i64 (v)]) 10 hT rfl rfl rfl rfl rfl rfl rfl rfl (a0a rfl) rfl rfl rfl (a3R (a0a rfl) rfl rfl) rfl (by dsimp only [a0b]; simp only [List.length_take]; omega) (by dsimp only [a0b]; simp only [List.length_take]; omega) (by simp) (by rw [List.flatMap_append]; rfl) rfl rfl ?_
        simp only [a0l, a0i, SV.kill, CV.kill, kk, Nat.reduceBEq]
        refine a2g 15 [] (by kernel_rfl) ⟨?_, trivial⟩
        ·refine a3N (k := 9050) (cs := (a2q r j (n, v)).flatMap a1H) (n := (a2q r j (n, v)).length) 15 hT rfl rfl rfl rfl rfl rfl rfl rfl (a0a rfl) rfl rfl rfl (a0a rfl) (a3S (fun _ => rfl) _) (by dsimp only [a0b]; simp only [List.length_append, List.length_take, List.length_drop, List.length_singleton]; omega) (by dsimp only [a0b]; simp only [List.length_append, List.length_take, List.length_drop, List.length_singleton]; omega) (by simp [a2q]; omega) (by rw [← List.flatMap_append, a2q, List.append_assoc]; rfl) rfl rfl ?_
         simp only [a0l, a0i, SV.kill, CV.kill, kk, Nat.reduceBEq]
         refine zN 16 ?_
         refine a2g 17 [] (by kernel_rfl) ⟨?_, trivial⟩
         ·refine a6r 17 rfl rfl (by kernel_rfl) (a4A hT rfl rfl rfl (a0a rfl) (a0a rfl) rfl rfl rfl rfl rfl rfl) (by kernel_rfl) ?_
          exact a3C (a0e ⟨rfl, rfl, rfl, rfl, trivial⟩ ⟨rfl, rfl, rfl, trivial⟩ ⟨rfl, rfl, trivial⟩ rfl)
    ·refine b2f (k := 9059) (js := []) 9 hT rfl rfl rfl rfl rfl rfl rfl rfl rfl rfl rfl rfl (a1W (a0a rfl) rfl rfl rfl a4p) (a0q (a0B rfl) (a0q (a0B rfl) a1t rfl) rfl) (by decide) (by decide) rfl rfl rfl rfl rfl ?_
     simp only [a0l, a0i, SV.kill, CV.kill, kk, Nat.reduceBEq]
     refine a2g 0 [] (by kernel_rfl) ⟨?_, trivial⟩
     ·refine a7W (k := 9050) 0 hT rfl rfl rfl rfl rfl rfl rfl rfl rfl rfl rfl rfl ?_
      refine a2g 5 [] (by kernel_rfl) ⟨?_, trivial⟩
      ·refine a3N (k := 9050) (cs := (r.take j).flatMap a1H) (n := (r.take j).length) 5 hT rfl rfl rfl rfl rfl rfl rfl rfl (a0a rfl) rfl rfl rfl (a0a rfl) (a3S (fun _ => rfl) _) (by dsimp only [a0b]; simp only [List.length_take]; omega) (by dsimp only [a0b]; simp only [List.length_take]; omega) (Nat.zero_add _) (rfl) rfl rfl ?_
       simp only [a0l, a0i, SV.kill, CV.kill, kk, Nat.reduceBEq]
       refine a2g 10 [] (by kernel_rfl) ⟨?_, trivial⟩
       ·refine a3N (k := 9050) (cs := ((r.take j) ++ [(n, v)]).flatMap a1H) (n := ((r.take j) ++ [(n, v)]).length) (m := 1) (ds := [.str (n), .int .i64 (v)]) 10 hT rfl rfl rfl rfl rfl rfl rfl rfl (a0a rfl) rfl rfl rfl (a3R (a0a rfl) rfl rfl) rfl (by dsimp only [a0b]; simp only [List.length_take]; omega) (by dsimp only [a0b]; simp only [List.length_take]; omega) (by simp) (by rw [List.flatMap_append]; rfl) rfl rfl ?_
        simp only [a0l, a0i, SV.kill, CV.kill, kk, Nat.reduceBEq]
        refine a2g 15 [] (by kernel_rfl) ⟨?_, trivial⟩
        ·refine a3N (k := 9050) (cs := (a2q r j (n, v)).flatMap a1H) (n := (a2q r j (n, v)).length) 15 hT rfl rfl rfl rfl rfl rfl rfl rfl (a0a rfl) rfl rfl rfl (a0a rfl) (a3S (fun _ => rfl) _) (by dsimp only [a0b]; simp only [List.length_append, List.length_take, List.length_drop, List.length_singleton]; omega) (by dsimp only [a0b]; simp only [List.length_append, List.length_take, List.length_drop, List.length_singleton]; omega) (by simp [a2q]; omega) (by rw [← List.flatMap_append, a2q, List.append_assoc]; rfl) rfl rfl ?_
         simp only [a0l, a0i, SV.kill, CV.kill, kk, Nat.reduceBEq]
         refine zN 16 ?_
         refine a2g 17 [] (by kernel_rfl) ⟨?_, trivial⟩
         ·refine a6r 17 rfl rfl (by kernel_rfl) (a4A hT rfl rfl rfl (a0a rfl) (a0a rfl) rfl rfl rfl rfl rfl rfl) (by kernel_rfl) ?_
          exact a3C (a0e ⟨rfl, rfl, rfl, rfl, trivial⟩ ⟨rfl, rfl, rfl, trivial⟩ ⟨rfl, rfl, trivial⟩ rfl)
   refine a0p ?_
   refine a0p ?_
   refine a0h (a2i (b := 8) (i := 0) (k := 9050) (k' := 9001) rfl rfl rfl rfl (by decide) rfl rfl) ?_
   simp only [a0l, a0i, SV.kill, CV.kill, kk, Nat.reduceBEq]
   refine a0h (a4s (k := 9001) (c' := a0b false (a0L (a2q r j (n, v)))) rfl (rfl) rfl) ?_
   refine a0o ?_
   refine z ?_
   refine zC Tryz.call90 ?_ (hf := a7H (r := r) )
   iterate 3 refine z ?_
   refine a1A (a1p rfl rfl rfl rfl rfl) rfl rfl Tryz.call90 (a7H (r := a2q r j (n, v)) ) (fun hg => (a0g (a0z rfl hg) (a0t (a0d (a1d rfl rfl) a0s)) a0w)) rfl rfl ?_
   iterate 3 refine z ?_
   refine yQ rfl (fun c4 => ?_) fun c4 => ?_
   ·refine a0p ?_
    refine a0h (σ' := ⟨[(3, .box 3 0), (6, .box 6 0), (7, .one (.dv [] (.bool (false))))], [(3, 66, [(.dv [] (a0L (r)))]), (6, 66, [.nil])], []⟩) (a0e ⟨rfl, rfl, rfl, trivial⟩ ⟨rfl, rfl, trivial⟩ trivial rfl) ?_
    refine a0o ?_
    refine z ?_
    refine zK 8998 Tryz.call107 ?_ (hf := a7o (x := r) (by omega))
    iterate 3 refine z ?_
    rw [a9J (fun _ => b8t hpos c2) c4]
    refine a0h (σ' := ⟨[(6, .box 6 0), (7, .one (.dv [] (.bool (false))))], [(6, 66, [(.key 9001)])], [(9001, some (a0b false (a0L (r))))]⟩) (a0e ⟨rfl, rfl, trivial⟩ ⟨rfl, trivial⟩ ⟨rfl, trivial⟩ rfl) ?_
    iterate 2 refine z ?_
    refine a1N (a0C hT rfl rfl rfl rfl) (a0v rfl) rfl rfl ?_
    first | exact ⟨rfl, rfl⟩ | skip
   ·iterate 7 refine z ?_
    rw [b1k (fun _ => b8t hpos c2) c4]
    refine a0h (σ' := ⟨[(6, .box 6 0), (7, .one (.dv [] (.bool (true))))], [(6, 66, [(.key 9001)])], [(9001, some (a0b false (a0L (a2q r j (n, v)))))]⟩) (a0e ⟨rfl, rfl, trivial⟩ ⟨rfl, trivial⟩ ⟨rfl, trivial⟩ rfl) ?_
    refine z ?_
    refine a1N (a0C hT rfl rfl rfl rfl) (a0v rfl) rfl rfl ?_
    first | exact ⟨rfl, rfl⟩ | skip
end Go.Proofs.YtjkpoekgnmgofaaGreat

namespace Go.Proofs.YtjkpoekgnmgofaaGreat
open Go.RowKit
open Go.Proofs
set_option linter.unusedVariables false
set_option linter.unusedSimpArgs false

def a3o (x : a0u) (k : a0Y) : a0A := if 0 ≤ a0W x k then (x.2.1.getD (a0W x k).toNat default).2 else []
def a4d (r : a0A) (f : Str) : a0A × Bool := a1K r f ((a1c r f).1 + 1)
def rgK (k : a0Y) : a3v := (true, true, k, k)
def rg0 : a3v := (false, false, (0, 0, ByteArray.empty), (0, 0, ByteArray.empty))
def a7t (x : a0u) (k : a0Y) : Int := if a0W x k < 0 then -1 else ((x.2.1.getD (a0W x k).toNat default).2.length : Int)
def opI (x : a0u) (o : OpT) : a0u × Int × Bool :=
 if o.1 = 1 then ((a0S x o.2.2.1 o.2.2.2.1).1, 1, (a0S x o.2.2.1 o.2.2.2.1).2)
 else if o.1 = 2 then ((a2u x o.2.2.1 o.2.2.2.1).1, 1, (a2u x o.2.2.1 o.2.2.2.1).2)
 else if o.1 = 3 then ((a1M x (rgK o.2.2.1)).1, (a1M x (rgK o.2.2.1)).2, true)
 else if o.1 = 5 then ((a1M x rg0).1, (a1M x rg0).2, true)
 else if o.1 = 4 then (x, a7t x o.2.2.1, true)
 else if (a4d (a3o x o.2.2.1) o.2.2.2.2).2 = false then (x, 0, false)
 else ((a0S x o.2.2.1 (a4d (a3o x o.2.2.1) o.2.2.2.2).1).1, (a1c (a3o x o.2.2.1) o.2.2.2.2).1 + 1, (a0S x o.2.2.1 (a4d (a3o x o.2.2.1) o.2.2.2.2).1).2)
def a3e (x : a0u) (k : a0Y) (f : Str) : a0u × Int × Bool := ((a0S x k (a4d (a3o x k) f).1).1, (a1c (a3o x k) f).1 + 1, (a4d (a3o x k) f).2 && (a0S x k (a4d (a3o x k) f).1).2)
def opM (x : a0u) (o : OpT) : a0u × Int × Bool :=
 if o.1 = 1 then ((a0S x o.2.2.1 o.2.2.2.1).1, 1, (a0S x o.2.2.1 o.2.2.2.1).2)
 else if o.1 = 2 then ((a2u x o.2.2.1 o.2.2.2.1).1, 1, (a2u x o.2.2.1 o.2.2.2.1).2)
 else if o.1 = 3 then ((a1M x (rgK o.2.2.1)).1, (a1M x (rgK o.2.2.1)).2, true)
 else if o.1 = 4 then (x, a7t x o.2.2.1, true)
 else if o.1 = 5 then ((a1M x rg0).1, (a1M x rg0).2, true)
 else a3e x o.2.2.1 o.2.2.2.2
theorem b0m (x : a0u) (o : OpT) : opI x o = opM x o ∨ ((opI x o).2.2 = false ∧ (opM x o).2.2 = false) := by
 unfold opI opM
 by_cases h1 : o.1 = 1
 ·simp [h1]
 ·by_cases h2 : o.1 = 2
  ·simp [h2]
  ·by_cases h3 : o.1 = 3
   ·simp [h3]
   ·by_cases h5 : o.1 = 5
    ·simp [h5]
    ·by_cases h4 : o.1 = 4
     ·simp [h4]
     ·rw [if_neg h1, if_neg h2, if_neg h3, if_neg h5, if_neg h4, if_neg h1, if_neg h2, if_neg h3, if_neg h4, if_neg h5]
      by_cases h : (a4d (a3o x o.2.2.1) o.2.2.2.2).2 = false
      ·right; rw [if_pos h]; simp [a3e, h]
      ·left; rw [if_neg h]
       have h' : (a4d (a3o x o.2.2.1) o.2.2.2.2).2 = true := by simpa using h
       simp [a3e, h']
def same (x : a0u) (o : OpT) : Bool := decide (o.1 = 4) || (!decide (o.1 = 1) && !decide (o.1 = 2) && !decide (o.1 = 3) && !decide (o.1 = 5) && !(a4d (a3o x o.2.2.1) o.2.2.2.2).2)
section
variable {x : a0u} {o : OpT}
theorem c5z (h : o.1 = 1) : opI x o = ((a0S x o.2.2.1 o.2.2.2.1).1, 1, (a0S x o.2.2.1 o.2.2.2.1).2) := by rw [opI, if_pos h]
theorem c0T (h : o.1 = 2) : opI x o = ((a2u x o.2.2.1 o.2.2.2.1).1, 1, (a2u x o.2.2.1 o.2.2.2.1).2) := by rw [opI, if_neg (by omega), if_pos h]
theorem c4a (h : o.1 = 3) : opI x o = ((a1M x (rgK o.2.2.1)).1, (a1M x (rgK o.2.2.1)).2, true) := by rw [opI, if_neg (by omega), if_neg (by omega), if_pos h]
theorem c5x (h : o.1 = 5) : opI x o = ((a1M x rg0).1, (a1M x rg0).2, true) := by rw [opI, if_neg (by omega), if_neg (by omega), if_neg (by omega), if_pos h]
theorem b9u (h : o.1 = 4) (h2 : a0W x o.2.2.1 < 0) : opI x o = (x, -1, true) := by rw [opI, if_neg (by omega), if_neg (by omega), if_neg (by omega), if_neg (by omega), if_pos h, a7t, if_pos h2]
theorem c3f (h : o.1 = 4) (h2 : ¬ a0W x o.2.2.1 < 0) : opI x o = (x, ((x.2.1.getD (a0W x o.2.2.1).toNat default).2.length : Int), true) := by rw [opI, if_neg (by omega), if_neg (by omega), if_neg (by omega), if_neg (by omega), if_pos h, a7t, if_neg h2]
theorem b2X {k : a0Y} (h : 0 ≤ a0W x k) : a3o x k = (x.2.1.getD (a0W x k).toNat default).2 := if_pos h
theorem b3N {k : a0Y} (h : ¬ 0 ≤ a0W x k) : a3o x k = [] := if_neg h
theorem b5g {r : a0A} (h1 : o.1 ≠ 1) (h2 : o.1 ≠ 2) (h3 : o.1 ≠ 3) (h5 : o.1 ≠ 5) (h4 : o.1 ≠ 4) (hr : a3o x o.2.2.1 = r) (hk : (!(a1K r o.2.2.2.2 ((a1c r o.2.2.2.2).1 + 1)).2) = true) : opI x o = (x, 0, false) := by
 rw [opI, if_neg h1, if_neg h2, if_neg h3, if_neg h5, if_neg h4, hr, if_pos (by simpa [a4d] using hk)]
theorem b8c {r : a0A} (h1 : o.1 ≠ 1) (h2 : o.1 ≠ 2) (h3 : o.1 ≠ 3) (h5 : o.1 ≠ 5) (h4 : o.1 ≠ 4) (hr : a3o x o.2.2.1 = r) (hk : (!(a1K r o.2.2.2.2 ((a1c r o.2.2.2.2).1 + 1)).2) = false) :
  opI x o = ((a0S x o.2.2.1 (a1K r o.2.2.2.2 ((a1c r o.2.2.2.2).1 + 1)).1).1, (a1c r o.2.2.2.2).1 + 1, (a0S x o.2.2.1 (a1K r o.2.2.2.2 ((a1c r o.2.2.2.2).1 + 1)).1).2) := by
 rw [opI, if_neg h1, if_neg h2, if_neg h3, if_neg h5, if_neg h4, hr, if_neg (by simpa [a4d] using hk)]
 rfl
theorem b3U {r : a0A} (h : same x o = true) (h4 : o.1 ≠ 4) (hr : a3o x o.2.2.1 = r) : ¬ (!(a1K r o.2.2.2.2 ((a1c r o.2.2.2.2).1 + 1)).2) = false := by
 unfold same at h
 rw [hr] at h
 intro hk
 simp only [decide_eq_false h4, Bool.false_or, Bool.and_eq_true] at h
 have := h.2
 unfold a4d at this
 rw [hk] at this
 cases this
theorem a7f (h : same x o = true) (h4 : o.1 = 1 ∨ o.1 = 2 ∨ o.1 = 3 ∨ o.1 = 5) : False := by
 unfold same at h
 rw [decide_eq_false (show ¬ o.1 = 4 by omega)] at h
 simp only [Bool.false_or, Bool.and_eq_true, Bool.not_eq_true', decide_eq_false_iff_not] at h
 omega
theorem b9n (h : same x o = false) : o.1 ≠ 4 := by
 intro h4
 simp [same, h4] at h
theorem b4c {r : a0A} (h : same x o = false) (h1 : o.1 ≠ 1) (h2 : o.1 ≠ 2) (h3 : o.1 ≠ 3) (h5 : o.1 ≠ 5) (hr : a3o x o.2.2.1 = r) : ¬ (!(a1K r o.2.2.2.2 ((a1c r o.2.2.2.2).1 + 1)).2) = true := by
 unfold same at h
 rw [hr] at h
 intro hk
 simp only [decide_eq_false h1, decide_eq_false h2, decide_eq_false h3, decide_eq_false h5, Bool.not_false, Bool.true_and, Bool.or_eq_false_iff] at h
 have := h.2
 unfold a4d at this
 rw [hk] at this
 cases this
end
theorem a7K {r : a0A} {n : Str} (h : a1l r = true) : 0 ≤ (a1c r n).1 ∧ (a1c r n).1 ≤ 1000000000 := by
 unfold a1c
 split
 ·exact ⟨by simp, by simp⟩
 ·rename_i h1
  have hlt := a6J (p := a1U n) r 0 (by omega)
  rw [a1l, Bool.and_eq_true, List.all_eq_true] at h
  have := h.1 (a0j (a1U n) r 0).toNat (List.mem_range.2 (by omega))
  simp only [a4E, Bool.not_eq_true', Bool.or_eq_false_iff, Int.toNat_natCast] at this
  have h2 := this.1.2
  simp only [Bool.not_eq_false', Bool.and_eq_true, decide_eq_true_eq] at h2
  exact h2
theorem a7p {r : a0A} (h : a1l r = true) : r.length ≤ 6 := by
 rw [a1l, Bool.and_eq_true, decide_eq_true_eq] at h
 omega
theorem c2Y {x : a0u} {i : Nat} (h : a1g x = true) (hi : i < x.2.1.length) : a1l (x.2.1.getD i default).2 = true := by
 rw [a1g, Bool.and_eq_true, List.all_eq_true] at h
 have := h.1 i (List.mem_range.2 hi)
 simp only [a3U, Bool.not_eq_true', Bool.or_eq_false_iff, Int.toNat_natCast] at this
 simpa using this.1.2
theorem b1K {o : OpT} (h : a1X o = true) : o.2.2.2.1.length ≤ 6 := by
 unfold a1X at h
 simp only [Bool.and_eq_true] at h
 exact a7p h.1.2
theorem b1s {x : a0u} {k : a0Y} (h : a1g x = true) (h0 : 0 ≤ a0W x k) : a1l (x.2.1.getD (a0W x k).toNat default).2 = true := c2Y h (by have := a5m h0; omega)

theorem c0Z {x : a0u} {o : OpT} (hs : a1g x = true) (ho : a1X o = true) (hal : same x o = true) : PFn Tryz.prog 47 [.agg [(.dv [] (.str (x.1))), (.arg 0 (a0x (x.2.1))), (.dv [] (.int .i64 (x.2.2)))], .agg [(.dv [] (.int .i64 (o.1))), (.dv [] (.str (o.2.1))), (.dv [] (.int .i64 (o.2.2.1.1))), (.dv [] (.int .i64 (o.2.2.1.2.1))), (.dv [] (.str (o.2.2.1.2.2))), (.dv [] (a0L (o.2.2.2.1))), (.dv [] (.str (o.2.2.2.2)))]] (.tup [(true, [(.dv [] (.str (x.1))), (.arg 0 (a0x (x.2.1))), (.dv [] (.int .i64 (x.2.2)))]), (false, [(.dv [] (.int .i64 ((opI x o).2.1)))]), (false, [(.dv [] (.bool ((opI x o).2.2)))])]) := by
 refine ⟨a0R Tryz.func47 rfl Tryz.ntmps47 Tryz.results47 rfl (fun C => ?_)⟩
 have hsw := a6T hs
 have hor := b1K ho
 refine yF 0 0 rfl rfl fun f0_0 => ?_
 refine yF 0 2 rfl rfl fun f0_2 => ?_
 refine yF 1 0 rfl rfl fun f1_0 => ?_
 refine yF 1 1 rfl rfl fun f1_1 => ?_
 refine yF 1 2 rfl rfl fun f1_2 => ?_
 refine yF 1 3 rfl rfl fun f1_3 => ?_
 refine yF 1 4 rfl rfl fun f1_4 => ?_
 refine yF 1 5 rfl rfl fun f1_5 => ?_
 refine yF 1 6 rfl rfl fun f1_6 => ?_
 iterate 11 refine z ?_
 refine zC Tryz.call77 ?_ (hf := b1p (x := x) (k := o.2.2.1) )
 iterate 12 refine z ?_
 refine yQ rfl (fun c1 => ?_) fun c1 => ?_
 ·have d1 := of_decide_eq_true c1
  exact absurd d1 (fun h => a7f hal (by omega))
 ·have d1 := of_decide_eq_false c1
  iterate 4 refine z ?_
  refine yQ rfl (fun c2 => ?_) fun c2 => ?_
  ·have d2 := of_decide_eq_true c2
   exact absurd d2 (fun h => a7f hal (by omega))
  ·have d2 := of_decide_eq_false c2
   iterate 4 refine z ?_
   refine yQ rfl (fun c3 => ?_) fun c3 => ?_
   ·have d3 := of_decide_eq_true c3
    exact absurd d3 (fun h => a7f hal (by omega))
   ·have d3 := of_decide_eq_false c3
    iterate 4 refine z ?_
    refine yQ rfl (fun c4 => ?_) fun c4 => ?_
    ·have d4 := of_decide_eq_true c4
     exact absurd d4 (fun h => a7f hal (by omega))
    ·have d4 := of_decide_eq_false c4
     iterate 4 refine z ?_
     refine yQ rfl (fun c5 => ?_) fun c5 => ?_
     ·have d5 := of_decide_eq_true c5
      iterate 5 refine z ?_
      refine yQ rfl (fun c6 => ?_) fun c6 => ?_
      ·have d6 := of_decide_eq_true c6
       iterate 10 refine z ?_
       refine a1J (a0C hT rfl rfl rfl rfl) (a0v rfl) (a0v rfl) rfl rfl rfl ?_
       rw [b9u d5 d6]
       rfl
      ·have d6 := of_decide_eq_false c6
       have hfx : a0W x o.2.2.1 < x.2.1.length := by have := a5m (x := x) (k := o.2.2.1) (by omega); omega
       iterate 2 refine z ?_
       refine a0p ?_
       refine a5b 4 (oB := [2, 3]) (oK := []) (by kernel_rfl) rfl rfl ?_
       refine a1r 0 rfl (by kernel_rfl) rfl rfl (a2v hT rfl rfl (a0a rfl) rfl rfl) rfl rfl rfl rfl rfl ?_
       refine a1r 1 rfl (by kernel_rfl) rfl rfl (a5k hT rfl rfl rfl (a0a rfl)) rfl rfl rfl rfl rfl ?_
       refine a1r 2 rfl (by kernel_rfl) rfl rfl (a2H hT rfl rfl (a0a rfl) rfl rfl) rfl rfl rfl rfl rfl ?_
       refine a1r 3 rfl (by kernel_rfl) rfl rfl (a0U (.inl rfl) (a0a rfl)) rfl rfl rfl rfl rfl ?_
       refine a1r 4 rfl (by kernel_rfl) rfl rfl (a3W hT rfl rfl rfl (a7x (a0a rfl)) (a0a rfl) (fun _ => rfl) (by omega) (by omega)) rfl rfl rfl rfl rfl ?_
       refine a1r 5 rfl (by kernel_rfl) rfl rfl (a5Y hT rfl rfl rfl (a0a rfl)) rfl rfl rfl rfl rfl ?_
       refine a1r 6 rfl (by kernel_rfl) rfl rfl (a5Y hT rfl rfl rfl (a0a rfl)) rfl rfl rfl rfl rfl ?_
       refine a1r 7 rfl (by kernel_rfl) rfl rfl (b1w hT rfl rfl (a0a rfl) rfl) rfl rfl rfl rfl rfl ?_
       refine a1r 8 rfl (by kernel_rfl) rfl rfl (a4I hT rfl rfl (a0a rfl)) rfl rfl rfl rfl rfl ?_
       refine a4W 9 rfl (by kernel_rfl) rfl hT rfl rfl rfl (a0a rfl) (a0a rfl) rfl rfl rfl rfl rfl rfl ?_
       refine a4G [10, 11] rfl rfl (by kernel_rfl) ?_
       iterate 6 refine z ?_
       refine a1J (a0C hT rfl rfl rfl rfl) (a0v rfl) (a0v rfl) rfl rfl rfl ?_
       rw [c3f d5 d6]
       rfl
     ·have d5 := of_decide_eq_false c5
      iterate 4 refine z ?_
      refine yO rfl rfl (a1F hT hB rfl rfl rfl a1E) rfl ?_
      iterate 8 refine z ?_
      refine yQ rfl (fun c7 => ?_) fun c7 => ?_
      ·have d7 := of_decide_eq_true c7
       have hb9 := b1s hs d7
       have hgb := a7K (n := o.2.2.2.2) hb9
       have hrl := a7p hb9
       have hrq := b2X d7
       have hlt9 := a5m d7
       refine a0o ?_
       iterate 3 refine z ?_
       refine yO rfl rfl (a3W hT rfl rfl rfl (a7x (a0a rfl)) (a0a rfl) (fun _ => rfl) (by omega) (by omega)) rfl ?_
       iterate 8 refine z ?_
       refine zC Tryz.call81 ?_ (hf := a6q (x := ((x.2.1.getD (a0W x o.2.2.1).toNat default).2)) (n := o.2.2.2.2))
       iterate 12 refine z ?_
       refine zK 499 Tryz.call82 ?_ (hf := a9O (r := ((x.2.1.getD (a0W x o.2.2.1).toNat default).2)) (n := o.2.2.2.2) (v := (a1c ((x.2.1.getD (a0W x o.2.2.1).toNat default).2) o.2.2.2.2).1 + 1) (by omega))
       iterate 11 refine z ?_
       refine yQ rfl (fun c8 => ?_) fun c8 => ?_
       ·iterate 8 refine z ?_
        refine a1J (a0C hT rfl rfl rfl rfl) (a0v rfl) (a0v rfl) rfl rfl rfl ?_
        rw [b5g d1 d2 d3 d4 d5 hrq c8]
        rfl
       ·exact absurd c8 (b3U hal d5 hrq)
      ·have d7 := of_decide_eq_false c7
       have hb9 : a1l [] = true := rfl
       have hgb := a7K (n := o.2.2.2.2) hb9
       have hrl := a7p hb9
       have hrq := b3N d7
       iterate 6 refine z ?_
       refine a4i rfl rfl rfl Tryz.call81 (a6q (x := ([] : a0A)) (n := o.2.2.2.2)) (a0g (a0a rfl) (a0t (a0d (a6P rfl rfl) a0s)) (a0g (a0a rfl) (a0I a0c) a0w)) rfl rfl ?_
       iterate 12 refine z ?_
       refine a3Q 499 rfl rfl rfl Tryz.call82 (a9O (r := ([] : a0A)) (n := o.2.2.2.2) (v := (a1c ([] : a0A) o.2.2.2.2).1 + 1) (by omega)) (a0g (a0a rfl) (a0t (a0d (a6P rfl rfl) a0s)) (a0g (a0a rfl) (a0I a0c) (a0g (a0a rfl) (a0I a0c) a0w))) rfl rfl rfl ?_
       iterate 11 refine z ?_
       refine yQ rfl (fun c9 => ?_) fun c9 => ?_
       ·iterate 8 refine z ?_
        refine a1J (a0C hT rfl rfl rfl rfl) (a0v rfl) (a0v rfl) rfl rfl rfl ?_
        rw [b5g d1 d2 d3 d4 d5 hrq c9]
        rfl
       ·exact absurd c9 (b3U hal d5 hrq)
theorem c3Q {x : a0u} {o : OpT} (hs : a1g x = true) (ho : a1X o = true) (hal : same x o = false) : KFn Tryz.prog 47 [.agg [(.dv [] (.str (x.1))), (.dv [] (a0x (x.2.1))), (.dv [] (.int .i64 (x.2.2)))], .agg [(.dv [] (.int .i64 (o.1))), (.dv [] (.str (o.2.1))), (.dv [] (.int .i64 (o.2.2.1.1))), (.dv [] (.int .i64 (o.2.2.1.2.1))), (.dv [] (.str (o.2.2.1.2.2))), (.dv [] (a0L (o.2.2.2.1))), (.dv [] (.str (o.2.2.2.2)))]] (.tup [(true, [(.dv [] (.str ((opI x o).1.1))), (.key 9001), (.dv [] (.int .i64 ((opI x o).1.2.2)))]), (false, [(.dv [] (.int .i64 ((opI x o).2.1)))]), (false, [(.dv [] (.bool ((opI x o).2.2)))])]) [(9001, some (a0b false (a0x ((opI x o).1.2.1))))] := by
 refine ⟨a0R Tryz.func47 rfl Tryz.ntmps47 Tryz.results47 rfl (fun C => ?_)⟩
 have hsw := a6T hs
 have hor := b1K ho
 refine yF 0 0 rfl rfl fun f0_0 => ?_
 refine yF 0 1 rfl rfl fun f0_1 => ?_
 refine yF 0 2 rfl rfl fun f0_2 => ?_
 refine yF 1 0 rfl rfl fun f1_0 => ?_
 refine yF 1 1 rfl rfl fun f1_1 => ?_
 refine yF 1 2 rfl rfl fun f1_2 => ?_
 refine yF 1 3 rfl rfl fun f1_3 => ?_
 refine yF 1 4 rfl rfl fun f1_4 => ?_
 refine yF 1 5 rfl rfl fun f1_5 => ?_
 refine yF 1 6 rfl rfl fun f1_6 => ?_
 iterate 11 refine z ?_
 refine zC Tryz.call77 ?_ (hf := b1p (x := x) (k := o.2.2.1) )
 iterate 12 refine z ?_
 refine yQ rfl (fun c1 => ?_) fun c1 => ?_
 ·have d1 := of_decide_eq_true c1
  iterate 6 refine z ?_
  refine zK 0 Tryz.call78 ?_ (hf := b0d (x := x) (k := o.2.2.1) (r := o.2.2.2.1) (by omega) (by omega))
  iterate 14 refine z ?_
  rw [c5z d1]
  refine a0h (σ' := ⟨[(4, .box 4 0), (5, .one (.dv [] (.int .i64 (1)))), (6, .one (.dv [] (.bool ((a0S (x) (o.2.2.1) (o.2.2.2.1)).2))))], [(4, 60, [(.dv [] (.str ((a0S (x) (o.2.2.1) (o.2.2.2.1)).1.1))), (.key 9001), (.dv [] (.int .i64 ((a0S (x) (o.2.2.1) (o.2.2.2.1)).1.2.2)))])], [(9001, some (a0b false (a0x ((a0S x o.2.2.1 o.2.2.2.1).1.2.1))))]⟩) (a0e ⟨rfl, rfl, rfl, trivial⟩ ⟨rfl, trivial⟩ ⟨rfl, trivial⟩ rfl) ?_
  iterate 3 refine z ?_
  refine a1J (a0C hT rfl rfl rfl rfl) (a0v rfl) (a0v rfl) rfl rfl rfl ?_
  first | exact ⟨rfl, rfl⟩ | skip
 ·have d1 := of_decide_eq_false c1
  iterate 4 refine z ?_
  refine yQ rfl (fun c2 => ?_) fun c2 => ?_
  ·have d2 := of_decide_eq_true c2
   iterate 6 refine z ?_
   refine zK 0 Tryz.call79 ?_ (hf := c2g (x := x) (k := o.2.2.1) (r := o.2.2.2.1) (by omega) (by omega))
   iterate 14 refine z ?_
   rw [c0T d2]
   refine a0h (σ' := ⟨[(4, .box 4 0), (5, .one (.dv [] (.int .i64 (1)))), (6, .one (.dv [] (.bool ((a2u (x) (o.2.2.1) (o.2.2.2.1)).2))))], [(4, 60, [(.dv [] (.str ((a2u (x) (o.2.2.1) (o.2.2.2.1)).1.1))), (.key 9001), (.dv [] (.int .i64 ((a2u (x) (o.2.2.1) (o.2.2.2.1)).1.2.2)))])], [(9001, some (a0b false (a0x ((a2u x o.2.2.1 o.2.2.2.1).1.2.1))))]⟩) (a0e ⟨rfl, rfl, rfl, trivial⟩ ⟨rfl, trivial⟩ ⟨rfl, trivial⟩ rfl) ?_
   iterate 3 refine z ?_
   refine a1J (a0C hT rfl rfl rfl rfl) (a0v rfl) (a0v rfl) rfl rfl rfl ?_
   first | exact ⟨rfl, rfl⟩ | skip
  ·have d2 := of_decide_eq_false c2
   iterate 4 refine z ?_
   refine yQ rfl (fun c3 => ?_) fun c3 => ?_
   ·have d3 := of_decide_eq_true c3
    iterate 6 refine z ?_
    refine yO rfl rfl (a1F hT hB rfl rfl rfl (a1b a0N rfl rfl rfl rfl rfl (a1b a0N rfl rfl rfl rfl rfl (a1b (a0a rfl) rfl rfl rfl rfl rfl (a1b (a0a rfl) rfl rfl rfl rfl rfl a1E))))) rfl ?_
    refine zK 0 Tryz.call80 ?_ (hf := b4A (x := x) (r := rgK o.2.2.1) (by omega))
    iterate 14 refine z ?_
    rw [c4a d3]
    refine a0h (σ' := ⟨[(4, .box 4 0), (5, .one (.dv [] (.int .i64 ((a1M (x) (rgK o.2.2.1)).2)))), (6, .one (.dv [] (.bool (true))))], [(4, 60, [(.dv [] (.str ((a1M (x) (rgK o.2.2.1)).1.1))), (.key 9001), (.dv [] (.int .i64 ((a1M (x) (rgK o.2.2.1)).1.2.2)))])], [(9001, some (a0b false (a0x ((a1M x (rgK o.2.2.1)).1.2.1))))]⟩) (a0e ⟨rfl, rfl, rfl, trivial⟩ ⟨rfl, trivial⟩ ⟨rfl, trivial⟩ rfl) ?_
    iterate 3 refine z ?_
    refine a1J (a0C hT rfl rfl rfl rfl) (a0v rfl) (a0v rfl) rfl rfl rfl ?_
    first | exact ⟨rfl, rfl⟩ | skip
   ·have d3 := of_decide_eq_false c3
    iterate 4 refine z ?_
    refine yQ rfl (fun c4 => ?_) fun c4 => ?_
    ·have d4 := of_decide_eq_true c4
     iterate 2 refine z ?_
     refine yO rfl rfl (a1F hT hB rfl rfl rfl a1E) rfl ?_
     refine zK 0 Tryz.call80 ?_ (hf := b4A (x := x) (r := rg0) (by omega))
     iterate 14 refine z ?_
     rw [c5x d4]
     refine a0h (σ' := ⟨[(4, .box 4 0), (5, .one (.dv [] (.int .i64 ((a1M (x) (rg0)).2)))), (6, .one (.dv [] (.bool (true))))], [(4, 60, [(.dv [] (.str ((a1M (x) (rg0)).1.1))), (.key 9001), (.dv [] (.int .i64 ((a1M (x) (rg0)).1.2.2)))])], [(9001, some (a0b false (a0x ((a1M x rg0).1.2.1))))]⟩) (a0e ⟨rfl, rfl, rfl, trivial⟩ ⟨rfl, trivial⟩ ⟨rfl, trivial⟩ rfl) ?_
     iterate 3 refine z ?_
     refine a1J (a0C hT rfl rfl rfl rfl) (a0v rfl) (a0v rfl) rfl rfl rfl ?_
     first | exact ⟨rfl, rfl⟩ | skip
    ·have d4 := of_decide_eq_false c4
     iterate 4 refine z ?_
     refine yQ rfl (fun c5 => ?_) fun c5 => ?_
     ·have d5 := of_decide_eq_true c5
      exact absurd d5 (b9n hal)
     ·have d5 := of_decide_eq_false c5
      iterate 4 refine z ?_
      refine yO rfl rfl (a1F hT hB rfl rfl rfl a1E) rfl ?_
      iterate 8 refine z ?_
      refine yQ rfl (fun c6 => ?_) fun c6 => ?_
      ·have d6 := of_decide_eq_true c6
       have hb9 := b1s hs d6
       have hgb := a7K (n := o.2.2.2.2) hb9
       have hrl := a7p hb9
       have hrq := b2X d6
       have hlt9 := a5m d6
       have hsl := a9L ((x.2.1.getD (a0W x o.2.2.1).toNat default).2) o.2.2.2.2 ((a1c ((x.2.1.getD (a0W x o.2.2.1).toNat default).2) o.2.2.2.2).1 + 1)
       refine a0o ?_
       iterate 12 refine z ?_
       refine zC Tryz.call81 ?_ (hf := a6q (x := ((x.2.1.getD (a0W x o.2.2.1).toNat default).2)) (n := o.2.2.2.2))
       iterate 12 refine z ?_
       refine zK 499 Tryz.call82 ?_ (hf := a9O (r := ((x.2.1.getD (a0W x o.2.2.1).toNat default).2)) (n := o.2.2.2.2) (v := (a1c ((x.2.1.getD (a0W x o.2.2.1).toNat default).2) o.2.2.2.2).1 + 1) (by omega))
       iterate 11 refine z ?_
       refine yQ rfl (fun c7 => ?_) fun c7 => ?_
       ·exact absurd c7 (b4c hal d1 d2 d3 d4 hrq)
       ·iterate 7 refine z ?_
        refine a3Q 0 rfl rfl rfl Tryz.call78 (b0d (x := x) (k := o.2.2.1) (r := (a1K ((x.2.1.getD (a0W x o.2.2.1).toNat default).2) o.2.2.2.2 ((a1c ((x.2.1.getD (a0W x o.2.2.1).toNat default).2) o.2.2.2.2).1 + 1)).1) (by omega) (by omega)) (a0g (a0a rfl) (a0t (a0d a0c (a0d a0c (a0d a0c a0s)))) (a0g (a0a rfl) (a0t (a0d a0c (a0d a0c (a0d a0c a0s)))) (a0g (a0a rfl) (a0t (a0d (a1d rfl rfl) a0s)) a0w))) rfl rfl rfl ?_
        iterate 16 refine z ?_
        rw [b8c d1 d2 d3 d4 d5 hrq c7]
        refine a0h (σ' := ⟨[(4, .box 4 0), (5, .one (.dv [] (.int .i64 (((a1c ((((x.2.1)).getD (a0W (x) (o.2.2.1)).toNat default).2) (o.2.2.2.2)).1) + (1))))), (6, .one (.dv [] (.bool ((a0S (x) (o.2.2.1) ((a1K ((((x.2.1)).getD (a0W (x) (o.2.2.1)).toNat default).2) (o.2.2.2.2) (((a1c ((((x.2.1)).getD (a0W (x) (o.2.2.1)).toNat default).2) (o.2.2.2.2)).1) + (1))).1)).2))))], [(4, 60, [(.dv [] (.str ((a0S (x) (o.2.2.1) ((a1K ((((x.2.1)).getD (a0W (x) (o.2.2.1)).toNat default).2) (o.2.2.2.2) (((a1c ((((x.2.1)).getD (a0W (x) (o.2.2.1)).toNat default).2) (o.2.2.2.2)).1) + (1))).1)).1.1))), (.key 9001), (.dv [] (.int .i64 ((a0S (x) (o.2.2.1) ((a1K ((((x.2.1)).getD (a0W (x) (o.2.2.1)).toNat default).2) (o.2.2.2.2) (((a1c ((((x.2.1)).getD (a0W (x) (o.2.2.1)).toNat default).2) (o.2.2.2.2)).1) + (1))).1)).1.2.2)))])], [(9001, some (a0b false (a0x ((a0S x o.2.2.1 (a1K ((x.2.1.getD (a0W x o.2.2.1).toNat default).2) o.2.2.2.2 ((a1c ((x.2.1.getD (a0W x o.2.2.1).toNat default).2) o.2.2.2.2).1 + 1)).1).1.2.1))))]⟩) (a0e ⟨rfl, rfl, rfl, trivial⟩ ⟨rfl, trivial⟩ ⟨rfl, trivial⟩ rfl) ?_
        refine z ?_
        refine a1J (a0C hT rfl rfl rfl rfl) (a0v rfl) (a0v rfl) rfl rfl rfl ?_
        first | exact ⟨rfl, rfl⟩ | skip
      ·have d6 := of_decide_eq_false c6
       have hb9 : a1l [] = true := rfl
       have hgb := a7K (n := o.2.2.2.2) hb9
       have hrl := a7p hb9
       have hrq := b3N d6
       have hsl := a9L ([] : a0A) o.2.2.2.2 ((a1c ([] : a0A) o.2.2.2.2).1 + 1)
       iterate 6 refine z ?_
       refine a4i rfl rfl rfl Tryz.call81 (a6q (x := ([] : a0A)) (n := o.2.2.2.2)) (a0g (a0a rfl) (a0t (a0d (a6P rfl rfl) a0s)) (a0g (a0a rfl) (a0I a0c) a0w)) rfl rfl ?_
       iterate 12 refine z ?_
       refine a3Q 499 rfl rfl rfl Tryz.call82 (a9O (r := ([] : a0A)) (n := o.2.2.2.2) (v := (a1c ([] : a0A) o.2.2.2.2).1 + 1) (by omega)) (a0g (a0a rfl) (a0t (a0d (a6P rfl rfl) a0s)) (a0g (a0a rfl) (a0I a0c) (a0g (a0a rfl) (a0I a0c) a0w))) rfl rfl rfl ?_
       iterate 11 refine z ?_
       refine yQ rfl (fun c8 => ?_) fun c8 => ?_
       ·exact absurd c8 (b4c hal d1 d2 d3 d4 hrq)
       ·iterate 7 refine z ?_
        refine a3Q 0 rfl rfl rfl Tryz.call78 (b0d (x := x) (k := o.2.2.1) (r := (a1K ([] : a0A) o.2.2.2.2 ((a1c ([] : a0A) o.2.2.2.2).1 + 1)).1) (by omega) (by omega)) (a0g (a0a rfl) (a0t (a0d a0c (a0d a0c (a0d a0c a0s)))) (a0g (a0a rfl) (a0t (a0d a0c (a0d a0c (a0d a0c a0s)))) (a0g (a0a rfl) (a0t (a0d (a1d rfl rfl) a0s)) a0w))) rfl rfl rfl ?_
        iterate 16 refine z ?_
        rw [b8c d1 d2 d3 d4 d5 hrq c8]
        refine a0h (σ' := ⟨[(4, .box 4 0), (5, .one (.dv [] (.int .i64 (((a1c ([]) (o.2.2.2.2)).1) + (1))))), (6, .one (.dv [] (.bool ((a0S (x) (o.2.2.1) ((a1K ([]) (o.2.2.2.2) (((a1c ([]) (o.2.2.2.2)).1) + (1))).1)).2))))], [(4, 60, [(.dv [] (.str ((a0S (x) (o.2.2.1) ((a1K ([]) (o.2.2.2.2) (((a1c ([]) (o.2.2.2.2)).1) + (1))).1)).1.1))), (.key 9001), (.dv [] (.int .i64 ((a0S (x) (o.2.2.1) ((a1K ([]) (o.2.2.2.2) (((a1c ([]) (o.2.2.2.2)).1) + (1))).1)).1.2.2)))])], [(9001, some (a0b false (a0x ((a0S x o.2.2.1 (a1K ([] : a0A) o.2.2.2.2 ((a1c ([] : a0A) o.2.2.2.2).1 + 1)).1).1.2.1))))]⟩) (a0e ⟨rfl, rfl, rfl, trivial⟩ ⟨rfl, trivial⟩ ⟨rfl, trivial⟩ rfl) ?_
        refine z ?_
        refine a1J (a0C hT rfl rfl rfl rfl) (a0v rfl) (a0v rfl) rfl rfl rfl ?_
        first | exact ⟨rfl, rfl⟩ | skip
theorem c1q {x : a0u} {k : a0Y} {f : Str} (hs : a1g x = true) : KFn Tryz.prog 98 [.agg [(.dv [] (.str (x.1))), (.dv [] (a0x (x.2.1))), (.dv [] (.int .i64 (x.2.2)))], .agg [(.dv [] (.int .i64 (k.1))), (.dv [] (.int .i64 (k.2.1))), (.dv [] (.str (k.2.2)))], .one (.dv [] (.str (f)))] (.tup [(true, [(.dv [] (.str ((a3e x k f).1.1))), (.key 9001), (.dv [] (.int .i64 ((a3e x k f).1.2.2)))]), (false, [(.dv [] (.int .i64 ((a3e x k f).2.1)))]), (false, [(.dv [] (.bool ((a3e x k f).2.2)))])]) [(9001, some (a0b false (a0x ((a3e x k f).1.2.1))))] := by
 refine ⟨a0R Tryz.func98 rfl Tryz.ntmps98 Tryz.results98 rfl (fun C => ?_)⟩
 have hsw := a6T hs
 refine yF 0 0 rfl rfl fun f0_0 => ?_
 refine yF 0 1 rfl rfl fun f0_1 => ?_
 refine yF 0 2 rfl rfl fun f0_2 => ?_
 refine yF 1 0 rfl rfl fun f1_0 => ?_
 refine yF 1 1 rfl rfl fun f1_1 => ?_
 refine yF 1 2 rfl rfl fun f1_2 => ?_
 refine a1i (x := .tmp 2) (a0a rfl) fun f2 => ?_
 iterate 8 refine z ?_
 refine yO rfl rfl (a1F hT hB rfl rfl rfl a1E) rfl ?_
 iterate 7 refine z ?_
 refine zC Tryz.call97 ?_ (hf := a9U (x := x) (k := k) )
 iterate 6 refine z ?_
 refine yQ rfl (fun c1 => ?_) fun c1 => ?_
 ·have d1 := of_decide_eq_true c1
  have hb9 := b1s hs d1
  have hgb := a7K (n := f) hb9
  have hrl := a7p hb9
  have hrq := b2X d1
  have hlt9 := a5m d1
  have hsl := a9L ((x.2.1.getD (a0W x k).toNat default).2) f ((a1c ((x.2.1.getD (a0W x k).toNat default).2) f).1 + 1)
  refine a0o ?_
  iterate 11 refine z ?_
  refine zC Tryz.call93 ?_ (hf := a7v (x := ((x.2.1.getD (a0W x k).toNat default).2)) (n := f))
  iterate 11 refine z ?_
  refine zK 499 Tryz.call136 ?_ (hf := b2h (r := ((x.2.1.getD (a0W x k).toNat default).2)) (n := f) (v := (a1c ((x.2.1.getD (a0W x k).toNat default).2) f).1 + 1) (by omega))
  iterate 11 refine z ?_
  refine a3Q 0 rfl rfl rfl Tryz.call94 (a8u (x := x) (k := k) (r := (a1K ((x.2.1.getD (a0W x k).toNat default).2) f ((a1c ((x.2.1.getD (a0W x k).toNat default).2) f).1 + 1)).1) (by omega) (by omega)) (a0g (a0a rfl) (a0t (a0d a0c (a0d a0c (a0d a0c a0s)))) (a0g (a0a rfl) (a0t (a0d a0c (a0d a0c (a0d a0c a0s)))) (a0g (a0a rfl) (a0t (a0d (a1d rfl rfl) a0s)) a0w))) rfl rfl rfl ?_
  iterate 19 refine z ?_
  have hfin : a3e x k f = ((a0S x k (a1K ((x.2.1.getD (a0W x k).toNat default).2) f ((a1c ((x.2.1.getD (a0W x k).toNat default).2) f).1 + 1)).1).1, (a1c ((x.2.1.getD (a0W x k).toNat default).2) f).1 + 1, (a1K ((x.2.1.getD (a0W x k).toNat default).2) f ((a1c ((x.2.1.getD (a0W x k).toNat default).2) f).1 + 1)).2 && (a0S x k (a1K ((x.2.1.getD (a0W x k).toNat default).2) f ((a1c ((x.2.1.getD (a0W x k).toNat default).2) f).1 + 1)).1).2) := by rw [a3e, hrq]; rfl
  rw [hfin]
  refine a0h (σ' := ⟨[(6, .box 6 0), (7, .one (.dv [] (.int .i64 (((a1c ((((x.2.1)).getD (a0W (x) (k)).toNat default).2) (f)).1) + (1))))), (8, .one (.dv [] (.bool (((a1K ((((x.2.1)).getD (a0W (x) (k)).toNat default).2) (f) (((a1c ((((x.2.1)).getD (a0W (x) (k)).toNat default).2) (f)).1) + (1))).2) && ((a0S (x) (k) ((a1K ((((x.2.1)).getD (a0W (x) (k)).toNat default).2) (f) (((a1c ((((x.2.1)).getD (a0W (x) (k)).toNat default).2) (f)).1) + (1))).1)).2)))))], [(6, 60, [(.dv [] (.str ((a0S (x) (k) ((a1K ((((x.2.1)).getD (a0W (x) (k)).toNat default).2) (f) (((a1c ((((x.2.1)).getD (a0W (x) (k)).toNat default).2) (f)).1) + (1))).1)).1.1))), (.key 9001), (.dv [] (.int .i64 ((a0S (x) (k) ((a1K ((((x.2.1)).getD (a0W (x) (k)).toNat default).2) (f) (((a1c ((((x.2.1)).getD (a0W (x) (k)).toNat default).2) (f)).1) + (1))).1)).1.2.2)))])], [(9001, some (a0b false (a0x ((a0S x k (a1K ((x.2.1.getD (a0W x k).toNat default).2) f ((a1c ((x.2.1.getD (a0W x k).toNat default).2) f).1 + 1)).1).1.2.1))))]⟩) (a0e ⟨rfl, rfl, rfl, trivial⟩ ⟨rfl, trivial⟩ ⟨rfl, trivial⟩ rfl) ?_
  refine z ?_
  refine a1J (a0C hT rfl rfl rfl rfl) (a0v rfl) (a0v rfl) rfl rfl rfl ?_
  first | exact ⟨rfl, rfl⟩ | skip
 ·have d1 := of_decide_eq_false c1
  have hb9 : a1l [] = true := rfl
  have hgb := a7K (n := f) hb9
  have hrl := a7p hb9
  have hrq := b3N d1
  have hsl := a9L ([] : a0A) f ((a1c ([] : a0A) f).1 + 1)
  iterate 5 refine z ?_
  refine a4i rfl rfl rfl Tryz.call93 (a7v (x := ([] : a0A)) (n := f)) (a0g (a0a rfl) (a0t (a0d (a6P rfl rfl) a0s)) (a0g (a0a rfl) (a0I a0c) a0w)) rfl rfl ?_
  iterate 11 refine z ?_
  refine a3Q 499 rfl rfl rfl Tryz.call136 (b2h (r := ([] : a0A)) (n := f) (v := (a1c ([] : a0A) f).1 + 1) (by omega)) (a0g (a0a rfl) (a0t (a0d (a6P rfl rfl) a0s)) (a0g (a0a rfl) (a0I a0c) (a0g (a0a rfl) (a0I a0c) a0w))) rfl rfl rfl ?_
  iterate 11 refine z ?_
  refine a3Q 0 rfl rfl rfl Tryz.call94 (a8u (x := x) (k := k) (r := (a1K ([] : a0A) f ((a1c ([] : a0A) f).1 + 1)).1) (by omega) (by omega)) (a0g (a0a rfl) (a0t (a0d a0c (a0d a0c (a0d a0c a0s)))) (a0g (a0a rfl) (a0t (a0d a0c (a0d a0c (a0d a0c a0s)))) (a0g (a0a rfl) (a0t (a0d (a1d rfl rfl) a0s)) a0w))) rfl rfl rfl ?_
  iterate 19 refine z ?_
  have hfin : a3e x k f = ((a0S x k (a1K ([] : a0A) f ((a1c ([] : a0A) f).1 + 1)).1).1, (a1c ([] : a0A) f).1 + 1, (a1K ([] : a0A) f ((a1c ([] : a0A) f).1 + 1)).2 && (a0S x k (a1K ([] : a0A) f ((a1c ([] : a0A) f).1 + 1)).1).2) := by rw [a3e, hrq]; rfl
  rw [hfin]
  refine a0h (σ' := ⟨[(6, .box 6 0), (7, .one (.dv [] (.int .i64 (((a1c ([]) (f)).1) + (1))))), (8, .one (.dv [] (.bool (((a1K ([]) (f) (((a1c ([]) (f)).1) + (1))).2) && ((a0S (x) (k) ((a1K ([]) (f) (((a1c ([]) (f)).1) + (1))).1)).2)))))], [(6, 60, [(.dv [] (.str ((a0S (x) (k) ((a1K ([]) (f) (((a1c ([]) (f)).1) + (1))).1)).1.1))), (.key 9001), (.dv [] (.int .i64 ((a0S (x) (k) ((a1K ([]) (f) (((a1c ([]) (f)).1) + (1))).1)).1.2.2)))])], [(9001, some (a0b false (a0x ((a0S x k (a1K ([] : a0A) f ((a1c ([] : a0A) f).1 + 1)).1).1.2.1))))]⟩) (a0e ⟨rfl, rfl, rfl, trivial⟩ ⟨rfl, trivial⟩ ⟨rfl, trivial⟩ rfl) ?_
  refine z ?_
  refine a1J (a0C hT rfl rfl rfl rfl) (a0v rfl) (a0v rfl) rfl rfl rfl ?_
  first | exact ⟨rfl, rfl⟩ | skip

section
variable {x : a0u} {o : OpT}
theorem c1e (h : o.1 = 1) : opM x o = ((a0S x o.2.2.1 o.2.2.2.1).1, 1, (a0S x o.2.2.1 o.2.2.2.1).2) := by rw [opM, if_pos h]
theorem c1b (h : o.1 = 2) : opM x o = ((a2u x o.2.2.1 o.2.2.2.1).1, 1, (a2u x o.2.2.1 o.2.2.2.1).2) := by rw [opM, if_neg (by omega), if_pos h]
theorem c4A (h : o.1 = 3) : opM x o = ((a1M x (rgK o.2.2.1)).1, (a1M x (rgK o.2.2.1)).2, true) := by rw [opM, if_neg (by omega), if_neg (by omega), if_pos h]
theorem c3P (h : o.1 = 5) : opM x o = ((a1M x rg0).1, (a1M x rg0).2, true) := by rw [opM, if_neg (by omega), if_neg (by omega), if_neg (by omega), if_neg (by omega), if_pos h]
theorem b9i (h : o.1 = 4) (h2 : a0W x o.2.2.1 < 0) : opM x o = (x, -1, true) := by rw [opM, if_neg (by omega), if_neg (by omega), if_neg (by omega), if_pos h, a7t, if_pos h2]
theorem c1v (h : o.1 = 4) (h2 : ¬ a0W x o.2.2.1 < 0) : opM x o = (x, ((x.2.1.getD (a0W x o.2.2.1).toNat default).2.length : Int), true) := by rw [opM, if_neg (by omega), if_neg (by omega), if_neg (by omega), if_pos h, a7t, if_neg h2]
theorem c3A (h1 : o.1 ≠ 1) (h2 : o.1 ≠ 2) (h3 : o.1 ≠ 3) (h4 : o.1 ≠ 4) (h5 : o.1 ≠ 5) : opM x o = a3e x o.2.2.1 o.2.2.2.2 := by rw [opM, if_neg h1, if_neg h2, if_neg h3, if_neg h4, if_neg h5]
end

theorem c2f {x : a0u} {o : OpT} (hs : a1g x = true) (ho : a1X o = true) : KFn Tryz.prog 61 [.agg [(.dv [] (.str (x.1))), (.dv [] (a0x (x.2.1))), (.dv [] (.int .i64 (x.2.2)))], .agg [(.dv [] (.int .i64 (o.1))), (.dv [] (.str (o.2.1))), (.dv [] (.int .i64 (o.2.2.1.1))), (.dv [] (.int .i64 (o.2.2.1.2.1))), (.dv [] (.str (o.2.2.1.2.2))), (.dv [] (a0L (o.2.2.2.1))), (.dv [] (.str (o.2.2.2.2)))]] (.tup [(true, [(.dv [] (.str ((opM x o).1.1))), (.key 9001), (.dv [] (.int .i64 ((opM x o).1.2.2)))]), (false, [(.dv [] (.int .i64 ((opM x o).2.1)))]), (false, [(.dv [] (.bool ((opM x o).2.2)))])]) [(9001, some (a0b false (a0x ((opM x o).1.2.1))))] := by
 refine ⟨a0R Tryz.func61 rfl Tryz.ntmps61 Tryz.results61 rfl (fun C => ?_)⟩
 have hsw := a6T hs
 have hor := b1K ho
 refine yF 0 0 rfl rfl fun f0_0 => ?_
 refine yF 0 1 rfl rfl fun f0_1 => ?_
 refine yF 0 2 rfl rfl fun f0_2 => ?_
 refine yF 1 0 rfl rfl fun f1_0 => ?_
 refine yF 1 1 rfl rfl fun f1_1 => ?_
 refine yF 1 2 rfl rfl fun f1_2 => ?_
 refine yF 1 3 rfl rfl fun f1_3 => ?_
 refine yF 1 4 rfl rfl fun f1_4 => ?_
 refine yF 1 5 rfl rfl fun f1_5 => ?_
 refine yF 1 6 rfl rfl fun f1_6 => ?_
 iterate 17 refine z ?_
 refine yQ rfl (fun c1 => ?_) fun c1 => ?_
 ·have d1 := of_decide_eq_true c1
  iterate 6 refine z ?_
  refine zK 0 Tryz.call94 ?_ (hf := a8u (x := x) (k := o.2.2.1) (r := o.2.2.2.1) (by omega) (by omega))
  iterate 14 refine z ?_
  rw [c1e d1]
  refine a0h (σ' := ⟨[(4, .box 4 0), (5, .one (.dv [] (.int .i64 (1)))), (6, .one (.dv [] (.bool ((a0S (x) (o.2.2.1) (o.2.2.2.1)).2))))], [(4, 60, [(.dv [] (.str ((a0S (x) (o.2.2.1) (o.2.2.2.1)).1.1))), (.key 9001), (.dv [] (.int .i64 ((a0S (x) (o.2.2.1) (o.2.2.2.1)).1.2.2)))])], [(9001, some (a0b false (a0x ((a0S x o.2.2.1 o.2.2.2.1).1.2.1))))]⟩) (a0e ⟨rfl, rfl, rfl, trivial⟩ ⟨rfl, trivial⟩ ⟨rfl, trivial⟩ rfl) ?_
  iterate 3 refine z ?_
  refine a1J (a0C hT rfl rfl rfl rfl) (a0v rfl) (a0v rfl) rfl rfl rfl ?_
  first | exact ⟨rfl, rfl⟩ | skip
 ·have d1 := of_decide_eq_false c1
  iterate 4 refine z ?_
  refine yQ rfl (fun c2 => ?_) fun c2 => ?_
  ·have d2 := of_decide_eq_true c2
   iterate 6 refine z ?_
   refine zK 0 Tryz.call95 ?_ (hf := c5k (x := x) (k := o.2.2.1) (r := o.2.2.2.1) (by omega) (by omega))
   iterate 14 refine z ?_
   rw [c1b d2]
   refine a0h (σ' := ⟨[(4, .box 4 0), (5, .one (.dv [] (.int .i64 (1)))), (6, .one (.dv [] (.bool ((a2u (x) (o.2.2.1) (o.2.2.2.1)).2))))], [(4, 60, [(.dv [] (.str ((a2u (x) (o.2.2.1) (o.2.2.2.1)).1.1))), (.key 9001), (.dv [] (.int .i64 ((a2u (x) (o.2.2.1) (o.2.2.2.1)).1.2.2)))])], [(9001, some (a0b false (a0x ((a2u x o.2.2.1 o.2.2.2.1).1.2.1))))]⟩) (a0e ⟨rfl, rfl, rfl, trivial⟩ ⟨rfl, trivial⟩ ⟨rfl, trivial⟩ rfl) ?_
   iterate 3 refine z ?_
   refine a1J (a0C hT rfl rfl rfl rfl) (a0v rfl) (a0v rfl) rfl rfl rfl ?_
   first | exact ⟨rfl, rfl⟩ | skip
  ·have d2 := of_decide_eq_false c2
   iterate 4 refine z ?_
   refine yQ rfl (fun c3 => ?_) fun c3 => ?_
   ·have d3 := of_decide_eq_true c3
    iterate 6 refine z ?_
    refine yO rfl rfl (a1F hT hB rfl rfl rfl (a1b a0N rfl rfl rfl rfl rfl (a1b a0N rfl rfl rfl rfl rfl (a1b (a0a rfl) rfl rfl rfl rfl rfl (a1b (a0a rfl) rfl rfl rfl rfl rfl a1E))))) rfl ?_
    refine zK 0 Tryz.call96 ?_ (hf := b7x (x := x) (r := rgK o.2.2.1) (by omega))
    iterate 14 refine z ?_
    rw [c4A d3]
    refine a0h (σ' := ⟨[(4, .box 4 0), (5, .one (.dv [] (.int .i64 ((a1M (x) (rgK o.2.2.1)).2)))), (6, .one (.dv [] (.bool (true))))], [(4, 60, [(.dv [] (.str ((a1M (x) (rgK o.2.2.1)).1.1))), (.key 9001), (.dv [] (.int .i64 ((a1M (x) (rgK o.2.2.1)).1.2.2)))])], [(9001, some (a0b false (a0x ((a1M x (rgK o.2.2.1)).1.2.1))))]⟩) (a0e ⟨rfl, rfl, rfl, trivial⟩ ⟨rfl, trivial⟩ ⟨rfl, trivial⟩ rfl) ?_
    iterate 3 refine z ?_
    refine a1J (a0C hT rfl rfl rfl rfl) (a0v rfl) (a0v rfl) rfl rfl rfl ?_
    first | exact ⟨rfl, rfl⟩ | skip
   ·have d3 := of_decide_eq_false c3
    iterate 4 refine z ?_
    refine yQ rfl (fun c4 => ?_) fun c4 => ?_
    ·have d4 := of_decide_eq_true c4
     iterate 4 refine z ?_
     refine zC Tryz.call97 ?_ (hf := a9U (x := x) (k := o.2.2.1) )
     iterate 7 refine z ?_
     refine yQ rfl (fun c5 => ?_) fun c5 => ?_
     ·have d5 := of_decide_eq_true c5
      iterate 2 refine z ?_
      refine zK 8971 Tryz.call54 ?_ (hf := a5W (x := x) (by omega))
      iterate 4 refine z ?_
      rw [b9i d4 d5]
      refine a0h (σ' := ⟨[(4, .box 4 0), (5, .one (.dv [] (.int .i64 (-1)))), (6, .one (.dv [] (.bool (true))))], [(4, 60, [(.dv [] (.str ((x).1))), (.key 9001), (.dv [] (.int .i64 ((x).2.2)))])], [(9001, some (a0b false (a0x (x.2.1))))]⟩) (a0e ⟨rfl, rfl, rfl, trivial⟩ ⟨rfl, trivial⟩ ⟨rfl, trivial⟩ rfl) ?_
      iterate 4 refine z ?_
      refine a1J (a0C hT rfl rfl rfl rfl) (a0v rfl) (a0v rfl) rfl rfl rfl ?_
      first | exact ⟨rfl, rfl⟩ | skip
     ·have d5 := of_decide_eq_false c5
      have hfx : a0W x o.2.2.1 < x.2.1.length := by have := a5m (x := x) (k := o.2.2.1) (by omega); omega
      iterate 2 refine z ?_
      refine a0p ?_
      refine c2c 4 [0, 1, 2, 3, 4, 5, 6, 7, 8, 9, 10] (oB := [2, 3]) (oK := []) (by kernel_rfl) rfl rfl ?_
      refine a6l 0 rfl (by kernel_rfl) rfl rfl (a2v hT rfl rfl (a0a rfl) rfl rfl) rfl rfl rfl rfl rfl ?_
      refine a6l 2 rfl (by kernel_rfl) rfl rfl (a5k hT rfl rfl rfl (a0a rfl)) rfl rfl rfl rfl rfl ?_
      refine a6l 3 rfl (by kernel_rfl) rfl rfl (a2H hT rfl rfl (a0a rfl) rfl rfl) rfl rfl rfl rfl rfl ?_
      refine a6l 4 rfl (by kernel_rfl) rfl rfl (a0U (.inl rfl) (a0a rfl)) rfl rfl rfl rfl rfl ?_
      refine a6l 5 rfl (by kernel_rfl) rfl rfl (a3W hT rfl rfl rfl (a0a rfl) (a0a rfl) (fun _ => rfl) (by omega) (by omega)) rfl rfl rfl rfl rfl ?_
      refine a6l 6 rfl (by kernel_rfl) rfl rfl (a5Y hT rfl rfl rfl (a0a rfl)) rfl rfl rfl rfl rfl ?_
      refine a6l 7 rfl (by kernel_rfl) rfl rfl (a5Y hT rfl rfl rfl (a0a rfl)) rfl rfl rfl rfl rfl ?_
      refine a6l 8 rfl (by kernel_rfl) rfl rfl (b1w hT rfl rfl (a0a rfl) rfl) rfl rfl rfl rfl rfl ?_
      refine a6l 9 rfl (by kernel_rfl) rfl rfl (a4I hT rfl rfl (a0a rfl)) rfl rfl rfl rfl rfl ?_
      refine c0r 8971 1 rfl (by kernel_rfl) rfl rfl rfl Tryz.call54 (a5W (x := x) (by omega)) (a0g (a0a rfl) (a0t (a0d a0c (a0d a0c (a0d a0c a0s)))) a0w) rfl rfl rfl rfl rfl rfl ?_
      refine c4h 10 rfl (by kernel_rfl) rfl hT rfl rfl rfl (a0a rfl) (a0a rfl) rfl rfl rfl rfl rfl rfl ?_
      refine c3E [11, 12] rfl rfl (by kernel_rfl) ?_
      iterate 3 refine z ?_
      rw [c1v d4 d5]
      refine a0h (σ' := ⟨[(4, .box 4 0), (5, .one (.dv [] (.int .i64 (((((((x.2.1)).getD (a0W (x) (o.2.2.1)).toNat default).2)).length : Int))))), (6, .one (.dv [] (.bool (true))))], [(4, 60, [(.dv [] (.str ((x).1))), (.key 9001), (.dv [] (.int .i64 ((x).2.2)))])], [(9001, some (a0b false (a0x (x.2.1))))]⟩) (a0e ⟨rfl, rfl, rfl, trivial⟩ ⟨rfl, trivial⟩ ⟨rfl, trivial⟩ rfl) ?_
      iterate 3 refine z ?_
      refine a1J (a0C hT rfl rfl rfl rfl) (a0v rfl) (a0v rfl) rfl rfl rfl ?_
      first | exact ⟨rfl, rfl⟩ | skip
    ·have d4 := of_decide_eq_false c4
     iterate 4 refine z ?_
     refine yQ rfl (fun c6 => ?_) fun c6 => ?_
     ·have d6 := of_decide_eq_true c6
      iterate 2 refine z ?_
      refine yO rfl rfl (a1F hT hB rfl rfl rfl a1E) rfl ?_
      refine zK 0 Tryz.call96 ?_ (hf := b7x (x := x) (r := rg0) (by omega))
      iterate 14 refine z ?_
      rw [c3P d6]
      refine a0h (σ' := ⟨[(4, .box 4 0), (5, .one (.dv [] (.int .i64 ((a1M (x) (rg0)).2)))), (6, .one (.dv [] (.bool (true))))], [(4, 60, [(.dv [] (.str ((a1M (x) (rg0)).1.1))), (.key 9001), (.dv [] (.int .i64 ((a1M (x) (rg0)).1.2.2)))])], [(9001, some (a0b false (a0x ((a1M x rg0).1.2.1))))]⟩) (a0e ⟨rfl, rfl, rfl, trivial⟩ ⟨rfl, trivial⟩ ⟨rfl, trivial⟩ rfl) ?_
      iterate 3 refine z ?_
      refine a1J (a0C hT rfl rfl rfl rfl) (a0v rfl) (a0v rfl) rfl rfl rfl ?_
      first | exact ⟨rfl, rfl⟩ | skip
     ·have d6 := of_decide_eq_false c6
      iterate 9 refine z ?_
      refine zK 0 Tryz.call98 ?_ (hf := c1q (x := x) (k := o.2.2.1) (f := o.2.2.2.2) hs)
      iterate 7 refine z ?_
      rw [c3A d1 d2 d3 d4 d6]
      refine a0h (σ' := ⟨[(4, .box 4 0), (5, .one (.dv [] (.int .i64 ((a3e (x) (o.2.2.1) (o.2.2.2.2)).2.1)))), (6, .one (.dv [] (.bool ((a3e (x) (o.2.2.1) (o.2.2.2.2)).2.2))))], [(4, 60, [(.dv [] (.str ((a3e (x) (o.2.2.1) (o.2.2.2.2)).1.1))), (.key 9001), (.dv [] (.int .i64 ((a3e (x) (o.2.2.1) (o.2.2.2.2)).1.2.2)))])], [(9001, some (a0b false (a0x ((a3e x o.2.2.1 o.2.2.2.2).1.2.1))))]⟩) (a0e ⟨rfl, rfl, rfl, trivial⟩ ⟨rfl, trivial⟩ ⟨rfl, trivial⟩ rfl) ?_
      refine z ?_
      refine a1J (a0C hT rfl rfl rfl rfl) (a0v rfl) (a0v rfl) rfl rfl rfl ?_
      first | exact ⟨rfl, rfl⟩ | skip
end Go.Proofs.YtjkpoekgnmgofaaGreat

namespace Go.Proofs.YtjkpoekgnmgofaaGreat
open Go.RowKit
open Go.Proofs
set_option linter.unusedVariables false
set_option linter.unusedSimpArgs false

theorem b3T {α : Type} {enc : α → List DV} {sz : Nat} {xs : List α} {i : Nat} (hs : ∀ y, (enc y).length = sz) (hi : i < xs.length) : i * sz + sz ≤ (xs.flatMap enc).length := by
 rw [a3V hs]
 have : (i + 1) * sz ≤ xs.length * sz := Nat.mul_le_mul_right _ hi
 rw [Nat.add_mul, Nat.one_mul] at this
 exact this
section
variable {α : Type} {enc : α → List DV} {sz : Nat} {xs : List α} {i : Nat} [Inhabited α]
theorem b2F (hs : ∀ y, (enc y).length = sz) (hi : i < xs.length) : sub (i * sz) sz (xs.flatMap enc) = enc (xs.getD i default) := by
 obtain ⟨_, h2⟩ := a5n hs i xs
 have e : xs.drop i = xs.getD i default :: xs.drop (i + 1) := by rw [List.drop_eq_getElem_cons hi]; simp [List.getD, List.getElem?_eq_getElem hi]
 rw [sub, h2, e, List.flatMap_cons, List.take_left' (hs _)]
theorem b3s (hs : ∀ y, (enc y).length = sz) (hi : i < xs.length) (y : α) : a1e (i * sz) (enc y) (xs.flatMap enc) = (xs.set i y).flatMap enc := by
 have e : xs.flatMap enc = (xs.take i).flatMap enc ++ (enc (xs.getD i default) ++ (xs.drop (i + 1)).flatMap enc) := by
  have e : xs.drop i = xs.getD i default :: xs.drop (i + 1) := by rw [List.drop_eq_getElem_cons hi]; simp [List.getD, List.getElem?_eq_getElem hi]
  rw [← List.flatMap_cons, ← e, ← List.flatMap_append, List.take_append_drop]
 rw [e, a6g (by rw [a3V hs, List.length_take]; congr 1; omega) (by rw [hs, hs]), List.set_eq_take_append_cons_drop, if_pos hi, List.flatMap_append, List.flatMap_cons]
end
def a1Y (d : DbT) (i : Nat) (s : a0u) : DbT := (d.1, d.2.1, d.2.2.1.set i s, d.2.2.2)
def a2o (d : DbT) (o : OpT) : a0u := d.2.2.1.getD (a0J d o.2.1).toNat default
def a0E (d : DbT) (o : OpT) : DbT × Int × Bool :=
 if ((!a0F d || !a1X o) || decide (a0J d o.2.1 < 0)) = true then (d, 0, false)
 else if (!(opM (a2o d o) o).2.2 || !a0F (a1Y d (a0J d o.2.1).toNat (opM (a2o d o) o).1)) = true then (d, 0, false)
 else (a1Y d (a0J d o.2.1).toNat (opM (a2o d o) o).1, (opM (a2o d o) o).2.1, true)
theorem a8B {d : DbT} {o : OpT} (h : ((!a0F d || !a1X o) || decide (a0J d o.2.1 < 0)) = false) : a0F d = true ∧ a1X o = true ∧ 0 ≤ a0J d o.2.1 := by
 simp only [Bool.or_eq_false_iff, Bool.not_eq_false', decide_eq_false_iff_not] at h
 exact ⟨h.1.1, h.1.2, by omega⟩
theorem a8J {d : DbT} (h : a0F d = true) : a4X d = true := by
 rw [a0F] at h
 simp only [Bool.and_eq_true] at h
 exact h.2.1
theorem b2I {d : DbT} {o : OpT} (h : ((!a0F d || !a1X o) || decide (a0J d o.2.1 < 0)) = true) : a0E d o = (d, 0, false) := by rw [a0E, if_pos h]
theorem b1Y {d : DbT} {o : OpT} {r : a0u × Int × Bool} (h : ((!a0F d || !a1X o) || decide (a0J d o.2.1 < 0)) = false) (hr : r = opM (a2o d o) o ∨ (r.2.2 = false ∧ (opM (a2o d o) o).2.2 = false)) (h2 : (!r.2.2 || !a0F (a1Y d (a0J d o.2.1).toNat r.1)) = true) : a0E d o = (d, 0, false) := by
 rw [a0E, if_neg (by rw [h]; simp)]
 rcases hr with rfl | ⟨_, hr⟩
 ·rw [if_pos h2]
 ·rw [if_pos (by rw [hr]; rfl)]
theorem b3J {d : DbT} {o : OpT} {r : a0u × Int × Bool} (h : ((!a0F d || !a1X o) || decide (a0J d o.2.1 < 0)) = false) (hr : r = opM (a2o d o) o ∨ (r.2.2 = false ∧ (opM (a2o d o) o).2.2 = false)) (h2 : (!r.2.2 || !a0F (a1Y d (a0J d o.2.1).toNat r.1)) = false) : a0E d o = (a1Y d (a0J d o.2.1).toNat r.1, r.2.1, true) := by
 rw [a0E, if_neg (by rw [h]; simp)]
 rcases hr with rfl | ⟨hr, _⟩
 ·rw [if_neg (by rw [h2]; simp)]
 ·rw [hr] at h2; cases h2
theorem c5e {x : a0u} {o : OpT} (h : same x o = true) : (opI x o).1 = x := by
 by_cases h4 : o.1 = 4
 ·unfold opI
  rw [if_neg (by omega), if_neg (by omega), if_neg (by omega), if_neg (by omega), if_pos h4]
 ·have h1 : ¬ o.1 = 1 := fun e => a7f h (by omega)
  have h2 : ¬ o.1 = 2 := fun e => a7f h (by omega)
  have h3 : ¬ o.1 = 3 := fun e => a7f h (by omega)
  have h5 : ¬ o.1 = 5 := fun e => a7f h (by omega)
  unfold opI
  rw [if_neg h1, if_neg h2, if_neg h3, if_neg h5, if_neg h4, if_pos]
  have := b3U h h4 rfl
  unfold a4d
  simpa using this
theorem b5m {d : DbT} {i : Nat} (hi : i < d.2.2.1.length) : a1Y d i (d.2.2.1.getD i default) = d := by
 have : d.2.2.1.set i (d.2.2.1.getD i default) = d.2.2.1 := by
  apply List.ext_getElem?
  intro j
  rw [List.getElem?_set]
  by_cases h : i = j
  ·subst h; simp [hi, List.getD]
  ·simp [h]
 unfold a1Y
 rw [this]

theorem c0O {d : DbT} {o : OpT} (hb : a1B d ≤ 1099511627776) : KFn Tryz.prog 34 [.agg [(.dv [] (.str (d.1))), (.dv [] (.int .i64 (d.2.1))), (.dv [] (a0k (d.2.2.1))), (.dv [] (a0r (d.2.2.2)))], .agg [(.dv [] (.int .i64 (o.1))), (.dv [] (.str (o.2.1))), (.dv [] (.int .i64 (o.2.2.1.1))), (.dv [] (.int .i64 (o.2.2.1.2.1))), (.dv [] (.str (o.2.2.1.2.2))), (.dv [] (a0L (o.2.2.2.1))), (.dv [] (.str (o.2.2.2.2)))]] (.tup [(true, [(.dv [] (.str ((a0E d o).1.1))), (.dv [] (.int .i64 ((a0E d o).1.2.1))), (.key 90031), (.key 90900)]), (false, [(.dv [] (.int .i64 ((a0E d o).2.1)))]), (false, [(.dv [] (.bool ((a0E d o).2.2)))])]) [(90031, some (a0b false (a0k ((a0E d o).1.2.2.1)))), (90900, some (a0b false (a0r ((a0E d o).1.2.2.2))))] := by
 refine ⟨a0R Tryz.func34 rfl Tryz.ntmps34 Tryz.results34 rfl (fun C => ?_)⟩
 refine yF 0 0 rfl rfl fun f0_0 => ?_
 refine yF 0 1 rfl rfl fun f0_1 => ?_
 refine yF 0 2 rfl rfl fun f0_2 => ?_
 refine yF 0 3 rfl rfl fun f0_3 => ?_
 refine yF 1 0 rfl rfl fun f1_0 => ?_
 refine yF 1 1 rfl rfl fun f1_1 => ?_
 refine yF 1 2 rfl rfl fun f1_2 => ?_
 refine yF 1 3 rfl rfl fun f1_3 => ?_
 refine yF 1 4 rfl rfl fun f1_4 => ?_
 refine yF 1 5 rfl rfl fun f1_5 => ?_
 refine yF 1 6 rfl rfl fun f1_6 => ?_
 iterate 9 refine z ?_
 refine zK 90000 Tryz.call32 ?_ (hf := a5L (x := d) (by omega))
 iterate 7 refine z ?_
 refine zC Tryz.call56 ?_ (hf := b2H (x := d) (n := o.2.1) )
 iterate 5 refine z ?_
 refine zC Tryz.call33 ?_ (hf := a5e (x := d) )
 iterate 3 refine z ?_
 refine a1A (a1p rfl rfl rfl rfl rfl) rfl rfl Tryz.call60 (b6t (x := o) ) (fun hg => (a0g (a0z rfl hg) (a0t (a0d a0c (a0d a0c (a0d a0c (a0d a0c (a0d a0c (a0d a0c (a0d a0c a0s)))))))) a0w)) rfl rfl ?_
 iterate 7 refine z ?_
 refine yQ rfl (fun c1 => ?_) fun c1 => ?_
 ·iterate 6 refine z ?_
  rw [b2I c1]
  refine a0h (σ' := ⟨[(4, .box 4 0), (5, .one (.dv [] (.int .i64 (0)))), (6, .one (.dv [] (.bool (false))))], [(4, 27, [(.dv [] (.str ((d).1))), (.dv [] (.int .i64 ((d).2.1))), (.key 90031), (.key 90900)])], [(90031, some (a0b false (a0k (d.2.2.1)))), (90900, some (a0b false (a0r (d.2.2.2))))]⟩) (a0e ⟨rfl, rfl, rfl, trivial⟩ ⟨rfl, trivial⟩ ⟨rfl, rfl, trivial⟩ rfl) ?_
  iterate 2 refine z ?_
  refine a1J (a0C hT rfl rfl rfl rfl) (a0v rfl) (a0v rfl) rfl rfl rfl ?_
  first | exact ⟨rfl, rfl⟩ | skip
 ·have hg := a8B c1
  have hlt : a0j (a0y o.2.1) d.2.2.1 0 < d.2.2.1.length := a5x d o.2.1
  have h0k : 0 ≤ a0j (a0y o.2.1) d.2.2.1 0 := hg.2.2
  have hsx := a5F (a8J hg.1) h0k hlt
  have hkn : (a0j (a0y o.2.1) d.2.2.1 0).toNat < d.2.2.1.length := by omega
  iterate 2 refine z ?_
  refine a7h (σ' := ⟨[(2, .box 2 0), (3, .box 3 0), (4, .box 4 0), (5, .one (.dv [] (.int .i64 (0)))), (6, .one (.dv [] (.bool (false)))), (7, .box 7 0), (8, .one (.dv [] (.int .i64 (a0j (a0y (o.2.1)) (d).2.2.1 0)))), (9, .box 9 0), (10, .one (.dv [] (.int .i64 ((opM ((d.2.2.1.getD (a0j (a0y o.2.1) d.2.2.1 0).toNat default)) (o)).2.1)))), (11, .one (.dv [] (.bool ((opM ((d.2.2.1.getD (a0j (a0y o.2.1) d.2.2.1 0).toNat default)) (o)).2.2))))], [(2, 27, [(.dv [] (.str (d.1))), (.dv [] (.int .i64 (d.2.1))), (.dv [] (a0k (d.2.2.1))), (.dv [] (a0r (d.2.2.2)))]), (3, 68, [(.dv [] (.int .i64 (o.1))), (.dv [] (.str (o.2.1))), (.dv [] (.int .i64 (o.2.2.1.1))), (.dv [] (.int .i64 (o.2.2.1.2.1))), (.dv [] (.str (o.2.2.1.2.2))), (.dv [] (a0L (o.2.2.2.1))), (.dv [] (.str (o.2.2.2.2)))]), (4, 27, [(.dv [] (.str (ByteArray.empty))), (.dv [] (.int .i64 (0))), .nil, .nil]), (7, 27, [(.dv [] (.str ((d).1))), (.dv [] (.int .i64 ((d).2.1))), (.key 90031), (.key 90900)]), (9, 60, [(.dv [] (.str ((opM ((d.2.2.1.getD (a0j (a0y o.2.1) d.2.2.1 0).toNat default)) (o)).1.1))), (.key 90501), (.dv [] (.int .i64 ((opM ((d.2.2.1.getD (a0j (a0y o.2.1) d.2.2.1 0).toNat default)) (o)).1.2.2)))])], [(90031, some (a0b false (a0k ((d).2.2.1)))), (90501, some (a0b false (a0x ((opM (d.2.2.1.getD (a0j (a0y o.2.1) d.2.2.1 0).toNat default) o).1.2.1)))), (90900, some (a0b false (a0r ((d).2.2.2))))]⟩) ?_ ?_
  ·refine a1L (oB := [2, 3, 4, 7]) (oK := [90031, 90900]) (by kernel_rfl) rfl rfl ?_
   refine zD 0 ?_
   refine zD 1 ?_
   refine zD 2 ?_
   refine zD 3 ?_
   refine zD 4 ?_
   refine zD 5 ?_
   refine a5K (A := [(11, 9, 60, _)]) hT ⟨⟨_, _, rfl⟩, rfl, trivial⟩ ?_
   refine a7N 81500 6 rfl (by kernel_rfl) rfl rfl rfl (vok hT ⟨⟨_, _, rfl⟩, rfl, trivial⟩ (by kernel_rfl) (by kernel_rfl)) (vok hT ⟨⟨_, _, rfl⟩, rfl, trivial⟩ (by kernel_rfl) (by kernel_rfl)) rfl Tryz.call61 (c2f (x := (d.2.2.1.getD (a0j (a0y o.2.1) d.2.2.1 0).toNat default)) (o := o) hsx hg.2.1) (a0g (a0a rfl) (a0t (a0d a0c (a0d a0c (a0d a0c a0s)))) (a0g (a0a rfl) (a0t (a0d a0c (a0d a0c (a0d a0c (a0d a0c (a0d a0c (a0d a0c (a0d a0c a0s)))))))) a0w)) rfl rfl rfl rfl rfl ?_
   refine a6k 7 rfl (by kernel_rfl) rfl rfl rfl (vok hT ⟨⟨_, _, rfl⟩, rfl, trivial⟩ (by kernel_rfl) (by kernel_rfl)) (vok hT ⟨⟨_, _, rfl⟩, rfl, trivial⟩ (by kernel_rfl) (by kernel_rfl)) (a0U (.inl rfl) (a0a rfl)) rfl rfl rfl rfl ?_
   refine a2G 8 rfl (by kernel_rfl) rfl rfl rfl rfl (vok hT ⟨⟨_, _, rfl⟩, rfl, trivial⟩ (by kernel_rfl) (by kernel_rfl)) (vok hT ⟨⟨_, _, rfl⟩, rfl, trivial⟩ (by kernel_rfl) (by kernel_rfl)) (a3q rfl (a0a rfl) rfl) rfl rfl ?_
   refine a2G 9 rfl (by kernel_rfl) rfl rfl rfl rfl (vok hT ⟨⟨_, _, rfl⟩, rfl, trivial⟩ (by kernel_rfl) (by kernel_rfl)) (vok hT ⟨⟨_, _, rfl⟩, rfl, trivial⟩ (by kernel_rfl) (by kernel_rfl)) (a2L rfl (a0a rfl) rfl) rfl rfl ?_
   refine a2G 10 rfl (by kernel_rfl) rfl rfl rfl rfl (vok hT ⟨⟨_, _, rfl⟩, rfl, trivial⟩ (by kernel_rfl) (by kernel_rfl)) (vok hT ⟨⟨_, _, rfl⟩, rfl, trivial⟩ (by kernel_rfl) (by kernel_rfl)) (a2L rfl (a0a rfl) rfl) rfl rfl ?_
   refine a5Z (vok hT ⟨⟨_, _, rfl⟩, rfl, trivial⟩ (by kernel_rfl) (by kernel_rfl)) rfl rfl (by kernel_rfl) ?_
   dsimp only [a2S, a2R]
   refine a2B [12, 13, 14] rfl rfl (by kernel_rfl) ?_
   iterate 3 refine z ?_
   refine a1z ?_
   exact a3C (a0e ⟨rfl, rfl, rfl, rfl, rfl, rfl, rfl, rfl, rfl, rfl, trivial⟩ ⟨rfl, rfl, rfl, rfl, rfl, trivial⟩ ⟨rfl, rfl, rfl, trivial⟩ rfl)
  iterate 5 refine z ?_
  refine yO rfl rfl (a4a (i := (a0j (a0y (o.2.1)) (d).2.2.1 0).toNat) hT rfl rfl rfl (a0a rfl) rfl (a0a rfl) (by omega) (by show _ < (((d).2.2.1)).length; omega)) rfl ?_
  refine a2Y (js := [90501]) (cs := (d.2.2.1.set (a0j (a0y o.2.1) d.2.2.1 0).toNat (opM (d.2.2.1.getD (a0j (a0y o.2.1) d.2.2.1 0).toNat default) o).1).flatMap a0T) hT rfl rfl rfl rfl (a0a rfl) (a0a rfl) rfl rfl rfl rfl (a0q (a0B rfl) (a0q (a2b rfl) (a0q (a0B rfl) a1t rfl) rfl) rfl) (by decide) (by decide) rfl (by show _ ≤ List.length (((d).2.2.1).flatMap a0T); show (a0j (a0y o.2.1) d.2.2.1 0).toNat * 3 + 3 ≤ _; rw [a3V (enc := a0T) (sz := 3) (fun _ => rfl)]; omega) (b3s (enc := a0T) (sz := 3) (fun _ => rfl) hkn (opM (d.2.2.1.getD (a0j (a0y o.2.1) d.2.2.1 0).toNat default) o).1) ?_
  simp only [a0l, a0i, SV.kill, CV.kill, kk, Nat.reduceBEq]
  refine z ?_
  refine a0p ?_
  refine a0p ?_
  refine a0h (a4s (k := 90031) (c' := a0b false (a0k (d.2.2.1.set (a0j (a0y o.2.1) d.2.2.1 0).toNat (opM (d.2.2.1.getD (a0j (a0y o.2.1) d.2.2.1 0).toNat default) o).1))) rfl (congrArg (fun m => KC.mk false 60 3 m ((d.2.2.1.set (a0j (a0y o.2.1) d.2.2.1 0).toNat (opM (d.2.2.1.getD (a0j (a0y o.2.1) d.2.2.1 0).toNat default) o).1).flatMap a0T)) (List.length_set).symm) rfl) ?_
  refine a0o ?_
  iterate 4 refine z ?_
  refine a1A (a1p rfl rfl rfl rfl rfl) rfl rfl Tryz.call33 (a5e (x := a1Y d (a0j (a0y o.2.1) d.2.2.1 0).toNat (opM (d.2.2.1.getD (a0j (a0y o.2.1) d.2.2.1 0).toNat default) o).1)) (fun hg => (a0g (a0z rfl hg) (a0t (a0d a0c (a0d a0c (a0d (a1d rfl rfl) (a0d (a1d rfl rfl) a0s))))) a0w)) rfl rfl ?_
  iterate 3 refine z ?_
  refine yQ rfl (fun c2 => ?_) fun c2 => ?_
  ·refine a0p ?_
   refine a0h (σ' := ⟨[(2, .box 2 0), (4, .box 4 0), (5, .one (.dv [] (.int .i64 (0)))), (6, .one (.dv [] (.bool (false))))], [(2, 27, [(.dv [] (.str (d.1))), (.dv [] (.int .i64 (d.2.1))), (.dv [] (a0k (d.2.2.1))), (.dv [] (a0r (d.2.2.2)))]), (4, 27, [(.dv [] (.str (ByteArray.empty))), (.dv [] (.int .i64 (0))), .nil, .nil])], []⟩) (a0e ⟨rfl, rfl, rfl, rfl, trivial⟩ ⟨rfl, rfl, trivial⟩ trivial rfl) ?_
   refine a0o ?_
   refine z ?_
   refine zK 90000 Tryz.call32 ?_ (hf := a5L (x := d) (by omega))
   iterate 4 refine z ?_
   rw [b1Y c1 (r := (opM (d.2.2.1.getD (a0j (a0y o.2.1) d.2.2.1 0).toNat default) o)) (.inl rfl) c2]
   refine a0h (σ' := ⟨[(4, .box 4 0), (5, .one (.dv [] (.int .i64 (0)))), (6, .one (.dv [] (.bool (false))))], [(4, 27, [(.dv [] (.str ((d).1))), (.dv [] (.int .i64 ((d).2.1))), (.key 90031), (.key 90900)])], [(90031, some (a0b false (a0k (d.2.2.1)))), (90900, some (a0b false (a0r (d.2.2.2))))]⟩) (a0e ⟨rfl, rfl, rfl, trivial⟩ ⟨rfl, trivial⟩ ⟨rfl, rfl, trivial⟩ rfl) ?_
   iterate 2 refine z ?_
   refine a1J (a0C hT rfl rfl rfl rfl) (a0v rfl) (a0v rfl) rfl rfl rfl ?_
   first | exact ⟨rfl, rfl⟩ | skip
  ·iterate 9 refine z ?_
   rw [b3J c1 (r := (opM (d.2.2.1.getD (a0j (a0y o.2.1) d.2.2.1 0).toNat default) o)) (.inl rfl) c2]
   refine a0h (σ' := ⟨[(4, .box 4 0), (5, .one (.dv [] (.int .i64 ((opM ((d.2.2.1.getD (a0j (a0y o.2.1) d.2.2.1 0).toNat default)) (o)).2.1)))), (6, .one (.dv [] (.bool (true))))], [(4, 27, [(.dv [] (.str ((d).1))), (.dv [] (.int .i64 ((d).2.1))), (.key 90031), (.key 90900)])], [(90031, some (a0b false (a0k (d.2.2.1.set (a0j (a0y o.2.1) d.2.2.1 0).toNat (opM (d.2.2.1.getD (a0j (a0y o.2.1) d.2.2.1 0).toNat default) o).1)))), (90900, some (a0b false (a0r (d.2.2.2))))]⟩) (a0e ⟨rfl, rfl, rfl, trivial⟩ ⟨rfl, trivial⟩ ⟨rfl, rfl, trivial⟩ rfl) ?_
   refine z ?_
   refine a1J (a0C hT rfl rfl rfl rfl) (a0v rfl) (a0v rfl) rfl rfl rfl ?_
   first | exact ⟨rfl, rfl⟩ | skip
theorem c5t {d : DbT} {o : OpT} (hb : a1B d ≤ 1099511627776) (hal : same (d.2.2.1.getD (a0j (a0y o.2.1) d.2.2.1 0).toNat default) o = true) : KFn Tryz.prog 26 [.agg [(.dv [] (.str (d.1))), (.dv [] (.int .i64 (d.2.1))), (.dv [] (a0k (d.2.2.1))), (.dv [] (a0r (d.2.2.2)))], .agg [(.dv [] (.int .i64 (o.1))), (.dv [] (.str (o.2.1))), (.dv [] (.int .i64 (o.2.2.1.1))), (.dv [] (.int .i64 (o.2.2.1.2.1))), (.dv [] (.str (o.2.2.1.2.2))), (.dv [] (a0L (o.2.2.2.1))), (.dv [] (.str (o.2.2.2.2)))]] (.tup [(true, [(.dv [] (.str ((a0E d o).1.1))), (.dv [] (.int .i64 ((a0E d o).1.2.1))), (.key 90031), (.key 90900)]), (false, [(.dv [] (.int .i64 ((a0E d o).2.1)))]), (false, [(.dv [] (.bool ((a0E d o).2.2)))])]) [(90031, some (a0b false (a0k ((a0E d o).1.2.2.1)))), (90900, some (a0b false (a0r ((a0E d o).1.2.2.2))))] := by
 refine ⟨a0R Tryz.func26 rfl Tryz.ntmps26 Tryz.results26 rfl (fun C => ?_)⟩
 refine yF 0 0 rfl rfl fun f0_0 => ?_
 refine yF 0 1 rfl rfl fun f0_1 => ?_
 refine yF 0 2 rfl rfl fun f0_2 => ?_
 refine yF 0 3 rfl rfl fun f0_3 => ?_
 refine yF 1 0 rfl rfl fun f1_0 => ?_
 refine yF 1 1 rfl rfl fun f1_1 => ?_
 refine yF 1 2 rfl rfl fun f1_2 => ?_
 refine yF 1 3 rfl rfl fun f1_3 => ?_
 refine yF 1 4 rfl rfl fun f1_4 => ?_
 refine yF 1 5 rfl rfl fun f1_5 => ?_
 refine yF 1 6 rfl rfl fun f1_6 => ?_
 iterate 9 refine z ?_
 refine zK 90000 Tryz.call24 ?_ (hf := a5S (x := d) (by omega))
 iterate 7 refine z ?_
 refine zC Tryz.call21 ?_ (hf := a8F (x := d) (n := o.2.1) )
 iterate 5 refine z ?_
 refine zC Tryz.call30 ?_ (hf := a8q (x := d) )
 iterate 3 refine z ?_
 refine a1A (a1p rfl rfl rfl rfl rfl) rfl rfl Tryz.call46 (b8e (x := o) ) (fun hg => (a0g (a0z rfl hg) (a0t (a0d a0c (a0d a0c (a0d a0c (a0d a0c (a0d a0c (a0d a0c (a0d a0c a0s)))))))) a0w)) rfl rfl ?_
 iterate 7 refine z ?_
 refine yQ rfl (fun c1 => ?_) fun c1 => ?_
 ·iterate 6 refine z ?_
  rw [b2I c1]
  refine a0h (σ' := ⟨[(4, .box 4 0), (5, .one (.dv [] (.int .i64 (0)))), (6, .one (.dv [] (.bool (false))))], [(4, 27, [(.dv [] (.str ((d).1))), (.dv [] (.int .i64 ((d).2.1))), (.key 90031), (.key 90900)])], [(90031, some (a0b false (a0k (d.2.2.1)))), (90900, some (a0b false (a0r (d.2.2.2))))]⟩) (a0e ⟨rfl, rfl, rfl, trivial⟩ ⟨rfl, trivial⟩ ⟨rfl, rfl, trivial⟩ rfl) ?_
  iterate 2 refine z ?_
  refine a1J (a0C hT rfl rfl rfl rfl) (a0v rfl) (a0v rfl) rfl rfl rfl ?_
  first | exact ⟨rfl, rfl⟩ | skip
 ·have hg := a8B c1
  have hlt : a0j (a0y o.2.1) d.2.2.1 0 < d.2.2.1.length := a5x d o.2.1
  have h0k : 0 ≤ a0j (a0y o.2.1) d.2.2.1 0 := hg.2.2
  have hsx := a5F (a8J hg.1) h0k hlt
  have hkn : (a0j (a0y o.2.1) d.2.2.1 0).toNat < d.2.2.1.length := by omega
  have hps := b5m hkn
  have hs1 := c5e hal
  iterate 2 refine z ?_
  refine a7h (σ' := ⟨[(2, .box 2 0), (3, .box 3 0), (4, .box 4 0), (5, .one (.dv [] (.int .i64 (0)))), (6, .one (.dv [] (.bool (false)))), (7, .box 7 0), (8, .one (.dv [] (.int .i64 (a0j (a0y (o.2.1)) (d).2.2.1 0)))), (9, .box 9 0), (10, .one (.dv [] (.int .i64 ((opI ((d.2.2.1.getD (a0j (a0y o.2.1) d.2.2.1 0).toNat default)) (o)).2.1)))), (11, .one (.dv [] (.bool ((opI ((d.2.2.1.getD (a0j (a0y o.2.1) d.2.2.1 0).toNat default)) (o)).2.2))))], [(2, 27, [(.dv [] (.str (d.1))), (.dv [] (.int .i64 (d.2.1))), (.dv [] (a0k (d.2.2.1))), (.dv [] (a0r (d.2.2.2)))]), (3, 68, [(.dv [] (.int .i64 (o.1))), (.dv [] (.str (o.2.1))), (.dv [] (.int .i64 (o.2.2.1.1))), (.dv [] (.int .i64 (o.2.2.1.2.1))), (.dv [] (.str (o.2.2.1.2.2))), (.dv [] (a0L (o.2.2.2.1))), (.dv [] (.str (o.2.2.2.2)))]), (4, 27, [(.dv [] (.str (ByteArray.empty))), (.dv [] (.int .i64 (0))), .nil, .nil]), (7, 27, [(.dv [] (.str ((d).1))), (.dv [] (.int .i64 ((d).2.1))), (.key 90031), (.key 90900)]), (9, 60, [(.dv [] (.str (((d.2.2.1.getD (a0j (a0y o.2.1) d.2.2.1 0).toNat default)).1))), (.nest 90031 (((a0j (a0y (o.2.1)) (d).2.2.1 0).toNat * 3 + 1)) (a0x ((d.2.2.1.getD (a0j (a0y o.2.1) d.2.2.1 0).toNat default).2.1))), (.dv [] (.int .i64 (((d.2.2.1.getD (a0j (a0y o.2.1) d.2.2.1 0).toNat default)).2.2)))])], [(90031, some (a0b false (a0k ((d).2.2.1)))), (90900, some (a0b false (a0r ((d).2.2.2))))]⟩) ?_ ?_
  ·refine a1L (oB := [2, 3, 4, 7]) (oK := [90031, 90900]) (by kernel_rfl) rfl rfl ?_
   refine zD 0 ?_
   refine zD 1 ?_
   refine zD 2 ?_
   refine a1k 3 rfl (by kernel_rfl) rfl rfl (a4a (i := (a0j (a0y (o.2.1)) (d).2.2.1 0).toNat) hT rfl rfl rfl (a0a rfl) rfl (a0a rfl) (by omega) (by show _ < (((d).2.2.1)).length; omega)) rfl rfl rfl rfl ?_
   refine a1k 4 rfl (by kernel_rfl) rfl rfl (b3k (ds := [.str ((d.2.2.1.getD (a0j (a0y o.2.1) d.2.2.1 0).toNat default).1), a0x ((d.2.2.1.getD (a0j (a0y o.2.1) d.2.2.1 0).toNat default).2.1), .int .i64 ((d.2.2.1.getD (a0j (a0y o.2.1) d.2.2.1 0).toNat default).2.2)]) hT rfl rfl (a0a rfl) rfl rfl (by decide) (b2F (enc := a0T) (sz := 3) (fun _ => rfl) hkn)) rfl rfl rfl rfl ?_
   refine zD 5 ?_
   refine a5K (A := [(11, 9, 60, _)]) hT ⟨⟨_, _, rfl⟩, rfl, trivial⟩ ?_
   refine c1s 6 rfl (by kernel_rfl) rfl rfl rfl (vok hT ⟨⟨_, _, rfl⟩, rfl, trivial⟩ (by kernel_rfl) (by kernel_rfl)) (vok hT ⟨⟨_, _, rfl⟩, rfl, trivial⟩ (by kernel_rfl) (by kernel_rfl)) rfl rfl Tryz.call47 (c0Z (x := (d.2.2.1.getD (a0j (a0y o.2.1) d.2.2.1 0).toNat default)) (o := o) hsx hg.2.1 hal) (a0a rfl) a0c a8L a0c (a0g (a0a rfl) (a0t (a0d a0c (a0d a0c (a0d a0c (a0d a0c (a0d a0c (a0d a0c (a0d a0c a0s)))))))) a0w) rfl rfl rfl rfl rfl rfl rfl ?_
   refine a6k 7 rfl (by kernel_rfl) rfl rfl rfl (vok hT ⟨⟨_, _, rfl⟩, rfl, trivial⟩ (by kernel_rfl) (by kernel_rfl)) (vok hT ⟨⟨_, _, rfl⟩, rfl, trivial⟩ (by kernel_rfl) (by kernel_rfl)) (a0U (.inl rfl) (a0a rfl)) rfl rfl rfl rfl ?_
   refine a2G 8 rfl (by kernel_rfl) rfl rfl rfl rfl (vok hT ⟨⟨_, _, rfl⟩, rfl, trivial⟩ (by kernel_rfl) (by kernel_rfl)) (vok hT ⟨⟨_, _, rfl⟩, rfl, trivial⟩ (by kernel_rfl) (by kernel_rfl)) (a3q rfl (a0a rfl) rfl) rfl rfl ?_
   refine a2G 9 rfl (by kernel_rfl) rfl rfl rfl rfl (vok hT ⟨⟨_, _, rfl⟩, rfl, trivial⟩ (by kernel_rfl) (by kernel_rfl)) (vok hT ⟨⟨_, _, rfl⟩, rfl, trivial⟩ (by kernel_rfl) (by kernel_rfl)) (a2L rfl (a0a rfl) rfl) rfl rfl ?_
   refine a2G 10 rfl (by kernel_rfl) rfl rfl rfl rfl (vok hT ⟨⟨_, _, rfl⟩, rfl, trivial⟩ (by kernel_rfl) (by kernel_rfl)) (vok hT ⟨⟨_, _, rfl⟩, rfl, trivial⟩ (by kernel_rfl) (by kernel_rfl)) (a2L rfl (a0a rfl) rfl) rfl rfl ?_
   refine a5Z (vok hT ⟨⟨_, _, rfl⟩, rfl, trivial⟩ (by kernel_rfl) (by kernel_rfl)) rfl rfl (by kernel_rfl) ?_
   dsimp only [a2S, a2R]
   refine a2B [12, 13, 14] rfl rfl (by kernel_rfl) ?_
   iterate 3 refine z ?_
   refine a1z ?_
   exact a3C (a0e ⟨rfl, rfl, rfl, rfl, rfl, rfl, rfl, rfl, rfl, rfl, trivial⟩ ⟨rfl, rfl, rfl, rfl, rfl, trivial⟩ ⟨rfl, rfl, trivial⟩ rfl)
  iterate 5 refine z ?_
  refine yO rfl rfl (a4a (i := (a0j (a0y (o.2.1)) (d).2.2.1 0).toNat) hT rfl rfl rfl (a0a rfl) rfl (a0a rfl) (by omega) (by show _ < (((d).2.2.1)).length; omega)) rfl ?_
  refine b9B (ds := [.str ((d.2.2.1.getD (a0j (a0y o.2.1) d.2.2.1 0).toNat default).1), a0x ((d.2.2.1.getD (a0j (a0y o.2.1) d.2.2.1 0).toNat default).2.1), .int .i64 ((d.2.2.1.getD (a0j (a0y o.2.1) d.2.2.1 0).toNat default).2.2)]) hT rfl rfl rfl rfl (a0a rfl) (a0a rfl) rfl rfl (b2F (enc := a0T) (sz := 3) (fun _ => rfl) hkn) (b3T (enc := a0T) (sz := 3) (fun _ => rfl) hkn) ?_
  simp only [a0l, a0i, SV.kill, CV.kill, kk, Nat.reduceBEq]
  iterate 7 refine z ?_
  refine a1A (a1p rfl rfl rfl rfl rfl) rfl rfl Tryz.call30 (a8q (x := d)) (fun hg => (a0g (a0z rfl hg) (a0t (a0d a0c (a0d a0c (a0d (a1d rfl rfl) (a0d (a1d rfl rfl) a0s))))) a0w)) rfl rfl ?_
  iterate 3 refine z ?_
  refine yQ rfl (fun c2 => ?_) fun c2 => ?_
  ·refine a0p ?_
   refine a0h (σ' := ⟨[(2, .box 2 0), (4, .box 4 0), (5, .one (.dv [] (.int .i64 (0)))), (6, .one (.dv [] (.bool (false))))], [(2, 27, [(.dv [] (.str (d.1))), (.dv [] (.int .i64 (d.2.1))), (.dv [] (a0k (d.2.2.1))), (.dv [] (a0r (d.2.2.2)))]), (4, 27, [(.dv [] (.str (ByteArray.empty))), (.dv [] (.int .i64 (0))), .nil, .nil])], []⟩) (a0e ⟨rfl, rfl, rfl, rfl, trivial⟩ ⟨rfl, rfl, trivial⟩ trivial rfl) ?_
   refine a0o ?_
   refine z ?_
   refine zK 90000 Tryz.call24 ?_ (hf := a5S (x := d) (by omega))
   iterate 4 refine z ?_
   rw [b1Y c1 (b0m (d.2.2.1.getD (a0j (a0y o.2.1) d.2.2.1 0).toNat default) o) (by rw [hs1]; show (_ || !a0F (a1Y d (a0j (a0y o.2.1) d.2.2.1 0).toNat (d.2.2.1.getD (a0j (a0y o.2.1) d.2.2.1 0).toNat default))) = true; rw [hps]; exact c2)]
   refine a0h (σ' := ⟨[(4, .box 4 0), (5, .one (.dv [] (.int .i64 (0)))), (6, .one (.dv [] (.bool (false))))], [(4, 27, [(.dv [] (.str ((d).1))), (.dv [] (.int .i64 ((d).2.1))), (.key 90031), (.key 90900)])], [(90031, some (a0b false (a0k (d.2.2.1)))), (90900, some (a0b false (a0r (d.2.2.2))))]⟩) (a0e ⟨rfl, rfl, rfl, trivial⟩ ⟨rfl, trivial⟩ ⟨rfl, rfl, trivial⟩ rfl) ?_
   iterate 2 refine z ?_
   refine a1J (a0C hT rfl rfl rfl rfl) (a0v rfl) (a0v rfl) rfl rfl rfl ?_
   first | exact ⟨rfl, rfl⟩ | skip
  ·iterate 9 refine z ?_
   have hfin : a0E d o = (d, (opI (d.2.2.1.getD (a0j (a0y o.2.1) d.2.2.1 0).toNat default) o).2.1, true) := by rw [b3J c1 (b0m (d.2.2.1.getD (a0j (a0y o.2.1) d.2.2.1 0).toNat default) o) (by rw [hs1]; show (_ || !a0F (a1Y d (a0j (a0y o.2.1) d.2.2.1 0).toNat (d.2.2.1.getD (a0j (a0y o.2.1) d.2.2.1 0).toNat default))) = false; rw [hps]; exact c2), hs1]; show (a1Y d (a0j (a0y o.2.1) d.2.2.1 0).toNat (d.2.2.1.getD (a0j (a0y o.2.1) d.2.2.1 0).toNat default), _, _) = _; rw [hps]
   rw [hfin]
   refine a0h (σ' := ⟨[(4, .box 4 0), (5, .one (.dv [] (.int .i64 ((opI ((d.2.2.1.getD (a0j (a0y o.2.1) d.2.2.1 0).toNat default)) (o)).2.1)))), (6, .one (.dv [] (.bool (true))))], [(4, 27, [(.dv [] (.str ((d).1))), (.dv [] (.int .i64 ((d).2.1))), (.key 90031), (.key 90900)])], [(90031, some (a0b false (a0k (d.2.2.1)))), (90900, some (a0b false (a0r (d.2.2.2))))]⟩) (a0e ⟨rfl, rfl, rfl, trivial⟩ ⟨rfl, trivial⟩ ⟨rfl, rfl, trivial⟩ rfl) ?_
   refine z ?_
   refine a1J (a0C hT rfl rfl rfl rfl) (a0v rfl) (a0v rfl) rfl rfl rfl ?_
   first | exact ⟨rfl, rfl⟩ | skip
end Go.Proofs.YtjkpoekgnmgofaaGreat

namespace Go.Proofs.YtjkpoekgnmgofaaGreat
open Go.RowKit
open Go.Proofs
set_option linter.unusedVariables false
set_option linter.unusedSimpArgs false
theorem c4B {d : DbT} {o : OpT} (hb : a1B d ≤ 1099511627776) (hal : same (d.2.2.1.getD (a0j (a0y o.2.1) d.2.2.1 0).toNat default) o = false) : KFn Tryz.prog 26 [.agg [(.dv [] (.str (d.1))), (.dv [] (.int .i64 (d.2.1))), (.dv [] (a0k (d.2.2.1))), (.dv [] (a0r (d.2.2.2)))], .agg [(.dv [] (.int .i64 (o.1))), (.dv [] (.str (o.2.1))), (.dv [] (.int .i64 (o.2.2.1.1))), (.dv [] (.int .i64 (o.2.2.1.2.1))), (.dv [] (.str (o.2.2.1.2.2))), (.dv [] (a0L (o.2.2.2.1))), (.dv [] (.str (o.2.2.2.2)))]] (.tup [(true, [(.dv [] (.str ((a0E d o).1.1))), (.dv [] (.int .i64 ((a0E d o).1.2.1))), (.key 90031), (.key 90900)]), (false, [(.dv [] (.int .i64 ((a0E d o).2.1)))]), (false, [(.dv [] (.bool ((a0E d o).2.2)))])]) [(90031, some (a0b false (a0k ((a0E d o).1.2.2.1)))), (90900, some (a0b false (a0r ((a0E d o).1.2.2.2))))] := by
 refine ⟨a0R Tryz.func26 rfl Tryz.ntmps26 Tryz.results26 rfl (fun C => ?_)⟩
 refine yF 0 0 rfl rfl fun f0_0 => ?_
 refine yF 0 1 rfl rfl fun f0_1 => ?_
 refine yF 0 2 rfl rfl fun f0_2 => ?_
 refine yF 0 3 rfl rfl fun f0_3 => ?_
 refine yF 1 0 rfl rfl fun f1_0 => ?_
 refine yF 1 1 rfl rfl fun f1_1 => ?_
 refine yF 1 2 rfl rfl fun f1_2 => ?_
 refine yF 1 3 rfl rfl fun f1_3 => ?_
 refine yF 1 4 rfl rfl fun f1_4 => ?_
 refine yF 1 5 rfl rfl fun f1_5 => ?_
 refine yF 1 6 rfl rfl fun f1_6 => ?_
 iterate 9 refine z ?_
 refine zK 90000 Tryz.call24 ?_ (hf := a5S (x := d) (by omega))
 iterate 7 refine z ?_
 refine zC Tryz.call21 ?_ (hf := a8F (x := d) (n := o.2.1) )
 iterate 5 refine z ?_
 refine zC Tryz.call30 ?_ (hf := a8q (x := d) )
 iterate 3 refine z ?_
 refine a1A (a1p rfl rfl rfl rfl rfl) rfl rfl Tryz.call46 (b8e (x := o) ) (fun hg => (a0g (a0z rfl hg) (a0t (a0d a0c (a0d a0c (a0d a0c (a0d a0c (a0d a0c (a0d a0c (a0d a0c a0s)))))))) a0w)) rfl rfl ?_
 iterate 7 refine z ?_
 refine yQ rfl (fun c1 => ?_) fun c1 => ?_
 ·iterate 6 refine z ?_
  rw [b2I c1]
  refine a0h (σ' := ⟨[(4, .box 4 0), (5, .one (.dv [] (.int .i64 (0)))), (6, .one (.dv [] (.bool (false))))], [(4, 27, [(.dv [] (.str ((d).1))), (.dv [] (.int .i64 ((d).2.1))), (.key 90031), (.key 90900)])], [(90031, some (a0b false (a0k (d.2.2.1)))), (90900, some (a0b false (a0r (d.2.2.2))))]⟩) (a0e ⟨rfl, rfl, rfl, trivial⟩ ⟨rfl, trivial⟩ ⟨rfl, rfl, trivial⟩ rfl) ?_
  iterate 2 refine z ?_
  refine a1J (a0C hT rfl rfl rfl rfl) (a0v rfl) (a0v rfl) rfl rfl rfl ?_
  first | exact ⟨rfl, rfl⟩ | skip
 ·have hg := a8B c1
  have hlt : a0j (a0y o.2.1) d.2.2.1 0 < d.2.2.1.length := a5x d o.2.1
  have h0k : 0 ≤ a0j (a0y o.2.1) d.2.2.1 0 := hg.2.2
  have hsx := a5F (a8J hg.1) h0k hlt
  have hkn : (a0j (a0y o.2.1) d.2.2.1 0).toNat < d.2.2.1.length := by omega
  iterate 2 refine z ?_
  refine a7h (σ' := ⟨[(2, .box 2 0), (3, .box 3 0), (4, .box 4 0), (5, .one (.dv [] (.int .i64 (0)))), (6, .one (.dv [] (.bool (false)))), (7, .box 7 0), (8, .one (.dv [] (.int .i64 (a0j (a0y (o.2.1)) (d).2.2.1 0)))), (9, .box 9 0), (10, .one (.dv [] (.int .i64 ((opI ((d.2.2.1.getD (a0j (a0y o.2.1) d.2.2.1 0).toNat default)) (o)).2.1)))), (11, .one (.dv [] (.bool ((opI ((d.2.2.1.getD (a0j (a0y o.2.1) d.2.2.1 0).toNat default)) (o)).2.2))))], [(2, 27, [(.dv [] (.str (d.1))), (.dv [] (.int .i64 (d.2.1))), (.dv [] (a0k (d.2.2.1))), (.dv [] (a0r (d.2.2.2)))]), (3, 68, [(.dv [] (.int .i64 (o.1))), (.dv [] (.str (o.2.1))), (.dv [] (.int .i64 (o.2.2.1.1))), (.dv [] (.int .i64 (o.2.2.1.2.1))), (.dv [] (.str (o.2.2.1.2.2))), (.dv [] (a0L (o.2.2.2.1))), (.dv [] (.str (o.2.2.2.2)))]), (4, 27, [(.dv [] (.str (ByteArray.empty))), (.dv [] (.int .i64 (0))), .nil, .nil]), (7, 27, [(.dv [] (.str ((d).1))), (.dv [] (.int .i64 ((d).2.1))), (.key 90031), (.key 90900)]), (9, 60, [(.dv [] (.str ((opI ((d.2.2.1.getD (a0j (a0y o.2.1) d.2.2.1 0).toNat default)) (o)).1.1))), (.key 90501), (.dv [] (.int .i64 ((opI ((d.2.2.1.getD (a0j (a0y o.2.1) d.2.2.1 0).toNat default)) (o)).1.2.2)))])], [(90031, some (a0b false (a0k ((d).2.2.1)))), (90501, some (a0b false (a0x ((opI (d.2.2.1.getD (a0j (a0y o.2.1) d.2.2.1 0).toNat default) o).1.2.1)))), (90900, some (a0b false (a0r ((d).2.2.2))))]⟩) ?_ ?_
  ·refine a1L (oB := [2, 3, 4, 7]) (oK := [90031, 90900]) (by kernel_rfl) rfl rfl ?_
   refine zD 0 ?_
   refine zD 1 ?_
   refine zD 2 ?_
   refine a1k 3 rfl (by kernel_rfl) rfl rfl (a4a (i := (a0j (a0y (o.2.1)) (d).2.2.1 0).toNat) hT rfl rfl rfl (a0a rfl) rfl (a0a rfl) (by omega) (by show _ < (((d).2.2.1)).length; omega)) rfl rfl rfl rfl ?_
   refine a1k 4 rfl (by kernel_rfl) rfl rfl (b3k (ds := [.str ((d.2.2.1.getD (a0j (a0y o.2.1) d.2.2.1 0).toNat default).1), a0x ((d.2.2.1.getD (a0j (a0y o.2.1) d.2.2.1 0).toNat default).2.1), .int .i64 ((d.2.2.1.getD (a0j (a0y o.2.1) d.2.2.1 0).toNat default).2.2)]) hT rfl rfl (a0a rfl) rfl rfl (by decide) (b2F (enc := a0T) (sz := 3) (fun _ => rfl) hkn)) rfl rfl rfl rfl ?_
   refine zD 5 ?_
   refine a5K (A := [(11, 9, 60, _)]) hT ⟨⟨_, _, rfl⟩, rfl, trivial⟩ ?_
   refine a7N 81500 6 rfl (by kernel_rfl) rfl rfl rfl (vok hT ⟨⟨_, _, rfl⟩, rfl, trivial⟩ (by kernel_rfl) (by kernel_rfl)) (vok hT ⟨⟨_, _, rfl⟩, rfl, trivial⟩ (by kernel_rfl) (by kernel_rfl)) rfl Tryz.call47 (c3Q (x := (d.2.2.1.getD (a0j (a0y o.2.1) d.2.2.1 0).toNat default)) (o := o) hsx hg.2.1 hal) (a0g (a0a rfl) (a0t (a0d a0c (a0d a8L (a0d a0c a0s)))) (a0g (a0a rfl) (a0t (a0d a0c (a0d a0c (a0d a0c (a0d a0c (a0d a0c (a0d a0c (a0d a0c a0s)))))))) a0w)) rfl rfl rfl rfl rfl ?_
   refine a6k 7 rfl (by kernel_rfl) rfl rfl rfl (vok hT ⟨⟨_, _, rfl⟩, rfl, trivial⟩ (by kernel_rfl) (by kernel_rfl)) (vok hT ⟨⟨_, _, rfl⟩, rfl, trivial⟩ (by kernel_rfl) (by kernel_rfl)) (a0U (.inl rfl) (a0a rfl)) rfl rfl rfl rfl ?_
   refine a2G 8 rfl (by kernel_rfl) rfl rfl rfl rfl (vok hT ⟨⟨_, _, rfl⟩, rfl, trivial⟩ (by kernel_rfl) (by kernel_rfl)) (vok hT ⟨⟨_, _, rfl⟩, rfl, trivial⟩ (by kernel_rfl) (by kernel_rfl)) (a3q rfl (a0a rfl) rfl) rfl rfl ?_
   refine a2G 9 rfl (by kernel_rfl) rfl rfl rfl rfl (vok hT ⟨⟨_, _, rfl⟩, rfl, trivial⟩ (by kernel_rfl) (by kernel_rfl)) (vok hT ⟨⟨_, _, rfl⟩, rfl, trivial⟩ (by kernel_rfl) (by kernel_rfl)) (a2L rfl (a0a rfl) rfl) rfl rfl ?_
   refine a2G 10 rfl (by kernel_rfl) rfl rfl rfl rfl (vok hT ⟨⟨_, _, rfl⟩, rfl, trivial⟩ (by kernel_rfl) (by kernel_rfl)) (vok hT ⟨⟨_, _, rfl⟩, rfl, trivial⟩ (by kernel_rfl) (by kernel_rfl)) (a2L rfl (a0a rfl) rfl) rfl rfl ?_
   refine a5Z (vok hT ⟨⟨_, _, rfl⟩, rfl, trivial⟩ (by kernel_rfl) (by kernel_rfl)) rfl rfl (by kernel_rfl) ?_
   dsimp only [a2S, a2R]
   refine a2B [12, 13, 14] rfl rfl (by kernel_rfl) ?_
   iterate 3 refine z ?_
   refine a1z ?_
   exact a3C (a0e ⟨rfl, rfl, rfl, rfl, rfl, rfl, rfl, rfl, rfl, rfl, trivial⟩ ⟨rfl, rfl, rfl, rfl, rfl, trivial⟩ ⟨rfl, rfl, rfl, trivial⟩ rfl)
  iterate 5 refine z ?_
  refine yO rfl rfl (a4a (i := (a0j (a0y (o.2.1)) (d).2.2.1 0).toNat) hT rfl rfl rfl (a0a rfl) rfl (a0a rfl) (by omega) (by show _ < (((d).2.2.1)).length; omega)) rfl ?_
  refine a2Y (js := [90501]) (cs := (d.2.2.1.set (a0j (a0y o.2.1) d.2.2.1 0).toNat (opI (d.2.2.1.getD (a0j (a0y o.2.1) d.2.2.1 0).toNat default) o).1).flatMap a0T) hT rfl rfl rfl rfl (a0a rfl) (a0a rfl) rfl rfl rfl rfl (a0q (a0B rfl) (a0q (a2b rfl) (a0q (a0B rfl) a1t rfl) rfl) rfl) (by decide) (by decide) rfl (by show _ ≤ List.length (((d).2.2.1).flatMap a0T); exact b3T (enc := a0T) (sz := 3) (fun _ => rfl) hkn) (b3s (enc := a0T) (sz := 3) (fun _ => rfl) hkn (opI (d.2.2.1.getD (a0j (a0y o.2.1) d.2.2.1 0).toNat default) o).1) ?_
  simp only [a0l, a0i, SV.kill, CV.kill, kk, Nat.reduceBEq]
  refine z ?_
  refine a0p ?_
  refine a0p ?_
  refine a0h (a4s (k := 90031) (c' := a0b false (a0k (d.2.2.1.set (a0j (a0y o.2.1) d.2.2.1 0).toNat (opI (d.2.2.1.getD (a0j (a0y o.2.1) d.2.2.1 0).toNat default) o).1))) rfl (congrArg (fun m => KC.mk false 60 3 m ((d.2.2.1.set (a0j (a0y o.2.1) d.2.2.1 0).toNat (opI (d.2.2.1.getD (a0j (a0y o.2.1) d.2.2.1 0).toNat default) o).1).flatMap a0T)) (List.length_set).symm) rfl) ?_
  refine a0o ?_
  iterate 4 refine z ?_
  refine a1A (a1p rfl rfl rfl rfl rfl) rfl rfl Tryz.call30 (a8q (x := a1Y d (a0j (a0y o.2.1) d.2.2.1 0).toNat (opI (d.2.2.1.getD (a0j (a0y o.2.1) d.2.2.1 0).toNat default) o).1)) (fun hg => (a0g (a0z rfl hg) (a0t (a0d a0c (a0d a0c (a0d (a1d rfl rfl) (a0d (a1d rfl rfl) a0s))))) a0w)) rfl rfl ?_
  iterate 3 refine z ?_
  refine yQ rfl (fun c2 => ?_) fun c2 => ?_
  ·refine a0p ?_
   refine a0h (σ' := ⟨[(2, .box 2 0), (4, .box 4 0), (5, .one (.dv [] (.int .i64 (0)))), (6, .one (.dv [] (.bool (false))))], [(2, 27, [(.dv [] (.str (d.1))), (.dv [] (.int .i64 (d.2.1))), (.dv [] (a0k (d.2.2.1))), (.dv [] (a0r (d.2.2.2)))]), (4, 27, [(.dv [] (.str (ByteArray.empty))), (.dv [] (.int .i64 (0))), .nil, .nil])], []⟩) (a0e ⟨rfl, rfl, rfl, rfl, trivial⟩ ⟨rfl, rfl, trivial⟩ trivial rfl) ?_
   refine a0o ?_
   refine z ?_
   refine zK 90000 Tryz.call24 ?_ (hf := a5S (x := d) (by omega))
   iterate 4 refine z ?_
   rw [b1Y c1 (b0m (d.2.2.1.getD (a0j (a0y o.2.1) d.2.2.1 0).toNat default) o) c2]
   refine a0h (σ' := ⟨[(4, .box 4 0), (5, .one (.dv [] (.int .i64 (0)))), (6, .one (.dv [] (.bool (false))))], [(4, 27, [(.dv [] (.str ((d).1))), (.dv [] (.int .i64 ((d).2.1))), (.key 90031), (.key 90900)])], [(90031, some (a0b false (a0k (d.2.2.1)))), (90900, some (a0b false (a0r (d.2.2.2))))]⟩) (a0e ⟨rfl, rfl, rfl, trivial⟩ ⟨rfl, trivial⟩ ⟨rfl, rfl, trivial⟩ rfl) ?_
   iterate 2 refine z ?_
   refine a1J (a0C hT rfl rfl rfl rfl) (a0v rfl) (a0v rfl) rfl rfl rfl ?_
   first | exact ⟨rfl, rfl⟩ | skip
  ·iterate 9 refine z ?_
   rw [b3J c1 (b0m (d.2.2.1.getD (a0j (a0y o.2.1) d.2.2.1 0).toNat default) o) c2]
   refine a0h (σ' := ⟨[(4, .box 4 0), (5, .one (.dv [] (.int .i64 ((opI ((d.2.2.1.getD (a0j (a0y o.2.1) d.2.2.1 0).toNat default)) (o)).2.1)))), (6, .one (.dv [] (.bool (true))))], [(4, 27, [(.dv [] (.str ((d).1))), (.dv [] (.int .i64 ((d).2.1))), (.key 90031), (.key 90900)])], [(90031, some (a0b false (a0k (d.2.2.1.set (a0j (a0y o.2.1) d.2.2.1 0).toNat (opI (d.2.2.1.getD (a0j (a0y o.2.1) d.2.2.1 0).toNat default) o).1)))), (90900, some (a0b false (a0r (d.2.2.2))))]⟩) (a0e ⟨rfl, rfl, rfl, trivial⟩ ⟨rfl, trivial⟩ ⟨rfl, rfl, trivial⟩ rfl) ?_
   refine z ?_
   refine a1J (a0C hT rfl rfl rfl rfl) (a0v rfl) (a0v rfl) rfl rfl rfl ?_
   first | exact ⟨rfl, rfl⟩ | skip

theorem b6e {d : DbT} {o : OpT} (hb : a1B d ≤ 1099511627776) : KFn Tryz.prog 26 [.agg [(.dv [] (.str (d.1))), (.dv [] (.int .i64 (d.2.1))), (.dv [] (a0k (d.2.2.1))), (.dv [] (a0r (d.2.2.2)))], .agg [(.dv [] (.int .i64 (o.1))), (.dv [] (.str (o.2.1))), (.dv [] (.int .i64 (o.2.2.1.1))), (.dv [] (.int .i64 (o.2.2.1.2.1))), (.dv [] (.str (o.2.2.1.2.2))), (.dv [] (a0L (o.2.2.2.1))), (.dv [] (.str (o.2.2.2.2)))]] (.tup [(true, [.dv [] (.str ((a0E d o).1.1)), .dv [] (.int .i64 ((a0E d o).1.2.1)), .key 90031, .key 90900]), (false, [.dv [] (.int .i64 ((a0E d o).2.1))]), (false, [.dv [] (.bool ((a0E d o).2.2))])]) [(90031, some (a0b false (a0k ((a0E d o).1.2.2.1)))), (90900, some (a0b false (a0r ((a0E d o).1.2.2.2))))] := by
 by_cases h : same (d.2.2.1.getD (a0j (a0y o.2.1) d.2.2.1 0).toNat default) o = true
 ·exact c5t hb h
 ·exact c4B hb (by simpa using h)


theorem b6R {α : Type} [Inhabited α] {w : α → Nat} {y : α} : ∀ (l : List α) (i : Nat), a0D w (l.set i y) ≤ a0D w l + w y
 | [], i => by simp [a0D]
 | x :: l, 0 => by simp [a0D]; omega
 | x :: l, i + 1 => by have := b6R (w := w) (y := y) l i; simp [a0D] at this ⊢; omega
theorem b6U (d : DbT) (o : OpT) : a1B (a0E d o).1 ≤ a1B d + 1000000 := by
 unfold a0E
 split
 ·show a1B d ≤ _; omega
 ·rename_i h1
  split
  ·show a1B d ≤ _; omega
  ·rename_i h2
   have h1 : ((!a0F d || !a1X o) || decide (a0J d o.2.1 < 0)) = false := by simpa using h1
   have hg := a8B h1
   have hlt := a5x d o.2.1
   have h2 : (!(opM (a2o d o) o).2.2 || !a0F (a1Y d (a0J d o.2.1).toNat (opM (a2o d o) o).1)) = false := by simpa using h2
   have hd : a0F (a1Y d (a0J d o.2.1).toNat (opM (a2o d o) o).1) = true := by
    simp only [Bool.or_eq_false_iff, Bool.not_eq_false'] at h2
    exact h2.2
   have hs := a5F (i := a0J d o.2.1) (a8J hd) hg.2.2 (by show _ < (((d.2.2.1.set _ _).length : Nat) : Int); rw [List.length_set]; exact hlt)
   have e : (a1Y d (a0J d o.2.1).toNat (opM (a2o d o) o).1).2.2.1.getD (a0J d o.2.1).toNat default = (opM (a2o d o) o).1 := by
    have hl : (a0J d o.2.1).toNat < d.2.2.1.length := by omega
    simp [a1Y, List.getD, hl]
   rw [e] at hs
   have hw := a6T hs
   have h3 := b6R (w := a0X) (y := (opM (a2o d o) o).1) d.2.2.1 (a0J d o.2.1).toNat
   have h4 : a1B d = d.1.size + a1a a0X d.2.2.1 + a1a a2x d.2.2.2 := rfl
   have h5 : a1B (a1Y d (a0J d o.2.1).toNat (opM (a2o d o) o).1) = d.1.size + a1a a0X (d.2.2.1.set (a0J d o.2.1).toNat (opM (a2o d o) o).1) + a1a a2x d.2.2.2 := rfl
   have h6 : a1a a0X d.2.2.1 = d.2.2.1.length + a0D a0X d.2.2.1 := rfl
   have h7 : a1a a0X (d.2.2.1.set (a0J d o.2.1).toNat (opM (a2o d o) o).1) = (d.2.2.1.set (a0J d o.2.1).toNat (opM (a2o d o) o).1).length + a0D a0X (d.2.2.1.set (a0J d o.2.1).toNat (opM (a2o d o) o).1) := rfl
   rw [List.length_set] at h7
   show a1B (a1Y d (a0J d o.2.1).toNat (opM (a2o d o) o).1) ≤ _
   omega

end Go.Proofs.YtjkpoekgnmgofaaGreat

namespace Go.Proofs.YtjkpoekgnmgofaaGreat
open Go.RowKit
open Go.Proofs
set_option linter.unusedVariables false
set_option linter.unusedSimpArgs false

def a1y : DbT → List OpT → Option (DbT × List Int)
 | c, [] => some (c, [])
 | c, o :: os => if (a0E c o).2.2 = true then (a1y (a0E c o).1 os).map fun r => (r.1, (a0E c o).2.1 :: r.2) else none
def b2Q (d : DbT) : Option (DbT × List Int) → DbT × List Int × Bool
 | none => (d, [], false)
 | some r => (r.1, r.2, true)
def a1C (d : DbT) (l : List OpT) : DbT × List Int × Bool := if (!a0F d || decide ((6 : Int) < (l.length : Int))) = true then (d, [], false) else b2Q d (a1y d l)
def a4U (acc : List Int) (x : Option (DbT × List Int)) : Option (DbT × List Int) := x.map fun r => (r.1, acc ++ r.2)
theorem b2N {d : DbT} {l : List OpT} (h : (!a0F d || decide ((6 : Int) < (l.length : Int))) = false) : l.length ≤ 6 := by
 simp only [Bool.or_eq_false_iff, decide_eq_false_iff_not] at h
 omega
theorem b6J {l : List OpT} {n : Nat} (h : n < l.length) : l.drop n = l.getD (n : Int).toNat default :: l.drop (n + 1) := by
 rw [List.drop_eq_getElem_cons h]
 simp [List.getD, List.getElem?_eq_getElem h]
theorem c5n {l : List OpT} {n : Nat} {c : DbT} (h : n < l.length) (hk : (!(a0E c (l.getD (n : Int).toNat default)).2.2) = true) : a1y c (l.drop n) = none := by
 rw [b6J h, a1y, if_neg (by simpa using hk)]
theorem b6h {l : List OpT} {n : Nat} {c : DbT} {acc : List Int} (h : n < l.length) (hk : (!(a0E c (l.getD (n : Int).toNat default)).2.2) = false) : a4U acc (a1y c (l.drop n)) = a4U (acc ++ [(a0E c (l.getD (n : Int).toNat default)).2.1]) (a1y (a0E c (l.getD (n : Int).toNat default)).1 (l.drop (n + 1))) := by
 rw [b6J h, a1y, if_pos (by simpa using hk)]
 unfold a4U
 cases a1y (a0E c (l.getD (n : Int).toNat default)).1 (l.drop (n + 1)) <;> simp
theorem b6W {d : DbT} {l : List OpT} (h : (!a0F d || decide ((6 : Int) < (l.length : Int))) = true) : a1C d l = (d, [], false) := by rw [a1C, if_pos h]
theorem b4o {d c : DbT} {l : List OpT} {n : Nat} {acc : List Int} (h : (!a0F d || decide ((6 : Int) < (l.length : Int))) = false) (hi : a1y d l = a4U acc (a1y c (l.drop n))) (hn : n < l.length) (hk : (!(a0E c (l.getD (n : Int).toNat default)).2.2) = true) : a1C d l = (d, [], false) := by
 rw [a1C, if_neg (by rw [h]; simp), hi, c5n hn hk]; rfl
theorem b5t {d c : DbT} {l : List OpT} {n : Nat} {acc : List Int} (h : (!a0F d || decide ((6 : Int) < (l.length : Int))) = false) (hi : a1y d l = a4U acc (a1y c (l.drop n))) (hn : n = l.length) : a1C d l = (c, acc, true) := by
 rw [a1C, if_neg (by rw [h]; simp), hi, hn, List.drop_length]
 simp [a1y, a4U, b2Q]
theorem c0h {d : DbT} {l : List OpT} (hb : a1B d ≤ 549755813888) : KFn Tryz.prog 31 [.agg [(.dv [] (.str (d.1))), (.dv [] (.int .i64 (d.2.1))), (.dv [] (a0k (d.2.2.1))), (.dv [] (a0r (d.2.2.2)))], .one (.dv [] (a1m (l)))] (.tup [(true, [(.dv [] (.str ((a1C d l).1.1))), (.dv [] (.int .i64 ((a1C d l).1.2.1))), (.key 90031), (.key 90900)]), (false, [(.key 95000)]), (false, [(.dv [] (.bool ((a1C d l).2.2)))])]) [(90031, some (a0b false (a0k ((a1C d l).1.2.2.1)))), (90900, some (a0b false (a0r ((a1C d l).1.2.2.2)))), (95000, some (a0b false (a3w ((a1C d l).2.1))))] := by
 refine ⟨a0R Tryz.func31 rfl Tryz.ntmps31 Tryz.results31 rfl (fun C => ?_)⟩
 refine yF 0 0 rfl rfl fun f0_0 => ?_
 refine yF 0 1 rfl rfl fun f0_1 => ?_
 refine yF 0 2 rfl rfl fun f0_2 => ?_
 refine yF 0 3 rfl rfl fun f0_3 => ?_
 refine a1i (x := .tmp 1) (a0a rfl) fun f1 => ?_
 iterate 8 refine z ?_
 refine zK 90000 Tryz.call24 ?_ (hf := a5S (x := d) (by omega))
 iterate 4 refine z ?_
 refine a3p (k := 95000) hT rfl rfl rfl rfl rfl rfl rfl rfl ?_
 iterate 5 refine z ?_
 refine zC Tryz.call30 ?_ (hf := a8q (x := d) )
 iterate 7 refine z ?_
 refine yQ rfl (fun c1 => ?_) fun c1 => ?_
 ·iterate 7 refine z ?_
  rw [b6W c1]
  refine a0h (σ' := ⟨[(4, .box 4 0), (5, .one (.key 95000)), (6, .one (.dv [] (.bool (false))))], [(4, 27, [(.dv [] (.str ((d).1))), (.dv [] (.int .i64 ((d).2.1))), (.key 90031), (.key 90900)])], [(90031, some (a0b false (a0k (d.2.2.1)))), (90900, some (a0b false (a0r (d.2.2.2)))), (95000, some (a0b false (a3w ([]))))]⟩) (a0e ⟨rfl, rfl, rfl, trivial⟩ ⟨rfl, trivial⟩ ⟨rfl, rfl, rfl, trivial⟩ rfl) ?_
  iterate 2 refine z ?_
  refine a1J (a0C hT rfl rfl rfl rfl) (a0v rfl) (a0v rfl) rfl rfl rfl ?_
  first | exact ⟨rfl, rfl⟩ | skip
 ·have hl6 := b2N c1
  iterate 9 refine z ?_
  refine a1f (ι := Nat × DbT × List Int) (fun zz => ⟨[(2, .box 2 0), (4, .box 4 0), (7, .box 7 0), (8, .one (.key 95000)), (27, .one (.dv [] (a1m (l)))), (28, .one (.dv [] (.int .i64 ((((l)).length : Int))))), (29, .one (.dv [] (.int .i64 ((zz.1 : Int)))))], [(2, 27, [(.dv [] (.str (d.1))), (.dv [] (.int .i64 (d.2.1))), (.dv [] (a0k (d.2.2.1))), (.dv [] (a0r (d.2.2.2)))]), (4, 27, [(.dv [] (.str (ByteArray.empty))), (.dv [] (.int .i64 (0))), .nil, .nil]), (7, 27, [(.dv [] (.str (zz.2.1.1))), (.dv [] (.int .i64 (zz.2.1.2.1))), (.key 90031), (.key 90900)])], [(90031, some (a0b false (.sl 60 3 (zz.2.1.2.2.1.length) (zz.2.1.2.2.1.flatMap a0T)))), (90900, some (a0b false (.sl 78 2 (zz.2.1.2.2.2.length) (zz.2.1.2.2.2.flatMap a1O)))), (95000, some (a0b false (.sl 3 1 (zz.2.2.length) (zz.2.2.flatMap a4T))))]⟩) (fun zz => zz.1 ≤ l.length ∧ a1y d l = a4U zz.2.2 (a1y zz.2.1 (l.drop zz.1)) ∧ a1B zz.2.1 ≤ a1B d + 1000000 * zz.1 ∧ zz.2.2.length = zz.1) (fun zz => l.length - zz.1) ((0, d, [])) ?_ (a0e ⟨rfl, rfl, rfl, rfl, rfl, rfl, rfl, trivial⟩ ⟨rfl, rfl, rfl, trivial⟩ ⟨rfl, rfl, rfl, trivial⟩ rfl) (fun zz hx => ?_)
  ·exact ⟨Nat.zero_le _, by simp [a4U], by dsimp only; omega, rfl⟩
  obtain ⟨n, c, acc⟩ := zz
  replace hx : n ≤ l.length ∧ a1y d l = a4U acc (a1y c (l.drop n)) ∧ a1B c ≤ a1B d + 1000000 * n ∧ acc.length = n := hx
  obtain ⟨hn, hi, hw, hal⟩ := hx
  show Ok _ _ _ _ _ (⟨[(2, .box 2 0), (4, .box 4 0), (7, .box 7 0), (8, .one (.key 95000)), (27, .one (.dv [] (a1m (l)))), (28, .one (.dv [] (.int .i64 ((((l)).length : Int))))), (29, .one (.dv [] (.int .i64 ((n : Int)))))], [(2, 27, [(.dv [] (.str (d.1))), (.dv [] (.int .i64 (d.2.1))), (.dv [] (a0k (d.2.2.1))), (.dv [] (a0r (d.2.2.2)))]), (4, 27, [(.dv [] (.str (ByteArray.empty))), (.dv [] (.int .i64 (0))), .nil, .nil]), (7, 27, [(.dv [] (.str (c.1))), (.dv [] (.int .i64 (c.2.1))), (.key 90031), (.key 90900)])], [(90031, some (a0b false (.sl 60 3 (c.2.2.1.length) (c.2.2.1.flatMap a0T)))), (90900, some (a0b false (.sl 78 2 (c.2.2.2.length) (c.2.2.2.flatMap a1O)))), (95000, some (a0b false (.sl 3 1 (acc.length) (acc.flatMap a4T))))]⟩ : St)
  iterate 3 refine z ?_
  refine a0p ?_
  refine yQ rfl (fun c2 => ?_) fun c2 => ?_
  ·have d2 := of_decide_eq_true c2
   have hn2 : n < l.length := by omega
   have hrw := b6U c (l.getD (n : Int).toNat default)
   have hw2 : a1B (a0E c (l.getD (n : Int).toNat default)).1 ≤ a1B d + 1000000 * (n + 1) := Nat.le_trans hrw (by rw [Nat.mul_succ, ← Nat.add_assoc]; exact Nat.add_le_add_right hw _)
   iterate 13 refine z ?_
   refine a3Q 1000 rfl rfl rfl Tryz.call26 (b6e (d := c) (o := (l.getD (n : Int).toNat default)) (by omega)) (a0g (a0a rfl) (a0t (a0d a0c (a0d a0c (a0d (a1d rfl rfl) (a0d (a1d rfl rfl) a0s))))) (a0g (a0a rfl) (a0t (a0d a0c (a0d a0c (a0d a0c (a0d a0c (a0d a0c (a0d a0c (a0d a0c a0s)))))))) a0w)) rfl rfl rfl ?_
   iterate 14 refine z ?_
   refine yQ rfl (fun c3 => ?_) fun c3 => ?_
   ·refine a0p ?_
    refine a0h (σ' := ⟨[(2, .box 2 0), (4, .box 4 0)], [(2, 27, [(.dv [] (.str (d.1))), (.dv [] (.int .i64 (d.2.1))), (.dv [] (a0k (d.2.2.1))), (.dv [] (a0r (d.2.2.2)))]), (4, 27, [(.dv [] (.str (ByteArray.empty))), (.dv [] (.int .i64 (0))), .nil, .nil])], []⟩) (a0e ⟨rfl, rfl, trivial⟩ ⟨rfl, rfl, trivial⟩ trivial rfl) ?_
    refine a0o ?_
    refine z ?_
    refine zK 90000 Tryz.call24 ?_ (hf := a5S (x := d) (by omega))
    refine a3p (k := 95000) hT rfl rfl rfl rfl rfl rfl rfl rfl ?_
    iterate 4 refine z ?_
    rw [b4o c1 hi hn2 c3]
    refine a0h (σ' := ⟨[(4, .box 4 0), (5, .one (.key 95000)), (6, .one (.dv [] (.bool (false))))], [(4, 27, [(.dv [] (.str ((d).1))), (.dv [] (.int .i64 ((d).2.1))), (.key 90031), (.key 90900)])], [(90031, some (a0b false (a0k (d.2.2.1)))), (90900, some (a0b false (a0r (d.2.2.2)))), (95000, some (a0b false (a3w ([]))))]⟩) (a0e ⟨rfl, rfl, rfl, trivial⟩ ⟨rfl, trivial⟩ ⟨rfl, rfl, rfl, trivial⟩ rfl) ?_
    iterate 7 refine z ?_
    refine a1J (a0C hT rfl rfl rfl rfl) (a0v rfl) (a0v rfl) rfl rfl rfl ?_
    first | exact ⟨rfl, rfl⟩ | skip
   ·iterate 6 refine z ?_
    refine a0h (a2i (b := 7) (i := 2) (k := 91031) (k' := 90031) rfl rfl rfl rfl (by simp) rfl rfl) ?_
    simp only [a0l, a0i, SV.kill, CV.kill, kk, Nat.reduceBEq]
    refine a0h (a2i (b := 7) (i := 3) (k := 91900) (k' := 90900) rfl rfl rfl rfl (by simp) rfl rfl) ?_
    simp only [a0l, a0i, SV.kill, CV.kill, kk, Nat.reduceBEq]
    refine a0o ?_
    iterate 2 refine z ?_
    refine a4b (k := 48) (js := []) hT rfl rfl rfl rfl rfl rfl rfl rfl rfl (a0a rfl) rfl rfl (a0q (a0B rfl) a1t rfl) (by decide) (by decide) rfl rfl ?_
    simp only [a0l, a0i, SV.kill, CV.kill, kk, Nat.reduceBEq]
    refine a2z (k := 95000) (j := 48) (cs := (acc ++ [(a0E c (l.getD (n : Int).toNat default)).2.1]).flatMap a4T) (n := (acc ++ [(a0E c (l.getD (n : Int).toNat default)).2.1]).length) hT rfl rfl rfl rfl rfl rfl rfl (a0a rfl) rfl rfl rfl (a0a rfl) rfl rfl (by decide) (by dsimp only [a0b]; omega) (by dsimp only [a0b]; omega) (by simp) (by rw [List.flatMap_append]; rfl) ?_
    simp only [a0l, a0i, SV.kill, CV.kill, kk, Nat.reduceBEq]
    refine z ?_
    refine a1z ?_
    iterate 2 refine z ?_
    refine a0o ?_
    iterate 3 refine z ?_
    refine ⟨(n + 1, (a0E c (l.getD (n : Int).toNat default)).1, acc ++ [(a0E c (l.getD (n : Int).toNat default)).2.1]), ?_, ?_, a0e ⟨rfl, rfl, rfl, rfl, rfl, rfl, rfl, trivial⟩ ⟨rfl, rfl, rfl, trivial⟩ ⟨rfl, rfl, rfl, trivial⟩ rfl⟩
    ·exact ⟨hn2, by show a1y d l = _; rw [hi]; exact b6h hn2 c3, hw2, by rw [List.length_append, hal]; rfl⟩
    ·dsimp only; omega
  ·have d2 := of_decide_eq_false c2
   iterate 12 refine z ?_
   rw [b5t c1 hi (by omega)]
   refine a0h (σ' := ⟨[(4, .box 4 0), (5, .one (.key 95000)), (6, .one (.dv [] (.bool (true))))], [(4, 27, [(.dv [] (.str (c.1))), (.dv [] (.int .i64 (c.2.1))), (.key 90031), (.key 90900)])], [(90031, some (a0b false (a0k (c.2.2.1)))), (90900, some (a0b false (a0r (c.2.2.2)))), (95000, some (a0b false (a3w (acc))))]⟩) (a0e ⟨rfl, rfl, rfl, trivial⟩ ⟨rfl, trivial⟩ ⟨rfl, rfl, rfl, trivial⟩ rfl) ?_
   refine z ?_
   refine a1J (a0C hT rfl rfl rfl rfl) (a0v rfl) (a0v rfl) rfl rfl rfl ?_
   first | exact ⟨rfl, rfl⟩ | skip
theorem c6g {d : DbT} {l : List OpT} (hb : a1B d ≤ 549755813888) : KFn Tryz.prog 14 [.agg [(.dv [] (.str (d.1))), (.dv [] (.int .i64 (d.2.1))), (.dv [] (a0k (d.2.2.1))), (.dv [] (a0r (d.2.2.2)))], .one (.dv [] (a1m (l)))] (.tup [(true, [(.dv [] (.str ((a1C d l).1.1))), (.dv [] (.int .i64 ((a1C d l).1.2.1))), (.key 90031), (.key 90900)]), (false, [(.key 95000)]), (false, [(.dv [] (.bool ((a1C d l).2.2)))])]) [(90031, some (a0b false (a0k ((a1C d l).1.2.2.1)))), (90900, some (a0b false (a0r ((a1C d l).1.2.2.2)))), (95000, some (a0b false (a3w ((a1C d l).2.1))))] := by
 refine ⟨a0R Tryz.func14 rfl Tryz.ntmps14 Tryz.results14 rfl (fun C => ?_)⟩
 refine yF 0 0 rfl rfl fun f0_0 => ?_
 refine yF 0 1 rfl rfl fun f0_1 => ?_
 refine yF 0 2 rfl rfl fun f0_2 => ?_
 refine yF 0 3 rfl rfl fun f0_3 => ?_
 refine a1i (x := .tmp 1) (a0a rfl) fun f1 => ?_
 iterate 8 refine z ?_
 refine zK 90000 Tryz.call32 ?_ (hf := a5L (x := d) (by omega))
 iterate 4 refine z ?_
 refine a3p (k := 95000) hT rfl rfl rfl rfl rfl rfl rfl rfl ?_
 iterate 5 refine z ?_
 refine zC Tryz.call33 ?_ (hf := a5e (x := d) )
 iterate 7 refine z ?_
 refine yQ rfl (fun c1 => ?_) fun c1 => ?_
 ·iterate 7 refine z ?_
  rw [b6W c1]
  refine a0h (σ' := ⟨[(4, .box 4 0), (5, .one (.key 95000)), (6, .one (.dv [] (.bool (false))))], [(4, 27, [(.dv [] (.str ((d).1))), (.dv [] (.int .i64 ((d).2.1))), (.key 90031), (.key 90900)])], [(90031, some (a0b false (a0k (d.2.2.1)))), (90900, some (a0b false (a0r (d.2.2.2)))), (95000, some (a0b false (a3w ([]))))]⟩) (a0e ⟨rfl, rfl, rfl, trivial⟩ ⟨rfl, trivial⟩ ⟨rfl, rfl, rfl, trivial⟩ rfl) ?_
  iterate 2 refine z ?_
  refine a1J (a0C hT rfl rfl rfl rfl) (a0v rfl) (a0v rfl) rfl rfl rfl ?_
  first | exact ⟨rfl, rfl⟩ | skip
 ·have hl6 := b2N c1
  iterate 7 refine z ?_
  refine a1f (ι := Nat × DbT × List Int) (fun zz => ⟨[(1, .one (.dv [] (a1m (l)))), (2, .box 2 0), (4, .box 4 0), (7, .box 7 0), (8, .one (.key 95000)), (9, .one (.dv [] (.int .i64 ((zz.1 : Int)))))], [(2, 27, [(.dv [] (.str (d.1))), (.dv [] (.int .i64 (d.2.1))), (.dv [] (a0k (d.2.2.1))), (.dv [] (a0r (d.2.2.2)))]), (4, 27, [(.dv [] (.str (ByteArray.empty))), (.dv [] (.int .i64 (0))), .nil, .nil]), (7, 27, [(.dv [] (.str (zz.2.1.1))), (.dv [] (.int .i64 (zz.2.1.2.1))), (.key 90031), (.key 90900)])], [(90031, some (a0b false (.sl 60 3 (zz.2.1.2.2.1.length) (zz.2.1.2.2.1.flatMap a0T)))), (90900, some (a0b false (.sl 78 2 (zz.2.1.2.2.2.length) (zz.2.1.2.2.2.flatMap a1O)))), (95000, some (a0b false (.sl 3 1 (zz.2.2.length) (zz.2.2.flatMap a4T))))]⟩) (fun zz => zz.1 ≤ l.length ∧ a1y d l = a4U zz.2.2 (a1y zz.2.1 (l.drop zz.1)) ∧ a1B zz.2.1 ≤ a1B d + 1000000 * zz.1 ∧ zz.2.2.length = zz.1) (fun zz => l.length - zz.1) ((0, d, [])) ?_ (a0e ⟨rfl, rfl, rfl, rfl, rfl, rfl, trivial⟩ ⟨rfl, rfl, rfl, trivial⟩ ⟨rfl, rfl, rfl, trivial⟩ rfl) (fun zz hx => ?_)
  ·exact ⟨Nat.zero_le _, by simp [a4U], by dsimp only; omega, rfl⟩
  obtain ⟨n, c, acc⟩ := zz
  replace hx : n ≤ l.length ∧ a1y d l = a4U acc (a1y c (l.drop n)) ∧ a1B c ≤ a1B d + 1000000 * n ∧ acc.length = n := hx
  obtain ⟨hn, hi, hw, hal⟩ := hx
  show Ok _ _ _ _ _ (⟨[(1, .one (.dv [] (a1m (l)))), (2, .box 2 0), (4, .box 4 0), (7, .box 7 0), (8, .one (.key 95000)), (9, .one (.dv [] (.int .i64 ((n : Int)))))], [(2, 27, [(.dv [] (.str (d.1))), (.dv [] (.int .i64 (d.2.1))), (.dv [] (a0k (d.2.2.1))), (.dv [] (a0r (d.2.2.2)))]), (4, 27, [(.dv [] (.str (ByteArray.empty))), (.dv [] (.int .i64 (0))), .nil, .nil]), (7, 27, [(.dv [] (.str (c.1))), (.dv [] (.int .i64 (c.2.1))), (.key 90031), (.key 90900)])], [(90031, some (a0b false (.sl 60 3 (c.2.2.1.length) (c.2.2.1.flatMap a0T)))), (90900, some (a0b false (.sl 78 2 (c.2.2.2.length) (c.2.2.2.flatMap a1O)))), (95000, some (a0b false (.sl 3 1 (acc.length) (acc.flatMap a4T))))]⟩ : St)
  iterate 7 refine z ?_
  refine yQ rfl (fun c2 => ?_) fun c2 => ?_
  ·have d2 := of_decide_eq_true c2
   have hn2 : n < l.length := by omega
   have hrw := b6U c (l.getD (n : Int).toNat default)
   have hw2 : a1B (a0E c (l.getD (n : Int).toNat default)).1 ≤ a1B d + 1000000 * (n + 1) := Nat.le_trans hrw (by rw [Nat.mul_succ, ← Nat.add_assoc]; exact Nat.add_le_add_right hw _)
   iterate 4 refine z ?_
   refine a7h (σ' := ⟨[(1, .one (.dv [] (a1m (l)))), (2, .box 2 0), (4, .box 4 0), (7, .box 7 0), (8, .one (.key 95000)), (9, .one (.dv [] (.int .i64 ((n : Int))))), (10, .box 10 0), (11, .one (.dv [] (.int .i64 ((a0E (c) ((l.getD (n : Int).toNat default))).2.1)))), (12, .one (.dv [] (.bool ((a0E (c) ((l.getD (n : Int).toNat default))).2.2))))], [(2, 27, [(.dv [] (.str (d.1))), (.dv [] (.int .i64 (d.2.1))), (.dv [] (a0k (d.2.2.1))), (.dv [] (a0r (d.2.2.2)))]), (4, 27, [(.dv [] (.str (ByteArray.empty))), (.dv [] (.int .i64 (0))), .nil, .nil]), (7, 27, [(.dv [] (.str (c.1))), (.dv [] (.int .i64 (c.2.1))), (.key 90031), (.key 90900)]), (10, 27, [(.dv [] (.str ((a0E (c) ((l.getD (n : Int).toNat default))).1.1))), (.dv [] (.int .i64 ((a0E (c) ((l.getD (n : Int).toNat default))).1.2.1))), (.key 91031), (.key 91900)])], [(90031, some (a0b false (.sl 60 3 (c.2.2.1.length) (c.2.2.1.flatMap a0T)))), (90900, some (a0b false (.sl 78 2 (c.2.2.2.length) (c.2.2.2.flatMap a1O)))), (91031, some (a0b false (a0k ((a0E (c) ((l.getD (n : Int).toNat default))).1.2.2.1)))), (91900, some (a0b false (a0r ((a0E (c) ((l.getD (n : Int).toNat default))).1.2.2.2)))), (95000, some (a0b false (.sl 3 1 (acc.length) (acc.flatMap a4T))))]⟩) ?_ ?_
   ·refine a1L (oB := [2, 4, 7]) (oK := [90031, 90900, 95000]) (by kernel_rfl) rfl rfl ?_
    refine zD 0 ?_
    refine zD 1 ?_
    refine zD 2 ?_
    refine zD 3 ?_
    refine zD 4 ?_
    refine a5K (A := [(10, 10, 27, _)]) hT ⟨⟨_, _, rfl⟩, rfl, trivial⟩ ?_
    refine a7N 1000 5 rfl (by kernel_rfl) rfl rfl rfl (vok hT ⟨⟨_, _, rfl⟩, rfl, trivial⟩ (by kernel_rfl) (by kernel_rfl)) (vok hT ⟨⟨_, _, rfl⟩, rfl, trivial⟩ (by kernel_rfl) (by kernel_rfl)) rfl Tryz.call34 (c0O (d := c) (o := (l.getD (n : Int).toNat default)) (by omega)) (a0g (a0a rfl) (a0t (a0d a0c (a0d a0c (a0d (a1d rfl rfl) (a0d (a1d rfl rfl) a0s))))) (a0g (a0a rfl) (a0t (a0d a0c (a0d a0c (a0d a0c (a0d a0c (a0d a0c (a0d a0c (a0d a0c a0s)))))))) a0w)) rfl rfl rfl rfl rfl ?_
    refine a6k 6 rfl (by kernel_rfl) rfl rfl rfl (vok hT ⟨⟨_, _, rfl⟩, rfl, trivial⟩ (by kernel_rfl) (by kernel_rfl)) (vok hT ⟨⟨_, _, rfl⟩, rfl, trivial⟩ (by kernel_rfl) (by kernel_rfl)) (a0U (.inl rfl) (a0a rfl)) rfl rfl rfl rfl ?_
    refine a2G 7 rfl (by kernel_rfl) rfl rfl rfl rfl (vok hT ⟨⟨_, _, rfl⟩, rfl, trivial⟩ (by kernel_rfl) (by kernel_rfl)) (vok hT ⟨⟨_, _, rfl⟩, rfl, trivial⟩ (by kernel_rfl) (by kernel_rfl)) (a3q rfl (a0a rfl) rfl) rfl rfl ?_
    refine a2G 8 rfl (by kernel_rfl) rfl rfl rfl rfl (vok hT ⟨⟨_, _, rfl⟩, rfl, trivial⟩ (by kernel_rfl) (by kernel_rfl)) (vok hT ⟨⟨_, _, rfl⟩, rfl, trivial⟩ (by kernel_rfl) (by kernel_rfl)) (a2L rfl (a0a rfl) rfl) rfl rfl ?_
    refine a2G 9 rfl (by kernel_rfl) rfl rfl rfl rfl (vok hT ⟨⟨_, _, rfl⟩, rfl, trivial⟩ (by kernel_rfl) (by kernel_rfl)) (vok hT ⟨⟨_, _, rfl⟩, rfl, trivial⟩ (by kernel_rfl) (by kernel_rfl)) (a2L rfl (a0a rfl) rfl) rfl rfl ?_
    refine a5Z (vok hT ⟨⟨_, _, rfl⟩, rfl, trivial⟩ (by kernel_rfl) (by kernel_rfl)) rfl rfl (by kernel_rfl) ?_
    dsimp only [a2S, a2R]
    refine a2B [11, 12, 13] rfl rfl (by kernel_rfl) ?_
    iterate 3 refine z ?_
    refine a1z ?_
    exact a3C (a0e ⟨rfl, rfl, rfl, rfl, rfl, rfl, rfl, rfl, rfl, trivial⟩ ⟨rfl, rfl, rfl, rfl, trivial⟩ ⟨rfl, rfl, rfl, rfl, rfl, trivial⟩ rfl)
   iterate 5 refine z ?_
   refine yQ rfl (fun c3 => ?_) fun c3 => ?_
   ·refine a0p ?_
    refine a0h (σ' := ⟨[(2, .box 2 0), (4, .box 4 0)], [(2, 27, [(.dv [] (.str (d.1))), (.dv [] (.int .i64 (d.2.1))), (.dv [] (a0k (d.2.2.1))), (.dv [] (a0r (d.2.2.2)))]), (4, 27, [(.dv [] (.str (ByteArray.empty))), (.dv [] (.int .i64 (0))), .nil, .nil])], []⟩) (a0e ⟨rfl, rfl, trivial⟩ ⟨rfl, rfl, trivial⟩ trivial rfl) ?_
    refine a0o ?_
    refine z ?_
    refine zK 90000 Tryz.call32 ?_ (hf := a5L (x := d) (by omega))
    refine a3p (k := 95000) hT rfl rfl rfl rfl rfl rfl rfl rfl ?_
    iterate 4 refine z ?_
    rw [b4o c1 hi hn2 c3]
    refine a0h (σ' := ⟨[(4, .box 4 0), (5, .one (.key 95000)), (6, .one (.dv [] (.bool (false))))], [(4, 27, [(.dv [] (.str ((d).1))), (.dv [] (.int .i64 ((d).2.1))), (.key 90031), (.key 90900)])], [(90031, some (a0b false (a0k (d.2.2.1)))), (90900, some (a0b false (a0r (d.2.2.2)))), (95000, some (a0b false (a3w ([]))))]⟩) (a0e ⟨rfl, rfl, rfl, trivial⟩ ⟨rfl, trivial⟩ ⟨rfl, rfl, rfl, trivial⟩ rfl) ?_
    iterate 7 refine z ?_
    refine a1J (a0C hT rfl rfl rfl rfl) (a0v rfl) (a0v rfl) rfl rfl rfl ?_
    first | exact ⟨rfl, rfl⟩ | skip
   ·iterate 6 refine z ?_
    refine a0h (a2i (b := 7) (i := 2) (k := 91031) (k' := 90031) rfl rfl rfl rfl (by simp) rfl rfl) ?_
    simp only [a0l, a0i, SV.kill, CV.kill, kk, Nat.reduceBEq]
    refine a0h (a2i (b := 7) (i := 3) (k := 91900) (k' := 90900) rfl rfl rfl rfl (by simp) rfl rfl) ?_
    simp only [a0l, a0i, SV.kill, CV.kill, kk, Nat.reduceBEq]
    refine a0o ?_
    iterate 2 refine z ?_
    refine a4b (k := 50) (js := []) hT rfl rfl rfl rfl rfl rfl rfl rfl rfl (a0a rfl) rfl rfl (a0q (a0B rfl) a1t rfl) (by decide) (by decide) rfl rfl ?_
    simp only [a0l, a0i, SV.kill, CV.kill, kk, Nat.reduceBEq]
    refine a2z (k := 95000) (j := 50) (cs := (acc ++ [(a0E c (l.getD (n : Int).toNat default)).2.1]).flatMap a4T) (n := (acc ++ [(a0E c (l.getD (n : Int).toNat default)).2.1]).length) hT rfl rfl rfl rfl rfl rfl rfl (a0a rfl) rfl rfl rfl (a0a rfl) rfl rfl (by decide) (by dsimp only [a0b]; omega) (by dsimp only [a0b]; omega) (by simp) (by rw [List.flatMap_append]; rfl) ?_
    simp only [a0l, a0i, SV.kill, CV.kill, kk, Nat.reduceBEq]
    refine z ?_
    refine a1z ?_
    iterate 2 refine z ?_
    refine a0o ?_
    iterate 4 refine z ?_
    refine ⟨(n + 1, (a0E c (l.getD (n : Int).toNat default)).1, acc ++ [(a0E c (l.getD (n : Int).toNat default)).2.1]), ?_, ?_, a0e ⟨rfl, rfl, rfl, rfl, rfl, rfl, trivial⟩ ⟨rfl, rfl, rfl, trivial⟩ ⟨rfl, rfl, rfl, trivial⟩ rfl⟩
    ·exact ⟨hn2, by show a1y d l = _; rw [hi]; exact b6h hn2 c3, hw2, by rw [List.length_append, hal]; rfl⟩
    ·dsimp only; omega
  ·have d2 := of_decide_eq_false c2
   iterate 12 refine z ?_
   rw [b5t c1 hi (by omega)]
   refine a0h (σ' := ⟨[(4, .box 4 0), (5, .one (.key 95000)), (6, .one (.dv [] (.bool (true))))], [(4, 27, [(.dv [] (.str (c.1))), (.dv [] (.int .i64 (c.2.1))), (.key 90031), (.key 90900)])], [(90031, some (a0b false (a0k (c.2.2.1)))), (90900, some (a0b false (a0r (c.2.2.2)))), (95000, some (a0b false (a3w (acc))))]⟩) (a0e ⟨rfl, rfl, rfl, trivial⟩ ⟨rfl, trivial⟩ ⟨rfl, rfl, rfl, trivial⟩ rfl) ?_
   refine z ?_
   refine a1J (a0C hT rfl rfl rfl rfl) (a0v rfl) (a0v rfl) rfl rfl rfl ?_
   first | exact ⟨rfl, rfl⟩ | skip

end Go.Proofs.YtjkpoekgnmgofaaGreat

namespace Go.Proofs.YtjkpoekgnmgofaaGreat
open Go.RowKit
open Go.Proofs
set_option linter.unusedVariables false
set_option linter.unusedSimpArgs false

theorem b1y {α : Type} {w : α → Nat} {B : Nat} : ∀ (l : List α), (∀ x ∈ l, w x ≤ B) → a0D w l ≤ l.length * B
 | [], _ => by simp [a0D]
 | x :: l, h => by
  have h1 := b1y l (fun y hy => h y (by simp [hy]))
  have h2 := h x (by simp)
  have e : a0D w (x :: l) = w x + a0D w l := by simp [a0D]
  rw [e, List.length_cons, Nat.add_mul, Nat.one_mul]; omega
theorem b4R {s : a0u} (h : a1g s = true) : s.1.size ≤ 8 := by
 simp only [a1g, Bool.and_eq_true] at h
 have := h.2.1.1
 simp only [a2h, Bool.and_eq_true, decide_eq_true_eq] at this
 omega
theorem b5Y (s : Str) : s.size = s.toList.length := by rw [a6c]; rfl
theorem c2t {d : DbT} (h : a0F d = true) : a1B d ≤ 5000000 := by
 have hst := a8J h
 rw [a0F] at h
 simp only [Bool.and_eq_true] at h
 obtain ⟨hh, _, hu⟩ := h
 simp only [a5u, Bool.and_eq_true, decide_eq_true_eq] at hh
 obtain ⟨⟨⟨hn, _⟩, hl1⟩, hl2⟩ := hh
 simp only [a2h, Bool.and_eq_true, decide_eq_true_eq] at hn
 have hs : ∀ s ∈ d.2.2.1, a1g s = true := fun s hs => by
  obtain ⟨i, hi, rfl⟩ := List.mem_iff_getElem.1 hs
  have := a5F (d := d) (i := (i : Int)) hst (by omega) (by omega)
  simpa [List.getD, List.getElem?_eq_getElem hi] using this
 have h1 := b1y (w := a0X) (B := 1000 * 1000) d.2.2.1 (fun s hm => a6T (hs s hm))
 have h2 := b1y (w := a2x) (B := 16) d.2.2.2 (fun x hm => by
  obtain ⟨i, hi, rfl⟩ := List.mem_iff_getElem.1 hm
  simp only [a5N, List.all_eq_true] at hu
  have h3 := hu i (List.mem_range.2 hi)
  have ex : d.2.2.2.getD i default = d.2.2.2[i] := by simp [List.getD, List.getElem?_eq_getElem hi]
  simp only [a2N, Int.toNat_natCast, ex, Bool.not_eq_true', Bool.or_eq_false_iff, decide_eq_false_iff_not, Bool.not_eq_false'] at h3
  obtain ⟨⟨⟨h4, h5⟩, _⟩, _⟩ := h3
  simp only [a2h, Bool.and_eq_true, decide_eq_true_eq] at h5
  rcases a6y (p := a0y d.2.2.2[i].1) (d := default) d.2.2.1 0 (by omega) with ⟨h6, _⟩ | ⟨m, h6, _, _, h7⟩
  ·exact absurd (show a0J d d.2.2.2[i].1 < 0 by show a0j _ _ _ < 0; omega) h4
  ·have hm' : d.2.2.1.getD m default ∈ d.2.2.1 := by simp [List.getD, List.getElem?_eq_getElem h6]
   have h8 := b4R (hs _ hm')
   have h9 : (d.2.2.1.getD m default).1.toList = d.2.2.2[i].1.toList := by simpa [a0y, sEq] using h7
   have h10 : d.2.2.2[i].1.size ≤ 8 := by rw [b5Y, ← h9, ← b5Y]; exact h8
   have h11 : a2x d.2.2.2[i] = d.2.2.2[i].1.size + d.2.2.2[i].2.size := rfl
   rw [h11]; omega)
 have h3 : a1B d = d.1.size + a1a a0X d.2.2.1 + a1a a2x d.2.2.2 := rfl
 have h4 : a1a a0X d.2.2.1 = d.2.2.1.length + a0D a0X d.2.2.1 := rfl
 have h5 : a1a a2x d.2.2.2 = d.2.2.2.length + a0D a2x d.2.2.2 := rfl
 have h6 : d.2.2.1.length ≤ 4 := by omega
 have h7 : d.2.2.2.length ≤ 4 := by omega
 have h8 : d.2.2.1.length * (1000 * 1000) ≤ 4 * (1000 * 1000) := Nat.mul_le_mul_right _ h6
 omega
theorem c4U {d : DbT} {o : OpT} (h : (a0E d o).2.2 = true) : a0F (a0E d o).1 = true := by
 unfold a0E at h ⊢
 split at h
 ·cases h
 ·rename_i h1
  split at h
  ·cases h
  ·rename_i h2
   rw [if_neg h1, if_neg h2]
   have h2 : (!(opM (a2o d o) o).2.2 || !a0F (a1Y d (a0J d o.2.1).toNat (opM (a2o d o) o).1)) = false := by simpa using h2
   simp only [Bool.or_eq_false_iff, Bool.not_eq_false'] at h2
   exact h2.2
theorem b5F : ∀ (l : List OpT) (c c' : DbT) (ns : List Int), a1y c l = some (c', ns) → c' = c ∨ a0F c' = true
 | [], c, c', ns, h => by simp only [a1y, Option.some.injEq, Prod.mk.injEq] at h; exact .inl h.1.symm
 | o :: os, c, c', ns, h => by
  rw [a1y] at h
  split at h
  ·rename_i hk
   cases hq : a1y (a0E c o).1 os with
   | none => rw [hq] at h; cases h
   | some r =>
    rw [hq] at h
    simp only [Option.map_some, Option.some.injEq, Prod.mk.injEq] at h
    rcases b5F os (a0E c o).1 r.1 r.2 hq with h2 | h2
    ·right; rw [← h.1, h2]; exact c4U hk
    ·right; rw [← h.1]; exact h2
  ·cases h
theorem c5Q (d : DbT) (l : List OpT) : a1B (a1C d l).1 ≤ a1B d ∨ a1B (a1C d l).1 ≤ 5000000 := by
 unfold a1C
 split
 ·exact .inl (Nat.le_refl _)
 ·cases hq : a1y d l with
  | none => exact .inl (Nat.le_refl _)
  | some r =>
   rcases b5F l d r.1 r.2 hq with h | h
   ·left; show a1B r.1 ≤ _; rw [h]; exact Nat.le_refl _
   ·right; exact c2t h
def a3c : DbT → List TxT → DbT
 | d, [] => d
 | d, t :: ts => a3c (a1C d t.2.1).1 ts
theorem c3Z {x : List TxT} {n : Nat} {c : DbT} (h : n < x.length) : a3c c (x.drop n) = a3c (a1C c (x.getD (n : Int).toNat default).2.1).1 (x.drop (n + 1)) := by
 have e : x.drop n = x.getD (n : Int).toNat default :: x.drop (n + 1) := by rw [List.drop_eq_getElem_cons h]; simp [List.getD, List.getElem?_eq_getElem h]
 rw [e, a3c]

theorem c3q {d : DbT} {x : List TxT} (hb : a1B d ≤ 549755813888) : KFn Tryz.prog 13 [.agg [(.dv [] (.str (d.1))), (.dv [] (.int .i64 (d.2.1))), (.dv [] (a0k (d.2.2.1))), (.dv [] (a0r (d.2.2.2)))], .agg [(.dv [] (a1q (x)))]] (.agg [(.dv [] (.str ((a3c d x).1))), (.dv [] (.int .i64 ((a3c d x).2.1))), (.key 90031), (.key 90900)]) [(90031, some (a0b false (a0k ((a3c d x).2.2.1)))), (90900, some (a0b false (a0r ((a3c d x).2.2.2))))] := by
 refine ⟨a0R Tryz.func13 rfl Tryz.ntmps13 Tryz.results13 rfl (fun C => ?_)⟩
 refine yF 0 0 rfl rfl fun f0_0 => ?_
 refine yF 0 1 rfl rfl fun f0_1 => ?_
 refine yF 0 2 rfl rfl fun f0_2 => ?_
 refine yF 0 3 rfl rfl fun f0_3 => ?_
 refine yF 1 0 rfl rfl fun f1_0 => ?_
 iterate 7 refine z ?_
 refine zK 90000 Tryz.call24 ?_ (hf := a5S (x := d) (by omega))
 iterate 11 refine z ?_
 refine a1f (ι := Nat × DbT) (fun zz => ⟨[(4, .box 4 0), (5, .box 5 0), (11, .one (.dv [] (a1q (x)))), (12, .one (.dv [] (.int .i64 ((((x)).length : Int))))), (13, .one (.dv [] (.int .i64 ((zz.1 : Int)))))], [(2, 27, [(.dv [] (.str (d.1))), (.dv [] (.int .i64 (d.2.1))), (.dv [] (a0k (d.2.2.1))), (.dv [] (a0r (d.2.2.2)))]), (3, 30, [(.dv [] (a1q (x)))]), (4, 27, [(.dv [] (.str (ByteArray.empty))), (.dv [] (.int .i64 (0))), .nil, .nil]), (5, 27, [(.dv [] (.str (zz.2.1))), (.dv [] (.int .i64 (zz.2.2.1))), (.key 90031), (.key 90900)])], [(90031, some (a0b false (.sl 60 3 (zz.2.2.2.1.length) (zz.2.2.2.1.flatMap a0T)))), (90900, some (a0b false (.sl 78 2 (zz.2.2.2.2.length) (zz.2.2.2.2.flatMap a1O))))]⟩) (fun zz => zz.1 ≤ x.length ∧ a3c d x = a3c zz.2 (x.drop zz.1) ∧ (a1B zz.2 ≤ a1B d ∨ a1B zz.2 ≤ 5000000)) (fun zz => x.length - zz.1) ((0, d)) ?_ (a0e ⟨rfl, rfl, rfl, rfl, rfl, trivial⟩ ⟨rfl, rfl, rfl, rfl, trivial⟩ ⟨rfl, rfl, trivial⟩ rfl) (fun zz hx => ?_)
 ·exact ⟨Nat.zero_le _, by simp, .inl (Nat.le_refl _)⟩
 obtain ⟨n, c⟩ := zz
 replace hx : n ≤ x.length ∧ a3c d x = a3c c (x.drop n) ∧ (a1B c ≤ a1B d ∨ a1B c ≤ 5000000) := hx
 obtain ⟨hn, hi, hw⟩ := hx
 show Ok _ _ _ _ _ (⟨[(4, .box 4 0), (5, .box 5 0), (11, .one (.dv [] (a1q (x)))), (12, .one (.dv [] (.int .i64 ((((x)).length : Int))))), (13, .one (.dv [] (.int .i64 ((n : Int)))))], [(2, 27, [(.dv [] (.str (d.1))), (.dv [] (.int .i64 (d.2.1))), (.dv [] (a0k (d.2.2.1))), (.dv [] (a0r (d.2.2.2)))]), (3, 30, [(.dv [] (a1q (x)))]), (4, 27, [(.dv [] (.str (ByteArray.empty))), (.dv [] (.int .i64 (0))), .nil, .nil]), (5, 27, [(.dv [] (.str (c.1))), (.dv [] (.int .i64 (c.2.1))), (.key 90031), (.key 90900)])], [(90031, some (a0b false (.sl 60 3 (c.2.2.1.length) (c.2.2.1.flatMap a0T)))), (90900, some (a0b false (.sl 78 2 (c.2.2.2.length) (c.2.2.2.flatMap a1O))))]⟩ : St)
 iterate 3 refine z ?_
 refine a0p ?_
 refine yQ rfl (fun c1 => ?_) fun c1 => ?_
 ·have d1 := of_decide_eq_true c1
  have hn2 : n < x.length := by omega
  have hrw := c5Q c (x.getD (n : Int).toNat default).2.1
  iterate 10 refine z ?_
  refine a0o ?_
  iterate 3 refine z ?_
  refine a3Q 1000 rfl rfl rfl Tryz.call31 (c0h (d := c) (l := (x.getD (n : Int).toNat default).2.1) (by omega)) (a0g (a0a rfl) (a0t (a0d a0c (a0d a0c (a0d (a1d rfl rfl) (a0d (a1d rfl rfl) a0s))))) (a0g (a0a rfl) (a0I a0c) a0w)) rfl rfl rfl ?_
  iterate 5 refine z ?_
  refine a1z ?_
  iterate 2 refine z ?_
  refine a0h (a2i (b := 5) (i := 2) (k := 91031) (k' := 90031) rfl rfl rfl rfl (by simp) rfl rfl) ?_
  simp only [a0l, a0i, SV.kill, CV.kill, kk, Nat.reduceBEq]
  refine a0h (a2i (b := 5) (i := 3) (k := 91900) (k' := 90900) rfl rfl rfl rfl (by simp) rfl rfl) ?_
  simp only [a0l, a0i, SV.kill, CV.kill, kk, Nat.reduceBEq]
  refine a0o ?_
  iterate 3 refine z ?_
  refine ⟨(n + 1, (a1C c (x.getD (n : Int).toNat default).2.1).1), ?_, ?_, a0e ⟨rfl, rfl, rfl, rfl, rfl, trivial⟩ ⟨rfl, rfl, rfl, rfl, trivial⟩ ⟨rfl, rfl, trivial⟩ rfl⟩
  ·exact ⟨hn2, by show a3c d x = _; rw [hi]; exact c3Z hn2, by dsimp only; omega⟩
  ·dsimp only; omega
 ·have d1 := of_decide_eq_false c1
  iterate 9 refine z ?_
  have hfin : a3c d x = c := by rw [hi, List.drop_of_length_le (by omega)]; rfl
  rw [hfin]
  refine a0h (σ' := ⟨[(4, .box 4 0)], [(4, 27, [(.dv [] (.str (c.1))), (.dv [] (.int .i64 (c.2.1))), (.key 90031), (.key 90900)])], [(90031, some (a0b false (a0k (c.2.2.1)))), (90900, some (a0b false (a0r (c.2.2.2))))]⟩) (a0e ⟨rfl, trivial⟩ ⟨rfl, trivial⟩ ⟨rfl, rfl, trivial⟩ rfl) ?_
  refine z ?_
  refine a1x (a0C hT rfl rfl rfl rfl) ?_
  first | exact ⟨rfl, rfl⟩ | skip
end Go.Proofs.YtjkpoekgnmgofaaGreat

