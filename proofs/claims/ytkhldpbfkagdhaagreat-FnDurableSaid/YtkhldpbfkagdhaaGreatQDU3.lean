/-
  Contracts of the program's functions for the statements Durable, by the rules of the logic. Conditions: none but those in the theorems.
-/
import Derived.Below
import Derived.Deep.Slices
import Derived.OpenShut
import Derived.ProofKit
import Derived.Test.YtkhldpbfkagdhaaGreatQDU2
set_option maxHeartbeats 4000000
set_option maxRecDepth 100000
namespace Go.Proofs.YtkhldpbfkagdhaaGreat
open Go.RowKit
open Go.Proofs
set_option linter.unusedVariables false
set_option linter.unusedSimpArgs false
def a2A (b : List UInt8) : Nat → Int → a0v → Option (a0v × Int)
 | 0, p, r => some (r, p)
 | n + 1, p, r => if (!(rdB b p 8).isSome || !uvK b (rbP (rdB b p 8))) = true then none else a2A b n (uvP b (rbP (rdB b p 8))) (r ++ [(a2h (a2F (rdB b p 8)), uvV b (rbP (rdB b p 8)))])
def l5R (b : List UInt8) (at0 : Int) : a0v × Int × Bool := if (!uvK b at0 || decide (6 < uvV b at0)) = true then ([], 0, false) else match a2A b (uvV b at0).toNat (uvP b at0) [] with
 | none => ([], 0, false)
 | some (r, p) => (r, p, a1b r)
def a4o (b : List UInt8) : a0v × Bool := if (!(l5R b 0).2.2 || !decide ((l5R b 0).2.1 = (b.length : Int))) = true then ([], false) else ((l5R b 0).1, true)
section
variable {b : List UInt8} {at0 p : Int} {r : a0v} {k n : Nat}
theorem c3e (hk : k < n) (hc : (!(rdB b p 8).isSome || !uvK b (rbP (rdB b p 8))) = false) : a2A b (n - k) p r = a2A b (n - (k + 1)) (uvP b (rbP (rdB b p 8))) (r ++ [(a2h (a2F (rdB b p 8)), uvV b (rbP (rdB b p 8)))]) := by
 rw [show n - k = (n - (k + 1)) + 1 by omega, a2A, if_neg (by rw [hc]; simp)]
theorem c4X (hk : k < n) (hc : (!(rdB b p 8).isSome || !uvK b (rbP (rdB b p 8))) = true) : a2A b (n - k) p r = none := by
 rw [show n - k = (n - (k + 1)) + 1 by omega, a2A, if_pos hc]
theorem c2P (hk : ¬ k < n) : a2A b (n - k) p r = some (r, p) := by rw [show n - k = 0 by omega, a2A]
theorem c2q (h : (!uvK b at0 || decide (6 < uvV b at0)) = true) : l5R b at0 = ([], 0, false) := by rw [l5R, if_pos h]
theorem c5D (h : (!uvK b at0 || decide (6 < uvV b at0)) = false) (h2 : a2A b (uvV b at0).toNat (uvP b at0) [] = none) : l5R b at0 = ([], 0, false) := by rw [l5R, if_neg (by rw [h]; simp), h2]
theorem b4B (h : (!uvK b at0 || decide (6 < uvV b at0)) = false) (h2 : a2A b (uvV b at0).toNat (uvP b at0) [] = some (r, p)) : l5R b at0 = (r, p, a1b r) := by rw [l5R, if_neg (by rw [h]; simp), h2]
end
def a5F (f : a4A) : List UInt8 := uvL f.1.data.toList.length ++ (f.1.data.toList ++ uvL f.2.toNat)
def inF (f : a4A) : Prop := 0 ≤ f.2 ∧ f.2 ≤ 1000000000000 ∧ f.1.data.toList.length ≤ 1000000000000
theorem b6m {b : List UInt8} {off : Int} (h : uvK b off = true) : ∃ (q v k : Nat), rdU b off = some (v, k) ∧ off = (q : Int) ∧ uvV b off = (v : Int) ∧ uvP b off = ((q + k : Nat) : Int) ∧ b.drop q = uvL v ++ b.drop (q + k) ∧ q + k ≤ b.length ∧ v ≤ 1000000000000 := by
 unfold uvK at h
 obtain ⟨⟨v, k⟩, hr⟩ := c9h.1 h
 obtain ⟨q, h1, h2, h3, h4, _⟩ := b6F hr
 refine ⟨q, v, k, hr, h1, ?_, ?_, h2, h3, h4⟩
 ·unfold uvV; rw [hr]
 ·unfold uvP; rw [hr, h1]; simp
theorem c2T {b : List UInt8} {off m : Int} (h : (rdB b off m).isSome = true) : ∃ (p q : Nat) (d : List UInt8), rdB b off m = some (d, q) ∧ off = (p : Int) ∧ b.drop p = uvL d.length ++ (d ++ b.drop q) ∧ q ≤ b.length ∧ (d.length : Int) ≤ m ∧ d.length ≤ 1000000000000 := by
 obtain ⟨⟨d, q⟩, hr⟩ := c9h.1 h
 obtain ⟨p, h1, h2, h3, h4, h5, _⟩ := c7z hr
 exact ⟨p, q, d, hr, h1, h2, h3, h4, h5⟩
theorem b8B {b : List UInt8} : ∀ (n : Nat) (q : Nat) (r r' : a0v) (p' : Int), q ≤ b.length → a2A b n (q : Int) r = some (r', p') → ∃ (s : a0v) (q' : Nat), r' = r ++ s ∧ s.length = n ∧ p' = (q' : Int) ∧ b.drop q = s.flatMap a5F ++ b.drop q' ∧ q' ≤ b.length ∧ ∀ f ∈ s, inF f
 | 0, q, r, r', p', hq, h => by
  simp only [a2A, Option.some.injEq, Prod.mk.injEq] at h
  exact ⟨[], q, by simp [h.1], rfl, h.2.symm, by simp, hq, by simp⟩
 | n + 1, q, r, r', p', hq, h => by
  rw [a2A] at h
  split at h
  ·cases h
  ·rename_i hc
   simp only [Bool.or_eq_true, Bool.not_eq_true', not_or, Bool.not_eq_false] at hc
   obtain ⟨q0, q1, d, e1, e2, e3, e4, e5, e6⟩ := c2T hc.1
   have e0 : q0 = q := by omega
   subst e0
   rw [e1] at hc h
   simp only [rbP, a2F] at hc h
   obtain ⟨q2, v, k, g1, g2, g3, g4, g5, g6, g7⟩ := b6m hc.2
   have g0 : q2 = q1 := by omega
   subst g0
   rw [g3, g4] at h
   obtain ⟨s, q', s1, s2, s3, s4, s5, s6⟩ := b8B n (q2 + k) _ r' p' g6 h
   refine ⟨(a2h d, (v : Int)) :: s, q', by rw [s1]; simp, by simp [s2], s3, ?_, s5, ?_⟩
   ·rw [e3, g5, s4, List.flatMap_cons]
    simp only [a5F, b1w, Int.toNat_natCast, List.append_assoc]
   ·intro f hf
    rcases List.mem_cons.1 hf with rfl | hf
    ·exact ⟨by simp, by simp only; omega, by simp only [b1w]; exact e6⟩
    ·exact s6 f hf
theorem b3I {r : a0v} (hr : ∀ f ∈ r, inF f) (hl : r.length ≤ 1000000000000) : ∀ k, k ≤ r.length → a3r r k = uvL r.length ++ (r.take k).flatMap a5F
 | 0, _ => by rw [a3r, a7P (by omega)]; simp
 | k + 1, h => by
  have hk : k < r.length := by omega
  have hm : r.getD (k : Int).toNat default ∈ r := by rw [a3N hk]; exact List.getElem_mem hk
  obtain ⟨h1, h2, h3⟩ := hr _ hm
  rw [a3r, b3I hr hl k (by omega), a7P (n := ((r.getD (k : Int).toNat default).1.data.toList.length : Int)) (by omega), a7P ⟨h1, h2⟩]
  rw [List.take_add_one, List.getElem?_eq_getElem hk, ← a3N hk]
  simp only [Option.toList_some, List.flatMap_append, List.flatMap_cons, List.flatMap_nil, List.append_nil, a5F, List.append_assoc, Int.toNat_natCast]
theorem b6R {b : List UInt8} {r : a0v} {p : Int} (h : (!uvK b 0 || decide (6 < uvV b 0)) = false) (h2 : a2A b (uvV b 0).toNat (uvP b 0) [] = some (r, p)) : (a2k r = b) ↔ (a1b r = true ∧ p = (b.length : Int)) := by
 simp only [Bool.or_eq_false_iff, Bool.not_eq_false', decide_eq_false_iff_not] at h
 obtain ⟨q, v, k, g1, g2, g3, g4, g5, g6, g7⟩ := b6m h.1
 obtain rfl : q = 0 := by omega
 rw [g3, g4] at h2
 rw [g3] at h
 obtain ⟨s, q', s1, s2, s3, s4, s5, s6⟩ := b8B _ _ _ _ _ g6 h2
 rw [List.nil_append] at s1
 subst s1
 have s2' : r.length = v := by rw [s2]; omega
 have e : b = a3r r r.length ++ b.drop q' := by
  rw [b3I s6 (by omega) r.length (Nat.le_refl _), List.take_length, s2', List.append_assoc, ← s4, ← g5]; rfl
 have hne : b ≠ [] := by
  intro hb
  have := b1j v
  rw [hb] at g5
  have h9 := congrArg List.length g5
  simp only [List.drop_nil, c9i, List.length_nil] at h9
  omega
 constructor
 ·intro h3
  cases hr : a1b r with
  | false => rw [b3A hr] at h3; exact absurd h3.symm hne
  | true =>
   rw [a9E hr rfl] at h3
   refine ⟨rfl, ?_⟩
   have h9 := congrArg List.length e
   rw [h3, c9i, List.length_drop] at h9
   omega
 ·rintro ⟨hr, hp⟩
  have hq : b.drop q' = [] := List.drop_eq_nil_of_le (by omega)
  rw [a9E hr rfl]
  rw [hq, List.append_nil] at e
  exact e.symm
theorem c5h {b : List UInt8} (h : (!uvK b 0 || decide (6 < uvV b 0)) = true) : a4o b = ([], false) := by rw [a4o, c2q h]; rfl
theorem c6r {b : List UInt8} (h : (!uvK b 0 || decide (6 < uvV b 0)) = false) (h2 : a2A b (uvV b 0).toNat (uvP b 0) [] = none) : a4o b = ([], false) := by rw [a4o, c5D h h2]; rfl
theorem c3u {b : List UInt8} {r : a0v} {p : Int} (h : (!uvK b 0 || decide (6 < uvV b 0)) = false) (h2 : a2A b (uvV b 0).toNat (uvP b 0) [] = some (r, p)) (h3 : (!eqL a4b (a2k r) b) = true) : a4o b = ([], false) := by
 rw [a9K, Bool.not_eq_true', decide_eq_false_iff_not, b6R h h2] at h3
 rw [a4o, b4B h h2, if_pos]
 simp only [Bool.or_eq_true, Bool.not_eq_true', decide_eq_false_iff_not]
 cases hr : a1b r with
 | false => exact .inl rfl
 | true => exact .inr (fun e => h3 ⟨hr, e⟩)
theorem c4i {b : List UInt8} {r : a0v} {p : Int} (h : (!uvK b 0 || decide (6 < uvV b 0)) = false) (h2 : a2A b (uvV b 0).toNat (uvP b 0) [] = some (r, p)) (h3 : (!eqL a4b (a2k r) b) = false) : a4o b = (r, true) := by
 rw [a9K, Bool.not_eq_false', decide_eq_true_eq, b6R h h2] at h3
 rw [a4o, b4B h h2, if_neg]
 simp only [Bool.or_eq_true, Bool.not_eq_true', decide_eq_false_iff_not, not_or]
 exact ⟨by rw [h3.1]; simp, fun e => e h3.2⟩
theorem c6a {b : List UInt8} (hb : b.length ≤ 16777216) : KFn Tryz.prog 61 [.one (.dv [] (a0m (b)))] (.tup [(true, [(.key 9001)]), (false, [(.dv [] (.bool ((a4o b).2)))])]) [(9001, some (a0b false (a0I ((a4o b).1))))] := by
 refine ⟨a0O Tryz.func61 rfl Tryz.ntmps61 Tryz.results61 rfl (fun C => ?_)⟩
 refine a1k (x := .tmp 0) (a0a rfl) fun f0 => ?_
 iterate 6 refine z ?_
 refine zC Tryz.call59 ?_ (hf := b0A (b := b) (off := 0) (by omega))
 iterate 17 refine z ?_
 refine yQ rfl (fun c1 => ?_) fun c1 => ?_
 ·refine z ?_
  refine yO rfl rfl (a1v hT hB rfl rfl rfl a1w) rfl ?_
  iterate 3 refine z ?_
  rw [c5h c1]
  refine a0h (a3p 9001 (b := 2) (i := 0) (e := 135) (sz := 2) rfl rfl rfl rfl rfl) ?_
  refine a0h (σ' := ⟨[(2, .box 2 0), (3, .one (.dv [] (.bool (false))))], [(2, 63, [(.key 9001)])], [(9001, some (a0b false (a0I ([]))))]⟩) (a0e ⟨rfl, rfl, trivial⟩ ⟨rfl, trivial⟩ ⟨rfl, trivial⟩ rfl) ?_
  iterate 2 refine z ?_
  refine a1u (a0E hT rfl rfl rfl rfl) (a0l rfl) rfl rfl ?_
  first | exact ⟨rfl, rfl⟩ | skip
 ·have hub := b4D b 0
  have hn6 : uvV b 0 ≤ 6 := by have h8 := c1; simp only [Bool.or_eq_false_iff, decide_eq_false_iff_not] at h8; omega
  iterate 3 refine z ?_
  refine yO rfl rfl (a1v hT hB rfl rfl rfl a1w) rfl ?_
  iterate 3 refine z ?_
  refine a0u ?_
  refine a0u ?_
  refine a0h (a3p 9001 (b := 7) (i := 0) (e := 135) (sz := 2) rfl rfl rfl rfl rfl) ?_
  simp only [a0p, a0k, SV.kill, CV.kill, kk, Nat.reduceBEq]
  refine a0n ?_
  iterate 3 refine z ?_
  refine a1o (ι := Nat × Int × a0v) (fun zz => ⟨[(0, .one (.dv [] (a0m (b)))), (2, .box 2 0), (4, .one (.dv [] (.int .i64 (uvV (b) (0))))), (5, .one (.dv [] (.int .i64 (zz.2.1)))), (7, .box 7 0), (8, .one (.dv [] (.int .i64 ((zz.1 : Int)))))], [(2, 63, [.nil]), (7, 63, [(.key 9001)])], [(9001, some (a0b false (.sl 135 2 (zz.2.2.length) (zz.2.2.flatMap a1B))))]⟩) (fun zz => zz.1 ≤ (uvV b 0).toNat ∧ a2A b (uvV b 0).toNat (uvP b 0) [] = a2A b ((uvV b 0).toNat - zz.1) zz.2.1 zz.2.2 ∧ zz.2.2.length = zz.1) (fun zz => (uvV b 0).toNat - zz.1) ((0, uvP b 0, [])) ?_ (a0e ⟨rfl, rfl, rfl, rfl, rfl, rfl, trivial⟩ ⟨rfl, rfl, trivial⟩ ⟨rfl, trivial⟩ rfl) (fun zz hx => ?_)
  ·exact ⟨Nat.zero_le _, rfl, rfl⟩
  obtain ⟨k, p, r⟩ := zz
  replace hx : k ≤ (uvV b 0).toNat ∧ a2A b (uvV b 0).toNat (uvP b 0) [] = a2A b ((uvV b 0).toNat - k) p r ∧ r.length = k := hx
  obtain ⟨hk, hi, hl⟩ := hx
  show Ok _ _ _ _ _ (⟨[(0, .one (.dv [] (a0m (b)))), (2, .box 2 0), (4, .one (.dv [] (.int .i64 (uvV (b) (0))))), (5, .one (.dv [] (.int .i64 (p)))), (7, .box 7 0), (8, .one (.dv [] (.int .i64 ((k : Int)))))], [(2, 63, [.nil]), (7, 63, [(.key 9001)])], [(9001, some (a0b false (.sl 135 2 (r.length) (r.flatMap a1B))))]⟩ : St)
  iterate 6 refine z ?_
  refine yQ rfl (fun c2 => ?_) fun c2 => ?_
  ·have d2 := c9f c2
   have hk2 : k < (uvV b 0).toNat := by omega
   iterate 7 refine z ?_
   refine zK 700 Tryz.call58 ?_ (hf := a9n (b := b) (off := p) (m := 8) (by omega))
   iterate 11 refine z ?_
   refine zC Tryz.call59 ?_ (hf := b0A (b := b) (off := rbP (rdB b p 8)) (by omega))
   iterate 17 refine z ?_
   refine yQ rfl (fun c3 => ?_) fun c3 => ?_
   ·refine a0u ?_
    refine a0h (σ' := ⟨[(0, .one (.dv [] (a0m (b)))), (2, .box 2 0)], [(2, 63, [.nil])], []⟩) (a0e ⟨rfl, rfl, trivial⟩ ⟨rfl, trivial⟩ trivial rfl) ?_
    refine a0n ?_
    refine yO rfl rfl (a1v hT hB rfl rfl rfl a1w) rfl ?_
    iterate 3 refine z ?_
    rw [c6r c1 (hi.trans (c4X hk2 c3))]
    refine a0h (a3p 9001 (b := 2) (i := 0) (e := 135) (sz := 2) rfl rfl rfl rfl rfl) ?_
    refine a0h (σ' := ⟨[(2, .box 2 0), (3, .one (.dv [] (.bool (false))))], [(2, 63, [(.key 9001)])], [(9001, some (a0b false (a0I ([]))))]⟩) (a0e ⟨rfl, rfl, trivial⟩ ⟨rfl, trivial⟩ ⟨rfl, trivial⟩ rfl) ?_
    iterate 7 refine z ?_
    refine a1u (a0E hT rfl rfl rfl rfl) (a0l rfl) rfl rfl ?_
    first | exact ⟨rfl, rfl⟩ | skip
   ·have hc3 := c3
    iterate 6 refine z ?_
    refine yO rfl rfl (a9O (K := [700]) (e := 5) (xs := (a2F (rdB (b) (p) (8)))) hT rfl rfl rfl rfl (a8Y (k := 700) (c := a0b false (a0m (a2F (rdB (b) (p) (8))))) (a0a rfl) rfl)) rfl ?_
    refine z ?_
    refine yO rfl rfl (a1v hT hB rfl rfl rfl (a1c (a0a rfl) rfl rfl rfl rfl rfl (a1c (a0a rfl) rfl rfl rfl rfl rfl a1w))) rfl ?_
    refine a3H (k := 61) (js := []) hT rfl rfl rfl rfl rfl rfl rfl rfl rfl (a0a rfl) rfl rfl (a0o (a0R rfl) (a0o (a0R rfl) a1y rfl) rfl) (by decide) (by decide) rfl rfl ?_
    simp only [a0p, a0k, SV.kill, CV.kill, kk, Nat.reduceBEq]
    refine a3f (k := 9001) (j := 61) (cs := (r ++ [(a2h (a2F (rdB b p 8)), uvV b (rbP (rdB b p 8)))]).flatMap a1B) (n := (r ++ [(a2h (a2F (rdB b p 8)), uvV b (rbP (rdB b p 8)))]).length) hT rfl rfl rfl rfl rfl rfl rfl (a0a rfl) rfl rfl rfl (a0a rfl) rfl rfl (by decide) (by dsimp only [a0b, KC.old]; omega) (by dsimp only [a0b, KC.old]; omega) (by rw [c9i]; rfl) (by rw [List.flatMap_append]; rfl) ?_
    simp only [a0p, a0k, SV.kill, CV.kill, kk, Nat.reduceBEq]
    iterate 3 refine z ?_
    refine a0n ?_
    iterate 2 refine z ?_
    refine a1H ?_
    iterate 2 refine z ?_
    refine a0n ?_
    iterate 4 refine z ?_
    refine ⟨(k + 1, uvP b (rbP (rdB b p 8)), (r ++ [(a2h (a2F (rdB b p 8)), uvV b (rbP (rdB b p 8)))])), ?_, ?_, a0e ⟨rfl, rfl, rfl, rfl, rfl, rfl, trivial⟩ ⟨rfl, rfl, trivial⟩ ⟨rfl, trivial⟩ rfl⟩
    ·exact ⟨by dsimp only; omega, hi.trans (c3e hk2 hc3), by show (r ++ _).length = k + 1; rw [c9i, hl]; rfl⟩
    ·dsimp only; omega
  ·have d2 := c9g c2
   have hfe := hi.trans (c2P (by omega))
   iterate 8 refine z ?_
   refine a2H 300 rfl rfl rfl Tryz.call46 (a4q (r := r)) (a0g (a0a rfl) (a0t (a0d (a0X rfl rfl) a0r)) a0q) rfl rfl rfl ?_
   refine z ?_
   refine a3T rfl rfl rfl Tryz.call62 (b2g (x := a2k (r)) (y := b) ) (a0g (a0a rfl) (a0C (a0X rfl rfl)) (a0g (a0a rfl) (a0C a0c) a0q)) rfl rfl ?_
   iterate 2 refine z ?_
   refine yQ rfl (fun c4 => ?_) fun c4 => ?_
   ·refine a0u ?_
    refine a0h (σ' := ⟨[(0, .one (.dv [] (a0m (b)))), (2, .box 2 0)], [(2, 63, [.nil])], []⟩) (a0e ⟨rfl, rfl, trivial⟩ ⟨rfl, trivial⟩ trivial rfl) ?_
    refine a0n ?_
    refine yO rfl rfl (a1v hT hB rfl rfl rfl a1w) rfl ?_
    iterate 3 refine z ?_
    rw [c3u c1 hfe c4]
    refine a0h (a3p 9001 (b := 2) (i := 0) (e := 135) (sz := 2) rfl rfl rfl rfl rfl) ?_
    refine a0h (σ' := ⟨[(2, .box 2 0), (3, .one (.dv [] (.bool (false))))], [(2, 63, [(.key 9001)])], [(9001, some (a0b false (a0I ([]))))]⟩) (a0e ⟨rfl, rfl, trivial⟩ ⟨rfl, trivial⟩ ⟨rfl, trivial⟩ rfl) ?_
    iterate 2 refine z ?_
    refine a1u (a0E hT rfl rfl rfl rfl) (a0l rfl) rfl rfl ?_
    first | exact ⟨rfl, rfl⟩ | skip
   ·iterate 7 refine z ?_
    rw [c4i c1 hfe c4]
    refine a0h (σ' := ⟨[(2, .box 2 0), (3, .one (.dv [] (.bool (true))))], [(2, 63, [(.key 9001)])], [(9001, some (a0b false (a0I (r))))]⟩) (a0e ⟨rfl, rfl, trivial⟩ ⟨rfl, trivial⟩ ⟨rfl, trivial⟩ rfl) ?_
    refine z ?_
    refine a1u (a0E hT rfl rfl rfl rfl) (a0l rfl) rfl rfl ?_
    first | exact ⟨rfl, rfl⟩ | skip
section
variable (b : List UInt8) (l1 l2 l3 l4 p : Int)
@[reducible] def ox1 : Option (List UInt8 × Nat) := rdB b (uvP b p) l1
@[reducible] def ox2 : Option (List UInt8 × Nat) := rdB b (rbP (ox1 b l1 p)) l2
@[reducible] def ox3 : Option (List UInt8 × Nat) := rdB b (rbP (ox2 b l1 l2 p)) l3
@[reducible] def ox4 : Option (List UInt8 × Nat) := rdB b (rbP (ox3 b l1 l2 l3 p)) l4
def a5c : Bool := (((!uvK b p || !(ox1 b l1 p).isSome) || !(ox2 b l1 l2 p).isSome) || !(ox3 b l1 l2 l3 p).isSome) || !(ox4 b l1 l2 l3 l4 p).isSome
@[reducible] def a7k : OpT := (uvV b p, a2h (a2F (ox1 b l1 p)), (a3O (a2F (ox2 b l1 l2 p))).1, (a4o (a2F (ox3 b l1 l2 l3 p))).1, a2h (a2F (ox4 b l1 l2 l3 l4 p)))
end
def a3t (b : List UInt8) (l1 l2 l3 l4 : Int) : Nat → Int → List OpT → Option (List OpT)
 | 0, _, l => some l
 | n + 1, p, l => if a5c b l1 l2 l3 l4 p = true then none else a3t b l1 l2 l3 l4 n (rbP (ox4 b l1 l2 l3 l4 p)) (l ++ [a7k b l1 l2 l3 l4 p])
def a3x (b : List UInt8) (l1 l2 l3 l4 : Int) : List OpT × Bool := if (!uvK b 0 || decide (6 < uvV b 0)) = true then ([], false) else match a3t b l1 l2 l3 l4 (uvV b 0).toNat (uvP b 0) [] with
 | none => ([], false)
 | some l => if a1l l = b then (l, true) else ([], false)
def a3s (b : List UInt8) : List OpT × Bool := a3x b 100 100 200 100
section
variable {b : List UInt8} {l1 l2 l3 l4 p : Int} {k n : Nat} {l : List OpT}
theorem c8s (hk : k < n) (hc : a5c b l1 l2 l3 l4 p = false) : a3t b l1 l2 l3 l4 (n - k) p l = a3t b l1 l2 l3 l4 (n - (k + 1)) (rbP (ox4 b l1 l2 l3 l4 p)) (l ++ [a7k b l1 l2 l3 l4 p]) := by
 rw [show n - k = (n - (k + 1)) + 1 by omega, a3t, if_neg (by rw [hc]; simp)]
theorem b0c (hk : k < n) (hc : a5c b l1 l2 l3 l4 p = true) : a3t b l1 l2 l3 l4 (n - k) p l = none := by
 rw [show n - k = (n - (k + 1)) + 1 by omega, a3t, if_pos hc]
theorem c4p (hk : ¬ k < n) : a3t b l1 l2 l3 l4 (n - k) p l = some l := by rw [show n - k = 0 by omega, a3t]
theorem c7p (h : (!uvK b 0 || decide (6 < uvV b 0)) = true) : a3x b l1 l2 l3 l4 = ([], false) := by rw [a3x, if_pos h]
theorem a9X (h : (!uvK b 0 || decide (6 < uvV b 0)) = false) (h2 : a3t b l1 l2 l3 l4 (uvV b 0).toNat (uvP b 0) [] = none) : a3x b l1 l2 l3 l4 = ([], false) := by rw [a3x, if_neg (by rw [h]; simp), h2]
theorem c2i (h : (!uvK b 0 || decide (6 < uvV b 0)) = false) (h2 : a3t b l1 l2 l3 l4 (uvV b 0).toNat (uvP b 0) [] = some l) (h3 : (!eqL a4b (a1l l) b) = true) : a3x b l1 l2 l3 l4 = ([], false) := by
 rw [a9K, Bool.not_eq_true', decide_eq_false_iff_not] at h3
 rw [a3x, if_neg (by rw [h]; simp), h2]
 simp only
 rw [if_neg h3]
theorem c4h (h : (!uvK b 0 || decide (6 < uvV b 0)) = false) (h2 : a3t b l1 l2 l3 l4 (uvV b 0).toNat (uvP b 0) [] = some l) (h3 : (!eqL a4b (a1l l) b) = false) : a3x b l1 l2 l3 l4 = (l, true) := by
 rw [a9K, Bool.not_eq_false', decide_eq_true_eq] at h3
 rw [a3x, if_neg (by rw [h]; simp), h2]
 simp only
 rw [if_pos h3]
end
def a4a (o : OpT) : List UInt8 := uvL o.1.toNat ++ (uvL o.2.1.data.toList.length ++ o.2.1.data.toList ++ (uvL (a1z o.2.2.1).length ++ a1z o.2.2.1 ++ (uvL (a2k o.2.2.2.1).length ++ a2k o.2.2.2.1 ++ (uvL o.2.2.2.2.data.toList.length ++ o.2.2.2.2.data.toList))))
def a2Q (o : OpT) : OpT := (o.1, o.2.1, (a3O (a1z o.2.2.1)).1, o.2.2.2.1, o.2.2.2.2)
theorem b3S {o : OpT} (h : a1s o = true) : o.2.1.data.toList.length ≤ 8 ∧ (a1z o.2.2.1).length ≤ 19 ∧ (a2k o.2.2.2.1).length ≤ 126 ∧ o.2.2.2.2.data.toList.length ≤ 8 ∧ 1 ≤ o.1 ∧ o.1 ≤ 6 ∧ a1b o.2.2.2.1 = true := by
 have h1 := b4Q h
 have h2 := a9s o.2.2.1
 have h3 := b0q o.2.2.2.1
 simp only [a1s, Bool.and_eq_true, decide_eq_true_eq] at h
 exact ⟨h1.1, h2, h3, h1.2, h.1.1.1.1.1, h.1.1.1.1.2, h.1.2⟩
theorem c3P {B : List UInt8} {o : OpT} (h : a1s o = true) : a3q B o 4 = B ++ a4a o := by
 obtain ⟨h1, h2, h3, h4, h5, h6, _⟩ := b3S h
 have e : ∀ (X : List UInt8) (Y : List UInt8), Y.length ≤ 1000 → a8W X Y = X ++ (uvL Y.length ++ Y) := fun X Y hY => by rw [a8W, a7P (by omega), Int.toNat_natCast, List.append_assoc]
 have p0 : (a4s o).getD ((0 : Nat) : Int).toNat default = o.2.1.data.toList := rfl
 have p1 : (a4s o).getD ((1 : Nat) : Int).toNat default = a1z o.2.2.1 := rfl
 have p2 : (a4s o).getD ((2 : Nat) : Int).toNat default = a2k o.2.2.2.1 := rfl
 have p3 : (a4s o).getD ((3 : Nat) : Int).toNat default = o.2.2.2.2.data.toList := rfl
 rw [a3q, a3q, a3q, a3q, a3q, p0, p1, p2, p3, e _ _ (by omega), e _ _ (by omega), e _ _ (by omega), e _ _ (by omega), a7P (by omega)]
 simp only [a4a, List.append_assoc]
theorem a9e {l : List OpT} (h : a2f l = true) : ∀ k, k ≤ l.length → a2r l k = uvL l.length ++ (l.take k).flatMap a4a
 | 0, _ => by
  have := b0I h
  rw [a2r, a7P (by omega)]; simp
 | k + 1, hk => by
  have hk2 : k < l.length := by omega
  rw [a2r, a9e h k (by omega), c3P (c0p h hk2), List.take_add_one, List.getElem?_eq_getElem hk2, ← a3N hk2]
  simp only [Option.toList_some, List.flatMap_append, List.flatMap_cons, List.flatMap_nil, List.append_nil, List.append_assoc]
theorem b1F {b : List UInt8} {off : Int} {v k : Nat} (h : rdU b off = some (v, k)) : uvK b off = true ∧ uvV b off = (v : Int) ∧ uvP b off = off + (k : Int) := by
 unfold uvK uvV uvP
 rw [h]
 exact ⟨rfl, rfl, rfl⟩
theorem b9h {b : List UInt8} : ∀ (s : a0v) (q : Nat) (r : a0v) (rest : List UInt8), (∀ f ∈ s, inF f ∧ f.1.data.toList.length ≤ 8) → q ≤ b.length → b.drop q = s.flatMap a5F ++ rest → ∃ q' : Nat, a2A b s.length (q : Int) r = some (r ++ s, (q' : Int)) ∧ b.drop q' = rest ∧ q' ≤ b.length
 | [], q, r, rest, _, hq, h => ⟨q, by simp [a2A], by simpa using h, hq⟩
 | f :: s, q, r, rest, hs, hq, h => by
  obtain ⟨⟨f1, f2, f3⟩, f4⟩ := hs f (by simp)
  rw [List.flatMap_cons] at h
  have h' : b.drop q = uvL f.1.data.toList.length ++ f.1.data.toList ++ (uvL f.2.toNat ++ (s.flatMap a5F ++ rest)) := by rw [h, a5F]; simp only [List.append_assoc]
  obtain ⟨g1, g2, g3⟩ := a9V (m := 8) h' (by omega) (by omega)
  obtain ⟨k1, k2, k3⟩ := b0n g2 (by omega)
  obtain ⟨u1, u2, u3⟩ := b1F k1
  obtain ⟨q', r1, r2, r3⟩ := b9h s _ (r ++ [f]) rest (fun g hg => hs g (by simp [hg])) k3 k2
  refine ⟨q', ?_, r2, r3⟩
  have eP : rbP (rdB b (q : Int) 8) = ((q + (uvL f.1.data.toList.length).length + f.1.data.toList.length : Nat) : Int) := by rw [g1]; rfl
  have eH : a2F (rdB b (q : Int) 8) = f.1.data.toList := by rw [g1]; rfl
  rw [List.length_cons, a2A, eP, eH, u1, u2, u3, if_neg (by rw [g1]; simp), b0D, show ((f.2.toNat : Nat) : Int) = f.2 by omega]
  have : ((q + (uvL f.1.data.toList.length).length + f.1.data.toList.length : Nat) : Int) + ((uvL f.2.toNat).length : Int) = ((q + (uvL f.1.data.toList.length).length + f.1.data.toList.length + (uvL f.2.toNat).length : Nat) : Int) := by omega
  rw [this, r1]
  simp
theorem c3F {r : a0v} (h : a1b r = true) : a4o (a2k r) = (r, true) := by
 have hl : r.length ≤ 6 := by
  have h0 := h
  simp only [a1b, Bool.and_eq_true, decide_eq_true_eq] at h0; omega
 have hf : ∀ f ∈ r, inF f ∧ f.1.data.toList.length ≤ 8 := fun f hm => by
  obtain ⟨i, hi, rfl⟩ := List.mem_iff_getElem.1 hm
  have h1 := b0i h hi
  rw [a3N hi] at h1
  have h2 := (a4Z h1.1).2
  have h3 : r[i].1.data.toList.length ≤ 8 := h2
  exact ⟨⟨h1.2.1, by omega, by omega⟩, h3⟩
 have e : a2k r = uvL r.length ++ r.flatMap a5F := by
  rw [a9E h rfl, b3I (fun f hm => (hf f hm).1) (by omega) r.length (Nat.le_refl _), List.take_length]
 obtain ⟨b, hb⟩ : ∃ b, b = a2k r := ⟨_, rfl⟩
 rw [← hb]
 rw [← hb] at e
 have e0 : b.drop 0 = uvL r.length ++ r.flatMap a5F := by rw [e]; rfl
 obtain ⟨k1, k2, k3⟩ := b0n e0 (by omega)
 obtain ⟨u1, u2, u3⟩ := b1F k1
 have e2 : b.drop (0 + (uvL r.length).length) = r.flatMap a5F ++ [] := by rw [k2, List.append_nil]
 obtain ⟨q', r1, r2, r3⟩ := b9h r _ [] [] hf k3 e2
 have hc : (!uvK b 0 || decide (6 < uvV b 0)) = false := by
  have u1' : uvK b 0 = true := u1
  have u2' : uvV b 0 = (r.length : Int) := u2
  rw [u1', u2', decide_eq_false (by omega)]; rfl
 have h2 : a2A b (uvV b 0).toNat (uvP b 0) [] = some (r, (q' : Int)) := by
  have u2' : uvV b 0 = (r.length : Int) := u2
  have u3' : uvP b 0 = ((0 + (uvL r.length).length : Nat) : Int) := by rw [show uvP b 0 = ((0 : Nat) : Int) + ((uvL r.length).length : Int) from u3]; omega
  rw [u2', u3', Int.toNat_natCast, r1, List.nil_append]
 have hq : q' = b.length := by
  have := congrArg List.length r2
  rw [List.length_drop, List.length_nil] at this; omega
 rw [a4o, b4B hc h2, if_neg]
 simp only [Bool.or_eq_true, Bool.not_eq_true', decide_eq_false_iff_not, not_or]
 exact ⟨by rw [h]; simp, fun e => e (by omega)⟩
theorem c8E {b : List UInt8} {q : Nat} {o : OpT} {rest : List UInt8} {l1 l2 l3 l4 : Int} (ho : a1s o = true) (h : b.drop q = a4a o ++ rest) (m1 : ∀ n : Nat, n ≤ 19 → n ≤ b.length → (n : Int) ≤ l1 ∧ (n : Int) ≤ l2 ∧ (n : Int) ≤ l4) (m3 : ∀ n : Nat, n ≤ 126 → n ≤ b.length → (n : Int) ≤ l3) :
  a5c b l1 l2 l3 l4 (q : Int) = false ∧ a7k b l1 l2 l3 l4 (q : Int) = a2Q o ∧ ∃ q' : Nat, rbP (ox4 b l1 l2 l3 l4 (q : Int)) = (q' : Int) ∧ b.drop q' = rest ∧ q' ≤ b.length := by
 obtain ⟨h1, h2, h3, h4, h5, h6, h7⟩ := b3S ho
 rw [a4a] at h
 simp only [List.append_assoc] at h
 obtain ⟨k1, k2, k3⟩ := b0n h (by omega)
 obtain ⟨u1, u2, u3⟩ := b1F k1
 have d2 := k2
 rw [← List.append_assoc] at d2
 have n1 : o.2.1.data.toList.length ≤ b.length := by have := congrArg List.length k2; simp only [List.length_drop, c9i] at this; omega
 obtain ⟨a1, a2, a3⟩ := a9V (m := l1) d2 (by omega) (m1 _ (by omega) n1).1
 have d3 := a2
 rw [← List.append_assoc] at d3
 have n2 : (a1z o.2.2.1).length ≤ b.length := by have := congrArg List.length a2; simp only [List.length_drop, c9i] at this; omega
 obtain ⟨b1, b2, b3⟩ := a9V (m := l2) d3 (by omega) (m1 _ (by omega) n2).2.1
 have d4 := b2
 rw [← List.append_assoc] at d4
 have n3 : (a2k o.2.2.2.1).length ≤ b.length := by have := congrArg List.length b2; simp only [List.length_drop, c9i] at this; omega
 obtain ⟨c1, c2, c3⟩ := a9V (m := l3) d4 (by omega) (m3 _ (by omega) n3)
 have d5 := c2
 rw [← List.append_assoc] at d5
 have n4 : o.2.2.2.2.data.toList.length ≤ b.length := by have := congrArg List.length c2; simp only [List.length_drop, c9i] at this; omega
 obtain ⟨e1, e2, e3⟩ := a9V (m := l4) d5 (by omega) (m1 _ (by omega) n4).2.2
 have x1 : ox1 b l1 (q : Int) = rdB b ((q + (uvL o.1.toNat).length : Nat) : Int) l1 := by
  show rdB b (uvP b (q : Int)) l1 = _
  rw [u3, show (q : Int) + ((uvL o.1.toNat).length : Int) = ((q + (uvL o.1.toNat).length : Nat) : Int) by omega]
 rw [a1] at x1
 have x2 : ox2 b l1 l2 (q : Int) = rdB b (rbP (ox1 b l1 (q : Int))) l2 := rfl
 rw [x1, show ∀ (d : List UInt8) (n : Nat), rbP (some (d, n)) = (n : Int) from fun _ _ => rfl, b1] at x2
 have x3 : ox3 b l1 l2 l3 (q : Int) = rdB b (rbP (ox2 b l1 l2 (q : Int))) l3 := rfl
 rw [x2, show ∀ (d : List UInt8) (n : Nat), rbP (some (d, n)) = (n : Int) from fun _ _ => rfl, c1] at x3
 have x4 : ox4 b l1 l2 l3 l4 (q : Int) = rdB b (rbP (ox3 b l1 l2 l3 (q : Int))) l4 := rfl
 rw [x3, show ∀ (d : List UInt8) (n : Nat), rbP (some (d, n)) = (n : Int) from fun _ _ => rfl, e1] at x4
 refine ⟨?_, ?_, ⟨_, ?_, e2, e3⟩⟩
 ·unfold a5c
  rw [x1, x2, x3, x4, u1]; rfl
 ·unfold a7k
  rw [x1, x2, x3, x4, u2]
  simp only [a2F, b0D, c3F h7, a2Q]
  rw [show ((o.1.toNat : Nat) : Int) = o.1 by omega]
 ·rw [x4]; rfl
theorem c0G {b : List UInt8} {l1 l2 l3 l4 : Int} (m1 : ∀ n : Nat, n ≤ 19 → n ≤ b.length → (n : Int) ≤ l1 ∧ (n : Int) ≤ l2 ∧ (n : Int) ≤ l4) (m3 : ∀ n : Nat, n ≤ 126 → n ≤ b.length → (n : Int) ≤ l3) : ∀ (s : List OpT) (q : Nat) (l : List OpT), (∀ o ∈ s, a1s o = true) → b.drop q = s.flatMap a4a → a3t b l1 l2 l3 l4 s.length (q : Int) l = some (l ++ s.map a2Q)
 | [], q, l, _, _ => by simp [a3t]
 | o :: s, q, l, hs, h => by
  rw [List.flatMap_cons] at h
  obtain ⟨g1, g2, q', g3, g4, _⟩ := c8E (hs o (by simp)) h m1 m3
  rw [List.length_cons, a3t, g1, g2, g3, if_neg (by simp), c0G m1 m3 s q' _ (fun x hx => hs x (by simp [hx])) g4]
  simp
theorem c8b {n : Nat} (h : n < 281474976710656) : a2R (be6 n) = n := by
 have r : List.range 6 = [0, 1, 2, 3, 4, 5] := rfl
 unfold be6
 rw [r]
 simp [a2R]
 omega
theorem b9Y {k : a0K} (h : a1a k = true) : a3O (a1z k) = (k, true) := by
 have hr := a7o h
 have hb0 : (((a1z k).getD 0 default).toNat : Int) = k.1 := by
  rw [a1z, if_pos h]
  simp only [List.cons_append, List.getD_cons_zero]
  rw [show (UInt8.ofNat k.1.toNat).toNat = k.1.toNat % 256 by simp]
  omega
 have hne : (a1z k).length ≠ 0 := by rw [a1z, if_pos h]; simp
 have h7 : (((a1z k).getD 0 default).toNat : Int) = 2 ∨ 7 ≤ (a1z k).length := by
  rw [hb0]
  by_cases h2 : k.1 = 2
  ·exact .inl h2
  ·right
   rw [a1z, if_pos h, if_neg h2]
   simp only [c9i, List.length_cons, a8b]; omega
 have hk : k = kOf (a1z k) := by
  rw [kOf]
  by_cases h2 : k.1 = 2
  ·rw [if_pos (by rw [hb0, h2])]
   have e : a1z k = UInt8.ofNat k.1.toNat :: k.2.2.data.toList := by rw [a1z, if_pos h, if_pos h2]; rfl
   have h0 : k.2.1 = 0 := by
    have h9 := h
    simp only [a1a, Bool.and_eq_true, h2] at h9
    have h10 := h9.1.2
    simpa using h10
   rw [e, List.drop_succ_cons, List.drop_zero, b0D]
   obtain ⟨a, b, c⟩ := k
   simp only at h2 h0 ⊢
   rw [h2, h0]
  ·rw [if_neg (by rw [hb0]; exact h2), hb0]
   have e : (a1z k).drop 1 = be6 (keyN k) ++ k.2.2.data.toList := by rw [a1z, if_pos h, if_neg h2]; rfl
   rw [e, List.take_left' (a8b _), List.drop_left' (a8b _), b0D, c8b (by unfold keyN; omega)]
   have : ((keyN k : Nat) : Int) - 1000000000000 = k.2.1 := by unfold keyN; omega
   rw [this]
 exact b2p hne h7 hk h
theorem b4H {o : OpT} : a4a (a2Q o) = a4a o ∧ (a1s o = true → a1s (a2Q o) = true) := by
 cases hi : a1a o.2.2.1 with
 | false =>
  have e : a3O (a1z o.2.2.1) = ((0, 0, ByteArray.empty), false) := by rw [a7j hi]; exact b7e rfl
  refine ⟨?_, fun h => ?_⟩
  ·simp only [a4a, a2Q, e, a7j hi]
   rw [a7j (by decide)]
  ·simp only [a1s, a2Q, Bool.and_eq_true, Bool.or_eq_true, hi] at h ⊢
   refine ⟨⟨⟨h.1.1.1, ?_⟩, h.1.2⟩, h.2⟩
   rcases h.1.1.2 with h1 | h1
   ·exact .inl h1
   ·cases h1
 | true =>
  have e : a2Q o = o := by rw [a2Q, b9Y hi]
  rw [e]
  exact ⟨rfl, fun h => h⟩
theorem c0a {l : List OpT} (h : a2f l = true) : a2f (l.map a2Q) = true := by
 simp only [a2f, Bool.and_eq_true, List.all_eq_true, decide_eq_true_eq] at h ⊢
 refine ⟨fun x hx => ?_, by rw [List.length_map]; exact h.2⟩
 obtain ⟨o, ho, rfl⟩ := List.mem_map.1 hx
 exact b4H.2 (h.1 o ho)
theorem c7Q {l : List OpT} (h : a2f l = true) : a1l (l.map a2Q) = a1l l := by
 rw [a8e (c0a h) rfl, a8e h rfl, a9e (c0a h) _ (Nat.le_refl _), a9e h _ (Nat.le_refl _), List.take_length, List.take_length, List.length_map]
 congr 1
 induction l with
 | nil => rfl
 | cons o l ih =>
  rw [List.map_cons, List.flatMap_cons, List.flatMap_cons, b4H.1, ih]
  simp only [a2f, Bool.and_eq_true, List.all_eq_true, decide_eq_true_eq, List.length_cons] at h ⊢
  exact ⟨fun x hx => h.1 x (by simp [hx]), by omega⟩
theorem b6t {l : List OpT} (h : a2f l = true) {l1 l2 l3 l4 : Int} (m1 : ∀ n : Nat, n ≤ 19 → n ≤ (a1l l).length → (n : Int) ≤ l1 ∧ (n : Int) ≤ l2 ∧ (n : Int) ≤ l4) (m3 : ∀ n : Nat, n ≤ 126 → n ≤ (a1l l).length → (n : Int) ≤ l3) : a3x (a1l l) l1 l2 l3 l4 = (l.map a2Q, true) := by
 have hl := b0I h
 have e : a1l l = uvL l.length ++ l.flatMap a4a := by rw [a8e h rfl, a9e h _ (Nat.le_refl _), List.take_length]
 obtain ⟨b, hb⟩ : ∃ b, b = a1l l := ⟨_, rfl⟩
 have hn := c7Q h
 rw [← hb] at m1 m3 e hn ⊢
 have e0 : b.drop 0 = uvL l.length ++ l.flatMap a4a := by rw [e]; rfl
 obtain ⟨k1, k2, k3⟩ := b0n e0 (by omega)
 obtain ⟨u1, u2, u3⟩ := b1F k1
 have u1' : uvK b 0 = true := u1
 have u2' : uvV b 0 = (l.length : Int) := u2
 have u3' : uvP b 0 = ((0 + (uvL l.length).length : Nat) : Int) := by rw [show uvP b 0 = ((0 : Nat) : Int) + ((uvL l.length).length : Int) from u3]; omega
 have ho : ∀ o ∈ l, a1s o = true := fun o ho => by
  simp only [a2f, Bool.and_eq_true, List.all_eq_true] at h
  exact h.1 o ho
 have r1 := c0G m1 m3 l _ [] ho k2
 rw [a3x, if_neg (by rw [u1', u2', decide_eq_false (by omega)]; simp), u2', u3', Int.toNat_natCast, r1]
 simp only [List.nil_append]
 rw [if_pos hn]
theorem b9T {b : List UInt8} {l1 l2 l3 l4 : Int} {l : List OpT} (h : a3x b l1 l2 l3 l4 = (l, true)) : a2f l = true ∧ a1l l = b := by
 unfold a3x at h
 split at h
 ·cases h
 ·rename_i hc
  split at h
  ·cases h
  ·rename_i l' h2
   split at h
   ·rename_i h3
    simp only [Prod.mk.injEq, and_true] at h
    subst h
    refine ⟨?_, h3⟩
    cases ha : a2f l' with
    | true => rfl
    | false =>
     rw [b2n ha] at h3
     subst h3
     exfalso
     apply hc
     have : uvK [] 0 = false := rfl
     rw [this]; rfl
   ·cases h
theorem b9m (b : List UInt8) (l1 l2 l3 l4 : Int) : a3x b l1 l2 l3 l4 = ([], false) ∨ ∃ l, a3x b l1 l2 l3 l4 = (l, true) := by
 unfold a3x
 split
 ·exact .inl rfl
 ·split
  ·exact .inl rfl
  ·split
   ·exact .inr ⟨_, rfl⟩
   ·exact .inl rfl
theorem b9s {l : List OpT} (h : a2f l = true) : a3s (a1l l) = (l.map a2Q, true) := b6t h (fun n h1 _ => by omega) (fun n h1 _ => by omega)
theorem b5J {l : List OpT} (h : a2f l = true) : a3x (a1l l) ((a1l l).length : Int) ((a1l l).length : Int) ((a1l l).length : Int) ((a1l l).length : Int) = (l.map a2Q, true) := b6t h (fun n _ h1 => by omega) (fun n _ h1 => by omega)
theorem c4T (b : List UInt8) : a3x b (b.length : Int) (b.length : Int) (b.length : Int) (b.length : Int) = a3s b := by
 rcases b9m b (b.length : Int) (b.length : Int) (b.length : Int) (b.length : Int) with h1 | ⟨l, h1⟩
 ·rcases b9m b 100 100 200 100 with h2 | ⟨l, h2⟩
  ·rw [h1, a3s, h2]
  ·obtain ⟨h3, h4⟩ := b9T h2
   subst h4
   rw [b5J h3] at h1; simp at h1
 ·obtain ⟨h3, h4⟩ := b9T h1
  subst h4
  rw [b5J h3, b9s h3]
theorem c2g {b : List UInt8} (hb : b.length ≤ 16777216) : KFn Tryz.prog 29 [.one (.dv [] (a0m (b)))] (.tup [(false, [(.key 95000)]), (false, [(.dv [] (.bool ((a3s b).2)))])]) [(95000, some (a0b false (a2a ((a3s b).1))))] := by
 refine ⟨a0O Tryz.func29 rfl Tryz.ntmps29 Tryz.results29 rfl (fun C => ?_)⟩
 rw [← c4T]
 refine a1k (x := .tmp 0) (a0a rfl) fun f0 => ?_
 iterate 6 refine z ?_
 refine zC Tryz.call59 ?_ (hf := b0A (b := b) (off := 0) (by omega))
 iterate 17 refine z ?_
 refine yQ rfl (fun c1 => ?_) fun c1 => ?_
 ·refine z ?_
  refine a2J (k := 95000) hT rfl rfl rfl rfl rfl rfl rfl rfl ?_
  iterate 3 refine z ?_
  rw [c7p c1]
  refine a0h (σ' := ⟨[(2, .one (.key 95000)), (3, .one (.dv [] (.bool (false))))], [], [(95000, some (a0b false (a2a ([]))))]⟩) (a0e ⟨rfl, rfl, trivial⟩ trivial ⟨rfl, trivial⟩ rfl) ?_
  iterate 2 refine z ?_
  refine a1u (a0l rfl) (a0l rfl) rfl rfl ?_
  first | exact ⟨rfl, rfl⟩ | skip
 ·have hub := b4D b 0
  have hn6 : uvV b 0 ≤ 6 := by have h8 := c1; simp only [Bool.or_eq_false_iff, decide_eq_false_iff_not] at h8; omega
  iterate 3 refine z ?_
  refine a2J (k := 95000) hT rfl rfl rfl rfl rfl rfl rfl rfl ?_
  iterate 7 refine z ?_
  refine a1o (ι := Nat × Int × List OpT) (fun zz => ⟨[(0, .one (.dv [] (a0m (b)))), (4, .one (.dv [] (.int .i64 (uvV (b) (0))))), (5, .one (.dv [] (.int .i64 (zz.2.1)))), (7, .one (.key 95000)), (8, .one (.dv [] (.int .i64 ((zz.1 : Int)))))], [], [(95000, some (a0b false (.sl 65 7 (zz.2.2.length) (zz.2.2.flatMap eOp))))]⟩) (fun zz => zz.1 ≤ (uvV b 0).toNat ∧ a3t b (((b).length : Int)) (((b).length : Int)) (((b).length : Int)) (((b).length : Int)) (uvV b 0).toNat (uvP b 0) [] = a3t b (((b).length : Int)) (((b).length : Int)) (((b).length : Int)) (((b).length : Int)) ((uvV b 0).toNat - zz.1) zz.2.1 zz.2.2 ∧ zz.2.2.length = zz.1) (fun zz => (uvV b 0).toNat - zz.1) ((0, uvP b 0, [])) ?_ (a0e ⟨rfl, rfl, rfl, rfl, rfl, trivial⟩ trivial ⟨rfl, trivial⟩ rfl) (fun zz hx => ?_)
  ·exact ⟨Nat.zero_le _, rfl, rfl⟩
  obtain ⟨k, p, l⟩ := zz
  replace hx : k ≤ (uvV b 0).toNat ∧ a3t b (((b).length : Int)) (((b).length : Int)) (((b).length : Int)) (((b).length : Int)) (uvV b 0).toNat (uvP b 0) [] = a3t b (((b).length : Int)) (((b).length : Int)) (((b).length : Int)) (((b).length : Int)) ((uvV b 0).toNat - k) p l ∧ l.length = k := hx
  obtain ⟨hk, hi, hl⟩ := hx
  show Ok _ _ _ _ _ (⟨[(0, .one (.dv [] (a0m (b)))), (4, .one (.dv [] (.int .i64 (uvV (b) (0))))), (5, .one (.dv [] (.int .i64 (p)))), (7, .one (.key 95000)), (8, .one (.dv [] (.int .i64 ((k : Int)))))], [], [(95000, some (a0b false (.sl 65 7 (l.length) (l.flatMap eOp))))]⟩ : St)
  iterate 6 refine z ?_
  refine yQ rfl (fun c2 => ?_) fun c2 => ?_
  ·have d2 := c9f c2
   have hk2 : k < (uvV b 0).toNat := by omega
   iterate 5 refine z ?_
   refine yO rfl rfl (a1v hT hB rfl rfl rfl a1w) rfl ?_
   iterate 6 refine z ?_
   refine zC Tryz.call59 ?_ (hf := b0A (b := b) (off := p) (by omega))
   iterate 10 refine z ?_
   refine yO rfl rfl (c6j (len := 4) (e := 22) hT rfl rfl (by kernel_rfl) (by kernel_rfl)) rfl ?_
   iterate 8 refine z ?_
   refine c3I 5 ?_
   refine a3Z ?_
   iterate 3 refine z ?_
   refine a0u ?_
   refine yQ rfl (fun c3 => ?_) fun c3 => ?_
   ·have d3 := c9f c3
    iterate 11 refine z ?_
    refine yQ rfl (fun c4 => ?_) fun c4 => ?_
    ·refine a0n ?_
     iterate 5 refine z ?_
     refine zK 51000 Tryz.call58 ?_ (hf := a9n (b := b) (off := uvP (b) (p)) (m := (((b)).length : Int)) (by omega))
     iterate 4 refine z ?_
     refine yO rfl rfl (a6s (len := 4) (e := 22) (sz := 1) rfl (by kernel_rfl) (by kernel_rfl) rfl (a0a rfl) (a0a rfl) (by decide) (by decide)) rfl ?_
     iterate 3 refine z ?_
     refine a1H ?_
     iterate 2 refine z ?_
     refine a0n ?_
     refine yO rfl rfl (a3E (n := 1) (a3M rfl (a0a rfl) (a0i (a0j rfl)) (a2P (by omega) (by omega))) (by decide)) rfl ?_
     iterate 2 refine z ?_
     refine a3Z ?_
     iterate 3 refine z ?_
     refine a0u ?_
     refine yQ rfl (fun c5 => ?_) fun c5 => ?_
     ·have d5 := c9f c5
      iterate 11 refine z ?_
      refine yQ rfl (fun c6 => ?_) fun c6 => ?_
      ·refine a0n ?_
       iterate 5 refine z ?_
       refine zK 52000 Tryz.call58 ?_ (hf := a9n (b := b) (off := rbP (rdB (b) (uvP (b) (p)) ((((b)).length : Int)))) (m := (((b)).length : Int)) (by omega))
       iterate 4 refine z ?_
       refine yO rfl rfl (a6s (len := 4) (e := 22) (sz := 1) rfl (by kernel_rfl) (by kernel_rfl) rfl (a0a rfl) (a0a rfl) (by decide) (by decide)) rfl ?_
       iterate 3 refine z ?_
       refine a1H ?_
       iterate 2 refine z ?_
       refine a0n ?_
       refine yO rfl rfl (a3E (n := 2) (a3M rfl (a0a rfl) (a0i (a0j rfl)) (a2P (by omega) (by omega))) (by decide)) rfl ?_
       iterate 2 refine z ?_
       refine a3Z ?_
       iterate 3 refine z ?_
       refine a0u ?_
       refine yQ rfl (fun c7 => ?_) fun c7 => ?_
       ·have d7 := c9f c7
        iterate 11 refine z ?_
        refine yQ rfl (fun c8 => ?_) fun c8 => ?_
        ·refine a0n ?_
         iterate 5 refine z ?_
         refine zK 53000 Tryz.call58 ?_ (hf := a9n (b := b) (off := rbP (rdB (b) (rbP (rdB (b) (uvP (b) (p)) ((((b)).length : Int)))) ((((b)).length : Int)))) (m := (((b)).length : Int)) (by omega))
         iterate 4 refine z ?_
         refine yO rfl rfl (a6s (len := 4) (e := 22) (sz := 1) rfl (by kernel_rfl) (by kernel_rfl) rfl (a0a rfl) (a0a rfl) (by decide) (by decide)) rfl ?_
         iterate 3 refine z ?_
         refine a1H ?_
         iterate 2 refine z ?_
         refine a0n ?_
         refine yO rfl rfl (a3E (n := 3) (a3M rfl (a0a rfl) (a0i (a0j rfl)) (a2P (by omega) (by omega))) (by decide)) rfl ?_
         iterate 2 refine z ?_
         refine a3Z ?_
         iterate 3 refine z ?_
         refine a0u ?_
         refine yQ rfl (fun c9 => ?_) fun c9 => ?_
         ·have d9 := c9f c9
          iterate 11 refine z ?_
          refine yQ rfl (fun c10 => ?_) fun c10 => ?_
          ·refine a0n ?_
           iterate 5 refine z ?_
           refine zK 54000 Tryz.call58 ?_ (hf := a9n (b := b) (off := rbP (rdB (b) (rbP (rdB (b) (rbP (rdB (b) (uvP (b) (p)) ((((b)).length : Int)))) ((((b)).length : Int)))) ((((b)).length : Int)))) (m := (((b)).length : Int)) (by omega))
           iterate 4 refine z ?_
           refine yO rfl rfl (a6s (len := 4) (e := 22) (sz := 1) rfl (by kernel_rfl) (by kernel_rfl) rfl (a0a rfl) (a0a rfl) (by decide) (by decide)) rfl ?_
           iterate 3 refine z ?_
           refine a1H ?_
           iterate 2 refine z ?_
           refine a0n ?_
           refine yO rfl rfl (a3E (n := 4) (a3M rfl (a0a rfl) (a0i (a0j rfl)) (a2P (by omega) (by omega))) (by decide)) rfl ?_
           iterate 2 refine z ?_
           refine a3Z ?_
           iterate 3 refine z ?_
           refine a0u ?_
           refine yQ rfl (fun c11 => ?_) fun c11 => ?_
           ·exact absurd c11 (by decide)
           ·have d11 := c9g c11
            iterate 10 refine z ?_
            refine yQ rfl (fun c12 => ?_) fun c12 => ?_
            ·refine a0u ?_
             refine a0h (σ' := ⟨[(0, .one (.dv [] (a0m (b))))], [], []⟩) (a0e ⟨rfl, trivial⟩ trivial trivial rfl) ?_
             refine a0n ?_
             refine a2J (k := 95000) hT rfl rfl rfl rfl rfl rfl rfl rfl ?_
             iterate 3 refine z ?_
             rw [a9X c1 (hi.trans (b0c hk2 (by simp only [a5c]; simp [*])))]
             refine a0h (σ' := ⟨[(2, .one (.key 95000)), (3, .one (.dv [] (.bool (false))))], [], [(95000, some (a0b false (a2a ([]))))]⟩) (a0e ⟨rfl, rfl, trivial⟩ trivial ⟨rfl, trivial⟩ rfl) ?_
             iterate 7 refine z ?_
             refine a1u (a0l rfl) (a0l rfl) rfl rfl ?_
             first | exact ⟨rfl, rfl⟩ | skip
            ·iterate 3 refine z ?_
             refine yO rfl rfl (a6s (len := 4) (e := 22) (sz := 1) rfl (by kernel_rfl) (by kernel_rfl) rfl (a0a rfl) (a0i (a0j rfl)) (by decide) (by decide)) rfl ?_
             refine z ?_
             refine yO rfl rfl (a9O (K := [51000]) (e := 5) (xs := (a2F (rdB (b) (uvP (b) (p)) ((((b)).length : Int))))) hT rfl rfl rfl rfl (a8Y (k := 51000) (c := a0b false (a0m (a2F (rdB (b) (uvP (b) (p)) ((((b)).length : Int)))))) (a0a rfl) rfl)) rfl ?_
             iterate 4 refine z ?_
             refine yO rfl rfl (a6s (len := 4) (e := 22) (sz := 1) rfl (by kernel_rfl) (by kernel_rfl) rfl (a0a rfl) (a0i (a0j rfl)) (by decide) (by decide)) rfl ?_
             refine z ?_
             refine a3T rfl rfl rfl Tryz.call60 (c6X (b := a2F (ox2 b (((b).length : Int)) (((b).length : Int)) p)) (by have := (b4F b (rbP (ox1 b (((b).length : Int)) p)) ((b).length : Int)).2.2; exact Nat.le_trans this (by omega))) (a0g (a0a rfl) (a0C (a0X rfl rfl)) a0q) rfl rfl ?_
             iterate 7 refine z ?_
             refine yO rfl rfl (a6s (len := 4) (e := 22) (sz := 1) rfl (by kernel_rfl) (by kernel_rfl) rfl (a0a rfl) (a0i (a0j rfl)) (by decide) (by decide)) rfl ?_
             refine z ?_
             refine a2H 74000 rfl rfl rfl Tryz.call61 (c6a (b := a2F (ox3 b (((b).length : Int)) (((b).length : Int)) (((b).length : Int)) p)) (by have := (b4F b (rbP (ox2 b (((b).length : Int)) (((b).length : Int)) p)) ((b).length : Int)).2.2; exact Nat.le_trans this (by omega))) (a0g (a0a rfl) (a0C (a0X rfl rfl)) a0q) rfl rfl rfl ?_
             iterate 7 refine z ?_
             refine yO rfl rfl (a6s (len := 4) (e := 22) (sz := 1) rfl (by kernel_rfl) (by kernel_rfl) rfl (a0a rfl) (a0i (a0j rfl)) (by decide) (by decide)) rfl ?_
             refine z ?_
             refine yO rfl rfl (a9O (K := [54000]) (e := 5) (xs := (a2F (rdB (b) (rbP (rdB (b) (rbP (rdB (b) (rbP (rdB (b) (uvP (b) (p)) ((((b)).length : Int)))) ((((b)).length : Int)))) ((((b)).length : Int)))) ((((b)).length : Int))))) hT rfl rfl rfl rfl (a8Y (k := 54000) (c := a0b false (a0m (a2F (rdB (b) (rbP (rdB (b) (rbP (rdB (b) (rbP (rdB (b) (uvP (b) (p)) ((((b)).length : Int)))) ((((b)).length : Int)))) ((((b)).length : Int)))) ((((b)).length : Int)))))) (a0a rfl) rfl)) rfl ?_
             iterate 3 refine z ?_
             refine a0n ?_
             iterate 2 refine z ?_
             refine a3H (k := 84) (js := [83001]) hT rfl rfl rfl rfl rfl rfl rfl rfl rfl (a0a rfl) rfl rfl (a0o (a0R rfl) (a0o (a0R rfl) (a0o (a0R rfl) (a0o (a0R rfl) (a0o (a0R rfl) (a0o (a1f rfl) (a0o (a0R rfl) a1y rfl) rfl) rfl) rfl) rfl) rfl) rfl) (by decide) (by decide) rfl rfl ?_
             simp only [a0p, a0k, SV.kill, CV.kill, kk, Nat.reduceBEq]
             refine a3f (k := 95000) (j := 84) (cs := (l ++ [(a7k b (((b).length : Int)) (((b).length : Int)) (((b).length : Int)) (((b).length : Int)) p)]).flatMap eOp) (n := (l ++ [(a7k b (((b).length : Int)) (((b).length : Int)) (((b).length : Int)) (((b).length : Int)) p)]).length) hT rfl rfl rfl rfl rfl rfl rfl (a0a rfl) rfl rfl rfl (a0a rfl) rfl rfl (by decide) (by dsimp only [a0b, KC.old]; omega) (by dsimp only [a0b, KC.old]; omega) (by rw [c9i]; rfl) (by rw [List.flatMap_append]; rfl) ?_
             simp only [a0p, a0k, SV.kill, CV.kill, kk, Nat.reduceBEq]
             refine z ?_
             refine a1H ?_
             iterate 2 refine z ?_
             refine a0n ?_
             iterate 4 refine z ?_
             refine ⟨(k + 1, rbP (ox4 b (((b).length : Int)) (((b).length : Int)) (((b).length : Int)) (((b).length : Int)) p), l ++ [(a7k b (((b).length : Int)) (((b).length : Int)) (((b).length : Int)) (((b).length : Int)) p)]), ?_, ?_, a0e ⟨rfl, rfl, rfl, rfl, rfl, trivial⟩ trivial ⟨rfl, trivial⟩ rfl⟩
             ·exact ⟨by dsimp only; omega, hi.trans (c8s hk2 (by simp only [a5c]; simp [*])), by show (l ++ _).length = k + 1; rw [c9i, hl]; rfl⟩
             ·dsimp only; omega
          ·iterate 3 refine z ?_
           refine a0n ?_
           refine yO rfl rfl (a3E (n := 4) (a3M rfl (a0a rfl) (a0i (a0j rfl)) (a2P (by omega) (by omega))) (by decide)) rfl ?_
           iterate 2 refine z ?_
           refine a3Z ?_
           iterate 3 refine z ?_
           refine a0u ?_
           refine yQ rfl (fun c13 => ?_) fun c13 => ?_
           ·exact absurd c13 (by decide)
           ·have d13 := c9g c13
            iterate 10 refine z ?_
            refine yQ rfl (fun c14 => ?_) fun c14 => ?_
            ·refine a0u ?_
             refine a0h (σ' := ⟨[(0, .one (.dv [] (a0m (b))))], [], []⟩) (a0e ⟨rfl, trivial⟩ trivial trivial rfl) ?_
             refine a0n ?_
             refine a2J (k := 95000) hT rfl rfl rfl rfl rfl rfl rfl rfl ?_
             iterate 3 refine z ?_
             rw [a9X c1 (hi.trans (b0c hk2 (by simp only [a5c]; simp [*])))]
             refine a0h (σ' := ⟨[(2, .one (.key 95000)), (3, .one (.dv [] (.bool (false))))], [], [(95000, some (a0b false (a2a ([]))))]⟩) (a0e ⟨rfl, rfl, trivial⟩ trivial ⟨rfl, trivial⟩ rfl) ?_
             iterate 7 refine z ?_
             refine a1u (a0l rfl) (a0l rfl) rfl rfl ?_
             first | exact ⟨rfl, rfl⟩ | skip
            ·rw [c10] at c14; exact absurd c14 (by decide)
         ·exact absurd c9 (by decide)
        ·iterate 3 refine z ?_
         refine a0n ?_
         refine yO rfl rfl (a3E (n := 3) (a3M rfl (a0a rfl) (a0i (a0j rfl)) (a2P (by omega) (by omega))) (by decide)) rfl ?_
         iterate 2 refine z ?_
         refine a3Z ?_
         iterate 3 refine z ?_
         refine a0u ?_
         refine yQ rfl (fun c15 => ?_) fun c15 => ?_
         ·have d15 := c9f c15
          iterate 11 refine z ?_
          refine yQ rfl (fun c16 => ?_) fun c16 => ?_
          ·exact absurd (c8.symm.trans c16) (by decide)
          ·iterate 3 refine z ?_
           refine a0n ?_
           refine yO rfl rfl (a3E (n := 4) (a3M rfl (a0a rfl) (a0i (a0j rfl)) (a2P (by omega) (by omega))) (by decide)) rfl ?_
           iterate 2 refine z ?_
           refine a3Z ?_
           iterate 3 refine z ?_
           refine a0u ?_
           refine yQ rfl (fun c17 => ?_) fun c17 => ?_
           ·exact absurd c17 (by decide)
           ·have d17 := c9g c17
            iterate 10 refine z ?_
            refine yQ rfl (fun c18 => ?_) fun c18 => ?_
            ·refine a0u ?_
             refine a0h (σ' := ⟨[(0, .one (.dv [] (a0m (b))))], [], []⟩) (a0e ⟨rfl, trivial⟩ trivial trivial rfl) ?_
             refine a0n ?_
             refine a2J (k := 95000) hT rfl rfl rfl rfl rfl rfl rfl rfl ?_
             iterate 3 refine z ?_
             rw [a9X c1 (hi.trans (b0c hk2 (by simp only [a5c]; simp [*])))]
             refine a0h (σ' := ⟨[(2, .one (.key 95000)), (3, .one (.dv [] (.bool (false))))], [], [(95000, some (a0b false (a2a ([]))))]⟩) (a0e ⟨rfl, rfl, trivial⟩ trivial ⟨rfl, trivial⟩ rfl) ?_
             iterate 7 refine z ?_
             refine a1u (a0l rfl) (a0l rfl) rfl rfl ?_
             first | exact ⟨rfl, rfl⟩ | skip
            ·rw [c8] at c18; exact absurd c18 (by decide)
         ·exact absurd c15 (by decide)
       ·exact absurd c7 (by decide)
      ·iterate 3 refine z ?_
       refine a0n ?_
       refine yO rfl rfl (a3E (n := 2) (a3M rfl (a0a rfl) (a0i (a0j rfl)) (a2P (by omega) (by omega))) (by decide)) rfl ?_
       iterate 2 refine z ?_
       refine a3Z ?_
       iterate 3 refine z ?_
       refine a0u ?_
       refine yQ rfl (fun c19 => ?_) fun c19 => ?_
       ·have d19 := c9f c19
        iterate 11 refine z ?_
        refine yQ rfl (fun c20 => ?_) fun c20 => ?_
        ·exact absurd (c6.symm.trans c20) (by decide)
        ·iterate 3 refine z ?_
         refine a0n ?_
         refine yO rfl rfl (a3E (n := 3) (a3M rfl (a0a rfl) (a0i (a0j rfl)) (a2P (by omega) (by omega))) (by decide)) rfl ?_
         iterate 2 refine z ?_
         refine a3Z ?_
         iterate 3 refine z ?_
         refine a0u ?_
         refine yQ rfl (fun c21 => ?_) fun c21 => ?_
         ·have d21 := c9f c21
          iterate 11 refine z ?_
          refine yQ rfl (fun c22 => ?_) fun c22 => ?_
          ·exact absurd (c6.symm.trans c22) (by decide)
          ·iterate 3 refine z ?_
           refine a0n ?_
           refine yO rfl rfl (a3E (n := 4) (a3M rfl (a0a rfl) (a0i (a0j rfl)) (a2P (by omega) (by omega))) (by decide)) rfl ?_
           iterate 2 refine z ?_
           refine a3Z ?_
           iterate 3 refine z ?_
           refine a0u ?_
           refine yQ rfl (fun c23 => ?_) fun c23 => ?_
           ·exact absurd c23 (by decide)
           ·have d23 := c9g c23
            iterate 10 refine z ?_
            refine yQ rfl (fun c24 => ?_) fun c24 => ?_
            ·refine a0u ?_
             refine a0h (σ' := ⟨[(0, .one (.dv [] (a0m (b))))], [], []⟩) (a0e ⟨rfl, trivial⟩ trivial trivial rfl) ?_
             refine a0n ?_
             refine a2J (k := 95000) hT rfl rfl rfl rfl rfl rfl rfl rfl ?_
             iterate 3 refine z ?_
             rw [a9X c1 (hi.trans (b0c hk2 (by simp only [a5c]; simp [*])))]
             refine a0h (σ' := ⟨[(2, .one (.key 95000)), (3, .one (.dv [] (.bool (false))))], [], [(95000, some (a0b false (a2a ([]))))]⟩) (a0e ⟨rfl, rfl, trivial⟩ trivial ⟨rfl, trivial⟩ rfl) ?_
             iterate 7 refine z ?_
             refine a1u (a0l rfl) (a0l rfl) rfl rfl ?_
             first | exact ⟨rfl, rfl⟩ | skip
            ·rw [c6] at c24; exact absurd c24 (by decide)
         ·exact absurd c21 (by decide)
       ·exact absurd c19 (by decide)
     ·exact absurd c5 (by decide)
    ·iterate 3 refine z ?_
     refine a0n ?_
     refine yO rfl rfl (a3E (n := 1) (a3M rfl (a0a rfl) (a0i (a0j rfl)) (a2P (by omega) (by omega))) (by decide)) rfl ?_
     iterate 2 refine z ?_
     refine a3Z ?_
     iterate 3 refine z ?_
     refine a0u ?_
     refine yQ rfl (fun c25 => ?_) fun c25 => ?_
     ·have d25 := c9f c25
      iterate 11 refine z ?_
      refine yQ rfl (fun c26 => ?_) fun c26 => ?_
      ·exact absurd (c4.symm.trans c26) (by decide)
      ·iterate 3 refine z ?_
       refine a0n ?_
       refine yO rfl rfl (a3E (n := 2) (a3M rfl (a0a rfl) (a0i (a0j rfl)) (a2P (by omega) (by omega))) (by decide)) rfl ?_
       iterate 2 refine z ?_
       refine a3Z ?_
       iterate 3 refine z ?_
       refine a0u ?_
       refine yQ rfl (fun c27 => ?_) fun c27 => ?_
       ·have d27 := c9f c27
        iterate 11 refine z ?_
        refine yQ rfl (fun c28 => ?_) fun c28 => ?_
        ·exact absurd (c4.symm.trans c28) (by decide)
        ·iterate 3 refine z ?_
         refine a0n ?_
         refine yO rfl rfl (a3E (n := 3) (a3M rfl (a0a rfl) (a0i (a0j rfl)) (a2P (by omega) (by omega))) (by decide)) rfl ?_
         iterate 2 refine z ?_
         refine a3Z ?_
         iterate 3 refine z ?_
         refine a0u ?_
         refine yQ rfl (fun c29 => ?_) fun c29 => ?_
         ·have d29 := c9f c29
          iterate 11 refine z ?_
          refine yQ rfl (fun c30 => ?_) fun c30 => ?_
          ·exact absurd (c4.symm.trans c30) (by decide)
          ·iterate 3 refine z ?_
           refine a0n ?_
           refine yO rfl rfl (a3E (n := 4) (a3M rfl (a0a rfl) (a0i (a0j rfl)) (a2P (by omega) (by omega))) (by decide)) rfl ?_
           iterate 2 refine z ?_
           refine a3Z ?_
           iterate 3 refine z ?_
           refine a0u ?_
           refine yQ rfl (fun c31 => ?_) fun c31 => ?_
           ·exact absurd c31 (by decide)
           ·have d31 := c9g c31
            iterate 10 refine z ?_
            refine yQ rfl (fun c32 => ?_) fun c32 => ?_
            ·refine a0u ?_
             refine a0h (σ' := ⟨[(0, .one (.dv [] (a0m (b))))], [], []⟩) (a0e ⟨rfl, trivial⟩ trivial trivial rfl) ?_
             refine a0n ?_
             refine a2J (k := 95000) hT rfl rfl rfl rfl rfl rfl rfl rfl ?_
             iterate 3 refine z ?_
             rw [a9X c1 (hi.trans (b0c hk2 (by simp only [a5c]; simp [*])))]
             refine a0h (σ' := ⟨[(2, .one (.key 95000)), (3, .one (.dv [] (.bool (false))))], [], [(95000, some (a0b false (a2a ([]))))]⟩) (a0e ⟨rfl, rfl, trivial⟩ trivial ⟨rfl, trivial⟩ rfl) ?_
             iterate 7 refine z ?_
             refine a1u (a0l rfl) (a0l rfl) rfl rfl ?_
             first | exact ⟨rfl, rfl⟩ | skip
            ·rw [c4] at c32; exact absurd c32 (by decide)
         ·exact absurd c29 (by decide)
       ·exact absurd c27 (by decide)
     ·exact absurd c25 (by decide)
   ·exact absurd c3 (by decide)
  ·have d2 := c9g c2
   have hfe := hi.trans (c4p (by omega))
   iterate 8 refine z ?_
   refine a2H 87000 rfl rfl rfl Tryz.call21 (b9M (l := l)) (a0g (a0a rfl) (a0C (a0X rfl rfl)) a0q) rfl rfl rfl ?_
   refine z ?_
   refine a3T rfl rfl rfl Tryz.call62 (b2g (x := a1l (l)) (y := b) ) (a0g (a0a rfl) (a0C (a0X rfl rfl)) (a0g (a0a rfl) (a0C a0c) a0q)) rfl rfl ?_
   iterate 2 refine z ?_
   refine yQ rfl (fun c33 => ?_) fun c33 => ?_
   ·refine a0u ?_
    refine a0h (σ' := ⟨[(0, .one (.dv [] (a0m (b))))], [], []⟩) (a0e ⟨rfl, trivial⟩ trivial trivial rfl) ?_
    refine a0n ?_
    refine a2J (k := 95000) hT rfl rfl rfl rfl rfl rfl rfl rfl ?_
    iterate 3 refine z ?_
    rw [c2i c1 hfe (by assumption)]
    refine a0h (σ' := ⟨[(2, .one (.key 95000)), (3, .one (.dv [] (.bool (false))))], [], [(95000, some (a0b false (a2a ([]))))]⟩) (a0e ⟨rfl, rfl, trivial⟩ trivial ⟨rfl, trivial⟩ rfl) ?_
    iterate 2 refine z ?_
    refine a1u (a0l rfl) (a0l rfl) rfl rfl ?_
    first | exact ⟨rfl, rfl⟩ | skip
   ·iterate 7 refine z ?_
    rw [c4h c1 hfe (by assumption)]
    refine a0h (σ' := ⟨[(2, .one (.key 95000)), (3, .one (.dv [] (.bool (true))))], [], [(95000, some (a0b false (a2a (l))))]⟩) (a0e ⟨rfl, rfl, trivial⟩ trivial ⟨rfl, trivial⟩ rfl) ?_
    refine z ?_
    refine a1u (a0l rfl) (a0l rfl) rfl rfl ?_
    first | exact ⟨rfl, rfl⟩ | skip
def b5d (n : Str) : List a0G → Nat
 | [] => 0
 | s :: l => if sLt s.1 n then b5d n l + 1 else 0
def b8g (l : List a0G) (j : Nat) (s : a0G) : List a0G := l.take j ++ s :: l.drop j
@[reducible] def a5q (d : DbT) (x : a3Q) : Int := a0s (a1W x) d.2.2.2 0
def b7t (n : Str) (y : a3Q) : Bool := !sEq y.1 n
def upI (d : DbT) (u : a6e) : DbT × Bool :=
 if u.1 = 1 then ((d.1, d.2.1, b8g d.2.2.1 (b5d u.2.1 d.2.2.1) (u.2.1, [], 0), d.2.2.2), decide (a1D d u.2.1 < 0))
 else if u.1 = 2 then ((d.1, d.2.1, (if 0 ≤ a1D d u.2.1 then d.2.2.1.eraseIdx (a1D d u.2.1).toNat else d.2.2.1), d.2.2.2.filter (b7t u.2.1)), decide (0 ≤ a1D d u.2.1))
 else if u.1 = 3 then ((d.1, d.2.1, d.2.2.1, d.2.2.2 ++ [u.2]), decide (a5q d u.2 < 0))
 else if u.1 = 4 then ((d.1, d.2.1, d.2.2.1, (if 0 ≤ a5q d u.2 then d.2.2.2.eraseIdx (a5q d u.2).toNat else d.2.2.2)), decide (0 ≤ a5q d u.2))
 else (d, false)
def upA (d : DbT) (u : a6e) : DbT × Bool := if (!a1e d || !(upI d u).2 || !a1e (upI d u).1) = true then (d, false) else ((upI d u).1, true)
section
variable {d : DbT} {u : a6e}
theorem c8S (h : a1e d = false) : upA d u = (d, false) := by rw [upA, if_pos (by rw [h]; rfl)]
theorem a9v (h : (upI d u).2 = false) : upA d u = (d, false) := by rw [upA, if_pos (by rw [h]; simp)]
theorem c3K {o : DbT} (e : a1e d = true → (upI d u).1 = o) (h : (!a1e d || !a1e o) = true) : upA d u = (d, false) := by
 cases hd : a1e d with
 | false => exact c8S hd
 | true =>
  rw [hd] at h
  rw [upA, if_pos (by rw [e hd]; simp only [Bool.not_true, Bool.false_or] at h; rw [h]; simp)]
theorem c6U {o : DbT} (e : a1e d = true → (upI d u).1 = o) (e2 : (upI d u).2 = true) (h : (!a1e d || !a1e o) = false) : upA d u = (o, true) := by
 simp only [Bool.or_eq_false_iff, Bool.not_eq_false'] at h
 rw [upA, if_neg (by rw [e h.1, h.1, e2, h.2]; simp), e h.1]
theorem c3Z {x : a3Q} (h : a1D d x.1 < 0) : a1e (d.1, d.2.1, d.2.2.1, d.2.2.2 ++ [x]) = false := by
 refine a7Z (k := d.2.2.2.length) (by simp) ?_
 have e : (d.2.2.2 ++ [x]).getD ((d.2.2.2.length : Nat) : Int).toNat default = x := by simp [List.getD]
 unfold a3k
 simp only [e]
 rw [decide_eq_true (show a1D (d.1, d.2.1, d.2.2.1, d.2.2.2 ++ [x]) x.1 < 0 from h)]
 rfl
theorem c7B (h1 : u.1 = 3) (h : a1D d u.2.1 < 0) : upA d u = (d, false) := by
 have e : (upI d u).1 = (d.1, d.2.1, d.2.2.1, d.2.2.2 ++ [u.2]) := by unfold upI; rw [if_neg (by omega), if_neg (by omega), if_pos h1]
 rw [upA, if_pos (by rw [e, c3Z h]; simp)]
theorem c6m (h1 : u.1 = 1) : upI d u = ((d.1, d.2.1, b8g d.2.2.1 (b5d u.2.1 d.2.2.1) (u.2.1, [], 0), d.2.2.2), decide (a1D d u.2.1 < 0)) := by unfold upI; rw [if_pos h1]
theorem c1H (h1 : u.1 = 2) (h : ¬ 0 ≤ a1D d u.2.1) : upI d u = ((d.1, d.2.1, d.2.2.1, d.2.2.2.filter (b7t u.2.1)), decide (0 ≤ a1D d u.2.1)) := by unfold upI; rw [if_neg (by omega), if_pos h1, if_neg h]
theorem b1A (h1 : u.1 = 3) : upI d u = ((d.1, d.2.1, d.2.2.1, d.2.2.2 ++ [u.2]), decide (a5q d u.2 < 0)) := by unfold upI; rw [if_neg (by omega), if_neg (by omega), if_pos h1]
theorem c1L (h1 : u.1 = 4) (h : ¬ 0 ≤ a5q d u.2) : upI d u = (d, decide (0 ≤ a5q d u.2)) := by unfold upI; rw [if_neg (by omega), if_neg (by omega), if_neg (by omega), if_pos h1, if_neg h]
theorem c4Z (h1 : u.1 ≠ 1) (h2 : u.1 ≠ 2) (h3 : u.1 ≠ 3) (h4 : u.1 ≠ 4) : upI d u = (d, false) := by unfold upI; rw [if_neg h1, if_neg h2, if_neg h3, if_neg h4]
theorem c8B (h1 : ¬ (u.1 = 1 ∧ a1D d u.2.1 < 0)) (h2 : ¬ (u.1 = 2 ∧ 0 ≤ a1D d u.2.1)) (h3 : ¬ (u.1 = 3 ∧ 0 ≤ a1D d u.2.1 ∧ a5q d u.2 < 0)) (h4 : ¬ (u.1 = 4 ∧ 0 ≤ a5q d u.2)) : upA d u = (d, false) := by
 by_cases e1 : u.1 = 1
 ·exact a9v (by rw [c6m e1]; exact decide_eq_false (fun h => h1 ⟨e1, h⟩))
 by_cases e2 : u.1 = 2
 ·have h : ¬ 0 ≤ a1D d u.2.1 := fun h => h2 ⟨e2, h⟩
  exact a9v (by rw [c1H e2 h]; exact decide_eq_false h)
 by_cases e3 : u.1 = 3
 ·by_cases h : a1D d u.2.1 < 0
  ·exact c7B e3 h
  ·exact a9v (by rw [b1A e3]; exact decide_eq_false (fun h' => h3 ⟨e3, by omega, h'⟩))
 by_cases e4 : u.1 = 4
 ·have h : ¬ 0 ≤ a5q d u.2 := fun h => h4 ⟨e4, h⟩
  exact a9v (by rw [c1L e4 h]; exact decide_eq_false h)
 exact a9v (by rw [c4Z e1 e2 e3 e4])
end
section
variable {α : Type} [Inhabited α] {enc : α → List DV} {p : α → Bool} {xs : List α} {k : Nat}
end
theorem c1w {d : DbT} {u : a6e}  : PFn Tryz.prog 69 [.agg [(.dv [] (.str (d.1))), (.dv [] (.int .i64 (d.2.1))), (.dv [] (a0x (d.2.2.1))), (.dv [] (a0z (d.2.2.2)))], .agg [(.dv [] (.int .i64 (u.1))), (.dv [] (.str (u.2.1))), (.dv [] (.str (u.2.2)))]] (.one (.dv [] (.int .i64 (a0s (a1W u.2) d.2.2.2 0)))) := by
 refine ⟨a0O Tryz.func69 rfl Tryz.ntmps69 Tryz.results69 rfl (fun C => ?_)⟩
 refine yF 0 0 rfl rfl fun f0_0 => ?_
 refine yF 0 1 rfl rfl fun f0_1 => ?_
 refine yF 0 2 rfl rfl fun f0_2 => ?_
 refine yF 0 3 rfl rfl fun f0_3 => ?_
 refine yF 1 0 rfl rfl fun f1_0 => ?_
 refine yF 1 1 rfl rfl fun f1_1 => ?_
 refine yF 1 2 rfl rfl fun f1_2 => ?_
 iterate 10 refine z ?_
 refine a1o (ι := Nat) (fun zz => ⟨[(2, .box 2 0), (3, .box 3 0), (5, .one (.dv [] (.int .i64 ((zz : Int)))))], [(2, 27, [(.dv [] (.str (d.1))), (.dv [] (.int .i64 (d.2.1))), (.dv [] (a0x (d.2.2.1))), (.dv [] (a0z (d.2.2.2)))]), (3, 89, [(.dv [] (.int .i64 (u.1))), (.dv [] (.str (u.2.1))), (.dv [] (.str (u.2.2)))])], []⟩) (fun zz => zz ≤ d.2.2.2.length ∧ (d.2.2.2.take zz).any (a1W u.2) = false) (fun zz => d.2.2.2.length - zz) (0) ?_ (a0e ⟨rfl, rfl, rfl, trivial⟩ ⟨rfl, rfl, trivial⟩ trivial rfl) (fun zz hx => ?_)
 ·exact ⟨Nat.zero_le _, rfl⟩
 obtain ⟨k, rfl⟩ : ∃ v, v = zz := ⟨_, rfl⟩
 replace hx : k ≤ d.2.2.2.length ∧ (d.2.2.2.take k).any (a1W u.2) = false := hx
 obtain ⟨hk, hall⟩ := hx
 show Ok _ _ _ _ _ (⟨[(2, .box 2 0), (3, .box 3 0), (5, .one (.dv [] (.int .i64 ((k : Int)))))], [(2, 27, [(.dv [] (.str (d.1))), (.dv [] (.int .i64 (d.2.1))), (.dv [] (a0x (d.2.2.1))), (.dv [] (a0z (d.2.2.2)))]), (3, 89, [(.dv [] (.int .i64 (u.1))), (.dv [] (.str (u.2.1))), (.dv [] (.str (u.2.2)))])], []⟩ : St)
 iterate 8 refine z ?_
 refine yQ rfl (fun c1 => ?_) fun c1 => ?_
 ·have d1 := c9f c1
  iterate 4 refine z ?_
  refine a0u ?_
  refine a1K (oB := [2, 3]) (oK := []) (by kernel_rfl) rfl rfl ?_
  refine zD 0 ?_
  refine zD 1 ?_
  refine zD 2 ?_
  refine zD 3 ?_
  refine zD 4 ?_
  refine zD 5 ?_
  refine zD 6 ?_
  refine zD 7 ?_
  refine zD 8 ?_
  refine zD 9 ?_
  refine zDG 10 ?_
  refine zDG 11 ?_
  refine zDG 12 ?_
  refine zDG 13 ?_
  refine zDG 14 ?_
  refine zDG 15 ?_
  refine zDG 16 ?_
  refine zDG 17 ?_
  refine zDG 18 ?_
  refine zD 19 ?_
  refine a1Q (by kernel_rfl) ?_
  refine z ?_
  refine yQ rfl (fun c2 => ?_) fun c2 => ?_
  ·iterate 11 refine z ?_
   exact (a6b (p := a1W u.2) (d := default) hall (by omega) (by rw [b0Y]; exact c2)).symm
  ·iterate 3 refine z ?_
   refine a0n ?_
   iterate 4 refine z ?_
   refine ⟨k + 1, ?_, ?_, a0e ⟨rfl, rfl, rfl, trivial⟩ ⟨rfl, rfl, trivial⟩ trivial rfl⟩
   ·exact ⟨by omega, a5M (d := default) hall (by omega) (by rw [b0Y]; exact c2)⟩
   ·omega
 ·have d1 := c9g c1
  iterate 10 refine z ?_
  exact (a5O (p := a1W u.2) hall (by omega)).symm
theorem c1v {l : List a0T} {i : Nat} {r : a0v} : (a2t l i r).map Prod.fst = l.map Prod.fst := by
 apply List.ext_getElem?
 intro j
 rw [a2t, List.getElem?_map, List.getElem?_set, List.getElem?_map]
 by_cases h : i = j
 ·subst h
  by_cases h2 : i < l.length
  ·simp [h2, List.getD]
  ·simp [h2]
 ·simp [h]
theorem a9t {x : a0G} {k : a0K} {r : a0v} (h : (a0N x k r).2 = true) : a1i x = true ∧ a1a k = true ∧ a1b r = true ∧
  ((0 ≤ a0S x k ∧ a0N x k r = ((x.1, a2t x.2.1 (a0S x k).toNat r, x.2.2), true)) ∨ (a0S x k < 0 ∧ x.2.1.length < 16 ∧ a0N x k r = ((x.1, a1Z x.2.1 (a2l k x.2.1) (k, r), a3h x k), true))) := by
 unfold a0N at h ⊢
 split at h
 ·cases h
 ·rename_i h1
  have h1' : a1i x = true ∧ a1a k = true ∧ a1b r = true := by
   revert h1; cases a1i x <;> cases a1a k <;> cases a1b r <;> simp
  refine ⟨h1'.1, h1'.2.1, h1'.2.2, ?_⟩
  rw [if_neg h1]
  split at h
  ·rename_i h2
   exact .inl ⟨h2, by rw [if_pos h2]⟩
  ·rename_i h2
   split at h
   ·cases h
   ·rename_i h3
    exact .inr ⟨by omega, by omega, by rw [if_neg h2, if_neg h3]⟩
theorem c5l {x : a0G} {k : a0K} {r : a0v} (h : (a0N x k r).2 = true) : a1i (a0N x k r).1 = true := by
 obtain ⟨hs, hk, hr, ⟨h1, h2⟩ | ⟨h1, h3, h2⟩⟩ := a9t h
 ·rw [h2]; dsimp only
  have h4 := a4W h1
  rw [b2H hs (by omega), hr]
 ·rw [h2]; dsimp only
  rw [b3y hs hk h1 (b3s hs), hr]; simpa using h3
theorem b5D {x : a0G} {k : a0K} {r : a0v} (h : a1i x = true) : a1i (a0N x k r).1 = true := by
 cases h2 : (a0N x k r).2 with
 | true => exact c5l h2
 | false => rw [b0o h2]; exact h
theorem b8Y (x : a0G) (k : a0K) (r : a0v) : (a0N x k r).1.1 = x.1 := by
 cases h2 : (a0N x k r).2 with
 | true => obtain ⟨_, _, _, ⟨_, h⟩ | ⟨_, _, h⟩⟩ := a9t h2 <;> rw [h]
 | false => rw [b0o h2]
theorem c4O {x : a0G} {k : a0K} {r : a0v} : x.2.2 ≤ (a0N x k r).1.2.2 := by
 cases h2 : (a0N x k r).2 with
 | true =>
  obtain ⟨_, _, _, ⟨_, h⟩ | ⟨_, _, h⟩⟩ := a9t h2 <;> rw [h]
  ·exact Int.le_refl _
  ·dsimp only
   unfold a3h
   split
   ·rename_i h3
    simp only [Bool.and_eq_true, decide_eq_true_eq] at h3
    omega
   ·omega
 | false => rw [b0o h2]; exact Int.le_refl _
theorem c7y {d : DbT} {l : List OpT} (h : (a1F d l).2.2 = false) : (a1F d l).1 = d ∧ (a1F d l).2.1 = [] := by
 unfold a1F at h ⊢
 split
 ·exact ⟨rfl, rfl⟩
 ·rename_i h1
  rw [if_neg h1] at h
  cases hg : a1Y d l with
  | none => exact ⟨rfl, rfl⟩
  | some r => rw [hg] at h; cases h
theorem b7X {d : DbT} {l : List OpT} (h : (a1F d l).2.2 = true) : a1e d = true ∧ l.length ≤ 6 ∧ ∃ c ns, a1Y d l = some (c, ns) ∧ a1F d l = (c, ns, true) := by
 unfold a1F at h ⊢
 split at h
 ·cases h
 ·rename_i h1
  rw [if_neg h1]
  cases hg : a1Y d l with
  | none => rw [hg] at h; cases h
  | some r =>
   have h2 : (!a1e d || decide ((6 : Int) < (l.length : Int))) = false := by simpa using h1
   refine ⟨?_, b3K h2, r.1, r.2, rfl, rfl⟩
   cases hd : a1e d with
   | true => rfl
   | false => rw [hd] at h2; cases h2
theorem b9Q {d : DbT} {l : List OpT} (h : (a1F d l).2.2 = true) : a1e (a1F d l).1 = true := by
 obtain ⟨h1, _, c, ns, h2, h3⟩ := b7X h
 rw [h3]
 rcases b2B l d c ns h2 with h4 | h4
 ·rw [h4]; exact h1
 ·exact h4
theorem c5b {a b : Str} : sEq a b = true ↔ a = b := by
 unfold sEq
 rw [beq_iff_eq]
 constructor
 ·intro h
  rw [a9G, a9G] at h
  exact ByteArray.ext (Array.toList_inj.1 h)
 ·intro h; rw [h]
theorem c5O (d : DbT) (n : Str) : decide (0 ≤ a1D d n) = d.2.2.1.any (a0D n) := b5S _
theorem c7i {d : DbT} {u : a6e} (h : (upA d u).2 = true) : a1e d = true ∧ (upI d u).2 = true ∧ a1e (upI d u).1 = true ∧ upA d u = ((upI d u).1, true) := by
 unfold upA at h ⊢
 split at h
 ·cases h
 ·rename_i h1
  rw [if_neg h1]
  simp only [Bool.or_eq_true, Bool.not_eq_true', not_or, Bool.not_eq_false] at h1
  exact ⟨h1.1.1, h1.1.2, h1.2, rfl⟩
theorem c1y {d : DbT} {u : a6e} (h : (upA d u).2 = false) : (upA d u).1 = d := by
 unfold upA at h ⊢
 split
 ·rfl
 ·rename_i h1; rw [if_neg h1] at h; cases h
theorem c2K {d : DbT} (h : a1e d = true) {x : a3Q} (hx : x ∈ d.2.2.2) : 0 ≤ a1D d x.1 := by
 obtain ⟨i, hi, rfl⟩ := List.mem_iff_getElem.1 hx
 rw [a1e, Bool.and_eq_true, Bool.and_eq_true] at h
 have h1 := h.2.2
 rw [a7N, List.all_eq_true] at h1
 have h2 := h1 i (List.mem_range.2 hi)
 unfold a3k at h2
 rw [Int.toNat_natCast, List.getD_eq_getElem?_getD, List.getElem?_eq_getElem hi] at h2
 simp only [Option.getD_some, Bool.not_eq_true', Bool.or_eq_false_iff, decide_eq_false_iff_not] at h2
 have := h2.1.1.1
 omega
theorem c6J {d : DbT} {u : a6e} (h : (upA d u).2 = true) : a1e (upA d u).1 = true := by
 obtain ⟨_, _, h2, h3⟩ := c7i h
 rw [h3]; exact h2
/-! ### upgrades -/
theorem b5Z {a n : Int} (ha : 0 ≤ a) (hn : 0 < n) : 0 ≤ a % n ∧ a % n < n := ⟨Int.emod_nonneg a (by omega), Int.emod_lt_of_pos a hn⟩
theorem c8J {l : List Int} {x : Int} (h0 : 0 ≤ x) (h1 : x < (l.length : Int)) : l.getD x.toNat default ∈ l := by
 rw [List.getD_eq_getElem?_getD, List.getElem?_eq_getElem (by omega)]; exact List.getElem_mem _
theorem c6w {l : List Str} {x : Int} (h0 : 0 ≤ x) (h1 : x < (l.length : Int)) : l.getD x.toNat default ∈ l := by
 rw [List.getD_eq_getElem?_getD, List.getElem?_eq_getElem (by omega)]; exact List.getElem_mem _
theorem c4W {code : List UInt8} (hc : code.length ≤ 1048576) : NFn Tryz.prog 15 82 (a0m (code)) (fun zz : Int × Int => 0 ≤ zz.1) (fun zz : Int × Int => [.dv [] (.int .i64 (zz.1)), .dv [] (.int .i64 (zz.2))]) := by
 refine ⟨a0O Tryz.func15 rfl Tryz.ntmps15 Tryz.results15 rfl (fun C => ?_)⟩
 refine z ?_
 refine yO rfl rfl (a0M (.inr rfl) c5s) rfl ?_
 iterate 3 refine z ?_
 refine yO rfl rfl (a6R hT rfl rfl (a7n (a0a rfl))) rfl ?_
 iterate 8 refine z ?_
 refine a1o (ι := Int × Int) (fun zz => ⟨[(0, .one (.arg 0 (a0m (code)))), (2, .one .any), (3, .one (.dv [] (.int .i64 (zz.1)))), (4, .one (.dv [] (.int .i64 (zz.2))))], [], []⟩) (fun zz => 0 ≤ zz.2) (fun zz => (code.length - zz.2).toNat) ((193017 + (code.length : Int), 0)) ?_ (a0e ⟨rfl, rfl, rfl, rfl, trivial⟩ trivial trivial rfl) (fun zz hx => ?_)
 ·exact Int.le_refl _
 obtain ⟨h, i⟩ := zz
 replace hx : 0 ≤ i := hx
 show Ok _ _ _ _ _ (⟨[(0, .one (.arg 0 (a0m (code)))), (2, .one .any), (3, .one (.dv [] (.int .i64 (h)))), (4, .one (.dv [] (.int .i64 (i))))], [], []⟩ : St)
 iterate 4 refine z ?_
 refine yO rfl rfl (a6R hT rfl rfl (a7n (a0a rfl))) rfl ?_
 iterate 6 refine z ?_
 refine yQ rfl (fun c1 => ?_) fun c1 => ?_
 ·simp only [Bool.and_eq_true, decide_eq_true_eq] at c1
  iterate 4 refine z ?_
  refine a0n ?_
  refine z ?_
  refine yO rfl rfl (b4c rfl (a0a rfl) (a0i (a0j rfl))) rfl ?_
  iterate 2 refine z ?_
  refine yO rfl rfl (a5k hT rfl rfl rfl (a7n (a0a rfl)) (a0a rfl) (fun _ => rfl) (by omega) (by omega)) rfl ?_
  refine z ?_
  refine yO rfl rfl (a6X hT rfl rfl rfl (a0a rfl)) rfl ?_
  refine yO rfl rfl (b0h rfl (a0a rfl) (a0a rfl)) rfl ?_
  refine yO rfl rfl (b0h rfl (a0a rfl) (a0i (a0j rfl))) rfl ?_
  refine yO rfl rfl (b4U rfl (a0a rfl) (a0i (a0j rfl))) rfl ?_
  refine z ?_
  refine a1H ?_
  generalize bits .and .i64 (IntKind.i64.wrap ((IntKind.i64.wrap ((IntKind.i64.wrap ((h) * (137))) + (IntKind.i64.wrap ((((((code)).getD (i).toNat default)).toNat : Int))))) + (11))) (1073741823) = z27
  iterate 2 refine z ?_
  refine a0n ?_
  iterate 4 refine z ?_
  refine ⟨(z27, i + 1), ?_, ?_, a0e ⟨rfl, rfl, rfl, rfl, trivial⟩ trivial trivial rfl⟩
  ·show 0 ≤ i + 1; omega
  ·dsimp only; omega
 ·iterate 8 refine z ?_
  refine yO rfl rfl (a1v hT hB rfl rfl rfl (a1c (a0a rfl) rfl rfl rfl rfl rfl (a1c (a0a rfl) rfl rfl rfl rfl rfl a1w))) rfl ?_
  iterate 4 refine z ?_
  refine a1r (a0l rfl) ⟨(0, h), 31, ?_, rfl, rfl⟩
  exact Int.le_refl _
theorem b1U {code : List UInt8} {i h : Int} (hc : code.length ≤ 1048576) (hi : 0 ≤ i) : BFn Tryz.prog 38 [] 82 (a0m (code)) [.dv [] (.int .i64 (i)), .dv [] (.int .i64 (h))] (fun zz : Int × Int × Int => 0 ≤ zz.1 ∧ zz.1 ≤ 255 ∧ 0 ≤ zz.2.1) (fun zz : Int × Int × Int => .one (.dv [] (.int .i64 (zz.1)))) (fun zz : Int × Int × Int => []) (fun zz : Int × Int × Int => [.dv [] (.int .i64 (zz.2.1)), .dv [] (.int .i64 (zz.2.2))]) := by
 refine ⟨a3V Tryz.func38 rfl Tryz.ntmps38 Tryz.results38 rfl (fun C => ?_)⟩
 iterate 4 refine z ?_
 refine yO rfl rfl (a0M (.inl rfl) (a1A (a0a rfl))) rfl ?_
 refine yO rfl rfl (a0M (.inl rfl) (a1A (a0a rfl))) rfl ?_
 refine yO rfl rfl (a5l rfl (a0a rfl)) rfl ?_
 iterate 2 refine z ?_
 refine yO rfl rfl (b4c rfl (a0a rfl) (a0i (a0j rfl))) rfl ?_
 refine yO rfl rfl (b0h rfl (a0a rfl) (a0i (a0j rfl))) rfl ?_
 refine yO rfl rfl (a5l rfl (a0a rfl)) rfl ?_
 iterate 2 refine z ?_
 refine a1H ?_
 generalize IntKind.i64.wrap ((IntKind.i64.wrap ((h) * (6364136223846793005))) + (1442695040888963407)) = z10
 refine z ?_
 refine a0u ?_
 refine a1K (oB := [0]) (oK := []) (by kernel_rfl) rfl rfl ?_
 refine a1q 0 rfl (by kernel_rfl) rfl rfl (a0M (.inl rfl) (a1A (a0a rfl))) rfl rfl rfl rfl ?_
 refine a1q 1 rfl (by kernel_rfl) rfl rfl (a5l rfl (a0a rfl)) rfl rfl rfl rfl ?_
 refine zD 2 ?_
 refine zD 3 ?_
 refine a1q 4 rfl (by kernel_rfl) rfl rfl (b6G rfl (a0a rfl) (a0i (a0j rfl)) (by omega) (by decide)) rfl rfl rfl rfl ?_
 refine a1q 5 rfl (by kernel_rfl) rfl rfl (a0M (.inl rfl) (a1A (a0a rfl))) rfl rfl rfl rfl ?_
 refine a1q 6 rfl (by kernel_rfl) rfl rfl (a5l rfl (a0a rfl)) rfl rfl rfl rfl ?_
 refine zD 7 ?_
 refine zD 8 ?_
 refine a1q 9 rfl (by kernel_rfl) rfl rfl (b6G rfl (a0a rfl) (a0i (a0j rfl)) (by omega) (by decide)) rfl rfl rfl rfl ?_
 refine a1q 10 rfl (by kernel_rfl) rfl rfl (c1m rfl (a0a rfl) (a0a rfl)) rfl rfl rfl rfl ?_
 refine a1q 11 rfl (by kernel_rfl) rfl rfl (b4U rfl (a0a rfl) (a0i (a0j rfl))) rfl rfl rfl rfl ?_
 refine zD 12 ?_
 refine a1Q (by kernel_rfl) ?_
 have q24 := b7E (bits .xor .i64 ((z10) / (2 ^ (33 : Int).toNat : Nat)) ((z10) / (2 ^ (47 : Int).toNat : Nat)))
 generalize bits .and .i64 (bits .xor .i64 ((z10) / (2 ^ (33 : Int).toNat : Nat)) ((z10) / (2 ^ (47 : Int).toNat : Nat))) (255) = z24 at *
 refine z ?_
 refine a0u ?_
 refine a0u ?_
 refine a1K (oB := [0]) (oK := []) (by kernel_rfl) rfl rfl ?_
 refine a1q 0 rfl (by kernel_rfl) rfl rfl (a0M (.inl rfl) (a1A (a0a rfl))) rfl rfl rfl rfl ?_
 refine a1q 1 rfl (by kernel_rfl) rfl rfl (a5l rfl (a0a rfl)) rfl rfl rfl rfl ?_
 refine zD 2 ?_
 refine zD 3 ?_
 refine a1q 4 rfl (by kernel_rfl) rfl rfl (a0M (.inl rfl) (a1A (a0a rfl))) rfl rfl rfl rfl ?_
 refine a1q 5 rfl (by kernel_rfl) rfl rfl (a5l rfl (a0a rfl)) rfl rfl rfl rfl ?_
 refine zD 6 ?_
 refine zD 7 ?_
 refine a1q 8 rfl (by kernel_rfl) rfl rfl (a6R hT rfl rfl (a7n (a0a rfl))) rfl rfl rfl rfl ?_
 refine zD 9 ?_
 refine a1Q (by kernel_rfl) ?_
 refine z ?_
 refine yQ rfl (fun c1 => ?_) fun c1 => ?_
 ·have d1 := c9f c1
  refine a0u ?_
  refine a1K (oB := [0]) (oK := []) (by kernel_rfl) rfl rfl ?_
  refine zD 0 ?_
  refine a1q 1 rfl (by kernel_rfl) rfl rfl (a0M (.inl rfl) (a1A (a0a rfl))) rfl rfl rfl rfl ?_
  refine a1q 2 rfl (by kernel_rfl) rfl rfl (a5l rfl (a0a rfl)) rfl rfl rfl rfl ?_
  refine zD 3 ?_
  refine zD 4 ?_
  refine a1q 5 rfl (by kernel_rfl) rfl rfl (a0M (.inl rfl) (a1A (a0a rfl))) rfl rfl rfl rfl ?_
  refine a1q 6 rfl (by kernel_rfl) rfl rfl (a5l rfl (a0a rfl)) rfl rfl rfl rfl ?_
  refine zD 7 ?_
  refine zD 8 ?_
  refine a1q 9 rfl (by kernel_rfl) rfl rfl (a5k hT rfl rfl rfl (a7n (a0a rfl)) (a0a rfl) (fun _ => rfl) (by omega) (by omega)) rfl rfl rfl rfl ?_
  refine zD 10 ?_
  refine a1q 11 rfl (by kernel_rfl) rfl rfl (a6X hT rfl rfl rfl (a0a rfl)) rfl rfl rfl rfl ?_
  refine a1q 12 rfl (by kernel_rfl) rfl rfl (b0h rfl (a0a rfl) (a0a rfl)) rfl rfl rfl rfl ?_
  refine a1q 13 rfl (by kernel_rfl) rfl rfl (b4U rfl (a0a rfl) (a0i (a0j rfl))) rfl rfl rfl rfl ?_
  refine zD 14 ?_
  refine a1Q (by kernel_rfl) ?_
  have q48 : 0 ≤ bits .and .i64 (IntKind.i64.wrap ((z24) + (IntKind.i64.wrap ((((((code)).getD (i).toNat default)).toNat : Int))))) (255) ∧ _ := b7E _
  generalize bits .and .i64 (IntKind.i64.wrap ((z24) + (IntKind.i64.wrap ((((((code)).getD (i).toNat default)).toNat : Int))))) (255) = z48 at *
  refine z ?_
  refine a0n ?_
  refine yO rfl rfl (a0M (.inl rfl) (a1A (a0a rfl))) rfl ?_
  refine yO rfl rfl (a0M (.inl rfl) (a1A (a0a rfl))) rfl ?_
  refine yO rfl rfl (a5l rfl (a0a rfl)) rfl ?_
  iterate 3 refine z ?_
  refine yO rfl rfl (a5l rfl (a0a rfl)) rfl ?_
  iterate 7 refine z ?_
  refine a0h (σ' := ⟨[(2, .one (.dv [] (.int .i64 (z48)))), (0, .abox 0)], [(0, 82, [(.arg 900001 (a0m (code))), (.dv [] (.int .i64 ((i) + (1)))), (.dv [] (.int .i64 (z10)))])], []⟩) (a0e ⟨rfl, rfl, trivial⟩ ⟨rfl, trivial⟩ trivial rfl) ?_
  refine z ?_
  refine a1r (a0l rfl) ⟨((z48), (i) + (1), z10), ?_, rfl, rfl, rfl, rfl⟩
  try dsimp only
  omega
 ·have d1 := c9g c1
  iterate 6 refine z ?_
  refine a0h (σ' := ⟨[(2, .one (.dv [] (.int .i64 (z24)))), (0, .abox 0)], [(0, 82, [(.arg 900001 (a0m (code))), (.dv [] (.int .i64 (i))), (.dv [] (.int .i64 (z10)))])], []⟩) (a0e ⟨rfl, rfl, trivial⟩ ⟨rfl, trivial⟩ trivial rfl) ?_
  refine z ?_
  refine a1r (a0l rfl) ⟨((z24), i, z10), ?_, rfl, rfl, rfl, rfl⟩
  try dsimp only
  omega
theorem a4O {code : List UInt8} {i h : Int} {n : Int} (hc : code.length ≤ 1048576) (hi : 0 ≤ i)  : BFn Tryz.prog 17 [.one (.dv [] (.int .i64 (n)))] 82 (a0m (code)) [.dv [] (.int .i64 (i)), .dv [] (.int .i64 (h))] (fun zz : Int × Int × Int => 0 ≤ zz.1 ∧ (0 < n → zz.1 < n) ∧ 0 ≤ zz.2.1) (fun zz : Int × Int × Int => .one (.dv [] (.int .i64 (zz.1)))) (fun zz : Int × Int × Int => []) (fun zz : Int × Int × Int => [.dv [] (.int .i64 (zz.2.1)), .dv [] (.int .i64 (zz.2.2))]) := by
 refine ⟨a3V Tryz.func17 rfl Tryz.ntmps17 Tryz.results17 rfl (fun C => ?_)⟩
 refine a1k (x := .tmp 1) (a0a rfl) fun f1 => ?_
 iterate 8 refine z ?_
 refine yQ rfl (fun c1 => ?_) fun c1 => ?_
 ·have d1 := c9f c1
  iterate 3 refine z ?_
  refine a0h (σ' := ⟨[(4, .one (.dv [] (.int .i64 (0)))), (0, .abox 0)], [(0, 82, [(.arg 900001 (a0m (code))), (.dv [] (.int .i64 (i))), (.dv [] (.int .i64 (h)))])], []⟩) (a0e ⟨rfl, rfl, trivial⟩ ⟨rfl, trivial⟩ trivial rfl) ?_
  iterate 2 refine z ?_
  refine a1r (a0l rfl) ⟨((0), i, h), ?_, rfl, rfl, rfl, rfl⟩
  try dsimp only
  exact ⟨by omega, by omega, hi⟩
 ·have d1 := c9g c1
  iterate 7 refine z ?_
  refine yQ rfl (fun c2 => ?_) fun c2 => ?_
  ·have d2 := c9f c2
   refine z ?_
   refine yO rfl rfl (a0M (.inl rfl) (a1A (a0a rfl))) rfl ?_
   refine a2c 13000 rfl rfl rfl Tryz.call38 (b1U (code := code) (i := i) (h := h) (by omega) (by omega)) (a0a rfl) rfl a1M rfl (fun _ => rfl) a1J rfl (fun _ => rfl) (fun _ => rfl) (fun zz hz13 => ?_)
   obtain ⟨e13, i13, h13⟩ := zz
   replace hz13 : 0 ≤ e13 ∧ e13 ≤ 255 ∧ 0 ≤ i13 := hz13
   refine z ?_
   refine yO rfl rfl (b4X rfl (a0a rfl) (a0a rfl) (by omega) (by omega)) rfl ?_
   iterate 2 refine z ?_
   refine a0h (σ' := ⟨[(4, .one (.dv [] (.int .i64 ((e13) % (n))))), (0, .abox 0)], [(0, 82, [(.arg 900001 (a0m (code))), (.dv [] (.int .i64 (i13))), (.dv [] (.int .i64 (h13)))])], []⟩) (a0e ⟨rfl, rfl, trivial⟩ ⟨rfl, trivial⟩ trivial rfl) ?_
   iterate 2 refine z ?_
   refine a1r (a0l rfl) ⟨(((e13) % (n)), i13, h13), ?_, rfl, rfl, rfl, rfl⟩
   try dsimp only
   have := b5Z (a := e13) (n := n) (by omega) (by omega)
   exact ⟨this.1, fun _ => this.2, by omega⟩
  ·have d2 := c9g c2
   iterate 3 refine z ?_
   refine yO rfl rfl (a0M (.inl rfl) (a1A (a0a rfl))) rfl ?_
   refine a2c 17000 rfl rfl rfl Tryz.call38 (b1U (code := code) (i := i) (h := h) (by omega) (by omega)) (a0a rfl) rfl a1M rfl (fun _ => rfl) a1J rfl (fun _ => rfl) (fun _ => rfl) (fun zz hz17 => ?_)
   obtain ⟨e17, i17, h17⟩ := zz
   replace hz17 : 0 ≤ e17 ∧ e17 ≤ 255 ∧ 0 ≤ i17 := hz17
   iterate 3 refine z ?_
   refine yO rfl rfl (a0M (.inl rfl) (a1A (a0a rfl))) rfl ?_
   refine a2c 19000 rfl rfl rfl Tryz.call38 (b1U (code := code) (i := i17) (h := h17) (by omega) (by omega)) (a0a rfl) rfl a1M rfl (fun _ => rfl) a1J rfl (fun _ => rfl) (fun _ => rfl) (fun zz hz19 => ?_)
   obtain ⟨e19, i19, h19⟩ := zz
   replace hz19 : 0 ≤ e19 ∧ e19 ≤ 255 ∧ 0 ≤ i19 := hz19
   iterate 3 refine z ?_
   refine yO rfl rfl (a0M (.inl rfl) (a1A (a0a rfl))) rfl ?_
   refine a2c 21000 rfl rfl rfl Tryz.call38 (b1U (code := code) (i := i19) (h := h19) (by omega) (by omega)) (a0a rfl) rfl a1M rfl (fun _ => rfl) a1J rfl (fun _ => rfl) (fun _ => rfl) (fun zz hz21 => ?_)
   obtain ⟨e21, i21, h21⟩ := zz
   replace hz21 : 0 ≤ e21 ∧ e21 ≤ 255 ∧ 0 ≤ i21 := hz21
   iterate 4 refine z ?_
   refine yO rfl rfl (b2T rfl (a0a rfl) (a0i (a0j rfl)) (a2P (by omega) (by omega))) rfl ?_
   refine z ?_
   refine yO rfl rfl (b2T rfl (a0a rfl) (a0i (a0j rfl)) (a2P (by omega) (by omega))) rfl ?_
   iterate 4 refine z ?_
   refine yO rfl rfl (b4X rfl (a0a rfl) (a0a rfl) (by omega) (by omega)) rfl ?_
   iterate 2 refine z ?_
   refine a0h (σ' := ⟨[(4, .one (.dv [] (.int .i64 (((((e17) * (65536)) + ((e19) * (256))) + (e21)) % (n))))), (0, .abox 0)], [(0, 82, [(.arg 900001 (a0m (code))), (.dv [] (.int .i64 (i21))), (.dv [] (.int .i64 (h21)))])], []⟩) (a0e ⟨rfl, rfl, trivial⟩ ⟨rfl, trivial⟩ trivial rfl) ?_
   refine z ?_
   refine a1r (a0l rfl) ⟨((((((e17) * (65536)) + ((e19) * (256))) + (e21)) % (n)), i21, h21), ?_, rfl, rfl, rfl, rfl⟩
   try dsimp only
   have := b5Z (a := e17 * 65536 + e19 * 256 + e21) (n := n) (by omega) (by omega)
   exact ⟨this.1, fun _ => this.2, by omega⟩
theorem a9A {code : List UInt8} {i h : Int} {n : Int} (hc : code.length ≤ 1048576) (hi : 0 ≤ i)  : BFn Tryz.prog 35 [.one (.dv [] (.int .i64 (n)))] 82 (a0m (code)) [.dv [] (.int .i64 (i)), .dv [] (.int .i64 (h))] (fun zz : Bool × Int × Int => 0 ≤ zz.2.1) (fun zz : Bool × Int × Int => .one (.dv [] (.bool (zz.1)))) (fun zz : Bool × Int × Int => []) (fun zz : Bool × Int × Int => [.dv [] (.int .i64 (zz.2.1)), .dv [] (.int .i64 (zz.2.2))]) := by
 refine ⟨a3V Tryz.func35 rfl Tryz.ntmps35 Tryz.results35 rfl (fun C => ?_)⟩
 refine a1k (x := .tmp 1) (a0a rfl) fun f1 => ?_
 iterate 4 refine z ?_
 refine yO rfl rfl (a0M (.inl rfl) (a1A (a0a rfl))) rfl ?_
 refine z ?_
 refine a2c 7000 rfl rfl rfl Tryz.call17 (a4O (code := code) (i := i) (h := h) (n := n) (by omega) (by omega) ) (a0a rfl) rfl a1M rfl (fun _ => rfl) (a2E (a0a rfl) (a0C a0c) rfl a1J) rfl (fun _ => rfl) (fun _ => rfl) (fun zz hz7 => ?_)
 obtain ⟨e7, i7, h7⟩ := zz
 replace hz7 : 0 ≤ e7 ∧ (0 < (n) → e7 < (n)) ∧ 0 ≤ i7 := hz7
 iterate 3 refine z ?_
 refine a0h (σ' := ⟨[(4, .one (.dv [] (.bool (decide ((e7) = (0)))))), (0, .abox 0)], [(0, 82, [(.arg 900001 (a0m (code))), (.dv [] (.int .i64 (i7))), (.dv [] (.int .i64 (h7)))])], []⟩) (a0e ⟨rfl, rfl, trivial⟩ ⟨rfl, trivial⟩ trivial rfl) ?_
 refine z ?_
 refine a1r (a0l rfl) ⟨((decide ((e7) = (0))), i7, h7), ?_, rfl, rfl, rfl, rfl⟩
 try dsimp only
 omega
theorem b6A {code : List UInt8} {i h : Int} {l : List Int} (hc : code.length ≤ 1048576) (hi : 0 ≤ i) (hl : 0 < l.length) : BFn Tryz.prog 64 [.one (.dv [] (a5g (l)))] 82 (a0m (code)) [.dv [] (.int .i64 (i)), .dv [] (.int .i64 (h))] (fun zz : Int × Int × Int => zz.1 ∈ l ∧ 0 ≤ zz.2.1) (fun zz : Int × Int × Int => .one (.dv [] (.int .i64 (zz.1)))) (fun zz : Int × Int × Int => []) (fun zz : Int × Int × Int => [.dv [] (.int .i64 (zz.2.1)), .dv [] (.int .i64 (zz.2.2))]) := by
 refine ⟨a3V Tryz.func64 rfl Tryz.ntmps64 Tryz.results64 rfl (fun C => ?_)⟩
 refine a1k (x := .tmp 1) (a0a rfl) fun f1 => ?_
 iterate 5 refine z ?_
 refine yO rfl rfl (a0M (.inl rfl) (a1A (a0a rfl))) rfl ?_
 iterate 2 refine z ?_
 refine a2c 9000 rfl rfl rfl Tryz.call17 (a4O (code := code) (i := i) (h := h) (n := (((l)).length : Int)) (by omega) (by omega) ) (a0a rfl) rfl a1M rfl (fun _ => rfl) (a2E (a0a rfl) (a0C a0c) rfl a1J) rfl (fun _ => rfl) (fun _ => rfl) (fun zz hz9 => ?_)
 obtain ⟨e9, i9, h9⟩ := zz
 replace hz9 : 0 ≤ e9 ∧ (0 < ((((l)).length : Int)) → e9 < ((((l)).length : Int))) ∧ 0 ≤ i9 := hz9
 have hl := hz9.2.1 (by omega)
 iterate 4 refine z ?_
 refine a0h (σ' := ⟨[(4, .one (.dv [] (.int .i64 ((((l)).getD (e9).toNat default))))), (0, .abox 0)], [(0, 82, [(.arg 900001 (a0m (code))), (.dv [] (.int .i64 (i9))), (.dv [] (.int .i64 (h9)))])], []⟩) (a0e ⟨rfl, rfl, trivial⟩ ⟨rfl, trivial⟩ trivial rfl) ?_
 refine z ?_
 refine a1r (a0l rfl) ⟨(((((l)).getD (e9).toNat default)), i9, h9), ?_, rfl, rfl, rfl, rfl⟩
 try dsimp only
 exact ⟨c8J (by omega) (by omega), by omega⟩
theorem b2Z {code : List UInt8} {i h : Int} {l : List Str} (hc : code.length ≤ 1048576) (hi : 0 ≤ i) (hl : 0 < l.length) : BFn Tryz.prog 71 [.one (.dv [] (c8I (l)))] 82 (a0m (code)) [.dv [] (.int .i64 (i)), .dv [] (.int .i64 (h))] (fun zz : Str × Int × Int => zz.1 ∈ l ∧ 0 ≤ zz.2.1) (fun zz : Str × Int × Int => .one (.dv [] (.str (zz.1)))) (fun zz : Str × Int × Int => []) (fun zz : Str × Int × Int => [.dv [] (.int .i64 (zz.2.1)), .dv [] (.int .i64 (zz.2.2))]) := by
 refine ⟨a3V Tryz.func71 rfl Tryz.ntmps71 Tryz.results71 rfl (fun C => ?_)⟩
 refine a1k (x := .tmp 1) (a0a rfl) fun f1 => ?_
 iterate 5 refine z ?_
 refine yO rfl rfl (a0M (.inl rfl) (a1A (a0a rfl))) rfl ?_
 iterate 2 refine z ?_
 refine a2c 9000 rfl rfl rfl Tryz.call17 (a4O (code := code) (i := i) (h := h) (n := (((l)).length : Int)) (by omega) (by omega) ) (a0a rfl) rfl a1M rfl (fun _ => rfl) (a2E (a0a rfl) (a0C a0c) rfl a1J) rfl (fun _ => rfl) (fun _ => rfl) (fun zz hz9 => ?_)
 obtain ⟨e9, i9, h9⟩ := zz
 replace hz9 : 0 ≤ e9 ∧ (0 < ((((l)).length : Int)) → e9 < ((((l)).length : Int))) ∧ 0 ≤ i9 := hz9
 have hl := hz9.2.1 (by omega)
 iterate 4 refine z ?_
 refine a0h (σ' := ⟨[(4, .one (.dv [] (.str ((((l)).getD (e9).toNat default))))), (0, .abox 0)], [(0, 82, [(.arg 900001 (a0m (code))), (.dv [] (.int .i64 (i9))), (.dv [] (.int .i64 (h9)))])], []⟩) (a0e ⟨rfl, rfl, trivial⟩ ⟨rfl, trivial⟩ trivial rfl) ?_
 refine z ?_
 refine a1r (a0l rfl) ⟨(((((l)).getD (e9).toNat default)), i9, h9), ?_, rfl, rfl, rfl, rfl⟩
 try dsimp only
 exact ⟨c6w (by omega) (by omega), by omega⟩
def a6Q (k : a0K) : Prop := k.2.1 ≤ 256 ∨ 1000000 < k.2.1
theorem b8L {l : List Str} (h : l.all a4p = true) {s : Str} (hs : s ∈ l) : a4p s = true := List.all_eq_true.1 h s hs
theorem a7D {l : List Str} (h : l.all a2e = true) {s : Str} (hs : s ∈ l) : a2e s = true := List.all_eq_true.1 h s hs
theorem c6Y {l : List Int} (a b : Int) (h : l.all (fun x => decide (a ≤ x) && decide (x ≤ b)) = true) {x : Int} (hx : x ∈ l) : a ≤ x ∧ x ≤ b := by simpa using List.all_eq_true.1 h x hx
theorem b8p {n : Int} (h : -1000000000000 ≤ n ∧ n ≤ 1000000000000) : a1a (1, n, ByteArray.empty) = true := by
 have ht : a4p ByteArray.empty = true := by decide +kernel
 have he : sEq ByteArray.empty ByteArray.empty = true := by decide +kernel
 have he2 : (ByteArray.mk #[] : ByteArray) = ByteArray.empty := rfl
 simp [a1a, ht, h.1, h.2, he, he2]
theorem c5c {s : Str} (h : a4p s = true) : a1a (2, 0, s) = true := by simp [a1a, h]
theorem c8V {n : Int} {s : Str} (h : -1000000000000 ≤ n ∧ n ≤ 1000000000000) (hs : a4p s = true) : a1a (3, n, s) = true := by simp [a1a, hs, h.1, h.2]
theorem c8W {r : a0v} {n : Str} {v : Int} (h : a1b r = true) : a1b (a1G r n v).1 = true := by
 unfold a1G
 split
 ·exact h
 ·rename_i h1
  simp only [Bool.or_eq_true, Bool.not_eq_true', not_or, Bool.not_eq_false] at h1
  exact h1.2
theorem c4x {r : a0v} (h : a1b r = true) : a7z r ≤ 54 := by
 have h10 := a7w h
 have h11 : a0V a6a r ≤ 8 * r.length := by
  have key : ∀ r : a0v, (∀ f ∈ r, f.1.size ≤ 8) → a0V a6a r ≤ 8 * r.length := by
   intro r
   induction r with
   | nil => intro _; simp [a0V]
   | cons f r ih =>
    intro hf
    have k1 := ih (fun g hg => hf g (by simp [hg]))
    have k2 := hf f (by simp)
    have k3 : a6a f = f.1.size := rfl
    simp only [a0V, List.map_cons, List.sum_cons, List.length_cons] at *
    omega
  refine key _ (fun f hf => ?_)
  obtain ⟨j, hj, rfl⟩ := List.mem_iff_getElem.1 hf
  have := (a4Z (b0i h hj).1).2
  rwa [a3N hj] at this
 have h13 : a7z r = r.length + a0V a6a r := rfl
 omega
theorem b8q {code : List UInt8} {i h : Int} (hc : code.length ≤ 1048576) (hi : 0 ≤ i) : BFn Tryz.prog 98 [] 82 (a0m (code)) [.dv [] (.int .i64 (i)), .dv [] (.int .i64 (h))] (fun zz : Int × Int × Int => (-1000000000000 ≤ zz.1 ∧ zz.1 ≤ 1000000000000) ∧ (zz.1 ≤ 256 ∨ 1000000 < zz.1) ∧ 0 ≤ zz.2.1) (fun zz : Int × Int × Int => .one (.dv [] (.int .i64 (zz.1)))) (fun zz : Int × Int × Int => []) (fun zz : Int × Int × Int => [.dv [] (.int .i64 (zz.2.1)), .dv [] (.int .i64 (zz.2.2))]) := by
 refine ⟨a3V Tryz.func98 rfl Tryz.ntmps98 Tryz.results98 rfl (fun C => ?_)⟩
 iterate 4 refine z ?_
 refine yO rfl rfl (a0M (.inl rfl) (a1A (a0a rfl))) rfl ?_
 refine yO rfl rfl (a0M (.inl rfl) (a1A (a0a rfl))) rfl ?_
 refine a2c 5000 rfl rfl rfl Tryz.call17 (a4O (code := code) (i := i) (h := h) (n := 9) (by omega) (by omega) ) (a0a rfl) rfl a1M rfl (fun _ => rfl) (a2E (a0i (a0j rfl)) (a0C a0c) rfl a1J) rfl (fun _ => rfl) (fun _ => rfl) (fun zz hz5 => ?_)
 obtain ⟨e5, i5, h5⟩ := zz
 replace hz5 : 0 ≤ e5 ∧ (0 < (9 : Int) → e5 < (9 : Int)) ∧ 0 ≤ i5 := hz5
 refine a9R (k := 6) (js := []) hT rfl rfl rfl rfl rfl rfl rfl rfl rfl rfl rfl (a0Y (a0i (a0j rfl)) rfl rfl rfl (a0Y (a0i (a0j rfl)) rfl rfl rfl (a0Y (a0i (a0j rfl)) rfl rfl rfl (a0Y (a0i (a0j rfl)) rfl rfl rfl (a0Y (a0i (a0j rfl)) rfl rfl rfl (a0Y (a0i (a0j rfl)) rfl rfl rfl (a0Y (a0i (a0j rfl)) rfl rfl rfl (a0Y (a0i (a0j rfl)) rfl rfl rfl (a0Y (a0a rfl) rfl rfl rfl a2Z))))))))) (a0o (a0R rfl) (a0o (a0R rfl) (a0o (a0R rfl) (a0o (a0R rfl) (a0o (a0R rfl) (a0o (a0R rfl) (a0o (a0R rfl) (a0o (a0R rfl) (a0o (a0R rfl) a1y rfl) rfl) rfl) rfl) rfl) rfl) rfl) rfl) rfl) (by decide) (by decide) rfl rfl ?_
 simp only [a0p, a0k, SV.kill, CV.kill, kk, Nat.reduceBEq]
 refine a2c 7000 rfl rfl rfl Tryz.call64 (b6A (code := code) (i := i5) (h := h5) (l := [0, 1, 2, -1, 255, 256, -1000000000000, 1000000000000, e5]) (by omega) (by omega) (by exact Nat.succ_pos _)) (a0a rfl) rfl a1M rfl (fun _ => rfl) (a2E (a0a rfl) (a0C (a0X rfl rfl)) rfl a1J) rfl (fun _ => rfl) (fun _ => rfl) (fun zz hz7 => ?_)
 obtain ⟨e7, i7, h7⟩ := zz
 replace hz7 : e7 ∈ ([0, 1, 2, -1, 255, 256, -1000000000000, 1000000000000, e5]) ∧ 0 ≤ i7 := hz7
 iterate 2 refine z ?_
 refine a0h (σ' := ⟨[(2, .one (.dv [] (.int .i64 (e7)))), (0, .abox 0)], [(0, 82, [(.arg 900001 (a0m (code))), (.dv [] (.int .i64 (i7))), (.dv [] (.int .i64 (h7)))])], []⟩) (a0e ⟨rfl, rfl, trivial⟩ ⟨rfl, trivial⟩ trivial rfl) ?_
 refine z ?_
 refine a1r (a0l rfl) ⟨((e7), i7, h7), ?_, rfl, rfl, rfl, rfl⟩
 try dsimp only
 refine ⟨?_, ?_, by omega⟩
 all_goals have h9 := hz5.2.1 (by omega)
 all_goals have h8 := hz7.1
 all_goals simp only [List.mem_cons, List.not_mem_nil, or_false] at h8
 all_goals omega
theorem c7v {code : List UInt8} {i h : Int} (hc : code.length ≤ 1048576) (hi : 0 ≤ i) : BFn Tryz.prog 68 [] 82 (a0m (code)) [.dv [] (.int .i64 (i)), .dv [] (.int .i64 (h))] (fun zz : a0K × Int × Int => a1a zz.1 = true ∧ a6Q zz.1 ∧ 0 ≤ zz.2.1) (fun zz : a0K × Int × Int => .agg [(.dv [] (.int .i64 (zz.1.1))), (.dv [] (.int .i64 (zz.1.2.1))), (.dv [] (.str (zz.1.2.2)))]) (fun zz : a0K × Int × Int => []) (fun zz : a0K × Int × Int => [.dv [] (.int .i64 (zz.2.1)), .dv [] (.int .i64 (zz.2.2))]) := by
 refine ⟨a3V Tryz.func68 rfl Tryz.ntmps68 Tryz.results68 rfl (fun C => ?_)⟩
 iterate 4 refine z ?_
 refine yO rfl rfl (a0M (.inl rfl) (a1A (a0a rfl))) rfl ?_
 refine a9R (k := 5) (js := []) hT rfl rfl rfl rfl rfl rfl rfl rfl rfl rfl rfl (a0Y (a0B (a0A rfl)) rfl rfl rfl (a0Y (a0B (a0A rfl)) rfl rfl rfl (a0Y (a0B (a0A rfl)) rfl rfl rfl (a0Y (a0B (a0A rfl)) rfl rfl rfl (a0Y (a0B (a0A rfl)) rfl rfl rfl (a0Y (a0B (a0A rfl)) rfl rfl rfl a2Z)))))) (a0o (a0R rfl) (a0o (a0R rfl) (a0o (a0R rfl) (a0o (a0R rfl) (a0o (a0R rfl) (a0o (a0R rfl) a1y rfl) rfl) rfl) rfl) rfl) rfl) (by decide) (by decide) rfl rfl ?_
 simp only [a0p, a0k, SV.kill, CV.kill, kk, Nat.reduceBEq]
 refine a2c 6000 rfl rfl rfl Tryz.call71 (b2Z (code := code) (i := i) (h := h) (l := [ByteArray.mk #[], ByteArray.mk #[97], ByteArray.mk #[97, 98], ByteArray.mk #[98], ByteArray.mk #[122, 57], ByteArray.mk #[97, 98, 99, 100, 101, 102, 103, 104, 105, 106, 107, 108]]) (by omega) (by omega) (by exact Nat.succ_pos _)) (a0a rfl) rfl a1M rfl (fun _ => rfl) (a2E (a0a rfl) (a0C (a0X rfl rfl)) rfl a1J) rfl (fun _ => rfl) (fun _ => rfl) (fun zz hz6 => ?_)
 obtain ⟨e6, i6, h6⟩ := zz
 replace hz6 : e6 ∈ ([ByteArray.mk #[], ByteArray.mk #[97], ByteArray.mk #[97, 98], ByteArray.mk #[98], ByteArray.mk #[122, 57], ByteArray.mk #[97, 98, 99, 100, 101, 102, 103, 104, 105, 106, 107, 108]]) ∧ 0 ≤ i6 := hz6
 iterate 4 refine z ?_
 refine yO rfl rfl (a0M (.inl rfl) (a1A (a0a rfl))) rfl ?_
 refine a2c 8000 rfl rfl rfl Tryz.call17 (a4O (code := code) (i := i6) (h := h6) (n := 3) (by omega) (by omega) ) (a0a rfl) rfl a1M rfl (fun _ => rfl) (a2E (a0i (a0j rfl)) (a0C a0c) rfl a1J) rfl (fun _ => rfl) (fun _ => rfl) (fun zz hz8 => ?_)
 obtain ⟨e8, i8, h8⟩ := zz
 replace hz8 : 0 ≤ e8 ∧ (0 < (3 : Int) → e8 < (3 : Int)) ∧ 0 ≤ i8 := hz8
 iterate 6 refine z ?_
 refine yQ rfl (fun c1 => ?_) fun c1 => ?_
 ·have d1 := c9f c1
  iterate 2 refine z ?_
  refine yO rfl rfl (a1v hT hB rfl rfl rfl (a1c (a0i (a0j rfl)) rfl rfl rfl rfl rfl (a1c (a0a rfl) rfl rfl rfl rfl rfl a1w))) rfl ?_
  iterate 2 refine z ?_
  refine a0h (σ' := ⟨[(2, .box 2 0), (0, .abox 0)], [(2, 60, [(.dv [] (.int .i64 (2))), (.dv [] (.int .i64 (0))), (.dv [] (.str (e6)))]), (0, 82, [(.arg 900001 (a0m (code))), (.dv [] (.int .i64 (i8))), (.dv [] (.int .i64 (h8)))])], []⟩) (a0e ⟨rfl, rfl, trivial⟩ ⟨rfl, rfl, trivial⟩ trivial rfl) ?_
  iterate 3 refine z ?_
  refine a1r (a0E hT rfl rfl rfl rfl) ⟨(((2), ((0), (e6))), i8, h8), ?_, rfl, rfl, rfl, rfl⟩
  try dsimp only
  exact ⟨c5c (b8L (l := [ByteArray.mk #[], ByteArray.mk #[97], ByteArray.mk #[97, 98], ByteArray.mk #[98], ByteArray.mk #[122, 57], ByteArray.mk #[97, 98, 99, 100, 101, 102, 103, 104, 105, 106, 107, 108]]) (by decide +kernel) hz6.1), .inl (by dsimp only; omega), by omega⟩
 ·have d1 := c9g c1
  iterate 4 refine z ?_
  refine yQ rfl (fun c2 => ?_) fun c2 => ?_
  ·have d2 := c9f c2
   refine z ?_
   refine yO rfl rfl (a0M (.inl rfl) (a1A (a0a rfl))) rfl ?_
   refine a2c 16000 rfl rfl rfl Tryz.call98 (b8q (code := code) (i := i8) (h := h8) (by omega) (by omega)) (a0a rfl) rfl a1M rfl (fun _ => rfl) a1J rfl (fun _ => rfl) (fun _ => rfl) (fun zz hz16 => ?_)
   obtain ⟨e16, i16, h16⟩ := zz
   replace hz16 : (-1000000000000 ≤ e16 ∧ e16 ≤ 1000000000000) ∧ (e16 ≤ 256 ∨ 1000000 < e16) ∧ 0 ≤ i16 := hz16
   refine z ?_
   refine yO rfl rfl (a1v hT hB rfl rfl rfl (a1c (a0i (a0j rfl)) rfl rfl rfl rfl rfl (a1c (a0a rfl) rfl rfl rfl rfl rfl (a1c (a0a rfl) rfl rfl rfl rfl rfl a1w)))) rfl ?_
   iterate 2 refine z ?_
   refine a0h (σ' := ⟨[(2, .box 2 0), (0, .abox 0)], [(2, 60, [(.dv [] (.int .i64 (3))), (.dv [] (.int .i64 (e16))), (.dv [] (.str (e6)))]), (0, 82, [(.arg 900001 (a0m (code))), (.dv [] (.int .i64 (i16))), (.dv [] (.int .i64 (h16)))])], []⟩) (a0e ⟨rfl, rfl, trivial⟩ ⟨rfl, rfl, trivial⟩ trivial rfl) ?_
   iterate 3 refine z ?_
   refine a1r (a0E hT rfl rfl rfl rfl) ⟨(((3), ((e16), (e6))), i16, h16), ?_, rfl, rfl, rfl, rfl⟩
   try dsimp only
   exact ⟨c8V hz16.1 (b8L (l := [ByteArray.mk #[], ByteArray.mk #[97], ByteArray.mk #[97, 98], ByteArray.mk #[98], ByteArray.mk #[122, 57], ByteArray.mk #[97, 98, 99, 100, 101, 102, 103, 104, 105, 106, 107, 108]]) (by decide +kernel) hz6.1), hz16.2.1, by omega⟩
  ·have d2 := c9g c2
   iterate 4 refine z ?_
   refine yO rfl rfl (a0M (.inl rfl) (a1A (a0a rfl))) rfl ?_
   refine a2c 20000 rfl rfl rfl Tryz.call98 (b8q (code := code) (i := i8) (h := h8) (by omega) (by omega)) (a0a rfl) rfl a1M rfl (fun _ => rfl) a1J rfl (fun _ => rfl) (fun _ => rfl) (fun zz hz20 => ?_)
   obtain ⟨e20, i20, h20⟩ := zz
   replace hz20 : (-1000000000000 ≤ e20 ∧ e20 ≤ 1000000000000) ∧ (e20 ≤ 256 ∨ 1000000 < e20) ∧ 0 ≤ i20 := hz20
   refine yO rfl rfl (a1v hT hB rfl rfl rfl (a1c (a0i (a0j rfl)) rfl rfl rfl rfl rfl (a1c (a0a rfl) rfl rfl rfl rfl rfl a1w))) rfl ?_
   iterate 2 refine z ?_
   refine a0h (σ' := ⟨[(2, .box 2 0), (0, .abox 0)], [(2, 60, [(.dv [] (.int .i64 (1))), (.dv [] (.int .i64 (e20))), (.dv [] (.str (ByteArray.empty)))]), (0, 82, [(.arg 900001 (a0m (code))), (.dv [] (.int .i64 (i20))), (.dv [] (.int .i64 (h20)))])], []⟩) (a0e ⟨rfl, rfl, trivial⟩ ⟨rfl, rfl, trivial⟩ trivial rfl) ?_
   refine z ?_
   refine a1r (a0E hT rfl rfl rfl rfl) ⟨(((1), ((e20), (ByteArray.empty))), i20, h20), ?_, rfl, rfl, rfl, rfl⟩
   try dsimp only
   exact ⟨b8p hz20.1, hz20.2.1, by omega⟩
theorem b3f {code : List UInt8} {i h : Int} (hc : code.length ≤ 1048576) (hi : 0 ≤ i) : BFn Tryz.prog 66 [] 82 (a0m (code)) [.dv [] (.int .i64 (i)), .dv [] (.int .i64 (h))] (fun zz : a0K × Int × Int => a1a zz.1 = true ∧ a6Q zz.1 ∧ 0 ≤ zz.2.1) (fun zz : a0K × Int × Int => .agg [(.dv [] (.int .i64 (zz.1.1))), (.dv [] (.int .i64 (zz.1.2.1))), (.dv [] (.str (zz.1.2.2)))]) (fun zz : a0K × Int × Int => []) (fun zz : a0K × Int × Int => [.dv [] (.int .i64 (zz.2.1)), .dv [] (.int .i64 (zz.2.2))]) := by
 refine ⟨a3V Tryz.func66 rfl Tryz.ntmps66 Tryz.results66 rfl (fun C => ?_)⟩
 iterate 4 refine z ?_
 refine yO rfl rfl (a0M (.inl rfl) (a1A (a0a rfl))) rfl ?_
 refine a2c 4000 rfl rfl rfl Tryz.call17 (a4O (code := code) (i := i) (h := h) (n := 6) (by omega) (by omega) ) (a0a rfl) rfl a1M rfl (fun _ => rfl) (a2E (a0i (a0j rfl)) (a0C a0c) rfl a1J) rfl (fun _ => rfl) (fun _ => rfl) (fun zz hz4 => ?_)
 obtain ⟨e4, i4, h4⟩ := zz
 replace hz4 : 0 ≤ e4 ∧ (0 < (6 : Int) → e4 < (6 : Int)) ∧ 0 ≤ i4 := hz4
 refine yO rfl rfl (a1v hT hB rfl rfl rfl (a1c (a0i (a0j rfl)) rfl rfl rfl rfl rfl (a1c (a0a rfl) rfl rfl rfl rfl rfl a1w))) rfl ?_
 iterate 2 refine z ?_
 refine a0h (σ' := ⟨[(2, .box 2 0), (0, .abox 0)], [(2, 60, [(.dv [] (.int .i64 (1))), (.dv [] (.int .i64 (e4))), (.dv [] (.str (ByteArray.empty)))]), (0, 82, [(.arg 900001 (a0m (code))), (.dv [] (.int .i64 (i4))), (.dv [] (.int .i64 (h4)))])], []⟩) (a0e ⟨rfl, rfl, trivial⟩ ⟨rfl, rfl, trivial⟩ trivial rfl) ?_
 refine z ?_
 refine a1r (a0E hT rfl rfl rfl rfl) ⟨(((1), ((e4), (ByteArray.empty))), i4, h4), ?_, rfl, rfl, rfl, rfl⟩
 try dsimp only
 have h9 := hz4.2.1 (by omega)
 exact ⟨b8p (by omega), .inl (by dsimp only; omega), by omega⟩
theorem b0J {code : List UInt8} {i h : Int} (hc : code.length ≤ 1048576) (hi : 0 ≤ i) : BFn Tryz.prog 37 [] 82 (a0m (code)) [.dv [] (.int .i64 (i)), .dv [] (.int .i64 (h))] (fun zz : Str × Int × Int => a2e zz.1 = true ∧ 0 ≤ zz.2.1) (fun zz : Str × Int × Int => .one (.dv [] (.str (zz.1)))) (fun zz : Str × Int × Int => []) (fun zz : Str × Int × Int => [.dv [] (.int .i64 (zz.2.1)), .dv [] (.int .i64 (zz.2.2))]) := by
 refine ⟨a3V Tryz.func37 rfl Tryz.ntmps37 Tryz.results37 rfl (fun C => ?_)⟩
 iterate 4 refine z ?_
 refine yO rfl rfl (a0M (.inl rfl) (a1A (a0a rfl))) rfl ?_
 refine a9R (k := 4) (js := []) hT rfl rfl rfl rfl rfl rfl rfl rfl rfl rfl rfl (a0Y (a0B (a0A rfl)) rfl rfl rfl (a0Y (a0B (a0A rfl)) rfl rfl rfl (a0Y (a0B (a0A rfl)) rfl rfl rfl (a0Y (a0B (a0A rfl)) rfl rfl rfl (a0Y (a0B (a0A rfl)) rfl rfl rfl a2Z))))) (a0o (a0R rfl) (a0o (a0R rfl) (a0o (a0R rfl) (a0o (a0R rfl) (a0o (a0R rfl) a1y rfl) rfl) rfl) rfl) rfl) (by decide) (by decide) rfl rfl ?_
 simp only [a0p, a0k, SV.kill, CV.kill, kk, Nat.reduceBEq]
 refine a2c 5000 rfl rfl rfl Tryz.call71 (b2Z (code := code) (i := i) (h := h) (l := [ByteArray.mk #[97], ByteArray.mk #[98], ByteArray.mk #[99], ByteArray.mk #[100, 111, 110, 101], ByteArray.mk #[116, 105, 116, 108, 101]]) (by omega) (by omega) (by exact Nat.succ_pos _)) (a0a rfl) rfl a1M rfl (fun _ => rfl) (a2E (a0a rfl) (a0C (a0X rfl rfl)) rfl a1J) rfl (fun _ => rfl) (fun _ => rfl) (fun zz hz5 => ?_)
 obtain ⟨e5, i5, h5⟩ := zz
 replace hz5 : e5 ∈ ([ByteArray.mk #[97], ByteArray.mk #[98], ByteArray.mk #[99], ByteArray.mk #[100, 111, 110, 101], ByteArray.mk #[116, 105, 116, 108, 101]]) ∧ 0 ≤ i5 := hz5
 iterate 2 refine z ?_
 refine a0h (σ' := ⟨[(2, .one (.dv [] (.str (e5)))), (0, .abox 0)], [(0, 82, [(.arg 900001 (a0m (code))), (.dv [] (.int .i64 (i5))), (.dv [] (.int .i64 (h5)))])], []⟩) (a0e ⟨rfl, rfl, trivial⟩ ⟨rfl, trivial⟩ trivial rfl) ?_
 refine z ?_
 refine a1r (a0l rfl) ⟨((e5), i5, h5), ?_, rfl, rfl, rfl, rfl⟩
 try dsimp only
 exact ⟨a7D (l := [ByteArray.mk #[97], ByteArray.mk #[98], ByteArray.mk #[99], ByteArray.mk #[100, 111, 110, 101], ByteArray.mk #[116, 105, 116, 108, 101]]) (by decide +kernel) hz5.1, by omega⟩
theorem b1f {code : List UInt8} {i h : Int} (hc : code.length ≤ 1048576) (hi : 0 ≤ i) : BFn Tryz.prog 67 [] 82 (a0m (code)) [.dv [] (.int .i64 (i)), .dv [] (.int .i64 (h))] (fun zz : a0v × Int × Int => a1b zz.1 = true ∧ 0 ≤ zz.2.1) (fun zz : a0v × Int × Int => .agg [(.key 9001)]) (fun zz : a0v × Int × Int => [(9001, some (a0b false (a0I (zz.1))))]) (fun zz : a0v × Int × Int => [.dv [] (.int .i64 (zz.2.1)), .dv [] (.int .i64 (zz.2.2))]) := by
 refine ⟨a3V Tryz.func67 rfl Tryz.ntmps67 Tryz.results67 rfl (fun C => ?_)⟩
 iterate 4 refine z ?_
 refine yO rfl rfl (a1v hT hB rfl rfl rfl a1w) rfl ?_
 iterate 3 refine z ?_
 refine a0u ?_
 refine a0u ?_
 refine a0h (a3p 9001 (b := 3) (i := 0) (e := 135) (sz := 2) rfl rfl rfl rfl rfl) ?_
 simp only [a0p, a0k, SV.kill, CV.kill, kk, Nat.reduceBEq]
 refine a0n ?_
 refine yO rfl rfl (a0M (.inl rfl) (a1A (a0a rfl))) rfl ?_
 refine a2c 7000 rfl rfl rfl Tryz.call17 (a4O (code := code) (i := i) (h := h) (n := 4) (by omega) (by omega) ) (a0a rfl) rfl a1M rfl (fun _ => rfl) (a2E (a0i (a0j rfl)) (a0C a0c) rfl a1J) rfl (fun _ => rfl) (fun _ => rfl) (fun zz hz7 => ?_)
 obtain ⟨e7, i7, h7⟩ := zz
 replace hz7 : 0 ≤ e7 ∧ (0 < (4 : Int) → e7 < (4 : Int)) ∧ 0 ≤ i7 := hz7
 iterate 3 refine z ?_
 refine a1o (ι := Int × a0v × Int × Int) (fun zz => ⟨[(0, .abox 0), (2, .box 2 0), (3, .box 3 0), (4, .one (.dv [] (.int .i64 (zz.1))))], [(0, 82, [(.arg 900001 (a0m (code))), (.dv [] (.int .i64 (zz.2.2.1))), (.dv [] (.int .i64 (zz.2.2.2)))]), (2, 63, [.nil]), (3, 63, [(.key 9001)])], [(9001, some (a0b false (.sl 135 2 (zz.2.1.length) (zz.2.1.flatMap a1B))))]⟩) (fun zz => a1b zz.2.1 = true ∧ 0 ≤ zz.2.2.1 ∧ zz.1 ≤ 9) (fun zz => zz.1.toNat) ((e7, [], i7, h7)) ?_ (a0e ⟨rfl, rfl, rfl, rfl, trivial⟩ ⟨rfl, rfl, rfl, trivial⟩ ⟨rfl, trivial⟩ rfl) (fun zz hx => ?_)
 ·exact ⟨rfl, by dsimp only; omega, by dsimp only; omega⟩
 obtain ⟨n, r, ci, ch⟩ := zz
 replace hx : a1b r = true ∧ 0 ≤ ci ∧ n ≤ 9 := hx
 obtain ⟨hr, hci, hn9⟩ := hx
 show Ok _ _ _ _ _ (⟨[(0, .abox 0), (2, .box 2 0), (3, .box 3 0), (4, .one (.dv [] (.int .i64 (n))))], [(0, 82, [(.arg 900001 (a0m (code))), (.dv [] (.int .i64 (ci))), (.dv [] (.int .i64 (ch)))]), (2, 63, [.nil]), (3, 63, [(.key 9001)])], [(9001, some (a0b false (.sl 135 2 (r.length) (r.flatMap a1B))))]⟩ : St)
 iterate 5 refine z ?_
 refine yQ rfl (fun c1 => ?_) fun c1 => ?_
 ·have d1 := c9f c1
  iterate 4 refine z ?_
  refine a6G [0] [0, 1, 2, 3, 4, 5, 6] (oB := [2, 3]) (oK := [9001]) (by kernel_rfl) rfl rfl ?_
  refine a2q 0 rfl (by kernel_rfl) rfl rfl (a4I hT rfl rfl (a0a rfl) rfl rfl) rfl rfl rfl rfl rfl ?_
  refine a2q 1 rfl (by kernel_rfl) rfl rfl (a0M (.inl rfl) (a1A (a0a rfl))) rfl rfl rfl rfl rfl ?_
  refine a2q 3 rfl (by kernel_rfl) rfl rfl (a0M (.inl rfl) (a1A (a0a rfl))) rfl rfl rfl rfl rfl ?_
  refine a2U 2 [] (by kernel_rfl) ⟨?_, trivial⟩
  refine a4C 15000 2 rfl rfl rfl rfl rfl Tryz.call37 (b0J (code := code) (i := ci) (h := ch) (by omega) (by omega)) (a0a rfl) rfl a1M rfl (fun _ => rfl) a1J rfl (fun _ => rfl) (fun _ => rfl) rfl (fun zz hz15 => ?_)
  obtain ⟨e15, i15, h15⟩ := zz
  replace hz15 : a2e e15 = true ∧ 0 ≤ i15 := hz15
  refine a2U 4 [] (by kernel_rfl) ⟨?_, trivial⟩
  refine a4C 17000 4 rfl rfl rfl rfl rfl Tryz.call17 (a4O (code := code) (i := i15) (h := h15) (n := 5) (by omega) (by omega) ) (a0a rfl) rfl a1M rfl (fun _ => rfl) (a2E (a0i (a0j rfl)) (a0C a0c) rfl a1J) rfl (fun _ => rfl) (fun _ => rfl) rfl (fun zz hz17 => ?_)
  obtain ⟨e17, i17, h17⟩ := zz
  replace hz17 : 0 ≤ e17 ∧ (0 < (5 : Int) → e17 < (5 : Int)) ∧ 0 ≤ i17 := hz17
  refine a2U 5 [] (by kernel_rfl) ⟨?_, trivial⟩
  refine a9q 500 5 rfl rfl rfl rfl Tryz.call97 (b2I (r := r) (n := e15) (v := e17) (by have := a7w hr; omega)) (a0g (a0a rfl) (a0t (a0d (a0X rfl rfl) a0r)) (a0g (a0a rfl) (a0C a0c) (a0g (a0a rfl) (a0C a0c) a0q))) rfl rfl rfl rfl rfl rfl ?_
  refine a2q 6 rfl (by kernel_rfl) rfl rfl (a0M (.inl rfl) (a0a rfl)) rfl rfl rfl rfl rfl ?_
  refine a5A 7 rfl (by kernel_rfl) rfl rfl rfl (a3F rfl (a0a rfl) rfl) rfl rfl ?_
  refine a5A 8 rfl (by kernel_rfl) rfl rfl rfl (a3c rfl (a0a rfl) rfl) rfl rfl ?_
  refine a7h [9] rfl rfl (by kernel_rfl) ?_
  refine z ?_
  refine a1H ?_
  iterate 2 refine z ?_
  refine a0n ?_
  iterate 4 refine z ?_
  refine ⟨(n - 1, (a1G r e15 e17).1, i17, h17), ?_, ?_, a4e (a2N (b := 3) (i := 0) (k := 9501) (k' := 9001) rfl rfl rfl rfl (by simp) rfl rfl) (a0e ⟨rfl, rfl, rfl, rfl, trivial⟩ ⟨rfl, rfl, rfl, trivial⟩ ⟨rfl, trivial⟩ rfl)⟩
  ·exact ⟨c8W hr, by dsimp only; omega, by dsimp only; omega⟩
  ·dsimp only; omega
 ·have d1 := c9g c1
  iterate 9 refine z ?_
  refine a0h (σ' := ⟨[(2, .box 2 0), (0, .abox 0)], [(2, 63, [(.key 9001)]), (0, 82, [(.arg 900001 (a0m (code))), (.dv [] (.int .i64 (ci))), (.dv [] (.int .i64 (ch)))])], [(9001, some (a0b false (.sl 135 2 (r.length) (r.flatMap a1B))))]⟩) (a0e ⟨rfl, rfl, trivial⟩ ⟨rfl, rfl, trivial⟩ ⟨rfl, trivial⟩ rfl) ?_
  refine z ?_
  refine a1r (a0E hT rfl rfl rfl rfl) ⟨((r), ci, ch), ?_, rfl, rfl, rfl, rfl⟩
  try dsimp only
  exact ⟨hr, by omega⟩
def a6Y (s : a0G) : Prop := ∀ y ∈ s.2.1, y.1.1 = 1 → y.1.2.1 ≤ 1000000 → y.1.2.1 ≤ s.2.2
theorem c2j {l : List a0T} {j : Nat} {y z : a0T} (h : z ∈ a1Z l j y) : z = y ∨ z ∈ l := by
 unfold a1Z at h
 simp only [List.mem_append, List.mem_singleton] at h
 rcases h with (h | h) | h
 ·exact .inr (List.mem_of_mem_take h)
 ·exact .inl h
 ·exact .inr (List.mem_of_mem_drop h)
theorem c0v {s : a0G} {k : a0K} {r : a0v} (h : a6Y s) : a6Y (a0N s k r).1 := by
 cases h2 : (a0N s k r).2 with
 | false => rw [b0o h2]; exact h
 | true =>
  obtain ⟨_, _, _, ⟨h3, e⟩ | ⟨h3, _, e⟩⟩ := a9t h2
  ·rw [e]
   intro y hy h4 h5
   dsimp only at hy ⊢
   have hm : y.1 ∈ (a2t s.2.1 (a0S s k).toNat r).map Prod.fst := List.mem_map_of_mem hy
   rw [c1v] at hm
   obtain ⟨z, hz, hzy⟩ := List.mem_map.1 hm
   have := h z hz (by rw [hzy]; exact h4) (by rw [hzy]; exact h5)
   rw [hzy] at this; exact this
  ·rw [e]
   intro y hy h4 h5
   dsimp only at hy ⊢
   have ha : s.2.2 ≤ a3h s k := by
    have := c4O (x := s) (k := k) (r := r)
    rw [e] at this; exact this
   rcases c2j hy with rfl | hy
   ·unfold a3h
    dsimp only at h4 h5 ⊢
    split
    ·exact Int.le_refl _
    ·rename_i hh
     simp only [Bool.and_eq_true, decide_eq_true_eq] at hh
     omega
   ·have := h y hy h4 h5
    omega
theorem b9d {s : a0G} {k : a0K} {r : a0v} (h : s.2.2 ≤ 256) (hk : a6Q k) : (a0N s k r).1.2.2 ≤ 256 := by
 cases h2 : (a0N s k r).2 with
 | false => rw [b0o h2]; exact h
 | true =>
  obtain ⟨_, _, _, ⟨h3, e⟩ | ⟨h3, _, e⟩⟩ := a9t h2
  ·rw [e]; exact h
  ·rw [e]
   dsimp only
   unfold a3h
   split
   ·rename_i hh
    simp only [Bool.and_eq_true, decide_eq_true_eq] at hh
    unfold a6Q at hk
    omega
   ·exact h
theorem b2X {s : a0G} (h : a1i s = true) : a1g s ≤ 1200 := by
 have h0 := h
 simp only [a1i, Bool.and_eq_true, List.all_eq_true, decide_eq_true_eq] at h
 obtain ⟨h1, ⟨h2, h3⟩, h4⟩ := h
 have h5 := a4Z h2
 have h6 : ∀ x ∈ s.2.1, a1P x ≤ 70 := fun x hx => by
  obtain ⟨i, hi, rfl⟩ := List.mem_iff_getElem.1 hx
  have h7 := h1 i (List.mem_range.2 hi)
  unfold a4f at h7
  rw [a3N hi] at h7
  simp only [Bool.not_or, Bool.not_not, Bool.and_eq_true] at h7
  have h8 := (a7o h7.1.1).2.2
  have h9 := c4x h7.1.2
  have h12 : a1P s.2.1[i] = s.2.1[i].1.2.2.size + a7z s.2.1[i].2 := rfl
  omega
 have h7 : a0V a1P s.2.1 ≤ 70 * s.2.1.length := by
  have key : ∀ l : List a0T, (∀ x ∈ l, a1P x ≤ 70) → a0V a1P l ≤ 70 * l.length := by
   intro l
   induction l with
   | nil => intro _; simp [a0V]
   | cons x l ih =>
    intro hx
    have k1 := ih (fun g hg => hx g (by simp [hg]))
    have k2 := hx x (by simp)
    simp only [a0V, List.map_cons, List.sum_cons, List.length_cons] at *
    omega
  exact key _ h6
 have h8 : a1g s = s.1.size + (s.2.1.length + a0V a1P s.2.1) := rfl
 omega
theorem b3D {code : List UInt8} {i h : Int} {nm : Str} (hc : code.length ≤ 1048576) (hi : 0 ≤ i) (hn : a2e nm = true) : BFn Tryz.prog 34 [.one (.dv [] (.str (nm)))] 82 (a0m (code)) [.dv [] (.int .i64 (i)), .dv [] (.int .i64 (h))] (fun zz : a0G × Int × Int => a1i zz.1 = true ∧ zz.1.1 = nm ∧ a6Y zz.1 ∧ zz.1.2.2 ≤ 256 ∧ 0 ≤ zz.2.1) (fun zz : a0G × Int × Int => .agg [(.dv [] (.str (zz.1.1))), (.key 9001), (.dv [] (.int .i64 (zz.1.2.2)))]) (fun zz : a0G × Int × Int => [(9001, some (a0b false (a0w (zz.1.2.1))))]) (fun zz : a0G × Int × Int => [.dv [] (.int .i64 (zz.2.1)), .dv [] (.int .i64 (zz.2.2))]) := by
 refine ⟨a3V Tryz.func34 rfl Tryz.ntmps34 Tryz.results34 rfl (fun C => ?_)⟩
 refine a1k (x := .tmp 1) (a0a rfl) fun f1 => ?_
 iterate 5 refine z ?_
 refine yO rfl rfl (a1v hT hB rfl rfl rfl (a1c (a0a rfl) rfl rfl rfl rfl rfl a1w)) rfl ?_
 iterate 3 refine z ?_
 refine a0u ?_
 refine a0u ?_
 refine a0h (a3p 9001 (b := 5) (i := 1) (e := 119) (sz := 4) rfl rfl rfl rfl rfl) ?_
 simp only [a0p, a0k, SV.kill, CV.kill, kk, Nat.reduceBEq]
 refine a0n ?_
 refine yO rfl rfl (a0M (.inl rfl) (a1A (a0a rfl))) rfl ?_
 refine a9R (k := 10) (js := []) hT rfl rfl rfl rfl rfl rfl rfl rfl rfl rfl rfl (a0Y (a0i (a0j rfl)) rfl rfl rfl (a0Y (a0i (a0j rfl)) rfl rfl rfl (a0Y (a0i (a0j rfl)) rfl rfl rfl (a0Y (a0i (a0j rfl)) rfl rfl rfl a2Z)))) (a0o (a0R rfl) (a0o (a0R rfl) (a0o (a0R rfl) (a0o (a0R rfl) a1y rfl) rfl) rfl) rfl) (by decide) (by decide) rfl rfl ?_
 simp only [a0p, a0k, SV.kill, CV.kill, kk, Nat.reduceBEq]
 refine a2c 11000 rfl rfl rfl Tryz.call64 (b6A (code := code) (i := i) (h := h) (l := [0, 2, 4, 6]) (by omega) (by omega) (by exact Nat.succ_pos _)) (a0a rfl) rfl a1M rfl (fun _ => rfl) (a2E (a0a rfl) (a0C (a0X rfl rfl)) rfl a1J) rfl (fun _ => rfl) (fun _ => rfl) (fun zz hz11 => ?_)
 obtain ⟨e11, i11, h11⟩ := zz
 replace hz11 : e11 ∈ ([0, 2, 4, 6]) ∧ 0 ≤ i11 := hz11
 have hnr := c6Y 0 6 (by decide +kernel) hz11.1
 iterate 3 refine z ?_
 refine a1o (ι := Int × a0G × Int × Int) (fun zz => ⟨[(0, .abox 0), (4, .box 4 0), (5, .box 5 0), (6, .one (.dv [] (.int .i64 (zz.1))))], [(0, 82, [(.arg 900001 (a0m (code))), (.dv [] (.int .i64 (zz.2.2.1))), (.dv [] (.int .i64 (zz.2.2.2)))]), (4, 77, [(.dv [] (.str (ByteArray.empty))), .nil, (.dv [] (.int .i64 (0)))]), (5, 77, [(.dv [] (.str (zz.2.1.1))), (.key 9001), (.dv [] (.int .i64 (zz.2.1.2.2)))])], [(9001, some (a0b false (.sl 119 4 (zz.2.1.2.1.length) (zz.2.1.2.1.flatMap a0F))))]⟩) (fun zz => a1i zz.2.1 = true ∧ zz.2.1.1 = nm ∧ a6Y zz.2.1 ∧ zz.2.1.2.2 ≤ 256 ∧ 0 ≤ zz.2.2.1 ∧ zz.1 ≤ 6) (fun zz => zz.1.toNat) ((e11, (nm, [], 0), i11, h11)) ?_ (a0e ⟨rfl, rfl, rfl, rfl, trivial⟩ ⟨rfl, rfl, rfl, trivial⟩ ⟨rfl, trivial⟩ rfl) (fun zz hx => ?_)
 ·refine ⟨?_, rfl, fun y hy => (by cases hy), by dsimp only; omega, by dsimp only; omega, by dsimp only; omega⟩
  unfold a1i; simp [hn]
 obtain ⟨n, s, ci, ch⟩ := zz
 replace hx : a1i s = true ∧ s.1 = nm ∧ a6Y s ∧ s.2.2 ≤ 256 ∧ 0 ≤ ci ∧ n ≤ 6 := hx
 obtain ⟨hs, hnm, ha, ha2, hci, hn6⟩ := hx
 show Ok _ _ _ _ _ (⟨[(0, .abox 0), (4, .box 4 0), (5, .box 5 0), (6, .one (.dv [] (.int .i64 (n))))], [(0, 82, [(.arg 900001 (a0m (code))), (.dv [] (.int .i64 (ci))), (.dv [] (.int .i64 (ch)))]), (4, 77, [(.dv [] (.str (ByteArray.empty))), .nil, (.dv [] (.int .i64 (0)))]), (5, 77, [(.dv [] (.str (s.1))), (.key 9001), (.dv [] (.int .i64 (s.2.2)))])], [(9001, some (a0b false (.sl 119 4 (s.2.1.length) (s.2.1.flatMap a0F))))]⟩ : St)
 iterate 5 refine z ?_
 refine yQ rfl (fun c1 => ?_) fun c1 => ?_
 ·have d1 := c9f c1
  iterate 4 refine z ?_
  refine a6G [0] [0, 1, 2, 3, 4, 5, 6] (oB := [4, 5]) (oK := [9001]) (by kernel_rfl) rfl rfl ?_
  refine a2q 0 rfl (by kernel_rfl) rfl rfl (a4I hT rfl rfl (a0a rfl) rfl rfl) rfl rfl rfl rfl rfl ?_
  refine a2q 1 rfl (by kernel_rfl) rfl rfl (a0M (.inl rfl) (a1A (a0a rfl))) rfl rfl rfl rfl rfl ?_
  refine a2q 3 rfl (by kernel_rfl) rfl rfl (a0M (.inl rfl) (a1A (a0a rfl))) rfl rfl rfl rfl rfl ?_
  refine a2U 2 [] (by kernel_rfl) ⟨?_, trivial⟩
  refine a4C 19000 2 rfl rfl rfl rfl rfl Tryz.call66 (b3f (code := code) (i := ci) (h := ch) (by omega) (by omega)) (a0a rfl) rfl a1M rfl (fun _ => rfl) a1J rfl (fun _ => rfl) (fun _ => rfl) rfl (fun zz hz19 => ?_)
  obtain ⟨e19, i19, h19⟩ := zz
  replace hz19 : a1a e19 = true ∧ a6Q e19 ∧ 0 ≤ i19 := hz19
  refine a2U 4 [] (by kernel_rfl) ⟨?_, trivial⟩
  refine a4C 21000 4 rfl rfl rfl rfl rfl Tryz.call67 (b1f (code := code) (i := i19) (h := h19) (by omega) (by omega)) (a0a rfl) rfl a1M rfl (fun _ => rfl) a1J rfl (fun _ => rfl) (fun _ => rfl) rfl (fun zz hz21 => ?_)
  obtain ⟨e21, i21, h21⟩ := zz
  replace hz21 : a1b e21 = true ∧ 0 ≤ i21 := hz21
  have hrl := a7w hz21.1
  refine a2U 5 [] (by kernel_rfl) ⟨?_, trivial⟩
  refine a9q 500 5 rfl rfl rfl rfl Tryz.call65 (a8r (x := s) (k := e19) (r := e21) (by have := b2X hs; omega) (by omega)) (a0g (a0a rfl) (a0t (a0d a0c (a0d (a0X rfl rfl) (a0d a0c a0r)))) (a0g (a0a rfl) (a0t (a0d a0c (a0d a0c (a0d a0c a0r)))) (a0g (a0a rfl) (a0t (a0d (a0X rfl rfl) a0r)) a0q))) rfl rfl rfl rfl rfl rfl ?_
  refine a2q 6 rfl (by kernel_rfl) rfl rfl (a0M (.inl rfl) (a0a rfl)) rfl rfl rfl rfl rfl ?_
  refine a5A 7 rfl (by kernel_rfl) rfl rfl rfl (a3F rfl (a0a rfl) rfl) rfl rfl ?_
  refine a5A 8 rfl (by kernel_rfl) rfl rfl rfl (a3c rfl (a0a rfl) rfl) rfl rfl ?_
  refine a7h [9] rfl rfl (by kernel_rfl) ?_
  refine z ?_
  refine a1H ?_
  iterate 2 refine z ?_
  refine a0n ?_
  iterate 4 refine z ?_
  refine ⟨(n - 1, (a0N s e19 e21).1, i21, h21), ?_, ?_, a4e (a2N (b := 5) (i := 1) (k := 9501) (k' := 9001) rfl rfl rfl rfl (by simp) rfl rfl) (a0e ⟨rfl, rfl, rfl, rfl, trivial⟩ ⟨rfl, rfl, rfl, trivial⟩ ⟨rfl, trivial⟩ rfl)⟩
  ·exact ⟨b5D hs, (b8Y _ _ _).trans hnm, c0v ha, b9d ha2 hz19.2.1, by dsimp only; omega, by dsimp only; omega⟩
  ·dsimp only; omega
 ·have d1 := c9g c1
  iterate 7 refine z ?_
  refine yO rfl rfl (a0M (.inl rfl) (a1A (a0a rfl))) rfl ?_
  refine a2c 26000 rfl rfl rfl Tryz.call35 (a9A (code := code) (i := ci) (h := ch) (n := 8) (by omega) (by omega) ) (a0a rfl) rfl a1M rfl (fun _ => rfl) (a2E (a0i (a0j rfl)) (a0C a0c) rfl a1J) rfl (fun _ => rfl) (fun _ => rfl) (fun zz hz26 => ?_)
  obtain ⟨e26, i26, h26⟩ := zz
  replace hz26 : 0 ≤ i26 := hz26
  refine z ?_
  refine yQ rfl (fun c2 => ?_) fun c2 => ?_
  ·refine a6G [0] [0, 1, 2, 3, 4, 5, 6] (oB := [4, 5]) (oK := [9001]) (by kernel_rfl) rfl rfl ?_
   refine a2q 0 rfl (by kernel_rfl) rfl rfl (a4I hT rfl rfl (a0a rfl) rfl rfl) rfl rfl rfl rfl rfl ?_
   refine a2q 1 rfl (by kernel_rfl) rfl rfl (a0M (.inl rfl) (a1A (a0a rfl))) rfl rfl rfl rfl rfl ?_
   refine a2q 3 rfl (by kernel_rfl) rfl rfl (a0M (.inl rfl) (a1A (a0a rfl))) rfl rfl rfl rfl rfl ?_
   refine a2U 2 [] (by kernel_rfl) ⟨?_, trivial⟩
   refine a4C 30000 2 rfl rfl rfl rfl rfl Tryz.call68 (c7v (code := code) (i := i26) (h := h26) (by omega) (by omega)) (a0a rfl) rfl a1M rfl (fun _ => rfl) a1J rfl (fun _ => rfl) (fun _ => rfl) rfl (fun zz hz30 => ?_)
   obtain ⟨e30, i30, h30⟩ := zz
   replace hz30 : a1a e30 = true ∧ a6Q e30 ∧ 0 ≤ i30 := hz30
   refine a2U 4 [] (by kernel_rfl) ⟨?_, trivial⟩
   refine a4C 32000 4 rfl rfl rfl rfl rfl Tryz.call67 (b1f (code := code) (i := i30) (h := h30) (by omega) (by omega)) (a0a rfl) rfl a1M rfl (fun _ => rfl) a1J rfl (fun _ => rfl) (fun _ => rfl) rfl (fun zz hz32 => ?_)
   obtain ⟨e32, i32, h32⟩ := zz
   replace hz32 : a1b e32 = true ∧ 0 ≤ i32 := hz32
   have hrl := a7w hz32.1
   refine a2U 5 [] (by kernel_rfl) ⟨?_, trivial⟩
   refine a9q 600 5 rfl rfl rfl rfl Tryz.call65 (a8r (x := s) (k := e30) (r := e32) (by have := b2X hs; omega) (by omega)) (a0g (a0a rfl) (a0t (a0d a0c (a0d (a0X rfl rfl) (a0d a0c a0r)))) (a0g (a0a rfl) (a0t (a0d a0c (a0d a0c (a0d a0c a0r)))) (a0g (a0a rfl) (a0t (a0d (a0X rfl rfl) a0r)) a0q))) rfl rfl rfl rfl rfl rfl ?_
   refine a2q 6 rfl (by kernel_rfl) rfl rfl (a0M (.inl rfl) (a0a rfl)) rfl rfl rfl rfl rfl ?_
   refine a5A 7 rfl (by kernel_rfl) rfl rfl rfl (a3F rfl (a0a rfl) rfl) rfl rfl ?_
   refine a5A 8 rfl (by kernel_rfl) rfl rfl rfl (a3c rfl (a0a rfl) rfl) rfl rfl ?_
   refine a7h [9] rfl rfl (by kernel_rfl) ?_
   iterate 6 refine z ?_
   refine a0h (a2N (b := 4) (i := 1) (k := 9601) (k' := 9001) rfl rfl rfl rfl (by simp) rfl rfl) ?_
   try simp only [a0p, a0k, SV.kill, CV.kill, kk, Nat.reduceBEq]
   refine a0h (σ' := ⟨[(4, .box 4 0), (0, .abox 0)], [(4, 77, [(.dv [] (.str ((a0N (s) (e30) (e32)).1.1))), (.key 9001), (.dv [] (.int .i64 ((a0N (s) (e30) (e32)).1.2.2)))]), (0, 82, [(.arg 900001 (a0m (code))), (.dv [] (.int .i64 (i32))), (.dv [] (.int .i64 (h32)))])], [(9001, some (a0b false (a0w ((a0N (s) (e30) (e32)).1.2.1))))]⟩) (a0e ⟨rfl, rfl, trivial⟩ ⟨rfl, rfl, trivial⟩ ⟨rfl, trivial⟩ rfl) ?_
   refine z ?_
   refine a1r (a0E hT rfl rfl rfl rfl) ⟨((((a0N (s) (e30) (e32)).1.1), (((a0N (s) (e30) (e32)).1.2.1), ((a0N (s) (e30) (e32)).1.2.2))), i32, h32), ?_, rfl, rfl, rfl, rfl⟩
   try dsimp only
   exact ⟨b5D hs, (b8Y _ _ _).trans hnm, c0v ha, b9d ha2 hz30.2.1, by omega⟩
  ·iterate 6 refine z ?_
   refine a0h (σ' := ⟨[(4, .box 4 0), (0, .abox 0)], [(4, 77, [(.dv [] (.str (s.1))), (.key 9001), (.dv [] (.int .i64 (s.2.2)))]), (0, 82, [(.arg 900001 (a0m (code))), (.dv [] (.int .i64 (i26))), (.dv [] (.int .i64 (h26)))])], [(9001, some (a0b false (.sl 119 4 (s.2.1.length) (s.2.1.flatMap a0F))))]⟩) (a0e ⟨rfl, rfl, trivial⟩ ⟨rfl, rfl, trivial⟩ ⟨rfl, trivial⟩ rfl) ?_
   refine z ?_
   refine a1r (a0E hT rfl rfl rfl rfl) ⟨(((s.1), ((s.2.1), (s.2.2))), i26, h26), ?_, rfl, rfl, rfl, rfl⟩
   try dsimp only
   exact ⟨hs, hnm, ha, ha2, by omega⟩
theorem c1j {code : List UInt8}  : PFn Tryz.prog 4 [.one (.dv [] (a0m (code)))] (.one (.dv [] (.bool (decide ((1048576 : Int) < (code.length : Int)))))) := by
 refine ⟨a0O Tryz.func4 rfl Tryz.ntmps4 Tryz.results4 rfl (fun C => ?_)⟩
 refine a1k (x := .tmp 0) (a0a rfl) fun f0 => ?_
 iterate 11 refine z ?_
 rfl
theorem a9C (s : Str) : sEq s s = true := by simp [sEq]
theorem b0E {α : Type} [Inhabited α] {p : α → α → Bool} (h : ∀ x, p x x = true) (xs : List α) : eqL p xs xs = true := by
 unfold eqL
 simp [h]
theorem c2t (r : a0v) : b0z r r = true := b0E (fun f => by simp [a7H, a9C]) r
theorem c4c (k : a0K) : b0f k k = true := by simp [b0f, a9C]
theorem c7C (x : a0T) : a6L x x = true := by simp [a6L, c4c, c2t]
theorem c9d (s : a0G) : a5a s s = true := by simp [a5a, a9C, b0E c7C]
theorem b3x (d : DbT) : a5B d d = true := by simp [a5B, a9C, b0E c9d, b0E (p := a1W) (fun x => by simp [a1W, a9C])]
theorem c6Q {a b : Str} (h : sLt b a = true) : (sLt a b || sEq a b) = false := by rw [a7i, h]; rfl
theorem c0C {l : List a0G} (hl : l.length ≤ 4) (hs : ∀ s ∈ l, a1i s = true) (ho : ∀ i, i + 1 < l.length → sLt (l.getD i default).1 (l.getD (i + 1) default).1 = true) : a1e (ByteArray.mk #[97, 112, 112], 1, l, []) = true := by
 have h1 : a2e (ByteArray.mk #[97, 112, 112]) = true := by decide +kernel
 unfold a1e a6M a7N a6j
 simp only [h1, Bool.and_eq_true, decide_eq_true_eq, List.all_eq_true, List.mem_range, List.length_nil, true_and]
 refine ⟨⟨⟨by omega, by omega⟩, by omega⟩, fun i hi => ?_, fun i hi => by omega⟩
 have h2 : l.getD i default ∈ l := by rw [List.getD_eq_getElem?_getD, List.getElem?_eq_getElem hi]; exact List.getElem_mem hi
 unfold a5e
 rw [Int.toNat_natCast, hs _ h2]
 cases i with
 | zero => simp
 | succ j =>
  have h3 := ho j hi
  rw [show (((j + 1 : Nat) : Int) - 1).toNat = j by omega, c6Q h3]
  simp
theorem b3t {s t : a0G} (h1 : a1i s = true) (n1 : s.1 = ByteArray.mk #[110, 111, 116, 101, 115]) (h2 : a1i t = true) (n2 : t.1 = ByteArray.mk #[116, 97, 103, 115]) : a1e (ByteArray.mk #[97, 112, 112], 1, [s, t], []) = true := by
 refine c0C (by simp) (fun x hx => ?_) (fun i hi => ?_)
 ·simp only [List.mem_cons, List.not_mem_nil, or_false] at hx
  rcases hx with rfl | rfl <;> assumption
 ·have : i = 0 := by simp at hi; omega
  subst this
  show sLt s.1 t.1 = true
  rw [n1, n2]; decide +kernel
theorem b3i {q s t : a0G} (h0 : a1i q = true) (n0 : q.1 = ByteArray.mk #[108, 105, 115, 116, 115]) (h1 : a1i s = true) (n1 : s.1 = ByteArray.mk #[110, 111, 116, 101, 115]) (h2 : a1i t = true) (n2 : t.1 = ByteArray.mk #[116, 97, 103, 115]) : a1e (ByteArray.mk #[97, 112, 112], 1, [q, s, t], []) = true := by
 refine c0C (by simp) (fun x hx => ?_) (fun i hi => ?_)
 ·simp only [List.mem_cons, List.not_mem_nil, or_false] at hx
  rcases hx with rfl | rfl | rfl <;> assumption
 ·simp only [List.length_cons, List.length_nil] at hi
  have : i = 0 ∨ i = 1 := by omega
  rcases this with rfl | rfl
  ·show sLt q.1 s.1 = true
   rw [n0, n1]; decide +kernel
  ·show sLt s.1 t.1 = true
   rw [n1, n2]; decide +kernel
theorem b6y {d : DbT} {u : a6e} (h : a1e d = true) : a1e (upA d u).1 = true := by
 cases h2 : (upA d u).2 with
 | true => exact c6J h2
 | false => rw [c1y h2]; exact h
theorem b3o {α : Type} {w : α → Nat} {B : Nat} : ∀ (l : List α), (∀ x ∈ l, w x ≤ B) → a0V w l ≤ B * l.length
 | [], _ => by simp [a0V]
 | x :: l, h => by
  have k1 := b3o l (fun g hg => h g (by simp [hg]))
  have k2 := h x (by simp)
  simp only [a0V, List.map_cons, List.sum_cons, List.length_cons, Nat.mul_add, Nat.mul_one] at *
  omega
theorem a8L {d : DbT} (h : a1e d = true) : a1h d ≤ 6000 := by
 have h4 : a1h d = d.1.size + (d.2.2.1.length + a0V a1g d.2.2.1) + (d.2.2.2.length + a0V a3a d.2.2.2) := rfl
 have h0 := h
 rw [a1e, Bool.and_eq_true, Bool.and_eq_true] at h
 obtain ⟨h1, h2, h3⟩ := h
 simp only [a6M, Bool.and_eq_true, decide_eq_true_eq] at h1
 have h5 := a4Z h1.1.1.1
 have h6 := b3o (w := a1g) (B := 1200) d.2.2.1 (fun s hs => by
  obtain ⟨i, hi, rfl⟩ := List.mem_iff_getElem.1 hs
  have := a5J (i := (i : Int)) h2 (by omega) (by omega)
  rw [Int.toNat_natCast, List.getD_eq_getElem?_getD, List.getElem?_eq_getElem hi] at this
  exact b2X this)
 have h7 := b3o (w := a3a) (B := 16) d.2.2.2 (fun x hx => by
  obtain ⟨i, hi, rfl⟩ := List.mem_iff_getElem.1 hx
  have hq := c2K h0 (List.getElem_mem hi)
  have h8 : d.2.2.1.any (a0D d.2.2.2[i].1) = true := by rw [← c5O]; exact decide_eq_true hq
  obtain ⟨s, hs, hn⟩ := List.any_eq_true.1 h8
  have hn2 : s.1 = d.2.2.2[i].1 := c5b.1 hn
  obtain ⟨j, hj, rfl⟩ := List.mem_iff_getElem.1 hs
  have h9 := a5J (i := (j : Int)) h2 (by omega) (by omega)
  rw [Int.toNat_natCast, List.getD_eq_getElem?_getD, List.getElem?_eq_getElem hj] at h9
  have h10 := b6x h9
  have h11 : d.2.2.1[j].1.size ≤ 8 := h10
  have h12 : (d.2.2.2[i]).2.size ≤ 8 := by
   rw [a7N, List.all_eq_true] at h3
   have h13 := h3 i (List.mem_range.2 hi)
   unfold a3k at h13
   rw [Int.toNat_natCast, List.getD_eq_getElem?_getD, List.getElem?_eq_getElem hi] at h13
   simp only [Option.getD_some, Bool.not_eq_true', Bool.or_eq_false_iff, Bool.not_eq_false'] at h13
   exact (a4Z h13.1.1.2).2
  have h14 : a3a d.2.2.2[i] = (d.2.2.2[i]).1.size + (d.2.2.2[i]).2.size := rfl
  rw [hn2] at h11
  omega)
 omega
def b2w (o : OpT) : Prop := a1a o.2.2.1 = true ∨ o.2.2.1 = (0, 0, ByteArray.empty)
def b1u (l : List OpT) : Prop := ∀ o ∈ l, a1s o = true ∧ b2w o
theorem a8f {k : Int} {s : Str} {q : a0K} {r : a0v} {f : Str} (h1 : 1 ≤ k ∧ k ≤ 6) (hs : a2e s = true) (hk : k = 5 ∨ a1a q = true) (hr : a1b r = true) (hf : (k = 6 ∧ a2e f = true) ∨ (k ≠ 6 ∧ f = ByteArray.empty)) : a1s (k, s, q, r, f) = true := by
 unfold a1s
 simp only [hs, hr, Bool.and_eq_true, Bool.or_eq_true, decide_eq_true_eq, and_true]
 refine ⟨⟨h1, hk⟩, ?_⟩
 rcases hf with ⟨h2, h3⟩ | ⟨h2, h3⟩
 ·exact .inl ⟨h2, h3⟩
 ·refine .inr ?_
  subst h3
  first | exact ⟨by simpa using h2, rfl⟩ | (simp [h2]; rfl) | (simp [h2]; decide +kernel)
theorem c1U {code : List UInt8} {i h : Int} (hc : code.length ≤ 1048576) (hi : 0 ≤ i) : BFn Tryz.prog 39 [] 82 (a0m (code)) [.dv [] (.int .i64 (i)), .dv [] (.int .i64 (h))] (fun zz : OpT × Int × Int => a1s zz.1 = true ∧ b2w zz.1 ∧ 0 ≤ zz.2.1) (fun zz : OpT × Int × Int => .agg [(.dv [] (.int .i64 (zz.1.1))), (.dv [] (.str (zz.1.2.1))), (.dv [] (.int .i64 (zz.1.2.2.1.1))), (.dv [] (.int .i64 (zz.1.2.2.1.2.1))), (.dv [] (.str (zz.1.2.2.1.2.2))), (.key 9001), (.dv [] (.str (zz.1.2.2.2.2)))]) (fun zz : OpT × Int × Int => [(9001, some (a0b false (a0I (zz.1.2.2.2.1))))]) (fun zz : OpT × Int × Int => [.dv [] (.int .i64 (zz.2.1)), .dv [] (.int .i64 (zz.2.2))]) := by
 refine ⟨a3V Tryz.func39 rfl Tryz.ntmps39 Tryz.results39 rfl (fun C => ?_)⟩
 iterate 4 refine z ?_
 refine yO rfl rfl (a0M (.inl rfl) (a1A (a0a rfl))) rfl ?_
 refine a2c 5000 rfl rfl rfl Tryz.call17 (a4O (code := code) (i := i) (h := h) (n := 6) (by omega) (by omega) ) (a0a rfl) rfl a1M rfl (fun _ => rfl) (a2E (a0i (a0j rfl)) (a0C a0c) rfl a1J) rfl (fun _ => rfl) (fun _ => rfl) (fun zz hz5 => ?_)
 obtain ⟨e5, i5, h5⟩ := zz
 replace hz5 : 0 ≤ e5 ∧ (0 < (6 : Int) → e5 < (6 : Int)) ∧ 0 ≤ i5 := hz5
 have h56 := hz5.2.1 (by omega)
 refine z ?_
 refine yO rfl rfl (a0M (.inl rfl) (a1A (a0a rfl))) rfl ?_
 refine a9R (k := 8) (js := []) hT rfl rfl rfl rfl rfl rfl rfl rfl rfl rfl rfl (a0Y (a0B (a0A rfl)) rfl rfl rfl (a0Y (a0B (a0A rfl)) rfl rfl rfl (a0Y (a0B (a0A rfl)) rfl rfl rfl (a0Y (a0B (a0A rfl)) rfl rfl rfl a2Z)))) (a0o (a0R rfl) (a0o (a0R rfl) (a0o (a0R rfl) (a0o (a0R rfl) a1y rfl) rfl) rfl) rfl) (by decide) (by decide) rfl rfl ?_
 simp only [a0p, a0k, SV.kill, CV.kill, kk, Nat.reduceBEq]
 refine a2c 9000 rfl rfl rfl Tryz.call71 (b2Z (code := code) (i := i5) (h := h5) (l := [ByteArray.mk #[110, 111, 116, 101, 115], ByteArray.mk #[116, 97, 103, 115], ByteArray.mk #[110, 111, 116, 101, 115], ByteArray.mk #[108, 105, 115, 116, 115]]) (by omega) (by omega) (by exact Nat.succ_pos _)) (a0a rfl) rfl a1M rfl (fun _ => rfl) (a2E (a0a rfl) (a0C (a0X rfl rfl)) rfl a1J) rfl (fun _ => rfl) (fun _ => rfl) (fun zz hz9 => ?_)
 obtain ⟨e9, i9, h9⟩ := zz
 replace hz9 : e9 ∈ ([ByteArray.mk #[110, 111, 116, 101, 115], ByteArray.mk #[116, 97, 103, 115], ByteArray.mk #[110, 111, 116, 101, 115], ByteArray.mk #[108, 105, 115, 116, 115]]) ∧ 0 ≤ i9 := hz9
 refine yO rfl rfl (a0M (.inl rfl) (a1A (a0a rfl))) rfl ?_
 refine a2c 11000 rfl rfl rfl Tryz.call66 (b3f (code := code) (i := i9) (h := h9) (by omega) (by omega)) (a0a rfl) rfl a1M rfl (fun _ => rfl) a1J rfl (fun _ => rfl) (fun _ => rfl) (fun zz hz11 => ?_)
 obtain ⟨e11, i11, h11⟩ := zz
 replace hz11 : a1a e11 = true ∧ a6Q e11 ∧ 0 ≤ i11 := hz11
 refine yO rfl rfl (a1v hT hB rfl rfl rfl (a1c (a0a rfl) rfl rfl rfl rfl rfl (a1c (a0a rfl) rfl rfl rfl rfl rfl (a1c (a0a rfl) rfl rfl rfl rfl rfl a1w)))) rfl ?_
 iterate 3 refine z ?_
 refine a0u ?_
 refine a0u ?_
 refine a0h (σ' := ⟨[(0, .abox 0), (2, .box 2 0), (3, .box 3 0)], [(0, 82, [(.arg 900001 (a0m (code))), (.dv [] (.int .i64 (i11))), (.dv [] (.int .i64 (h11)))]), (2, 65, [(.dv [] (.int .i64 (0))), (.dv [] (.str (ByteArray.empty))), (.dv [] (.int .i64 (0))), (.dv [] (.int .i64 (0))), (.dv [] (.str (ByteArray.empty))), .nil, (.dv [] (.str (ByteArray.empty)))]), (3, 65, [(.dv [] (.int .i64 ((1) + (e5)))), (.dv [] (.str (e9))), (.dv [] (.int .i64 (e11.1))), (.dv [] (.int .i64 (e11.2.1))), (.dv [] (.str (e11.2.2))), .nil, (.dv [] (.str (ByteArray.empty)))])], []⟩) (a0e ⟨rfl, rfl, rfl, trivial⟩ ⟨rfl, rfl, rfl, trivial⟩ trivial rfl) ?_
 refine a0n ?_
 iterate 9 refine z ?_
 refine yQ rfl (fun c1 => ?_) fun c1 => ?_
 ·have d1 := c9f c1
  iterate 2 refine z ?_
  refine yQ rfl (fun c2 => ?_) fun c2 => ?_
  ·have d2 := c9f c2
   refine a0n ?_
   refine yO rfl rfl (a0M (.inl rfl) (a1A (a0a rfl))) rfl ?_
   refine a2c 0 rfl rfl rfl Tryz.call67 (b1f (code := code) (i := i11) (h := h11) (by omega) (by omega)) (a0a rfl) rfl a1M rfl (fun _ => rfl) a1J rfl (fun _ => rfl) (fun _ => rfl) (fun zz hz19 => ?_)
   obtain ⟨e19, i19, h19⟩ := zz
   replace hz19 : a1b e19 = true ∧ 0 ≤ i19 := hz19
   iterate 2 refine z ?_
   refine a1H ?_
   iterate 2 refine z ?_
   refine a0u ?_
   refine a0h (σ' := ⟨[(0, .abox 0), (2, .box 2 0), (3, .box 3 0)], [(0, 82, [(.arg 900001 (a0m (code))), (.dv [] (.int .i64 (i19))), (.dv [] (.int .i64 (h19)))]), (2, 65, [(.dv [] (.int .i64 (0))), (.dv [] (.str (ByteArray.empty))), (.dv [] (.int .i64 (0))), (.dv [] (.int .i64 (0))), (.dv [] (.str (ByteArray.empty))), .nil, (.dv [] (.str (ByteArray.empty)))]), (3, 65, [(.dv [] (.int .i64 ((1) + (e5)))), (.dv [] (.str (e9))), (.dv [] (.int .i64 (e11.1))), (.dv [] (.int .i64 (e11.2.1))), (.dv [] (.str (e11.2.2))), (.key 9001), (.dv [] (.str (ByteArray.empty)))])], [(9001, some (a0b false (a0I (e19))))]⟩) (a0e ⟨rfl, rfl, rfl, trivial⟩ ⟨rfl, rfl, rfl, trivial⟩ ⟨rfl, trivial⟩ rfl) ?_
   refine a0n ?_
   iterate 3 refine z ?_
   refine a0h (σ' := ⟨[(2, .box 2 0), (0, .abox 0)], [(2, 65, [(.dv [] (.int .i64 ((1) + (e5)))), (.dv [] (.str (e9))), (.dv [] (.int .i64 (e11.1))), (.dv [] (.int .i64 (e11.2.1))), (.dv [] (.str (e11.2.2))), (.key 9001), (.dv [] (.str (ByteArray.empty)))]), (0, 82, [(.arg 900001 (a0m (code))), (.dv [] (.int .i64 (i19))), (.dv [] (.int .i64 (h19)))])], [(9001, some (a0b false (a0I (e19))))]⟩) (a0e ⟨rfl, rfl, trivial⟩ ⟨rfl, rfl, trivial⟩ ⟨rfl, trivial⟩ rfl) ?_
   refine z ?_
   refine a1r (a0E hT rfl rfl rfl rfl) ⟨((((1) + (e5)), ((e9), (((e11.1), ((e11.2.1), (e11.2.2))), ((e19), (ByteArray.empty))))), i19, h19), ?_, rfl, rfl, rfl, rfl⟩
   try dsimp only
   exact ⟨a8f (by omega) (a7D (l := [ByteArray.mk #[110, 111, 116, 101, 115], ByteArray.mk #[116, 97, 103, 115], ByteArray.mk #[110, 111, 116, 101, 115], ByteArray.mk #[108, 105, 115, 116, 115]]) (by decide +kernel) hz9.1) (.inr hz11.1) hz19.1 (.inr ⟨by omega, rfl⟩), .inl hz11.1, by omega⟩
  ·exact absurd (c1.symm.trans c2) (by decide)
 ·have d1 := c9g c1
  refine a0n ?_
  iterate 3 refine z ?_
  refine yQ rfl (fun c3 => ?_) fun c3 => ?_
  ·have d3 := c9f c3
   refine a0n ?_
   refine yO rfl rfl (a0M (.inl rfl) (a1A (a0a rfl))) rfl ?_
   refine a2c 0 rfl rfl rfl Tryz.call67 (b1f (code := code) (i := i11) (h := h11) (by omega) (by omega)) (a0a rfl) rfl a1M rfl (fun _ => rfl) a1J rfl (fun _ => rfl) (fun _ => rfl) (fun zz hz19 => ?_)
   obtain ⟨e19, i19, h19⟩ := zz
   replace hz19 : a1b e19 = true ∧ 0 ≤ i19 := hz19
   iterate 2 refine z ?_
   refine a1H ?_
   iterate 2 refine z ?_
   refine a0u ?_
   refine a0h (σ' := ⟨[(0, .abox 0), (2, .box 2 0), (3, .box 3 0)], [(0, 82, [(.arg 900001 (a0m (code))), (.dv [] (.int .i64 (i19))), (.dv [] (.int .i64 (h19)))]), (2, 65, [(.dv [] (.int .i64 (0))), (.dv [] (.str (ByteArray.empty))), (.dv [] (.int .i64 (0))), (.dv [] (.int .i64 (0))), (.dv [] (.str (ByteArray.empty))), .nil, (.dv [] (.str (ByteArray.empty)))]), (3, 65, [(.dv [] (.int .i64 ((1) + (e5)))), (.dv [] (.str (e9))), (.dv [] (.int .i64 (e11.1))), (.dv [] (.int .i64 (e11.2.1))), (.dv [] (.str (e11.2.2))), (.key 9001), (.dv [] (.str (ByteArray.empty)))])], [(9001, some (a0b false (a0I (e19))))]⟩) (a0e ⟨rfl, rfl, rfl, trivial⟩ ⟨rfl, rfl, rfl, trivial⟩ ⟨rfl, trivial⟩ rfl) ?_
   refine a0n ?_
   iterate 3 refine z ?_
   refine a0h (σ' := ⟨[(2, .box 2 0), (0, .abox 0)], [(2, 65, [(.dv [] (.int .i64 ((1) + (e5)))), (.dv [] (.str (e9))), (.dv [] (.int .i64 (e11.1))), (.dv [] (.int .i64 (e11.2.1))), (.dv [] (.str (e11.2.2))), (.key 9001), (.dv [] (.str (ByteArray.empty)))]), (0, 82, [(.arg 900001 (a0m (code))), (.dv [] (.int .i64 (i19))), (.dv [] (.int .i64 (h19)))])], [(9001, some (a0b false (a0I (e19))))]⟩) (a0e ⟨rfl, rfl, trivial⟩ ⟨rfl, rfl, trivial⟩ ⟨rfl, trivial⟩ rfl) ?_
   refine z ?_
   refine a1r (a0E hT rfl rfl rfl rfl) ⟨((((1) + (e5)), ((e9), (((e11.1), ((e11.2.1), (e11.2.2))), ((e19), (ByteArray.empty))))), i19, h19), ?_, rfl, rfl, rfl, rfl⟩
   try dsimp only
   exact ⟨a8f (by omega) (a7D (l := [ByteArray.mk #[110, 111, 116, 101, 115], ByteArray.mk #[116, 97, 103, 115], ByteArray.mk #[110, 111, 116, 101, 115], ByteArray.mk #[108, 105, 115, 116, 115]]) (by decide +kernel) hz9.1) (.inr hz11.1) hz19.1 (.inr ⟨by omega, rfl⟩), .inl hz11.1, by omega⟩
  ·have d3 := c9g c3
   iterate 4 refine z ?_
   refine yQ rfl (fun c4 => ?_) fun c4 => ?_
   ·have d4 := c9f c4
    refine a0n ?_
    refine yO rfl rfl (a0M (.inl rfl) (a1A (a0a rfl))) rfl ?_
    refine a2c 24000 rfl rfl rfl Tryz.call37 (b0J (code := code) (i := i11) (h := h11) (by omega) (by omega)) (a0a rfl) rfl a1M rfl (fun _ => rfl) a1J rfl (fun _ => rfl) (fun _ => rfl) (fun zz hz24 => ?_)
    obtain ⟨e24, i24, h24⟩ := zz
    replace hz24 : a2e e24 = true ∧ 0 ≤ i24 := hz24
    iterate 2 refine z ?_
    refine a1H ?_
    iterate 2 refine z ?_
    refine a0u ?_
    refine a0h (σ' := ⟨[(0, .abox 0), (2, .box 2 0), (3, .box 3 0)], [(0, 82, [(.arg 900001 (a0m (code))), (.dv [] (.int .i64 (i24))), (.dv [] (.int .i64 (h24)))]), (2, 65, [(.dv [] (.int .i64 (0))), (.dv [] (.str (ByteArray.empty))), (.dv [] (.int .i64 (0))), (.dv [] (.int .i64 (0))), (.dv [] (.str (ByteArray.empty))), .nil, (.dv [] (.str (ByteArray.empty)))]), (3, 65, [(.dv [] (.int .i64 ((1) + (e5)))), (.dv [] (.str (e9))), (.dv [] (.int .i64 (e11.1))), (.dv [] (.int .i64 (e11.2.1))), (.dv [] (.str (e11.2.2))), .nil, (.dv [] (.str (e24)))])], []⟩) (a0e ⟨rfl, rfl, rfl, trivial⟩ ⟨rfl, rfl, rfl, trivial⟩ trivial rfl) ?_
    refine a0n ?_
    iterate 3 refine z ?_
    refine a0h (a3p 9001 (b := 2) (i := 5) (e := 135) (sz := 2) rfl rfl rfl rfl rfl) ?_
    refine a0h (σ' := ⟨[(2, .box 2 0), (0, .abox 0)], [(2, 65, [(.dv [] (.int .i64 ((1) + (e5)))), (.dv [] (.str (e9))), (.dv [] (.int .i64 (e11.1))), (.dv [] (.int .i64 (e11.2.1))), (.dv [] (.str (e11.2.2))), (.key 9001), (.dv [] (.str (e24)))]), (0, 82, [(.arg 900001 (a0m (code))), (.dv [] (.int .i64 (i24))), (.dv [] (.int .i64 (h24)))])], [(9001, some (a0b false (.sl 135 2 (0) ([]))))]⟩) (a0e ⟨rfl, rfl, trivial⟩ ⟨rfl, rfl, trivial⟩ ⟨rfl, trivial⟩ rfl) ?_
    refine z ?_
    refine a1r (a0E hT rfl rfl rfl rfl) ⟨((((1) + (e5)), ((e9), (((e11.1), ((e11.2.1), (e11.2.2))), (([]), (e24))))), i24, h24), ?_, rfl, rfl, rfl, rfl⟩
    try dsimp only
    exact ⟨a8f (by omega) (a7D (l := [ByteArray.mk #[110, 111, 116, 101, 115], ByteArray.mk #[116, 97, 103, 115], ByteArray.mk #[110, 111, 116, 101, 115], ByteArray.mk #[108, 105, 115, 116, 115]]) (by decide +kernel) hz9.1) (.inr hz11.1) (show a1b [] = true from rfl) (.inl ⟨by omega, hz24.1⟩), .inl hz11.1, by omega⟩
   ·have d4 := c9g c4
    iterate 4 refine z ?_
    refine yQ rfl (fun c5 => ?_) fun c5 => ?_
    ·have d5 := c9f c5
     refine z ?_
     refine yO rfl rfl (a1v hT hB rfl rfl rfl a1w) rfl ?_
     iterate 4 refine z ?_
     refine yO rfl rfl (a0M (.inl rfl) (a1A (a0a rfl))) rfl ?_
     refine a2c 31000 rfl rfl rfl Tryz.call35 (a9A (code := code) (i := i11) (h := h11) (n := 2) (by omega) (by omega) ) (a0a rfl) rfl a1M rfl (fun _ => rfl) (a2E (a0i (a0j rfl)) (a0C a0c) rfl a1J) rfl (fun _ => rfl) (fun _ => rfl) (fun zz hz31 => ?_)
     obtain ⟨e31, i31, h31⟩ := zz
     replace hz31 : 0 ≤ i31 := hz31
     refine z ?_
     refine yQ rfl (fun c6 => ?_) fun c6 => ?_
     ·iterate 2 refine z ?_
      refine c0A hT rfl rfl rfl rfl (a0a rfl) (a0i (a0j rfl)) rfl rfl rfl rfl rfl rfl ?_
      refine z ?_
      refine a0n ?_
      refine yO rfl rfl (a0M (.inl rfl) (a1A (a0a rfl))) rfl ?_
      refine a2c 34000 rfl rfl rfl Tryz.call66 (b3f (code := code) (i := i31) (h := h31) (by omega) (by omega)) (a0a rfl) rfl a1M rfl (fun _ => rfl) a1J rfl (fun _ => rfl) (fun _ => rfl) (fun zz hz34 => ?_)
      obtain ⟨e34, i34, h34⟩ := zz
      replace hz34 : a1a e34 = true ∧ a6Q e34 ∧ 0 ≤ i34 := hz34
      iterate 2 refine z ?_
      refine a1H ?_
      iterate 2 refine z ?_
      refine a0u ?_
      refine a0h (σ' := ⟨[(0, .abox 0), (2, .box 2 0), (3, .box 3 0)], [(0, 82, [(.arg 900001 (a0m (code))), (.dv [] (.int .i64 (i34))), (.dv [] (.int .i64 (h34)))]), (2, 65, [(.dv [] (.int .i64 (0))), (.dv [] (.str (ByteArray.empty))), (.dv [] (.int .i64 (0))), (.dv [] (.int .i64 (0))), (.dv [] (.str (ByteArray.empty))), .nil, (.dv [] (.str (ByteArray.empty)))]), (3, 65, [(.dv [] (.int .i64 (1))), (.dv [] (.str (e9))), (.dv [] (.int .i64 (e34.1))), (.dv [] (.int .i64 (e34.2.1))), (.dv [] (.str (e34.2.2))), .nil, (.dv [] (.str (ByteArray.empty)))])], []⟩) (a0e ⟨rfl, rfl, rfl, trivial⟩ ⟨rfl, rfl, rfl, trivial⟩ trivial rfl) ?_
      refine a0n ?_
      iterate 3 refine z ?_
      refine a0h (a3p 9001 (b := 2) (i := 5) (e := 135) (sz := 2) rfl rfl rfl rfl rfl) ?_
      refine a0h (σ' := ⟨[(2, .box 2 0), (0, .abox 0)], [(2, 65, [(.dv [] (.int .i64 (1))), (.dv [] (.str (e9))), (.dv [] (.int .i64 (e34.1))), (.dv [] (.int .i64 (e34.2.1))), (.dv [] (.str (e34.2.2))), (.key 9001), (.dv [] (.str (ByteArray.empty)))]), (0, 82, [(.arg 900001 (a0m (code))), (.dv [] (.int .i64 (i34))), (.dv [] (.int .i64 (h34)))])], [(9001, some (a0b false (.sl 135 2 (0) ([]))))]⟩) (a0e ⟨rfl, rfl, trivial⟩ ⟨rfl, rfl, trivial⟩ ⟨rfl, trivial⟩ rfl) ?_
      refine z ?_
      refine a1r (a0E hT rfl rfl rfl rfl) ⟨(((1), ((e9), (((e34.1), ((e34.2.1), (e34.2.2))), (([]), (ByteArray.empty))))), i34, h34), ?_, rfl, rfl, rfl, rfl⟩
      try dsimp only
      exact ⟨a8f (by omega) (a7D (l := [ByteArray.mk #[110, 111, 116, 101, 115], ByteArray.mk #[116, 97, 103, 115], ByteArray.mk #[110, 111, 116, 101, 115], ByteArray.mk #[108, 105, 115, 116, 115]]) (by decide +kernel) hz9.1) (.inr hz34.1) (show a1b [] = true from rfl) (.inr ⟨by omega, rfl⟩), .inl hz34.1, by omega⟩
     ·iterate 3 refine z ?_
      refine a0u ?_
      refine a0h (σ' := ⟨[(0, .abox 0), (2, .box 2 0), (3, .box 3 0)], [(0, 82, [(.arg 900001 (a0m (code))), (.dv [] (.int .i64 (i31))), (.dv [] (.int .i64 (h31)))]), (2, 65, [(.dv [] (.int .i64 (0))), (.dv [] (.str (ByteArray.empty))), (.dv [] (.int .i64 (0))), (.dv [] (.int .i64 (0))), (.dv [] (.str (ByteArray.empty))), .nil, (.dv [] (.str (ByteArray.empty)))]), (3, 65, [(.dv [] (.int .i64 ((1) + (e5)))), (.dv [] (.str (e9))), (.dv [] (.int .i64 (0))), (.dv [] (.int .i64 (0))), (.dv [] (.str (ByteArray.empty))), .nil, (.dv [] (.str (ByteArray.empty)))])], []⟩) (a0e ⟨rfl, rfl, rfl, trivial⟩ ⟨rfl, rfl, rfl, trivial⟩ trivial rfl) ?_
      refine a0n ?_
      iterate 3 refine z ?_
      refine a0h (a3p 9001 (b := 2) (i := 5) (e := 135) (sz := 2) rfl rfl rfl rfl rfl) ?_
      refine a0h (σ' := ⟨[(2, .box 2 0), (0, .abox 0)], [(2, 65, [(.dv [] (.int .i64 ((1) + (e5)))), (.dv [] (.str (e9))), (.dv [] (.int .i64 (0))), (.dv [] (.int .i64 (0))), (.dv [] (.str (ByteArray.empty))), (.key 9001), (.dv [] (.str (ByteArray.empty)))]), (0, 82, [(.arg 900001 (a0m (code))), (.dv [] (.int .i64 (i31))), (.dv [] (.int .i64 (h31)))])], [(9001, some (a0b false (.sl 135 2 (0) ([]))))]⟩) (a0e ⟨rfl, rfl, trivial⟩ ⟨rfl, rfl, trivial⟩ ⟨rfl, trivial⟩ rfl) ?_
      refine z ?_
      refine a1r (a0E hT rfl rfl rfl rfl) ⟨((((1) + (e5)), ((e9), (((0), ((0), (ByteArray.empty))), (([]), (ByteArray.empty))))), i31, h31), ?_, rfl, rfl, rfl, rfl⟩
      try dsimp only
      exact ⟨a8f (by omega) (a7D (l := [ByteArray.mk #[110, 111, 116, 101, 115], ByteArray.mk #[116, 97, 103, 115], ByteArray.mk #[110, 111, 116, 101, 115], ByteArray.mk #[108, 105, 115, 116, 115]]) (by decide +kernel) hz9.1) (.inl (by omega)) (show a1b [] = true from rfl) (.inr ⟨by omega, rfl⟩), .inr rfl, by omega⟩
    ·have d5 := c9g c5
     iterate 3 refine z ?_
     refine a0u ?_
     refine a0h (σ' := ⟨[(0, .abox 0), (2, .box 2 0), (3, .box 3 0)], [(0, 82, [(.arg 900001 (a0m (code))), (.dv [] (.int .i64 (i11))), (.dv [] (.int .i64 (h11)))]), (2, 65, [(.dv [] (.int .i64 (0))), (.dv [] (.str (ByteArray.empty))), (.dv [] (.int .i64 (0))), (.dv [] (.int .i64 (0))), (.dv [] (.str (ByteArray.empty))), .nil, (.dv [] (.str (ByteArray.empty)))]), (3, 65, [(.dv [] (.int .i64 ((1) + (e5)))), (.dv [] (.str (e9))), (.dv [] (.int .i64 (e11.1))), (.dv [] (.int .i64 (e11.2.1))), (.dv [] (.str (e11.2.2))), .nil, (.dv [] (.str (ByteArray.empty)))])], []⟩) (a0e ⟨rfl, rfl, rfl, trivial⟩ ⟨rfl, rfl, rfl, trivial⟩ trivial rfl) ?_
     refine a0n ?_
     iterate 3 refine z ?_
     refine a0h (a3p 9001 (b := 2) (i := 5) (e := 135) (sz := 2) rfl rfl rfl rfl rfl) ?_
     refine a0h (σ' := ⟨[(2, .box 2 0), (0, .abox 0)], [(2, 65, [(.dv [] (.int .i64 ((1) + (e5)))), (.dv [] (.str (e9))), (.dv [] (.int .i64 (e11.1))), (.dv [] (.int .i64 (e11.2.1))), (.dv [] (.str (e11.2.2))), (.key 9001), (.dv [] (.str (ByteArray.empty)))]), (0, 82, [(.arg 900001 (a0m (code))), (.dv [] (.int .i64 (i11))), (.dv [] (.int .i64 (h11)))])], [(9001, some (a0b false (.sl 135 2 (0) ([]))))]⟩) (a0e ⟨rfl, rfl, trivial⟩ ⟨rfl, rfl, trivial⟩ ⟨rfl, trivial⟩ rfl) ?_
     refine z ?_
     refine a1r (a0E hT rfl rfl rfl rfl) ⟨((((1) + (e5)), ((e9), (((e11.1), ((e11.2.1), (e11.2.2))), (([]), (ByteArray.empty))))), i11, h11), ?_, rfl, rfl, rfl, rfl⟩
     try dsimp only
     exact ⟨a8f (by omega) (a7D (l := [ByteArray.mk #[110, 111, 116, 101, 115], ByteArray.mk #[116, 97, 103, 115], ByteArray.mk #[110, 111, 116, 101, 115], ByteArray.mk #[108, 105, 115, 116, 115]]) (by decide +kernel) hz9.1) (.inr hz11.1) (show a1b [] = true from rfl) (.inr ⟨by omega, rfl⟩), .inl hz11.1, by omega⟩
theorem c4N {code : List UInt8} {i h : Int} {m : Int} (hc : code.length ≤ 1048576) (hi : 0 ≤ i) (hm : 0 ≤ m ∧ m ≤ 10) : BFn Tryz.prog 18 [.one (.dv [] (.int .i64 (m)))] 82 (a0m (code)) [.dv [] (.int .i64 (i)), .dv [] (.int .i64 (h))] (fun zz : List OpT × Int × Int => b1u zz.1 ∧ (zz.1.length : Int) ≤ m ∧ 0 ≤ zz.2.1) (fun zz : List OpT × Int × Int => .one (.key 9001)) (fun zz : List OpT × Int × Int => [(9001, some (a0b false (a2a (zz.1))))]) (fun zz : List OpT × Int × Int => [.dv [] (.int .i64 (zz.2.1)), .dv [] (.int .i64 (zz.2.2))]) := by
 refine ⟨a3V Tryz.func18 rfl Tryz.ntmps18 Tryz.results18 rfl (fun C => ?_)⟩
 refine a1k (x := .tmp 1) (a0a rfl) fun f1 => ?_
 iterate 4 refine z ?_
 refine a2J (k := 9001) hT rfl rfl rfl rfl rfl rfl rfl rfl ?_
 iterate 4 refine z ?_
 refine yO rfl rfl (a0M (.inl rfl) (a1A (a0a rfl))) rfl ?_
 iterate 2 refine z ?_
 refine a2c 11000 rfl rfl rfl Tryz.call17 (a4O (code := code) (i := i) (h := h) (n := (m) + (1)) (by omega) (by omega) ) (a0a rfl) rfl a1M rfl (fun _ => rfl) (a2E (a0a rfl) (a0C a0c) rfl a1J) rfl (fun _ => rfl) (fun _ => rfl) (fun zz hz11 => ?_)
 obtain ⟨e11, i11, h11⟩ := zz
 replace hz11 : 0 ≤ e11 ∧ (0 < ((m) + (1)) → e11 < ((m) + (1))) ∧ 0 ≤ i11 := hz11
 iterate 3 refine z ?_
 refine a1o (ι := Int × List OpT × Int × Int) (fun zz => ⟨[(0, .abox 0), (4, .one .nil), (5, .one (.key 9001)), (6, .one (.dv [] (.int .i64 (zz.1))))], [(0, 82, [(.arg 900001 (a0m (code))), (.dv [] (.int .i64 (zz.2.2.1))), (.dv [] (.int .i64 (zz.2.2.2)))])], [(9001, some (a0b false (.sl 65 7 (zz.2.1.length) (zz.2.1.flatMap eOp))))]⟩) (fun zz => b1u zz.2.1 ∧ (zz.2.1.length : Int) + zz.1 ≤ m ∧ 0 ≤ zz.2.2.1 ∧ 0 ≤ zz.1) (fun zz => zz.1.toNat) ((e11, [], i11, h11)) ?_ (a0e ⟨rfl, rfl, rfl, rfl, trivial⟩ ⟨rfl, trivial⟩ ⟨rfl, trivial⟩ rfl) (fun zz hx => ?_)
 ·exact ⟨fun o ho => (by cases ho), by have := hz11.2.1 (by omega); dsimp only; simp; omega, by dsimp only; omega, by dsimp only; omega⟩
 obtain ⟨n, l, ci, ch⟩ := zz
 replace hx : b1u l ∧ (l.length : Int) + n ≤ m ∧ 0 ≤ ci ∧ 0 ≤ n := hx
 obtain ⟨hok, hl, hci, hn0⟩ := hx
 show Ok _ _ _ _ _ (⟨[(0, .abox 0), (4, .one .nil), (5, .one (.key 9001)), (6, .one (.dv [] (.int .i64 (n))))], [(0, 82, [(.arg 900001 (a0m (code))), (.dv [] (.int .i64 (ci))), (.dv [] (.int .i64 (ch)))])], [(9001, some (a0b false (.sl 65 7 (l.length) (l.flatMap eOp))))]⟩ : St)
 iterate 5 refine z ?_
 refine yQ rfl (fun c1 => ?_) fun c1 => ?_
 ·have d1 := c9f c1
  iterate 4 refine z ?_
  refine a0n ?_
  refine z ?_
  refine yO rfl rfl (a0M (.inl rfl) (a1A (a0a rfl))) rfl ?_
  refine a2c 18000 rfl rfl rfl Tryz.call39 (c1U (code := code) (i := ci) (h := ch) (by omega) (by omega)) (a0a rfl) rfl a1M rfl (fun _ => rfl) a1J rfl (fun _ => rfl) (fun _ => rfl) (fun zz hz18 => ?_)
  obtain ⟨e18, i18, h18⟩ := zz
  replace hz18 : a1s e18 = true ∧ b2w e18 ∧ 0 ≤ i18 := hz18
  refine a3H (k := 19) (js := [27001]) hT rfl rfl rfl rfl rfl rfl rfl rfl rfl (a0a rfl) rfl rfl (a0o (a0R rfl) (a0o (a0R rfl) (a0o (a0R rfl) (a0o (a0R rfl) (a0o (a0R rfl) (a0o (a1f rfl) (a0o (a0R rfl) a1y rfl) rfl) rfl) rfl) rfl) rfl) rfl) (by decide) (by decide) rfl rfl ?_
  simp only [a0p, a0k, SV.kill, CV.kill, kk, Nat.reduceBEq]
  refine a3f (k := 9001) (j := 19) (cs := (l ++ [e18]).flatMap eOp) (n := (l ++ [e18]).length) hT rfl rfl rfl rfl rfl rfl rfl (a0a rfl) rfl rfl rfl (a0a rfl) rfl rfl (by decide) (by dsimp only [a0b, KC.old]; omega) (by dsimp only [a0b, KC.old]; omega) (by rw [c9i]; rfl) (by rw [List.flatMap_append]; rfl) ?_
  simp only [a0p, a0k, SV.kill, CV.kill, kk, Nat.reduceBEq]
  refine z ?_
  refine a1H ?_
  iterate 2 refine z ?_
  refine a0n ?_
  iterate 4 refine z ?_
  refine ⟨(n - 1, l ++ [e18], i18, h18), ?_, ?_, a0e ⟨rfl, rfl, rfl, rfl, trivial⟩ ⟨rfl, trivial⟩ ⟨rfl, trivial⟩ rfl⟩
  ·refine ⟨fun o ho => ?_, by dsimp only; rw [c9i, List.length_singleton]; omega, by dsimp only; omega, by dsimp only; omega⟩
   rcases List.mem_append.1 ho with ho | ho
   ·exact hok o ho
   ·rw [List.mem_singleton] at ho; rw [ho]; exact ⟨hz18.1, hz18.2.1⟩
  ·dsimp only; omega
 ·have d1 := c9g c1
  iterate 9 refine z ?_
  refine a0h (σ' := ⟨[(4, .one (.key 9001)), (0, .abox 0)], [(0, 82, [(.arg 900001 (a0m (code))), (.dv [] (.int .i64 (ci))), (.dv [] (.int .i64 (ch)))])], [(9001, some (a0b false (.sl 65 7 (l.length) (l.flatMap eOp))))]⟩) (a0e ⟨rfl, rfl, trivial⟩ ⟨rfl, trivial⟩ ⟨rfl, trivial⟩ rfl) ?_
  refine z ?_
  refine a1r (a0l rfl) ⟨((l), ci, ch), ?_, rfl, rfl, rfl, rfl⟩
  try dsimp only
  exact ⟨hok, by omega, by omega⟩
@[reducible] def a9H (xs : List (List UInt8)) : DV := a2M 22 1 (fun x => [a0m x]) xs
def goD : DbT → List (List UInt8) → Int → DbT × Int
 | c, [], i => (c, i)
 | c, e :: es, i => if (a3s e).2 = true then goD (a1F c (a3s e).1).1 es (i + 1) else (c, i)
def a1C (x : a2W) : DbT × Int := goD x.1 (rl x.2.1).1 0
theorem c8M {L : List (List UInt8)} {n : Nat} {c : DbT} (h : n < L.length) (hk : (!(a3s (L.getD (n : Int).toNat default)).2) = true) : goD c (L.drop n) (n : Int) = (c, (n : Int)) := by
 have e : L.drop n = L.getD (n : Int).toNat default :: L.drop (n + 1) := by rw [List.drop_eq_getElem_cons h]; simp [List.getD, List.getElem?_eq_getElem h]
 rw [e, goD, if_neg (by simpa using hk)]
theorem c5a {L : List (List UInt8)} {n : Nat} {c : DbT} (h : n < L.length) (hk : (!(a3s (L.getD (n : Int).toNat default)).2) = false) : goD c (L.drop n) (n : Int) = goD (a1F c (a3s (L.getD (n : Int).toNat default)).1).1 (L.drop (n + 1)) ((n + 1 : Nat) : Int) := by
 have e : L.drop n = L.getD (n : Int).toNat default :: L.drop (n + 1) := by rw [List.drop_eq_getElem_cons h]; simp [List.getD, List.getElem?_eq_getElem h]
 rw [e, goD, if_pos (by simpa using hk)]
 rfl
theorem c1E {L : List (List UInt8)} {n : Nat} {c : DbT} (h : L.length ≤ n) (h2 : n ≤ L.length) : goD c (L.drop n) (n : Int) = (c, (L.length : Int)) := by
 rw [List.drop_of_length_le h, goD, show n = L.length by omega]
theorem b8y (bs : List UInt8) : ∀ (f p : Nat) (acc : List (List UInt8)), (∀ d ∈ acc, d.length ≤ 4000) → ∀ d ∈ (a2X bs f p acc).1, d.length ≤ 4000
 | 0, p, acc, h => h
 | f + 1, p, acc, h => by
  cases hb : rdB bs p 4000 with
  | none => rw [a7p hb]; exact h
  | some dn =>
   obtain ⟨d, nx⟩ := dn
   have hbs := b0Q hb
   cases hu : rdU bs nx with
   | none => rw [a9a hb hu]; exact h
   | some sk =>
    obtain ⟨s, k⟩ := sk
    by_cases hs : (s : Int) = a2o acc.length d
    ·rw [a9Z hb hu hs]
     refine b8y bs f _ _ (fun z hz => ?_)
     rcases List.mem_append.1 hz with h1 | h1
     ·exact h z h1
     ·rw [List.mem_singleton] at h1; rw [h1]; omega
    ·rw [b0P hb hu hs]; exact h
theorem c5j {b : List UInt8} {n : Nat} (h : n < (rl b).1.length) : ((rl b).1.getD (n : Int).toNat default).length ≤ 4000 := by
 rw [Int.toNat_natCast, List.getD_eq_getElem?_getD, List.getElem?_eq_getElem h]
 exact b8y b _ _ [] (fun d hd => by cases hd) _ (List.getElem_mem h)
theorem a9i {x : a2W} (hb : a2Y x ≤ 1048576) : KFn Tryz.prog 9 [.agg [(.dv [] (.str (x.1.1))), (.dv [] (.int .i64 (x.1.2.1))), (.dv [] (a0x (x.1.2.2.1))), (.dv [] (a0z (x.1.2.2.2))), (.dv [] (a0m (x.2.1))), (.dv [] (.int .i64 (x.2.2)))]] (.tup [(true, [(.dv [] (.str ((a1C x).1.1))), (.dv [] (.int .i64 ((a1C x).1.2.1))), (.key 90031), (.key 90900)]), (false, [(.dv [] (.int .i64 ((a1C x).2)))])]) [(90031, some (a0b false (a0x ((a1C x).1.2.2.1)))), (90900, some (a0b false (a0z ((a1C x).1.2.2.2))))] := by
 refine ⟨a0O Tryz.func9 rfl Tryz.ntmps9 Tryz.results9 rfl (fun C => ?_)⟩
 have hwk : a2Y x = a1h x.1 + x.2.1.length := rfl
 have hcn := b1b x.2.1
 refine yF 0 0 rfl rfl fun f0_0 => ?_
 refine yF 0 1 rfl rfl fun f0_1 => ?_
 refine yF 0 2 rfl rfl fun f0_2 => ?_
 refine yF 0 3 rfl rfl fun f0_3 => ?_
 refine yF 0 4 rfl rfl fun f0_4 => ?_
 refine yF 0 5 rfl rfl fun f0_5 => ?_
 iterate 8 refine z ?_
 refine zK 90000 Tryz.call27 ?_ (hf := a6W (x := x.1) (by omega))
 iterate 6 refine z ?_
 refine zK 92000 Tryz.call28 ?_ (hf := c7j (b := x.2.1) (by omega))
 iterate 8 refine z ?_
 refine yO rfl rfl (a0M (v := .one (.dv [92000] (a9H ((rl x.2.1).1)))) (.inl rfl) (a2L (a0a rfl) rfl rfl)) rfl ?_
 iterate 4 refine z ?_
 refine a1o (ι := Nat × DbT) (fun zz => ⟨[(2, .box 2 0), (4, .box 4 0), (5, .one (.key 92000)), (20, .one (.dv [92000] (a9H ((rl x.2.1).1)))), (21, .one (.dv [] (.int .i64 (((((rl x.2.1).1)).length : Int))))), (22, .one (.dv [] (.int .i64 ((zz.1 : Int)))))], [(1, 29, [(.dv [] (.str (x.1.1))), (.dv [] (.int .i64 (x.1.2.1))), (.dv [] (a0x (x.1.2.2.1))), (.dv [] (a0z (x.1.2.2.2))), (.dv [] (a0m (x.2.1))), (.dv [] (.int .i64 (x.2.2)))]), (2, 27, [(.dv [] (.str (ByteArray.empty))), (.dv [] (.int .i64 (0))), .nil, .nil]), (4, 27, [(.dv [] (.str (zz.2.1))), (.dv [] (.int .i64 (zz.2.2.1))), (.key 90031), (.key 90900)])], [(90031, some (a0b false (.sl 77 3 (zz.2.2.2.1.length) (zz.2.2.2.1.flatMap a1L)))), (90900, some (a0b false (.sl 79 2 (zz.2.2.2.2.length) (zz.2.2.2.2.flatMap a2z)))), (92000, some (a0b false (a9H ((rl (x.2.1)).1))))]⟩) (fun zz => zz.1 ≤ (rl x.2.1).1.length ∧ a1C x = goD zz.2 ((rl x.2.1).1.drop zz.1) (zz.1 : Int) ∧ (a1h zz.2 ≤ a1h x.1 ∨ a1h zz.2 ≤ 5000000)) (fun zz => (rl x.2.1).1.length - zz.1) ((0, x.1)) ?_ (a0e ⟨rfl, rfl, rfl, rfl, rfl, rfl, trivial⟩ ⟨rfl, rfl, rfl, trivial⟩ ⟨rfl, rfl, rfl, trivial⟩ rfl) (fun zz hx => ?_)
 ·exact ⟨Nat.zero_le _, rfl, .inl (Nat.le_refl _)⟩
 obtain ⟨n, c⟩ := zz
 replace hx : n ≤ (rl x.2.1).1.length ∧ a1C x = goD c ((rl x.2.1).1.drop n) (n : Int) ∧ (a1h c ≤ a1h x.1 ∨ a1h c ≤ 5000000) := hx
 obtain ⟨hn, hi, hw⟩ := hx
 show Ok _ _ _ _ _ (⟨[(2, .box 2 0), (4, .box 4 0), (5, .one (.key 92000)), (20, .one (.dv [92000] (a9H ((rl x.2.1).1)))), (21, .one (.dv [] (.int .i64 (((((rl x.2.1).1)).length : Int))))), (22, .one (.dv [] (.int .i64 ((n : Int)))))], [(1, 29, [(.dv [] (.str (x.1.1))), (.dv [] (.int .i64 (x.1.2.1))), (.dv [] (a0x (x.1.2.2.1))), (.dv [] (a0z (x.1.2.2.2))), (.dv [] (a0m (x.2.1))), (.dv [] (.int .i64 (x.2.2)))]), (2, 27, [(.dv [] (.str (ByteArray.empty))), (.dv [] (.int .i64 (0))), .nil, .nil]), (4, 27, [(.dv [] (.str (c.1))), (.dv [] (.int .i64 (c.2.1))), (.key 90031), (.key 90900)])], [(90031, some (a0b false (.sl 77 3 (c.2.2.1.length) (c.2.2.1.flatMap a1L)))), (90900, some (a0b false (.sl 79 2 (c.2.2.2.length) (c.2.2.2.flatMap a2z)))), (92000, some (a0b false (a9H ((rl (x.2.1)).1))))]⟩ : St)
 iterate 3 refine z ?_
 refine a0u ?_
 refine yQ rfl (fun c1 => ?_) fun c1 => ?_
 ·have d1 := c9f c1
  have hn2 : n < (rl x.2.1).1.length := by omega
  have hel := c5j hn2
  have hrw := b8t c (a3s ((rl x.2.1).1.getD (n : Int).toNat default)).1
  iterate 13 refine z ?_
  refine zK 3000 Tryz.call29 ?_ (hf := c2g (b := ((rl x.2.1).1.getD (n : Int).toNat default)) (by omega))
  iterate 11 refine z ?_
  refine yQ rfl (fun c2 => ?_) fun c2 => ?_
  ·iterate 6 refine z ?_
   have hfin : a1C x = (c, (n : Int)) := by rw [hi]; exact c8M hn2 c2
   rw [hfin]
   refine a0h (σ' := ⟨[(2, .box 2 0), (3, .one (.dv [] (.int .i64 ((n : Int)))))], [(2, 27, [(.dv [] (.str (c.1))), (.dv [] (.int .i64 (c.2.1))), (.key 90031), (.key 90900)])], [(90031, some (a0b false (a0x (c.2.2.1)))), (90900, some (a0b false (a0z (c.2.2.2))))]⟩) (a0e ⟨rfl, rfl, trivial⟩ ⟨rfl, trivial⟩ ⟨rfl, rfl, trivial⟩ rfl) ?_
   iterate 7 refine z ?_
   refine a1u (a0E hT rfl rfl rfl rfl) (a0l rfl) rfl rfl ?_
   first | exact ⟨rfl, rfl⟩ | skip
  ·iterate 2 refine z ?_
   refine a0n ?_
   iterate 2 refine z ?_
   refine a2H 1000 rfl rfl rfl Tryz.call20 (b9t (d := c) (l := (a3s ((rl x.2.1).1.getD (n : Int).toNat default)).1) (by omega)) (a0g (a0a rfl) (a0t (a0d a0c (a0d a0c (a0d (a0X rfl rfl) (a0d (a0X rfl rfl) a0r))))) (a0g (a0a rfl) (a0C (a0X rfl rfl)) a0q)) rfl rfl rfl ?_
   iterate 5 refine z ?_
   refine a1H ?_
   iterate 2 refine z ?_
   refine a0h (a2N (b := 4) (i := 2) (k := 91031) (k' := 90031) rfl rfl rfl rfl (by simp) rfl rfl) ?_
   simp only [a0p, a0k, SV.kill, CV.kill, kk, Nat.reduceBEq]
   refine a0h (a2N (b := 4) (i := 3) (k := 91900) (k' := 90900) rfl rfl rfl rfl (by simp) rfl rfl) ?_
   simp only [a0p, a0k, SV.kill, CV.kill, kk, Nat.reduceBEq]
   refine a0n ?_
   iterate 3 refine z ?_
   refine ⟨(n + 1, (a1F c (a3s ((rl x.2.1).1.getD (n : Int).toNat default)).1).1), ?_, ?_, a0e ⟨rfl, rfl, rfl, rfl, rfl, rfl, trivial⟩ ⟨rfl, rfl, rfl, trivial⟩ ⟨rfl, rfl, rfl, trivial⟩ rfl⟩
   ·exact ⟨hn2, by show a1C x = _; rw [hi]; exact c5a hn2 c2, by dsimp only; omega⟩
   ·dsimp only; omega
 ·have d1 := c9g c1
  iterate 8 refine z ?_
  refine yO rfl rfl (a2I (n := (((rl (x.2.1)).1)).length) hT rfl rfl (a0a rfl) rfl rfl) rfl ?_
  iterate 3 refine z ?_
  have hfin : a1C x = (c, ((rl x.2.1).1.length : Int)) := by rw [hi]; exact c1E (by omega) hn
  rw [hfin]
  refine a0h (σ' := ⟨[(2, .box 2 0), (3, .one (.dv [] (.int .i64 (((((rl (x.2.1)).1)).length : Int)))))], [(2, 27, [(.dv [] (.str (c.1))), (.dv [] (.int .i64 (c.2.1))), (.key 90031), (.key 90900)])], [(90031, some (a0b false (a0x (c.2.2.1)))), (90900, some (a0b false (a0z (c.2.2.2))))]⟩) (a0e ⟨rfl, rfl, trivial⟩ ⟨rfl, trivial⟩ ⟨rfl, rfl, trivial⟩ rfl) ?_
  refine z ?_
  refine a1u (a0E hT rfl rfl rfl rfl) (a0l rfl) rfl rfl ?_
  first | exact ⟨rfl, rfl⟩ | skip
theorem b8r {d : DbT} {u : a6e} (hb : a1h d ≤ 549755813888) (hu : u.1 = 3) : KFn Tryz.prog 36 [.agg [(.dv [] (.str (d.1))), (.dv [] (.int .i64 (d.2.1))), (.dv [] (a0x (d.2.2.1))), (.dv [] (a0z (d.2.2.2)))], .agg [(.dv [] (.int .i64 (u.1))), (.dv [] (.str (u.2.1))), (.dv [] (.str (u.2.2)))]] (.tup [(true, [(.dv [] (.str ((upA d u).1.1))), (.dv [] (.int .i64 ((upA d u).1.2.1))), (.key 90031), (.key 90900)]), (false, [(.dv [] (.bool ((upA d u).2)))])]) [(90031, some (a0b false (a0x ((upA d u).1.2.2.1)))), (90900, some (a0b false (a0z ((upA d u).1.2.2.2))))] := by
 refine ⟨a0O Tryz.func36 rfl Tryz.ntmps36 Tryz.results36 rfl (fun C => ?_)⟩
 have hw4 : a1h d = d.1.size + a2d a1g d.2.2.1 + a2d a3a d.2.2.2 := rfl
 have hw5 : a2d a1g d.2.2.1 = d.2.2.1.length + a0V a1g d.2.2.1 := rfl
 have hw6 : a2d a3a d.2.2.2 = d.2.2.2.length + a0V a3a d.2.2.2 := rfl
 refine yF 0 0 rfl rfl fun f0_0 => ?_
 refine yF 0 1 rfl rfl fun f0_1 => ?_
 refine yF 0 2 rfl rfl fun f0_2 => ?_
 refine yF 0 3 rfl rfl fun f0_3 => ?_
 refine yF 1 0 rfl rfl fun f1_0 => ?_
 refine yF 1 1 rfl rfl fun f1_1 => ?_
 refine yF 1 2 rfl rfl fun f1_2 => ?_
 iterate 8 refine z ?_
 refine zK 90000 Tryz.call23 ?_ (hf := a8P (x := d) (by omega))
 iterate 7 refine z ?_
 refine zC Tryz.call51 ?_ (hf := b2P (x := d) (n := u.2.1))
 iterate 5 refine z ?_
 refine zC Tryz.call69 ?_ (hf := c1w (d := d) (u := u))
 iterate 14 refine z ?_
 refine yQ rfl (fun c1 => ?_) fun c1 => ?_
 ·rw [Bool.and_eq_true, decide_eq_true_eq] at c1
  omega
 ·have hn1 : ¬ (u.1 = 1 ∧ (a0s (a0D u.2.1) d.2.2.1 0) < 0) := fun h => by
   have h8 := c1
   rw [show (decide (u.1 = 1) && decide ((a0s (a0D u.2.1) d.2.2.1 0) < 0)) = true by simp only [Bool.and_eq_true, decide_eq_true_eq, and_assoc]; exact h] at h8
   cases h8
  iterate 10 refine z ?_
  refine yQ rfl (fun c2 => ?_) fun c2 => ?_
  ·rw [Bool.and_eq_true, decide_eq_true_eq] at c2
   omega
  ·have hn2 : ¬ (u.1 = 2 ∧ 0 ≤ (a0s (a0D u.2.1) d.2.2.1 0)) := fun h => by
    have h8 := c2
    rw [show (decide (u.1 = 2) && decide (0 ≤ (a0s (a0D u.2.1) d.2.2.1 0))) = true by simp only [Bool.and_eq_true, decide_eq_true_eq, and_assoc]; exact h] at h8
    cases h8
   iterate 14 refine z ?_
   refine yQ rfl (fun c3 => ?_) fun c3 => ?_
   ·have hk1 : u.1 = 3 ∧ 0 ≤ (a0s (a0D u.2.1) d.2.2.1 0) ∧ (a0s (a1W u.2) d.2.2.2 0) < 0 := by simpa only [Bool.and_eq_true, decide_eq_true_eq, and_assoc] using c3
    refine a0n ?_
    iterate 6 refine z ?_
    refine yO rfl rfl (a1v hT hB rfl rfl rfl (a1c (a0a rfl) rfl rfl rfl rfl rfl (a1c (a0a rfl) rfl rfl rfl rfl rfl a1w))) rfl ?_
    refine a3H (k := 97) (js := []) hT rfl rfl rfl rfl rfl rfl rfl rfl rfl (a0a rfl) rfl rfl (a0o (a0R rfl) (a0o (a0R rfl) a1y rfl) rfl) (by decide) (by decide) rfl rfl ?_
    simp only [a0p, a0k, SV.kill, CV.kill, kk, Nat.reduceBEq]
    refine a3f (k := 90900) (j := 97) (cs := (d.2.2.2 ++ [u.2]).flatMap a2z) (n := (d.2.2.2 ++ [u.2]).length) hT rfl rfl rfl rfl rfl rfl rfl (a0a rfl) rfl rfl rfl (a0a rfl) rfl rfl (by decide) (by dsimp only [a0b, KC.old]; omega) (by dsimp only [a0b, KC.old]; omega) (by rw [c9i]; rfl) (by rw [List.flatMap_append]; rfl) ?_
    simp only [a0p, a0k, SV.kill, CV.kill, kk, Nat.reduceBEq]
    iterate 2 refine z ?_
    refine a1H ?_
    iterate 2 refine z ?_
    refine a0u ?_
    refine a0u ?_
    refine a0h (a4V (k := 90900) (c' := a0b false (a0z (d.2.2.2 ++ [u.2]))) rfl (rfl) rfl) ?_
    refine a0n ?_
    refine z ?_
    refine zC Tryz.call24 ?_ (hf := a9x (x := d))
    iterate 3 refine z ?_
    refine a1O (a1t rfl rfl rfl rfl rfl) rfl rfl Tryz.call24 (a9x (x := (d.1, d.2.1, d.2.2.1, (d.2.2.2 ++ [u.2])))) (fun hg => (a0g (a0y rfl hg) (a0t (a0d a0c (a0d a0c (a0d (a0X rfl rfl) (a0d (a0X rfl rfl) a0r))))) a0q)) rfl rfl ?_
    iterate 3 refine z ?_
    refine yQ rfl (fun c4 => ?_) fun c4 => ?_
    ·refine a0u ?_
     refine a0h (σ' := ⟨[(2, .box 2 0), (3, .box 3 0), (4, .box 4 0), (5, .one (.dv [] (.bool (false))))], [(2, 27, [(.dv [] (.str (d.1))), (.dv [] (.int .i64 (d.2.1))), (.dv [] (a0x (d.2.2.1))), (.dv [] (a0z (d.2.2.2)))]), (3, 89, [(.dv [] (.int .i64 (u.1))), (.dv [] (.str (u.2.1))), (.dv [] (.str (u.2.2)))]), (4, 27, [(.dv [] (.str (ByteArray.empty))), (.dv [] (.int .i64 (0))), .nil, .nil])], []⟩) (a0e ⟨rfl, rfl, rfl, rfl, trivial⟩ ⟨rfl, rfl, rfl, trivial⟩ trivial rfl) ?_
     refine a0n ?_
     refine z ?_
     refine zK 90000 Tryz.call23 ?_ (hf := a8P (x := d) (by omega))
     iterate 3 refine z ?_
     rw [c3K (o := (d.1, d.2.1, d.2.2.1, (d.2.2.2 ++ [u.2]))) (fun _ => by rw [b1A hk1.1]) c4]
     refine a0h (σ' := ⟨[(4, .box 4 0), (5, .one (.dv [] (.bool (false))))], [(4, 27, [(.dv [] (.str ((d).1))), (.dv [] (.int .i64 ((d).2.1))), (.key 90031), (.key 90900)])], [(90031, some (a0b false (a0x (d.2.2.1)))), (90900, some (a0b false (a0z (d.2.2.2))))]⟩) (a0e ⟨rfl, rfl, trivial⟩ ⟨rfl, trivial⟩ ⟨rfl, rfl, trivial⟩ rfl) ?_
     iterate 2 refine z ?_
     refine a1u (a0E hT rfl rfl rfl rfl) (a0l rfl) rfl rfl ?_
     first | exact ⟨rfl, rfl⟩ | skip
    ·iterate 7 refine z ?_
     rw [c6U (o := (d.1, d.2.1, d.2.2.1, (d.2.2.2 ++ [u.2]))) (fun _ => by rw [b1A hk1.1]) (by rw [b1A hk1.1]; exact decide_eq_true hk1.2.2) c4]
     refine a0h (σ' := ⟨[(4, .box 4 0), (5, .one (.dv [] (.bool (true))))], [(4, 27, [(.dv [] (.str ((d).1))), (.dv [] (.int .i64 ((d).2.1))), (.key 90031), (.key 90900)])], [(90031, some (a0b false (a0x (d.2.2.1)))), (90900, some (a0b false (a0z ((d.2.2.2 ++ [u.2])))))]⟩) (a0e ⟨rfl, rfl, trivial⟩ ⟨rfl, trivial⟩ ⟨rfl, rfl, trivial⟩ rfl) ?_
     refine z ?_
     refine a1u (a0E hT rfl rfl rfl rfl) (a0l rfl) rfl rfl ?_
     first | exact ⟨rfl, rfl⟩ | skip
   ·have hn3 : ¬ (u.1 = 3 ∧ 0 ≤ (a0s (a0D u.2.1) d.2.2.1 0) ∧ (a0s (a1W u.2) d.2.2.2 0) < 0) := fun h => by
     have h8 := c3
     rw [show (decide (u.1 = 3) && decide (0 ≤ (a0s (a0D u.2.1) d.2.2.1 0)) && decide ((a0s (a1W u.2) d.2.2.2 0) < 0)) = true by simp only [Bool.and_eq_true, decide_eq_true_eq, and_assoc]; exact h] at h8
     cases h8
    iterate 10 refine z ?_
    refine yQ rfl (fun c5 => ?_) fun c5 => ?_
    ·rw [Bool.and_eq_true, decide_eq_true_eq] at c5
     omega
    ·have hn5 : ¬ (u.1 = 4 ∧ 0 ≤ (a0s (a1W u.2) d.2.2.2 0)) := fun h => by
      have h8 := c5
      rw [show (decide (u.1 = 4) && decide (0 ≤ (a0s (a1W u.2) d.2.2.2 0))) = true by simp only [Bool.and_eq_true, decide_eq_true_eq, and_assoc]; exact h] at h8
      cases h8
     iterate 5 refine z ?_
     rw [c8B hn1 hn2 hn3 hn5]
     refine a0h (σ' := ⟨[(4, .box 4 0), (5, .one (.dv [] (.bool (false))))], [(4, 27, [(.dv [] (.str ((d).1))), (.dv [] (.int .i64 ((d).2.1))), (.key 90031), (.key 90900)])], [(90031, some (a0b false (a0x (d.2.2.1)))), (90900, some (a0b false (a0z (d.2.2.2))))]⟩) (a0e ⟨rfl, rfl, trivial⟩ ⟨rfl, trivial⟩ ⟨rfl, rfl, trivial⟩ rfl) ?_
     iterate 3 refine z ?_
     refine a1u (a0E hT rfl rfl rfl rfl) (a0l rfl) rfl rfl ?_
     first | exact ⟨rfl, rfl⟩ | skip
theorem c2k {code : List UInt8} {i h : Int} (hc : code.length ≤ 1048576) (hi : 0 ≤ i) : BFn Tryz.prog 16 [] 82 (a0m (code)) [.dv [] (.int .i64 (i)), .dv [] (.int .i64 (h))] (fun zz : DbT × Int × Int => a1e zz.1 = true ∧ 0 ≤ zz.2.1) (fun zz : DbT × Int × Int => .agg [(.dv [] (.str (zz.1.1))), (.dv [] (.int .i64 (zz.1.2.1))), (.key 90031), (.key 90900)]) (fun zz : DbT × Int × Int => [(90031, some (a0b false (a0x (zz.1.2.2.1)))), (90900, some (a0b false (a0z (zz.1.2.2.2))))]) (fun zz : DbT × Int × Int => [.dv [] (.int .i64 (zz.2.1)), .dv [] (.int .i64 (zz.2.2))]) := by
 refine ⟨a3V Tryz.func16 rfl Tryz.ntmps16 Tryz.results16 rfl (fun C => ?_)⟩
 iterate 4 refine z ?_
 refine yO rfl rfl (a1v hT hB rfl rfl rfl (a1c (a0B (a0A rfl)) rfl rfl rfl rfl rfl (a1c (a0i (a0j rfl)) rfl rfl rfl rfl rfl a1w))) rfl ?_
 iterate 3 refine z ?_
 refine a0u ?_
 refine a0h (a3p 90031 (b := 3) (i := 2) (e := 77) (sz := 3) rfl rfl rfl rfl rfl) ?_
 simp only [a0p, a0k, SV.kill, CV.kill, kk, Nat.reduceBEq]
 refine a0h (a3p 90900 (b := 3) (i := 3) (e := 79) (sz := 2) rfl rfl rfl rfl rfl) ?_
 simp only [a0p, a0k, SV.kill, CV.kill, kk, Nat.reduceBEq]
 refine a6G [0] [0, 1, 2, 3, 4, 5, 6] (oB := [2, 3]) (oK := [90031, 90900]) (by kernel_rfl) rfl rfl ?_
 refine a2q 0 rfl (by kernel_rfl) rfl rfl (a5E hT rfl rfl rfl (a0a rfl)) rfl rfl rfl rfl rfl ?_
 refine a2q 1 rfl (by kernel_rfl) rfl rfl (a4d hT rfl rfl (a0a rfl) rfl rfl) rfl rfl rfl rfl rfl ?_
 refine a2q 2 rfl (by kernel_rfl) rfl rfl (a0M (.inl rfl) (a1A (a0a rfl))) rfl rfl rfl rfl rfl ?_
 refine a2q 4 rfl (by kernel_rfl) rfl rfl (a0M (.inl rfl) (a1A (a0a rfl))) rfl rfl rfl rfl rfl ?_
 refine a2U 3 [] (by kernel_rfl) ⟨?_, trivial⟩
 refine a4C 22000 3 rfl rfl rfl rfl rfl Tryz.call34 (b3D (code := code) (i := i) (h := h) (nm := ByteArray.mk #[110, 111, 116, 101, 115]) (by omega) (by omega) (by decide +kernel)) (a0a rfl) rfl a1M rfl (fun _ => rfl) (a2E (a0B (a0A rfl)) (a0C a0c) rfl a1J) rfl (fun _ => rfl) (fun _ => rfl) rfl (fun zz hz8 => ?_)
 obtain ⟨e8, i8, h8⟩ := zz
 replace hz8 : a1i e8 = true ∧ e8.1 = (ByteArray.mk #[110, 111, 116, 101, 115]) ∧ a6Y e8 ∧ e8.2.2 ≤ 256 ∧ 0 ≤ i8 := hz8
 refine a2U 5 [] (by kernel_rfl) ⟨?_, trivial⟩
 refine a4C 23000 5 rfl rfl rfl rfl rfl Tryz.call34 (b3D (code := code) (i := i8) (h := h8) (nm := ByteArray.mk #[116, 97, 103, 115]) (by omega) (by omega) (by decide +kernel)) (a0a rfl) rfl a1M rfl (fun _ => rfl) (a2E (a0B (a0A rfl)) (a0C a0c) rfl a1J) rfl (fun _ => rfl) (fun _ => rfl) rfl (fun zz hz10 => ?_)
 obtain ⟨e10, i10, h10⟩ := zz
 replace hz10 : a1i e10 = true ∧ e10.1 = (ByteArray.mk #[116, 97, 103, 115]) ∧ a6Y e10 ∧ e10.2.2 ≤ 256 ∧ 0 ≤ i10 := hz10
 refine a2U 6 [] (by kernel_rfl) ⟨?_, trivial⟩
 refine b5H (k := 11) (js := [31001, 32001]) 6 hT rfl rfl rfl rfl rfl rfl rfl rfl rfl rfl rfl rfl (a0Y (a0a rfl) rfl rfl rfl (a0Y (a0a rfl) rfl rfl rfl a2Z)) (a0o (a0R rfl) (a0o (a1f rfl) (a0o (a0R rfl) (a0o (a0R rfl) (a0o (a1f rfl) (a0o (a0R rfl) a1y rfl) rfl) rfl) rfl) rfl) rfl) (by decide) (by decide) rfl rfl rfl rfl rfl ?_
 simp only [a0p, a0k, SV.kill, CV.kill, kk, Nat.reduceBEq]
 refine a7h [7, 8, 9] rfl rfl (by kernel_rfl) ?_
 refine a3f (k := 90031) (j := 11) (cs := [e8, e10].flatMap a1L) (n := [e8, e10].length) hT rfl rfl rfl rfl rfl rfl rfl (a0a rfl) rfl rfl rfl (a0a rfl) rfl rfl (by decide) (by simp [a0b, KC.old]) (by simp [a0b, KC.old]) (rfl) (rfl) ?_
 simp only [a0p, a0k, SV.kill, CV.kill, kk, Nat.reduceBEq]
 iterate 5 refine z ?_
 refine yO rfl rfl (a0M (.inl rfl) (a1A (a0a rfl))) rfl ?_
 refine a2c 15000 rfl rfl rfl Tryz.call35 (a9A (code := code) (i := i10) (h := h10) (n := 2) (by omega) (by omega) ) (a0a rfl) rfl a1M rfl (fun _ => rfl) (a2E (a0i (a0j rfl)) (a0C a0c) rfl a1J) rfl (fun _ => rfl) (fun _ => rfl) (fun zz hz15 => ?_)
 obtain ⟨e15, i15, h15⟩ := zz
 replace hz15 : 0 ≤ i15 := hz15
 refine z ?_
 refine yQ rfl (fun c1 => ?_) fun c1 => ?_
 ·refine a6G [0] [0, 1, 2, 3, 4] (oB := [2, 3]) (oK := [90031, 90900]) (by kernel_rfl) rfl rfl ?_
  refine a2q 0 rfl (by kernel_rfl) rfl rfl (a0M (.inl rfl) (a1A (a0a rfl))) rfl rfl rfl rfl rfl ?_
  refine a2q 3 rfl (by kernel_rfl) rfl rfl (a5E hT rfl rfl rfl (a0a rfl)) rfl rfl rfl rfl rfl ?_
  refine a2q 4 rfl (by kernel_rfl) rfl rfl (a4d hT rfl rfl (a0a rfl) rfl rfl) rfl rfl rfl rfl rfl ?_
  refine a2U 1 [] (by kernel_rfl) ⟨?_, trivial⟩
  refine a4C 24000 1 rfl rfl rfl rfl rfl Tryz.call34 (b3D (code := code) (i := i15) (h := h15) (nm := ByteArray.mk #[108, 105, 115, 116, 115]) (by omega) (by omega) (by decide +kernel)) (a0a rfl) rfl a1M rfl (fun _ => rfl) (a2E (a0B (a0A rfl)) (a0C a0c) rfl a1J) rfl (fun _ => rfl) (fun _ => rfl) rfl (fun zz hz17 => ?_)
  obtain ⟨e17, i17, h17⟩ := zz
  replace hz17 : a1i e17 = true ∧ e17.1 = (ByteArray.mk #[108, 105, 115, 116, 115]) ∧ a6Y e17 ∧ e17.2.2 ≤ 256 ∧ 0 ≤ i17 := hz17
  refine a2U 2 [] (by kernel_rfl) ⟨?_, trivial⟩
  refine b5H (k := 18) (js := [33001]) 2 hT rfl rfl rfl rfl rfl rfl rfl rfl rfl rfl rfl rfl (a0Y (a0a rfl) rfl rfl rfl a2Z) (a0o (a0R rfl) (a0o (a1f rfl) (a0o (a0R rfl) a1y rfl) rfl) rfl) (by decide) (by decide) rfl rfl rfl rfl rfl ?_
  simp only [a0p, a0k, SV.kill, CV.kill, kk, Nat.reduceBEq]
  refine a7h [5, 6, 7] rfl rfl (by kernel_rfl) ?_
  refine a3f (k := 18) (j := 90031) (cs := [e17, e8, e10].flatMap a1L) (n := [e17, e8, e10].length) hT rfl rfl rfl rfl rfl rfl rfl (a0a rfl) rfl rfl rfl (a0a rfl) rfl rfl (by decide) (by simp [a0b, KC.old]) (by simp [a0b, KC.old]) (rfl) (rfl) ?_
  simp only [a0p, a0k, SV.kill, CV.kill, kk, Nat.reduceBEq]
  iterate 5 refine z ?_
  refine yO rfl rfl (a0M (.inl rfl) (a1A (a0a rfl))) rfl ?_
  refine a2c 24000 rfl rfl rfl Tryz.call35 (a9A (code := code) (i := i17) (h := h17) (n := 3) (by omega) (by omega) ) (a0a rfl) rfl a1M rfl (fun _ => rfl) (a2E (a0i (a0j rfl)) (a0C a0c) rfl a1J) rfl (fun _ => rfl) (fun _ => rfl) (fun zz hz24 => ?_)
  obtain ⟨e24, i24, h24⟩ := zz
  replace hz24 : 0 ≤ i24 := hz24
  refine z ?_
  refine yQ rfl (fun c2 => ?_) fun c2 => ?_
  ·refine a6G [0] [0, 1, 2, 3, 4, 5] (oB := [2, 3]) (oK := [18, 90900]) (by kernel_rfl) rfl rfl ?_
   refine a2q 0 rfl (by kernel_rfl) rfl rfl (a4I hT rfl rfl (a0a rfl) rfl rfl) rfl rfl rfl rfl rfl ?_
   refine a2q 1 rfl (by kernel_rfl) rfl rfl (a0M (.inl rfl) (a1A (a0a rfl))) rfl rfl rfl rfl rfl ?_
   refine a2U 2 [] (by kernel_rfl) ⟨?_, trivial⟩
   refine a4C 28000 2 rfl rfl rfl rfl rfl Tryz.call37 (b0J (code := code) (i := i24) (h := h24) (by omega) (by omega)) (a0a rfl) rfl a1M rfl (fun _ => rfl) a1J rfl (fun _ => rfl) (fun _ => rfl) rfl (fun zz hz28 => ?_)
   obtain ⟨e28, i28, h28⟩ := zz
   replace hz28 : a2e e28 = true ∧ 0 ≤ i28 := hz28
   refine a2q 3 rfl (by kernel_rfl) rfl rfl (a1v hT hB rfl rfl rfl (a1c (a0i (a0j rfl)) rfl rfl rfl rfl rfl (a1c (a0B (a0A rfl)) rfl rfl rfl rfl rfl (a1c (a0a rfl) rfl rfl rfl rfl rfl a1w)))) rfl rfl rfl rfl rfl ?_
   refine a2U 4 [] (by kernel_rfl) ⟨?_, trivial⟩
   refine a9q 100000 4 rfl rfl rfl rfl Tryz.call36 (b8r (d := (ByteArray.mk #[97, 112, 112], 1, [e17, e8, e10], [])) (u := (3, ByteArray.mk #[110, 111, 116, 101, 115], e28)) (by have := a8L (b3i hz17.1 hz17.2.1 hz8.1 hz8.2.1 hz10.1 hz10.2.1); omega) rfl) (a0g (a0a rfl) (a0t (a0d a0c (a0d a0c (a0d (a0X rfl rfl) (a0d (a0X rfl rfl) a0r))))) (a0g (a0a rfl) (a0t (a0d a0c (a0d a0c (a0d a0c a0r)))) a0q)) rfl rfl rfl rfl rfl rfl ?_
   refine a2q 5 rfl (by kernel_rfl) rfl rfl (a0M (.inl rfl) (a0a rfl)) rfl rfl rfl rfl rfl ?_
   refine a5A 6 rfl (by kernel_rfl) rfl rfl rfl (a3F rfl (a0a rfl) rfl) rfl rfl ?_
   refine a5A 7 rfl (by kernel_rfl) rfl rfl rfl (a3c rfl (a0a rfl) rfl) rfl rfl ?_
   refine a7h [8] rfl rfl (by kernel_rfl) ?_
   iterate 6 refine z ?_
   refine a0h (a9r (k := 90031) (e := 77) (sz := 3) rfl rfl) ?_
   try simp only [a0p, a0k, SV.kill, CV.kill, kk, Nat.reduceBEq]
   refine a0h (a2N (b := 2) (i := 2) (k := 190031) (k' := 90031) rfl rfl rfl rfl (by simp) rfl rfl) ?_
   try simp only [a0p, a0k, SV.kill, CV.kill, kk, Nat.reduceBEq]
   refine a0h (a2N (b := 2) (i := 3) (k := 190900) (k' := 90900) rfl rfl rfl rfl (by simp) rfl rfl) ?_
   try simp only [a0p, a0k, SV.kill, CV.kill, kk, Nat.reduceBEq]
   refine a0h (σ' := ⟨[(2, .box 2 0), (0, .abox 0)], [(2, 27, [(.dv [] (.str ((upA ((ByteArray.mk #[97, 112, 112], (1, ([e17, e8, e10], [])))) ((3, (ByteArray.mk #[110, 111, 116, 101, 115], e28)))).1.1))), (.dv [] (.int .i64 ((upA ((ByteArray.mk #[97, 112, 112], (1, ([e17, e8, e10], [])))) ((3, (ByteArray.mk #[110, 111, 116, 101, 115], e28)))).1.2.1))), (.key 90031), (.key 90900)]), (0, 82, [(.arg 900001 (a0m (code))), (.dv [] (.int .i64 (i28))), (.dv [] (.int .i64 (h28)))])], [(90031, some (a0b false (a0x ((upA ((ByteArray.mk #[97, 112, 112], (1, ([e17, e8, e10], [])))) ((3, (ByteArray.mk #[110, 111, 116, 101, 115], e28)))).1.2.2.1)))), (90900, some (a0b false (a0z ((upA ((ByteArray.mk #[97, 112, 112], (1, ([e17, e8, e10], [])))) ((3, (ByteArray.mk #[110, 111, 116, 101, 115], e28)))).1.2.2.2))))]⟩) (a0e ⟨rfl, rfl, trivial⟩ ⟨rfl, rfl, trivial⟩ ⟨rfl, rfl, trivial⟩ rfl) ?_
   refine z ?_
   refine a1r (a0E hT rfl rfl rfl rfl) ⟨((((upA ((ByteArray.mk #[97, 112, 112], (1, ([e17, e8, e10], [])))) ((3, (ByteArray.mk #[110, 111, 116, 101, 115], e28)))).1.1), (((upA ((ByteArray.mk #[97, 112, 112], (1, ([e17, e8, e10], [])))) ((3, (ByteArray.mk #[110, 111, 116, 101, 115], e28)))).1.2.1), (((upA ((ByteArray.mk #[97, 112, 112], (1, ([e17, e8, e10], [])))) ((3, (ByteArray.mk #[110, 111, 116, 101, 115], e28)))).1.2.2.1), ((upA ((ByteArray.mk #[97, 112, 112], (1, ([e17, e8, e10], [])))) ((3, (ByteArray.mk #[110, 111, 116, 101, 115], e28)))).1.2.2.2)))), i28, h28), ?_, rfl, rfl, rfl, rfl⟩
   try dsimp only
   exact ⟨b6y (b3i hz17.1 hz17.2.1 hz8.1 hz8.2.1 hz10.1 hz10.2.1), by omega⟩
  ·iterate 6 refine z ?_
   refine a0h (a9r (k := 90031) (e := 77) (sz := 3) rfl rfl) ?_
   try simp only [a0p, a0k, SV.kill, CV.kill, kk, Nat.reduceBEq]
   refine a0h (a2N (b := 2) (i := 2) (k := 18) (k' := 90031) rfl rfl rfl rfl (by simp) rfl rfl) ?_
   try simp only [a0p, a0k, SV.kill, CV.kill, kk, Nat.reduceBEq]
   refine a0h (σ' := ⟨[(2, .box 2 0), (0, .abox 0)], [(2, 27, [(.dv [] (.str (ByteArray.mk #[97, 112, 112]))), (.dv [] (.int .i64 (1))), (.key 90031), (.key 90900)]), (0, 82, [(.arg 900001 (a0m (code))), (.dv [] (.int .i64 (i24))), (.dv [] (.int .i64 (h24)))])], [(90031, some (a0b false (.sl 77 3 ([e17, e8, e10].length) ([e17, e8, e10].flatMap a1L)))), (90900, some (a0b false (.sl 79 2 (0) ([]))))]⟩) (a0e ⟨rfl, rfl, trivial⟩ ⟨rfl, rfl, trivial⟩ ⟨rfl, rfl, trivial⟩ rfl) ?_
   refine z ?_
   refine a1r (a0E hT rfl rfl rfl rfl) ⟨(((ByteArray.mk #[97, 112, 112]), ((1), (([e17, e8, e10]), ([])))), i24, h24), ?_, rfl, rfl, rfl, rfl⟩
   try dsimp only
   exact ⟨b3i hz17.1 hz17.2.1 hz8.1 hz8.2.1 hz10.1 hz10.2.1, by omega⟩
 ·iterate 4 refine z ?_
  refine yO rfl rfl (a0M (.inl rfl) (a1A (a0a rfl))) rfl ?_
  refine a2c 24000 rfl rfl rfl Tryz.call35 (a9A (code := code) (i := i15) (h := h15) (n := 3) (by omega) (by omega) ) (a0a rfl) rfl a1M rfl (fun _ => rfl) (a2E (a0i (a0j rfl)) (a0C a0c) rfl a1J) rfl (fun _ => rfl) (fun _ => rfl) (fun zz hz24 => ?_)
  obtain ⟨e24, i24, h24⟩ := zz
  replace hz24 : 0 ≤ i24 := hz24
  refine z ?_
  refine yQ rfl (fun c3 => ?_) fun c3 => ?_
  ·refine a6G [0] [0, 1, 2, 3, 4, 5] (oB := [2, 3]) (oK := [90031, 90900]) (by kernel_rfl) rfl rfl ?_
   refine a2q 0 rfl (by kernel_rfl) rfl rfl (a4I hT rfl rfl (a0a rfl) rfl rfl) rfl rfl rfl rfl rfl ?_
   refine a2q 1 rfl (by kernel_rfl) rfl rfl (a0M (.inl rfl) (a1A (a0a rfl))) rfl rfl rfl rfl rfl ?_
   refine a2U 2 [] (by kernel_rfl) ⟨?_, trivial⟩
   refine a4C 28000 2 rfl rfl rfl rfl rfl Tryz.call37 (b0J (code := code) (i := i24) (h := h24) (by omega) (by omega)) (a0a rfl) rfl a1M rfl (fun _ => rfl) a1J rfl (fun _ => rfl) (fun _ => rfl) rfl (fun zz hz28 => ?_)
   obtain ⟨e28, i28, h28⟩ := zz
   replace hz28 : a2e e28 = true ∧ 0 ≤ i28 := hz28
   refine a2q 3 rfl (by kernel_rfl) rfl rfl (a1v hT hB rfl rfl rfl (a1c (a0i (a0j rfl)) rfl rfl rfl rfl rfl (a1c (a0B (a0A rfl)) rfl rfl rfl rfl rfl (a1c (a0a rfl) rfl rfl rfl rfl rfl a1w)))) rfl rfl rfl rfl rfl ?_
   refine a2U 4 [] (by kernel_rfl) ⟨?_, trivial⟩
   refine a9q 100000 4 rfl rfl rfl rfl Tryz.call36 (b8r (d := (ByteArray.mk #[97, 112, 112], 1, [e8, e10], [])) (u := (3, ByteArray.mk #[110, 111, 116, 101, 115], e28)) (by have := a8L (b3t hz8.1 hz8.2.1 hz10.1 hz10.2.1); omega) rfl) (a0g (a0a rfl) (a0t (a0d a0c (a0d a0c (a0d (a0X rfl rfl) (a0d (a0X rfl rfl) a0r))))) (a0g (a0a rfl) (a0t (a0d a0c (a0d a0c (a0d a0c a0r)))) a0q)) rfl rfl rfl rfl rfl rfl ?_
   refine a2q 5 rfl (by kernel_rfl) rfl rfl (a0M (.inl rfl) (a0a rfl)) rfl rfl rfl rfl rfl ?_
   refine a5A 6 rfl (by kernel_rfl) rfl rfl rfl (a3F rfl (a0a rfl) rfl) rfl rfl ?_
   refine a5A 7 rfl (by kernel_rfl) rfl rfl rfl (a3c rfl (a0a rfl) rfl) rfl rfl ?_
   refine a7h [8] rfl rfl (by kernel_rfl) ?_
   iterate 6 refine z ?_
   refine a0h (a2N (b := 2) (i := 2) (k := 190031) (k' := 90031) rfl rfl rfl rfl (by simp) rfl rfl) ?_
   try simp only [a0p, a0k, SV.kill, CV.kill, kk, Nat.reduceBEq]
   refine a0h (a2N (b := 2) (i := 3) (k := 190900) (k' := 90900) rfl rfl rfl rfl (by simp) rfl rfl) ?_
   try simp only [a0p, a0k, SV.kill, CV.kill, kk, Nat.reduceBEq]
   refine a0h (σ' := ⟨[(2, .box 2 0), (0, .abox 0)], [(2, 27, [(.dv [] (.str ((upA ((ByteArray.mk #[97, 112, 112], (1, ([e8, e10], [])))) ((3, (ByteArray.mk #[110, 111, 116, 101, 115], e28)))).1.1))), (.dv [] (.int .i64 ((upA ((ByteArray.mk #[97, 112, 112], (1, ([e8, e10], [])))) ((3, (ByteArray.mk #[110, 111, 116, 101, 115], e28)))).1.2.1))), (.key 90031), (.key 90900)]), (0, 82, [(.arg 900001 (a0m (code))), (.dv [] (.int .i64 (i28))), (.dv [] (.int .i64 (h28)))])], [(90031, some (a0b false (a0x ((upA ((ByteArray.mk #[97, 112, 112], (1, ([e8, e10], [])))) ((3, (ByteArray.mk #[110, 111, 116, 101, 115], e28)))).1.2.2.1)))), (90900, some (a0b false (a0z ((upA ((ByteArray.mk #[97, 112, 112], (1, ([e8, e10], [])))) ((3, (ByteArray.mk #[110, 111, 116, 101, 115], e28)))).1.2.2.2))))]⟩) (a0e ⟨rfl, rfl, trivial⟩ ⟨rfl, rfl, trivial⟩ ⟨rfl, rfl, trivial⟩ rfl) ?_
   refine z ?_
   refine a1r (a0E hT rfl rfl rfl rfl) ⟨((((upA ((ByteArray.mk #[97, 112, 112], (1, ([e8, e10], [])))) ((3, (ByteArray.mk #[110, 111, 116, 101, 115], e28)))).1.1), (((upA ((ByteArray.mk #[97, 112, 112], (1, ([e8, e10], [])))) ((3, (ByteArray.mk #[110, 111, 116, 101, 115], e28)))).1.2.1), (((upA ((ByteArray.mk #[97, 112, 112], (1, ([e8, e10], [])))) ((3, (ByteArray.mk #[110, 111, 116, 101, 115], e28)))).1.2.2.1), ((upA ((ByteArray.mk #[97, 112, 112], (1, ([e8, e10], [])))) ((3, (ByteArray.mk #[110, 111, 116, 101, 115], e28)))).1.2.2.2)))), i28, h28), ?_, rfl, rfl, rfl, rfl⟩
   try dsimp only
   exact ⟨b6y (b3t hz8.1 hz8.2.1 hz10.1 hz10.2.1), by omega⟩
  ·iterate 6 refine z ?_
   refine a0h (σ' := ⟨[(2, .box 2 0), (0, .abox 0)], [(2, 27, [(.dv [] (.str (ByteArray.mk #[97, 112, 112]))), (.dv [] (.int .i64 (1))), (.key 90031), (.key 90900)]), (0, 82, [(.arg 900001 (a0m (code))), (.dv [] (.int .i64 (i24))), (.dv [] (.int .i64 (h24)))])], [(90031, some (a0b false (.sl 77 3 ([e8, e10].length) ([e8, e10].flatMap a1L)))), (90900, some (a0b false (.sl 79 2 (0) ([]))))]⟩) (a0e ⟨rfl, rfl, trivial⟩ ⟨rfl, rfl, trivial⟩ ⟨rfl, rfl, trivial⟩ rfl) ?_
   refine z ?_
   refine a1r (a0E hT rfl rfl rfl rfl) ⟨(((ByteArray.mk #[97, 112, 112]), ((1), (([e8, e10]), ([])))), i24, h24), ?_, rfl, rfl, rfl, rfl⟩
   try dsimp only
   exact ⟨b3t hz8.1 hz8.2.1 hz10.1 hz10.2.1, by omega⟩
@[reducible] def a6m (xs : List (List OpT)) : DV := a2M 37 1 (fun x => [a2a x]) xs
@[reducible] def b4m (xs : List DbT) : DV := a2M 27 4 eDb xs
def a6Z (x : a2W) (l : List OpT) : Bool := ((!(a1F (a1C x).1 l).2.2 || decide (((a1l l).length : Int) = 0)) || !a5Z x.2.1 x.2.2 (a1l l)) || !decide (x.2.2 = (a1C x).2)
def a2v (x : a2W) (l : List OpT) : a2W × Bool := if a6Z x l = true then (x, false) else ((x.1, a5v x.2.1 x.2.2 (a1l l), x.2.2 + 1), true)
theorem c0b {x : a2W} {l : List OpT} (h : a6Z x l = true) : a2v x l = (x, false) := by rw [a2v, if_pos h]
theorem c0g {x : a2W} {l : List OpT} (h : a6Z x l = false) : a2v x l = ((x.1, a5v x.2.1 x.2.2 (a1l l), x.2.2 + 1), true) := by rw [a2v, if_neg (by rw [h]; decide)]
theorem b5y : ∀ (L : List (List UInt8)) (c : DbT) (i : Int), a1h (goD c L i).1 ≤ a1h c ∨ a1h (goD c L i).1 ≤ 5000000
 | [], c, i => .inl (Nat.le_refl _)
 | e :: es, c, i => by
  rw [goD]
  split
  ·have h1 := b5y es (a1F c (a3s e).1).1 (i + 1)
   have h2 := b8t c (a3s e).1
   omega
  ·exact .inl (Nat.le_refl _)
/-! ### operations read back do the same -/
theorem c3p {d : DbT} {o : OpT} (h : a1s o = true) : a1j d (a2Q o) = a1j d o := by
 cases hk : a1a o.2.2.1 with
 | true =>
  have e : a2Q o = o := by rw [a2Q, b9Y hk]
  rw [e]
 | false =>
  have h5 : o.1 = 5 := by
   have h1 := h
   simp only [a1s, Bool.and_eq_true, Bool.or_eq_true, decide_eq_true_eq, hk] at h1
   rcases h1.1.1.2 with h2 | h2
   ·exact h2
   ·cases h2
  have hn : a1s (a2Q o) = true := b4H.2 h
  have e1 : (a2Q o).2.1 = o.2.1 := rfl
  have e2 : ∀ x : a0G, opM x (a2Q o) = opM x o := fun x => by
   have e0 : (a2Q o).1 = o.1 := rfl
   unfold opM
   rw [e0, if_neg (by omega), if_neg (by omega), if_neg (by omega), if_neg (by omega), if_pos h5, if_neg (by omega), if_neg (by omega), if_neg (by omega), if_neg (by omega), if_pos h5]
  have e3 : a2O d (a2Q o) = a2O d o := rfl
  unfold a1j
  rw [hn, h, e1, e3, e2]
theorem b9F : ∀ (l : List OpT) (c : DbT), (∀ o ∈ l, a1s o = true) → a1Y c (l.map a2Q) = a1Y c l
 | [], _, _ => rfl
 | o :: l, c, h => by
  rw [List.map_cons, a1Y, a1Y, c3p (h o (by simp)), b9F l _ (fun z hz => h z (by simp [hz]))]
theorem c6B {d : DbT} {l : List OpT} (h : ∀ o ∈ l, a1s o = true) : a1F d (l.map a2Q) = a1F d l := by
 unfold a1F
 rw [List.length_map, b9F l d h]
theorem b9v : ∀ (l : List OpT) (c : DbT) (r : DbT × List Int), a1Y c l = some r → ∀ o ∈ l, a1s o = true
 | [], _, _, _, _, ho => by cases ho
 | o :: l, c, r, h, z, hz => by
  rw [a1Y] at h
  split at h
  ·rename_i hk
   rcases List.mem_cons.1 hz with rfl | hz
   ·unfold a1j at hk
    split at hk
    ·cases hk
    ·rename_i hb
     exact (a9k (by simpa using hb)).2.1
   ·cases hq : a1Y (a1j c o).1 l with
    | none => rw [hq] at h; cases h
    | some r' => exact b9v l _ r' hq z hz
  ·cases h
theorem c2R {d : DbT} {l : List OpT} (h : (a1F d l).2.2 = true) : a2f l = true := by
 obtain ⟨_, h1, c, ns, h2, _⟩ := b7X h
 unfold a2f
 rw [Bool.and_eq_true, List.all_eq_true]
 exact ⟨b9v l d _ h2, decide_eq_true (by omega)⟩
theorem c5u {o : OpT} (h : a1s o = true) : (a4a o).length ≤ 191 := by
 obtain ⟨h1, h2, h3, h4, h5, h6, _⟩ := b3S h
 have u1 := a6u (n := o.1.toNat) (by omega)
 have u2 := a6u (n := o.2.1.data.toList.length) (by omega)
 have u3 := a6u (n := (a1z o.2.2.1).length) (by omega)
 have u4 := a6u (n := (a2k o.2.2.2.1).length) (by omega)
 have u5 := a6u (n := o.2.2.2.2.data.toList.length) (by omega)
 unfold a4a
 simp only [c9i]
 omega
theorem c1e {l : List OpT} (h : a2f l = true) (h3 : l.length ≤ 3) : (a1l l).length ≤ 579 ∧ 0 < (a1l l).length := by
 have e : a1l l = uvL l.length ++ l.flatMap a4a := by rw [a8e h rfl, a9e h _ (Nat.le_refl _), List.take_length]
 have key : ∀ l : List OpT, (∀ o ∈ l, a1s o = true) → (l.flatMap a4a).length ≤ 191 * l.length := by
  intro l
  induction l with
  | nil => intro _; simp
  | cons o l ih =>
   intro h
   have k1 := ih (fun z hz => h z (by simp [hz]))
   have k2 := c5u (h o (by simp))
   rw [List.flatMap_cons, c9i, List.length_cons]; omega
 have hall : ∀ o ∈ l, a1s o = true := by
  simp only [a2f, Bool.and_eq_true, List.all_eq_true] at h
  exact h.1
 have k := key l hall
 have u := a6u (n := l.length) (by omega)
 have u0 : 0 < (uvL l.length).length := by rw [a6o (by omega)]; simp
 rw [e, c9i]; omega
/-! ### the logs -/
def okD (ds : List (List UInt8)) : Prop := ∀ d ∈ ds, d.length ≤ 579 ∧ (a3s d).2 = true
def a2B (ds : List (List UInt8)) : List Int := (List.range (ds.length + 1)).map fun m => ((a0U 0 (ds.take m)).length : Int)
def a2i (c : DbT) (ds : List (List UInt8)) : List DbT := (List.range (ds.length + 1)).map fun m => (goD c (ds.take m) 0).1
def a1T (c : DbT) (ds : List (List UInt8)) : a2W := (c, a0U 0 ds, (ds.length : Int))
theorem b7y {ds : List (List UInt8)} (h : okD ds) : ∀ d ∈ ds, d.length ≤ 4000 := fun d hd => by have := (h d hd).1; omega
theorem c6I {ds : List (List UInt8)} (h : okD ds) (m : Nat) : okD (ds.take m) := fun d hd => h d (List.mem_of_mem_take hd)
theorem c6i {ds : List (List UInt8)} {d : List UInt8} (h : okD ds) (h1 : d.length ≤ 579) (h2 : (a3s d).2 = true) : okD (ds ++ [d]) := fun z hz => by
 rcases List.mem_append.1 hz with hz | hz
 ·exact h z hz
 ·rw [List.mem_singleton] at hz; rw [hz]; exact ⟨h1, h2⟩
theorem b2r : ∀ (ds es : List (List UInt8)) (c : DbT) (i : Int), okD ds → goD c (ds ++ es) i = goD (goD c ds i).1 es (i + (ds.length : Int)) ∧ (goD c ds i).2 = i + (ds.length : Int)
 | [], es, c, i, _ => ⟨by rw [List.nil_append, goD, List.length_nil]; dsimp only; rw [show i + ((0 : Nat) : Int) = i by omega], by rw [goD, List.length_nil]; dsimp only; omega⟩
 | d :: ds, es, c, i, h => by
  have hd := (h d (by simp)).2
  obtain ⟨h1, h2⟩ := b2r ds es (a1F c (a3s d).1).1 (i + 1) (fun z hz => h z (by simp [hz]))
  rw [List.cons_append, goD, if_pos hd, goD, if_pos hd, h1, h2, List.length_cons]
  exact ⟨by rw [show i + 1 + (ds.length : Int) = i + ((ds.length + 1 : Nat) : Int) by omega], by omega⟩
theorem b6P {ds : List (List UInt8)} (h : okD ds) (c : DbT) : goD c ds 0 = ((goD c ds 0).1, (ds.length : Int)) := by
 have h2 := (b2r ds [] c 0 h).2
 exact Prod.ext rfl (by rw [h2]; dsimp only; omega)
theorem b9A {ds : List (List UInt8)} (h : okD ds) (c : DbT) (n : Int) : a1C (c, a0U 0 ds, n) = ((goD c ds 0).1, (ds.length : Int)) := by
 unfold a1C
 dsimp only
 rw [b6b ds (b7y h)]
 exact b6P h c
theorem b1H (ds : List (List UInt8)) : (a2B ds).length = ds.length + 1 := by unfold a2B; rw [List.length_map, List.length_range]
theorem b3Q (c : DbT) (ds : List (List UInt8)) : (a2i c ds).length = ds.length + 1 := by unfold a2i; rw [List.length_map, List.length_range]
theorem b8P {ds : List (List UInt8)} {m : Nat} (h : m ≤ ds.length) : (a2B ds).getD m default = ((a0U 0 (ds.take m)).length : Int) := by
 simp only [a2B, List.getD_eq_getElem?_getD, List.getElem?_map, List.getElem?_range (show m < ds.length + 1 by omega), Option.map_some, Option.getD_some]
theorem b5P {c : DbT} {ds : List (List UInt8)} {m : Nat} (h : m ≤ ds.length) : (a2i c ds).getD m default = (goD c (ds.take m) 0).1 := by
 simp only [a2i, List.getD_eq_getElem?_getD, List.getElem?_map, List.getElem?_range (show m < ds.length + 1 by omega), Option.map_some, Option.getD_some]
theorem b5p {c : DbT} {ds : List (List UInt8)} : (a2i c ds).getD (((a2i c ds).length : Int) - 1).toNat default = (goD c ds 0).1 := by
 rw [b3Q, show (((ds.length + 1 : Nat) : Int) - 1).toNat = ds.length by omega, b5P (Nat.le_refl _), List.take_length]
theorem c0O (ds : List (List UInt8)) (d : List UInt8) : a2B (ds ++ [d]) = a2B ds ++ [((a0U 0 (ds ++ [d])).length : Int)] := by
 unfold a2B
 rw [c9i, List.length_singleton, List.range_succ, List.map_append]
 congr 1
 ·refine List.map_congr_left (fun m hm => ?_)
  have := List.mem_range.1 hm
  rw [List.take_append_of_le_length (by omega)]
 ·rw [List.map_singleton, List.take_of_length_le (by rw [c9i, List.length_singleton]; exact Nat.le_refl _)]
theorem b5w (c : DbT) (ds : List (List UInt8)) (d : List UInt8) : a2i c (ds ++ [d]) = a2i c ds ++ [(goD c (ds ++ [d]) 0).1] := by
 unfold a2i
 rw [c9i, List.length_singleton, List.range_succ, List.map_append]
 congr 1
 ·refine List.map_congr_left (fun m hm => ?_)
  have := List.mem_range.1 hm
  rw [List.take_append_of_le_length (by omega)]
 ·rw [List.map_singleton, List.take_of_length_le (by rw [c9i, List.length_singleton]; exact Nat.le_refl _)]
theorem b9C {ds : List (List UInt8)} {m : Nat} : (a0U 0 (ds.take m)).length ≤ (a0U 0 ds).length := by
 have := congrArg List.length (b6K ds m)
 rw [c9j] at this; omega
theorem c5Z {ds : List (List UInt8)} {d : List UInt8} (hl : (a0U 0 ds).length ≤ 600 * ds.length) (hd : d.length ≤ 579) (h4 : ds.length ≤ 4) : a5Z (a0U 0 ds) (ds.length : Int) d = true ∧ a5v (a0U 0 ds) (ds.length : Int) d = a0U 0 (ds ++ [d]) ∧ (a0U 0 (ds ++ [d])).length ≤ 600 * (ds ++ [d]).length := by
 have e1 := c4L (a0U 0 ds) d ds.length (by omega)
 have e2 := b5a 0 ds d
 rw [Nat.zero_add] at e2
 have e3 : a6i (a0U 0 ds) (ds.length : Int) d = a0U 0 (ds ++ [d]) := by rw [e1, e2]
 have h5 := b8Q (a0U 0 ds) d
 have h6 := b3O (a5j (a0U 0 ds) d) (a2o (ds.length : Int) d)
 have h7 : a6i (a0U 0 ds) (ds.length : Int) d = a4R (a5j (a0U 0 ds) d) (a2o (ds.length : Int) d) := rfl
 rw [← h7, e3] at h6
 have hnb : ¬ a5b (a0U 0 ds) (ds.length : Int) d := by
  unfold a5b
  rw [e3]; omega
 refine ⟨by unfold a5Z; exact decide_eq_true hnb, by unfold a5v; rw [if_neg hnb, e3], ?_⟩
 rw [c9i, List.length_singleton]; omega
theorem c2c {c : DbT} {ds : List (List UInt8)} {l : List OpT} (h : okD ds) (hl : (a0U 0 ds).length ≤ 600 * ds.length) (h4 : ds.length ≤ 4) (h3 : l.length ≤ 3) :
  ((a1F (goD c ds 0).1 l).2.2 = false → a2v (a1T c ds) l = (a1T c ds, false)) ∧
  ((a1F (goD c ds 0).1 l).2.2 = true → a2v (a1T c ds) l = (a1T c (ds ++ [a1l l]), true) ∧ okD (ds ++ [a1l l]) ∧ (goD c (ds ++ [a1l l]) 0).1 = (a1F (goD c ds 0).1 l).1 ∧ (a0U 0 (ds ++ [a1l l])).length ≤ 600 * (ds ++ [a1l l]).length) := by
 have ho : a1C (a1T c ds) = ((goD c ds 0).1, (ds.length : Int)) := b9A h c _
 refine ⟨fun hk => c0b ?_, fun hk => ?_⟩
 ·unfold a6Z
  rw [ho]
  dsimp only
  rw [hk]; rfl
 ·have ha := c2R hk
  obtain ⟨e1, e2⟩ := c1e ha h3
  obtain ⟨g1, g2, g3⟩ := c5Z (d := a1l l) hl e1 h4
  have hd := b9s ha
  have hb : a6Z (a1T c ds) l = false := by
   unfold a6Z
   rw [ho]
   show (((!(a1F (goD c ds 0).1 l).2.2 || decide (((a1l l).length : Int) = 0)) || !a5Z (a0U 0 ds) (ds.length : Int) (a1l l)) || !decide ((ds.length : Int) = (ds.length : Int))) = false
   rw [hk, g1, decide_eq_false (show ¬ ((a1l l).length : Int) = 0 by omega), decide_eq_true (show (ds.length : Int) = (ds.length : Int) from rfl)]; rfl
  have hok := c6i h e1 (by rw [hd])
  refine ⟨?_, hok, ?_, g3⟩
  ·rw [c0g hb]
   dsimp only [a1T]
   rw [g2, c9i, List.length_singleton]
   rfl
  ·have hall : ∀ o ∈ l, a1s o = true := by
    simp only [a2f, Bool.and_eq_true, List.all_eq_true] at ha
    exact ha.1
   rw [(b2r ds [a1l l] c 0 h).1, goD, if_pos (by rw [hd]), goD, hd]
   dsimp only
   rw [c6B hall]
theorem b6Z {c : DbT} (hc : a1e c = true) : ∀ (ds : List (List UInt8)) (d : DbT) (i : Int), a1e d = true → a1e (goD d ds i).1 = true
 | [], d, _, h => h
 | e :: ds, d, i, h => by
  rw [goD]
  split
  ·refine b6Z hc ds _ _ ?_
   cases hk : (a1F d (a3s e).1).2.2 with
   | true => exact b9Q hk
   | false => rw [(c7y hk).1]; exact h
  ·exact h
theorem c2Z {ds : List (List UInt8)} {n : Nat} {c : Int} (hn : n ≤ ds.length) (h0 : 0 ≤ c) (h : (decide ((n : Int) + 1 < ((a2B ds).length : Int)) && decide ((a2B ds).getD ((n : Int) + 1).toNat default ≤ c)) = false) : n = ds.length ∨ (n < ds.length ∧ c.toNat < (a0U 0 (ds.take (n + 1))).length) := by
 by_cases e : n = ds.length
 ·exact .inl e
 ·right
  have hl := b1H ds
  rw [decide_eq_true (by omega : (n : Int) + 1 < ((a2B ds).length : Int)), Bool.true_and, decide_eq_false_iff_not, show ((n : Int) + 1).toNat = n + 1 by omega, b8P (by omega)] at h
  exact ⟨by omega, by omega⟩
theorem c6b {ds : List (List UInt8)} {n : Nat} {c : Int} (hd : okD ds) (hn : n ≤ ds.length) (h0 : 0 ≤ c) (hc : ((a0U 0 (ds.take n)).length : Int) ≤ c) (h : n = ds.length ∨ (n < ds.length ∧ c.toNat < (a0U 0 (ds.take (n + 1))).length)) :
  rl (a4j (a0U 0 ds) c []) = (ds.take n, (a0U 0 (ds.take n)).length) ∧ (a4j (a0U 0 ds) c []).take (a0U 0 (ds.take n)).length = a0U 0 (ds.take n) := by
 have e : a4j (a0U 0 ds) c [] = (a0U 0 ds).take (min c.toNat (a0U 0 ds).length) := by
  unfold a4j
  rw [List.append_nil]
  congr 1
  omega
 have hle := b9C (ds := ds) (m := n)
 rw [e]
 refine ⟨c3a ds n _ (b7y hd) hn (by omega) ?_, ?_⟩
 ·rcases h with h | ⟨h1, h2⟩
  ·exact .inl ⟨h, Nat.min_le_right _ _⟩
  ·exact .inr ⟨h1, by omega⟩
 ·rw [List.take_take, Nat.min_eq_left (by omega), b6K]
theorem c1t {c : DbT} {ds : List (List UInt8)} {n : Nat} {k : Int} (hd : okD ds) (hn : n ≤ ds.length) (h0 : 0 ≤ k) (hc : ((a0U 0 (ds.take n)).length : Int) ≤ k) (h : n = ds.length ∨ (n < ds.length ∧ k.toNat < (a0U 0 (ds.take (n + 1))).length)) :
  a1C (a3G (a1T c ds) k []) = ((goD c (ds.take n) 0).1, (n : Int)) ∧ a3C (a3G (a1T c ds) k []) = a1T c (ds.take n) ∧ a1C (a1T c (ds.take n)) = ((goD c (ds.take n) 0).1, (n : Int)) := by
 obtain ⟨h1, h2⟩ := c6b hd hn h0 hc h
 have hln : (ds.take n).length = n := by rw [c9j]; omega
 have hok := c6I hd n
 have hg := b6P hok c
 rw [hln] at hg
 refine ⟨?_, ?_, ?_⟩
 ·unfold a1C a3G
  dsimp only [a1T]
  rw [h1]; exact hg
 ·unfold a3C a3G
  dsimp only [a1T]
  rw [h1]
  dsimp only
  rw [h2]
 ·have := b9A hok c (((ds.take n).length : Nat) : Int)
  rw [hln] at this
  unfold a1T
  rw [hln]; exact this
theorem c5f (x : DbT) : a1C (x, [], 0) = (x, 0) := rfl
def opJ (l : List (List OpT)) (i : Nat) : List OpT := l.getD (i : Int).toNat default
def a7I (c : DbT) (ds : List (List UInt8)) : DbT := (a2i c ds).getD (((a2i c ds).length : Int) - 1).toNat default
def crJ (c : DbT) (ds : List (List UInt8)) (k : Int) : a2W := a3G (a1T c ds) k []
def rsJ (c : DbT) (ds : List (List UInt8)) (k : Int) : a2W := a3C (crJ c ds k)
def ppJ (c : DbT) (ds : List (List UInt8)) (k : Int) : a2W := ((a1C (rsJ c ds k)).1, [], 0)
theorem c8C {c : DbT} {ds : List (List UInt8)} {n : Nat} {k : Int} (hb : a1e c = true) (hd : okD ds) (hl : (a0U 0 ds).length ≤ 600 * ds.length) (h4 : ds.length ≤ 4) (hn : n ≤ ds.length) (h0 : 0 ≤ k) (hc : ((a0U 0 (ds.take n)).length : Int) ≤ k) (h : n = ds.length ∨ (n < ds.length ∧ k.toNat < (a0U 0 (ds.take (n + 1))).length)) :
  (a2Y (a1T c ds) ≤ 100000 ∧ a2Y (crJ c ds k) ≤ 100000 ∧ a2Y (rsJ c ds k) ≤ 100000 ∧ a2Y (ppJ c ds k) ≤ 100000 ∧ a1h (a1C (crJ c ds k)).1 ≤ 100000) ∧
  (a1C (crJ c ds k)).2 = (n : Int) ∧ a5B (a1C (crJ c ds k)).1 ((a2i c ds).getD (n : Int).toNat default) = true ∧ (a3C (crJ c ds k)).2.2 = (n : Int) ∧ a5B (a1C (rsJ c ds k)).1 (a1C (crJ c ds k)).1 = true ∧ a5B (a1C (ppJ c ds k)).1 (a1C (crJ c ds k)).1 = true ∧ (sizeD (ppJ c ds k).1 : Int) + ((ppJ c ds k).2.1.length : Int) = (sizeD (a1C (crJ c ds k)).1 : Int) := by
 obtain ⟨q1, q2, q3⟩ := c1t (c := c) hd hn h0 hc h
 have q1 : a1C (crJ c ds k) = ((goD c (ds.take n) 0).1, (n : Int)) := q1
 have q2 : rsJ c ds k = a1T c (ds.take n) := q2
 have q4 : a1C (rsJ c ds k) = ((goD c (ds.take n) 0).1, (n : Int)) := by rw [q2]; exact q3
 have q5 : a1C (ppJ c ds k) = ((a1C (rsJ c ds k)).1, 0) := c5f _
 have hdn : a1e (goD c (ds.take n) 0).1 = true := b6Z hb _ _ _ hb
 have hdnw := a8L hdn
 have hdw := a8L hb
 have hle := b9C (ds := ds) (m := n)
 have hcw := c5H (a0U 0 ds) k []
 have e0 : ([] : List UInt8).length = 0 := rfl
 have hk0 : a2Y (a1T c ds) = a1h c + (a0U 0 ds).length := rfl
 have hk1 : a2Y (crJ c ds k) = a1h c + (a4j (a0U 0 ds) k []).length := rfl
 have hk2 : a2Y (a1T c (ds.take n)) = a1h c + (a0U 0 (ds.take n)).length := rfl
 have hk3 : a2Y (ppJ c ds k) = a1h (a1C (rsJ c ds k)).1 + 0 := rfl
 refine ⟨⟨by omega, by omega, by rw [q2]; omega, by rw [hk3, q4]; dsimp only; omega, by rw [q1]; dsimp only; omega⟩, by rw [q1], by rw [q1, Int.toNat_natCast, b5P hn]; exact b3x _, ?_, by rw [q4, q1]; exact b3x _, by rw [q5, q4, q1]; exact b3x _, ?_⟩
 ·rw [show a3C (crJ c ds k) = a1T c (ds.take n) from q2]
  show (((ds.take n).length : Nat) : Int) = _
  rw [c9j]; omega
 ·show (sizeD (a1C (rsJ c ds k)).1 : Int) + (([] : List UInt8).length : Int) = _
  rw [q4, q1]; simp
theorem c3s {c : DbT} {ds : List (List UInt8)} {l : List OpT} (h : okD ds) (hl : (a0U 0 ds).length ≤ 600 * ds.length) (h4 : ds.length ≤ 4) (h3 : l.length ≤ 3) :
  ((a1F (a7I c ds) l).2.2 = false ∧ a2v (a1T c ds) l = (a1T c ds, false)) ∨ ((a1F (a7I c ds) l).2.2 = true ∧ a2v (a1T c ds) l = (a1T c (ds ++ [a1l l]), true) ∧ okD (ds ++ [a1l l]) ∧ (goD c (ds ++ [a1l l]) 0).1 = (a1F (a7I c ds) l).1 ∧ (a0U 0 (ds ++ [a1l l])).length ≤ 600 * (ds ++ [a1l l]).length) := by
 have e : a7I c ds = (goD c ds 0).1 := b5p
 rw [e]
 have hcs := c2c (c := c) h hl h4 h3
 cases hk : (a1F (goD c ds 0).1 l).2.2 with
 | false => exact .inl ⟨rfl, hcs.1 hk⟩
 | true => exact .inr ⟨rfl, hcs.2 hk⟩
theorem c7P {x : a2W} {l : List OpT} (hb : a2Y x ≤ 1048576) (h0 : 0 ≤ x.2.2) (h1 : x.2.2 ≤ 1048576) : KFn Tryz.prog 6 [.agg [(.dv [] (.str (x.1.1))), (.dv [] (.int .i64 (x.1.2.1))), (.dv [] (a0x (x.1.2.2.1))), (.dv [] (a0z (x.1.2.2.2))), (.dv [] (a0m (x.2.1))), (.dv [] (.int .i64 (x.2.2)))], .one (.dv [] (a2a (l)))] (.tup [(true, [(.dv [] (.str ((a2v x l).1.1.1))), (.dv [] (.int .i64 ((a2v x l).1.1.2.1))), (.key 90031), (.key 90900), (.key 94000), (.dv [] (.int .i64 ((a2v x l).1.2.2)))]), (false, [(.dv [] (.bool ((a2v x l).2)))])]) [(90031, some (a0b false (a0x ((a2v x l).1.1.2.2.1)))), (90900, some (a0b false (a0z ((a2v x l).1.1.2.2.2)))), (94000, some (a0b false (a0m ((a2v x l).1.2.1))))] := by
 refine ⟨a0O Tryz.func6 rfl Tryz.ntmps6 Tryz.results6 rfl (fun C => ?_)⟩
 have hwk : a2Y x = a1h x.1 + x.2.1.length := rfl
 have hgw : a1h (a1C x).1 ≤ a1h x.1 ∨ a1h (a1C x).1 ≤ 5000000 := b5y _ _ _
 have hel := c1g l
 refine yF 0 0 rfl rfl fun f0_0 => ?_
 refine yF 0 1 rfl rfl fun f0_1 => ?_
 refine yF 0 2 rfl rfl fun f0_2 => ?_
 refine yF 0 3 rfl rfl fun f0_3 => ?_
 refine yF 0 4 rfl rfl fun f0_4 => ?_
 refine yF 0 5 rfl rfl fun f0_5 => ?_
 refine a1k (x := .tmp 1) (a0a rfl) fun f1 => ?_
 iterate 7 refine z ?_
 refine zK 85000 Tryz.call19 ?_ (hf := b3p (x := x) (by omega))
 iterate 5 refine z ?_
 refine zK 101000 Tryz.call9 ?_ (hf := a9i (x := x) (by omega))
 iterate 10 refine z ?_
 refine a2H 202000 rfl rfl rfl Tryz.call20 (b9t (d := (a1C x).1) (l := l) (by omega)) (a0g (a0a rfl) (a0t (a0d a0c (a0d a0c (a0d (a0X rfl rfl) (a0d (a0X rfl rfl) a0r))))) (a0g (a0a rfl) (a0C a0c) a0q)) rfl rfl rfl ?_
 iterate 11 refine z ?_
 refine zK 30000 Tryz.call21 ?_ (hf := b9M (l := l))
 iterate 8 refine z ?_
 refine a2H 94000 rfl rfl rfl Tryz.call22 (c8D (b := x.2.1) (ds := a1l l) (v := x.2.2) (by omega) (by omega) (by omega) (by omega)) (a0g (a0a rfl) (a0C a0c) (a0g (a0a rfl) (a0C a0c) (a0g (a0a rfl) (a0C (a0X rfl rfl)) a0q))) rfl rfl rfl ?_
 iterate 12 refine z ?_
 refine b0M (a1t rfl rfl rfl rfl rfl) rfl (fun hg => a2I (n := ((a1l (l))).length) hT rfl rfl (a0y rfl hg) rfl rfl) rfl rfl ?_
 iterate 13 refine z ?_
 refine yQ rfl (fun c1 => ?_) fun c1 => ?_
 ·refine a0u ?_
  refine a0h (a2N (b := 6) (i := 4) (k := 93003) (k' := 94000) rfl rfl rfl rfl (by simp) rfl rfl) ?_
  simp only [a0p, a0k, SV.kill, CV.kill, kk, Nat.reduceBEq]
  refine a0n ?_
  iterate 4 refine z ?_
  rw [c0b (show a6Z x l = true from c1)]
  refine a0h (σ' := ⟨[(4, .box 4 0), (5, .one (.dv [] (.bool (false))))], [(4, 29, [(.dv [] (.str ((x).1.1))), (.dv [] (.int .i64 ((x).1.2.1))), (.key 90031), (.key 90900), (.key 94000), (.dv [] (.int .i64 ((x).2.2)))])], [(90031, some (a0b false (a0x (x.1.2.2.1)))), (90900, some (a0b false (a0z (x.1.2.2.2)))), (94000, some (a0b false (a0m (x.2.1))))]⟩) (a0e ⟨rfl, rfl, trivial⟩ ⟨rfl, trivial⟩ ⟨rfl, rfl, rfl, trivial⟩ rfl) ?_
  iterate 2 refine z ?_
  refine a1u (a0E hT rfl rfl rfl rfl) (a0l rfl) rfl rfl ?_
  first | exact ⟨rfl, rfl⟩ | skip
 ·iterate 19 refine z ?_
  rw [c0g (show a6Z x l = false from c1)]
  refine a0h (σ' := ⟨[(4, .box 4 0), (5, .one (.dv [] (.bool (true))))], [(4, 29, [(.dv [] (.str ((x).1.1))), (.dv [] (.int .i64 ((x).1.2.1))), (.key 90031), (.key 90900), (.key 94000), (.dv [] (.int .i64 (((x).2.2) + (1))))])], [(90031, some (a0b false (a0x (x.1.2.2.1)))), (90900, some (a0b false (a0z (x.1.2.2.2)))), (94000, some (a0b false (a0m (a5v x.2.1 x.2.2 (a1l l)))))]⟩) (a0e ⟨rfl, rfl, trivial⟩ ⟨rfl, trivial⟩ ⟨rfl, rfl, rfl, trivial⟩ rfl) ?_
  refine z ?_
  refine a1u (a0E hT rfl rfl rfl rfl) (a0l rfl) rfl rfl ?_
  first | exact ⟨rfl, rfl⟩ | skip
theorem c0i {x : a2W} (hb : a2Y x ≤ 1048576) : KFn Tryz.prog 11 [.agg [(.dv [] (.str (x.1.1))), (.dv [] (.int .i64 (x.1.2.1))), (.dv [] (a0x (x.1.2.2.1))), (.dv [] (a0z (x.1.2.2.2))), (.dv [] (a0m (x.2.1))), (.dv [] (.int .i64 (x.2.2)))]] (.agg [(.dv [] (.str ((a1C x).1.1))), (.dv [] (.int .i64 ((a1C x).1.2.1))), (.key 90031), (.key 90900), (.key 94000), (.dv [] (.int .i64 (0)))]) [(90031, some (a0b false (a0x ((a1C x).1.2.2.1)))), (90900, some (a0b false (a0z ((a1C x).1.2.2.2)))), (94000, some (a0b false (a0m ([]))))] := by
 refine ⟨a0O Tryz.func11 rfl Tryz.ntmps11 Tryz.results11 rfl (fun C => ?_)⟩
 refine yF 0 0 rfl rfl fun f0_0 => ?_
 refine yF 0 1 rfl rfl fun f0_1 => ?_
 refine yF 0 2 rfl rfl fun f0_2 => ?_
 refine yF 0 3 rfl rfl fun f0_3 => ?_
 refine yF 0 4 rfl rfl fun f0_4 => ?_
 refine yF 0 5 rfl rfl fun f0_5 => ?_
 iterate 6 refine z ?_
 refine zK 0 Tryz.call9 ?_ (hf := a9i (x := x) (by omega))
 iterate 9 refine z ?_
 refine yO rfl rfl (a1v hT hB rfl rfl rfl (a1c (a0a rfl) rfl rfl rfl rfl rfl a1w)) rfl ?_
 iterate 2 refine z ?_
 refine a0h (a3p 94000 (b := 2) (i := 4) (e := 5) (sz := 1) rfl rfl rfl rfl rfl) ?_
 refine a0h (σ' := ⟨[(2, .box 2 0)], [(2, 29, [(.dv [] (.str ((a1C (x)).1.1))), (.dv [] (.int .i64 ((a1C (x)).1.2.1))), (.key 90031), (.key 90900), (.key 94000), (.dv [] (.int .i64 (0)))])], [(90031, some (a0b false (a0x ((a1C x).1.2.2.1)))), (90900, some (a0b false (a0z ((a1C x).1.2.2.2)))), (94000, some (a0b false (a0m ([]))))]⟩) (a0e ⟨rfl, trivial⟩ ⟨rfl, trivial⟩ ⟨rfl, rfl, rfl, trivial⟩ rfl) ?_
 refine z ?_
 refine a1r (a0E hT rfl rfl rfl rfl) ?_
 first | exact ⟨rfl, rfl⟩ | skip
theorem c9b {code : List UInt8} (hc : code.length ≤ 1048576) : EFn Tryz.prog 5 [.one (.dv [] (a0m (code)))] (fun zz : DbT × List (List OpT) × Int => a1e zz.1 = true ∧ zz.2.1.length ≤ 4 ∧ (∀ z ∈ zz.2.1, z.length ≤ 3) ∧ 0 ≤ zz.2.2) (fun zz : DbT × List (List OpT) × Int => .tup [(true, [(.dv [] (.str (zz.1.1))), (.dv [] (.int .i64 (zz.1.2.1))), (.key 90031), (.key 90900), (.key 90040), (.dv [] (.int .i64 (0)))]), (false, [(.key 95000)]), (false, [(.dv [] (.int .i64 (zz.2.2)))])]) (fun zz : DbT × List (List OpT) × Int => [(90031, some (a0b false (a0x (zz.1.2.2.1)))), (90900, some (a0b false (a0z (zz.1.2.2.2)))), (90040, some (a0b false (a0m ([])))), (95000, some (a0b false (a6m (zz.2.1))))]) := by
 refine ⟨a0O Tryz.func5 rfl Tryz.ntmps5 Tryz.results5 rfl (fun C => ?_)⟩
 refine a1k (x := .tmp 0) (a0a rfl) fun f0 => ?_
 iterate 7 refine z ?_
 refine c5e rfl rfl rfl Tryz.call15 (c4W (code := code) (by omega)) (a0a rfl) a0c rfl (fun _ => rfl) rfl rfl (fun zz hz10 => ?_)
 obtain ⟨i10, h10⟩ := zz
 replace hz10 : 0 ≤ i10 := hz10
 iterate 4 refine z ?_
 refine a2c 0 rfl rfl rfl Tryz.call16 (c2k (code := code) (i := i10) (h := h10) (by omega) (by omega)) (a0a rfl) rfl a0c rfl (fun _ => rfl) a1J rfl (fun _ => rfl) (fun _ => rfl) (fun zz hz12 => ?_)
 obtain ⟨e12, i12, h12⟩ := zz
 replace hz12 : a1e e12 = true ∧ 0 ≤ i12 := hz12
 refine yO rfl rfl (a1v hT hB rfl rfl rfl (a1c (a0a rfl) rfl rfl rfl rfl rfl a1w)) rfl ?_
 iterate 3 refine z ?_
 refine a0u ?_
 refine a0h (a3p 90040 (b := 6) (i := 4) (e := 5) (sz := 1) rfl rfl rfl rfl rfl) ?_
 simp only [a0p, a0k, SV.kill, CV.kill, kk, Nat.reduceBEq]
 refine a0n ?_
 refine a2J (k := 95000) hT rfl rfl rfl rfl rfl rfl rfl rfl ?_
 iterate 5 refine z ?_
 refine a2c 16000 rfl rfl rfl Tryz.call17 (a4O (code := code) (i := i12) (h := h12) (n := 5) (by omega) (by omega) ) (a0a rfl) rfl a0c rfl (fun _ => rfl) (a2E (a0i (a0j rfl)) (a0C a0c) rfl a1J) rfl (fun _ => rfl) (fun _ => rfl) (fun zz hz16 => ?_)
 obtain ⟨e16, i16, h16⟩ := zz
 replace hz16 : 0 ≤ e16 ∧ (0 < (5 : Int) → e16 < (5 : Int)) ∧ 0 ≤ i16 := hz16
 iterate 3 refine z ?_
 refine a1o (ι := Int × List (List OpT) × Int × Int) (fun zz => ⟨[(2, .box 2 0), (3, .one .nil), (4, .one (.dv [] (.int .i64 (0)))), (5, .box 10 0), (6, .box 6 0), (7, .one (.key 95000)), (8, .one (.dv [] (.int .i64 (zz.1))))], [(2, 29, [(.dv [] (.str (ByteArray.empty))), (.dv [] (.int .i64 (0))), .nil, .nil, .nil, (.dv [] (.int .i64 (0)))]), (6, 29, [(.dv [] (.str (e12.1))), (.dv [] (.int .i64 (e12.2.1))), (.key 90031), (.key 90900), (.key 90040), (.dv [] (.int .i64 (0)))]), (10, 82, [(.dv [] (a0m (code))), (.dv [] (.int .i64 (zz.2.2.1))), (.dv [] (.int .i64 (zz.2.2.2)))])], [(95000, some (a0b false (.sl 37 1 (zz.2.1.length) (zz.2.1.flatMap fun x => [a2a x])))), (90031, some (a0b false (a0x (e12.2.2.1)))), (90040, some (a0b false (.sl 5 1 (0) ([])))), (90900, some (a0b false (a0z (e12.2.2.2))))]⟩) (fun zz => (zz.2.1.length : Int) + zz.1 ≤ 4 ∧ (∀ z ∈ zz.2.1, z.length ≤ 3) ∧ 0 ≤ zz.2.2.1 ∧ 0 ≤ zz.1) (fun zz => zz.1.toNat) ((e16, [], i16, h16)) ?_ (a0e ⟨rfl, rfl, rfl, rfl, rfl, rfl, rfl, trivial⟩ ⟨rfl, rfl, rfl, trivial⟩ ⟨rfl, rfl, rfl, rfl, trivial⟩ rfl) (fun zz hx => ?_)
 ·exact ⟨by have := hz16.2.1 (by omega); dsimp only; simp; omega, fun z hz => (by cases hz), by dsimp only; omega, by dsimp only; omega⟩
 obtain ⟨n, l, ci, ch⟩ := zz
 replace hx : (l.length : Int) + n ≤ 4 ∧ (∀ z ∈ l, z.length ≤ 3) ∧ 0 ≤ ci ∧ 0 ≤ n := hx
 obtain ⟨hl, hl3, hci, hn0⟩ := hx
 show Ok _ _ _ _ _ (⟨[(2, .box 2 0), (3, .one .nil), (4, .one (.dv [] (.int .i64 (0)))), (5, .box 10 0), (6, .box 6 0), (7, .one (.key 95000)), (8, .one (.dv [] (.int .i64 (n))))], [(2, 29, [(.dv [] (.str (ByteArray.empty))), (.dv [] (.int .i64 (0))), .nil, .nil, .nil, (.dv [] (.int .i64 (0)))]), (6, 29, [(.dv [] (.str (e12.1))), (.dv [] (.int .i64 (e12.2.1))), (.key 90031), (.key 90900), (.key 90040), (.dv [] (.int .i64 (0)))]), (10, 82, [(.dv [] (a0m (code))), (.dv [] (.int .i64 (ci))), (.dv [] (.int .i64 (ch)))])], [(95000, some (a0b false (.sl 37 1 (l.length) (l.flatMap fun x => [a2a x])))), (90031, some (a0b false (a0x (e12.2.2.1)))), (90040, some (a0b false (.sl 5 1 (0) ([])))), (90900, some (a0b false (a0z (e12.2.2.2))))]⟩ : St)
 iterate 5 refine z ?_
 refine yQ rfl (fun c1 => ?_) fun c1 => ?_
 ·have d1 := c9f c1
  iterate 4 refine z ?_
  refine a0n ?_
  iterate 2 refine z ?_
  refine a2c 88000 rfl rfl rfl Tryz.call18 (c4N (code := code) (i := ci) (h := ch) (m := 3) (by omega) (by omega) (by omega)) (a0a rfl) rfl a0c rfl (fun _ => rfl) (a2E (a0i (a0j rfl)) (a0C a0c) rfl a1J) rfl (fun _ => rfl) (fun _ => rfl) (fun zz hz23 => ?_)
  obtain ⟨e23, i23, h23⟩ := zz
  replace hz23 : b1u e23 ∧ (e23.length : Int) ≤ (3 : Int) ∧ 0 ≤ i23 := hz23
  refine a3H (k := 24) (js := [97001]) hT rfl rfl rfl rfl rfl rfl rfl rfl rfl (a0a rfl) rfl rfl (a0o (a1f rfl) a1y rfl) (by decide) (by decide) rfl rfl ?_
  simp only [a0p, a0k, SV.kill, CV.kill, kk, Nat.reduceBEq]
  refine a3f (k := 95000) (j := 24) (cs := (l ++ [e23]).flatMap fun x => [a2a x]) (n := (l ++ [e23]).length) hT rfl rfl rfl rfl rfl rfl rfl (a0a rfl) rfl rfl rfl (a0a rfl) rfl rfl (by decide) (by dsimp only [a0b, KC.old]; omega) (by dsimp only [a0b, KC.old]; omega) (by rw [c9i]; rfl) (by rw [List.flatMap_append]; rfl) ?_
  simp only [a0p, a0k, SV.kill, CV.kill, kk, Nat.reduceBEq]
  refine z ?_
  refine a1H ?_
  iterate 2 refine z ?_
  refine a0n ?_
  iterate 4 refine z ?_
  refine ⟨(n - 1, l ++ [e23], i23, h23), ?_, ?_, a0e ⟨rfl, rfl, rfl, rfl, rfl, rfl, rfl, trivial⟩ ⟨rfl, rfl, rfl, trivial⟩ ⟨rfl, rfl, rfl, rfl, trivial⟩ rfl⟩
  ·refine ⟨by dsimp only; rw [c9i, List.length_singleton]; omega, fun z hz => ?_, by dsimp only; omega, by dsimp only; omega⟩
   rcases List.mem_append.1 hz with hz | hz
   ·exact hl3 z hz
   ·rw [List.mem_singleton] at hz; rw [hz]; omega
  ·dsimp only; omega
 ·have d1 := c9g c1
  iterate 5 refine z ?_
  refine a0u ?_
  refine a6G [10, 2] [0, 1, 2, 3, 4, 5, 6] (oB := [6]) (oK := [90031, 90040, 90900, 95000]) (by kernel_rfl) rfl rfl ?_
  refine a2q 0 rfl (by kernel_rfl) rfl rfl (a4I hT rfl rfl (a0a rfl) rfl rfl) rfl rfl rfl rfl rfl ?_
  refine a2q 1 rfl (by kernel_rfl) rfl rfl (a0M (.inl rfl) (a0a rfl)) rfl rfl rfl rfl rfl ?_
  refine a2q 2 rfl (by kernel_rfl) rfl rfl (a0M (.inl rfl) (a0a rfl)) rfl rfl rfl rfl rfl ?_
  refine a2U 3 [] (by kernel_rfl) ⟨?_, trivial⟩
  refine a4C 29000 3 rfl rfl rfl rfl rfl Tryz.call17 (a4O (code := code) (i := ci) (h := ch) (n := 200) (by omega) (by omega) ) (a0a rfl) rfl a0c rfl (fun _ => rfl) (a2E (a0i (a0j rfl)) (a0C a0c) rfl a1J) rfl (fun _ => rfl) (fun _ => rfl) rfl (fun zz hz29 => ?_)
  obtain ⟨e29, i29, h29⟩ := zz
  replace hz29 : 0 ≤ e29 ∧ (0 < (200 : Int) → e29 < (200 : Int)) ∧ 0 ≤ i29 := hz29
  refine a2U 4 [] (by kernel_rfl) ⟨?_, trivial⟩
  refine c6o 2 4 rfl rfl rfl hT rfl rfl rfl (a0a rfl) (a0a rfl) rfl rfl rfl rfl rfl rfl ?_
  refine a2U 5 [] (by kernel_rfl) ⟨?_, trivial⟩
  refine b7v 5 rfl rfl rfl (a0M (.inr rfl) (a0a rfl)) rfl rfl rfl rfl rfl ?_
  refine a2U 6 [] (by kernel_rfl) ⟨?_, trivial⟩
  refine b7v 6 rfl rfl rfl (a0M (.inr rfl) (a0a rfl)) rfl rfl rfl rfl rfl ?_
  refine c2F (by kernel_rfl) ?_
  refine z ?_
  refine a0h (σ' := ⟨[(2, .box 2 0), (3, .one (.key 95000)), (4, .one (.dv [] (.int .i64 (e29))))], [(2, 29, [(.dv [] (.str (e12.1))), (.dv [] (.int .i64 (e12.2.1))), (.key 90031), (.key 90900), (.key 90040), (.dv [] (.int .i64 (0)))])], [(90031, some (a0b false (a0x (e12.2.2.1)))), (90900, some (a0b false (a0z (e12.2.2.2)))), (90040, some (a0b false (.sl 5 1 (0) ([])))), (95000, some (a0b false (.sl 37 1 (l.length) (l.flatMap fun x => [a2a x]))))]⟩) (a0e ⟨rfl, rfl, rfl, trivial⟩ ⟨rfl, trivial⟩ ⟨rfl, rfl, rfl, rfl, trivial⟩ rfl) ?_
  refine z ?_
  refine a1U (a0E hT rfl rfl rfl rfl) (a0l rfl) (a0l rfl) rfl rfl rfl ⟨(e12, l, e29), ?_, rfl, rfl⟩
  try dsimp only
  exact ⟨hz12.1, by omega, hl3, by omega⟩
theorem c1x {x0 : List UInt8}  : PFn Tryz.prog 3 [.one (.dv [] (a0m (x0)))] (.one (.dv [] (.bool (true)))) := by
 refine ⟨a0O Tryz.func3 rfl Tryz.ntmps3 Tryz.results3 rfl (fun C => ?_)⟩
 refine a1k (x := .tmp 0) (a0a rfl) fun f0 => ?_
 iterate 6 refine z ?_
 refine zC Tryz.call4 ?_ (hf := c1j (code := x0) )
 refine z ?_
 refine yQ rfl (fun c1 => ?_) fun c1 => ?_
 ·have d1 := c9f c1
  iterate 6 refine z ?_
  rfl
 ·have d1 := c9g c1
  iterate 4 refine z ?_
  refine c5i 0 rfl rfl rfl Tryz.call5 (c9b (code := x0) (by omega)) (a0g (a0a rfl) (a0C a0c) a0q) rfl (fun _ => rfl) (fun _ => rfl) (fun zz hz30 => ?_)
  obtain ⟨e30_0, e30_1, e30_2⟩ := zz
  replace hz30 : a1e e30_0 = true ∧ e30_1.length ≤ 4 ∧ (∀ z ∈ e30_1, z.length ≤ 3) ∧ 0 ≤ e30_2 := hz30
  obtain ⟨hd, hL4, hl3, h0⟩ := hz30
  iterate 12 refine z ?_
  refine c6F (k := 36) (js := [90031, 90900]) hT 3 2 3 rfl rfl rfl rfl rfl rfl rfl rfl rfl (a0a rfl) rfl rfl (a0o (a0R rfl) (a0o (a0R rfl) (a0o (a1f rfl) (a0o (a1f rfl) a1y rfl) rfl) rfl) rfl) (by decide) (by decide) rfl rfl rfl rfl rfl rfl rfl rfl rfl rfl ?_
  simp only [a0p, a0k, SV.kill, CV.kill, kk, Nat.reduceBEq]
  iterate 3 refine z ?_
  refine a3H (k := 37) (js := []) hT rfl rfl rfl rfl rfl rfl rfl rfl rfl (a0i (a0j rfl)) rfl rfl (a0o (a0R rfl) a1y rfl) (by decide) (by decide) rfl rfl ?_
  simp only [a0p, a0k, SV.kill, CV.kill, kk, Nat.reduceBEq]
  iterate 7 refine z ?_
  refine a0h (a9r (k := 98031) (e := 77) (sz := 3) rfl rfl) ?_
  refine a0h (b7B (b := 3) (i := 2) [36, 98031] rfl rfl rfl rfl) ?_
  refine a0h (a9r (k := 98900) (e := 79) (sz := 2) rfl rfl) ?_
  refine a0h (b7B (b := 3) (i := 3) [36, 98900] rfl rfl rfl rfl) ?_
  refine a0h (a9r (k := 98940) (e := 5) (sz := 1) rfl rfl) ?_
  refine a0h (a7g (b := 3) (i := 4) (k := 90040) [90040, 98940] rfl rfl rfl rfl rfl) ?_
  refine a1o (ι := Nat × List (List UInt8) × List a0G × List a3Q × List UInt8) (fun zz => ⟨[(3, .box 3 0), (4, .one (.key 95000)), (5, .one (.dv [] (.int .i64 (e30_2)))), (6, .one (.key 36)), (7, .one (.key 37)), (8, .one (.dv [] (.int .i64 ((zz.1 : Int)))))], [(3, 29, [(.dv [] (.str (e30_0.1))), (.dv [] (.int .i64 (e30_0.2.1))), (.dv [36, 98031] (a0x (e30_0.2.2.1))), (.dv [36, 98900] (a0z (e30_0.2.2.2))), (.dv [90040, 98940] (a0m (a0U 0 zz.2.1))), (.dv [] (.int .i64 ((zz.2.1.length : Int))))])], [(36, some (a0b false (.sl 27 4 ((a2i e30_0 zz.2.1).length) ((a2i e30_0 zz.2.1).flatMap eDb)))), (37, some (a0b false (.sl 3 1 ((a2B zz.2.1).length) ((a2B zz.2.1).flatMap a3X)))), (98031, some (a0b false (.sl 77 3 (zz.2.2.1.length) (zz.2.2.1.flatMap a1L)))), (98900, some (a0b false (.sl 79 2 (zz.2.2.2.1.length) (zz.2.2.2.1.flatMap a2z)))), (98940, some (a0b false (.sl 5 1 (zz.2.2.2.2.length) (zz.2.2.2.2.flatMap a1x)))), (90040, some (a0b false (a0m ([])))), (95000, some (a0b false (a6m (e30_1))))]⟩) (fun zz => zz.1 ≤ e30_1.length ∧ zz.2.1.length ≤ zz.1 ∧ okD zz.2.1 ∧ a1e (goD e30_0 zz.2.1 0).1 = true ∧ (a0U 0 zz.2.1).length ≤ 600 * zz.2.1.length) (fun zz => e30_1.length - zz.1) ((0, [], [], [], [])) ?_ (a0e ⟨rfl, rfl, rfl, rfl, rfl, rfl, trivial⟩ ⟨rfl, trivial⟩ ⟨rfl, rfl, rfl, rfl, rfl, rfl, rfl, trivial⟩ rfl) (fun zz hx => ?_)
  ·exact ⟨Nat.zero_le _, Nat.le_refl _, fun z hz => (by cases hz), hd, Nat.le_refl _⟩
  obtain ⟨i, ds, zs, zd, zb⟩ := zz
  replace hx : i ≤ e30_1.length ∧ ds.length ≤ i ∧ okD ds ∧ a1e (goD e30_0 ds 0).1 = true ∧ (a0U 0 ds).length ≤ 600 * ds.length := hx
  obtain ⟨hi, hdi, hok, hdb, hlen⟩ := hx
  show Ok _ _ _ _ _ (⟨[(3, .box 3 0), (4, .one (.key 95000)), (5, .one (.dv [] (.int .i64 (e30_2)))), (6, .one (.key 36)), (7, .one (.key 37)), (8, .one (.dv [] (.int .i64 ((i : Int)))))], [(3, 29, [(.dv [] (.str (e30_0.1))), (.dv [] (.int .i64 (e30_0.2.1))), (.dv [36, 98031] (a0x (e30_0.2.2.1))), (.dv [36, 98900] (a0z (e30_0.2.2.2))), (.dv [90040, 98940] (a0m (a0U 0 ds))), (.dv [] (.int .i64 ((ds.length : Int))))])], [(36, some (a0b false (.sl 27 4 ((a2i e30_0 ds).length) ((a2i e30_0 ds).flatMap eDb)))), (37, some (a0b false (.sl 3 1 ((a2B ds).length) ((a2B ds).flatMap a3X)))), (98031, some (a0b false (.sl 77 3 (zs.length) (zs.flatMap a1L)))), (98900, some (a0b false (.sl 79 2 (zd.length) (zd.flatMap a2z)))), (98940, some (a0b false (.sl 5 1 (zb.length) (zb.flatMap a1x)))), (90040, some (a0b false (a0m ([])))), (95000, some (a0b false (a6m (e30_1))))]⟩ : St)
  iterate 4 refine z ?_
  refine yO rfl rfl (a2I (n := ((e30_1)).length) hT rfl rfl (a0a rfl) rfl rfl) rfl ?_
  iterate 2 refine z ?_
  refine yQ rfl (fun c2 => ?_) fun c2 => ?_
  ·have d2 := c9f c2
   have hi2 : i < e30_1.length := by omega
   have hX3 : (opJ e30_1 i).length ≤ 3 := hl3 _ (by unfold opJ; rw [a3N hi2]; exact List.getElem_mem hi2)
   have hlast : (a7I e30_0 ds) = (goD e30_0 ds 0).1 := b5p
   have hcase := c3s (c := e30_0) (l := (opJ e30_1 i)) hok hlen (by omega) hX3
   have hsl := b3Q e30_0 ds
   have hel := b1H ds
   have hgw := a8L hdb
   have hdw := a8L hd
   have hk0 : a2Y (a1T e30_0 ds) = a1h e30_0 + (a0U 0 ds).length := rfl
   iterate 4 refine z ?_
   refine a0u ?_
   refine a1K (oB := [3]) (oK := [36, 37, 90040, 95000, 98031, 98900, 98940]) (by kernel_rfl) rfl rfl ?_
   refine zD 0 ?_
   refine a1q 1 rfl (by kernel_rfl) rfl rfl (a0M (v := .one (.dv [95000] (a6m (e30_1)))) (.inl rfl) (a2L (a0a rfl) rfl rfl)) rfl rfl rfl rfl ?_
   refine zD 2 ?_
   refine zD 3 ?_
   refine zD 4 ?_
   refine a6c (A := [(9, 9, 29, _)]) hT ⟨⟨_, _, rfl⟩, rfl, trivial⟩ ?_
   refine a8T 100000 5 rfl (by kernel_rfl) rfl rfl rfl (vok hT ⟨⟨_, _, rfl⟩, rfl, trivial⟩ (by kernel_rfl) (by kernel_rfl)) (vok hT ⟨⟨_, _, rfl⟩, rfl, trivial⟩ (by kernel_rfl) (by kernel_rfl)) rfl Tryz.call6 (c7P (x := (a1T e30_0 ds)) (l := (opJ e30_1 i)) (by omega) (by show (0 : Int) ≤ (ds.length : Int); omega) (by show (ds.length : Int) ≤ 1048576; omega)) (a0g (a0a rfl) (a0t (a0d a0c (a0d a0c (a0d a0c (a0d a0c (a0d a0c (a0d a0c a0r))))))) (a0g (a0a rfl) (a0C a0c) a0q)) rfl rfl rfl rfl rfl ?_
   refine a5X 6 rfl (by kernel_rfl) rfl rfl rfl (vok hT ⟨⟨_, _, rfl⟩, rfl, trivial⟩ (by kernel_rfl) (by kernel_rfl)) (vok hT ⟨⟨_, _, rfl⟩, rfl, trivial⟩ (by kernel_rfl) (by kernel_rfl)) (a0M (.inl rfl) (a0a rfl)) rfl rfl rfl rfl ?_
   refine a2D 7 rfl (by kernel_rfl) rfl rfl rfl rfl (vok hT ⟨⟨_, _, rfl⟩, rfl, trivial⟩ (by kernel_rfl) (by kernel_rfl)) (vok hT ⟨⟨_, _, rfl⟩, rfl, trivial⟩ (by kernel_rfl) (by kernel_rfl)) (a3F rfl (a0a rfl) rfl) rfl rfl ?_
   refine a2D 8 rfl (by kernel_rfl) rfl rfl rfl rfl (vok hT ⟨⟨_, _, rfl⟩, rfl, trivial⟩ (by kernel_rfl) (by kernel_rfl)) (vok hT ⟨⟨_, _, rfl⟩, rfl, trivial⟩ (by kernel_rfl) (by kernel_rfl)) (a3c rfl (a0a rfl) rfl) rfl rfl ?_
   refine a6h (vok hT ⟨⟨_, _, rfl⟩, rfl, trivial⟩ (by kernel_rfl) (by kernel_rfl)) rfl rfl (by kernel_rfl) ?_
   dsimp only [a3l, a3d]
   refine a3y [10, 11] rfl rfl (by kernel_rfl) ?_
   iterate 3 refine z ?_
   refine a0u ?_
   refine a0u ?_
   refine a1K (oB := [3, 9]) (oK := [36, 37, 90040, 95000, 98031, 98900, 98940, 190031, 190900, 194000]) (by kernel_rfl) rfl rfl ?_
   refine a1q 0 rfl (by kernel_rfl) rfl rfl (a0M (v := .one (.dv [36] (b4m (a2i e30_0 ds)))) (.inl rfl) (a2L (a0a rfl) rfl rfl)) rfl rfl rfl rfl ?_
   refine zD 1 ?_
   refine a1q 2 rfl (by kernel_rfl) rfl rfl (a2I (n := ((a2i e30_0 ds).length)) hT rfl rfl (a0a rfl) rfl rfl) rfl rfl rfl rfl ?_
   refine zD 3 ?_
   refine zD 4 ?_
   refine zD 5 ?_
   refine a1q 6 rfl (by kernel_rfl) rfl rfl (a0M (v := .one (.dv [95000] (a6m (e30_1)))) (.inl rfl) (a2L (a0a rfl) rfl rfl)) rfl rfl rfl rfl ?_
   refine zD 7 ?_
   refine zD 8 ?_
   refine zD 9 ?_
   refine a6c (A := [(15, 11, 27, _)]) hT ⟨⟨_, _, rfl⟩, rfl, trivial⟩ ?_
   refine a8T 200000 10 rfl (by kernel_rfl) rfl rfl rfl (vok hT ⟨⟨_, _, rfl⟩, rfl, trivial⟩ (by kernel_rfl) (by kernel_rfl)) (vok hT ⟨⟨_, _, rfl⟩, rfl, trivial⟩ (by kernel_rfl) (by kernel_rfl)) rfl Tryz.call7 (b8c (d := (a7I e30_0 ds)) (l := (opJ e30_1 i)) (by rw [hlast]; omega)) (a0g (a0a rfl) (a0t (a0d a0c (a0d a0c (a0d a0c (a0d a0c a0r))))) (a0g (a0a rfl) (a0C a0c) a0q)) rfl rfl rfl rfl rfl ?_
   refine a5X 11 rfl (by kernel_rfl) rfl rfl rfl (vok hT ⟨⟨_, _, rfl⟩, rfl, trivial⟩ (by kernel_rfl) (by kernel_rfl)) (vok hT ⟨⟨_, _, rfl⟩, rfl, trivial⟩ (by kernel_rfl) (by kernel_rfl)) (a0M (.inl rfl) (a0a rfl)) rfl rfl rfl rfl ?_
   refine a2D 12 rfl (by kernel_rfl) rfl rfl rfl rfl (vok hT ⟨⟨_, _, rfl⟩, rfl, trivial⟩ (by kernel_rfl) (by kernel_rfl)) (vok hT ⟨⟨_, _, rfl⟩, rfl, trivial⟩ (by kernel_rfl) (by kernel_rfl)) (a3F rfl (a0a rfl) rfl) rfl rfl ?_
   refine a2D 13 rfl (by kernel_rfl) rfl rfl rfl rfl (vok hT ⟨⟨_, _, rfl⟩, rfl, trivial⟩ (by kernel_rfl) (by kernel_rfl)) (vok hT ⟨⟨_, _, rfl⟩, rfl, trivial⟩ (by kernel_rfl) (by kernel_rfl)) (a3c rfl (a0a rfl) rfl) rfl rfl ?_
   refine a2D 14 rfl (by kernel_rfl) rfl rfl rfl rfl (vok hT ⟨⟨_, _, rfl⟩, rfl, trivial⟩ (by kernel_rfl) (by kernel_rfl)) (vok hT ⟨⟨_, _, rfl⟩, rfl, trivial⟩ (by kernel_rfl) (by kernel_rfl)) (a3c rfl (a0a rfl) rfl) rfl rfl ?_
   refine a6h (vok hT ⟨⟨_, _, rfl⟩, rfl, trivial⟩ (by kernel_rfl) (by kernel_rfl)) rfl rfl (by kernel_rfl) ?_
   dsimp only [a3l, a3d]
   refine a3y [16, 17, 18] rfl rfl (by kernel_rfl) ?_
   iterate 7 refine z ?_
   refine yO rfl rfl (c2N hT rfl rfl (a0a rfl) (a0a rfl)) rfl ?_
   refine z ?_
   refine yQ rfl (fun c3 => ?_) fun c3 => ?_
   ·iterate 11 refine z ?_
    exfalso; rcases hcase with ⟨k1, k2⟩ | ⟨k1, k2, _⟩
    ·rw [k2, k1] at c3; simp at c3
    ·rw [k2, k1] at c3; simp at c3
   ·iterate 6 refine z ?_
    refine yQ rfl (fun c4 => ?_) fun c4 => ?_
    ·rcases hcase with ⟨k1, k2⟩ | ⟨k1, k2, k3, k4, k5⟩
     ·exact absurd c4 (by rw [k2]; simp)
     refine a0u ?_
     refine a1K (oB := [3, 9, 11]) (oK := [36, 37, 90040, 95000, 98031, 98900, 98940, 190031, 190900, 194000, 290031, 290900, 295000]) (by kernel_rfl) rfl rfl ?_
     refine a1q 0 rfl (by kernel_rfl) rfl rfl (a0M (v := .one (.dv [36] (b4m (a2i e30_0 ds)))) (.inl rfl) (a2L (a0a rfl) rfl rfl)) rfl rfl rfl rfl ?_
     refine zD 1 ?_
     refine a1q 2 rfl (by kernel_rfl) rfl rfl (a2I (n := ((a2i e30_0 ds).length)) hT rfl rfl (a0a rfl) rfl rfl) rfl rfl rfl rfl ?_
     refine zD 3 ?_
     refine zD 4 ?_
     refine zD 5 ?_
     refine a1q 6 rfl (by kernel_rfl) rfl rfl (a0M (v := .one (.dv [95000] (a6m (e30_1)))) (.inl rfl) (a2L (a0a rfl) rfl rfl)) rfl rfl rfl rfl ?_
     refine zD 7 ?_
     refine zD 8 ?_
     refine zD 9 ?_
     refine a6c (A := [(15, 14, 27, _)]) hT ⟨⟨_, _, rfl⟩, rfl, trivial⟩ ?_
     refine a8T 300000 10 rfl (by kernel_rfl) rfl rfl rfl (vok hT ⟨⟨_, _, rfl⟩, rfl, trivial⟩ (by kernel_rfl) (by kernel_rfl)) (vok hT ⟨⟨_, _, rfl⟩, rfl, trivial⟩ (by kernel_rfl) (by kernel_rfl)) rfl Tryz.call7 (b8c (d := (a7I e30_0 ds)) (l := (opJ e30_1 i)) (by rw [hlast]; omega)) (a0g (a0a rfl) (a0t (a0d a0c (a0d a0c (a0d a0c (a0d a0c a0r))))) (a0g (a0a rfl) (a0C a0c) a0q)) rfl rfl rfl rfl rfl ?_
     refine a5X 11 rfl (by kernel_rfl) rfl rfl rfl (vok hT ⟨⟨_, _, rfl⟩, rfl, trivial⟩ (by kernel_rfl) (by kernel_rfl)) (vok hT ⟨⟨_, _, rfl⟩, rfl, trivial⟩ (by kernel_rfl) (by kernel_rfl)) (a0M (.inl rfl) (a0a rfl)) rfl rfl rfl rfl ?_
     refine a2D 12 rfl (by kernel_rfl) rfl rfl rfl rfl (vok hT ⟨⟨_, _, rfl⟩, rfl, trivial⟩ (by kernel_rfl) (by kernel_rfl)) (vok hT ⟨⟨_, _, rfl⟩, rfl, trivial⟩ (by kernel_rfl) (by kernel_rfl)) (a3F rfl (a0a rfl) rfl) rfl rfl ?_
     refine a2D 13 rfl (by kernel_rfl) rfl rfl rfl rfl (vok hT ⟨⟨_, _, rfl⟩, rfl, trivial⟩ (by kernel_rfl) (by kernel_rfl)) (vok hT ⟨⟨_, _, rfl⟩, rfl, trivial⟩ (by kernel_rfl) (by kernel_rfl)) (a3c rfl (a0a rfl) rfl) rfl rfl ?_
     refine a2D 14 rfl (by kernel_rfl) rfl rfl rfl rfl (vok hT ⟨⟨_, _, rfl⟩, rfl, trivial⟩ (by kernel_rfl) (by kernel_rfl)) (vok hT ⟨⟨_, _, rfl⟩, rfl, trivial⟩ (by kernel_rfl) (by kernel_rfl)) (a3c rfl (a0a rfl) rfl) rfl rfl ?_
     refine a6h (vok hT ⟨⟨_, _, rfl⟩, rfl, trivial⟩ (by kernel_rfl) (by kernel_rfl)) rfl rfl (by kernel_rfl) ?_
     dsimp only [a3l, a3d]
     refine a3y [16, 17, 18] rfl rfl (by kernel_rfl) ?_
     iterate 7 refine z ?_
     refine a3H (k := 89) (js := [390031, 390900]) hT rfl rfl rfl rfl rfl rfl rfl rfl rfl (a0a rfl) rfl rfl (a0o (a0R rfl) (a0o (a0R rfl) (a0o (a1f rfl) (a0o (a1f rfl) a1y rfl) rfl) rfl) rfl) (by decide) (by decide) rfl rfl ?_
     simp only [a0p, a0k, SV.kill, CV.kill, kk, Nat.reduceBEq]
     refine a3f (k := 36) (j := 89) (cs := (a2i e30_0 (ds ++ [a1l (opJ e30_1 i)])).flatMap eDb) (n := (a2i e30_0 (ds ++ [a1l (opJ e30_1 i)])).length) hT rfl rfl rfl rfl rfl rfl rfl (a0a rfl) rfl rfl rfl (a0a rfl) rfl rfl (by decide) (by dsimp only [a0b]; omega) (by dsimp only [a0b]; omega) (by rw [b5w, c9i]; rfl) (by rw [b5w, List.flatMap_append, k4]; rfl) ?_
     simp only [a0p, a0k, SV.kill, CV.kill, kk, Nat.reduceBEq]
     iterate 2 refine z ?_
     refine a0n ?_
     iterate 3 refine z ?_
     refine yO rfl rfl (a2I (n := (((a2v ((a1T e30_0 ds)) ((opJ e30_1 i))).1.2.1)).length) hT rfl rfl (a0a rfl) rfl rfl) rfl ?_
     refine a3H (k := 95) (js := []) hT rfl rfl rfl rfl rfl rfl rfl rfl rfl (a0a rfl) rfl rfl (a0o (a0R rfl) a1y rfl) (by decide) (by decide) rfl rfl ?_
     simp only [a0p, a0k, SV.kill, CV.kill, kk, Nat.reduceBEq]
     refine a3f (k := 37) (j := 95) (cs := (a2B (ds ++ [a1l (opJ e30_1 i)])).flatMap a3X) (n := (a2B (ds ++ [a1l (opJ e30_1 i)])).length) hT rfl rfl rfl rfl rfl rfl rfl (a0a rfl) rfl rfl rfl (a0a rfl) rfl rfl (by decide) (by dsimp only [a0b]; omega) (by dsimp only [a0b]; omega) (by rw [c0O, c9i]; rfl) (by rw [c0O, List.flatMap_append, k2]; rfl) ?_
     simp only [a0p, a0k, SV.kill, CV.kill, kk, Nat.reduceBEq]
     iterate 2 refine z ?_
     refine a0n ?_
     iterate 2 refine z ?_
     refine a1H ?_
     iterate 2 refine z ?_
     refine a0h (σ' := ⟨[(3, .box 3 0), (4, .one (.key 95000)), (5, .one (.dv [] (.int .i64 (e30_2)))), (6, .one (.key 36)), (7, .one (.key 37)), (8, .one (.dv [] (.int .i64 ((i : Int)))))], [(3, 29, [(.dv [] (.str ((a2v ((a1T e30_0 ds)) ((opJ e30_1 i))).1.1.1))), (.dv [] (.int .i64 ((a2v ((a1T e30_0 ds)) ((opJ e30_1 i))).1.1.2.1))), (.key 190031), (.key 190900), (.key 194000), (.dv [] (.int .i64 ((a2v ((a1T e30_0 ds)) ((opJ e30_1 i))).1.2.2)))])], [(36, some (a0b false (.sl 27 4 ((a2i e30_0 (ds ++ [a1l (opJ e30_1 i)])).length) ((a2i e30_0 (ds ++ [a1l (opJ e30_1 i)])).flatMap eDb)))), (37, some (a0b false (.sl 3 1 ((a2B (ds ++ [a1l (opJ e30_1 i)])).length) ((a2B (ds ++ [a1l (opJ e30_1 i)])).flatMap a3X)))), (90040, some (a0b false (a0m ([])))), (95000, some (a0b false (a6m (e30_1)))), (98031, some (a0b false (.sl 77 3 (zs.length) (zs.flatMap a1L)))), (98900, some (a0b false (.sl 79 2 (zd.length) (zd.flatMap a2z)))), (98940, some (a0b false (.sl 5 1 (zb.length) (zb.flatMap a1x)))), (190031, some (a0b false (a0x ((a2v ((a1T e30_0 ds)) ((opJ e30_1 i))).1.1.2.2.1)))), (190900, some (a0b false (a0z ((a2v ((a1T e30_0 ds)) ((opJ e30_1 i))).1.1.2.2.2)))), (194000, some (a0b false (a0m ((a2v ((a1T e30_0 ds)) ((opJ e30_1 i))).1.2.1))))]⟩) (a0e ⟨rfl, rfl, rfl, rfl, rfl, rfl, trivial⟩ ⟨rfl, trivial⟩ ⟨rfl, rfl, rfl, rfl, rfl, rfl, rfl, rfl, rfl, rfl, trivial⟩ rfl) ?_
     refine a0n ?_
     iterate 4 refine z ?_
     rw [k2]
     refine ⟨(i + 1, (ds ++ [a1l (opJ e30_1 i)]), e30_0.2.2.1, e30_0.2.2.2, a0U 0 (ds ++ [a1l (opJ e30_1 i)])), ?_, ?_, a4e (a2N (b := 3) (i := 2) (k := 190031) (k' := 98031) rfl rfl rfl rfl (by simp) rfl rfl) (a4e (a7g (b := 3) (i := 2) (k := 98031) [36, 98031] rfl rfl rfl rfl rfl) (a4e (a2N (b := 3) (i := 3) (k := 190900) (k' := 98900) rfl rfl rfl rfl (by simp) rfl rfl) (a4e (a7g (b := 3) (i := 3) (k := 98900) [36, 98900] rfl rfl rfl rfl rfl) (a4e (a2N (b := 3) (i := 4) (k := 194000) (k' := 98940) rfl rfl rfl rfl (by simp) rfl rfl) (a4e (a7g (b := 3) (i := 4) (k := 98940) [90040, 98940] rfl rfl rfl rfl rfl) (a0e ⟨rfl, rfl, rfl, rfl, rfl, rfl, trivial⟩ ⟨rfl, trivial⟩ ⟨rfl, rfl, rfl, rfl, rfl, rfl, rfl, trivial⟩ rfl))))))⟩
     ·exact ⟨by dsimp only; omega, by dsimp only; rw [c9i, List.length_singleton]; omega, k3, by dsimp only; rw [k4]; exact b9Q k1, k5⟩
     ·dsimp only; omega
    ·rcases hcase.symm with ⟨k1, k2, k3, k4, k5⟩ | ⟨k1, k2⟩
     ·exact absurd c4 (by rw [k2]; simp)
     iterate 2 refine z ?_
     refine a0n ?_
     iterate 2 refine z ?_
     refine a1H ?_
     iterate 2 refine z ?_
     refine a0h (σ' := ⟨[(3, .box 3 0), (4, .one (.key 95000)), (5, .one (.dv [] (.int .i64 (e30_2)))), (6, .one (.key 36)), (7, .one (.key 37)), (8, .one (.dv [] (.int .i64 ((i : Int)))))], [(3, 29, [(.dv [] (.str ((a2v ((a1T e30_0 ds)) ((opJ e30_1 i))).1.1.1))), (.dv [] (.int .i64 ((a2v ((a1T e30_0 ds)) ((opJ e30_1 i))).1.1.2.1))), (.key 190031), (.key 190900), (.key 194000), (.dv [] (.int .i64 ((a2v ((a1T e30_0 ds)) ((opJ e30_1 i))).1.2.2)))])], [(36, some (a0b false (.sl 27 4 ((a2i e30_0 ds).length) ((a2i e30_0 ds).flatMap eDb)))), (37, some (a0b false (.sl 3 1 ((a2B ds).length) ((a2B ds).flatMap a3X)))), (90040, some (a0b false (a0m ([])))), (95000, some (a0b false (a6m (e30_1)))), (98031, some (a0b false (.sl 77 3 (zs.length) (zs.flatMap a1L)))), (98900, some (a0b false (.sl 79 2 (zd.length) (zd.flatMap a2z)))), (98940, some (a0b false (.sl 5 1 (zb.length) (zb.flatMap a1x)))), (190031, some (a0b false (a0x ((a2v ((a1T e30_0 ds)) ((opJ e30_1 i))).1.1.2.2.1)))), (190900, some (a0b false (a0z ((a2v ((a1T e30_0 ds)) ((opJ e30_1 i))).1.1.2.2.2)))), (194000, some (a0b false (a0m ((a2v ((a1T e30_0 ds)) ((opJ e30_1 i))).1.2.1))))]⟩) (a0e ⟨rfl, rfl, rfl, rfl, rfl, rfl, trivial⟩ ⟨rfl, trivial⟩ ⟨rfl, rfl, rfl, rfl, rfl, rfl, rfl, rfl, rfl, rfl, trivial⟩ rfl) ?_
     refine a0n ?_
     iterate 4 refine z ?_
     rw [k2]
     refine ⟨(i + 1, ds, e30_0.2.2.1, e30_0.2.2.2, a0U 0 ds), ?_, ?_, a4e (a2N (b := 3) (i := 2) (k := 190031) (k' := 98031) rfl rfl rfl rfl (by simp) rfl rfl) (a4e (a7g (b := 3) (i := 2) (k := 98031) [36, 98031] rfl rfl rfl rfl rfl) (a4e (a2N (b := 3) (i := 3) (k := 190900) (k' := 98900) rfl rfl rfl rfl (by simp) rfl rfl) (a4e (a7g (b := 3) (i := 3) (k := 98900) [36, 98900] rfl rfl rfl rfl rfl) (a4e (a2N (b := 3) (i := 4) (k := 194000) (k' := 98940) rfl rfl rfl rfl (by simp) rfl rfl) (a4e (a7g (b := 3) (i := 4) (k := 98940) [90040, 98940] rfl rfl rfl rfl rfl) (a0e ⟨rfl, rfl, rfl, rfl, rfl, rfl, trivial⟩ ⟨rfl, trivial⟩ ⟨rfl, rfl, rfl, rfl, rfl, rfl, rfl, trivial⟩ rfl))))))⟩
     ·exact ⟨by dsimp only; omega, by dsimp only; omega, hok, hdb, hlen⟩
     ·dsimp only; omega
  ·have d2 := c9g c2
   iterate 10 refine z ?_
   refine a1o (ι := Nat) (fun zz => ⟨[(3, .box 3 0), (5, .one (.dv [] (.int .i64 (e30_2)))), (6, .one (.key 36)), (7, .one (.key 37)), (17, .one (.dv [] (.int .i64 ((zz : Int)))))], [(3, 29, [(.dv [] (.str (e30_0.1))), (.dv [] (.int .i64 (e30_0.2.1))), (.dv [36, 98031] (a0x (e30_0.2.2.1))), (.dv [36, 98900] (a0z (e30_0.2.2.2))), (.dv [90040, 98940] (a0m (a0U 0 ds))), (.dv [] (.int .i64 ((ds.length : Int))))])], [(36, some (a0b false (.sl 27 4 ((a2i e30_0 ds).length) ((a2i e30_0 ds).flatMap eDb)))), (37, some (a0b false (.sl 3 1 ((a2B ds).length) ((a2B ds).flatMap a3X)))), (90040, some (a0b false (a0m ([])))), (98031, some (a0b false (.sl 77 3 (zs.length) (zs.flatMap a1L)))), (98900, some (a0b false (.sl 79 2 (zd.length) (zd.flatMap a2z)))), (98940, some (a0b false (.sl 5 1 (zb.length) (zb.flatMap a1x))))]⟩) (fun zz => zz ≤ ds.length ∧ ((a0U 0 (ds.take zz)).length : Int) ≤ e30_2) (fun zz => ds.length - zz) (0) ?_ (a0e ⟨rfl, rfl, rfl, rfl, rfl, trivial⟩ ⟨rfl, trivial⟩ ⟨rfl, rfl, rfl, rfl, rfl, rfl, trivial⟩ rfl) (fun zz hx => ?_)
   ·exact ⟨Nat.zero_le _, by show ((0 : Nat) : Int) ≤ _; omega⟩
   obtain ⟨n, rfl⟩ : ∃ v, v = zz := ⟨_, rfl⟩
   replace hx : n ≤ ds.length ∧ ((a0U 0 (ds.take n)).length : Int) ≤ e30_2 := hx
   obtain ⟨hn, hnc⟩ := hx
   have hel := b1H ds
   show Ok _ _ _ _ _ (⟨[(3, .box 3 0), (5, .one (.dv [] (.int .i64 (e30_2)))), (6, .one (.key 36)), (7, .one (.key 37)), (17, .one (.dv [] (.int .i64 ((n : Int)))))], [(3, 29, [(.dv [] (.str (e30_0.1))), (.dv [] (.int .i64 (e30_0.2.1))), (.dv [36, 98031] (a0x (e30_0.2.2.1))), (.dv [36, 98900] (a0z (e30_0.2.2.2))), (.dv [90040, 98940] (a0m (a0U 0 ds))), (.dv [] (.int .i64 ((ds.length : Int))))])], [(36, some (a0b false (.sl 27 4 ((a2i e30_0 ds).length) ((a2i e30_0 ds).flatMap eDb)))), (37, some (a0b false (.sl 3 1 ((a2B ds).length) ((a2B ds).flatMap a3X)))), (90040, some (a0b false (a0m ([])))), (98031, some (a0b false (.sl 77 3 (zs.length) (zs.flatMap a1L)))), (98900, some (a0b false (.sl 79 2 (zd.length) (zd.flatMap a2z)))), (98940, some (a0b false (.sl 5 1 (zb.length) (zb.flatMap a1x))))]⟩ : St)
   iterate 4 refine z ?_
   refine yO rfl rfl (a0M (v := .one (.dv [37] (a5g (a2B ds)))) (.inl rfl) (a2L (a0a rfl) rfl rfl)) rfl ?_
   iterate 3 refine z ?_
   refine b0M (a1t rfl rfl rfl rfl rfl) rfl (fun hg => a0M (v := .one (.dv [37] (a5g (a2B ds)))) (.inl rfl) (a2L (a0a rfl) rfl rfl)) rfl rfl ?_
   iterate 8 refine z ?_
   refine yQ rfl (fun c5 => ?_) fun c5 => ?_
   ·have hcc := c5
    rw [Bool.and_eq_true, decide_eq_true_eq, decide_eq_true_eq] at hcc
    have hn2 : n + 1 ≤ ds.length := by have hel := b1H ds; omega
    have hen := b8P (ds := ds) hn2
    have hn3 : ((a0U 0 (ds.take (n + 1))).length : Int) ≤ e30_2 := by rw [← hen]; exact hcc.2
    iterate 3 refine z ?_
    refine a0n ?_
    iterate 3 refine z ?_
    refine a1H ?_
    iterate 2 refine z ?_
    refine ⟨n + 1, ?_, ?_, a0e ⟨rfl, rfl, rfl, rfl, rfl, trivial⟩ ⟨rfl, trivial⟩ ⟨rfl, rfl, rfl, rfl, rfl, rfl, trivial⟩ rfl⟩
    ·exact ⟨hn2, hn3⟩
    ·omega
   ·obtain ⟨⟨hw0, hw1, hw2, hw3, hw4⟩, f1, f2, f3, f4, f5, f6⟩ := c8C (c := e30_0) hd hok hlen (by omega) hn h0 hnc (c2Z hn h0 c5)
    have hsl := b3Q e30_0 ds
    iterate 8 refine z ?_
    refine a2J (k := 116) hT rfl rfl rfl rfl rfl rfl rfl rfl ?_
    refine a2H 117000 rfl rfl rfl Tryz.call8 (c3w (x := (a1T e30_0 ds)) (n := e30_2) (g := []) (by omega) (by simp)) (a0g (a0a rfl) (a0t (a0d a0c (a0d a0c (a0d a0c (a0d a0c (a0d a0c (a0d a0c a0r))))))) (a0g (a0a rfl) (a0C a0c) (a0g (a0a rfl) (a0C (a0X rfl rfl)) a0q))) rfl rfl rfl ?_
    iterate 5 refine z ?_
    refine a2H 500000 rfl rfl rfl Tryz.call9 (a9i (x := (crJ e30_0 ds e30_2)) (by omega)) (a0g (a0a rfl) (a0t (a0d a0c (a0d a0c (a0d (a0X rfl rfl) (a0d (a0X rfl rfl) (a0d (a0X rfl rfl) (a0d a0c a0r))))))) a0q) rfl rfl rfl ?_
    iterate 9 refine z ?_
    refine a2H 124000 rfl rfl rfl Tryz.call10 (c3C (x := (crJ e30_0 ds e30_2)) (by omega)) (a0g (a0a rfl) (a0t (a0d a0c (a0d a0c (a0d (a0X rfl rfl) (a0d (a0X rfl rfl) (a0d (a0X rfl rfl) (a0d a0c a0r))))))) a0q) rfl rfl rfl ?_
    iterate 5 refine z ?_
    refine a2H 600000 rfl rfl rfl Tryz.call9 (a9i (x := (rsJ e30_0 ds e30_2)) (by omega)) (a0g (a0a rfl) (a0t (a0d a0c (a0d a0c (a0d (a0X rfl rfl) (a0d (a0X rfl rfl) (a0d (a0X rfl rfl) (a0d a0c a0r))))))) a0q) rfl rfl rfl ?_
    iterate 9 refine z ?_
    refine a2H 700000 rfl rfl rfl Tryz.call11 (c0i (x := (rsJ e30_0 ds e30_2)) (by omega)) (a0g (a0a rfl) (a0t (a0d a0c (a0d a0c (a0d (a0X rfl rfl) (a0d (a0X rfl rfl) (a0d (a0X rfl rfl) (a0d a0c a0r))))))) a0q) rfl rfl rfl ?_
    refine a2H 800000 rfl rfl rfl Tryz.call9 (a9i (x := (ppJ e30_0 ds e30_2)) (by omega)) (a0g (a0a rfl) (a0t (a0d a0c (a0d a0c (a0d (a0X rfl rfl) (a0d (a0X rfl rfl) (a0d (a0X rfl rfl) (a0d a0c a0r))))))) a0q) rfl rfl rfl ?_
    iterate 7 refine z ?_
    refine a0u ?_
    refine a1K (oB := [3, 18, 19, 21, 22, 24]) (oK := [36, 37, 116, 90040, 98031, 98900, 98940, 131031, 131900, 132000, 134031, 134900, 147003, 590031, 590900, 690031, 690900, 790031, 790900, 794000, 890031, 890900]) (by kernel_rfl) rfl rfl ?_
    refine zD 0 ?_
    refine zD 1 ?_
    refine zD 2 ?_
    refine zD 3 ?_
    refine zDG 4 ?_
    refine a8t 5 rfl (by kernel_rfl) (a1t rfl rfl rfl rfl rfl) rfl (fun hg => a0M (v := .one (.dv [36] (b4m (a2i e30_0 ds)))) (.inl rfl) (a2L (a0a rfl) rfl rfl)) rfl rfl rfl rfl ?_
    refine zDG 6 ?_
    refine zDG 7 ?_
    refine zDG 8 ?_
    refine a3J 9 rfl (by kernel_rfl) (a1t rfl rfl rfl rfl rfl) rfl rfl Tryz.call12 (b5f (x := (a1C ((crJ e30_0 ds e30_2))).1) (y := (((a2i e30_0 ds)).getD ((n : Int)).toNat default)) ) (fun hg => (a0g (a0y rfl hg) (a0t (a0d a0c (a0d a0c (a0d (a0X rfl rfl) (a0d (a0X rfl rfl) a0r))))) (a0g (a0y rfl hg) (a0t (a0d a0c (a0d a0c (a0d a0c (a0d a0c a0r))))) a0q))) rfl rfl ?_
    refine zD 10 ?_
    refine zD 11 ?_
    refine zDG 12 ?_
    refine zDG 13 ?_
    refine zDG 14 ?_
    refine zDG 15 ?_
    refine zD 16 ?_
    refine zD 17 ?_
    refine zDG 18 ?_
    refine zDG 19 ?_
    refine a3J 20 rfl (by kernel_rfl) (a1t rfl rfl rfl rfl rfl) rfl rfl Tryz.call12 (b5f (x := (a1C ((rsJ e30_0 ds e30_2))).1) (y := (a1C ((crJ e30_0 ds e30_2))).1) ) (fun hg => (a0g (a0y rfl hg) (a0t (a0d a0c (a0d a0c (a0d (a0X rfl rfl) (a0d (a0X rfl rfl) a0r))))) (a0g (a0y rfl hg) (a0t (a0d a0c (a0d a0c (a0d (a0X rfl rfl) (a0d (a0X rfl rfl) a0r))))) a0q))) rfl rfl ?_
    refine zD 21 ?_
    refine zD 22 ?_
    refine zDG 23 ?_
    refine zDG 24 ?_
    refine a3J 25 rfl (by kernel_rfl) (a1t rfl rfl rfl rfl rfl) rfl rfl Tryz.call12 (b5f (x := (a1C ((ppJ e30_0 ds e30_2))).1) (y := (a1C ((crJ e30_0 ds e30_2))).1) ) (fun hg => (a0g (a0y rfl hg) (a0t (a0d a0c (a0d a0c (a0d (a0X rfl rfl) (a0d (a0X rfl rfl) a0r))))) (a0g (a0y rfl hg) (a0t (a0d a0c (a0d a0c (a0d (a0X rfl rfl) (a0d (a0X rfl rfl) a0r))))) a0q))) rfl rfl ?_
    refine zD 26 ?_
    refine zD 27 ?_
    refine zDG 28 ?_
    refine zDG 31 ?_
    refine c1N 900000 29 rfl (by kernel_rfl) (a1t rfl rfl rfl rfl rfl) (by rw [f1, f2, f3, f4, f5]; simp) rfl rfl Tryz.call11 (c0i (x := (rsJ e30_0 ds e30_2)) (by omega)) (a0g (a0y rfl (by rw [f1, f2, f3, f4, f5]; simp)) (a0t (a0d a0c (a0d a0c (a0d (a0X rfl rfl) (a0d (a0X rfl rfl) (a0d (a0X rfl rfl) (a0d a0c a0r))))))) a0q) rfl rfl rfl rfl rfl ?_
    refine b9u 30 rfl (by kernel_rfl) (a1t rfl rfl rfl rfl rfl) (by rw [f1, f2, f3, f4, f5]; simp) rfl rfl Tryz.call13 (c4q (x := (ppJ e30_0 ds e30_2)) (by omega)) (a0g (a0a rfl) (a0t (a0d a0c (a0d a0c (a0d (a0X rfl rfl) (a0d (a0X rfl rfl) (a0d (a0X rfl rfl) (a0d a0c a0r))))))) a0q) rfl rfl rfl rfl ?_
    refine b9u 32 rfl (by kernel_rfl) (a1t rfl rfl rfl rfl rfl) (by rw [f1, f2, f3, f4, f5]; simp) rfl rfl Tryz.call14 (b9V (x := (a1C (crJ e30_0 ds e30_2)).1) (by omega)) (a0g (a0y rfl (by rw [f1, f2, f3, f4, f5]; simp)) (a0t (a0d a0c (a0d a0c (a0d (a0X rfl rfl) (a0d (a0X rfl rfl) a0r))))) a0q) rfl rfl rfl rfl ?_
    refine zDG 33 ?_
    refine zD 34 ?_
    refine zD 35 ?_
    refine a1Q (by kernel_rfl) ?_
    iterate 3 refine z ?_
    rw [f1, f2, f3, f4, f5, f6]; simp
open Go.RowKit Go.ChangeShapes Go.WideShapes Go.Deep
def a3P (W : World) : List DV → List Value → Prop := a1m (fun b => b < W.heap.size) W
structure OpensD (P : Program) (Q : List DV → Prop) (t : TypeId) : Prop where
 run : ∀ {H : Type} (enc : TypeId × Value → H) (W : World) (base : Nat) (spare : Nat → Bool) (held : Bool) (fuel : Nat) (cs : List Value) (y : DataW H × List MemPlace),
  DataW.trod enc P W base spare held fuel t cs = some y → ∃ ds, Q ds ∧ a3P W ds cs
def Is {α : Type} (enc : α → List DV) (ds : List DV) : Prop := ∃ x, ds = enc x
theorem c2z {P : Program} {t : TypeId} (ht : P.underlying t = some (.int .u8)) : OpensD P (Is a1x) t := by
 refine ⟨fun {H} enc W base spare held fuel cs y h => ?_⟩
 obtain ⟨n, rfl, _, hw⟩ := DataW.trod_int ht h
 have hb : 0 ≤ n ∧ n ≤ 255 := by simpa [Lit.wf, IntKind.min, IntKind.max, IntKind.signed, IntKind.bits] using hw
 have e : ((UInt8.ofNat n.toNat).toNat : Int) = n := by
  rw [UInt8.toNat_ofNat']
  have : n.toNat % 2 ^ 8 = n.toNat := Nat.mod_eq_of_lt (by omega)
  rw [this]; omega
 refine ⟨_, ⟨UInt8.ofNat n.toNat, rfl⟩, ?_⟩
 simp only [a3P, a1m, Lay]
 rw [e]
 exact ⟨_, _, rfl, ⟨rfl, by simpa [InR, IntKind.min, IntKind.max, IntKind.signed, IntKind.bits] using hb⟩, rfl⟩
theorem b7A {α : Type} {enc : α → List DV} {W : World} {sz : Nat} {f : Nat → Option Value} (hs : ∀ x, (enc x).length = sz) : ∀ n : Nat,
  (∀ i, i < n → ∃ x ci, a3P W (enc x) ci ∧ ∀ j, j < sz → f (i * sz + j) = ci[j]?) → ∃ (xs : List α) (cells : List Value), xs.length = n ∧ a3P W (xs.flatMap enc) cells ∧ ∀ j u, cells[j]? = some u → f j = some u
 | 0, _ => ⟨[], [], rfl, by simp [a3P, a1m], by simp⟩
 | n + 1, h => by
  obtain ⟨xs, cells, h1, h2, h3⟩ := b7A hs n (fun i hi => h i (by omega))
  obtain ⟨x, ci, g1, g2⟩ := h n (by omega)
  have hl : cells.length = n * sz := by rw [a4n _ _ h2, a9J hs, h1]
  have hci : ci.length = sz := by rw [a4n _ _ g1, hs]
  refine ⟨xs ++ [x], cells ++ ci, by simp [h1], by have := b6o _ _ _ _ h2 g1; simp only [List.flatMap_append, List.flatMap_cons, List.flatMap_nil, List.append_nil]; exact this, fun j u hu => ?_⟩
  rcases Nat.lt_or_ge j cells.length with hj | hj
  ·rw [List.getElem?_append_left hj] at hu; exact h3 j u hu
  ·rw [List.getElem?_append_right hj] at hu
   have hjs : j - cells.length < sz := by rw [← hci]; exact (List.getElem?_eq_some_iff.1 hu).1
   have := g2 (j - cells.length) hjs
   rw [show n * sz + (j - cells.length) = j by omega] at this
   rw [this, hu]
theorem c1B {α : Type} {P : Program} {enc : α → List DV} {t e : TypeId} {sz : Nat} (e' : Nat) (hs : ∀ x, (enc x).length = sz) (hsz : Nat.blt 0 sz = true) (ht : P.underlying t = some (.slice e)) (hc : P.cellsOf e = sz) (he : OpensD P (Is enc) e) : OpensD P (Is fun xs : List α => [a2M e' sz enc xs]) t := by
 refine ⟨fun {H} ench W base spare held fuel cs y h => ?_⟩
 have hpos : 0 < sz := by simpa [Nat.blt_eq] using hsz
 rcases open_slice ht h with ⟨rfl, _⟩ | ⟨a, len, cap, m, n, D, Pl, rfl, _, hl, hm, hmm, _, hi⟩
 ·refine ⟨_, ⟨[], rfl⟩, ?_⟩
  simp only [a3P, a1m, Lay]
  exact ⟨_, _, rfl, ⟨none, 0, [], rfl, Nat.le_refl _, by simp [maxLen], hpos, by simp, by simp [a1m], fun h => by simp at h⟩, rfl⟩
 ·have hlm : len ≤ m := by rw [hmm]; split <;> omega
  obtain ⟨xs, cells, h1, h2, h3⟩ := b7A (W := W) (f := fun j => W.cell? (a.add j)) hs len (fun i hil => by
   obtain ⟨cs', hc1, hc2⟩ := hi i (by omega)
   obtain ⟨ds, ⟨x, rfl⟩, hx⟩ := he.run ench W base spare held n cs' _ hc2
   obtain ⟨_, hcl, hat⟩ := World.cells?_some hc1
   refine ⟨x, cs', hx, fun j hj => ?_⟩
   have := hat j (by rw [hc]; exact hj)
   rw [← Go.Deep.add_add, hc] at *
   exact this)
  refine ⟨_, ⟨xs, rfl⟩, ?_⟩
  simp only [a3P, a1m]
  refine ⟨_, _, rfl, ?_, rfl⟩
  simp only [Lay]
  refine ⟨some a, cap, cells, by rw [h1], by omega, hm, hpos, a9J hs xs, h2, fun hp => ?_⟩
  have hcl : 0 < cells.length := by
   rw [a4n _ _ h2, a9J hs]
   exact Nat.mul_pos hp hpos
  have h0 := h3 0 _ (List.getElem?_eq_getElem hcl)
  have ha0 : a.add 0 = a := by simp [Addr.add]
  simp only [ha0] at h0
  have hsp : a.spot = none := by
   cases hs : a.spot with
   | none => rfl
   | some s =>
    unfold World.cell? at h0
    split at h0
    ·simp [hs] at h0
    ·cases h0
  obtain ⟨b, off, sp⟩ := a
  simp only at hsp
  subst hsp
  refine ⟨b, off, rfl, World.block_lt_of_cell? W _ h0, fun j u hu => ?_⟩
  have := h3 j u hu
  simp only [a5h] at this
  exact this
/-! ### structs -/
theorem OpensD.mono {P : Program} {Q R : List DV → Prop} {t : TypeId} (h : OpensD P Q t) (hq : ∀ ds, Q ds → R ds) : OpensD P R t := by
 refine ⟨fun {H} enc W base spare held fuel cs y h' => ?_⟩
 obtain ⟨ds, h1, h2⟩ := h.run enc W base spare held fuel cs y h'
 exact ⟨ds, hq ds h1, h2⟩
/-! ### a call from the outside -/
def a3S (w : World) : List SV → List Value → Prop
 | [], vs => vs = []
 | .one c :: us, vs => ∃ d v vs', c = .dv [] d ∧ vs = v :: vs' ∧ a3P w [d] [v] ∧ a3S w us vs'
 | .agg cs :: us, vs => ∃ ds xs vs', cs = ds.map (CV.dv []) ∧ vs = .agg xs.toArray :: vs' ∧ a3P w ds xs ∧ a3S w us vs'
 | _ :: _, _ => False
theorem b6i {w : World} {L : Lyt} {d : DV} {v : Value} (h : a3P w [d] [v]) : CVr ⟨w, [], L.rv⟩ L w (.dv [] d) v := by
 simp only [a3P, a1m] at h
 obtain ⟨v', _, e, h1, rfl⟩ := h
 simp only [List.cons.injEq, and_true] at e
 subst e
 simp only [CVr]
 exact a5y (fun b hb _ => ⟨.inl ⟨hb, by simp⟩, rfl⟩) d _ h1
theorem b5E {w : World} {L : Lyt} : ∀ {ds : List DV} {vs : List Value}, a3P w ds vs → CVL ⟨w, [], L.rv⟩ L w (ds.map (CV.dv [])) vs
 | [], _, h => by simp only [a3P, a1m] at h; subst h; rfl
 | d :: ds, _, h => by
  simp only [a3P, a1m] at h
  obtain ⟨v, vs', rfl, h1, h2⟩ := h
  exact ⟨v, vs', rfl, b6i (by simp only [a3P, a1m]; exact ⟨v, [], rfl, h1, rfl⟩), b5E h2⟩
theorem b4P {P : Program} {w : World} {L : Lyt} : ∀ {us : List SV} {vs : List Value}, a3S w us vs → vs.length = us.length ∧ (∀ u ∈ us, u.keys = [] ∧ u.boxes = []) ∧ ∀ (i : Nat) (v : SV), us[i]? = some v → ∃ x, vs[i]? = some x ∧ SVr P ⟨w, [], L.rv⟩ L w v x
 | [], _, h => by simp only [a3S] at h; subst h; simp
 | .one c :: us, _, h => by
  simp only [a3S] at h
  obtain ⟨d, v, vs', rfl, rfl, h1, h2⟩ := h
  obtain ⟨g1, g2, g3⟩ := b4P (P := P) (L := L) h2
  refine ⟨by simp [g1], fun u hu => ?_, fun i x hx => ?_⟩
  ·rcases List.mem_cons.1 hu with rfl | hu
   ·exact ⟨rfl, rfl⟩
   ·exact g2 u hu
  ·cases i with
   | zero => simp only [List.getElem?_cons_zero, Option.some.injEq] at hx; subst hx; exact ⟨v, rfl, by simp only [SVr]; exact b6i h1⟩
   | succ i => simpa using g3 i x (by simpa using hx)
 | .agg cs :: us, _, h => by
  simp only [a3S] at h
  obtain ⟨ds, xs, vs', rfl, rfl, h1, h2⟩ := h
  obtain ⟨g1, g2, g3⟩ := b4P (P := P) (L := L) h2
  refine ⟨by simp [g1], fun u hu => ?_, fun i x hx => ?_⟩
  ·rcases List.mem_cons.1 hu with rfl | hu
   ·refine ⟨?_, rfl⟩
    simp only [SV.keys]
    rw [List.flatMap_eq_nil_iff]
    intro c hc
    obtain ⟨d, _, rfl⟩ := List.mem_map.1 hc
    rfl
   ·exact g2 u hu
  ·cases i with
   | zero => simp only [List.getElem?_cons_zero, Option.some.injEq] at hx; subst hx; exact ⟨_, rfl, by simp only [SVr]; exact ⟨xs, rfl, b5E h1⟩⟩
   | succ i => simpa using g3 i x (by simpa using hx)
 | .tup _ :: _, _, h => by simp [a3S] at h
 | .box _ _ :: _, _, h => by simp [a3S] at h
 | .ref _ _ :: _, _, h => by simp [a3S] at h
 | .eptr _ _ :: _, _, h => by simp [a3S] at h
 | .ksl _ _ _ _ :: _, _, h => by simp [a3S] at h
 | .fn _ _ :: _, _, h => by simp [a3S] at h
 | .clo _ _ :: _, _, h => by simp [a3S] at h
 | .opt _ _ :: _, _, h => by simp [a3S] at h
 | .any :: _, _, h => by simp [a3S] at h
theorem c7b {P : Program} {f : FuncId} {us : List SV} {b : Bool} (hf : PFn P f us (.one (.dv [] (.bool b)))) {w : World} {vs : List Value} (h : a3S w us vs) :
  Calls P f vs.toArray w fun e w' => e = .returned (.bool b) ∧ Below w.heap.size w w' := by
 let L : Lyt := ⟨fun _ => 0, fun _ => [], fun _ => .bool false⟩
 obtain ⟨h1, h2, h3⟩ := b4P (P := P) (L := L) h
 obtain ⟨t1, t2⟩ := b1e us 0 h2
 have hr : Rel P ⟨w, [], L.rv⟩ us.length L ⟨a2j 0 us, [], []⟩ ⟨vs.toArray, []⟩ w := {
  df := rfl
  sz := by simp [h1]
  tm := fun i v hv => by
   obtain ⟨_, h4⟩ := a7Q us 0 i v hv
   obtain ⟨x, h5, h6⟩ := h3 i v (by simpa using h4)
   have : vs.toArray.getD i undef = x := by simp [Array.getD_eq_getD_getElem?, h5]
   rw [this]; exact h6
  bx := fun i t cs h => by cases h
  ks := fun k c h => by cases h
  b1 := fun i x h => by cases h
  k1 := fun k c h => by cases h
  kn := fun k c h => by cases h
  bb := fun i j x y h => by cases h
  bk := fun i k x c h => by cases h
  kk := fun k j c d h => by cases h
  lk := fun k hk => by simp only [St.tk, t1, List.flatMap_nil, List.append_nil] at hk; cases hk
  lb := fun b hb => by simp only [St.tb, t2] at hb; cases hb
  s0 := fun b hb => by cases hb
  chg := Chg.refl _ _ }
 refine (hf.ok w [] L vs h1 hr).mono ?_
 rintro e w' ⟨r, res, σ', L', rfl, rfl, hr'⟩
 have hv := hr'.tm 0 _ rfl
 simp only [SVr, CVr, Lay] at hv
 refine ⟨?_, hr'.chg.below⟩
 have : (#[r] : Array Value).getD 0 undef = r := rfl
 rw [this] at hv
 rw [hv]
end Go.Proofs.YtkhldpbfkagdhaaGreat
namespace Go.Proofs.YtkhldpbfkagdhaaGreat
open Go.RowKit
open Go.Proofs
theorem c2B : OpensD Tryz.prog (Is fun xs => [a2M 5 1 a1x xs]) 22 := c1B (sz := 1) 5 (fun _ => rfl) rfl Tryz.underlying22 (by kernel_rfl) (c2z Tryz.underlying5)
end Go.Proofs.YtkhldpbfkagdhaaGreat
