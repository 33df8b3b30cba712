/-
  Contracts of the program's functions for the statements Durable, by the rules of the logic. Conditions: none but those in the theorems.
-/
import Derived.Test.YtkhldpbfkagdhaaGreatQDU1
set_option maxHeartbeats 4000000
set_option maxRecDepth 100000
namespace Go.Proofs.YtkhldpbfkagdhaaGreat
open Go.RowKit
open Go.Proofs
set_option linter.unusedVariables false
set_option linter.unusedSimpArgs false
theorem b8d (a b : Str) : sEq a b = sEq b a := by unfold sEq; rw [Bool.eq_iff_iff, beq_iff_eq, beq_iff_eq]; exact ⟨Eq.symm, Eq.symm⟩
theorem b0Y (a b : a3Q) : a1W a b = a1W b a := by unfold a1W; rw [b8d a.1, b8d a.2]
theorem b5X {α : Type} {p : α → Bool} : ∀ (xs : List α) (i : Int), 0 ≤ i → xs.any p = true → i ≤ a0s p xs i
 | [], _, _, h => by simp at h
 | x :: xs, i, hi, h => by
  rw [a0s]
  split
  ·omega
  ·rename_i hp
   rw [List.any_cons] at h
   have hp' : p x = false := by simpa using hp
   rw [hp', Bool.false_or] at h
   have := b5X xs (i + 1) (by omega) h
   omega
theorem b8V {α : Type} {p : α → Bool} : ∀ (xs : List α) (i : Int), xs.any p = false → a0s p xs i = -1
 | [], _, _ => rfl
 | x :: xs, i, h => by
  simp only [List.any_cons, Bool.or_eq_false_iff] at h
  rw [a0s, if_neg (by rw [h.1]; simp)]
  exact b8V xs (i + 1) h.2
theorem b5S {α : Type} {p : α → Bool} (xs : List α) : decide (0 ≤ a0s p xs 0) = xs.any p := by
 cases h : xs.any p with
 | true => exact decide_eq_true (b5X xs 0 (by omega) h)
 | false => rw [b8V xs 0 h]; rfl
def a5e (d : DbT) (k : Nat) : Bool := !a1i (d.2.2.1.getD (k : Int).toNat default) || (decide ((0 : Int) < (k : Int)) && (sLt (d.2.2.1.getD (k : Int).toNat default).1 (d.2.2.1.getD ((k : Int) - 1).toNat default).1 || sEq (d.2.2.1.getD (k : Int).toNat default).1 (d.2.2.1.getD ((k : Int) - 1).toNat default).1))
def b4E (d : DbT) (k : Nat) : Bool := !a1i (d.2.2.1.getD (k : Int).toNat default) || (decide ((0 : Int) < (k : Int)) && !sLt (d.2.2.1.getD ((k : Int) - 1).toNat default).1 (d.2.2.1.getD (k : Int).toNat default).1)
theorem b8l (d : DbT) (k : Nat) : b4E d k = a5e d k := by unfold b4E a5e; rw [a7i]
@[reducible] def a1D (d : DbT) (n : Str) : Int := a0s (a0D n) d.2.2.1 0
def a8V (d : DbT) (x : a3Q) : Bool := (a3m x.2 (a0H x.2 (d.2.2.1.getD (a1D d x.1).toNat default).2.1 (d.2.2.1.getD (a1D d x.1).toNat default).2.1.length)).2.2
def a3k (d : DbT) (k : Nat) : Bool := ((decide (a1D d (d.2.2.2.getD (k : Int).toNat default).1 < 0) || !a2e (d.2.2.2.getD (k : Int).toNat default).2) || (d.2.2.2.take (k : Int).toNat).any (a1W (d.2.2.2.getD (k : Int).toNat default))) || a8V d (d.2.2.2.getD (k : Int).toNat default)
def a6M (d : DbT) : Bool := ((a2e d.1 && (decide (0 ≤ d.2.1) && decide (d.2.1 ≤ 1000))) && decide ((d.2.2.1.length : Int) ≤ 4)) && decide ((d.2.2.2.length : Int) ≤ 4)
def a6j (d : DbT) : Bool := (List.range d.2.2.1.length).all (fun i => !a5e d i)
def a7N (d : DbT) : Bool := (List.range d.2.2.2.length).all (fun i => !a3k d i)
def a1e (d : DbT) : Bool := a6M d && (a6j d && a7N d)
theorem a6P {s : a0G} (h : a1i s = true) : a1g s ≤ 1000 * 1000 := by
 have h0 := h
 simp only [a1i, Bool.and_eq_true, List.all_eq_true, decide_eq_true_eq] at h
 obtain ⟨h1, ⟨h2, h3⟩, h4⟩ := h
 have h5 := a4Z h2
 have h6 : ∀ x ∈ s.2.1, a1P x ≤ 70 := fun x hx => by
  obtain ⟨i, hi, rfl⟩ := List.mem_iff_getElem.1 hx
  have h7 := h1 i (List.mem_range.2 hi)
  unfold a4f at h7
  rw [a3N hi] at h7
  simp only [Bool.not_or, Bool.not_not, Bool.and_eq_true] at h7
  have h8 := (a7o h7.1.1).2.2
  have h9 := h7.1.2
  have h10 := a7w h9
  have h11 : a0V a6a s.2.1[i].2 ≤ 8 * s.2.1[i].2.length := by
   have key : ∀ r : a0v, (∀ f ∈ r, f.1.size ≤ 8) → a0V a6a r ≤ 8 * r.length := by
    intro r
    induction r with
    | nil => intro _; simp [a0V]
    | cons f r ih =>
     intro hf
     have k1 := ih (fun g hg => hf g (by simp [hg]))
     have k2 := hf f (by simp)
     have k3 : a6a f = f.1.size := rfl
     simp only [a0V, List.map_cons, List.sum_cons, List.length_cons] at *
     omega
   refine key _ (fun f hf => ?_)
   obtain ⟨j, hj, rfl⟩ := List.mem_iff_getElem.1 hf
   have := (a4Z (b0i h9 hj).1).2
   rwa [a3N hj] at this
  have h12 : a1P s.2.1[i] = s.2.1[i].1.2.2.size + a7z s.2.1[i].2 := rfl
  have h13 : a7z s.2.1[i].2 = s.2.1[i].2.length + a0V a6a s.2.1[i].2 := rfl
  omega
 have h7 : a0V a1P s.2.1 ≤ 70 * s.2.1.length := by
  have key : ∀ l : List a0T, (∀ x ∈ l, a1P x ≤ 70) → a0V a1P l ≤ 70 * l.length := by
   intro l
   induction l with
   | nil => intro _; simp [a0V]
   | cons x l ih =>
    intro hx
    have k1 := ih (fun g hg => hx g (by simp [hg]))
    have k2 := hx x (by simp)
    simp only [a0V, List.map_cons, List.sum_cons, List.length_cons] at *
    omega
  exact key _ h6
 have h8 : a1g s = s.1.size + (s.2.1.length + a0V a1P s.2.1) := rfl
 omega
theorem a5J {d : DbT} {i : Int} (h : a6j d = true) (h0 : 0 ≤ i) (h1 : i < d.2.2.1.length) : a1i (d.2.2.1.getD i.toNat default) = true := by
 simp only [a6j, List.all_eq_true] at h
 have h2 := h i.toNat (List.mem_range.2 (by omega))
 unfold a5e at h2
 rw [Int.toNat_natCast] at h2
 simp only [Bool.not_or, Bool.not_not, Bool.and_eq_true] at h2
 exact h2.1
theorem a8u (d : DbT) (n : Str) : a1D d n < d.2.2.1.length := by
 rcases a8a (p := a0D n) d.2.2.1 0 (by omega) with h1 | h1
 ·unfold a1D; omega
 ·unfold a1D; omega
theorem c7L {d : DbT} (h : a6M d = false) : a1e d = false := by rw [a1e, h]; rfl
theorem b5F {d : DbT} {k : Nat} (hk : k < d.2.2.1.length) (h : a5e d k = true) : a1e d = false := by
 have : a6j d = false := a7S hk (by rw [h]; rfl)
 rw [a1e, this]; simp
theorem a7Z {d : DbT} {k : Nat} (hk : k < d.2.2.2.length) (h : a3k d k = true) : a1e d = false := by
 have : a7N d = false := a7S hk (by rw [h]; rfl)
 rw [a1e, this]; simp
theorem c2S {d : DbT} {k j : Nat} (hj : j = k) (h1 : (decide (a0s (a0D (d.2.2.2.getD (k : Int).toNat default).1) d.2.2.1 0 < 0) || !a2e (d.2.2.2.getD (k : Int).toNat default).2) = false)
  (h3 : (d.2.2.2.take j).any (a1W (d.2.2.2.getD (k : Int).toNat default)) = false) (h2 : a8V d (d.2.2.2.getD (k : Int).toNat default) = false) : (!a3k d k) = true := by
 subst hj
 have h4 : (d.2.2.2.take ((j : Nat) : Int).toNat).any (a1W (d.2.2.2.getD (j : Int).toNat default)) = false := h3
 rw [a3k, h1, h4, h2]; rfl
theorem c1Z {d : DbT} {k j : Nat} (hj : j < k) (hk : k < d.2.2.2.length) (h : a1W (d.2.2.2.getD (j : Int).toNat default) (d.2.2.2.getD (k : Int).toNat default) = true) : a3k d k = true := by
 have h4 : (d.2.2.2.take ((k : Nat) : Int).toNat).any (a1W (d.2.2.2.getD (k : Int).toNat default)) = true := by
  refine c7F (k := j) (d := default) (by rw [c9j, Int.toNat_natCast]; omega) ?_
  rw [c4k (by omega), b0Y]; exact h
 rw [a3k, h4]; simp
theorem b7I {d : DbT} (h1 : a6j d = true) (h2 : a7N d = true) : a1e d = a6M d := by rw [a1e, h1, h2]; simp
theorem c8e {l : List a3Q} {v : a3Q}  : PFn Tryz.prog 103 [.one (.dv [] (a0z (l))), .agg [(.dv [] (.str (v.1))), (.dv [] (.str (v.2)))]] (.one (.dv [] (.int .i64 (a0s (a1W v) l 0)))) := by
 refine ⟨a0O Tryz.func103 rfl Tryz.ntmps103 Tryz.results103 rfl (fun C => ?_)⟩
 refine a1k (x := .tmp 0) (a0a rfl) fun f0 => ?_
 refine yF 1 0 rfl rfl fun f1_0 => ?_
 refine yF 1 1 rfl rfl fun f1_1 => ?_
 iterate 11 refine z ?_
 refine a1o (ι := Nat) (fun zz => ⟨[(0, .one (.dv [] (a0z (l)))), (3, .box 3 0), (7, .one (.dv [] (.int .i64 ((((l)).length : Int))))), (8, .one (.dv [] (.int .i64 ((zz : Int)))))], [(3, 79, [(.dv [] (.str (v.1))), (.dv [] (.str (v.2)))])], []⟩) (fun zz => zz ≤ l.length ∧ (l.take zz).any (a1W v) = false) (fun zz => l.length - zz) (0) ?_ (a0e ⟨rfl, rfl, rfl, rfl, trivial⟩ ⟨rfl, trivial⟩ trivial rfl) (fun zz hx => ?_)
 ·exact ⟨Nat.zero_le _, rfl⟩
 obtain ⟨k, rfl⟩ : ∃ v, v = zz := ⟨_, rfl⟩
 replace hx : k ≤ l.length ∧ (l.take k).any (a1W v) = false := hx
 obtain ⟨hk, hall⟩ := hx
 show Ok _ _ _ _ _ (⟨[(0, .one (.dv [] (a0z (l)))), (3, .box 3 0), (7, .one (.dv [] (.int .i64 ((((l)).length : Int))))), (8, .one (.dv [] (.int .i64 ((k : Int)))))], [(3, 79, [(.dv [] (.str (v.1))), (.dv [] (.str (v.2)))])], []⟩ : St)
 iterate 3 refine z ?_
 refine a0u ?_
 refine yQ rfl (fun c1 => ?_) fun c1 => ?_
 ·have d1 := c9f c1
  iterate 8 refine z ?_
  refine a0u ?_
  refine a1K (oB := [3]) (oK := []) (by kernel_rfl) rfl rfl ?_
  refine zD 0 ?_
  refine zD 1 ?_
  refine zD 2 ?_
  refine zD 3 ?_
  refine zD 4 ?_
  refine a1q 5 rfl (by kernel_rfl) rfl rfl (a7L rfl (a0a rfl) (a0a rfl) rfl rfl Tryz.eqGuardType79 (b8C _ _ _ _)) rfl rfl rfl rfl ?_
  refine a1Q (by kernel_rfl) ?_
  refine z ?_
  refine yQ rfl (fun c2 => ?_) fun c2 => ?_
  ·iterate 11 refine z ?_
   exact (a6b (p := a1W v) (d := default) hall (by omega) c2).symm
  ·iterate 3 refine z ?_
   refine a0n ?_
   iterate 3 refine z ?_
   refine ⟨k + 1, ?_, ?_, a0e ⟨rfl, rfl, rfl, rfl, trivial⟩ ⟨rfl, trivial⟩ trivial rfl⟩
   ·exact ⟨by omega, a5M (d := default) hall (by omega) c2⟩
   ·omega
 ·have d1 := c9g c1
  iterate 10 refine z ?_
  exact (a5O (p := a1W v) hall (by omega)).symm
theorem c7I {l : List a3Q} {v : a3Q}  : PFn Tryz.prog 76 [.one (.dv [] (a0z (l))), .agg [(.dv [] (.str (v.1))), (.dv [] (.str (v.2)))]] (.one (.dv [] (.bool (l.any (a1W v))))) := by
 refine ⟨a0O Tryz.func76 rfl Tryz.ntmps76 Tryz.results76 rfl (fun C => ?_)⟩
 refine a1k (x := .tmp 0) (a0a rfl) fun f0 => ?_
 refine yF 1 0 rfl rfl fun f1_0 => ?_
 refine yF 1 1 rfl rfl fun f1_1 => ?_
 iterate 7 refine z ?_
 refine zC Tryz.call103 ?_ (hf := c8e (l := l) (v := v) )
 iterate 5 refine z ?_
 exact b5S l
theorem a9D {x : DbT}  : PFn Tryz.prog 41 [.agg [(.dv [] (.str (x.1))), (.dv [] (.int .i64 (x.2.1))), (.dv [] (a0x (x.2.2.1))), (.dv [] (a0z (x.2.2.2)))]] (.one (.dv [] (.bool (a1e x)))) := by
 refine ⟨a0O Tryz.func41 rfl Tryz.ntmps41 Tryz.results41 rfl (fun C => ?_)⟩
 refine yF 0 0 rfl rfl fun f0_0 => ?_
 refine yF 0 1 rfl rfl fun f0_1 => ?_
 refine yF 0 2 rfl rfl fun f0_2 => ?_
 refine yF 0 3 rfl rfl fun f0_3 => ?_
 iterate 8 refine z ?_
 refine zC Tryz.call72 ?_ (hf := a8k (s := x.1) )
 iterate 4 refine z ?_
 refine a1O (a1t rfl rfl rfl rfl rfl) rfl rfl Tryz.call73 (a6I (n := x.2.1) (lo := 0) (hi := 1000) ) (fun hg => (a0g (a0y rfl hg) (a0C a0c) (a0g (a0i (a0j rfl)) (a0C a0c) (a0g (a0i (a0j rfl)) (a0C a0c) a0q)))) rfl rfl ?_
 iterate 15 refine z ?_
 refine yQ rfl (fun c1 => ?_) fun c1 => ?_
 ·iterate 6 refine z ?_
  exact (c7L (by have h := c1; unfold a6M; grind)).symm
 ·iterate 10 refine z ?_
  refine a1o (ι := Nat) (fun zz => ⟨[(1, .box 1 0), (34, .one (.dv [] (a0x (x.2.2.1)))), (35, .one (.dv [] (.int .i64 ((((x.2.2.1)).length : Int))))), (36, .one (.dv [] (.int .i64 ((zz : Int)))))], [(1, 27, [(.dv [] (.str (x.1))), (.dv [] (.int .i64 (x.2.1))), (.dv [] (a0x (x.2.2.1))), (.dv [] (a0z (x.2.2.2)))])], []⟩) (fun zz => zz ≤ x.2.2.1.length ∧ (List.range zz).all (fun i => !a5e x i) = true) (fun zz => x.2.2.1.length - zz) (0) ?_ (a0e ⟨rfl, rfl, rfl, rfl, trivial⟩ ⟨rfl, trivial⟩ trivial rfl) (fun zz hx => ?_)
  ·exact ⟨Nat.zero_le _, rfl⟩
  obtain ⟨k, rfl⟩ : ∃ v, v = zz := ⟨_, rfl⟩
  replace hx : k ≤ x.2.2.1.length ∧ (List.range k).all (fun i => !a5e x i) = true := hx
  obtain ⟨hk, hall⟩ := hx
  show Ok _ _ _ _ _ (⟨[(1, .box 1 0), (34, .one (.dv [] (a0x (x.2.2.1)))), (35, .one (.dv [] (.int .i64 ((((x.2.2.1)).length : Int))))), (36, .one (.dv [] (.int .i64 ((k : Int)))))], [(1, 27, [(.dv [] (.str (x.1))), (.dv [] (.int .i64 (x.2.1))), (.dv [] (a0x (x.2.2.1))), (.dv [] (a0z (x.2.2.2)))])], []⟩ : St)
  iterate 3 refine z ?_
  refine a0u ?_
  refine yQ rfl (fun c2 => ?_) fun c2 => ?_
  ·have d2 := c9f c2
   iterate 12 refine z ?_
   refine a0u ?_
   refine a1K (oB := [1, 4]) (oK := []) (by kernel_rfl) rfl rfl ?_
   refine zD 0 ?_
   refine a5C 1 rfl (by kernel_rfl) rfl rfl rfl Tryz.call74 (a8v (s := (((x.2.2.1)).getD ((k : Int)).toNat default)) ) (a0g (a0a rfl) (a0t (a0d a0c (a0d a0c (a0d a0c a0r)))) a0q) rfl rfl rfl rfl ?_
   refine zD 2 ?_
   refine zD 3 ?_
   refine zDG 4 ?_
   refine zDG 5 ?_
   refine zDG 6 ?_
   refine zDG 7 ?_
   refine zDG 8 ?_
   refine zDG 9 ?_
   refine zDG 10 ?_
   refine zDG 11 ?_
   refine zDG 12 ?_
   refine zDG 13 ?_
   refine zDG 14 ?_
   refine zDG 15 ?_
   refine zDG 16 ?_
   refine zDG 17 ?_
   refine zD 18 ?_
   refine a1Q (by kernel_rfl) ?_
   refine z ?_
   refine yQ rfl (fun c3 => ?_) fun c3 => ?_
   ·iterate 10 refine z ?_
    exact (b5F (k := k) (by omega) c3).symm
   ·iterate 3 refine z ?_
    refine a0n ?_
    iterate 3 refine z ?_
    refine ⟨k + 1, ?_, ?_, a0e ⟨rfl, rfl, rfl, rfl, trivial⟩ ⟨rfl, trivial⟩ trivial rfl⟩
    ·exact ⟨by omega, a4z hall (by have h : a5e x k = false := c3; simpa using h)⟩
    ·omega
  ·have d2 := c9g c2
   obtain rfl : k = x.2.2.1.length := by omega
   have hst : a6j x = true := hall
   clear hall hk
   iterate 13 refine z ?_
   refine a1o (ι := Nat) (fun zz => ⟨[(1, .box 1 0), (62, .one (.dv [] (a0z (x.2.2.2)))), (63, .one (.dv [] (.int .i64 ((((x.2.2.2)).length : Int))))), (64, .one (.dv [] (.int .i64 ((zz : Int)))))], [(1, 27, [(.dv [] (.str (x.1))), (.dv [] (.int .i64 (x.2.1))), (.dv [] (a0x (x.2.2.1))), (.dv [] (a0z (x.2.2.2)))])], []⟩) (fun zz => zz ≤ x.2.2.2.length ∧ (List.range zz).all (fun i => !a3k x i) = true) (fun zz => x.2.2.2.length - zz) (0) ?_ (a0e ⟨rfl, rfl, rfl, rfl, trivial⟩ ⟨rfl, trivial⟩ trivial rfl) (fun zz hx => ?_)
   ·exact ⟨Nat.zero_le _, rfl⟩
   obtain ⟨k, rfl⟩ : ∃ v, v = zz := ⟨_, rfl⟩
   replace hx : k ≤ x.2.2.2.length ∧ (List.range k).all (fun i => !a3k x i) = true := hx
   obtain ⟨hk2, hall2⟩ := hx
   show Ok _ _ _ _ _ (⟨[(1, .box 1 0), (62, .one (.dv [] (a0z (x.2.2.2)))), (63, .one (.dv [] (.int .i64 ((((x.2.2.2)).length : Int))))), (64, .one (.dv [] (.int .i64 ((k : Int)))))], [(1, 27, [(.dv [] (.str (x.1))), (.dv [] (.int .i64 (x.2.1))), (.dv [] (a0x (x.2.2.1))), (.dv [] (a0z (x.2.2.2)))])], []⟩ : St)
   iterate 3 refine z ?_
   refine a0u ?_
   refine yQ rfl (fun c4 => ?_) fun c4 => ?_
   ·have d4 := c9f c4
    iterate 16 refine z ?_
    refine zC Tryz.call75 ?_ (hf := b2K (x := x) (n := (x.2.2.2.getD (k : Int).toNat default).1))
    iterate 2 refine z ?_
    refine a0u ?_
    refine a0u ?_
    refine a1K (oB := [1, 6]) (oK := []) (by kernel_rfl) rfl rfl ?_
    refine zD 0 ?_
    refine zD 1 ?_
    refine zD 2 ?_
    refine zDG 3 ?_
    refine zDG 4 ?_
    refine a3J 5 rfl (by kernel_rfl) (a1t rfl rfl rfl rfl rfl) rfl rfl Tryz.call72 (a8k (s := (((x.2.2.2)).getD ((k : Int)).toNat default).2) ) (fun hg => (a0g (a0y rfl hg) (a0C a0c) a0q)) rfl rfl ?_
    refine zDG 6 ?_
    refine zD 7 ?_
    refine zD 8 ?_
    refine zDG 9 ?_
    refine zDG 10 ?_
    refine zDG 11 ?_
    refine a8t 12 rfl (by kernel_rfl) (a1t rfl rfl rfl rfl rfl) rfl (fun hg => b1z hT rfl rfl rfl (a0y rfl hg) (a0y rfl hg) (fun _ => rfl) (by first | omega | (simp only [Bool.and_eq_true, Bool.or_eq_true, Bool.or_eq_false_iff, Bool.and_eq_false_iff, Bool.not_eq_true', Bool.not_eq_false', beq_iff_eq, decide_eq_true_eq, decide_eq_false_iff_not] at hg; omega) | (have hh := c9f (a4D hg); omega) | (have hh := c9f (a4D (a8R hg)); omega)) (by first | omega | (simp only [Bool.and_eq_true, Bool.or_eq_true, Bool.or_eq_false_iff, Bool.and_eq_false_iff, Bool.not_eq_true', Bool.not_eq_false', beq_iff_eq, decide_eq_true_eq, decide_eq_false_iff_not] at hg; omega) | (have hh := c9f (a4D hg); omega) | (have hh := c9f (a4D (a8R hg)); omega))) rfl rfl rfl rfl ?_
    refine zDG 13 ?_
    refine a3J 14 rfl (by kernel_rfl) (a1t rfl rfl rfl rfl rfl) rfl rfl Tryz.call76 (c7I (l := ((x.2.2.2)).take ((k : Int)).toNat) (v := (((x.2.2.2)).getD ((k : Int)).toNat default)) ) (fun hg => (a0g (a0y rfl hg) (a0C a0c) (a0g (a0y rfl hg) (a0t (a0d a0c (a0d a0c a0r))) a0q))) rfl rfl ?_
    refine zD 15 ?_
    refine a1Q (by kernel_rfl) ?_
    refine z ?_
    refine yQ rfl (fun c5 => ?_) fun c5 => ?_
    ·iterate 11 refine z ?_
     exact (a7Z (k := k) (by omega) (by have h3 : ((decide (a0s (a0D (x.2.2.2.getD (k : Int).toNat default).1) x.2.2.1 0 < 0) || !a2e (x.2.2.2.getD (k : Int).toNat default).2) || (x.2.2.2.take (k : Int).toNat).any (a1W (x.2.2.2.getD (k : Int).toNat default))) = true := c5; rw [a3k, h3]; rfl)).symm
    ·have hfl : a0s (a0D (x.2.2.2.getD (k : Int).toNat default).1) x.2.2.1 0 < x.2.2.1.length := a8u x (x.2.2.2.getD (k : Int).toNat default).1
     have hf0 : 0 ≤ a0s (a0D (x.2.2.2.getD (k : Int).toNat default).1) x.2.2.1 0 := by have h := c5; simp only [Bool.or_eq_false_iff, decide_eq_false_iff_not] at h; omega
     have hsw := a6P (a5J hst hf0 hfl)
     iterate 2 refine z ?_
     refine a0u ?_
     refine a1K (oB := [1, 6]) (oK := []) (by kernel_rfl) rfl rfl ?_
     refine zD 0 ?_
     refine zD 1 ?_
     refine zD 2 ?_
     refine zD 3 ?_
     refine zD 4 ?_
     refine zD 5 ?_
     refine zD 6 ?_
     refine a6c (A := [(12, 8, 60, _), (13, 9, 60, _)]) hT ⟨⟨_, _, rfl⟩, rfl, ⟨⟨_, _, rfl⟩, rfl, trivial⟩⟩ ?_
     refine c0N 7 rfl (by kernel_rfl) rfl rfl rfl (vok hT ⟨⟨_, _, rfl⟩, rfl, ⟨⟨_, _, rfl⟩, rfl, trivial⟩⟩ (by kernel_rfl) (by kernel_rfl)) (vok hT ⟨⟨_, _, rfl⟩, rfl, ⟨⟨_, _, rfl⟩, rfl, trivial⟩⟩ (by kernel_rfl) (by kernel_rfl)) rfl Tryz.call77 (c6D (x := (x.2.2.1.getD (a0s (a0D (x.2.2.2.getD (k : Int).toNat default).1) x.2.2.1 0).toNat default)) (f := (x.2.2.2.getD (k : Int).toNat default).2) (by omega)) (a0g (a0a rfl) (a0t (a0d a0c (a0d a0c (a0d a0c a0r)))) (a0g (a0a rfl) (a0C a0c) a0q)) rfl rfl rfl rfl ?_
     refine a5X 8 rfl (by kernel_rfl) rfl rfl rfl (vok hT ⟨⟨_, _, rfl⟩, rfl, ⟨⟨_, _, rfl⟩, rfl, trivial⟩⟩ (by kernel_rfl) (by kernel_rfl)) (vok hT ⟨⟨_, _, rfl⟩, rfl, ⟨⟨_, _, rfl⟩, rfl, trivial⟩⟩ (by kernel_rfl) (by kernel_rfl)) (a0M (.inl rfl) (a0a rfl)) rfl rfl rfl rfl ?_
     refine a2D 9 rfl (by kernel_rfl) rfl rfl rfl rfl (vok hT ⟨⟨_, _, rfl⟩, rfl, ⟨⟨_, _, rfl⟩, rfl, trivial⟩⟩ (by kernel_rfl) (by kernel_rfl)) (vok hT ⟨⟨_, _, rfl⟩, rfl, ⟨⟨_, _, rfl⟩, rfl, trivial⟩⟩ (by kernel_rfl) (by kernel_rfl)) (a3F rfl (a0a rfl) rfl) rfl rfl ?_
     refine a2D 10 rfl (by kernel_rfl) rfl rfl rfl rfl (vok hT ⟨⟨_, _, rfl⟩, rfl, ⟨⟨_, _, rfl⟩, rfl, trivial⟩⟩ (by kernel_rfl) (by kernel_rfl)) (vok hT ⟨⟨_, _, rfl⟩, rfl, ⟨⟨_, _, rfl⟩, rfl, trivial⟩⟩ (by kernel_rfl) (by kernel_rfl)) (a3F rfl (a0a rfl) rfl) rfl rfl ?_
     refine a2D 11 rfl (by kernel_rfl) rfl rfl rfl rfl (vok hT ⟨⟨_, _, rfl⟩, rfl, ⟨⟨_, _, rfl⟩, rfl, trivial⟩⟩ (by kernel_rfl) (by kernel_rfl)) (vok hT ⟨⟨_, _, rfl⟩, rfl, ⟨⟨_, _, rfl⟩, rfl, trivial⟩⟩ (by kernel_rfl) (by kernel_rfl)) (a3c rfl (a0a rfl) rfl) rfl rfl ?_
     refine a6h (vok hT ⟨⟨_, _, rfl⟩, rfl, ⟨⟨_, _, rfl⟩, rfl, trivial⟩⟩ (by kernel_rfl) (by kernel_rfl)) rfl rfl (by kernel_rfl) ?_
     dsimp only [a3l, a3d]
     refine a3y [14, 15, 16] rfl rfl (by kernel_rfl) ?_
     iterate 7 refine z ?_
     refine yQ rfl (fun c6 => ?_) fun c6 => ?_
     ·iterate 10 refine z ?_
      exact (a7Z (k := k) (by omega) (by have h2 : a8V x (x.2.2.2.getD (k : Int).toNat default) = true := c6; rw [a3k, h2]; simp)).symm
     ·iterate 3 refine z ?_
      refine a0n ?_
      iterate 3 refine z ?_
      refine ⟨k + 1, ?_, ?_, a0e ⟨rfl, rfl, rfl, rfl, trivial⟩ ⟨rfl, trivial⟩ trivial rfl⟩
      ·exact ⟨by omega, a4z hall2 (by have h1 := c5; have h2 : a8V x (x.2.2.2.getD (k : Int).toNat default) = false := c6; show (!a3k x k) = true; rw [a3k, h2]; have h3 : ((decide (a0s (a0D (x.2.2.2.getD (k : Int).toNat default).1) x.2.2.1 0 < 0) || !a2e (x.2.2.2.getD (k : Int).toNat default).2) || (x.2.2.2.take (k : Int).toNat).any (a1W (x.2.2.2.getD (k : Int).toNat default))) = false := h1; rw [h3]; rfl)⟩
      ·omega
   ·have d4 := c9g c4
    iterate 10 refine z ?_
    obtain rfl : k = x.2.2.2.length := by omega
    rw [b7I hst hall2]; have h := c1; unfold a6M; grind
theorem a9x {x : DbT}  : PFn Tryz.prog 24 [.agg [(.dv [] (.str (x.1))), (.dv [] (.int .i64 (x.2.1))), (.dv [] (a0x (x.2.2.1))), (.dv [] (a0z (x.2.2.2)))]] (.one (.dv [] (.bool (a1e x)))) := by
 refine ⟨a0O Tryz.func24 rfl Tryz.ntmps24 Tryz.results24 rfl (fun C => ?_)⟩
 refine yF 0 0 rfl rfl fun f0_0 => ?_
 refine yF 0 1 rfl rfl fun f0_1 => ?_
 refine yF 0 2 rfl rfl fun f0_2 => ?_
 refine yF 0 3 rfl rfl fun f0_3 => ?_
 iterate 9 refine z ?_
 refine a1o (ι := Nat) (fun zz => ⟨[(1, .box 1 0), (3, .one (.dv [] (.int .i64 ((zz : Int)))))], [(1, 27, [(.dv [] (.str (x.1))), (.dv [] (.int .i64 (x.2.1))), (.dv [] (a0x (x.2.2.1))), (.dv [] (a0z (x.2.2.2)))])], []⟩) (fun zz => zz ≤ x.2.2.1.length ∧ (List.range zz).all (fun i => !a5e x i) = true) (fun zz => x.2.2.1.length - zz) (0) ?_ (a0e ⟨rfl, rfl, trivial⟩ ⟨rfl, trivial⟩ trivial rfl) (fun zz hx => ?_)
 ·exact ⟨Nat.zero_le _, rfl⟩
 obtain ⟨k, rfl⟩ : ∃ v, v = zz := ⟨_, rfl⟩
 replace hx : k ≤ x.2.2.1.length ∧ (List.range k).all (fun i => !a5e x i) = true := hx
 obtain ⟨hk, hall⟩ := hx
 show Ok _ _ _ _ _ (⟨[(1, .box 1 0), (3, .one (.dv [] (.int .i64 ((k : Int)))))], [(1, 27, [(.dv [] (.str (x.1))), (.dv [] (.int .i64 (x.2.1))), (.dv [] (a0x (x.2.2.1))), (.dv [] (a0z (x.2.2.2)))])], []⟩ : St)
 iterate 8 refine z ?_
 refine yQ rfl (fun c1 => ?_) fun c1 => ?_
 ·have d1 := c9f c1
  iterate 4 refine z ?_
  refine a0u ?_
  refine a1K (oB := [1]) (oK := []) (by kernel_rfl) rfl rfl ?_
  refine zD 0 ?_
  refine zD 1 ?_
  refine zD 2 ?_
  refine zD 3 ?_
  refine zD 4 ?_
  refine a5C 5 rfl (by kernel_rfl) rfl rfl rfl Tryz.call50 (b3T (s := (((x.2.2.1)).getD ((k : Int)).toNat default)) ) (a0g (a0a rfl) (a0t (a0d a0c (a0d a0c (a0d a0c a0r)))) a0q) rfl rfl rfl rfl ?_
  refine zD 6 ?_
  refine zD 7 ?_
  refine zDG 8 ?_
  refine zDG 9 ?_
  refine zDG 10 ?_
  refine zDG 11 ?_
  refine zDG 12 ?_
  refine zDG 13 ?_
  refine zDG 14 ?_
  refine zDG 15 ?_
  refine zDG 16 ?_
  refine zDG 17 ?_
  refine zDG 18 ?_
  refine zDG 19 ?_
  refine zDG 20 ?_
  refine zDG 21 ?_
  refine zDG 22 ?_
  refine zDG 23 ?_
  refine zDG 24 ?_
  refine zDG 25 ?_
  refine zD 26 ?_
  refine a1Q (by kernel_rfl) ?_
  refine z ?_
  refine yQ rfl (fun c2 => ?_) fun c2 => ?_
  ·iterate 10 refine z ?_
   exact (b5F (k := k) (by omega) (by rw [← b8l]; exact c2)).symm
  ·iterate 3 refine z ?_
   refine a0n ?_
   iterate 4 refine z ?_
   refine ⟨k + 1, ?_, ?_, a0e ⟨rfl, rfl, trivial⟩ ⟨rfl, trivial⟩ trivial rfl⟩
   ·exact ⟨by omega, a4z hall (by have h : b4E x k = false := c2; rw [b8l] at h; simpa using h)⟩
   ·omega
 ·have d1 := c9g c1
  obtain rfl : k = x.2.2.1.length := by omega
  have hst : a6j x = true := hall
  clear hall hk
  iterate 10 refine z ?_
  refine a1o (ι := Nat) (fun zz => ⟨[(1, .box 1 0), (4, .one (.dv [] (.int .i64 ((zz : Int)))))], [(1, 27, [(.dv [] (.str (x.1))), (.dv [] (.int .i64 (x.2.1))), (.dv [] (a0x (x.2.2.1))), (.dv [] (a0z (x.2.2.2)))])], []⟩) (fun zz => zz ≤ x.2.2.2.length ∧ (List.range zz).all (fun i => !a3k x i) = true) (fun zz => x.2.2.2.length - zz) (0) ?_ (a0e ⟨rfl, rfl, trivial⟩ ⟨rfl, trivial⟩ trivial rfl) (fun zz hx => ?_)
  ·exact ⟨Nat.zero_le _, rfl⟩
  obtain ⟨k, rfl⟩ : ∃ v, v = zz := ⟨_, rfl⟩
  replace hx : k ≤ x.2.2.2.length ∧ (List.range k).all (fun i => !a3k x i) = true := hx
  obtain ⟨hk2, hall2⟩ := hx
  show Ok _ _ _ _ _ (⟨[(1, .box 1 0), (4, .one (.dv [] (.int .i64 ((k : Int)))))], [(1, 27, [(.dv [] (.str (x.1))), (.dv [] (.int .i64 (x.2.1))), (.dv [] (a0x (x.2.2.1))), (.dv [] (a0z (x.2.2.2)))])], []⟩ : St)
  iterate 8 refine z ?_
  refine yQ rfl (fun c3 => ?_) fun c3 => ?_
  ·have d3 := c9f c3
   iterate 4 refine z ?_
   refine a0u ?_
   refine a1K (oB := [1]) (oK := []) (by kernel_rfl) rfl rfl ?_
   refine zD 0 ?_
   refine zD 1 ?_
   refine zD 2 ?_
   refine zD 3 ?_
   refine zD 4 ?_
   refine zD 5 ?_
   refine zD 6 ?_
   refine a5C 7 rfl (by kernel_rfl) rfl rfl rfl Tryz.call51 (b2P (x := x) (n := (x.2.2.2.getD (k : Int).toNat default).1)) (a0g (a0a rfl) (a0t (a0d a0c (a0d a0c (a0d a0c (a0d a0c a0r))))) (a0g (a0a rfl) (a0C a0c) a0q)) rfl rfl rfl rfl ?_
   refine zD 8 ?_
   refine a1Q (by kernel_rfl) ?_
   iterate 12 refine z ?_
   refine a1O (a1t rfl rfl rfl rfl rfl) rfl rfl Tryz.call52 (a8H (s := (((x.2.2.2)).getD ((k : Int)).toNat default).2) ) (fun hg => (a0g (a0y rfl hg) (a0C a0c) a0q)) rfl rfl ?_
   iterate 3 refine z ?_
   refine yQ rfl (fun c4 => ?_) fun c4 => ?_
   ·iterate 11 refine z ?_
    exact (a7Z (k := k) (by omega) (by have h3 : (decide (a0s (a0D (x.2.2.2.getD (k : Int).toNat default).1) x.2.2.1 0 < 0) || !a2e (x.2.2.2.getD (k : Int).toNat default).2) = true := c4; rw [a3k, h3]; rfl)).symm
   ·have hfl : a0s (a0D (x.2.2.2.getD (k : Int).toNat default).1) x.2.2.1 0 < x.2.2.1.length := a8u x (x.2.2.2.getD (k : Int).toNat default).1
    have hf0 : 0 ≤ a0s (a0D (x.2.2.2.getD (k : Int).toNat default).1) x.2.2.1 0 := by have h := c4; simp only [Bool.or_eq_false_iff, decide_eq_false_iff_not] at h; omega
    have hsw := a6P (a5J hst hf0 hfl)
    iterate 2 refine z ?_
    refine a0u ?_
    refine a0u ?_
    refine a1K (oB := [1]) (oK := []) (by kernel_rfl) rfl rfl ?_
    refine zD 0 ?_
    refine zD 1 ?_
    refine zD 2 ?_
    refine zD 3 ?_
    refine zD 4 ?_
    refine zD 5 ?_
    refine zD 6 ?_
    refine zD 7 ?_
    refine zD 8 ?_
    refine zD 9 ?_
    refine zD 10 ?_
    refine a6c (A := [(16, 6, 60, _), (17, 7, 60, _)]) hT ⟨⟨_, _, rfl⟩, rfl, ⟨⟨_, _, rfl⟩, rfl, trivial⟩⟩ ?_
    refine c0N 11 rfl (by kernel_rfl) rfl rfl rfl (vok hT ⟨⟨_, _, rfl⟩, rfl, ⟨⟨_, _, rfl⟩, rfl, trivial⟩⟩ (by kernel_rfl) (by kernel_rfl)) (vok hT ⟨⟨_, _, rfl⟩, rfl, ⟨⟨_, _, rfl⟩, rfl, trivial⟩⟩ (by kernel_rfl) (by kernel_rfl)) rfl Tryz.call53 (c1Q (x := (x.2.2.1.getD (a0s (a0D (x.2.2.2.getD (k : Int).toNat default).1) x.2.2.1 0).toNat default)) (f := (x.2.2.2.getD (k : Int).toNat default).2) (by omega)) (a0g (a0a rfl) (a0t (a0d a0c (a0d a0c (a0d a0c a0r)))) (a0g (a0a rfl) (a0C a0c) a0q)) rfl rfl rfl rfl ?_
    refine a5X 12 rfl (by kernel_rfl) rfl rfl rfl (vok hT ⟨⟨_, _, rfl⟩, rfl, ⟨⟨_, _, rfl⟩, rfl, trivial⟩⟩ (by kernel_rfl) (by kernel_rfl)) (vok hT ⟨⟨_, _, rfl⟩, rfl, ⟨⟨_, _, rfl⟩, rfl, trivial⟩⟩ (by kernel_rfl) (by kernel_rfl)) (a0M (.inl rfl) (a0a rfl)) rfl rfl rfl rfl ?_
    refine a2D 13 rfl (by kernel_rfl) rfl rfl rfl rfl (vok hT ⟨⟨_, _, rfl⟩, rfl, ⟨⟨_, _, rfl⟩, rfl, trivial⟩⟩ (by kernel_rfl) (by kernel_rfl)) (vok hT ⟨⟨_, _, rfl⟩, rfl, ⟨⟨_, _, rfl⟩, rfl, trivial⟩⟩ (by kernel_rfl) (by kernel_rfl)) (a3F rfl (a0a rfl) rfl) rfl rfl ?_
    refine a2D 14 rfl (by kernel_rfl) rfl rfl rfl rfl (vok hT ⟨⟨_, _, rfl⟩, rfl, ⟨⟨_, _, rfl⟩, rfl, trivial⟩⟩ (by kernel_rfl) (by kernel_rfl)) (vok hT ⟨⟨_, _, rfl⟩, rfl, ⟨⟨_, _, rfl⟩, rfl, trivial⟩⟩ (by kernel_rfl) (by kernel_rfl)) (a3F rfl (a0a rfl) rfl) rfl rfl ?_
    refine a2D 15 rfl (by kernel_rfl) rfl rfl rfl rfl (vok hT ⟨⟨_, _, rfl⟩, rfl, ⟨⟨_, _, rfl⟩, rfl, trivial⟩⟩ (by kernel_rfl) (by kernel_rfl)) (vok hT ⟨⟨_, _, rfl⟩, rfl, ⟨⟨_, _, rfl⟩, rfl, trivial⟩⟩ (by kernel_rfl) (by kernel_rfl)) (a3c rfl (a0a rfl) rfl) rfl rfl ?_
    refine a6h (vok hT ⟨⟨_, _, rfl⟩, rfl, ⟨⟨_, _, rfl⟩, rfl, trivial⟩⟩ (by kernel_rfl) (by kernel_rfl)) rfl rfl (by kernel_rfl) ?_
    dsimp only [a3l, a3d]
    refine a3y [18, 19, 20] rfl rfl (by kernel_rfl) ?_
    iterate 7 refine z ?_
    refine yQ rfl (fun c5 => ?_) fun c5 => ?_
    ·iterate 11 refine z ?_
     exact (a7Z (k := k) (by omega) (by have h2 : a8V x (x.2.2.2.getD (k : Int).toNat default) = true := c5; rw [a3k, h2]; simp)).symm
    ·iterate 6 refine z ?_
     refine a1o (ι := Nat) (fun zz => ⟨[(1, .box 1 0), (4, .one (.dv [] (.int .i64 ((k : Int))))), (9, .one (.dv [] (.int .i64 ((zz : Int)))))], [(1, 27, [(.dv [] (.str (x.1))), (.dv [] (.int .i64 (x.2.1))), (.dv [] (a0x (x.2.2.1))), (.dv [] (a0z (x.2.2.2)))])], []⟩) (fun zz => zz ≤ k ∧ (x.2.2.2.take zz).any (a1W (x.2.2.2.getD (k : Int).toNat default)) = false) (fun zz => k - zz) (0) ?_ (a0e ⟨rfl, rfl, rfl, trivial⟩ ⟨rfl, trivial⟩ trivial rfl) (fun zz hx => ?_)
     ·exact ⟨Nat.zero_le _, rfl⟩
     obtain ⟨j, rfl⟩ : ∃ v, v = zz := ⟨_, rfl⟩
     replace hx : j ≤ k ∧ (x.2.2.2.take j).any (a1W (x.2.2.2.getD (k : Int).toNat default)) = false := hx
     obtain ⟨hj, hall3⟩ := hx
     show Ok _ _ _ _ _ (⟨[(1, .box 1 0), (4, .one (.dv [] (.int .i64 ((k : Int))))), (9, .one (.dv [] (.int .i64 ((j : Int)))))], [(1, 27, [(.dv [] (.str (x.1))), (.dv [] (.int .i64 (x.2.1))), (.dv [] (a0x (x.2.2.1))), (.dv [] (a0z (x.2.2.2)))])], []⟩ : St)
     iterate 6 refine z ?_
     refine yQ rfl (fun c6 => ?_) fun c6 => ?_
     ·have d6 := c9f c6
      iterate 4 refine z ?_
      refine a0u ?_
      refine a1K (oB := [1]) (oK := []) (by kernel_rfl) rfl rfl ?_
      refine zD 0 ?_
      refine zD 1 ?_
      refine zD 2 ?_
      refine zD 3 ?_
      refine zD 4 ?_
      refine zD 5 ?_
      refine zD 6 ?_
      refine zD 7 ?_
      refine zD 8 ?_
      refine zD 9 ?_
      refine a1q 10 rfl (by kernel_rfl) rfl rfl (a7L rfl (a0a rfl) (a0a rfl) rfl rfl Tryz.eqGuardType79 (b8C _ _ _ _)) rfl rfl rfl rfl ?_
      refine a1Q (by kernel_rfl) ?_
      refine z ?_
      refine yQ rfl (fun c7 => ?_) fun c7 => ?_
      ·iterate 14 refine z ?_
       exact (a7Z (k := k) (by omega) (c1Z (j := j) (by omega) (by omega) c7)).symm
      ·iterate 3 refine z ?_
       refine a0n ?_
       iterate 4 refine z ?_
       refine ⟨j + 1, ?_, ?_, a0e ⟨rfl, rfl, rfl, trivial⟩ ⟨rfl, trivial⟩ trivial rfl⟩
       ·exact ⟨by omega, c8c (d := default) hall3 (by omega) (by rw [b0Y]; exact c7)⟩
       ·omega
     ·have d6 := c9g c6
      iterate 6 refine z ?_
      refine a0n ?_
      iterate 4 refine z ?_
      refine ⟨k + 1, ?_, ?_, a0e ⟨rfl, rfl, trivial⟩ ⟨rfl, trivial⟩ trivial rfl⟩
      ·exact ⟨by omega, a4z hall2 (c2S (j := j) (by omega) c4 hall3 c5)⟩
      ·omega
  ·have d3 := c9g c3
   iterate 8 refine z ?_
   refine zC Tryz.call52 ?_ (hf := a8H (s := x.1) )
   iterate 3 refine z ?_
   refine a1O (a1t rfl rfl rfl rfl rfl) rfl rfl Tryz.call54 (a7b (n := x.2.1) (lo := 0) (hi := 1000) ) (fun hg => (a0g (a0y rfl hg) (a0C a0c) (a0g (a0i (a0j rfl)) (a0C a0c) (a0g (a0i (a0j rfl)) (a0C a0c) a0q)))) rfl rfl ?_
   iterate 17 refine z ?_
   obtain rfl : k = x.2.2.2.length := by omega
   rw [b7I hst hall2]; rfl
theorem b0N {α : Type} [Inhabited α] {enc : α → List DV} {xs : List α} {k : Nat} (hk : k < xs.length) : (xs.take k).flatMap enc ++ enc (xs.getD (k : Int).toNat default) = (xs.take (k + 1)).flatMap enc ∧ (xs.take k).length + 1 = (xs.take (k + 1)).length := by
 have e : xs.getD (k : Int).toNat default = xs[k] := by simp [List.getD, List.getElem?_eq_getElem hk]
 rw [List.take_add_one, List.getElem?_eq_getElem hk, e]
 simp only [Option.toList_some, List.flatMap_append, List.flatMap_cons, List.flatMap_nil, List.append_nil, c9i, List.length_singleton]
 exact ⟨trivial, trivial⟩
theorem a6W {x : DbT} (hb : a1h x ≤ 1099511627776) : KFn Tryz.prog 27 [.agg [(.dv [] (.str (x.1))), (.dv [] (.int .i64 (x.2.1))), (.dv [] (a0x (x.2.2.1))), (.dv [] (a0z (x.2.2.2)))]] (.agg [(.dv [] (.str (x.1))), (.dv [] (.int .i64 (x.2.1))), (.key 31), (.key 900)]) [(31, some (a0b false (a0x (x.2.2.1)))), (900, some (a0b false (a0z (x.2.2.2))))] := by
 refine ⟨a0O Tryz.func27 rfl Tryz.ntmps27 Tryz.results27 rfl (fun C => ?_)⟩
 have hwd : a1h x = x.1.size + a2d a1g x.2.2.1 + a2d a3a x.2.2.2 := rfl
 have hwl : a2d a1g x.2.2.1 = x.2.2.1.length + a0V a1g x.2.2.1 := rfl
 have hwi : a2d a3a x.2.2.2 = x.2.2.2.length + a0V a3a x.2.2.2 := rfl
 refine yF 0 0 rfl rfl fun f0_0 => ?_
 refine yF 0 1 rfl rfl fun f0_1 => ?_
 refine yF 0 2 rfl rfl fun f0_2 => ?_
 refine yF 0 3 rfl rfl fun f0_3 => ?_
 iterate 4 refine z ?_
 refine a7d (σ' := ⟨[(1, .box 1 0), (2, .box 2 0), (3, .box 3 0)], [(1, 27, [(.dv [] (.str (x.1))), (.dv [] (.int .i64 (x.2.1))), (.dv [] (a0x (x.2.2.1))), (.dv [] (a0z (x.2.2.2)))]), (2, 27, [(.dv [] (.str (ByteArray.empty))), (.dv [] (.int .i64 (0))), .nil, .nil]), (3, 27, [(.dv [] (.str (x.1))), (.dv [] (.int .i64 (x.2.1))), .nil, (.key 900)])], [(900, some (a0b false (.sl 79 2 ((x.2.2.2).length) ((x.2.2.2).flatMap a2z))))]⟩) ?_ ?_
 ·refine a5w [0, 1, 2, 3, 4, 5, 6, 7, 8, 9] (oB := [1, 2]) (oK := []) (by kernel_rfl) rfl rfl ?_
  refine b4L ?_
  refine zN 0 ?_
  refine zN 1 ?_
  refine zN 2 ?_
  refine zN 3 ?_
  refine zN 5 ?_
  refine zN 6 ?_
  refine a2g 4 [9] (by kernel_rfl) ⟨?_, ?_, trivial⟩
  ·refine a7V (k := 900) 4 hT rfl rfl rfl rfl rfl rfl rfl rfl rfl rfl rfl rfl ?_
   refine a2g 7 [9] (by kernel_rfl) ⟨?_, ?_, trivial⟩
   ·refine a3U (k := 900) (cs := (x.2.2.2).flatMap a2z) (n := (x.2.2.2).length) 7 hT rfl rfl rfl rfl rfl rfl rfl rfl (a0a rfl) rfl rfl rfl (a0a rfl) (a3v (fun _ => rfl) _) (by first | (dsimp only [a0b]; omega) | omega) (by first | (dsimp only [a0b]; omega) | omega) (Nat.zero_add _) (rfl) rfl rfl ?_
    simp only [a0p, a0k, SV.kill, CV.kill, kk, Nat.reduceBEq]
    refine a5r 8 rfl (by kernel_rfl) rfl rfl (a1v hT hB rfl rfl rfl (a1c (a0a rfl) rfl rfl rfl rfl rfl (a1c (a0a rfl) rfl rfl rfl rfl rfl (a1c (a0a rfl) rfl rfl rfl rfl rfl a1w)))) rfl rfl rfl rfl ?_
    refine a2g 9 [] (by kernel_rfl) ⟨?_, trivial⟩
    ·refine a8Q 9 hT rfl rfl rfl rfl rfl rfl rfl rfl rfl rfl ?_
     refine a2g 10 [] (by kernel_rfl) ⟨?_, trivial⟩
     ·refine a6l 10 rfl rfl (by kernel_rfl) (a4x hT rfl rfl rfl (a0a rfl) (a0a rfl) rfl rfl rfl rfl rfl rfl) (by kernel_rfl) ?_
      exact a2x (a0e ⟨rfl, rfl, rfl, trivial⟩ ⟨rfl, rfl, rfl, trivial⟩ ⟨rfl, trivial⟩ rfl)
   ·refine a8Q 9 hT rfl rfl rfl rfl rfl rfl rfl rfl rfl rfl ?_
    refine a2g 7 [] (by kernel_rfl) ⟨?_, trivial⟩
    ·refine a3U (k := 900) (cs := (x.2.2.2).flatMap a2z) (n := (x.2.2.2).length) 7 hT rfl rfl rfl rfl rfl rfl rfl rfl (a0a rfl) rfl rfl rfl (a0a rfl) (a3v (fun _ => rfl) _) (by first | (dsimp only [a0b]; omega) | omega) (by first | (dsimp only [a0b]; omega) | omega) (Nat.zero_add _) (rfl) rfl rfl ?_
     simp only [a0p, a0k, SV.kill, CV.kill, kk, Nat.reduceBEq]
     refine a5r 8 rfl (by kernel_rfl) rfl rfl (a1v hT hB rfl rfl rfl (a1c (a0a rfl) rfl rfl rfl rfl rfl (a1c (a0a rfl) rfl rfl rfl rfl rfl (a1c (a0a rfl) rfl rfl rfl rfl rfl a1w)))) rfl rfl rfl rfl ?_
     refine a2g 10 [] (by kernel_rfl) ⟨?_, trivial⟩
     ·refine a6l 10 rfl rfl (by kernel_rfl) (a4x hT rfl rfl rfl (a0a rfl) (a0a rfl) rfl rfl rfl rfl rfl rfl) (by kernel_rfl) ?_
      exact a2x (a0e ⟨rfl, rfl, rfl, trivial⟩ ⟨rfl, rfl, rfl, trivial⟩ ⟨rfl, trivial⟩ rfl)
  ·refine a8Q 9 hT rfl rfl rfl rfl rfl rfl rfl rfl rfl rfl ?_
   refine a2g 4 [] (by kernel_rfl) ⟨?_, trivial⟩
   ·refine a7V (k := 900) 4 hT rfl rfl rfl rfl rfl rfl rfl rfl rfl rfl rfl rfl ?_
    refine a2g 7 [] (by kernel_rfl) ⟨?_, trivial⟩
    ·refine a3U (k := 900) (cs := (x.2.2.2).flatMap a2z) (n := (x.2.2.2).length) 7 hT rfl rfl rfl rfl rfl rfl rfl rfl (a0a rfl) rfl rfl rfl (a0a rfl) (a3v (fun _ => rfl) _) (by first | (dsimp only [a0b]; omega) | omega) (by first | (dsimp only [a0b]; omega) | omega) (Nat.zero_add _) (rfl) rfl rfl ?_
     simp only [a0p, a0k, SV.kill, CV.kill, kk, Nat.reduceBEq]
     refine a5r 8 rfl (by kernel_rfl) rfl rfl (a1v hT hB rfl rfl rfl (a1c (a0a rfl) rfl rfl rfl rfl rfl (a1c (a0a rfl) rfl rfl rfl rfl rfl (a1c (a0a rfl) rfl rfl rfl rfl rfl a1w)))) rfl rfl rfl rfl ?_
     refine a2g 10 [] (by kernel_rfl) ⟨?_, trivial⟩
     ·refine a6l 10 rfl rfl (by kernel_rfl) (a4x hT rfl rfl rfl (a0a rfl) (a0a rfl) rfl rfl rfl rfl rfl rfl) (by kernel_rfl) ?_
      exact a2x (a0e ⟨rfl, rfl, rfl, trivial⟩ ⟨rfl, rfl, rfl, trivial⟩ ⟨rfl, trivial⟩ rfl)
 refine a0u ?_
 refine a0u ?_
 refine a0h (a3p 31 (b := 3) (i := 2) (e := 77) (sz := 3) rfl rfl rfl rfl rfl) ?_
 simp only [a0p, a0k, SV.kill, CV.kill, kk, Nat.reduceBEq]
 refine a0n ?_
 iterate 6 refine z ?_
 refine a1o (ι := Nat) (fun zz => ⟨[(2, .box 2 0), (3, .box 3 0), (16, .one (.dv [] (a0x (x.2.2.1)))), (17, .one (.dv [] (.int .i64 ((((x.2.2.1)).length : Int))))), (18, .one (.dv [] (.int .i64 ((zz : Int)))))], [(1, 27, [(.dv [] (.str (x.1))), (.dv [] (.int .i64 (x.2.1))), (.dv [] (a0x (x.2.2.1))), (.dv [] (a0z (x.2.2.2)))]), (2, 27, [(.dv [] (.str (ByteArray.empty))), (.dv [] (.int .i64 (0))), .nil, .nil]), (3, 27, [(.dv [] (.str (x.1))), (.dv [] (.int .i64 (x.2.1))), (.key 31), (.key 900)])], [(31, some (a0b false (.sl 77 3 ((x.2.2.1.take zz).length) ((x.2.2.1.take zz).flatMap a1L)))), (900, some (a0b false (.sl 79 2 ((x.2.2.2).length) ((x.2.2.2).flatMap a2z))))]⟩) (fun zz => zz ≤ x.2.2.1.length) (fun zz => x.2.2.1.length - zz) (0) ?_ (a0e ⟨rfl, rfl, rfl, rfl, rfl, trivial⟩ ⟨rfl, rfl, rfl, trivial⟩ ⟨rfl, rfl, trivial⟩ rfl) (fun zz hx => ?_)
 ·exact Nat.zero_le _
 obtain ⟨k, rfl⟩ : ∃ v, v = zz := ⟨_, rfl⟩
 replace hx : k ≤ x.2.2.1.length := hx
 have hw := fun h => a5D a1g x.2.2.1 k h
 show Ok _ _ _ _ _ (⟨[(2, .box 2 0), (3, .box 3 0), (16, .one (.dv [] (a0x (x.2.2.1)))), (17, .one (.dv [] (.int .i64 ((((x.2.2.1)).length : Int))))), (18, .one (.dv [] (.int .i64 ((k : Int)))))], [(1, 27, [(.dv [] (.str (x.1))), (.dv [] (.int .i64 (x.2.1))), (.dv [] (a0x (x.2.2.1))), (.dv [] (a0z (x.2.2.2)))]), (2, 27, [(.dv [] (.str (ByteArray.empty))), (.dv [] (.int .i64 (0))), .nil, .nil]), (3, 27, [(.dv [] (.str (x.1))), (.dv [] (.int .i64 (x.2.1))), (.key 31), (.key 900)])], [(31, some (a0b false (.sl 77 3 ((x.2.2.1.take k).length) ((x.2.2.1.take k).flatMap a1L)))), (900, some (a0b false (.sl 79 2 ((x.2.2.2).length) ((x.2.2.2).flatMap a2z))))]⟩ : St)
 iterate 3 refine z ?_
 refine a0u ?_
 refine yQ rfl (fun c1 => ?_) fun c1 => ?_
 ·have d1 := c9f c1
  have hk2 : k < x.2.2.1.length := by omega
  obtain ⟨hw1, hw2⟩ := hw hk2
  iterate 10 refine z ?_
  refine a5w [0, 1, 2, 3, 4] (oB := [1, 2, 3, 5]) (oK := [31, 900]) (by kernel_rfl) rfl rfl ?_
  refine zD 0 ?_
  refine zD 1 ?_
  refine zD 2 ?_
  refine a2G 25000 3 rfl (by kernel_rfl) rfl rfl rfl Tryz.call57 (a6n (x := (((x.2.2.1)).getD ((k : Int)).toNat default)) (by omega)) (a0g (a0a rfl) (a0t (a0d a0c (a0d a0c (a0d a0c a0r)))) a0q) rfl rfl rfl rfl rfl ?_
  refine a7O (k := 26) (js := [25030]) 4 hT rfl (by kernel_rfl) rfl rfl rfl rfl rfl rfl rfl rfl rfl (a0a rfl) rfl rfl (a0o (a0R rfl) (a0o (a1f rfl) (a0o (a0R rfl) a1y rfl) rfl) rfl) (by decide) (by decide) rfl rfl (by decide) ?_
  simp only [a0p, a0k, SV.kill, CV.kill, kk, Nat.reduceBEq]
  refine a3y [5, 6, 7] rfl rfl (by kernel_rfl) ?_
  refine a3f (k := 31) (j := 26) (cs := (x.2.2.1.take (k + 1)).flatMap a1L) (n := (x.2.2.1.take (k + 1)).length) hT rfl rfl rfl rfl rfl rfl rfl (a0a rfl) rfl rfl rfl (a0a rfl) rfl rfl (by decide) (by dsimp only [a0b]; simp only [c9j]; omega) (by dsimp only [a0b]; simp only [c9j]; omega) ((b0N (enc := a1L) hk2).2) ((b0N (enc := a1L) hk2).1) ?_
  simp only [a0p, a0k, SV.kill, CV.kill, kk, Nat.reduceBEq]
  iterate 2 refine z ?_
  refine a1H ?_
  iterate 2 refine z ?_
  refine a0n ?_
  iterate 3 refine z ?_
  refine ⟨k + 1, ?_, ?_, a0e ⟨rfl, rfl, rfl, rfl, rfl, trivial⟩ ⟨rfl, rfl, rfl, trivial⟩ ⟨rfl, rfl, trivial⟩ rfl⟩
  ·omega
  ·omega
 ·have d1 := c9g c1
  iterate 9 refine z ?_
  refine a0h (σ' := ⟨[(2, .box 2 0)], [(2, 27, [(.dv [] (.str (x.1))), (.dv [] (.int .i64 (x.2.1))), (.key 31), (.key 900)])], [(31, some (a0b false (a0x (x.2.2.1)))), (900, some (a0b false (a0z (x.2.2.2))))]⟩) (a0e ⟨rfl, trivial⟩ ⟨rfl, trivial⟩ ⟨(congrArg (fun l : List (a0G) => some (some (KC.mk false 77 3 l.length (l.flatMap a1L)))) (List.take_of_length_le (by omega))), rfl, trivial⟩ rfl) ?_
  refine z ?_
  refine a1r (a0E hT rfl rfl rfl rfl) ?_
  exact ⟨rfl, rfl⟩
theorem a8P {x : DbT} (hb : a1h x ≤ 1099511627776) : KFn Tryz.prog 23 [.agg [(.dv [] (.str (x.1))), (.dv [] (.int .i64 (x.2.1))), (.dv [] (a0x (x.2.2.1))), (.dv [] (a0z (x.2.2.2)))]] (.agg [(.dv [] (.str (x.1))), (.dv [] (.int .i64 (x.2.1))), (.key 31), (.key 900)]) [(31, some (a0b false (a0x (x.2.2.1)))), (900, some (a0b false (a0z (x.2.2.2))))] := by
 refine ⟨a0O Tryz.func23 rfl Tryz.ntmps23 Tryz.results23 rfl (fun C => ?_)⟩
 have hwd : a1h x = x.1.size + a2d a1g x.2.2.1 + a2d a3a x.2.2.2 := rfl
 have hwl : a2d a1g x.2.2.1 = x.2.2.1.length + a0V a1g x.2.2.1 := rfl
 have hwi : a2d a3a x.2.2.2 = x.2.2.2.length + a0V a3a x.2.2.2 := rfl
 refine yF 0 0 rfl rfl fun f0_0 => ?_
 refine yF 0 1 rfl rfl fun f0_1 => ?_
 refine yF 0 2 rfl rfl fun f0_2 => ?_
 refine yF 0 3 rfl rfl fun f0_3 => ?_
 iterate 4 refine z ?_
 refine a7d (σ' := ⟨[(1, .box 1 0), (2, .box 2 0), (3, .box 3 0)], [(1, 27, [(.dv [] (.str (x.1))), (.dv [] (.int .i64 (x.2.1))), (.dv [] (a0x (x.2.2.1))), (.dv [] (a0z (x.2.2.2)))]), (2, 27, [(.dv [] (.str (ByteArray.empty))), (.dv [] (.int .i64 (0))), .nil, .nil]), (3, 27, [(.dv [] (.str (x.1))), (.dv [] (.int .i64 (x.2.1))), .nil, (.key 900)])], [(900, some (a0b false (.sl 79 2 ((x.2.2.2).length) ((x.2.2.2).flatMap a2z))))]⟩) ?_ ?_
 ·refine a5w [0, 1, 2, 3, 4, 5, 6, 7, 8, 9] (oB := [1, 2]) (oK := []) (by kernel_rfl) rfl rfl ?_
  refine b4L ?_
  refine zN 0 ?_
  refine zN 1 ?_
  refine zN 2 ?_
  refine zN 3 ?_
  refine zN 5 ?_
  refine zN 6 ?_
  refine a2g 4 [9] (by kernel_rfl) ⟨?_, ?_, trivial⟩
  ·refine a7V (k := 900) 4 hT rfl rfl rfl rfl rfl rfl rfl rfl rfl rfl rfl rfl ?_
   refine a2g 7 [9] (by kernel_rfl) ⟨?_, ?_, trivial⟩
   ·refine a3U (k := 900) (cs := (x.2.2.2).flatMap a2z) (n := (x.2.2.2).length) 7 hT rfl rfl rfl rfl rfl rfl rfl rfl (a0a rfl) rfl rfl rfl (a0a rfl) (a3v (fun _ => rfl) _) (by first | (dsimp only [a0b]; omega) | omega) (by first | (dsimp only [a0b]; omega) | omega) (Nat.zero_add _) (rfl) rfl rfl ?_
    simp only [a0p, a0k, SV.kill, CV.kill, kk, Nat.reduceBEq]
    refine a5r 8 rfl (by kernel_rfl) rfl rfl (a1v hT hB rfl rfl rfl (a1c (a0a rfl) rfl rfl rfl rfl rfl (a1c (a0a rfl) rfl rfl rfl rfl rfl (a1c (a0a rfl) rfl rfl rfl rfl rfl a1w)))) rfl rfl rfl rfl ?_
    refine a2g 9 [] (by kernel_rfl) ⟨?_, trivial⟩
    ·refine a8Q 9 hT rfl rfl rfl rfl rfl rfl rfl rfl rfl rfl ?_
     refine a2g 10 [] (by kernel_rfl) ⟨?_, trivial⟩
     ·refine a6l 10 rfl rfl (by kernel_rfl) (a4x hT rfl rfl rfl (a0a rfl) (a0a rfl) rfl rfl rfl rfl rfl rfl) (by kernel_rfl) ?_
      exact a2x (a0e ⟨rfl, rfl, rfl, trivial⟩ ⟨rfl, rfl, rfl, trivial⟩ ⟨rfl, trivial⟩ rfl)
   ·refine a8Q 9 hT rfl rfl rfl rfl rfl rfl rfl rfl rfl rfl ?_
    refine a2g 7 [] (by kernel_rfl) ⟨?_, trivial⟩
    ·refine a3U (k := 900) (cs := (x.2.2.2).flatMap a2z) (n := (x.2.2.2).length) 7 hT rfl rfl rfl rfl rfl rfl rfl rfl (a0a rfl) rfl rfl rfl (a0a rfl) (a3v (fun _ => rfl) _) (by first | (dsimp only [a0b]; omega) | omega) (by first | (dsimp only [a0b]; omega) | omega) (Nat.zero_add _) (rfl) rfl rfl ?_
     simp only [a0p, a0k, SV.kill, CV.kill, kk, Nat.reduceBEq]
     refine a5r 8 rfl (by kernel_rfl) rfl rfl (a1v hT hB rfl rfl rfl (a1c (a0a rfl) rfl rfl rfl rfl rfl (a1c (a0a rfl) rfl rfl rfl rfl rfl (a1c (a0a rfl) rfl rfl rfl rfl rfl a1w)))) rfl rfl rfl rfl ?_
     refine a2g 10 [] (by kernel_rfl) ⟨?_, trivial⟩
     ·refine a6l 10 rfl rfl (by kernel_rfl) (a4x hT rfl rfl rfl (a0a rfl) (a0a rfl) rfl rfl rfl rfl rfl rfl) (by kernel_rfl) ?_
      exact a2x (a0e ⟨rfl, rfl, rfl, trivial⟩ ⟨rfl, rfl, rfl, trivial⟩ ⟨rfl, trivial⟩ rfl)
  ·refine a8Q 9 hT rfl rfl rfl rfl rfl rfl rfl rfl rfl rfl ?_
   refine a2g 4 [] (by kernel_rfl) ⟨?_, trivial⟩
   ·refine a7V (k := 900) 4 hT rfl rfl rfl rfl rfl rfl rfl rfl rfl rfl rfl rfl ?_
    refine a2g 7 [] (by kernel_rfl) ⟨?_, trivial⟩
    ·refine a3U (k := 900) (cs := (x.2.2.2).flatMap a2z) (n := (x.2.2.2).length) 7 hT rfl rfl rfl rfl rfl rfl rfl rfl (a0a rfl) rfl rfl rfl (a0a rfl) (a3v (fun _ => rfl) _) (by first | (dsimp only [a0b]; omega) | omega) (by first | (dsimp only [a0b]; omega) | omega) (Nat.zero_add _) (rfl) rfl rfl ?_
     simp only [a0p, a0k, SV.kill, CV.kill, kk, Nat.reduceBEq]
     refine a5r 8 rfl (by kernel_rfl) rfl rfl (a1v hT hB rfl rfl rfl (a1c (a0a rfl) rfl rfl rfl rfl rfl (a1c (a0a rfl) rfl rfl rfl rfl rfl (a1c (a0a rfl) rfl rfl rfl rfl rfl a1w)))) rfl rfl rfl rfl ?_
     refine a2g 10 [] (by kernel_rfl) ⟨?_, trivial⟩
     ·refine a6l 10 rfl rfl (by kernel_rfl) (a4x hT rfl rfl rfl (a0a rfl) (a0a rfl) rfl rfl rfl rfl rfl rfl) (by kernel_rfl) ?_
      exact a2x (a0e ⟨rfl, rfl, rfl, trivial⟩ ⟨rfl, rfl, rfl, trivial⟩ ⟨rfl, trivial⟩ rfl)
 refine a0u ?_
 refine a0u ?_
 refine a0h (a3p 31 (b := 3) (i := 2) (e := 77) (sz := 3) rfl rfl rfl rfl rfl) ?_
 simp only [a0p, a0k, SV.kill, CV.kill, kk, Nat.reduceBEq]
 refine a0n ?_
 iterate 3 refine z ?_
 refine a1o (ι := Nat) (fun zz => ⟨[(1, .box 1 0), (2, .box 2 0), (3, .box 3 0), (4, .one (.dv [] (.int .i64 ((zz : Int)))))], [(1, 27, [(.dv [] (.str (x.1))), (.dv [] (.int .i64 (x.2.1))), (.dv [] (a0x (x.2.2.1))), (.dv [] (a0z (x.2.2.2)))]), (2, 27, [(.dv [] (.str (ByteArray.empty))), (.dv [] (.int .i64 (0))), .nil, .nil]), (3, 27, [(.dv [] (.str (x.1))), (.dv [] (.int .i64 (x.2.1))), (.key 31), (.key 900)])], [(31, some (a0b false (.sl 77 3 ((x.2.2.1.take zz).length) ((x.2.2.1.take zz).flatMap a1L)))), (900, some (a0b false (.sl 79 2 ((x.2.2.2).length) ((x.2.2.2).flatMap a2z))))]⟩) (fun zz => zz ≤ x.2.2.1.length) (fun zz => x.2.2.1.length - zz) (0) ?_ (a0e ⟨rfl, rfl, rfl, rfl, trivial⟩ ⟨rfl, rfl, rfl, trivial⟩ ⟨rfl, rfl, trivial⟩ rfl) (fun zz hx => ?_)
 ·exact Nat.zero_le _
 obtain ⟨k, rfl⟩ : ∃ v, v = zz := ⟨_, rfl⟩
 replace hx : k ≤ x.2.2.1.length := hx
 have hw := fun h => a5D a1g x.2.2.1 k h
 show Ok _ _ _ _ _ (⟨[(1, .box 1 0), (2, .box 2 0), (3, .box 3 0), (4, .one (.dv [] (.int .i64 ((k : Int)))))], [(1, 27, [(.dv [] (.str (x.1))), (.dv [] (.int .i64 (x.2.1))), (.dv [] (a0x (x.2.2.1))), (.dv [] (a0z (x.2.2.2)))]), (2, 27, [(.dv [] (.str (ByteArray.empty))), (.dv [] (.int .i64 (0))), .nil, .nil]), (3, 27, [(.dv [] (.str (x.1))), (.dv [] (.int .i64 (x.2.1))), (.key 31), (.key 900)])], [(31, some (a0b false (.sl 77 3 ((x.2.2.1.take k).length) ((x.2.2.1.take k).flatMap a1L)))), (900, some (a0b false (.sl 79 2 ((x.2.2.2).length) ((x.2.2.2).flatMap a2z))))]⟩ : St)
 iterate 8 refine z ?_
 refine yQ rfl (fun c1 => ?_) fun c1 => ?_
 ·have d1 := c9f c1
  have hk2 : k < x.2.2.1.length := by omega
  obtain ⟨hw1, hw2⟩ := hw hk2
  iterate 4 refine z ?_
  refine a5w [0, 1, 2, 3, 4, 5, 6, 7, 8] (oB := [1, 2, 3]) (oK := [31, 900]) (by kernel_rfl) rfl rfl ?_
  refine zD 0 ?_
  refine zD 1 ?_
  refine zD 2 ?_
  refine zD 3 ?_
  refine zD 4 ?_
  refine zD 5 ?_
  refine zD 6 ?_
  refine a2G 28000 7 rfl (by kernel_rfl) rfl rfl rfl Tryz.call49 (a7B (x := (((x.2.2.1)).getD ((k : Int)).toNat default)) (by omega)) (a0g (a0a rfl) (a0t (a0d a0c (a0d a0c (a0d a0c a0r)))) a0q) rfl rfl rfl rfl rfl ?_
  refine a7O (k := 29) (js := [28030]) 8 hT rfl (by kernel_rfl) rfl rfl rfl rfl rfl rfl rfl rfl rfl (a0a rfl) rfl rfl (a0o (a0R rfl) (a0o (a1f rfl) (a0o (a0R rfl) a1y rfl) rfl) rfl) (by decide) (by decide) rfl rfl (by decide) ?_
  simp only [a0p, a0k, SV.kill, CV.kill, kk, Nat.reduceBEq]
  refine a3y [9, 10, 11] rfl rfl (by kernel_rfl) ?_
  refine a3f (k := 31) (j := 29) (cs := (x.2.2.1.take (k + 1)).flatMap a1L) (n := (x.2.2.1.take (k + 1)).length) hT rfl rfl rfl rfl rfl rfl rfl (a0a rfl) rfl rfl rfl (a0a rfl) rfl rfl (by decide) (by dsimp only [a0b]; simp only [c9j]; omega) (by dsimp only [a0b]; simp only [c9j]; omega) ((b0N (enc := a1L) hk2).2) ((b0N (enc := a1L) hk2).1) ?_
  simp only [a0p, a0k, SV.kill, CV.kill, kk, Nat.reduceBEq]
  iterate 2 refine z ?_
  refine a1H ?_
  iterate 2 refine z ?_
  refine a0n ?_
  iterate 4 refine z ?_
  refine ⟨k + 1, ?_, ?_, a0e ⟨rfl, rfl, rfl, rfl, trivial⟩ ⟨rfl, rfl, rfl, trivial⟩ ⟨rfl, rfl, trivial⟩ rfl⟩
  ·omega
  ·omega
 ·have d1 := c9g c1
  iterate 9 refine z ?_
  refine a0h (σ' := ⟨[(2, .box 2 0)], [(2, 27, [(.dv [] (.str (x.1))), (.dv [] (.int .i64 (x.2.1))), (.key 31), (.key 900)])], [(31, some (a0b false (a0x (x.2.2.1)))), (900, some (a0b false (a0z (x.2.2.2))))]⟩) (a0e ⟨rfl, trivial⟩ ⟨rfl, trivial⟩ ⟨(congrArg (fun l : List (a0G) => some (some (KC.mk false 77 3 l.length (l.flatMap a1L)))) (List.take_of_length_le (by omega))), rfl, trivial⟩ rfl) ?_
  refine z ?_
  refine a1r (a0E hT rfl rfl rfl rfl) ?_
  exact ⟨rfl, rfl⟩
def a4j (l : List UInt8) (n : Int) (g : List UInt8) : List UInt8 := l.take (max 0 (min n (l.length : Int))).toNat ++ g
def a3G (x : a2W) (n : Int) (g : List UInt8) : a2W := (x.1, a4j x.2.1 n g, x.2.2)
theorem c5H (l : List UInt8) (n : Int) (g : List UInt8) : (a4j l n g).length ≤ l.length + g.length := by rw [a4j, c9i, c9j]; omega
theorem c5T {x g : List UInt8} {n : Int} (hb : x.length ≤ 1099511627776) (hb2 : g.length ≤ 1099511627776) : KFn Tryz.prog 26 [.one (.dv [] (a0m (x))), .one (.dv [] (.int .i64 (n))), .one (.dv [] (a0m (g)))] (.one (.key 16003)) [(16003, some (a0b false (a0m (a4j x n g))))] := by
 refine ⟨a0O Tryz.func26 rfl Tryz.ntmps26 Tryz.results26 rfl (fun C => ?_)⟩
 have htl : (x.take (max 0 (min n (x.length : Int))).toNat).length ≤ x.length := by rw [c9j]; omega
 refine a1k (x := .tmp 0) (a0a rfl) fun f0 => ?_
 refine a1k (x := .tmp 1) (a0a rfl) fun f1 => ?_
 refine a1k (x := .tmp 2) (a0a rfl) fun f2 => ?_
 iterate 7 refine z ?_
 refine yO rfl rfl (c7Y rfl (a0a rfl) (a0a rfl)) rfl ?_
 refine yO rfl rfl (c6t rfl (a0i (a0j rfl)) (a0a rfl)) rfl ?_
 iterate 5 refine z ?_
 refine yO rfl rfl (b1z hT rfl rfl rfl (a0a rfl) (a0a rfl) (fun _ => rfl) (by omega) (by omega)) rfl ?_
 refine zK 16000 Tryz.call40 ?_ (hf := b2U (x := (x.take (max 0 (min n (x.length : Int))).toNat)) (by omega))
 refine z ?_
 refine a9h (k := 16003) (cs := (a4j x n g).flatMap a1x) (n := (a4j x n g).length) hT rfl rfl rfl rfl rfl rfl rfl (a0a rfl) rfl rfl rfl (a0a rfl) (a3v (fun _ => rfl) _) (by dsimp only [a0b, KC.old]; omega) (by dsimp only [a0b, KC.old]; omega) (by rw [a4j, c9i] <;> rfl) (by rw [a4j, List.flatMap_append] <;> rfl) ?_
 simp only [a0p, a0k, SV.kill, CV.kill, kk, Nat.reduceBEq]
 iterate 2 refine z ?_
 refine a0h (σ' := ⟨[(6, .one (.key 16003))], [], [(16003, some (a0b false (a0m (a4j x n g))))]⟩) (a0e ⟨rfl, trivial⟩ trivial ⟨rfl, trivial⟩ rfl) ?_
 refine z ?_
 refine a1r (a0l rfl) ?_
 exact ⟨rfl, rfl⟩
theorem b3p {x : a2W} (hb : a2Y x ≤ 1099511627776) : KFn Tryz.prog 19 [.agg [(.dv [] (.str (x.1.1))), (.dv [] (.int .i64 (x.1.2.1))), (.dv [] (a0x (x.1.2.2.1))), (.dv [] (a0z (x.1.2.2.2))), (.dv [] (a0m (x.2.1))), (.dv [] (.int .i64 (x.2.2)))]] (.agg [(.dv [] (.str (x.1.1))), (.dv [] (.int .i64 (x.1.2.1))), (.key 5031), (.key 5900), (.key 8003), (.dv [] (.int .i64 (x.2.2)))]) [(5031, some (a0b false (a0x (x.1.2.2.1)))), (5900, some (a0b false (a0z (x.1.2.2.2)))), (8003, some (a0b false (a0m (x.2.1))))] := by
 refine ⟨a0O Tryz.func19 rfl Tryz.ntmps19 Tryz.results19 rfl (fun C => ?_)⟩
 have hwk : a2Y x = a1h x.1 + x.2.1.length := rfl
 refine yF 0 0 rfl rfl fun f0_0 => ?_
 refine yF 0 1 rfl rfl fun f0_1 => ?_
 refine yF 0 2 rfl rfl fun f0_2 => ?_
 refine yF 0 3 rfl rfl fun f0_3 => ?_
 refine yF 0 4 rfl rfl fun f0_4 => ?_
 refine yF 0 5 rfl rfl fun f0_5 => ?_
 iterate 4 refine z ?_
 refine a0u ?_
 refine a1K (oB := [1, 2]) (oK := []) (by kernel_rfl) rfl rfl ?_
 refine zD 0 ?_
 refine zD 1 ?_
 refine zD 3 ?_
 refine zD 4 ?_
 refine zD 6 ?_
 refine zD 7 ?_
 refine a2G 5000 2 rfl (by kernel_rfl) rfl rfl rfl Tryz.call27 (a6W (x := x.1) (by omega)) (a0g (a0a rfl) (a0t (a0d a0c (a0d a0c (a0d a0c (a0d a0c a0r))))) a0q) rfl rfl rfl rfl rfl ?_
 refine a2G 8000 5 rfl (by kernel_rfl) rfl rfl rfl Tryz.call40 (b2U (x := x.2.1) (by omega)) (a0g (a0a rfl) (a0C a0c) a0q) rfl rfl rfl rfl rfl ?_
 refine a1q 8 rfl (by kernel_rfl) rfl rfl (a1v hT hB rfl rfl rfl (a1c (a0a rfl) rfl rfl rfl rfl rfl (a1c (a0a rfl) rfl rfl rfl rfl rfl (a1c (a0a rfl) rfl rfl rfl rfl rfl a1w)))) rfl rfl rfl rfl ?_
 refine b4z 9 rfl (by kernel_rfl) rfl (by kernel_rfl) (a4x hT rfl rfl rfl (a0a rfl) (a0a rfl) rfl rfl rfl rfl rfl rfl) (by kernel_rfl) ?_
 refine z ?_
 refine a0h (σ' := ⟨[(2, .box 2 0)], [(2, 29, [(.dv [] (.str (x.1.1))), (.dv [] (.int .i64 (x.1.2.1))), (.key 5031), (.key 5900), (.key 8003), (.dv [] (.int .i64 (x.2.2)))])], [(5031, some (a0b false (a0x (x.1.2.2.1)))), (5900, some (a0b false (a0z (x.1.2.2.2)))), (8003, some (a0b false (a0m (x.2.1))))]⟩) (a0e ⟨rfl, trivial⟩ ⟨rfl, trivial⟩ ⟨rfl, rfl, rfl, trivial⟩ rfl) ?_
 refine z ?_
 refine a1r (a0E hT rfl rfl rfl rfl) ?_
 exact ⟨rfl, rfl⟩
theorem c3w {x : a2W} {n : Int} {g : List UInt8} (hb : a2Y x ≤ 1099511627776) (hb2 : g.length ≤ 1099511627776) : KFn Tryz.prog 8 [.agg [(.dv [] (.str (x.1.1))), (.dv [] (.int .i64 (x.1.2.1))), (.dv [] (a0x (x.1.2.2.1))), (.dv [] (a0z (x.1.2.2.2))), (.dv [] (a0m (x.2.1))), (.dv [] (.int .i64 (x.2.2)))], .one (.dv [] (.int .i64 (n))), .one (.dv [] (a0m (g)))] (.agg [(.dv [] (.str ((a3G x n g).1.1))), (.dv [] (.int .i64 ((a3G x n g).1.2.1))), (.key 14031), (.key 14900), (.key 30003), (.dv [] (.int .i64 ((a3G x n g).2.2)))]) [(14031, some (a0b false (a0x ((a3G x n g).1.2.2.1)))), (14900, some (a0b false (a0z ((a3G x n g).1.2.2.2)))), (30003, some (a0b false (a0m ((a3G x n g).2.1))))] := by
 refine ⟨a0O Tryz.func8 rfl Tryz.ntmps8 Tryz.results8 rfl (fun C => ?_)⟩
 have hwk : a2Y x = a1h x.1 + x.2.1.length := rfl
 refine yF 0 0 rfl rfl fun f0_0 => ?_
 refine yF 0 1 rfl rfl fun f0_1 => ?_
 refine yF 0 2 rfl rfl fun f0_2 => ?_
 refine yF 0 3 rfl rfl fun f0_3 => ?_
 refine yF 0 4 rfl rfl fun f0_4 => ?_
 refine yF 0 5 rfl rfl fun f0_5 => ?_
 refine a1k (x := .tmp 1) (a0a rfl) fun f1 => ?_
 refine a1k (x := .tmp 2) (a0a rfl) fun f2 => ?_
 iterate 6 refine z ?_
 refine zK 9000 Tryz.call19 ?_ (hf := b3p (x := x) (by omega))
 iterate 8 refine z ?_
 refine zK 14000 Tryz.call26 ?_ (hf := c5T (x := x.2.1) (g := g) (n := n) (by omega) (by omega))
 iterate 7 refine z ?_
 refine a0h (σ' := ⟨[(6, .box 6 0)], [(6, 29, [(.dv [] (.str ((a3G x n g).1.1))), (.dv [] (.int .i64 ((a3G x n g).1.2.1))), (.key 14031), (.key 14900), (.key 30003), (.dv [] (.int .i64 ((a3G x n g).2.2)))])], [(14031, some (a0b false (a0x ((a3G x n g).1.2.2.1)))), (14900, some (a0b false (a0z ((a3G x n g).1.2.2.2)))), (30003, some (a0b false (a0m ((a3G x n g).2.1))))]⟩) (a0e ⟨rfl, trivial⟩ ⟨rfl, trivial⟩ ⟨rfl, rfl, rfl, trivial⟩ rfl) ?_
 refine z ?_
 refine a1r (a0E hT rfl rfl rfl rfl) ?_
 exact ⟨rfl, rfl⟩
section
variable {α : Type} {enc : α → List DV} {sz : Nat} {q : α → Bool} {x : List α}
theorem a4S (hs : ∀ y, (enc y).length = sz) : ∀ xs : List α, (xs.flatMap enc).length = xs.length * sz
 | [] => by simp
 | y :: xs => by rw [List.flatMap_cons, c9i, a4S hs xs, hs, List.length_cons, Nat.add_mul, Nat.one_mul, Nat.add_comm]
theorem a9d {p : α → Bool} {d : α} : ∀ (xs : List α) (i : Int), 0 ≤ i → (a0s p xs i = -1 ∧ xs.any p = false) ∨ ∃ m, m < xs.length ∧ a0s p xs i = i + (m : Int) ∧ (xs.take m).any p = false ∧ p (xs.getD m d) = true
 | [], i, h => .inl ⟨rfl, rfl⟩
 | y :: xs, i, h => by
  rw [a0s]
  by_cases hp : p y = true
  ·rw [if_pos hp]
   exact .inr ⟨0, by simp, by simp, by simp, by simpa using hp⟩
  ·rw [if_neg hp]
   rcases a9d (p := p) (d := d) xs (i + 1) (by omega) with ⟨h1, h2⟩ | ⟨m, h1, h2, h3, h4⟩
   ·exact .inl ⟨h1, by simp [h2, hp]⟩
   ·exact .inr ⟨m + 1, by simpa using h1, by rw [h2]; omega, by simp [h3, hp], by simpa using h4⟩
def a3j (enc : α → List DV) (q : α → Bool) (x : List α) (k : Nat) (G : List DV) : List DV := ((x.take k).filter q).flatMap enc ++ (G ++ (x.drop k).flatMap enc)
theorem c7d (hs : ∀ y, (enc y).length = sz) {i k : Nat} {G : List DV} (hi : i = ((x.take k).filter q).length) (hG : G.length + i * sz = k * sz) (hk : k ≤ x.length) : (a3j enc q x k G).length = x.length * sz := by
 have e : (x.length - k) * sz + k * sz = x.length * sz := by rw [← Nat.add_mul]; congr 1; omega
 rw [a3j, c9i, c9i, a4S hs, a4S hs, ← hi, List.length_drop]
 omega
theorem b6W (hs : ∀ y, (enc y).length = sz) {i k : Nat} {G : List DV} [Inhabited α] (hi : i = ((x.take k).filter q).length) (hG : G.length + i * sz = k * sz) (hk : k < x.length) : sub (k * sz) sz (a3j enc q x k G) = enc (x.getD k default) := by
 have e : x.drop k = x.getD k default :: x.drop (k + 1) := by rw [List.drop_eq_getElem_cons hk]; simp [List.getD, List.getElem?_eq_getElem hk]
 rw [a3j, ← List.append_assoc, e, List.flatMap_cons, sub, List.drop_left' (by rw [c9i, a4S hs, ← hi]; omega), List.take_left' (hs _)]
theorem c6h (hs : ∀ y, (enc y).length = sz) {i k : Nat} {G : List DV} [Inhabited α] (hi : i = ((x.take k).filter q).length) (hG : G.length + i * sz = k * sz) (hk : k < x.length) (hik : i < k) (hq : q (x.getD k default) = true) :
  a1d (i * sz) (enc (x.getD k default)) (a1d (k * sz) (List.replicate sz .hole) (a3j enc q x k G)) = a3j enc q x (k + 1) (G.drop sz ++ List.replicate sz .hole) := by
 have e : x.drop k = x.getD k default :: x.drop (k + 1) := by rw [List.drop_eq_getElem_cons hk]; simp [List.getD, List.getElem?_eq_getElem hk]
 have m1 : (i + 1) * sz ≤ k * sz := Nat.mul_le_mul_right _ hik
 rw [Nat.add_mul, Nat.one_mul] at m1
 have l1 : (((x.take k).filter q).flatMap enc).length = i * sz := by rw [a4S hs, ← hi]
 have e1 : a1d (k * sz) (List.replicate sz DV.hole) (a3j enc q x k G) = ((x.take k).filter q).flatMap enc ++ (G.take sz ++ (G.drop sz ++ (List.replicate sz .hole ++ (x.drop (k + 1)).flatMap enc))) := by
  rw [a3j, e, List.flatMap_cons, ← List.append_assoc, a6O (by rw [c9i, l1]; omega) (by simp [hs])]
  rw [List.append_assoc, ← List.append_assoc (G.take sz), List.take_append_drop]
 rw [e1, a6O l1.symm (by rw [hs, c9j]; omega), a3j, List.take_add_one, List.getElem?_eq_getElem hk, List.filter_append, List.flatMap_append]
 have : x.getD k default = x[k] := by simp [List.getD, List.getElem?_eq_getElem hk]
 rw [this] at hq ⊢
 simp [hq]
theorem c6q (hs : ∀ y, (enc y).length = sz) {k : Nat} {G : List DV} [Inhabited α] (hk : k < x.length) (hq : q (x.getD k default) = false) : a3j enc q x k G = a3j enc q x (k + 1) (G ++ enc (x.getD k default)) ∧ ((x.take (k + 1)).filter q).length = ((x.take k).filter q).length := by
 have e : x.drop k = x.getD k default :: x.drop (k + 1) := by rw [List.drop_eq_getElem_cons hk]; simp [List.getD, List.getElem?_eq_getElem hk]
 have : x.getD k default = x[k] := by simp [List.getD, List.getElem?_eq_getElem hk]
 have e2 : (x.take (k + 1)).filter q = (x.take k).filter q := by
  rw [List.take_add_one, List.getElem?_eq_getElem hk, List.filter_append]
  rw [this] at hq
  simp [hq]
 refine ⟨?_, by rw [e2]⟩
 rw [a3j, a3j, e2, e, List.flatMap_cons]
 simp
theorem c3b {k : Nat} [Inhabited α] (hk : k < x.length) (hq : q (x.getD k default) = true) : ((x.take (k + 1)).filter q).length = ((x.take k).filter q).length + 1 := by
 have : x.getD k default = x[k] := by simp [List.getD, List.getElem?_eq_getElem hk]
 rw [List.take_add_one, List.getElem?_eq_getElem hk, List.filter_append]
 rw [this] at hq
 simp [hq]
theorem c8r (hs : ∀ y, (enc y).length = sz) {i k : Nat} {G : List DV} (hi : i = ((x.take k).filter q).length) (hG : G.length + i * sz = k * sz) (hk : k = x.length) : a1d (i * sz) (List.replicate ((x.length - i) * sz) .hole) (a3j enc q x k G) = (x.filter q).flatMap enc ++ List.replicate ((x.length - i) * sz) .hole := by
 subst hk
 rw [List.take_length] at hi
 have m : (x.length - i) * sz + i * sz = x.length * sz := by rw [← Nat.add_mul]; congr 1; have := List.length_filter_le q x; omega
 rw [a3j, List.take_length, List.drop_length, List.flatMap_nil]
 have := a6O (A := (x.filter q).flatMap enc) (B := G) (us := List.replicate ((x.length - i) * sz) DV.hole) (D := []) (off := i * sz) (by rw [a4S hs, hi]) (by simp; omega)
 simpa using this
theorem c4l (hs : ∀ y, (enc y).length = sz) {i : Nat} {H : List DV} (hi : i = (x.filter q).length) : ((x.filter q).flatMap enc ++ H).take (i * sz) = (x.filter q).flatMap enc := List.take_left' (by rw [a4S hs, hi])
theorem c0W {m : Nat} [Inhabited α] (hm : m < x.length) (h3 : (x.take m).any (fun y => !q y) = false) (h4 : q (x.getD m default) = false) : x.flatMap enc = a3j enc q x (m + 1) (enc (x.getD m default)) ∧ m = ((x.take (m + 1)).filter q).length := by
 have e : x.drop m = x.getD m default :: x.drop (m + 1) := by rw [List.drop_eq_getElem_cons hm]; simp [List.getD, List.getElem?_eq_getElem hm]
 have this : x.getD m default = x[m] := by simp [List.getD, List.getElem?_eq_getElem hm]
 have e1 : (x.take m).filter q = x.take m := by
  rw [List.filter_eq_self]
  intro y hy
  rw [List.any_eq_false] at h3
  simpa using h3 y hy
 have e2 : (x.take (m + 1)).filter q = x.take m := by
  rw [List.take_add_one, List.getElem?_eq_getElem hm, List.filter_append, e1]
  rw [this] at h4
  simp [h4]
 refine ⟨?_, by rw [e2, c9j]; omega⟩
 rw [a3j, e2, ← List.flatMap_cons, ← e, ← List.flatMap_append, List.take_append_drop]
theorem c4z (h : x.any (fun y => !q y) = false) : x.filter q = x := by
 rw [List.filter_eq_self]
 intro y hy
 rw [List.any_eq_false] at h
 simpa using h y hy
end
def a4L (r : a3R) (y : a0T) : Bool := a6g y.1 r
def a1E (r : a3R) (y : a0T) : Bool := !a6g y.1 r
theorem b5N (r : a3R) : (fun y => !a1E r y) = a4L r := by funext y; simp [a1E, a4L]
def a1N (x : a0G) (r : a3R) : a0G × Int := if a1i x then ((x.1, x.2.1.filter (a1E r), x.2.2), (x.2.1.length : Int) - ((x.2.1.filter (a1E r)).length : Int)) else (x, 0)
theorem b6q {p : a0T → Bool} {xs : List a0T} {k : Nat} (hk : k < xs.length) (h : p (xs.getD (k : Int).toNat default) = true) : ((xs.take k).filter p).flatMap a0F ++ a0F (xs.getD (k : Int).toNat default) = ((xs.take (k + 1)).filter p).flatMap a0F ∧ ((xs.take k).filter p).length + 1 = ((xs.take (k + 1)).filter p).length := by
 rw [c0c hk, if_pos h, List.flatMap_append, List.flatMap_cons, List.flatMap_nil, List.append_nil, c9i]
 exact ⟨rfl, rfl⟩
theorem c3G {p : a0T → Bool} {xs : List a0T} {k : Nat} (hk : k < xs.length) (h : p (xs.getD (k : Int).toNat default) = false) : (xs.take k).filter p = (xs.take (k + 1)).filter p := by
 rw [c0c hk, if_neg (by rw [h]; simp), List.append_nil]
theorem b9q {x : a0G} {r : a3R} (h : (!a1i x) = true) : a1N x r = (x, 0) := by rw [a1N, if_neg (by simpa using h)]
theorem b7k {x : a0G} {r : a3R} (h : (!a1i x) = false) : a1N x r = ((x.1, x.2.1.filter (a1E r), x.2.2), (x.2.1.length : Int) - ((x.2.1.filter (a1E r)).length : Int)) := by rw [a1N, if_pos (by simpa using h)]
theorem b6p {y : a0T} {r : a3R}  : PFn Tryz.prog 126 [.agg [(.dv [] (.int .i64 (y.1.1))), (.dv [] (.int .i64 (y.1.2.1))), (.dv [] (.str (y.1.2.2))), (.dv [] (a0I (y.2)))], .ref [] [.bool (r.1), .bool (r.2.1), .int .i64 (r.2.2.1.1), .int .i64 (r.2.2.1.2.1), .str (r.2.2.1.2.2), .int .i64 (r.2.2.2.1), .int .i64 (r.2.2.2.2.1), .str (r.2.2.2.2.2)]] (.one (.dv [] (.bool (a4L r y)))) := by
 refine ⟨a0O Tryz.func126 rfl Tryz.ntmps126 Tryz.results126 rfl (fun C => ?_)⟩
 refine yF 0 0 rfl rfl fun f0_0 => ?_
 refine yF 0 1 rfl rfl fun f0_1 => ?_
 refine yF 0 2 rfl rfl fun f0_2 => ?_
 refine yF 0 3 rfl rfl fun f0_3 => ?_
 iterate 8 refine z ?_
 refine zC Tryz.call127 ?_ (hf := c5Q)
 iterate 4 refine z ?_
 rfl
theorem c7Z {x : List a0T} {r : a3R}  : PFn Tryz.prog 123 [.one (.dv [] (a0w (x))), .fn 126 [[.bool (r.1), .bool (r.2.1), .int .i64 (r.2.2.1.1), .int .i64 (r.2.2.1.2.1), .str (r.2.2.1.2.2), .int .i64 (r.2.2.2.1), .int .i64 (r.2.2.2.2.1), .str (r.2.2.2.2.2)]]] (.one (.dv [] (.int .i64 (a0s (a4L r) x 0)))) := by
 refine ⟨a0O Tryz.func123 rfl Tryz.ntmps123 Tryz.results123 rfl (fun C => ?_)⟩
 refine a1k (x := .tmp 0) (a0a rfl) fun f0 => ?_
 iterate 10 refine z ?_
 refine a1o (ι := Nat) (fun zz => ⟨[(0, .one (.dv [] (a0w (x)))), (1, .fn 126 [[.bool (r.1), .bool (r.2.1), .int .i64 (r.2.2.1.1), .int .i64 (r.2.2.1.2.1), .str (r.2.2.1.2.2), .int .i64 (r.2.2.2.1), .int .i64 (r.2.2.2.2.1), .str (r.2.2.2.2.2)]]), (7, .one (.dv [] (.int .i64 ((((x)).length : Int))))), (8, .one (.dv [] (.int .i64 ((zz : Int)))))], [], []⟩) (fun zz => zz ≤ x.length ∧ (x.take zz).any (a4L r) = false) (fun zz => x.length - zz) (0) ?_ (a0e ⟨rfl, rfl, rfl, rfl, trivial⟩ trivial trivial rfl) (fun zz hx => ?_)
 ·exact ⟨Nat.zero_le _, rfl⟩
 obtain ⟨n, rfl⟩ : ∃ v, v = zz := ⟨_, rfl⟩
 replace hx : n ≤ x.length ∧ (x.take n).any (a4L r) = false := hx
 obtain ⟨hk, hall⟩ := hx
 show Ok _ _ _ _ _ (⟨[(0, .one (.dv [] (a0w (x)))), (1, .fn 126 [[.bool (r.1), .bool (r.2.1), .int .i64 (r.2.2.1.1), .int .i64 (r.2.2.1.2.1), .str (r.2.2.1.2.2), .int .i64 (r.2.2.2.1), .int .i64 (r.2.2.2.2.1), .str (r.2.2.2.2.2)]]), (7, .one (.dv [] (.int .i64 ((((x)).length : Int))))), (8, .one (.dv [] (.int .i64 ((n : Int)))))], [], []⟩ : St)
 iterate 3 refine z ?_
 refine a0u ?_
 refine yQ rfl (fun c1 => ?_) fun c1 => ?_
 ·have d1 := c9f c1
  iterate 14 refine z ?_
  refine b0j rfl rfl rfl (a0a rfl) Tryz.call126 b6p (a0g (a0a rfl) (a0t (a0d a0c (a0d a0c (a0d a0c (a0d a0c a0r))))) a0q) rfl rfl ?_
  refine z ?_
  refine yQ rfl (fun c2 => ?_) fun c2 => ?_
  ·iterate 11 refine z ?_
   exact (a6b (p := a4L r) (d := default) hall (by omega) c2).symm
  ·iterate 3 refine z ?_
   refine a0n ?_
   iterate 3 refine z ?_
   refine ⟨n + 1, ?_, ?_, a0e ⟨rfl, rfl, rfl, rfl, trivial⟩ trivial trivial rfl⟩
   ·exact ⟨by omega, a5M (d := default) hall (by omega) c2⟩
   ·omega
 ·have d1 := c9g c1
  iterate 10 refine z ?_
  exact (a5O (p := a4L r) hall (by omega)).symm
theorem c4a {x : List a0T} {r : a3R} (hb : x.length ≤ 1099511627776) : MFn Tryz.prog 125 [.fn 126 [[.bool (r.1), .bool (r.2.1), .int .i64 (r.2.2.1.1), .int .i64 (r.2.2.1.2.1), .str (r.2.2.1.2.2), .int .i64 (r.2.2.2.1), .int .i64 (r.2.2.2.2.1), .str (r.2.2.2.2.2)]]] (a0b false (.sl 119 4 (x.length) (x.flatMap a0F))) (a0b false (.sl 119 4 ((x.filter (a1E r)).length) ((x.filter (a1E r)).flatMap a0F))) := by
 refine ⟨a0O Tryz.func125 rfl Tryz.ntmps125 Tryz.results125 rfl (fun C => ?_)⟩
 iterate 6 refine z ?_
 refine a3T rfl rfl rfl Tryz.call123 c7Z (a0g (a0a rfl) (a0C (a0X rfl rfl)) (a0g (a0a rfl) c8H a0q)) rfl rfl ?_
 iterate 7 refine z ?_
 refine yQ rfl (fun c1 => ?_) fun c1 => ?_
 ·have d1 := c9f c1
  have hn := (a9d (p := a4L r) (d := default) x 0 (by omega)).resolve_right (fun ⟨m, h1, h2, _⟩ => by omega)
  rw [← b5N r] at hn
  have hfe := c4z hn.2
  iterate 4 refine z ?_
  refine a0h (σ' := ⟨[(4, .one (.key 0))], [], [(0, some (a0b false (.sl 119 4 ((x.filter (a1E r)).length) ((x.filter (a1E r)).flatMap a0F))))]⟩) (a0e ⟨rfl, trivial⟩ trivial ⟨(congrArg (fun l : List a0T => some (some (KC.mk false 119 4 l.length (l.flatMap a0F)))) hfe.symm), trivial⟩ rfl) ?_
  iterate 2 refine z ?_
  refine a1r (a0l rfl) ?_
  exact ⟨rfl, rfl⟩
 ·have d1 := c9g c1
  obtain ⟨m, hm1, hm2, hm3, hm4⟩ := (a9d (p := a4L r) (d := default) x 0 (by omega)).resolve_left (fun h => d1 h.1)
  rw [← b5N r] at hm3
  have hm5 : a1E r (x.getD m default) = false := by unfold a1E; rw [show a6g (x.getD m default).1 r = true from hm4]; rfl
  have hst := c0W (enc := a0F) hm1 hm3 hm5
  iterate 9 refine z ?_
  refine a1o (ι := Nat × Nat × List DV) (fun zz => ⟨[(0, .one (.key 0)), (1, .fn 126 [[.bool (r.1), .bool (r.2.1), .int .i64 (r.2.2.1.1), .int .i64 (r.2.2.1.2.1), .str (r.2.2.1.2.2), .int .i64 (r.2.2.2.1), .int .i64 (r.2.2.2.2.1), .str (r.2.2.2.2.2)]]), (4, .one .nil), (5, .one (.dv [] (.int .i64 ((zz.1 : Int))))), (6, .one (.dv [] (.int .i64 ((zz.2.1 : Int)))))], [], [(0, some (a0b false (.sl 119 4 (x.length) (a3j a0F (a1E r) x zz.2.1 zz.2.2))))]⟩) (fun zz => zz.1 = ((x.take zz.2.1).filter (a1E r)).length ∧ zz.1 < zz.2.1 ∧ zz.2.1 ≤ x.length ∧ zz.2.2.length + zz.1 * 4 = zz.2.1 * 4) (fun zz => x.length - zz.2.1) ((m, m + 1, a0F (x.getD m default))) ?_ (a0e ⟨rfl, rfl, rfl, (congrArg (fun z : Int => some (SV.one (CV.dv [] (DV.int .i64 z)))) (show a0s (a4L r) x 0 = (m : Int) by omega)), (congrArg (fun z : Int => some (SV.one (CV.dv [] (DV.int .i64 z)))) (show a0s (a4L r) x 0 + 1 = ((m + 1 : Nat) : Int) by omega)), trivial⟩ trivial ⟨(congrArg (fun cs => some (some (KC.mk false 119 4 x.length cs))) (hst.1)), trivial⟩ rfl) (fun zz hx => ?_)
  ·exact ⟨hst.2, by show m < m + 1; omega, by show m + 1 ≤ x.length; omega, by show 4 + m * 4 = (m + 1) * 4; omega⟩
  obtain ⟨i, k, G⟩ := zz
  replace hx : i = ((x.take k).filter (a1E r)).length ∧ i < k ∧ k ≤ x.length ∧ G.length + i * 4 = k * 4 := hx
  obtain ⟨hi, hik, hk, hG⟩ := hx
  show Ok _ _ _ _ _ (⟨[(0, .one (.key 0)), (1, .fn 126 [[.bool (r.1), .bool (r.2.1), .int .i64 (r.2.2.1.1), .int .i64 (r.2.2.1.2.1), .str (r.2.2.1.2.2), .int .i64 (r.2.2.2.1), .int .i64 (r.2.2.2.2.1), .str (r.2.2.2.2.2)]]), (4, .one .nil), (5, .one (.dv [] (.int .i64 ((i : Int))))), (6, .one (.dv [] (.int .i64 ((k : Int)))))], [], [(0, some (a0b false (.sl 119 4 (x.length) (a3j a0F (a1E r) x k G))))]⟩ : St)
  iterate 4 refine z ?_
  refine yO rfl rfl (a2I (n := (x.length)) hT rfl rfl (a0a rfl) rfl rfl) rfl ?_
  iterate 2 refine z ?_
  refine yQ rfl (fun c2 => ?_) fun c2 => ?_
  ·have d2 := c9f c2
   have hk2 : k < x.length := by omega
   iterate 7 refine z ?_
   refine yO rfl rfl (a5d (i := k) hT rfl rfl rfl (a0a rfl) rfl (a0a rfl) rfl (by show _ < (x.length); omega)) rfl ?_
   refine yO rfl rfl (b4l (ds := [.int .i64 ((x.getD (k : Int).toNat default).1.1), .int .i64 ((x.getD (k : Int).toNat default).1.2.1), .str ((x.getD (k : Int).toNat default).1.2.2), a0I ((x.getD (k : Int).toNat default).2)]) hT rfl rfl (a0a rfl) rfl rfl (by decide) (b6W (enc := a0F) (q := a1E r) (sz := 4) (fun _ => rfl) hi hG hk2)) rfl ?_
   iterate 6 refine z ?_
   refine b0j rfl rfl rfl (a0a rfl) Tryz.call126 b6p (a0g (a0a rfl) (a0t (a0d a0c (a0d a0c (a0d a0c (a0d a8U a0r))))) a0q) rfl rfl ?_
   iterate 2 refine z ?_
   refine yQ rfl (fun c3 => ?_) fun c3 => ?_
   ·have hq : a1E r (x.getD k default) = true := c3
    have hy := c3b (q := a1E r) hk2 hq
    iterate 4 refine z ?_
    refine yO rfl rfl (a5d (i := i) hT rfl rfl rfl (a0a rfl) rfl (a0a rfl) rfl (by show _ < (x.length); omega)) rfl ?_
    refine c6K (src := k * 4) (ds := [.int .i64 ((x.getD (k : Int).toNat default).1.1), .int .i64 ((x.getD (k : Int).toNat default).1.2.1), .str ((x.getD (k : Int).toNat default).1.2.2), a0I ((x.getD (k : Int).toNat default).2)]) (cs := a3j a0F (a1E r) x (k + 1) (G.drop 4 ++ List.replicate 4 .hole)) hT rfl rfl rfl rfl (a0a rfl) (a0a rfl) rfl rfl (b6W (enc := a0F) (q := a1E r) (sz := 4) (fun _ => rfl) hi hG hk2) (by omega) (by rw [c7d (sz := 4) (fun _ => rfl) hi hG hk]; omega) (c6h (sz := 4) (fun _ => rfl) hi hG hk2 hik hq) ?_
    simp only [a0p, a0k, SV.kill, CV.kill, kk, Nat.reduceBEq]
    refine z ?_
    refine a0n ?_
    iterate 3 refine z ?_
    refine a1H ?_
    iterate 2 refine z ?_
    refine a0n ?_
    iterate 4 refine z ?_
    refine ⟨(i + 1, k + 1, (G.drop 4 ++ List.replicate 4 .hole)), ?_, ?_, a0e ⟨rfl, rfl, rfl, rfl, rfl, trivial⟩ trivial ⟨rfl, trivial⟩ rfl⟩
    ·exact ⟨by dsimp only; omega, by dsimp only; omega, by dsimp only; omega, by simp; omega⟩
    ·dsimp only; omega
   ·have hq : a1E r (x.getD k default) = false := c3
    have hno := c6q (enc := a0F) (q := a1E r) (sz := 4) (G := G) (fun _ => rfl) hk2 hq
    iterate 3 refine z ?_
    refine a0n ?_
    iterate 4 refine z ?_
    refine ⟨(i, k + 1, G ++ a0F (x.getD k default)), ?_, ?_, a0e ⟨rfl, rfl, rfl, rfl, rfl, trivial⟩ trivial ⟨(congrArg (fun cs => some (some (KC.mk false 119 4 x.length cs))) (hno.1)), trivial⟩ rfl⟩
    ·exact ⟨by dsimp only; omega, by dsimp only; omega, by dsimp only; omega, by show (G ++ a0F _).length + i * 4 = (k + 1) * 4; rw [c9i]; show G.length + 4 + i * 4 = _; omega⟩
    ·dsimp only; omega
  ·have d2 := c9g c2
   iterate 8 refine z ?_
   refine yO rfl rfl (c7T (j := 0) (n := (x.length)) (lo := i) (sz := 4) (z := (i : Int)) hT rfl rfl rfl (a0a rfl) rfl (a0a rfl) rfl rfl (by omega) (by omega)) rfl ?_
   refine c6g (k := 0) (lo := i) (hi := (x.length)) (sz := 4) (cs := (x.filter (a1E r)).flatMap a0F ++ List.replicate ((x.length - i) * 4) .hole) hT rfl rfl rfl rfl rfl rfl (a0a rfl) rfl rfl rfl (by first | omega | (dsimp only [a0b]; omega)) (by first | omega | (dsimp only [a0b]; omega)) (c8r (sz := 4) (fun _ => rfl) hi hG (by omega)) ?_
   simp only [a0p, a0k, SV.kill, CV.kill, kk, Nat.reduceBEq]
   iterate 4 refine z ?_
   refine yO rfl rfl (c2w (j := 0) (n := (x.length)) (hi := i) (sz := 4) (z := (i : Int)) hT rfl rfl rfl (a0a rfl) rfl (a0a rfl) rfl rfl (by omega) (by omega)) rfl ?_
   iterate 2 refine z ?_
   have hke : k = x.length := by omega
   have hi2 : i = (x.filter (a1E r)).length := by rw [hi, hke, List.take_length]
   refine a0h (c4g (s := 4) (k := 0) (m := i) (sz := 4) (cs := (x.filter (a1E r)).flatMap a0F) rfl rfl rfl rfl (by first | omega | (dsimp only [a0b]; omega)) (c4l (sz := 4) (fun _ => rfl) hi2)) ?_
   simp only [a0p, a0k, SV.kill, CV.kill, kk, Nat.reduceBEq]
   refine a0h (σ' := ⟨[(4, .one (.key 0))], [], [(0, some (a0b false (.sl 119 4 ((x.filter (a1E r)).length) ((x.filter (a1E r)).flatMap a0F))))]⟩) (a0e ⟨rfl, trivial⟩ trivial ⟨(congrArg (fun n : Nat => some (some (KC.mk false 119 4 n ((x.filter (a1E r)).flatMap a0F)))) hi2), trivial⟩ rfl) ?_
   refine z ?_
   refine a1r (a0l rfl) ?_
   exact ⟨rfl, rfl⟩
theorem b7K {x : a0G} {r : a3R} (hb : a1g x ≤ 1099511627776) : KFn Tryz.prog 109 [.agg [(.dv [] (.str (x.1))), (.dv [] (a0w (x.2.1))), (.dv [] (.int .i64 (x.2.2)))], .agg [(.dv [] (.bool (r.1))), (.dv [] (.bool (r.2.1))), (.dv [] (.int .i64 (r.2.2.1.1))), (.dv [] (.int .i64 (r.2.2.1.2.1))), (.dv [] (.str (r.2.2.1.2.2))), (.dv [] (.int .i64 (r.2.2.2.1))), (.dv [] (.int .i64 (r.2.2.2.2.1))), (.dv [] (.str (r.2.2.2.2.2)))]] (.tup [(true, [(.dv [] (.str ((a1N x r).1.1))), (.key 9001), (.dv [] (.int .i64 ((a1N x r).1.2.2)))]), (false, [(.dv [] (.int .i64 ((a1N x r).2)))])]) [(9001, some (a0b false (a0w ((a1N x r).1.2.1))))] := by
 refine ⟨a0O Tryz.func109 rfl Tryz.ntmps109 Tryz.results109 rfl (fun C => ?_)⟩
 have hlen : x.2.1.length ≤ 1099511627776 := by have h3 : a1g x = x.1.size + (x.2.1.length + a0V a1P x.2.1) := rfl; omega
 have hfl := List.length_filter_le (a1E r) x.2.1
 refine yF 0 0 rfl rfl fun f0_0 => ?_
 refine yF 0 1 rfl rfl fun f0_1 => ?_
 refine yF 0 2 rfl rfl fun f0_2 => ?_
 refine yF 1 2 rfl rfl fun f1_2 => ?_
 refine yF 1 3 rfl rfl fun f1_3 => ?_
 refine yF 1 4 rfl rfl fun f1_4 => ?_
 refine yF 1 5 rfl rfl fun f1_5 => ?_
 refine yF 1 6 rfl rfl fun f1_6 => ?_
 refine yF 1 7 rfl rfl fun f1_7 => ?_
 iterate 8 refine z ?_
 refine zK 8971 Tryz.call57 ?_ (hf := a6n (x := x) (by omega))
 iterate 6 refine z ?_
 refine zC Tryz.call74 ?_ (hf := a8v (s := x) )
 iterate 2 refine z ?_
 refine yQ rfl (fun c1 => ?_) fun c1 => ?_
 ·iterate 5 refine z ?_
  rw [b9q c1]
  refine a0h (σ' := ⟨[(4, .box 4 0), (5, .one (.dv [] (.int .i64 (0))))], [(4, 77, [(.dv [] (.str ((x).1))), (.key 9001), (.dv [] (.int .i64 ((x).2.2)))])], [(9001, some (a0b false (a0w (x.2.1))))]⟩) (a0e ⟨rfl, rfl, trivial⟩ ⟨rfl, trivial⟩ ⟨rfl, trivial⟩ rfl) ?_
  iterate 2 refine z ?_
  refine a1u (a0E hT rfl rfl rfl rfl) (a0l rfl) rfl rfl ?_
  first | exact ⟨rfl, rfl⟩ | skip
 ·iterate 5 refine z ?_
  refine yO rfl rfl (b1S rfl (a0a rfl)) rfl ?_
  refine c7X (k := 9001) rfl rfl rfl rfl Tryz.call125 (c4a (x := x.2.1) (r := r) (by omega)) (a0a rfl) rfl (rfl) rfl (c7K (a0a rfl) (c7c (b0Z rfl rfl b1G)) c0V) ?_
  simp only [a0p, a0k, SV.kill, CV.kill, kk, Nat.reduceBEq]
  iterate 3 refine z ?_
  refine a0u ?_
  refine a9I 4 (oB := [2, 3, 6]) (oK := [9001]) (by kernel_rfl) rfl rfl ?_
  refine a1I 0 rfl (by kernel_rfl) rfl rfl (a4I hT rfl rfl (a0a rfl) rfl rfl) rfl rfl rfl rfl rfl ?_
  refine a1I 1 rfl (by kernel_rfl) rfl rfl (a5E hT rfl rfl rfl (a0a rfl)) rfl rfl rfl rfl rfl ?_
  refine a1I 2 rfl (by kernel_rfl) rfl rfl (a4d hT rfl rfl (a0a rfl) rfl rfl) rfl rfl rfl rfl rfl ?_
  refine a1I 3 rfl (by kernel_rfl) rfl rfl (a6R hT rfl rfl (a0a rfl)) rfl rfl rfl rfl rfl ?_
  refine a1I 4 rfl (by kernel_rfl) rfl rfl (a5E hT rfl rfl rfl (a0a rfl)) rfl rfl rfl rfl rfl ?_
  refine a1I 5 rfl (by kernel_rfl) rfl rfl (a4d hT rfl rfl (a0a rfl) rfl rfl) rfl rfl rfl rfl rfl ?_
  refine a1I 6 rfl (by kernel_rfl) rfl rfl (a2I (n := ((x.2.1.filter (a1E r)).length)) hT rfl rfl (a0a rfl) rfl rfl) rfl rfl rfl rfl rfl ?_
  refine a1I 7 rfl (by kernel_rfl) rfl rfl (a9u rfl (a0a rfl) (a0a rfl) (a2P (by omega) (by omega))) rfl rfl rfl rfl rfl ?_
  refine a9c 8 rfl (by kernel_rfl) rfl hT rfl rfl rfl (a0a rfl) (a0a rfl) rfl rfl rfl rfl rfl rfl ?_
  refine a9F [9] rfl rfl (by kernel_rfl) ?_
  iterate 2 refine z ?_
  rw [b7k c1]
  refine a0h (σ' := ⟨[(4, .box 4 0), (5, .one (.dv [] (.int .i64 (((((x.2.1)).length : Int)) - ((((x.2.1.filter (a1E r)).length) : Int))))))], [(4, 77, [(.dv [] (.str ((x).1))), (.key 9001), (.dv [] (.int .i64 ((x).2.2)))])], [(9001, some (a0b false (a0w (x.2.1.filter (a1E r)))))]⟩) (a0e ⟨rfl, rfl, trivial⟩ ⟨rfl, trivial⟩ ⟨rfl, trivial⟩ rfl) ?_
  refine z ?_
  refine a1u (a0E hT rfl rfl rfl rfl) (a0l rfl) rfl rfl ?_
  first | exact ⟨rfl, rfl⟩ | skip
theorem b5n {x : a0G} {r : a3R} (hb : a1g x ≤ 1099511627776) : KFn Tryz.prog 91 [.agg [(.dv [] (.str (x.1))), (.dv [] (a0w (x.2.1))), (.dv [] (.int .i64 (x.2.2)))], .agg [(.dv [] (.bool (r.1))), (.dv [] (.bool (r.2.1))), (.dv [] (.int .i64 (r.2.2.1.1))), (.dv [] (.int .i64 (r.2.2.1.2.1))), (.dv [] (.str (r.2.2.1.2.2))), (.dv [] (.int .i64 (r.2.2.2.1))), (.dv [] (.int .i64 (r.2.2.2.2.1))), (.dv [] (.str (r.2.2.2.2.2)))]] (.tup [(true, [(.dv [] (.str ((a1N x r).1.1))), (.key 9001), (.dv [] (.int .i64 ((a1N x r).1.2.2)))]), (false, [(.dv [] (.int .i64 ((a1N x r).2)))])]) [(9001, some (a0b false (a0w ((a1N x r).1.2.1))))] := by
 refine ⟨a0O Tryz.func91 rfl Tryz.ntmps91 Tryz.results91 rfl (fun C => ?_)⟩
 have hlen : x.2.1.length ≤ 1099511627776 := by have h3 : a1g x = x.1.size + (x.2.1.length + a0V a1P x.2.1) := rfl; omega
 have hfl := List.length_filter_le (a1E r) x.2.1
 refine yF 0 0 rfl rfl fun f0_0 => ?_
 refine yF 0 1 rfl rfl fun f0_1 => ?_
 refine yF 0 2 rfl rfl fun f0_2 => ?_
 refine yF 1 2 rfl rfl fun f1_2 => ?_
 refine yF 1 3 rfl rfl fun f1_3 => ?_
 refine yF 1 4 rfl rfl fun f1_4 => ?_
 refine yF 1 5 rfl rfl fun f1_5 => ?_
 refine yF 1 6 rfl rfl fun f1_6 => ?_
 refine yF 1 7 rfl rfl fun f1_7 => ?_
 iterate 9 refine z ?_
 refine zC Tryz.call50 ?_ (hf := b3T (s := x) )
 iterate 2 refine z ?_
 refine yQ rfl (fun c1 => ?_) fun c1 => ?_
 ·iterate 2 refine z ?_
  refine zK 8971 Tryz.call49 ?_ (hf := a7B (x := x) (by omega))
  iterate 3 refine z ?_
  rw [b9q c1]
  refine a0h (σ' := ⟨[(4, .box 4 0), (5, .one (.dv [] (.int .i64 (0))))], [(4, 77, [(.dv [] (.str ((x).1))), (.key 9001), (.dv [] (.int .i64 ((x).2.2)))])], [(9001, some (a0b false (a0w (x.2.1))))]⟩) (a0e ⟨rfl, rfl, trivial⟩ ⟨rfl, trivial⟩ ⟨rfl, trivial⟩ rfl) ?_
  iterate 2 refine z ?_
  refine a1u (a0E hT rfl rfl rfl rfl) (a0l rfl) rfl rfl ?_
  exact ⟨rfl, rfl⟩
 ·iterate 7 refine z ?_
  refine yO rfl rfl (a1v hT hB rfl rfl rfl (a1c (a0a rfl) rfl rfl rfl rfl rfl (a1c (a0a rfl) rfl rfl rfl rfl rfl a1w))) rfl ?_
  iterate 3 refine z ?_
  refine a0u ?_
  refine a0u ?_
  refine a0h (a3p 9001 (b := 6) (i := 1) (e := 119) (sz := 4) rfl rfl rfl rfl rfl) ?_
  simp only [a0p, a0k, SV.kill, CV.kill, kk, Nat.reduceBEq]
  refine a0n ?_
  iterate 3 refine z ?_
  refine a1o (ι := Nat) (fun zz => ⟨[(2, .box 2 0), (3, .box 3 0), (4, .box 4 0), (5, .one (.dv [] (.int .i64 (0)))), (6, .box 6 0), (7, .one (.dv [] (.int .i64 ((zz : Int)))))], [(2, 77, [(.dv [] (.str (x.1))), (.dv [] (a0w (x.2.1))), (.dv [] (.int .i64 (x.2.2)))]), (3, 146, [(.dv [] (.bool (r.1))), (.dv [] (.bool (r.2.1))), (.dv [] (.int .i64 (r.2.2.1.1))), (.dv [] (.int .i64 (r.2.2.1.2.1))), (.dv [] (.str (r.2.2.1.2.2))), (.dv [] (.int .i64 (r.2.2.2.1))), (.dv [] (.int .i64 (r.2.2.2.2.1))), (.dv [] (.str (r.2.2.2.2.2)))]), (4, 77, [(.dv [] (.str (ByteArray.empty))), .nil, (.dv [] (.int .i64 (0)))]), (6, 77, [(.dv [] (.str (x.1))), (.key 9001), (.dv [] (.int .i64 (x.2.2)))])], [(9001, some (a0b false (.sl 119 4 (((x.2.1.take zz).filter (a1E r)).length) (((x.2.1.take zz).filter (a1E r)).flatMap a0F))))]⟩) (fun zz => zz ≤ x.2.1.length) (fun zz => x.2.1.length - zz) (0) ?_ (a0e ⟨rfl, rfl, rfl, rfl, rfl, rfl, trivial⟩ ⟨rfl, rfl, rfl, rfl, trivial⟩ ⟨rfl, trivial⟩ rfl) (fun zz hx => ?_)
  ·exact Nat.zero_le _
  obtain ⟨k, rfl⟩ : ∃ v, v = zz := ⟨_, rfl⟩
  replace hx : k ≤ x.2.1.length := hx
  have hw := fun h => a5D a1P x.2.1 k h
  show Ok _ _ _ _ _ (⟨[(2, .box 2 0), (3, .box 3 0), (4, .box 4 0), (5, .one (.dv [] (.int .i64 (0)))), (6, .box 6 0), (7, .one (.dv [] (.int .i64 ((k : Int)))))], [(2, 77, [(.dv [] (.str (x.1))), (.dv [] (a0w (x.2.1))), (.dv [] (.int .i64 (x.2.2)))]), (3, 146, [(.dv [] (.bool (r.1))), (.dv [] (.bool (r.2.1))), (.dv [] (.int .i64 (r.2.2.1.1))), (.dv [] (.int .i64 (r.2.2.1.2.1))), (.dv [] (.str (r.2.2.1.2.2))), (.dv [] (.int .i64 (r.2.2.2.1))), (.dv [] (.int .i64 (r.2.2.2.2.1))), (.dv [] (.str (r.2.2.2.2.2)))]), (4, 77, [(.dv [] (.str (ByteArray.empty))), .nil, (.dv [] (.int .i64 (0)))]), (6, 77, [(.dv [] (.str (x.1))), (.key 9001), (.dv [] (.int .i64 (x.2.2)))])], [(9001, some (a0b false (.sl 119 4 (((x.2.1.take k).filter (a1E r)).length) (((x.2.1.take k).filter (a1E r)).flatMap a0F))))]⟩ : St)
  iterate 8 refine z ?_
  refine yQ rfl (fun c2 => ?_) fun c2 => ?_
  ·have d2 := c9f c2
   have hk2 : k < x.2.1.length := by omega
   have hrec : a1P (x.2.1.getD (k : Int).toNat default) ≤ 1099511627776 := by have := hw hk2; have h3 : a1g x = x.1.size + (x.2.1.length + a0V a1P x.2.1) := rfl; omega
   iterate 4 refine z ?_
   refine a0u ?_
   refine a1K (oB := [2, 3, 4, 6]) (oK := [9001]) (by kernel_rfl) rfl rfl ?_
   refine zD 0 ?_
   refine zD 1 ?_
   refine zD 2 ?_
   refine zD 3 ?_
   refine zD 4 ?_
   refine zD 5 ?_
   refine zD 6 ?_
   refine a5C 7 rfl (by kernel_rfl) rfl rfl rfl Tryz.call116 (c8N (x := (((x.2.1)).getD ((k : Int)).toNat default).1) (y := r) ) (a0g (a0a rfl) (a0t (a0d a0c (a0d a0c (a0d a0c a0r)))) (a0g (a0a rfl) (a0t (a0d a0c (a0d a0c (a0d a0c (a0d a0c (a0d a0c (a0d a0c (a0d a0c (a0d a0c a0r))))))))) a0q)) rfl rfl rfl rfl ?_
   refine zD 8 ?_
   refine a1Q (by kernel_rfl) ?_
   refine z ?_
   refine yQ rfl (fun c3 => ?_) fun c3 => ?_
   ·have hq : a1E r (x.2.1.getD (k : Int).toNat default) = true := c3
    refine a5w [0, 1, 2, 3, 4, 5, 6, 7, 8] (oB := [2, 3, 4, 6]) (oK := [9001]) (by kernel_rfl) rfl rfl ?_
    refine zD 0 ?_
    refine zD 1 ?_
    refine zD 2 ?_
    refine zD 3 ?_
    refine zD 4 ?_
    refine zD 5 ?_
    refine zD 6 ?_
    refine a2G 41000 7 rfl (by kernel_rfl) rfl rfl rfl Tryz.call84 (b4p (x := (x.2.1.getD (k : Int).toNat default)) (by exact Nat.le_trans (a6d _) hrec)) (a0g (a0a rfl) (a0t (a0d a0c (a0d a0c (a0d a0c (a0d a0c a0r))))) a0q) rfl rfl rfl rfl rfl ?_
    refine a7O (k := 42) (js := [48003]) 8 hT rfl (by kernel_rfl) rfl rfl rfl rfl rfl rfl rfl rfl rfl (a0a rfl) rfl rfl (a0o (a0R rfl) (a0o (a0R rfl) (a0o (a0R rfl) (a0o (a1f rfl) a1y rfl) rfl) rfl) rfl) (by decide) (by decide) rfl rfl (by decide) ?_
    simp only [a0p, a0k, SV.kill, CV.kill, kk, Nat.reduceBEq]
    refine a3y [9, 10, 11] rfl rfl (by kernel_rfl) ?_
    refine a3f (k := 9001) (j := 42) (cs := ((x.2.1.take (k + 1)).filter (a1E r)).flatMap a0F) (n := ((x.2.1.take (k + 1)).filter (a1E r)).length) hT rfl rfl rfl rfl rfl rfl rfl (a0a rfl) rfl rfl rfl (a0a rfl) rfl rfl (by decide) (by have := List.length_filter_le (a1E r) (x.2.1.take k); rw [c9j] at this; dsimp only [a0b]; omega) (by have := List.length_filter_le (a1E r) (x.2.1.take k); rw [c9j] at this; dsimp only [a0b]; omega) ((b6q hk2 hq).2) ((b6q hk2 hq).1) ?_
    simp only [a0p, a0k, SV.kill, CV.kill, kk, Nat.reduceBEq]
    iterate 2 refine z ?_
    refine a1H ?_
    iterate 2 refine z ?_
    refine a0n ?_
    iterate 4 refine z ?_
    refine ⟨k + 1, ?_, ?_, a0e ⟨rfl, rfl, rfl, rfl, rfl, rfl, trivial⟩ ⟨rfl, rfl, rfl, rfl, trivial⟩ ⟨rfl, trivial⟩ rfl⟩
    ·omega
    ·omega
   ·have hq : a1E r (x.2.1.getD (k : Int).toNat default) = false := c3
    iterate 3 refine z ?_
    refine a0n ?_
    iterate 4 refine z ?_
    refine ⟨k + 1, ?_, ?_, a0e ⟨rfl, rfl, rfl, rfl, rfl, rfl, trivial⟩ ⟨rfl, rfl, rfl, rfl, trivial⟩ ⟨(congrArg (fun l : List a0T => some (some (KC.mk false 119 4 l.length (l.flatMap a0F)))) (c3G hk2 hq)), trivial⟩ rfl⟩
    ·omega
    ·omega
  ·have d2 := c9g c2
   have hfin : ((x.2.1.take k).filter (a1E r)) = (x.2.1.filter (a1E r)) := by rw [List.take_of_length_le (by omega)]
   have hfl2 : ((x.2.1.take k).filter (a1E r)).length ≤ x.2.1.length := by rw [hfin]; exact hfl
   iterate 5 refine z ?_
   refine a0u ?_
   refine a9I 4 (oB := [2, 3, 6]) (oK := [9001]) (by kernel_rfl) rfl rfl ?_
   refine a1I 0 rfl (by kernel_rfl) rfl rfl (a4I hT rfl rfl (a0a rfl) rfl rfl) rfl rfl rfl rfl rfl ?_
   refine a1I 1 rfl (by kernel_rfl) rfl rfl (a5E hT rfl rfl rfl (a0a rfl)) rfl rfl rfl rfl rfl ?_
   refine a1I 2 rfl (by kernel_rfl) rfl rfl (a4d hT rfl rfl (a0a rfl) rfl rfl) rfl rfl rfl rfl rfl ?_
   refine a1I 3 rfl (by kernel_rfl) rfl rfl (a6R hT rfl rfl (a0a rfl)) rfl rfl rfl rfl rfl ?_
   refine a1I 4 rfl (by kernel_rfl) rfl rfl (a5E hT rfl rfl rfl (a0a rfl)) rfl rfl rfl rfl rfl ?_
   refine a1I 5 rfl (by kernel_rfl) rfl rfl (a4d hT rfl rfl (a0a rfl) rfl rfl) rfl rfl rfl rfl rfl ?_
   refine a1I 6 rfl (by kernel_rfl) rfl rfl (a2I (n := (((x.2.1.take k).filter (a1E r)).length)) hT rfl rfl (a0a rfl) rfl rfl) rfl rfl rfl rfl rfl ?_
   refine a1I 7 rfl (by kernel_rfl) rfl rfl (a9u rfl (a0a rfl) (a0a rfl) (a2P (by omega) (by omega))) rfl rfl rfl rfl rfl ?_
   refine a9c 8 rfl (by kernel_rfl) rfl hT rfl rfl rfl (a0a rfl) (a0a rfl) rfl rfl rfl rfl rfl rfl ?_
   refine a9F [9] rfl rfl (by kernel_rfl) ?_
   iterate 2 refine z ?_
   rw [b7k c1]
   refine a0h (σ' := ⟨[(4, .box 4 0), (5, .one (.dv [] (.int .i64 (((((x.2.1)).length : Int)) - (((((x.2.1.take k).filter (a1E r)).length) : Int))))))], [(4, 77, [(.dv [] (.str (x.1))), (.key 9001), (.dv [] (.int .i64 (x.2.2)))])], [(9001, some (a0b false (a0w (x.2.1.filter (a1E r)))))]⟩) (a0e ⟨rfl, rfl, trivial⟩ ⟨rfl, trivial⟩ ⟨(congrArg (fun l : List a0T => some (some (KC.mk false 119 4 l.length (l.flatMap a0F)))) hfin), trivial⟩ rfl) ?_
   refine z ?_
   refine a1u (a0E hT rfl rfl rfl rfl) (a0l rfl) rfl rfl ?_
   exact ⟨by rw [hfin], rfl⟩
theorem b7N : ∀ x : List UInt8, Op.bytesLess x x = false
 | [] => rfl
 | a :: x => by simp [Op.bytesLess, b7N x]
theorem b7M : ∀ x y z : List UInt8, Op.bytesLess x y = true → Op.bytesLess y z = true → Op.bytesLess x z = true
 | x, [], z, h, _ => by cases x <;> simp [Op.bytesLess] at h
 | x, b :: y, [], _, h => by simp [Op.bytesLess] at h
 | [], b :: y, c :: z, _, _ => rfl
 | a :: x, b :: y, c :: z, h1, h2 => by
  simp only [Op.bytesLess, Bool.or_eq_true, decide_eq_true_eq, Bool.and_eq_true, beq_iff_eq] at h1 h2 ⊢
  rcases h1 with h1 | ⟨rfl, h1⟩
  ·rcases h2 with h2 | ⟨rfl, h2⟩
   ·exact .inl (UInt8.lt_trans h1 h2)
   ·exact .inl h1
  ·rcases h2 with h2 | ⟨rfl, h2⟩
   ·exact .inl h2
   ·exact .inr ⟨rfl, b7M x y z h1 h2⟩
def a2n (n : Str) : a0v → Nat
 | [] => 0
 | y :: ys => if sLt y.1 n then a2n n ys + 1 else 0
def a3u (l : a0v) (i : Nat) (v : Int) : a0v := l.set i ((l.getD i default).1, v)
def a2s (l : a0v) (j : Nat) (y : a4A) : a0v := l.take j ++ y :: l.drop j
def a5p (n : Str) (r : a0v) : Bool := decide (a2n n r < r.length) && sEq (r.getD (a2n n r) default).1 n
def a4w (r : a0v) (n : Str) (v : Int) : a0v := if a5p n r then a3u r (a2n n r) v else a2s r (a2n n r) (n, v)
def a1G (r : a0v) (n : Str) (v : Int) : a0v × Bool := if !a1b r || !a1b (a4w r n v) then (r, false) else (a4w r n v, true)
theorem b0G {r o : a0v} {n : Str} {v : Int} (ho : a1b r = true → o = a4w r n v) (h : (!a1b r || !a1b o) = true) : a1G r n v = (r, false) := by
 unfold a1G
 by_cases hr : a1b r = true
 ·rw [← ho hr, if_pos h]
 ·rw [if_pos (by simp [hr])]
theorem b0F {r o : a0v} {n : Str} {v : Int} (ho : a1b r = true → o = a4w r n v) (h : (!a1b r || !a1b o) = false) : a1G r n v = (o, true) := by
 have hr : a1b r = true := by cases hh : a1b r <;> simp_all
 rw [a1G, ← ho hr, if_neg (by rw [h]; simp)]
theorem b2D {l : a0v} {j : Nat} (h : j < l.length) : l.drop j = l.getD j default :: l.drop (j + 1) := by
 rw [List.drop_eq_getElem_cons h]
 simp [List.getD, List.getElem?_eq_getElem h]
def srt : a0v → Prop
 | [] => True
 | y :: ys => (∀ z ∈ ys, sLt y.1 z.1 = true) ∧ srt ys
theorem b5u {r : a0v} (h : a1b r = true) (i : Nat) (hi : i + 1 < r.length) : sLt (r.getD i default).1 (r.getD (i + 1) default).1 = true := by
 rw [a1b, Bool.and_eq_true, List.all_eq_true] at h
 have := h.1 (i + 1) (List.mem_range.2 hi)
 simp only [a4N, Bool.not_eq_true', Bool.or_eq_false_iff, Int.toNat_natCast] at this
 have h2 := this.2
 rw [decide_eq_true (by omega : (0 : Int) < ((i + 1 : Nat) : Int)), Bool.true_and, a7i, show (((i + 1 : Nat) : Int) - 1).toNat = i by omega] at h2
 simpa using h2
theorem b2F : ∀ (l : a0v), (∀ i, i + 1 < l.length → sLt (l.getD i default).1 (l.getD (i + 1) default).1 = true) → srt l
 | [], _ => trivial
 | [y], _ => ⟨by simp, trivial⟩
 | y :: z :: l, h => by
  have ih := b2F (z :: l) (fun i hi => by have := h (i + 1) (by simp only [List.length_cons] at hi ⊢; omega); simpa using this)
  have h0 : sLt y.1 z.1 = true := by simpa using h 0 (by simp)
  refine ⟨fun u hu => ?_, ih⟩
  rcases List.mem_cons.1 hu with rfl | hu
  ·exact h0
  ·exact b7M _ _ _ h0 (ih.1 u hu)
theorem b7Z {a b n : Str} (h : sEq a b = true) : sLt n a = sLt n b ∧ sLt a n = sLt b n := by
 have : a.toList = b.toList := by simpa [sEq] using h
 exact ⟨by unfold sLt; rw [this], by unfold sLt; rw [this]⟩
theorem b4Z {n : Str} : ∀ (r : a0v) (i : Int), 0 ≤ i → srt r → (∃ k : Nat, k < r.length ∧ a0s (a1X n) r i = i + (k : Int) ∧ a2n n r = k ∧ sEq (r.getD k default).1 n = true) ∨ (a0s (a1X n) r i = -1 ∧ a5p n r = false)
 | [], i, _, _ => .inr ⟨rfl, rfl⟩
 | y :: ys, i, hi, hs => by
  by_cases he : sEq y.1 n = true
  ·refine .inl ⟨0, by simp, by rw [a0s, if_pos (show a1X n y = true from he)]; simp, ?_, by simpa using he⟩
   rw [a2n, if_neg]
   rw [(b7Z (n := n) he).2]
   simp [sLt, b7N]
  ·have hf : a0s (a1X n) (y :: ys) i = a0s (a1X n) ys (i + 1) := by rw [a0s, if_neg (show ¬ a1X n y = true from he)]
   by_cases hl : sLt y.1 n = true
   ·rcases b4Z ys (i + 1) (by omega) hs.2 with ⟨k, h1, h2, h3, h4⟩ | ⟨h1, h2⟩
    ·exact .inl ⟨k + 1, by simpa using h1, by rw [hf, h2]; omega, by rw [a2n, if_pos hl, h3], by simpa using h4⟩
    ·refine .inr ⟨by rw [hf, h1], ?_⟩
     unfold a5p at h2 ⊢
     rw [a2n, if_pos hl]
     simpa using h2
   ·refine .inr ⟨?_, ?_⟩
    ·rw [hf]
     rcases a9d (p := a1X n) (d := default) ys (i + 1) (by omega) with ⟨h1, _⟩ | ⟨m, h1, _, _, h4⟩
     ·exact h1
     ·exfalso
      have hm : ys.getD m default ∈ ys := by simp [List.getD, List.getElem?_eq_getElem h1]
      have := hs.1 _ hm
      rw [(b7Z (n := y.1) h4).1] at this
      exact hl this
    ·unfold a5p
     rw [a2n, if_neg hl]
     simp [he]
theorem b9H {r : a0v} {n : Str} {v : Int} (hr : a1b r = true) (h : 0 ≤ a0s (a1X n) r 0) : a3u r (a0s (a1X n) r 0).toNat v = a4w r n v := by
 rcases b4Z (n := n) r 0 (by omega) (b2F r (b5u hr)) with ⟨k, h1, h2, h3, h4⟩ | ⟨h1, _⟩
 ·have hh : a5p n r = true := by unfold a5p; rw [h3, h4, decide_eq_true h1]; rfl
  rw [a4w, if_pos hh, h3, h2]
  congr 1; omega
 ·omega
theorem c0h {r : a0v} {n : Str} {v : Int} {j : Nat} (hr : a1b r = true) (h : ¬ 0 ≤ a0s (a1X n) r 0) (hj : a2n n r = j) : a2s r j (n, v) = a4w r n v := by
 rcases b4Z (n := n) r 0 (by omega) (b2F r (b5u hr)) with ⟨k, h1, h2, h3, h4⟩ | ⟨_, h1⟩
 ·omega
 ·rw [a4w, if_neg (by rw [h1]; simp), hj]
theorem b5M {r : a0v} {n : Str} {v : Int} {j : Nat} (hj : a2n n r = j) (h : (decide ((j : Int) < (r.length : Int)) && sEq (r.getD (j : Int).toNat default).1 n) = true) : a3u r j v = a4w r n v := by
 have hh : a5p n r = true := by
  rw [Bool.and_eq_true, decide_eq_true_eq, Int.toNat_natCast] at h
  unfold a5p; rw [hj, h.2, decide_eq_true (by omega)]; rfl
 rw [a4w, if_pos hh, hj]
theorem b6Y {r : a0v} {n : Str} {v : Int} {j : Nat} (hj : a2n n r = j) (h : (decide ((j : Int) < (r.length : Int)) && sEq (r.getD (j : Int).toNat default).1 n) = false) : a2s r j (n, v) = a4w r n v := by
 have hh : a5p n r = false := by
  rw [Int.toNat_natCast] at h
  unfold a5p; rw [hj]
  by_cases hl : j < r.length
  ·rw [decide_eq_true (by omega : (j : Int) < (r.length : Int))] at h; rw [decide_eq_true hl]; exact h
  ·rw [decide_eq_false hl]; rfl
 rw [a4w, if_neg (by rw [hh]; simp), hj]
theorem b7S {n : Str} {l : a0v} {j : Nat} (hp : a2n n l = j + a2n n (l.drop j)) (h : (decide ((j : Int) < (l.length : Int)) && sLt (l.getD (j : Int).toNat default).1 n) = true) : j < l.length ∧ a2n n l = (j + 1) + a2n n (l.drop (j + 1)) := by
 obtain ⟨h1, h2⟩ := (Bool.and_eq_true _ _ ▸ h : _ ∧ _)
 have h1 := c9f h1
 rw [Int.toNat_natCast] at h2
 have h3 : j < l.length := by omega
 refine ⟨h3, ?_⟩
 rw [hp, b2D h3, a2n, if_pos h2]
 omega
theorem b6Q {n : Str} {l : a0v} {j : Nat} (hj : j ≤ l.length) (hp : a2n n l = j + a2n n (l.drop j)) (h : (decide ((j : Int) < (l.length : Int)) && sLt (l.getD (j : Int).toNat default).1 n) = false) : a2n n l = j := by
 rcases Nat.lt_or_ge j l.length with h3 | h3
 ·rw [decide_eq_true (by omega : (j : Int) < (l.length : Int)), Bool.true_and, Int.toNat_natCast] at h
  rw [hp, b2D h3, a2n, if_neg (by rw [h]; simp)]
  omega
 ·rw [hp, List.drop_eq_nil_of_le h3, a2n]; omega
theorem b3C (l : a0v) : (l.flatMap a1B).length = l.length * 2 := a4S (enc := a1B) (sz := 2) (fun _ => rfl) l
theorem b3R {l : a0v} {i : Nat} {v : Int} : (a3u l i v).length = l.length := by simp [a3u]
theorem b6c {l : a0v} {i : Nat} {v : Int} (hi : i < l.length) : a1d (i * 2 + 1) [DV.int .i64 v] (l.flatMap a1B) = (a3u l i v).flatMap a1B := by
 have e : l.flatMap a1B = (l.take i).flatMap a1B ++ (a1B (l.getD i default) ++ (l.drop (i + 1)).flatMap a1B) := by
  rw [← List.flatMap_cons, ← b2D hi, ← List.flatMap_append, List.take_append_drop]
 have e2 : (a3u l i v).flatMap a1B = (l.take i).flatMap a1B ++ (a1B ((l.getD i default).1, v) ++ (l.drop (i + 1)).flatMap a1B) := by
  rw [a3u, List.set_eq_take_append_cons_drop, if_pos hi, List.flatMap_append, List.flatMap_cons]
 have hl : ((l.take i).flatMap a1B).length = i * 2 := by rw [b3C, c9j]; omega
 rw [e, e2]
 exact b9p (pre := (l.take i).flatMap a1B) (B := a1B (l.getD i default)) (B' := a1B ((l.getD i default).1, v)) (post := (l.drop (i + 1)).flatMap a1B) (m := i * 2) (off := i * 2 + 1) (j := 1) hl rfl rfl (Nat.le_refl _)
theorem b6j {l : a0v} {j : Nat} {y : a4A} : (a2s l j y).length = l.length + 1 := by simp [a2s]; omega
theorem c3g {o : a0v} {j : Nat} {y : a4A} : a5s (o.flatMap a1B) ((j : Int).toNat * 2) (a1B y) = (a2s o j y).flatMap a1B := by
 obtain ⟨h1, h2⟩ := a7x (enc := a1B) (sz := 2) (fun _ => rfl) j o
 rw [Int.toNat_natCast, a5s, a2s, List.flatMap_append, List.flatMap_cons, h1, h2, List.append_assoc]
theorem b1E (r : a0v) (n : Str) (v : Int) : (a1G r n v).1.length ≤ r.length + 1 := by
 unfold a1G a4w
 repeat' split
 all_goals first | (show r.length ≤ _; omega) | (simp only [b3R, b6j]; omega)
theorem b0T {r : a0v} {n : Str} {v : Int} (hb : r.length ≤ 1099511627776) : KFn Tryz.prog 110 [.agg [(.dv [] (a0I (r)))], .one (.dv [] (.str (n))), .one (.dv [] (.int .i64 (v)))] (.tup [(true, [(.key 9001)]), (false, [(.dv [] (.bool ((a1G r n v).2)))])]) [(9001, some (a0b false (a0I ((a1G r n v).1))))] := by
 refine ⟨a0O Tryz.func110 rfl Tryz.ntmps110 Tryz.results110 rfl (fun C => ?_)⟩
 refine yF 0 0 rfl rfl fun f0_0 => ?_
 refine a1k (x := .tmp 1) (a0a rfl) fun f1 => ?_
 refine a1k (x := .tmp 2) (a0a rfl) fun f2 => ?_
 iterate 7 refine z ?_
 refine zK 8998 Tryz.call117 ?_ (hf := a8g (x := r) (by omega))
 iterate 7 refine z ?_
 refine zC Tryz.call122 ?_ (hf := b8w (x := r) (n := n) )
 iterate 6 refine z ?_
 refine yQ rfl (fun c1 => ?_) fun c1 => ?_
 ·have d1 := c9f c1
  have hlt : (a0s (a1X n) r 0).toNat < r.length := by have := a8a (p := a1X n) r 0 (by omega); omega
  refine a0n ?_
  iterate 4 refine z ?_
  refine yO rfl rfl (a5d (i := (a0s (a1X (n)) (r) 0).toNat) hT rfl rfl rfl (a0a rfl) rfl (a0a rfl) (by omega) (by show _ < ((r)).length; omega)) rfl ?_
  refine z ?_
  refine a8i (js := []) (cs := (a3u r (a0s (a1X n) r 0).toNat v).flatMap a1B) hT rfl rfl rfl rfl (a0a rfl) (a0a rfl) rfl rfl rfl rfl (a0o (a0R rfl) a1y rfl) (by decide) (by decide) rfl (by show _ ≤ List.length ((r).flatMap a1B); rw [b3C]; omega) (b6c (by omega)) ?_
  simp only [a0p, a0k, SV.kill, CV.kill, kk, Nat.reduceBEq]
  refine z ?_
  refine a0u ?_
  refine a0u ?_
  refine a0h (a4V (k := 9001) (c' := a0b false (a0I (a3u r (a0s (a1X n) r 0).toNat v))) rfl (congrArg (fun m => KC.mk false 135 2 m ((a3u r (a0s (a1X n) r 0).toNat v).flatMap a1B)) b3R.symm) rfl) ?_
  refine a0n ?_
  refine z ?_
  refine zC Tryz.call81 ?_ (hf := a7m (r := r) )
  iterate 3 refine z ?_
  refine a1O (a1t rfl rfl rfl rfl rfl) rfl rfl Tryz.call81 (a7m (r := a3u r (a0s (a1X n) r 0).toNat v) ) (fun hg => (a0g (a0y rfl hg) (a0t (a0d (a0X rfl rfl) a0r)) a0q)) rfl rfl ?_
  iterate 3 refine z ?_
  refine yQ rfl (fun c2 => ?_) fun c2 => ?_
  ·refine a0u ?_
   refine a0h (σ' := ⟨[(3, .box 3 0), (6, .box 6 0), (7, .one (.dv [] (.bool (false))))], [(3, 63, [(.dv [] (a0I (r)))]), (6, 63, [.nil])], []⟩) (a0e ⟨rfl, rfl, rfl, trivial⟩ ⟨rfl, rfl, trivial⟩ trivial rfl) ?_
   refine a0n ?_
   refine z ?_
   refine zK 8998 Tryz.call117 ?_ (hf := a8g (x := r) (by omega))
   iterate 3 refine z ?_
   rw [b0G (fun hr => b9H hr d1) c2]
   refine a0h (σ' := ⟨[(6, .box 6 0), (7, .one (.dv [] (.bool (false))))], [(6, 63, [(.key 9001)])], [(9001, some (a0b false (a0I (r))))]⟩) (a0e ⟨rfl, rfl, trivial⟩ ⟨rfl, trivial⟩ ⟨rfl, trivial⟩ rfl) ?_
   iterate 2 refine z ?_
   refine a1u (a0E hT rfl rfl rfl rfl) (a0l rfl) rfl rfl ?_
   first | exact ⟨rfl, rfl⟩ | skip
  ·iterate 7 refine z ?_
   rw [b0F (fun hr => b9H hr d1) c2]
   refine a0h (σ' := ⟨[(6, .box 6 0), (7, .one (.dv [] (.bool (true))))], [(6, 63, [(.key 9001)])], [(9001, some (a0b false (a0I (a3u r (a0s (a1X n) r 0).toNat v))))]⟩) (a0e ⟨rfl, rfl, trivial⟩ ⟨rfl, trivial⟩ ⟨rfl, trivial⟩ rfl) ?_
   refine z ?_
   refine a1u (a0E hT rfl rfl rfl rfl) (a0l rfl) rfl rfl ?_
   first | exact ⟨rfl, rfl⟩ | skip
 ·have d1 := c9g c1
  iterate 5 refine z ?_
  refine a1o (ι := Nat) (fun zz => ⟨[(1, .one (.dv [] (.str (n)))), (2, .one (.dv [] (.int .i64 (v)))), (3, .box 3 0), (6, .box 6 0), (7, .one (.dv [] (.bool (false)))), (8, .box 8 0), (10, .one (.dv [] (.int .i64 ((zz : Int)))))], [(3, 63, [(.dv [] (a0I (r)))]), (6, 63, [.nil]), (8, 63, [(.key 9001)])], [(9001, some (a0b false (.sl 135 2 (r.length) (r.flatMap a1B))))]⟩) (fun zz => zz ≤ r.length ∧ a2n n r = zz + a2n n (r.drop zz)) (fun zz => r.length - zz) (0) ?_ (a0e ⟨rfl, rfl, rfl, rfl, rfl, rfl, rfl, trivial⟩ ⟨rfl, rfl, rfl, trivial⟩ ⟨rfl, trivial⟩ rfl) (fun zz hx => ?_)
  ·exact ⟨Nat.zero_le _, by simp⟩
  obtain ⟨j, rfl⟩ : ∃ v, v = zz := ⟨_, rfl⟩
  replace hx : j ≤ r.length ∧ a2n n r = j + a2n n (r.drop j) := hx
  obtain ⟨hj, hp⟩ := hx
  show Ok _ _ _ _ _ (⟨[(1, .one (.dv [] (.str (n)))), (2, .one (.dv [] (.int .i64 (v)))), (3, .box 3 0), (6, .box 6 0), (7, .one (.dv [] (.bool (false)))), (8, .box 8 0), (10, .one (.dv [] (.int .i64 ((j : Int)))))], [(3, 63, [(.dv [] (a0I (r)))]), (6, 63, [.nil]), (8, 63, [(.key 9001)])], [(9001, some (a0b false (.sl 135 2 (r.length) (r.flatMap a1B))))]⟩ : St)
  iterate 4 refine z ?_
  refine yO rfl rfl (b1i (dd := a0I r) (a4d hT rfl rfl (a0a rfl) rfl rfl) rfl rfl) rfl ?_
  iterate 4 refine z ?_
  refine b0M (a1t rfl rfl rfl rfl rfl) rfl (fun hg => b1i (dd := a0I r) (a4d hT rfl rfl (a0y rfl hg) rfl rfl) rfl rfl) rfl rfl ?_
  iterate 8 refine z ?_
  refine yQ rfl (fun c3 => ?_) fun c3 => ?_
  ·have hst := b7S hp c3
   have hst1 := hst.1
   iterate 3 refine z ?_
   refine a0n ?_
   iterate 3 refine z ?_
   refine a1H ?_
   iterate 2 refine z ?_
   refine ⟨j + 1, ?_, ?_, a0e ⟨rfl, rfl, rfl, rfl, rfl, rfl, rfl, trivial⟩ ⟨rfl, rfl, rfl, trivial⟩ ⟨rfl, trivial⟩ rfl⟩
   ·exact ⟨by omega, hst.2⟩
   ·omega
  ·have hpos := b6Q hj hp c3
   iterate 5 refine z ?_
   refine a0n ?_
   iterate 5 refine z ?_
   refine yO rfl rfl (a1v hT hB rfl rfl rfl (a1c (a0a rfl) rfl rfl rfl rfl rfl (a1c (a0a rfl) rfl rfl rfl rfl rfl a1w))) rfl ?_
   refine a3H (k := 47) (js := []) hT rfl rfl rfl rfl rfl rfl rfl rfl rfl (a0a rfl) rfl rfl (a0o (a0R rfl) (a0o (a0R rfl) a1y rfl) rfl) (by decide) (by decide) rfl rfl ?_
   simp only [a0p, a0k, SV.kill, CV.kill, kk, Nat.reduceBEq]
   refine b5b (k := 9001) (j := 47) (cs := (a2s r j (n, v)).flatMap a1B) (n := (a2s r j (n, v)).length) (c1s rfl rfl (by decide)) rfl rfl Tryz.call128 rfl rfl (a0a rfl) rfl rfl rfl (a0a rfl) (by omega) (by dsimp only [a0b]; omega) (a0a rfl) rfl rfl rfl rfl (by decide) (by dsimp only [a0b]; omega) (by dsimp only [a0b]; omega) (by rw [b6j]) (c3g (o := r) (j := j) (y := (n, v))) ?_
   simp only [a0p, a0k, SV.kill, CV.kill, kk, Nat.reduceBEq]
   iterate 3 refine z ?_
   refine a0u ?_
   refine a0u ?_
   refine a0h (a4V (k := 9001) (c' := a0b false (a0I (a2s r j (n, v)))) rfl (rfl) rfl) ?_
   refine a0n ?_
   refine z ?_
   refine zC Tryz.call81 ?_ (hf := a7m (r := r) )
   iterate 3 refine z ?_
   refine a1O (a1t rfl rfl rfl rfl rfl) rfl rfl Tryz.call81 (a7m (r := a2s r j (n, v)) ) (fun hg => (a0g (a0y rfl hg) (a0t (a0d (a0X rfl rfl) a0r)) a0q)) rfl rfl ?_
   iterate 3 refine z ?_
   refine yQ rfl (fun c4 => ?_) fun c4 => ?_
   ·refine a0u ?_
    refine a0h (σ' := ⟨[(3, .box 3 0), (6, .box 6 0), (7, .one (.dv [] (.bool (false))))], [(3, 63, [(.dv [] (a0I (r)))]), (6, 63, [.nil])], []⟩) (a0e ⟨rfl, rfl, rfl, trivial⟩ ⟨rfl, rfl, trivial⟩ trivial rfl) ?_
    refine a0n ?_
    refine z ?_
    refine zK 8998 Tryz.call117 ?_ (hf := a8g (x := r) (by omega))
    iterate 3 refine z ?_
    rw [b0G (fun hr => c0h hr d1 hpos) c4]
    refine a0h (σ' := ⟨[(6, .box 6 0), (7, .one (.dv [] (.bool (false))))], [(6, 63, [(.key 9001)])], [(9001, some (a0b false (a0I (r))))]⟩) (a0e ⟨rfl, rfl, trivial⟩ ⟨rfl, trivial⟩ ⟨rfl, trivial⟩ rfl) ?_
    iterate 2 refine z ?_
    refine a1u (a0E hT rfl rfl rfl rfl) (a0l rfl) rfl rfl ?_
    first | exact ⟨rfl, rfl⟩ | skip
   ·iterate 7 refine z ?_
    rw [b0F (fun hr => c0h hr d1 hpos) c4]
    refine a0h (σ' := ⟨[(6, .box 6 0), (7, .one (.dv [] (.bool (true))))], [(6, 63, [(.key 9001)])], [(9001, some (a0b false (a0I (a2s r j (n, v)))))]⟩) (a0e ⟨rfl, rfl, trivial⟩ ⟨rfl, trivial⟩ ⟨rfl, trivial⟩ rfl) ?_
    refine z ?_
    refine a1u (a0E hT rfl rfl rfl rfl) (a0l rfl) rfl rfl ?_
    first | exact ⟨rfl, rfl⟩ | skip
theorem b2I {r : a0v} {n : Str} {v : Int} (hb : r.length ≤ 1099511627776) : KFn Tryz.prog 97 [.agg [(.dv [] (a0I (r)))], .one (.dv [] (.str (n))), .one (.dv [] (.int .i64 (v)))] (.tup [(true, [(.key 9001)]), (false, [(.dv [] (.bool ((a1G r n v).2)))])]) [(9001, some (a0b false (a0I ((a1G r n v).1))))] := by
 refine ⟨a0O Tryz.func97 rfl Tryz.ntmps97 Tryz.results97 rfl (fun C => ?_)⟩
 refine yF 0 0 rfl rfl fun f0_0 => ?_
 refine a1k (x := .tmp 1) (a0a rfl) fun f1 => ?_
 refine a1k (x := .tmp 2) (a0a rfl) fun f2 => ?_
 iterate 7 refine z ?_
 refine zK 8998 Tryz.call96 ?_ (hf := a8l (x := r) (by omega))
 iterate 8 refine z ?_
 refine a1o (ι := Nat) (fun zz => ⟨[(1, .one (.dv [] (.str (n)))), (2, .one (.dv [] (.int .i64 (v)))), (3, .box 3 0), (6, .box 6 0), (7, .one (.dv [] (.bool (false)))), (8, .box 8 0), (9, .one (.dv [] (.int .i64 ((zz : Int)))))], [(3, 63, [(.dv [] (a0I (r)))]), (6, 63, [.nil]), (8, 63, [(.key 9001)])], [(9001, some (a0b false (.sl 135 2 (r.length) (r.flatMap a1B))))]⟩) (fun zz => zz ≤ r.length ∧ a2n n r = zz + a2n n (r.drop zz)) (fun zz => r.length - zz) (0) ?_ (a0e ⟨rfl, rfl, rfl, rfl, rfl, rfl, rfl, trivial⟩ ⟨rfl, rfl, rfl, trivial⟩ ⟨rfl, trivial⟩ rfl) (fun zz hx => ?_)
 ·exact ⟨Nat.zero_le _, by simp⟩
 obtain ⟨j, rfl⟩ : ∃ v, v = zz := ⟨_, rfl⟩
 replace hx : j ≤ r.length ∧ a2n n r = j + a2n n (r.drop j) := hx
 obtain ⟨hj, hp⟩ := hx
 show Ok _ _ _ _ _ (⟨[(1, .one (.dv [] (.str (n)))), (2, .one (.dv [] (.int .i64 (v)))), (3, .box 3 0), (6, .box 6 0), (7, .one (.dv [] (.bool (false)))), (8, .box 8 0), (9, .one (.dv [] (.int .i64 ((j : Int)))))], [(3, 63, [(.dv [] (a0I (r)))]), (6, 63, [.nil]), (8, 63, [(.key 9001)])], [(9001, some (a0b false (.sl 135 2 (r.length) (r.flatMap a1B))))]⟩ : St)
 iterate 18 refine z ?_
 refine yQ rfl (fun c1 => ?_) fun c1 => ?_
 ·have hst := b7S hp c1
  have hst1 := hst.1
  iterate 3 refine z ?_
  refine a0n ?_
  iterate 3 refine z ?_
  refine a1H ?_
  iterate 2 refine z ?_
  refine ⟨j + 1, ?_, ?_, a0e ⟨rfl, rfl, rfl, rfl, rfl, rfl, rfl, trivial⟩ ⟨rfl, rfl, rfl, trivial⟩ ⟨rfl, trivial⟩ rfl⟩
  ·exact ⟨by omega, hst.2⟩
  ·omega
 ·have hpos := b6Q hj hp c1
  iterate 23 refine z ?_
  refine yQ rfl (fun c2 => ?_) fun c2 => ?_
  ·have hlt : j < r.length := by have h8 := c2; rw [Bool.and_eq_true, decide_eq_true_eq] at h8; omega
   refine a0n ?_
   iterate 4 refine z ?_
   refine yO rfl rfl (a5d (i := j) hT rfl rfl rfl (a0a rfl) rfl (a0a rfl) rfl (by show _ < (r.length); omega)) rfl ?_
   refine z ?_
   refine a8i (js := []) (cs := (a3u r j v).flatMap a1B) hT rfl rfl rfl rfl (a0a rfl) (a0a rfl) rfl rfl rfl rfl (a0o (a0R rfl) a1y rfl) (by decide) (by decide) rfl (by show _ ≤ List.length (r.flatMap a1B); rw [b3C]; omega) (b6c (by omega)) ?_
   simp only [a0p, a0k, SV.kill, CV.kill, kk, Nat.reduceBEq]
   refine z ?_
   refine a0u ?_
   refine a0u ?_
   refine a0h (a4V (k := 9001) (c' := a0b false (a0I (a3u r j v))) rfl (congrArg (fun m => KC.mk false 135 2 m ((a3u r j v).flatMap a1B)) b3R.symm) rfl) ?_
   refine a0n ?_
   refine z ?_
   refine zC Tryz.call86 ?_ (hf := a7q (r := r) )
   iterate 3 refine z ?_
   refine a1O (a1t rfl rfl rfl rfl rfl) rfl rfl Tryz.call86 (a7q (r := a3u r j v) ) (fun hg => (a0g (a0y rfl hg) (a0t (a0d (a0X rfl rfl) a0r)) a0q)) rfl rfl ?_
   iterate 3 refine z ?_
   refine yQ rfl (fun c3 => ?_) fun c3 => ?_
   ·refine a0u ?_
    refine a0h (σ' := ⟨[(3, .box 3 0), (6, .box 6 0), (7, .one (.dv [] (.bool (false))))], [(3, 63, [(.dv [] (a0I (r)))]), (6, 63, [.nil])], []⟩) (a0e ⟨rfl, rfl, rfl, trivial⟩ ⟨rfl, rfl, trivial⟩ trivial rfl) ?_
    refine a0n ?_
    refine z ?_
    refine zK 8998 Tryz.call96 ?_ (hf := a8l (x := r) (by omega))
    iterate 3 refine z ?_
    rw [b0G (fun _ => b5M hpos c2) c3]
    refine a0h (σ' := ⟨[(6, .box 6 0), (7, .one (.dv [] (.bool (false))))], [(6, 63, [(.key 9001)])], [(9001, some (a0b false (a0I (r))))]⟩) (a0e ⟨rfl, rfl, trivial⟩ ⟨rfl, trivial⟩ ⟨rfl, trivial⟩ rfl) ?_
    iterate 2 refine z ?_
    refine a1u (a0E hT rfl rfl rfl rfl) (a0l rfl) rfl rfl ?_
    first | exact ⟨rfl, rfl⟩ | skip
   ·iterate 7 refine z ?_
    rw [b0F (fun _ => b5M hpos c2) c3]
    refine a0h (σ' := ⟨[(6, .box 6 0), (7, .one (.dv [] (.bool (true))))], [(6, 63, [(.key 9001)])], [(9001, some (a0b false (a0I (a3u r j v))))]⟩) (a0e ⟨rfl, rfl, trivial⟩ ⟨rfl, trivial⟩ ⟨rfl, trivial⟩ rfl) ?_
    refine z ?_
    refine a1u (a0E hT rfl rfl rfl rfl) (a0l rfl) rfl rfl ?_
    first | exact ⟨rfl, rfl⟩ | skip
  ·refine c3O (σ' := ⟨[(3, .box 3 0), (6, .box 6 0), (7, .one (.dv [] (.bool (false)))), (8, .box 8 0)], [(3, 63, [(.dv [] (a0I (r)))]), (6, 63, [.nil]), (8, 63, [(.key 9050)])], [(9001, some (a0b false (.sl 135 2 (r.length) (r.flatMap a1B)))), (9050, some (a0b false (.sl 135 2 ((a2s r j (n, v)).length) ((a2s r j (n, v)).flatMap a1B))))]⟩) ?_ ?_
   ·refine a5w [0, 1, 2, 3, 4, 5, 6, 7, 8, 9, 10, 11, 12, 13, 14, 15, 16] (oB := [3, 6, 8]) (oK := [9001]) (by kernel_rfl) rfl rfl ?_
    refine b4L ?_
    refine zN 1 ?_
    refine zN 2 ?_
    refine zN 3 ?_
    refine a5r 4 rfl (by kernel_rfl) rfl rfl (b1z hT rfl rfl rfl (a0a rfl) (a0a rfl) (fun _ => rfl) (by omega) (by omega)) rfl rfl rfl rfl ?_
    refine zN 6 ?_
    refine zN 7 ?_
    refine a5r 8 rfl (by kernel_rfl) rfl rfl (a1v hT hB rfl rfl rfl (a1c (a0a rfl) rfl rfl rfl rfl rfl (a1c (a0a rfl) rfl rfl rfl rfl rfl a1w))) rfl rfl rfl rfl ?_
    refine zN 11 ?_
    refine zN 12 ?_
    refine zN 13 ?_
    refine a5r 14 rfl (by kernel_rfl) rfl rfl (b3q hT rfl rfl rfl (a0a rfl) (a0a rfl) (fun _ => rfl) (by omega) (by omega)) rfl rfl rfl rfl ?_
    refine a2g 0 [9] (by kernel_rfl) ⟨?_, ?_, trivial⟩
    ·refine a7V (k := 9050) 0 hT rfl rfl rfl rfl rfl rfl rfl rfl rfl rfl rfl rfl ?_
     refine a2g 5 [9] (by kernel_rfl) ⟨?_, ?_, trivial⟩
     ·refine a3U (k := 9050) (cs := (r.take j).flatMap a1B) (n := (r.take j).length) 5 hT rfl rfl rfl rfl rfl rfl rfl rfl (a0a rfl) rfl rfl rfl (a0a rfl) (a3v (fun _ => rfl) _) (by dsimp only [a0b]; simp only [c9j]; omega) (by dsimp only [a0b]; simp only [c9j]; omega) (Nat.zero_add _) (rfl) rfl rfl ?_
      simp only [a0p, a0k, SV.kill, CV.kill, kk, Nat.reduceBEq]
      refine a2g 9 [] (by kernel_rfl) ⟨?_, trivial⟩
      ·refine b2V (k := 9059) (js := []) 9 hT rfl rfl rfl rfl rfl rfl rfl rfl rfl rfl rfl rfl (a0Y (a0a rfl) rfl rfl rfl a2Z) (a0o (a0R rfl) (a0o (a0R rfl) a1y rfl) rfl) (by decide) (by decide) rfl rfl rfl rfl rfl ?_
       simp only [a0p, a0k, SV.kill, CV.kill, kk, Nat.reduceBEq]
       refine a2g 10 [] (by kernel_rfl) ⟨?_, trivial⟩
       ·refine a3U (k := 9050) (cs := ((r.take j) ++ [(n, v)]).flatMap a1B) (n := ((r.take j) ++ [(n, v)]).length) (m := 1) (ds := [.str (n), .int .i64 (v)]) 10 hT rfl rfl rfl rfl rfl rfl rfl rfl (a0a rfl) rfl rfl rfl (a2L (a0a rfl) rfl rfl) rfl (by dsimp only [a0b]; simp only [c9j]; omega) (by dsimp only [a0b]; simp only [c9j]; omega) (by simp) (by rw [List.flatMap_append]; rfl) rfl rfl ?_
        simp only [a0p, a0k, SV.kill, CV.kill, kk, Nat.reduceBEq]
        refine a2g 15 [] (by kernel_rfl) ⟨?_, trivial⟩
        ·refine a3U (k := 9050) (cs := (a2s r j (n, v)).flatMap a1B) (n := (a2s r j (n, v)).length) 15 hT rfl rfl rfl rfl rfl rfl rfl rfl (a0a rfl) rfl rfl rfl (a0a rfl) (a3v (fun _ => rfl) _) (by dsimp only [a0b]; simp only [c9i, c9j, List.length_drop, List.length_singleton]; omega) (by dsimp only [a0b]; simp only [c9i, c9j, List.length_drop, List.length_singleton]; omega) (by simp [a2s]; omega) (by rw [← List.flatMap_append, a2s, List.append_assoc]; rfl) rfl rfl ?_
         simp only [a0p, a0k, SV.kill, CV.kill, kk, Nat.reduceBEq]
         refine zN 16 ?_
         refine a2g 17 [] (by kernel_rfl) ⟨?_, trivial⟩
         ·refine a6l 17 rfl rfl (by kernel_rfl) (a4x hT rfl rfl rfl (a0a rfl) (a0a rfl) rfl rfl rfl rfl rfl rfl) (by kernel_rfl) ?_
          exact a2x (a0e ⟨rfl, rfl, rfl, rfl, trivial⟩ ⟨rfl, rfl, rfl, trivial⟩ ⟨rfl, rfl, trivial⟩ rfl)
     ·refine b2V (k := 9059) (js := []) 9 hT rfl rfl rfl rfl rfl rfl rfl rfl rfl rfl rfl rfl (a0Y (a0a rfl) rfl rfl rfl a2Z) (a0o (a0R rfl) (a0o (a0R rfl) a1y rfl) rfl) (by decide) (by decide) rfl rfl rfl rfl rfl ?_
      simp only [a0p, a0k, SV.kill, CV.kill, kk, Nat.reduceBEq]
      refine a2g 5 [] (by kernel_rfl) ⟨?_, trivial⟩
      ·refine a3U (k := 9050) (cs := (r.take j).flatMap a1B) (n := (r.take j).length) 5 hT rfl rfl rfl rfl rfl rfl rfl rfl (a0a rfl) rfl rfl rfl (a0a rfl) (a3v (fun _ => rfl) _) (by dsimp only [a0b]; simp only [c9j]; omega) (by dsimp only [a0b]; simp only [c9j]; omega) (Nat.zero_add _) (rfl) rfl rfl ?_
       simp only [a0p, a0k, SV.kill, CV.kill, kk, Nat.reduceBEq]
       refine a2g 10 [] (by kernel_rfl) ⟨?_, trivial⟩
       ·refine a3U (k := 9050) (cs := ((r.take j) ++ [(n, v)]).flatMap a1B) (n := ((r.take j) ++ [(n, v)]).length) (m := 1) (ds := [.str (n), .int .i64 (v)]) 10 hT rfl rfl rfl rfl rfl rfl rfl rfl (a0a rfl) rfl rfl rfl (a2L (a0a rfl) rfl rfl) rfl (by dsimp only [a0b]; simp only [c9j]; omega) (by dsimp only [a0b]; simp only [c9j]; omega) (by simp) (by rw [List.flatMap_append]; rfl) rfl rfl ?_
        simp only [a0p, a0k, SV.kill, CV.kill, kk, Nat.reduceBEq]
        refine a2g 15 [] (by kernel_rfl) ⟨?_, trivial⟩
        ·refine a3U (k := 9050) (cs := (a2s r j (n, v)).flatMap a1B) (n := (a2s r j (n, v)).length) 15 hT rfl rfl rfl rfl rfl rfl rfl rfl (a0a rfl) rfl rfl rfl (a0a rfl) (a3v (fun _ => rfl) _) (by dsimp only [a0b]; simp only [c9i, c9j, List.length_drop, List.length_singleton]; omega) (by dsimp only [a0b]; simp only [c9i, c9j, List.length_drop, List.length_singleton]; omega) (by simp [a2s]; omega) (by rw [← List.flatMap_append, a2s, List.append_assoc]; rfl) rfl rfl ?_
         simp only [a0p, a0k, SV.kill, CV.kill, kk, Nat.reduceBEq]
         refine zN 16 ?_
         refine a2g 17 [] (by kernel_rfl) ⟨?_, trivial⟩
         ·refine a6l 17 rfl rfl (by kernel_rfl) (a4x hT rfl rfl rfl (a0a rfl) (a0a rfl) rfl rfl rfl rfl rfl rfl) (by kernel_rfl) ?_
          exact a2x (a0e ⟨rfl, rfl, rfl, rfl, trivial⟩ ⟨rfl, rfl, rfl, trivial⟩ ⟨rfl, rfl, trivial⟩ rfl)
    ·refine b2V (k := 9059) (js := []) 9 hT rfl rfl rfl rfl rfl rfl rfl rfl rfl rfl rfl rfl (a0Y (a0a rfl) rfl rfl rfl a2Z) (a0o (a0R rfl) (a0o (a0R rfl) a1y rfl) rfl) (by decide) (by decide) rfl rfl rfl rfl rfl ?_
     simp only [a0p, a0k, SV.kill, CV.kill, kk, Nat.reduceBEq]
     refine a2g 0 [] (by kernel_rfl) ⟨?_, trivial⟩
     ·refine a7V (k := 9050) 0 hT rfl rfl rfl rfl rfl rfl rfl rfl rfl rfl rfl rfl ?_
      refine a2g 5 [] (by kernel_rfl) ⟨?_, trivial⟩
      ·refine a3U (k := 9050) (cs := (r.take j).flatMap a1B) (n := (r.take j).length) 5 hT rfl rfl rfl rfl rfl rfl rfl rfl (a0a rfl) rfl rfl rfl (a0a rfl) (a3v (fun _ => rfl) _) (by dsimp only [a0b]; simp only [c9j]; omega) (by dsimp only [a0b]; simp only [c9j]; omega) (Nat.zero_add _) (rfl) rfl rfl ?_
       simp only [a0p, a0k, SV.kill, CV.kill, kk, Nat.reduceBEq]
       refine a2g 10 [] (by kernel_rfl) ⟨?_, trivial⟩
       ·refine a3U (k := 9050) (cs := ((r.take j) ++ [(n, v)]).flatMap a1B) (n := ((r.take j) ++ [(n, v)]).length) (m := 1) (ds := [.str (n), .int .i64 (v)]) 10 hT rfl rfl rfl rfl rfl rfl rfl rfl (a0a rfl) rfl rfl rfl (a2L (a0a rfl) rfl rfl) rfl (by dsimp only [a0b]; simp only [c9j]; omega) (by dsimp only [a0b]; simp only [c9j]; omega) (by simp) (by rw [List.flatMap_append]; rfl) rfl rfl ?_
        simp only [a0p, a0k, SV.kill, CV.kill, kk, Nat.reduceBEq]
        refine a2g 15 [] (by kernel_rfl) ⟨?_, trivial⟩
        ·refine a3U (k := 9050) (cs := (a2s r j (n, v)).flatMap a1B) (n := (a2s r j (n, v)).length) 15 hT rfl rfl rfl rfl rfl rfl rfl rfl (a0a rfl) rfl rfl rfl (a0a rfl) (a3v (fun _ => rfl) _) (by dsimp only [a0b]; simp only [c9i, c9j, List.length_drop, List.length_singleton]; omega) (by dsimp only [a0b]; simp only [c9i, c9j, List.length_drop, List.length_singleton]; omega) (by simp [a2s]; omega) (by rw [← List.flatMap_append, a2s, List.append_assoc]; rfl) rfl rfl ?_
         simp only [a0p, a0k, SV.kill, CV.kill, kk, Nat.reduceBEq]
         refine zN 16 ?_
         refine a2g 17 [] (by kernel_rfl) ⟨?_, trivial⟩
         ·refine a6l 17 rfl rfl (by kernel_rfl) (a4x hT rfl rfl rfl (a0a rfl) (a0a rfl) rfl rfl rfl rfl rfl rfl) (by kernel_rfl) ?_
          exact a2x (a0e ⟨rfl, rfl, rfl, rfl, trivial⟩ ⟨rfl, rfl, rfl, trivial⟩ ⟨rfl, rfl, trivial⟩ rfl)
   refine a0u ?_
   refine a0u ?_
   refine a0h (a2N (b := 8) (i := 0) (k := 9050) (k' := 9001) rfl rfl rfl rfl (by decide) rfl rfl) ?_
   simp only [a0p, a0k, SV.kill, CV.kill, kk, Nat.reduceBEq]
   refine a0h (a4V (k := 9001) (c' := a0b false (a0I (a2s r j (n, v)))) rfl (rfl) rfl) ?_
   refine a0n ?_
   refine z ?_
   refine zC Tryz.call86 ?_ (hf := a7q (r := r) )
   iterate 3 refine z ?_
   refine a1O (a1t rfl rfl rfl rfl rfl) rfl rfl Tryz.call86 (a7q (r := a2s r j (n, v)) ) (fun hg => (a0g (a0y rfl hg) (a0t (a0d (a0X rfl rfl) a0r)) a0q)) rfl rfl ?_
   iterate 3 refine z ?_
   refine yQ rfl (fun c4 => ?_) fun c4 => ?_
   ·refine a0u ?_
    refine a0h (σ' := ⟨[(3, .box 3 0), (6, .box 6 0), (7, .one (.dv [] (.bool (false))))], [(3, 63, [(.dv [] (a0I (r)))]), (6, 63, [.nil])], []⟩) (a0e ⟨rfl, rfl, rfl, trivial⟩ ⟨rfl, rfl, trivial⟩ trivial rfl) ?_
    refine a0n ?_
    refine z ?_
    refine zK 8998 Tryz.call96 ?_ (hf := a8l (x := r) (by omega))
    iterate 3 refine z ?_
    rw [b0G (fun _ => b6Y hpos c2) c4]
    refine a0h (σ' := ⟨[(6, .box 6 0), (7, .one (.dv [] (.bool (false))))], [(6, 63, [(.key 9001)])], [(9001, some (a0b false (a0I (r))))]⟩) (a0e ⟨rfl, rfl, trivial⟩ ⟨rfl, trivial⟩ ⟨rfl, trivial⟩ rfl) ?_
    iterate 2 refine z ?_
    refine a1u (a0E hT rfl rfl rfl rfl) (a0l rfl) rfl rfl ?_
    first | exact ⟨rfl, rfl⟩ | skip
   ·iterate 7 refine z ?_
    rw [b0F (fun _ => b6Y hpos c2) c4]
    refine a0h (σ' := ⟨[(6, .box 6 0), (7, .one (.dv [] (.bool (true))))], [(6, 63, [(.key 9001)])], [(9001, some (a0b false (a0I (a2s r j (n, v)))))]⟩) (a0e ⟨rfl, rfl, trivial⟩ ⟨rfl, trivial⟩ ⟨rfl, trivial⟩ rfl) ?_
    refine z ?_
    refine a1u (a0E hT rfl rfl rfl rfl) (a0l rfl) rfl rfl ?_
    first | exact ⟨rfl, rfl⟩ | skip
def a3B (x : a0G) (k : a0K) : a0v := if 0 ≤ a0S x k then (x.2.1.getD (a0S x k).toNat default).2 else []
def a4k (r : a0v) (f : Str) : a0v × Bool := a1G r f ((a0Z r f).1 + 1)
def rgK (k : a0K) : a3R := (true, true, k, k)
def rg0 : a3R := (false, false, (0, 0, ByteArray.empty), (0, 0, ByteArray.empty))
def a8M (x : a0G) (k : a0K) : Int := if a0S x k < 0 then -1 else ((x.2.1.getD (a0S x k).toNat default).2.length : Int)
def opI (x : a0G) (o : OpT) : a0G × Int × Bool :=
 if o.1 = 1 then ((a0N x o.2.2.1 o.2.2.2.1).1, 1, (a0N x o.2.2.1 o.2.2.2.1).2)
 else if o.1 = 2 then ((a2C x o.2.2.1 o.2.2.2.1).1, 1, (a2C x o.2.2.1 o.2.2.2.1).2)
 else if o.1 = 3 then ((a1N x (rgK o.2.2.1)).1, (a1N x (rgK o.2.2.1)).2, true)
 else if o.1 = 5 then ((a1N x rg0).1, (a1N x rg0).2, true)
 else if o.1 = 4 then (x, a8M x o.2.2.1, true)
 else if (a4k (a3B x o.2.2.1) o.2.2.2.2).2 = false then (x, 0, false)
 else ((a0N x o.2.2.1 (a4k (a3B x o.2.2.1) o.2.2.2.2).1).1, (a0Z (a3B x o.2.2.1) o.2.2.2.2).1 + 1, (a0N x o.2.2.1 (a4k (a3B x o.2.2.1) o.2.2.2.2).1).2)
def a3w (x : a0G) (k : a0K) (f : Str) : a0G × Int × Bool := ((a0N x k (a4k (a3B x k) f).1).1, (a0Z (a3B x k) f).1 + 1, (a4k (a3B x k) f).2 && (a0N x k (a4k (a3B x k) f).1).2)
def opM (x : a0G) (o : OpT) : a0G × Int × Bool :=
 if o.1 = 1 then ((a0N x o.2.2.1 o.2.2.2.1).1, 1, (a0N x o.2.2.1 o.2.2.2.1).2)
 else if o.1 = 2 then ((a2C x o.2.2.1 o.2.2.2.1).1, 1, (a2C x o.2.2.1 o.2.2.2.1).2)
 else if o.1 = 3 then ((a1N x (rgK o.2.2.1)).1, (a1N x (rgK o.2.2.1)).2, true)
 else if o.1 = 4 then (x, a8M x o.2.2.1, true)
 else if o.1 = 5 then ((a1N x rg0).1, (a1N x rg0).2, true)
 else a3w x o.2.2.1 o.2.2.2.2
theorem b2k (x : a0G) (o : OpT) : opI x o = opM x o ∨ ((opI x o).2.2 = false ∧ (opM x o).2.2 = false) := by
 unfold opI opM
 by_cases h1 : o.1 = 1
 ·simp [h1]
 ·by_cases h2 : o.1 = 2
  ·simp [h2]
  ·by_cases h3 : o.1 = 3
   ·simp [h3]
   ·by_cases h5 : o.1 = 5
    ·simp [h5]
    ·by_cases h4 : o.1 = 4
     ·simp [h4]
     ·rw [if_neg h1, if_neg h2, if_neg h3, if_neg h5, if_neg h4, if_neg h1, if_neg h2, if_neg h3, if_neg h4, if_neg h5]
      by_cases h : (a4k (a3B x o.2.2.1) o.2.2.2.2).2 = false
      ·right; rw [if_pos h]; simp [a3w, h]
      ·left; rw [if_neg h]
       have h' : (a4k (a3B x o.2.2.1) o.2.2.2.2).2 = true := by simpa using h
       simp [a3w, h']
def same (x : a0G) (o : OpT) : Bool := decide (o.1 = 4) || (!decide (o.1 = 1) && !decide (o.1 = 2) && !decide (o.1 = 3) && !decide (o.1 = 5) && !(a4k (a3B x o.2.2.1) o.2.2.2.2).2)
section
variable {x : a0G} {o : OpT}
theorem c2l (h : o.1 = 1) : opI x o = ((a0N x o.2.2.1 o.2.2.2.1).1, 1, (a0N x o.2.2.1 o.2.2.2.1).2) := by rw [opI, if_pos h]
theorem c7H (h : o.1 = 2) : opI x o = ((a2C x o.2.2.1 o.2.2.2.1).1, 1, (a2C x o.2.2.1 o.2.2.2.1).2) := by rw [opI, if_neg (by omega), if_pos h]
theorem c6n (h : o.1 = 3) : opI x o = ((a1N x (rgK o.2.2.1)).1, (a1N x (rgK o.2.2.1)).2, true) := by rw [opI, if_neg (by omega), if_neg (by omega), if_pos h]
theorem c1d (h : o.1 = 5) : opI x o = ((a1N x rg0).1, (a1N x rg0).2, true) := by rw [opI, if_neg (by omega), if_neg (by omega), if_neg (by omega), if_pos h]
theorem c3f (h : o.1 = 4) (h2 : a0S x o.2.2.1 < 0) : opI x o = (x, -1, true) := by rw [opI, if_neg (by omega), if_neg (by omega), if_neg (by omega), if_neg (by omega), if_pos h, a8M, if_pos h2]
theorem c3E (h : o.1 = 4) (h2 : ¬ a0S x o.2.2.1 < 0) : opI x o = (x, ((x.2.1.getD (a0S x o.2.2.1).toNat default).2.length : Int), true) := by rw [opI, if_neg (by omega), if_neg (by omega), if_neg (by omega), if_neg (by omega), if_pos h, a8M, if_neg h2]
theorem b3M {k : a0K} (h : 0 ≤ a0S x k) : a3B x k = (x.2.1.getD (a0S x k).toNat default).2 := if_pos h
theorem b3L {k : a0K} (h : ¬ 0 ≤ a0S x k) : a3B x k = [] := if_neg h
theorem b6h {r : a0v} (h1 : o.1 ≠ 1) (h2 : o.1 ≠ 2) (h3 : o.1 ≠ 3) (h5 : o.1 ≠ 5) (h4 : o.1 ≠ 4) (hr : a3B x o.2.2.1 = r) (hk : (!(a1G r o.2.2.2.2 ((a0Z r o.2.2.2.2).1 + 1)).2) = true) : opI x o = (x, 0, false) := by
 rw [opI, if_neg h1, if_neg h2, if_neg h3, if_neg h5, if_neg h4, hr, if_pos (by simpa [a4k] using hk)]
theorem b9j {r : a0v} (h1 : o.1 ≠ 1) (h2 : o.1 ≠ 2) (h3 : o.1 ≠ 3) (h5 : o.1 ≠ 5) (h4 : o.1 ≠ 4) (hr : a3B x o.2.2.1 = r) (hk : (!(a1G r o.2.2.2.2 ((a0Z r o.2.2.2.2).1 + 1)).2) = false) :
  opI x o = ((a0N x o.2.2.1 (a1G r o.2.2.2.2 ((a0Z r o.2.2.2.2).1 + 1)).1).1, (a0Z r o.2.2.2.2).1 + 1, (a0N x o.2.2.1 (a1G r o.2.2.2.2 ((a0Z r o.2.2.2.2).1 + 1)).1).2) := by
 rw [opI, if_neg h1, if_neg h2, if_neg h3, if_neg h5, if_neg h4, hr, if_neg (by simpa [a4k] using hk)]
 rfl
theorem b3Z {r : a0v} (h : same x o = true) (h4 : o.1 ≠ 4) (hr : a3B x o.2.2.1 = r) : ¬ (!(a1G r o.2.2.2.2 ((a0Z r o.2.2.2.2).1 + 1)).2) = false := by
 unfold same at h
 rw [hr] at h
 intro hk
 simp only [decide_eq_false h4, Bool.false_or, Bool.and_eq_true] at h
 have := h.2
 unfold a4k at this
 rw [hk] at this
 cases this
theorem a6A (h : same x o = true) (h4 : o.1 = 1 ∨ o.1 = 2 ∨ o.1 = 3 ∨ o.1 = 5) : False := by
 unfold same at h
 rw [decide_eq_false (show ¬ o.1 = 4 by omega)] at h
 simp only [Bool.false_or, Bool.and_eq_true, Bool.not_eq_true', decide_eq_false_iff_not] at h
 omega
theorem c7N (h : same x o = false) : o.1 ≠ 4 := by
 intro h4
 simp [same, h4] at h
theorem b8m {r : a0v} (h : same x o = false) (h1 : o.1 ≠ 1) (h2 : o.1 ≠ 2) (h3 : o.1 ≠ 3) (h5 : o.1 ≠ 5) (hr : a3B x o.2.2.1 = r) : ¬ (!(a1G r o.2.2.2.2 ((a0Z r o.2.2.2.2).1 + 1)).2) = true := by
 unfold same at h
 rw [hr] at h
 intro hk
 simp only [decide_eq_false h1, decide_eq_false h2, decide_eq_false h3, decide_eq_false h5, Bool.not_false, Bool.true_and, Bool.or_eq_false_iff] at h
 have := h.2
 unfold a4k at this
 rw [hk] at this
 cases this
end
theorem a8j {r : a0v} {n : Str} (h : a1b r = true) : 0 ≤ (a0Z r n).1 ∧ (a0Z r n).1 ≤ 1000000000 := by
 unfold a0Z
 split
 ·exact ⟨by simp, by simp⟩
 ·rename_i h1
  have hlt := a8a (p := a1X n) r 0 (by omega)
  rw [a1b, Bool.and_eq_true, List.all_eq_true] at h
  have := h.1 (a0s (a1X n) r 0).toNat (List.mem_range.2 (by omega))
  simp only [a4N, Bool.not_eq_true', Bool.or_eq_false_iff, Int.toNat_natCast] at this
  have h2 := this.1.2
  simp only [Bool.not_eq_false', Bool.and_eq_true, decide_eq_true_eq] at h2
  exact h2
theorem a7s {r : a0v} (h : a1b r = true) : r.length ≤ 6 := by
 rw [a1b, Bool.and_eq_true, decide_eq_true_eq] at h
 omega
theorem c2H {x : a0G} {i : Nat} (h : a1i x = true) (hi : i < x.2.1.length) : a1b (x.2.1.getD i default).2 = true := by
 rw [a1i, Bool.and_eq_true, List.all_eq_true] at h
 have := h.1 i (List.mem_range.2 hi)
 simp only [a4f, Bool.not_eq_true', Bool.or_eq_false_iff, Int.toNat_natCast] at this
 simpa using this.1.2
theorem b5g {o : OpT} (h : a1s o = true) : o.2.2.2.1.length ≤ 6 := by
 unfold a1s at h
 simp only [Bool.and_eq_true] at h
 exact a7s h.1.2
theorem b2N {x : a0G} {k : a0K} (h : a1i x = true) (h0 : 0 ≤ a0S x k) : a1b (x.2.1.getD (a0S x k).toNat default).2 = true := c2H h (by have := a4W h0; omega)
theorem c2e {x : a0G} {o : OpT} (hs : a1i x = true) (ho : a1s o = true) (hal : same x o = true) : PFn Tryz.prog 79 [.agg [(.dv [] (.str (x.1))), (.arg 0 (a0w (x.2.1))), (.dv [] (.int .i64 (x.2.2)))], .agg [(.dv [] (.int .i64 (o.1))), (.dv [] (.str (o.2.1))), (.dv [] (.int .i64 (o.2.2.1.1))), (.dv [] (.int .i64 (o.2.2.1.2.1))), (.dv [] (.str (o.2.2.1.2.2))), (.dv [] (a0I (o.2.2.2.1))), (.dv [] (.str (o.2.2.2.2)))]] (.tup [(true, [(.dv [] (.str (x.1))), (.arg 0 (a0w (x.2.1))), (.dv [] (.int .i64 (x.2.2)))]), (false, [(.dv [] (.int .i64 ((opI x o).2.1)))]), (false, [(.dv [] (.bool ((opI x o).2.2)))])]) := by
 refine ⟨a0O Tryz.func79 rfl Tryz.ntmps79 Tryz.results79 rfl (fun C => ?_)⟩
 have hsw := a6P hs
 have hor := b5g ho
 refine yF 0 0 rfl rfl fun f0_0 => ?_
 refine yF 0 2 rfl rfl fun f0_2 => ?_
 refine yF 1 0 rfl rfl fun f1_0 => ?_
 refine yF 1 1 rfl rfl fun f1_1 => ?_
 refine yF 1 2 rfl rfl fun f1_2 => ?_
 refine yF 1 3 rfl rfl fun f1_3 => ?_
 refine yF 1 4 rfl rfl fun f1_4 => ?_
 refine yF 1 5 rfl rfl fun f1_5 => ?_
 refine yF 1 6 rfl rfl fun f1_6 => ?_
 iterate 11 refine z ?_
 refine zC Tryz.call106 ?_ (hf := b1V (x := x) (k := o.2.2.1) )
 iterate 12 refine z ?_
 refine yQ rfl (fun c1 => ?_) fun c1 => ?_
 ·have d1 := c9f c1
  exact absurd d1 (fun h => a6A hal (by omega))
 ·have d1 := c9g c1
  iterate 4 refine z ?_
  refine yQ rfl (fun c2 => ?_) fun c2 => ?_
  ·have d2 := c9f c2
   exact absurd d2 (fun h => a6A hal (by omega))
  ·have d2 := c9g c2
   iterate 4 refine z ?_
   refine yQ rfl (fun c3 => ?_) fun c3 => ?_
   ·have d3 := c9f c3
    exact absurd d3 (fun h => a6A hal (by omega))
   ·have d3 := c9g c3
    iterate 4 refine z ?_
    refine yQ rfl (fun c4 => ?_) fun c4 => ?_
    ·have d4 := c9f c4
     exact absurd d4 (fun h => a6A hal (by omega))
    ·have d4 := c9g c4
     iterate 4 refine z ?_
     refine yQ rfl (fun c5 => ?_) fun c5 => ?_
     ·have d5 := c9f c5
      iterate 5 refine z ?_
      refine yQ rfl (fun c6 => ?_) fun c6 => ?_
      ·have d6 := c9f c6
       iterate 10 refine z ?_
       refine a1U (a0E hT rfl rfl rfl rfl) (a0l rfl) (a0l rfl) rfl rfl rfl ?_
       rw [c3f d5 d6]
       rfl
      ·have d6 := c9g c6
       have hfx : a0S x o.2.2.1 < x.2.1.length := by have := a4W (x := x) (k := o.2.2.1) (by omega); omega
       iterate 2 refine z ?_
       refine a0u ?_
       refine a9I 4 (oB := [2, 3]) (oK := []) (by kernel_rfl) rfl rfl ?_
       refine a1I 0 rfl (by kernel_rfl) rfl rfl (a4I hT rfl rfl (a0a rfl) rfl rfl) rfl rfl rfl rfl rfl ?_
       refine a1I 1 rfl (by kernel_rfl) rfl rfl (a5E hT rfl rfl rfl (a0a rfl)) rfl rfl rfl rfl rfl ?_
       refine a1I 2 rfl (by kernel_rfl) rfl rfl (a4d hT rfl rfl (a0a rfl) rfl rfl) rfl rfl rfl rfl rfl ?_
       refine a1I 3 rfl (by kernel_rfl) rfl rfl (a0M (.inl rfl) (a0a rfl)) rfl rfl rfl rfl rfl ?_
       refine a1I 4 rfl (by kernel_rfl) rfl rfl (a5k hT rfl rfl rfl (a7n (a0a rfl)) (a0a rfl) (fun _ => rfl) (by omega) (by omega)) rfl rfl rfl rfl rfl ?_
       refine a1I 5 rfl (by kernel_rfl) rfl rfl (a5Q hT rfl rfl rfl (a0a rfl)) rfl rfl rfl rfl rfl ?_
       refine a1I 6 rfl (by kernel_rfl) rfl rfl (a5Q hT rfl rfl rfl (a0a rfl)) rfl rfl rfl rfl rfl ?_
       refine a1I 7 rfl (by kernel_rfl) rfl rfl (b4f hT rfl rfl (a0a rfl) rfl) rfl rfl rfl rfl rfl ?_
       refine a1I 8 rfl (by kernel_rfl) rfl rfl (a6R hT rfl rfl (a0a rfl)) rfl rfl rfl rfl rfl ?_
       refine a9c 9 rfl (by kernel_rfl) rfl hT rfl rfl rfl (a0a rfl) (a0a rfl) rfl rfl rfl rfl rfl rfl ?_
       refine a9F [10, 11] rfl rfl (by kernel_rfl) ?_
       iterate 6 refine z ?_
       refine a1U (a0E hT rfl rfl rfl rfl) (a0l rfl) (a0l rfl) rfl rfl rfl ?_
       rw [c3E d5 d6]
       rfl
     ·have d5 := c9g c5
      iterate 4 refine z ?_
      refine yO rfl rfl (a1v hT hB rfl rfl rfl a1w) rfl ?_
      iterate 8 refine z ?_
      refine yQ rfl (fun c7 => ?_) fun c7 => ?_
      ·have d7 := c9f c7
       have hb9 := b2N hs d7
       have hgb := a8j (n := o.2.2.2.2) hb9
       have hrl := a7s hb9
       have hrq := b3M d7
       have hlt9 := a4W d7
       refine a0n ?_
       iterate 3 refine z ?_
       refine yO rfl rfl (a5k hT rfl rfl rfl (a7n (a0a rfl)) (a0a rfl) (fun _ => rfl) (by omega) (by omega)) rfl ?_
       iterate 8 refine z ?_
       refine zC Tryz.call105 ?_ (hf := a5U (x := ((x.2.1.getD (a0S x o.2.2.1).toNat default).2)) (n := o.2.2.2.2))
       iterate 12 refine z ?_
       refine zK 499 Tryz.call110 ?_ (hf := b0T (r := ((x.2.1.getD (a0S x o.2.2.1).toNat default).2)) (n := o.2.2.2.2) (v := (a0Z ((x.2.1.getD (a0S x o.2.2.1).toNat default).2) o.2.2.2.2).1 + 1) (by omega))
       iterate 11 refine z ?_
       refine yQ rfl (fun c8 => ?_) fun c8 => ?_
       ·iterate 8 refine z ?_
        refine a1U (a0E hT rfl rfl rfl rfl) (a0l rfl) (a0l rfl) rfl rfl rfl ?_
        rw [b6h d1 d2 d3 d4 d5 hrq c8]
        rfl
       ·exact absurd c8 (b3Z hal d5 hrq)
      ·have d7 := c9g c7
       have hb9 : a1b [] = true := rfl
       have hgb := a8j (n := o.2.2.2.2) hb9
       have hrl := a7s hb9
       have hrq := b3L d7
       iterate 6 refine z ?_
       refine a3T rfl rfl rfl Tryz.call105 (a5U (x := ([] : a0v)) (n := o.2.2.2.2)) (a0g (a0a rfl) (a0t (a0d (a5u rfl rfl) a0r)) (a0g (a0a rfl) (a0C a0c) a0q)) rfl rfl ?_
       iterate 12 refine z ?_
       refine a2H 499 rfl rfl rfl Tryz.call110 (b0T (r := ([] : a0v)) (n := o.2.2.2.2) (v := (a0Z ([] : a0v) o.2.2.2.2).1 + 1) (by omega)) (a0g (a0a rfl) (a0t (a0d (a5u rfl rfl) a0r)) (a0g (a0a rfl) (a0C a0c) (a0g (a0a rfl) (a0C a0c) a0q))) rfl rfl rfl ?_
       iterate 11 refine z ?_
       refine yQ rfl (fun c9 => ?_) fun c9 => ?_
       ·iterate 8 refine z ?_
        refine a1U (a0E hT rfl rfl rfl rfl) (a0l rfl) (a0l rfl) rfl rfl rfl ?_
        rw [b6h d1 d2 d3 d4 d5 hrq c9]
        rfl
       ·exact absurd c9 (b3Z hal d5 hrq)
theorem c4t {x : a0G} {o : OpT} (hs : a1i x = true) (ho : a1s o = true) (hal : same x o = false) : KFn Tryz.prog 79 [.agg [(.dv [] (.str (x.1))), (.dv [] (a0w (x.2.1))), (.dv [] (.int .i64 (x.2.2)))], .agg [(.dv [] (.int .i64 (o.1))), (.dv [] (.str (o.2.1))), (.dv [] (.int .i64 (o.2.2.1.1))), (.dv [] (.int .i64 (o.2.2.1.2.1))), (.dv [] (.str (o.2.2.1.2.2))), (.dv [] (a0I (o.2.2.2.1))), (.dv [] (.str (o.2.2.2.2)))]] (.tup [(true, [(.dv [] (.str ((opI x o).1.1))), (.key 9001), (.dv [] (.int .i64 ((opI x o).1.2.2)))]), (false, [(.dv [] (.int .i64 ((opI x o).2.1)))]), (false, [(.dv [] (.bool ((opI x o).2.2)))])]) [(9001, some (a0b false (a0w ((opI x o).1.2.1))))] := by
 refine ⟨a0O Tryz.func79 rfl Tryz.ntmps79 Tryz.results79 rfl (fun C => ?_)⟩
 have hsw := a6P hs
 have hor := b5g ho
 refine yF 0 0 rfl rfl fun f0_0 => ?_
 refine yF 0 1 rfl rfl fun f0_1 => ?_
 refine yF 0 2 rfl rfl fun f0_2 => ?_
 refine yF 1 0 rfl rfl fun f1_0 => ?_
 refine yF 1 1 rfl rfl fun f1_1 => ?_
 refine yF 1 2 rfl rfl fun f1_2 => ?_
 refine yF 1 3 rfl rfl fun f1_3 => ?_
 refine yF 1 4 rfl rfl fun f1_4 => ?_
 refine yF 1 5 rfl rfl fun f1_5 => ?_
 refine yF 1 6 rfl rfl fun f1_6 => ?_
 iterate 11 refine z ?_
 refine zC Tryz.call106 ?_ (hf := b1V (x := x) (k := o.2.2.1) )
 iterate 12 refine z ?_
 refine yQ rfl (fun c1 => ?_) fun c1 => ?_
 ·have d1 := c9f c1
  iterate 6 refine z ?_
  refine zK 0 Tryz.call107 ?_ (hf := b1R (x := x) (k := o.2.2.1) (r := o.2.2.2.1) (by omega) (by omega))
  iterate 14 refine z ?_
  rw [c2l d1]
  refine a0h (σ' := ⟨[(4, .box 4 0), (5, .one (.dv [] (.int .i64 (1)))), (6, .one (.dv [] (.bool ((a0N (x) (o.2.2.1) (o.2.2.2.1)).2))))], [(4, 77, [(.dv [] (.str ((a0N (x) (o.2.2.1) (o.2.2.2.1)).1.1))), (.key 9001), (.dv [] (.int .i64 ((a0N (x) (o.2.2.1) (o.2.2.2.1)).1.2.2)))])], [(9001, some (a0b false (a0w ((a0N x o.2.2.1 o.2.2.2.1).1.2.1))))]⟩) (a0e ⟨rfl, rfl, rfl, trivial⟩ ⟨rfl, trivial⟩ ⟨rfl, trivial⟩ rfl) ?_
  iterate 3 refine z ?_
  refine a1U (a0E hT rfl rfl rfl rfl) (a0l rfl) (a0l rfl) rfl rfl rfl ?_
  first | exact ⟨rfl, rfl⟩ | skip
 ·have d1 := c9g c1
  iterate 4 refine z ?_
  refine yQ rfl (fun c2 => ?_) fun c2 => ?_
  ·have d2 := c9f c2
   iterate 6 refine z ?_
   refine zK 0 Tryz.call108 ?_ (hf := c1F (x := x) (k := o.2.2.1) (r := o.2.2.2.1) (by omega) (by omega))
   iterate 14 refine z ?_
   rw [c7H d2]
   refine a0h (σ' := ⟨[(4, .box 4 0), (5, .one (.dv [] (.int .i64 (1)))), (6, .one (.dv [] (.bool ((a2C (x) (o.2.2.1) (o.2.2.2.1)).2))))], [(4, 77, [(.dv [] (.str ((a2C (x) (o.2.2.1) (o.2.2.2.1)).1.1))), (.key 9001), (.dv [] (.int .i64 ((a2C (x) (o.2.2.1) (o.2.2.2.1)).1.2.2)))])], [(9001, some (a0b false (a0w ((a2C x o.2.2.1 o.2.2.2.1).1.2.1))))]⟩) (a0e ⟨rfl, rfl, rfl, trivial⟩ ⟨rfl, trivial⟩ ⟨rfl, trivial⟩ rfl) ?_
   iterate 3 refine z ?_
   refine a1U (a0E hT rfl rfl rfl rfl) (a0l rfl) (a0l rfl) rfl rfl rfl ?_
   first | exact ⟨rfl, rfl⟩ | skip
  ·have d2 := c9g c2
   iterate 4 refine z ?_
   refine yQ rfl (fun c3 => ?_) fun c3 => ?_
   ·have d3 := c9f c3
    iterate 6 refine z ?_
    refine yO rfl rfl (a1v hT hB rfl rfl rfl (a1c a0J rfl rfl rfl rfl rfl (a1c a0J rfl rfl rfl rfl rfl (a1c (a0a rfl) rfl rfl rfl rfl rfl (a1c (a0a rfl) rfl rfl rfl rfl rfl a1w))))) rfl ?_
    refine zK 0 Tryz.call109 ?_ (hf := b7K (x := x) (r := rgK o.2.2.1) (by omega))
    iterate 14 refine z ?_
    rw [c6n d3]
    refine a0h (σ' := ⟨[(4, .box 4 0), (5, .one (.dv [] (.int .i64 ((a1N (x) (rgK o.2.2.1)).2)))), (6, .one (.dv [] (.bool (true))))], [(4, 77, [(.dv [] (.str ((a1N (x) (rgK o.2.2.1)).1.1))), (.key 9001), (.dv [] (.int .i64 ((a1N (x) (rgK o.2.2.1)).1.2.2)))])], [(9001, some (a0b false (a0w ((a1N x (rgK o.2.2.1)).1.2.1))))]⟩) (a0e ⟨rfl, rfl, rfl, trivial⟩ ⟨rfl, trivial⟩ ⟨rfl, trivial⟩ rfl) ?_
    iterate 3 refine z ?_
    refine a1U (a0E hT rfl rfl rfl rfl) (a0l rfl) (a0l rfl) rfl rfl rfl ?_
    first | exact ⟨rfl, rfl⟩ | skip
   ·have d3 := c9g c3
    iterate 4 refine z ?_
    refine yQ rfl (fun c4 => ?_) fun c4 => ?_
    ·have d4 := c9f c4
     iterate 2 refine z ?_
     refine yO rfl rfl (a1v hT hB rfl rfl rfl a1w) rfl ?_
     refine zK 0 Tryz.call109 ?_ (hf := b7K (x := x) (r := rg0) (by omega))
     iterate 14 refine z ?_
     rw [c1d d4]
     refine a0h (σ' := ⟨[(4, .box 4 0), (5, .one (.dv [] (.int .i64 ((a1N (x) (rg0)).2)))), (6, .one (.dv [] (.bool (true))))], [(4, 77, [(.dv [] (.str ((a1N (x) (rg0)).1.1))), (.key 9001), (.dv [] (.int .i64 ((a1N (x) (rg0)).1.2.2)))])], [(9001, some (a0b false (a0w ((a1N x rg0).1.2.1))))]⟩) (a0e ⟨rfl, rfl, rfl, trivial⟩ ⟨rfl, trivial⟩ ⟨rfl, trivial⟩ rfl) ?_
     iterate 3 refine z ?_
     refine a1U (a0E hT rfl rfl rfl rfl) (a0l rfl) (a0l rfl) rfl rfl rfl ?_
     first | exact ⟨rfl, rfl⟩ | skip
    ·have d4 := c9g c4
     iterate 4 refine z ?_
     refine yQ rfl (fun c5 => ?_) fun c5 => ?_
     ·have d5 := c9f c5
      exact absurd d5 (c7N hal)
     ·have d5 := c9g c5
      iterate 4 refine z ?_
      refine yO rfl rfl (a1v hT hB rfl rfl rfl a1w) rfl ?_
      iterate 8 refine z ?_
      refine yQ rfl (fun c6 => ?_) fun c6 => ?_
      ·have d6 := c9f c6
       have hb9 := b2N hs d6
       have hgb := a8j (n := o.2.2.2.2) hb9
       have hrl := a7s hb9
       have hrq := b3M d6
       have hlt9 := a4W d6
       have hsl := b1E ((x.2.1.getD (a0S x o.2.2.1).toNat default).2) o.2.2.2.2 ((a0Z ((x.2.1.getD (a0S x o.2.2.1).toNat default).2) o.2.2.2.2).1 + 1)
       refine a0n ?_
       iterate 12 refine z ?_
       refine zC Tryz.call105 ?_ (hf := a5U (x := ((x.2.1.getD (a0S x o.2.2.1).toNat default).2)) (n := o.2.2.2.2))
       iterate 12 refine z ?_
       refine zK 499 Tryz.call110 ?_ (hf := b0T (r := ((x.2.1.getD (a0S x o.2.2.1).toNat default).2)) (n := o.2.2.2.2) (v := (a0Z ((x.2.1.getD (a0S x o.2.2.1).toNat default).2) o.2.2.2.2).1 + 1) (by omega))
       iterate 11 refine z ?_
       refine yQ rfl (fun c7 => ?_) fun c7 => ?_
       ·exact absurd c7 (b8m hal d1 d2 d3 d4 hrq)
       ·iterate 7 refine z ?_
        refine a2H 0 rfl rfl rfl Tryz.call107 (b1R (x := x) (k := o.2.2.1) (r := (a1G ((x.2.1.getD (a0S x o.2.2.1).toNat default).2) o.2.2.2.2 ((a0Z ((x.2.1.getD (a0S x o.2.2.1).toNat default).2) o.2.2.2.2).1 + 1)).1) (by omega) (by omega)) (a0g (a0a rfl) (a0t (a0d a0c (a0d a0c (a0d a0c a0r)))) (a0g (a0a rfl) (a0t (a0d a0c (a0d a0c (a0d a0c a0r)))) (a0g (a0a rfl) (a0t (a0d (a0X rfl rfl) a0r)) a0q))) rfl rfl rfl ?_
        iterate 16 refine z ?_
        rw [b9j d1 d2 d3 d4 d5 hrq c7]
        refine a0h (σ' := ⟨[(4, .box 4 0), (5, .one (.dv [] (.int .i64 (((a0Z ((((x.2.1)).getD (a0S (x) (o.2.2.1)).toNat default).2) (o.2.2.2.2)).1) + (1))))), (6, .one (.dv [] (.bool ((a0N (x) (o.2.2.1) ((a1G ((((x.2.1)).getD (a0S (x) (o.2.2.1)).toNat default).2) (o.2.2.2.2) (((a0Z ((((x.2.1)).getD (a0S (x) (o.2.2.1)).toNat default).2) (o.2.2.2.2)).1) + (1))).1)).2))))], [(4, 77, [(.dv [] (.str ((a0N (x) (o.2.2.1) ((a1G ((((x.2.1)).getD (a0S (x) (o.2.2.1)).toNat default).2) (o.2.2.2.2) (((a0Z ((((x.2.1)).getD (a0S (x) (o.2.2.1)).toNat default).2) (o.2.2.2.2)).1) + (1))).1)).1.1))), (.key 9001), (.dv [] (.int .i64 ((a0N (x) (o.2.2.1) ((a1G ((((x.2.1)).getD (a0S (x) (o.2.2.1)).toNat default).2) (o.2.2.2.2) (((a0Z ((((x.2.1)).getD (a0S (x) (o.2.2.1)).toNat default).2) (o.2.2.2.2)).1) + (1))).1)).1.2.2)))])], [(9001, some (a0b false (a0w ((a0N x o.2.2.1 (a1G ((x.2.1.getD (a0S x o.2.2.1).toNat default).2) o.2.2.2.2 ((a0Z ((x.2.1.getD (a0S x o.2.2.1).toNat default).2) o.2.2.2.2).1 + 1)).1).1.2.1))))]⟩) (a0e ⟨rfl, rfl, rfl, trivial⟩ ⟨rfl, trivial⟩ ⟨rfl, trivial⟩ rfl) ?_
        refine z ?_
        refine a1U (a0E hT rfl rfl rfl rfl) (a0l rfl) (a0l rfl) rfl rfl rfl ?_
        first | exact ⟨rfl, rfl⟩ | skip
      ·have d6 := c9g c6
       have hb9 : a1b [] = true := rfl
       have hgb := a8j (n := o.2.2.2.2) hb9
       have hrl := a7s hb9
       have hrq := b3L d6
       have hsl := b1E ([] : a0v) o.2.2.2.2 ((a0Z ([] : a0v) o.2.2.2.2).1 + 1)
       iterate 6 refine z ?_
       refine a3T rfl rfl rfl Tryz.call105 (a5U (x := ([] : a0v)) (n := o.2.2.2.2)) (a0g (a0a rfl) (a0t (a0d (a5u rfl rfl) a0r)) (a0g (a0a rfl) (a0C a0c) a0q)) rfl rfl ?_
       iterate 12 refine z ?_
       refine a2H 499 rfl rfl rfl Tryz.call110 (b0T (r := ([] : a0v)) (n := o.2.2.2.2) (v := (a0Z ([] : a0v) o.2.2.2.2).1 + 1) (by omega)) (a0g (a0a rfl) (a0t (a0d (a5u rfl rfl) a0r)) (a0g (a0a rfl) (a0C a0c) (a0g (a0a rfl) (a0C a0c) a0q))) rfl rfl rfl ?_
       iterate 11 refine z ?_
       refine yQ rfl (fun c8 => ?_) fun c8 => ?_
       ·exact absurd c8 (b8m hal d1 d2 d3 d4 hrq)
       ·iterate 7 refine z ?_
        refine a2H 0 rfl rfl rfl Tryz.call107 (b1R (x := x) (k := o.2.2.1) (r := (a1G ([] : a0v) o.2.2.2.2 ((a0Z ([] : a0v) o.2.2.2.2).1 + 1)).1) (by omega) (by omega)) (a0g (a0a rfl) (a0t (a0d a0c (a0d a0c (a0d a0c a0r)))) (a0g (a0a rfl) (a0t (a0d a0c (a0d a0c (a0d a0c a0r)))) (a0g (a0a rfl) (a0t (a0d (a0X rfl rfl) a0r)) a0q))) rfl rfl rfl ?_
        iterate 16 refine z ?_
        rw [b9j d1 d2 d3 d4 d5 hrq c8]
        refine a0h (σ' := ⟨[(4, .box 4 0), (5, .one (.dv [] (.int .i64 (((a0Z ([]) (o.2.2.2.2)).1) + (1))))), (6, .one (.dv [] (.bool ((a0N (x) (o.2.2.1) ((a1G ([]) (o.2.2.2.2) (((a0Z ([]) (o.2.2.2.2)).1) + (1))).1)).2))))], [(4, 77, [(.dv [] (.str ((a0N (x) (o.2.2.1) ((a1G ([]) (o.2.2.2.2) (((a0Z ([]) (o.2.2.2.2)).1) + (1))).1)).1.1))), (.key 9001), (.dv [] (.int .i64 ((a0N (x) (o.2.2.1) ((a1G ([]) (o.2.2.2.2) (((a0Z ([]) (o.2.2.2.2)).1) + (1))).1)).1.2.2)))])], [(9001, some (a0b false (a0w ((a0N x o.2.2.1 (a1G ([] : a0v) o.2.2.2.2 ((a0Z ([] : a0v) o.2.2.2.2).1 + 1)).1).1.2.1))))]⟩) (a0e ⟨rfl, rfl, rfl, trivial⟩ ⟨rfl, trivial⟩ ⟨rfl, trivial⟩ rfl) ?_
        refine z ?_
        refine a1U (a0E hT rfl rfl rfl rfl) (a0l rfl) (a0l rfl) rfl rfl rfl ?_
        first | exact ⟨rfl, rfl⟩ | skip
theorem c8T {x : a0G} {k : a0K} {f : Str} (hs : a1i x = true) : KFn Tryz.prog 93 [.agg [(.dv [] (.str (x.1))), (.dv [] (a0w (x.2.1))), (.dv [] (.int .i64 (x.2.2)))], .agg [(.dv [] (.int .i64 (k.1))), (.dv [] (.int .i64 (k.2.1))), (.dv [] (.str (k.2.2)))], .one (.dv [] (.str (f)))] (.tup [(true, [(.dv [] (.str ((a3w x k f).1.1))), (.key 9001), (.dv [] (.int .i64 ((a3w x k f).1.2.2)))]), (false, [(.dv [] (.int .i64 ((a3w x k f).2.1)))]), (false, [(.dv [] (.bool ((a3w x k f).2.2)))])]) [(9001, some (a0b false (a0w ((a3w x k f).1.2.1))))] := by
 refine ⟨a0O Tryz.func93 rfl Tryz.ntmps93 Tryz.results93 rfl (fun C => ?_)⟩
 have hsw := a6P hs
 refine yF 0 0 rfl rfl fun f0_0 => ?_
 refine yF 0 1 rfl rfl fun f0_1 => ?_
 refine yF 0 2 rfl rfl fun f0_2 => ?_
 refine yF 1 0 rfl rfl fun f1_0 => ?_
 refine yF 1 1 rfl rfl fun f1_1 => ?_
 refine yF 1 2 rfl rfl fun f1_2 => ?_
 refine a1k (x := .tmp 2) (a0a rfl) fun f2 => ?_
 iterate 8 refine z ?_
 refine yO rfl rfl (a1v hT hB rfl rfl rfl a1w) rfl ?_
 iterate 7 refine z ?_
 refine zC Tryz.call92 ?_ (hf := b0R (x := x) (k := k) )
 iterate 6 refine z ?_
 refine yQ rfl (fun c1 => ?_) fun c1 => ?_
 ·have d1 := c9f c1
  have hb9 := b2N hs d1
  have hgb := a8j (n := f) hb9
  have hrl := a7s hb9
  have hrq := b3M d1
  have hlt9 := a4W d1
  have hsl := b1E ((x.2.1.getD (a0S x k).toNat default).2) f ((a0Z ((x.2.1.getD (a0S x k).toNat default).2) f).1 + 1)
  refine a0n ?_
  iterate 11 refine z ?_
  refine zC Tryz.call89 ?_ (hf := a7v (x := ((x.2.1.getD (a0S x k).toNat default).2)) (n := f))
  iterate 11 refine z ?_
  refine zK 499 Tryz.call97 ?_ (hf := b2I (r := ((x.2.1.getD (a0S x k).toNat default).2)) (n := f) (v := (a0Z ((x.2.1.getD (a0S x k).toNat default).2) f).1 + 1) (by omega))
  iterate 11 refine z ?_
  refine a2H 0 rfl rfl rfl Tryz.call65 (a8r (x := x) (k := k) (r := (a1G ((x.2.1.getD (a0S x k).toNat default).2) f ((a0Z ((x.2.1.getD (a0S x k).toNat default).2) f).1 + 1)).1) (by omega) (by omega)) (a0g (a0a rfl) (a0t (a0d a0c (a0d a0c (a0d a0c a0r)))) (a0g (a0a rfl) (a0t (a0d a0c (a0d a0c (a0d a0c a0r)))) (a0g (a0a rfl) (a0t (a0d (a0X rfl rfl) a0r)) a0q))) rfl rfl rfl ?_
  iterate 19 refine z ?_
  have hfin : a3w x k f = ((a0N x k (a1G ((x.2.1.getD (a0S x k).toNat default).2) f ((a0Z ((x.2.1.getD (a0S x k).toNat default).2) f).1 + 1)).1).1, (a0Z ((x.2.1.getD (a0S x k).toNat default).2) f).1 + 1, (a1G ((x.2.1.getD (a0S x k).toNat default).2) f ((a0Z ((x.2.1.getD (a0S x k).toNat default).2) f).1 + 1)).2 && (a0N x k (a1G ((x.2.1.getD (a0S x k).toNat default).2) f ((a0Z ((x.2.1.getD (a0S x k).toNat default).2) f).1 + 1)).1).2) := by rw [a3w, hrq]; rfl
  rw [hfin]
  refine a0h (σ' := ⟨[(6, .box 6 0), (7, .one (.dv [] (.int .i64 (((a0Z ((((x.2.1)).getD (a0S (x) (k)).toNat default).2) (f)).1) + (1))))), (8, .one (.dv [] (.bool (((a1G ((((x.2.1)).getD (a0S (x) (k)).toNat default).2) (f) (((a0Z ((((x.2.1)).getD (a0S (x) (k)).toNat default).2) (f)).1) + (1))).2) && ((a0N (x) (k) ((a1G ((((x.2.1)).getD (a0S (x) (k)).toNat default).2) (f) (((a0Z ((((x.2.1)).getD (a0S (x) (k)).toNat default).2) (f)).1) + (1))).1)).2)))))], [(6, 77, [(.dv [] (.str ((a0N (x) (k) ((a1G ((((x.2.1)).getD (a0S (x) (k)).toNat default).2) (f) (((a0Z ((((x.2.1)).getD (a0S (x) (k)).toNat default).2) (f)).1) + (1))).1)).1.1))), (.key 9001), (.dv [] (.int .i64 ((a0N (x) (k) ((a1G ((((x.2.1)).getD (a0S (x) (k)).toNat default).2) (f) (((a0Z ((((x.2.1)).getD (a0S (x) (k)).toNat default).2) (f)).1) + (1))).1)).1.2.2)))])], [(9001, some (a0b false (a0w ((a0N x k (a1G ((x.2.1.getD (a0S x k).toNat default).2) f ((a0Z ((x.2.1.getD (a0S x k).toNat default).2) f).1 + 1)).1).1.2.1))))]⟩) (a0e ⟨rfl, rfl, rfl, trivial⟩ ⟨rfl, trivial⟩ ⟨rfl, trivial⟩ rfl) ?_
  refine z ?_
  refine a1U (a0E hT rfl rfl rfl rfl) (a0l rfl) (a0l rfl) rfl rfl rfl ?_
  first | exact ⟨rfl, rfl⟩ | skip
 ·have d1 := c9g c1
  have hb9 : a1b [] = true := rfl
  have hgb := a8j (n := f) hb9
  have hrl := a7s hb9
  have hrq := b3L d1
  have hsl := b1E ([] : a0v) f ((a0Z ([] : a0v) f).1 + 1)
  iterate 5 refine z ?_
  refine a3T rfl rfl rfl Tryz.call89 (a7v (x := ([] : a0v)) (n := f)) (a0g (a0a rfl) (a0t (a0d (a5u rfl rfl) a0r)) (a0g (a0a rfl) (a0C a0c) a0q)) rfl rfl ?_
  iterate 11 refine z ?_
  refine a2H 499 rfl rfl rfl Tryz.call97 (b2I (r := ([] : a0v)) (n := f) (v := (a0Z ([] : a0v) f).1 + 1) (by omega)) (a0g (a0a rfl) (a0t (a0d (a5u rfl rfl) a0r)) (a0g (a0a rfl) (a0C a0c) (a0g (a0a rfl) (a0C a0c) a0q))) rfl rfl rfl ?_
  iterate 11 refine z ?_
  refine a2H 0 rfl rfl rfl Tryz.call65 (a8r (x := x) (k := k) (r := (a1G ([] : a0v) f ((a0Z ([] : a0v) f).1 + 1)).1) (by omega) (by omega)) (a0g (a0a rfl) (a0t (a0d a0c (a0d a0c (a0d a0c a0r)))) (a0g (a0a rfl) (a0t (a0d a0c (a0d a0c (a0d a0c a0r)))) (a0g (a0a rfl) (a0t (a0d (a0X rfl rfl) a0r)) a0q))) rfl rfl rfl ?_
  iterate 19 refine z ?_
  have hfin : a3w x k f = ((a0N x k (a1G ([] : a0v) f ((a0Z ([] : a0v) f).1 + 1)).1).1, (a0Z ([] : a0v) f).1 + 1, (a1G ([] : a0v) f ((a0Z ([] : a0v) f).1 + 1)).2 && (a0N x k (a1G ([] : a0v) f ((a0Z ([] : a0v) f).1 + 1)).1).2) := by rw [a3w, hrq]; rfl
  rw [hfin]
  refine a0h (σ' := ⟨[(6, .box 6 0), (7, .one (.dv [] (.int .i64 (((a0Z ([]) (f)).1) + (1))))), (8, .one (.dv [] (.bool (((a1G ([]) (f) (((a0Z ([]) (f)).1) + (1))).2) && ((a0N (x) (k) ((a1G ([]) (f) (((a0Z ([]) (f)).1) + (1))).1)).2)))))], [(6, 77, [(.dv [] (.str ((a0N (x) (k) ((a1G ([]) (f) (((a0Z ([]) (f)).1) + (1))).1)).1.1))), (.key 9001), (.dv [] (.int .i64 ((a0N (x) (k) ((a1G ([]) (f) (((a0Z ([]) (f)).1) + (1))).1)).1.2.2)))])], [(9001, some (a0b false (a0w ((a0N x k (a1G ([] : a0v) f ((a0Z ([] : a0v) f).1 + 1)).1).1.2.1))))]⟩) (a0e ⟨rfl, rfl, rfl, trivial⟩ ⟨rfl, trivial⟩ ⟨rfl, trivial⟩ rfl) ?_
  refine z ?_
  refine a1U (a0E hT rfl rfl rfl rfl) (a0l rfl) (a0l rfl) rfl rfl rfl ?_
  first | exact ⟨rfl, rfl⟩ | skip
section
variable {x : a0G} {o : OpT}
theorem c1u (h : o.1 = 1) : opM x o = ((a0N x o.2.2.1 o.2.2.2.1).1, 1, (a0N x o.2.2.1 o.2.2.2.1).2) := by rw [opM, if_pos h]
theorem c5o (h : o.1 = 2) : opM x o = ((a2C x o.2.2.1 o.2.2.2.1).1, 1, (a2C x o.2.2.1 o.2.2.2.1).2) := by rw [opM, if_neg (by omega), if_pos h]
theorem c9e (h : o.1 = 3) : opM x o = ((a1N x (rgK o.2.2.1)).1, (a1N x (rgK o.2.2.1)).2, true) := by rw [opM, if_neg (by omega), if_neg (by omega), if_pos h]
theorem c2X (h : o.1 = 5) : opM x o = ((a1N x rg0).1, (a1N x rg0).2, true) := by rw [opM, if_neg (by omega), if_neg (by omega), if_neg (by omega), if_neg (by omega), if_pos h]
theorem c5K (h : o.1 = 4) (h2 : a0S x o.2.2.1 < 0) : opM x o = (x, -1, true) := by rw [opM, if_neg (by omega), if_neg (by omega), if_neg (by omega), if_pos h, a8M, if_pos h2]
theorem c4v (h : o.1 = 4) (h2 : ¬ a0S x o.2.2.1 < 0) : opM x o = (x, ((x.2.1.getD (a0S x o.2.2.1).toNat default).2.length : Int), true) := by rw [opM, if_neg (by omega), if_neg (by omega), if_neg (by omega), if_pos h, a8M, if_neg h2]
theorem c2M (h1 : o.1 ≠ 1) (h2 : o.1 ≠ 2) (h3 : o.1 ≠ 3) (h4 : o.1 ≠ 4) (h5 : o.1 ≠ 5) : opM x o = a3w x o.2.2.1 o.2.2.2.2 := by rw [opM, if_neg h1, if_neg h2, if_neg h3, if_neg h4, if_neg h5]
end
theorem c6C {x : a0G} {o : OpT} (hs : a1i x = true) (ho : a1s o = true) : KFn Tryz.prog 56 [.agg [(.dv [] (.str (x.1))), (.dv [] (a0w (x.2.1))), (.dv [] (.int .i64 (x.2.2)))], .agg [(.dv [] (.int .i64 (o.1))), (.dv [] (.str (o.2.1))), (.dv [] (.int .i64 (o.2.2.1.1))), (.dv [] (.int .i64 (o.2.2.1.2.1))), (.dv [] (.str (o.2.2.1.2.2))), (.dv [] (a0I (o.2.2.2.1))), (.dv [] (.str (o.2.2.2.2)))]] (.tup [(true, [(.dv [] (.str ((opM x o).1.1))), (.key 9001), (.dv [] (.int .i64 ((opM x o).1.2.2)))]), (false, [(.dv [] (.int .i64 ((opM x o).2.1)))]), (false, [(.dv [] (.bool ((opM x o).2.2)))])]) [(9001, some (a0b false (a0w ((opM x o).1.2.1))))] := by
 refine ⟨a0O Tryz.func56 rfl Tryz.ntmps56 Tryz.results56 rfl (fun C => ?_)⟩
 have hsw := a6P hs
 have hor := b5g ho
 refine yF 0 0 rfl rfl fun f0_0 => ?_
 refine yF 0 1 rfl rfl fun f0_1 => ?_
 refine yF 0 2 rfl rfl fun f0_2 => ?_
 refine yF 1 0 rfl rfl fun f1_0 => ?_
 refine yF 1 1 rfl rfl fun f1_1 => ?_
 refine yF 1 2 rfl rfl fun f1_2 => ?_
 refine yF 1 3 rfl rfl fun f1_3 => ?_
 refine yF 1 4 rfl rfl fun f1_4 => ?_
 refine yF 1 5 rfl rfl fun f1_5 => ?_
 refine yF 1 6 rfl rfl fun f1_6 => ?_
 iterate 17 refine z ?_
 refine yQ rfl (fun c1 => ?_) fun c1 => ?_
 ·have d1 := c9f c1
  iterate 6 refine z ?_
  refine zK 0 Tryz.call65 ?_ (hf := a8r (x := x) (k := o.2.2.1) (r := o.2.2.2.1) (by omega) (by omega))
  iterate 14 refine z ?_
  rw [c1u d1]
  refine a0h (σ' := ⟨[(4, .box 4 0), (5, .one (.dv [] (.int .i64 (1)))), (6, .one (.dv [] (.bool ((a0N (x) (o.2.2.1) (o.2.2.2.1)).2))))], [(4, 77, [(.dv [] (.str ((a0N (x) (o.2.2.1) (o.2.2.2.1)).1.1))), (.key 9001), (.dv [] (.int .i64 ((a0N (x) (o.2.2.1) (o.2.2.2.1)).1.2.2)))])], [(9001, some (a0b false (a0w ((a0N x o.2.2.1 o.2.2.2.1).1.2.1))))]⟩) (a0e ⟨rfl, rfl, rfl, trivial⟩ ⟨rfl, trivial⟩ ⟨rfl, trivial⟩ rfl) ?_
  iterate 3 refine z ?_
  refine a1U (a0E hT rfl rfl rfl rfl) (a0l rfl) (a0l rfl) rfl rfl rfl ?_
  first | exact ⟨rfl, rfl⟩ | skip
 ·have d1 := c9g c1
  iterate 4 refine z ?_
  refine yQ rfl (fun c2 => ?_) fun c2 => ?_
  ·have d2 := c9f c2
   iterate 6 refine z ?_
   refine zK 0 Tryz.call90 ?_ (hf := c6R (x := x) (k := o.2.2.1) (r := o.2.2.2.1) (by omega) (by omega))
   iterate 14 refine z ?_
   rw [c5o d2]
   refine a0h (σ' := ⟨[(4, .box 4 0), (5, .one (.dv [] (.int .i64 (1)))), (6, .one (.dv [] (.bool ((a2C (x) (o.2.2.1) (o.2.2.2.1)).2))))], [(4, 77, [(.dv [] (.str ((a2C (x) (o.2.2.1) (o.2.2.2.1)).1.1))), (.key 9001), (.dv [] (.int .i64 ((a2C (x) (o.2.2.1) (o.2.2.2.1)).1.2.2)))])], [(9001, some (a0b false (a0w ((a2C x o.2.2.1 o.2.2.2.1).1.2.1))))]⟩) (a0e ⟨rfl, rfl, rfl, trivial⟩ ⟨rfl, trivial⟩ ⟨rfl, trivial⟩ rfl) ?_
   iterate 3 refine z ?_
   refine a1U (a0E hT rfl rfl rfl rfl) (a0l rfl) (a0l rfl) rfl rfl rfl ?_
   first | exact ⟨rfl, rfl⟩ | skip
  ·have d2 := c9g c2
   iterate 4 refine z ?_
   refine yQ rfl (fun c3 => ?_) fun c3 => ?_
   ·have d3 := c9f c3
    iterate 6 refine z ?_
    refine yO rfl rfl (a1v hT hB rfl rfl rfl (a1c a0J rfl rfl rfl rfl rfl (a1c a0J rfl rfl rfl rfl rfl (a1c (a0a rfl) rfl rfl rfl rfl rfl (a1c (a0a rfl) rfl rfl rfl rfl rfl a1w))))) rfl ?_
    refine zK 0 Tryz.call91 ?_ (hf := b5n (x := x) (r := rgK o.2.2.1) (by omega))
    iterate 14 refine z ?_
    rw [c9e d3]
    refine a0h (σ' := ⟨[(4, .box 4 0), (5, .one (.dv [] (.int .i64 ((a1N (x) (rgK o.2.2.1)).2)))), (6, .one (.dv [] (.bool (true))))], [(4, 77, [(.dv [] (.str ((a1N (x) (rgK o.2.2.1)).1.1))), (.key 9001), (.dv [] (.int .i64 ((a1N (x) (rgK o.2.2.1)).1.2.2)))])], [(9001, some (a0b false (a0w ((a1N x (rgK o.2.2.1)).1.2.1))))]⟩) (a0e ⟨rfl, rfl, rfl, trivial⟩ ⟨rfl, trivial⟩ ⟨rfl, trivial⟩ rfl) ?_
    iterate 3 refine z ?_
    refine a1U (a0E hT rfl rfl rfl rfl) (a0l rfl) (a0l rfl) rfl rfl rfl ?_
    first | exact ⟨rfl, rfl⟩ | skip
   ·have d3 := c9g c3
    iterate 4 refine z ?_
    refine yQ rfl (fun c4 => ?_) fun c4 => ?_
    ·have d4 := c9f c4
     iterate 4 refine z ?_
     refine zC Tryz.call92 ?_ (hf := b0R (x := x) (k := o.2.2.1) )
     iterate 7 refine z ?_
     refine yQ rfl (fun c5 => ?_) fun c5 => ?_
     ·have d5 := c9f c5
      iterate 2 refine z ?_
      refine zK 8971 Tryz.call49 ?_ (hf := a7B (x := x) (by omega))
      iterate 4 refine z ?_
      rw [c5K d4 d5]
      refine a0h (σ' := ⟨[(4, .box 4 0), (5, .one (.dv [] (.int .i64 (-1)))), (6, .one (.dv [] (.bool (true))))], [(4, 77, [(.dv [] (.str ((x).1))), (.key 9001), (.dv [] (.int .i64 ((x).2.2)))])], [(9001, some (a0b false (a0w (x.2.1))))]⟩) (a0e ⟨rfl, rfl, rfl, trivial⟩ ⟨rfl, trivial⟩ ⟨rfl, trivial⟩ rfl) ?_
      iterate 4 refine z ?_
      refine a1U (a0E hT rfl rfl rfl rfl) (a0l rfl) (a0l rfl) rfl rfl rfl ?_
      first | exact ⟨rfl, rfl⟩ | skip
     ·have d5 := c9g c5
      have hfx : a0S x o.2.2.1 < x.2.1.length := by have := a4W (x := x) (k := o.2.2.1) (by omega); omega
      iterate 2 refine z ?_
      refine a0u ?_
      refine c4Q 4 [0, 1, 2, 3, 4, 5, 6, 7, 8, 9, 10] (oB := [2, 3]) (oK := []) (by kernel_rfl) rfl rfl ?_
      refine a5P 0 rfl (by kernel_rfl) rfl rfl (a4I hT rfl rfl (a0a rfl) rfl rfl) rfl rfl rfl rfl rfl ?_
      refine a5P 2 rfl (by kernel_rfl) rfl rfl (a5E hT rfl rfl rfl (a0a rfl)) rfl rfl rfl rfl rfl ?_
      refine a5P 3 rfl (by kernel_rfl) rfl rfl (a4d hT rfl rfl (a0a rfl) rfl rfl) rfl rfl rfl rfl rfl ?_
      refine a5P 4 rfl (by kernel_rfl) rfl rfl (a0M (.inl rfl) (a0a rfl)) rfl rfl rfl rfl rfl ?_
      refine a5P 5 rfl (by kernel_rfl) rfl rfl (a5k hT rfl rfl rfl (a0a rfl) (a0a rfl) (fun _ => rfl) (by omega) (by omega)) rfl rfl rfl rfl rfl ?_
      refine a5P 6 rfl (by kernel_rfl) rfl rfl (a5Q hT rfl rfl rfl (a0a rfl)) rfl rfl rfl rfl rfl ?_
      refine a5P 7 rfl (by kernel_rfl) rfl rfl (a5Q hT rfl rfl rfl (a0a rfl)) rfl rfl rfl rfl rfl ?_
      refine a5P 8 rfl (by kernel_rfl) rfl rfl (b4f hT rfl rfl (a0a rfl) rfl) rfl rfl rfl rfl rfl ?_
      refine a5P 9 rfl (by kernel_rfl) rfl rfl (a6R hT rfl rfl (a0a rfl)) rfl rfl rfl rfl rfl ?_
      refine c1X 8971 1 rfl (by kernel_rfl) rfl rfl rfl Tryz.call49 (a7B (x := x) (by omega)) (a0g (a0a rfl) (a0t (a0d a0c (a0d a0c (a0d a0c a0r)))) a0q) rfl rfl rfl rfl rfl rfl ?_
      refine c5C 10 rfl (by kernel_rfl) rfl hT rfl rfl rfl (a0a rfl) (a0a rfl) rfl rfl rfl rfl rfl rfl ?_
      refine c5r [11, 12] rfl rfl (by kernel_rfl) ?_
      iterate 3 refine z ?_
      rw [c4v d4 d5]
      refine a0h (σ' := ⟨[(4, .box 4 0), (5, .one (.dv [] (.int .i64 (((((((x.2.1)).getD (a0S (x) (o.2.2.1)).toNat default).2)).length : Int))))), (6, .one (.dv [] (.bool (true))))], [(4, 77, [(.dv [] (.str ((x).1))), (.key 9001), (.dv [] (.int .i64 ((x).2.2)))])], [(9001, some (a0b false (a0w (x.2.1))))]⟩) (a0e ⟨rfl, rfl, rfl, trivial⟩ ⟨rfl, trivial⟩ ⟨rfl, trivial⟩ rfl) ?_
      iterate 3 refine z ?_
      refine a1U (a0E hT rfl rfl rfl rfl) (a0l rfl) (a0l rfl) rfl rfl rfl ?_
      first | exact ⟨rfl, rfl⟩ | skip
    ·have d4 := c9g c4
     iterate 4 refine z ?_
     refine yQ rfl (fun c6 => ?_) fun c6 => ?_
     ·have d6 := c9f c6
      iterate 2 refine z ?_
      refine yO rfl rfl (a1v hT hB rfl rfl rfl a1w) rfl ?_
      refine zK 0 Tryz.call91 ?_ (hf := b5n (x := x) (r := rg0) (by omega))
      iterate 14 refine z ?_
      rw [c2X d6]
      refine a0h (σ' := ⟨[(4, .box 4 0), (5, .one (.dv [] (.int .i64 ((a1N (x) (rg0)).2)))), (6, .one (.dv [] (.bool (true))))], [(4, 77, [(.dv [] (.str ((a1N (x) (rg0)).1.1))), (.key 9001), (.dv [] (.int .i64 ((a1N (x) (rg0)).1.2.2)))])], [(9001, some (a0b false (a0w ((a1N x rg0).1.2.1))))]⟩) (a0e ⟨rfl, rfl, rfl, trivial⟩ ⟨rfl, trivial⟩ ⟨rfl, trivial⟩ rfl) ?_
      iterate 3 refine z ?_
      refine a1U (a0E hT rfl rfl rfl rfl) (a0l rfl) (a0l rfl) rfl rfl rfl ?_
      first | exact ⟨rfl, rfl⟩ | skip
     ·have d6 := c9g c6
      iterate 9 refine z ?_
      refine zK 0 Tryz.call93 ?_ (hf := c8T (x := x) (k := o.2.2.1) (f := o.2.2.2.2) hs)
      iterate 7 refine z ?_
      rw [c2M d1 d2 d3 d4 d6]
      refine a0h (σ' := ⟨[(4, .box 4 0), (5, .one (.dv [] (.int .i64 ((a3w (x) (o.2.2.1) (o.2.2.2.2)).2.1)))), (6, .one (.dv [] (.bool ((a3w (x) (o.2.2.1) (o.2.2.2.2)).2.2))))], [(4, 77, [(.dv [] (.str ((a3w (x) (o.2.2.1) (o.2.2.2.2)).1.1))), (.key 9001), (.dv [] (.int .i64 ((a3w (x) (o.2.2.1) (o.2.2.2.2)).1.2.2)))])], [(9001, some (a0b false (a0w ((a3w x o.2.2.1 o.2.2.2.2).1.2.1))))]⟩) (a0e ⟨rfl, rfl, rfl, trivial⟩ ⟨rfl, trivial⟩ ⟨rfl, trivial⟩ rfl) ?_
      refine z ?_
      refine a1U (a0E hT rfl rfl rfl rfl) (a0l rfl) (a0l rfl) rfl rfl rfl ?_
      first | exact ⟨rfl, rfl⟩ | skip
theorem b9e {α : Type} {enc : α → List DV} {sz : Nat} {xs : List α} {i : Nat} (hs : ∀ y, (enc y).length = sz) (hi : i < xs.length) : i * sz + sz ≤ (xs.flatMap enc).length := by
 rw [a4S hs]
 have : (i + 1) * sz ≤ xs.length * sz := Nat.mul_le_mul_right _ hi
 rw [Nat.add_mul, Nat.one_mul] at this
 exact this
section
variable {α : Type} {enc : α → List DV} {sz : Nat} {xs : List α} {i : Nat} [Inhabited α]
theorem b2J (hs : ∀ y, (enc y).length = sz) (hi : i < xs.length) : sub (i * sz) sz (xs.flatMap enc) = enc (xs.getD i default) := by
 obtain ⟨_, h2⟩ := a7x hs i xs
 have e : xs.drop i = xs.getD i default :: xs.drop (i + 1) := by rw [List.drop_eq_getElem_cons hi]; simp [List.getD, List.getElem?_eq_getElem hi]
 rw [sub, h2, e, List.flatMap_cons, List.take_left' (hs _)]
theorem b9w (hs : ∀ y, (enc y).length = sz) (hi : i < xs.length) (y : α) : a1d (i * sz) (enc y) (xs.flatMap enc) = (xs.set i y).flatMap enc := by
 have e : xs.flatMap enc = (xs.take i).flatMap enc ++ (enc (xs.getD i default) ++ (xs.drop (i + 1)).flatMap enc) := by
  have e : xs.drop i = xs.getD i default :: xs.drop (i + 1) := by rw [List.drop_eq_getElem_cons hi]; simp [List.getD, List.getElem?_eq_getElem hi]
  rw [← List.flatMap_cons, ← e, ← List.flatMap_append, List.take_append_drop]
 rw [e, a6O (by rw [a4S hs, c9j]; congr 1; omega) (by rw [hs, hs]), List.set_eq_take_append_cons_drop, if_pos hi, List.flatMap_append, List.flatMap_cons]
end
def a3o (d : DbT) (i : Nat) (s : a0G) : DbT := (d.1, d.2.1, d.2.2.1.set i s, d.2.2.2)
def a2O (d : DbT) (o : OpT) : a0G := d.2.2.1.getD (a1D d o.2.1).toNat default
def a1j (d : DbT) (o : OpT) : DbT × Int × Bool :=
 if ((!a1e d || !a1s o) || decide (a1D d o.2.1 < 0)) = true then (d, 0, false)
 else if (!(opM (a2O d o) o).2.2 || !a1e (a3o d (a1D d o.2.1).toNat (opM (a2O d o) o).1)) = true then (d, 0, false)
 else (a3o d (a1D d o.2.1).toNat (opM (a2O d o) o).1, (opM (a2O d o) o).2.1, true)
theorem a9k {d : DbT} {o : OpT} (h : ((!a1e d || !a1s o) || decide (a1D d o.2.1 < 0)) = false) : a1e d = true ∧ a1s o = true ∧ 0 ≤ a1D d o.2.1 := by
 simp only [Bool.or_eq_false_iff, Bool.not_eq_false', decide_eq_false_iff_not] at h
 exact ⟨h.1.1, h.1.2, by omega⟩
theorem a9U {d : DbT} (h : a1e d = true) : a6j d = true := by
 rw [a1e] at h
 simp only [Bool.and_eq_true] at h
 exact h.2.1
theorem b4o {d : DbT} {o : OpT} (h : ((!a1e d || !a1s o) || decide (a1D d o.2.1 < 0)) = true) : a1j d o = (d, 0, false) := by rw [a1j, if_pos h]
theorem b2W {d : DbT} {o : OpT} {r : a0G × Int × Bool} (h : ((!a1e d || !a1s o) || decide (a1D d o.2.1 < 0)) = false) (hr : r = opM (a2O d o) o ∨ (r.2.2 = false ∧ (opM (a2O d o) o).2.2 = false)) (h2 : (!r.2.2 || !a1e (a3o d (a1D d o.2.1).toNat r.1)) = true) : a1j d o = (d, 0, false) := by
 rw [a1j, if_neg (by rw [h]; simp)]
 rcases hr with rfl | ⟨_, hr⟩
 ·rw [if_pos h2]
 ·rw [if_pos (by rw [hr]; rfl)]
theorem b4s {d : DbT} {o : OpT} {r : a0G × Int × Bool} (h : ((!a1e d || !a1s o) || decide (a1D d o.2.1 < 0)) = false) (hr : r = opM (a2O d o) o ∨ (r.2.2 = false ∧ (opM (a2O d o) o).2.2 = false)) (h2 : (!r.2.2 || !a1e (a3o d (a1D d o.2.1).toNat r.1)) = false) : a1j d o = (a3o d (a1D d o.2.1).toNat r.1, r.2.1, true) := by
 rw [a1j, if_neg (by rw [h]; simp)]
 rcases hr with rfl | ⟨hr, _⟩
 ·rw [if_neg (by rw [h2]; simp)]
 ·rw [hr] at h2; cases h2
theorem c5U {x : a0G} {o : OpT} (h : same x o = true) : (opI x o).1 = x := by
 by_cases h4 : o.1 = 4
 ·unfold opI
  rw [if_neg (by omega), if_neg (by omega), if_neg (by omega), if_neg (by omega), if_pos h4]
 ·have h1 : ¬ o.1 = 1 := fun e => a6A h (by omega)
  have h2 : ¬ o.1 = 2 := fun e => a6A h (by omega)
  have h3 : ¬ o.1 = 3 := fun e => a6A h (by omega)
  have h5 : ¬ o.1 = 5 := fun e => a6A h (by omega)
  unfold opI
  rw [if_neg h1, if_neg h2, if_neg h3, if_neg h5, if_neg h4, if_pos]
  have := b3Z h h4 rfl
  unfold a4k
  simpa using this
theorem c4E {d : DbT} {i : Nat} (hi : i < d.2.2.1.length) : a3o d i (d.2.2.1.getD i default) = d := by
 have : d.2.2.1.set i (d.2.2.1.getD i default) = d.2.2.1 := by
  apply List.ext_getElem?
  intro j
  rw [List.getElem?_set]
  by_cases h : i = j
  ·subst h; simp [hi, List.getD]
  ·simp [h]
 unfold a3o
 rw [this]
theorem c4o {d : DbT} {o : OpT} (hb : a1h d ≤ 1099511627776) : KFn Tryz.prog 25 [.agg [(.dv [] (.str (d.1))), (.dv [] (.int .i64 (d.2.1))), (.dv [] (a0x (d.2.2.1))), (.dv [] (a0z (d.2.2.2)))], .agg [(.dv [] (.int .i64 (o.1))), (.dv [] (.str (o.2.1))), (.dv [] (.int .i64 (o.2.2.1.1))), (.dv [] (.int .i64 (o.2.2.1.2.1))), (.dv [] (.str (o.2.2.1.2.2))), (.dv [] (a0I (o.2.2.2.1))), (.dv [] (.str (o.2.2.2.2)))]] (.tup [(true, [(.dv [] (.str ((a1j d o).1.1))), (.dv [] (.int .i64 ((a1j d o).1.2.1))), (.key 90031), (.key 90900)]), (false, [(.dv [] (.int .i64 ((a1j d o).2.1)))]), (false, [(.dv [] (.bool ((a1j d o).2.2)))])]) [(90031, some (a0b false (a0x ((a1j d o).1.2.2.1)))), (90900, some (a0b false (a0z ((a1j d o).1.2.2.2))))] := by
 refine ⟨a0O Tryz.func25 rfl Tryz.ntmps25 Tryz.results25 rfl (fun C => ?_)⟩
 refine yF 0 0 rfl rfl fun f0_0 => ?_
 refine yF 0 1 rfl rfl fun f0_1 => ?_
 refine yF 0 2 rfl rfl fun f0_2 => ?_
 refine yF 0 3 rfl rfl fun f0_3 => ?_
 refine yF 1 0 rfl rfl fun f1_0 => ?_
 refine yF 1 1 rfl rfl fun f1_1 => ?_
 refine yF 1 2 rfl rfl fun f1_2 => ?_
 refine yF 1 3 rfl rfl fun f1_3 => ?_
 refine yF 1 4 rfl rfl fun f1_4 => ?_
 refine yF 1 5 rfl rfl fun f1_5 => ?_
 refine yF 1 6 rfl rfl fun f1_6 => ?_
 iterate 9 refine z ?_
 refine zK 90000 Tryz.call23 ?_ (hf := a8P (x := d) (by omega))
 iterate 7 refine z ?_
 refine zC Tryz.call51 ?_ (hf := b2P (x := d) (n := o.2.1) )
 iterate 5 refine z ?_
 refine zC Tryz.call24 ?_ (hf := a9x (x := d) )
 iterate 3 refine z ?_
 refine a1O (a1t rfl rfl rfl rfl rfl) rfl rfl Tryz.call55 (c0Y (x := o) ) (fun hg => (a0g (a0y rfl hg) (a0t (a0d a0c (a0d a0c (a0d a0c (a0d a0c (a0d a0c (a0d a0c (a0d a0c a0r)))))))) a0q)) rfl rfl ?_
 iterate 7 refine z ?_
 refine yQ rfl (fun c1 => ?_) fun c1 => ?_
 ·iterate 6 refine z ?_
  rw [b4o c1]
  refine a0h (σ' := ⟨[(4, .box 4 0), (5, .one (.dv [] (.int .i64 (0)))), (6, .one (.dv [] (.bool (false))))], [(4, 27, [(.dv [] (.str ((d).1))), (.dv [] (.int .i64 ((d).2.1))), (.key 90031), (.key 90900)])], [(90031, some (a0b false (a0x (d.2.2.1)))), (90900, some (a0b false (a0z (d.2.2.2))))]⟩) (a0e ⟨rfl, rfl, rfl, trivial⟩ ⟨rfl, trivial⟩ ⟨rfl, rfl, trivial⟩ rfl) ?_
  iterate 2 refine z ?_
  refine a1U (a0E hT rfl rfl rfl rfl) (a0l rfl) (a0l rfl) rfl rfl rfl ?_
  first | exact ⟨rfl, rfl⟩ | skip
 ·have hg := a9k c1
  have hlt : a0s (a0D o.2.1) d.2.2.1 0 < d.2.2.1.length := a8u d o.2.1
  have h0k : 0 ≤ a0s (a0D o.2.1) d.2.2.1 0 := hg.2.2
  have hsx := a5J (a9U hg.1) h0k hlt
  have hkn : (a0s (a0D o.2.1) d.2.2.1 0).toNat < d.2.2.1.length := by omega
  iterate 2 refine z ?_
  refine a7d (σ' := ⟨[(2, .box 2 0), (3, .box 3 0), (4, .box 4 0), (5, .one (.dv [] (.int .i64 (0)))), (6, .one (.dv [] (.bool (false)))), (7, .box 7 0), (8, .one (.dv [] (.int .i64 (a0s (a0D (o.2.1)) (d).2.2.1 0)))), (9, .box 9 0), (10, .one (.dv [] (.int .i64 ((opM ((d.2.2.1.getD (a0s (a0D o.2.1) d.2.2.1 0).toNat default)) (o)).2.1)))), (11, .one (.dv [] (.bool ((opM ((d.2.2.1.getD (a0s (a0D o.2.1) d.2.2.1 0).toNat default)) (o)).2.2))))], [(2, 27, [(.dv [] (.str (d.1))), (.dv [] (.int .i64 (d.2.1))), (.dv [] (a0x (d.2.2.1))), (.dv [] (a0z (d.2.2.2)))]), (3, 65, [(.dv [] (.int .i64 (o.1))), (.dv [] (.str (o.2.1))), (.dv [] (.int .i64 (o.2.2.1.1))), (.dv [] (.int .i64 (o.2.2.1.2.1))), (.dv [] (.str (o.2.2.1.2.2))), (.dv [] (a0I (o.2.2.2.1))), (.dv [] (.str (o.2.2.2.2)))]), (4, 27, [(.dv [] (.str (ByteArray.empty))), (.dv [] (.int .i64 (0))), .nil, .nil]), (7, 27, [(.dv [] (.str ((d).1))), (.dv [] (.int .i64 ((d).2.1))), (.key 90031), (.key 90900)]), (9, 77, [(.dv [] (.str ((opM ((d.2.2.1.getD (a0s (a0D o.2.1) d.2.2.1 0).toNat default)) (o)).1.1))), (.key 90501), (.dv [] (.int .i64 ((opM ((d.2.2.1.getD (a0s (a0D o.2.1) d.2.2.1 0).toNat default)) (o)).1.2.2)))])], [(90031, some (a0b false (a0x ((d).2.2.1)))), (90501, some (a0b false (a0w ((opM (d.2.2.1.getD (a0s (a0D o.2.1) d.2.2.1 0).toNat default) o).1.2.1)))), (90900, some (a0b false (a0z ((d).2.2.2))))]⟩) ?_ ?_
  ·refine a1K (oB := [2, 3, 4, 7]) (oK := [90031, 90900]) (by kernel_rfl) rfl rfl ?_
   refine zD 0 ?_
   refine zD 1 ?_
   refine zD 2 ?_
   refine zD 3 ?_
   refine zD 4 ?_
   refine zD 5 ?_
   refine a6c (A := [(11, 9, 77, _)]) hT ⟨⟨_, _, rfl⟩, rfl, trivial⟩ ?_
   refine a8T 81500 6 rfl (by kernel_rfl) rfl rfl rfl (vok hT ⟨⟨_, _, rfl⟩, rfl, trivial⟩ (by kernel_rfl) (by kernel_rfl)) (vok hT ⟨⟨_, _, rfl⟩, rfl, trivial⟩ (by kernel_rfl) (by kernel_rfl)) rfl Tryz.call56 (c6C (x := (d.2.2.1.getD (a0s (a0D o.2.1) d.2.2.1 0).toNat default)) (o := o) hsx hg.2.1) (a0g (a0a rfl) (a0t (a0d a0c (a0d a0c (a0d a0c a0r)))) (a0g (a0a rfl) (a0t (a0d a0c (a0d a0c (a0d a0c (a0d a0c (a0d a0c (a0d a0c (a0d a0c a0r)))))))) a0q)) rfl rfl rfl rfl rfl ?_
   refine a5X 7 rfl (by kernel_rfl) rfl rfl rfl (vok hT ⟨⟨_, _, rfl⟩, rfl, trivial⟩ (by kernel_rfl) (by kernel_rfl)) (vok hT ⟨⟨_, _, rfl⟩, rfl, trivial⟩ (by kernel_rfl) (by kernel_rfl)) (a0M (.inl rfl) (a0a rfl)) rfl rfl rfl rfl ?_
   refine a2D 8 rfl (by kernel_rfl) rfl rfl rfl rfl (vok hT ⟨⟨_, _, rfl⟩, rfl, trivial⟩ (by kernel_rfl) (by kernel_rfl)) (vok hT ⟨⟨_, _, rfl⟩, rfl, trivial⟩ (by kernel_rfl) (by kernel_rfl)) (a3F rfl (a0a rfl) rfl) rfl rfl ?_
   refine a2D 9 rfl (by kernel_rfl) rfl rfl rfl rfl (vok hT ⟨⟨_, _, rfl⟩, rfl, trivial⟩ (by kernel_rfl) (by kernel_rfl)) (vok hT ⟨⟨_, _, rfl⟩, rfl, trivial⟩ (by kernel_rfl) (by kernel_rfl)) (a3c rfl (a0a rfl) rfl) rfl rfl ?_
   refine a2D 10 rfl (by kernel_rfl) rfl rfl rfl rfl (vok hT ⟨⟨_, _, rfl⟩, rfl, trivial⟩ (by kernel_rfl) (by kernel_rfl)) (vok hT ⟨⟨_, _, rfl⟩, rfl, trivial⟩ (by kernel_rfl) (by kernel_rfl)) (a3c rfl (a0a rfl) rfl) rfl rfl ?_
   refine a6h (vok hT ⟨⟨_, _, rfl⟩, rfl, trivial⟩ (by kernel_rfl) (by kernel_rfl)) rfl rfl (by kernel_rfl) ?_
   dsimp only [a3l, a3d]
   refine a3y [12, 13, 14] rfl rfl (by kernel_rfl) ?_
   iterate 3 refine z ?_
   refine a1H ?_
   exact a2x (a0e ⟨rfl, rfl, rfl, rfl, rfl, rfl, rfl, rfl, rfl, rfl, trivial⟩ ⟨rfl, rfl, rfl, rfl, rfl, trivial⟩ ⟨rfl, rfl, rfl, trivial⟩ rfl)
  iterate 5 refine z ?_
  refine yO rfl rfl (a5d (i := (a0s (a0D (o.2.1)) (d).2.2.1 0).toNat) hT rfl rfl rfl (a0a rfl) rfl (a0a rfl) (by omega) (by show _ < (((d).2.2.1)).length; omega)) rfl ?_
  refine a8i (js := [90501]) (cs := (d.2.2.1.set (a0s (a0D o.2.1) d.2.2.1 0).toNat (opM (d.2.2.1.getD (a0s (a0D o.2.1) d.2.2.1 0).toNat default) o).1).flatMap a1L) hT rfl rfl rfl rfl (a0a rfl) (a0a rfl) rfl rfl rfl rfl (a0o (a0R rfl) (a0o (a1f rfl) (a0o (a0R rfl) a1y rfl) rfl) rfl) (by decide) (by decide) rfl (by show _ ≤ List.length (((d).2.2.1).flatMap a1L); show (a0s (a0D o.2.1) d.2.2.1 0).toNat * 3 + 3 ≤ _; rw [a4S (enc := a1L) (sz := 3) (fun _ => rfl)]; omega) (b9w (enc := a1L) (sz := 3) (fun _ => rfl) hkn (opM (d.2.2.1.getD (a0s (a0D o.2.1) d.2.2.1 0).toNat default) o).1) ?_
  simp only [a0p, a0k, SV.kill, CV.kill, kk, Nat.reduceBEq]
  refine z ?_
  refine a0u ?_
  refine a0u ?_
  refine a0h (a4V (k := 90031) (c' := a0b false (a0x (d.2.2.1.set (a0s (a0D o.2.1) d.2.2.1 0).toNat (opM (d.2.2.1.getD (a0s (a0D o.2.1) d.2.2.1 0).toNat default) o).1))) rfl (congrArg (fun m => KC.mk false 77 3 m ((d.2.2.1.set (a0s (a0D o.2.1) d.2.2.1 0).toNat (opM (d.2.2.1.getD (a0s (a0D o.2.1) d.2.2.1 0).toNat default) o).1).flatMap a1L)) (List.length_set).symm) rfl) ?_
  refine a0n ?_
  iterate 4 refine z ?_
  refine a1O (a1t rfl rfl rfl rfl rfl) rfl rfl Tryz.call24 (a9x (x := a3o d (a0s (a0D o.2.1) d.2.2.1 0).toNat (opM (d.2.2.1.getD (a0s (a0D o.2.1) d.2.2.1 0).toNat default) o).1)) (fun hg => (a0g (a0y rfl hg) (a0t (a0d a0c (a0d a0c (a0d (a0X rfl rfl) (a0d (a0X rfl rfl) a0r))))) a0q)) rfl rfl ?_
  iterate 3 refine z ?_
  refine yQ rfl (fun c2 => ?_) fun c2 => ?_
  ·refine a0u ?_
   refine a0h (σ' := ⟨[(2, .box 2 0), (4, .box 4 0), (5, .one (.dv [] (.int .i64 (0)))), (6, .one (.dv [] (.bool (false))))], [(2, 27, [(.dv [] (.str (d.1))), (.dv [] (.int .i64 (d.2.1))), (.dv [] (a0x (d.2.2.1))), (.dv [] (a0z (d.2.2.2)))]), (4, 27, [(.dv [] (.str (ByteArray.empty))), (.dv [] (.int .i64 (0))), .nil, .nil])], []⟩) (a0e ⟨rfl, rfl, rfl, rfl, trivial⟩ ⟨rfl, rfl, trivial⟩ trivial rfl) ?_
   refine a0n ?_
   refine z ?_
   refine zK 90000 Tryz.call23 ?_ (hf := a8P (x := d) (by omega))
   iterate 4 refine z ?_
   rw [b2W c1 (r := (opM (d.2.2.1.getD (a0s (a0D o.2.1) d.2.2.1 0).toNat default) o)) (.inl rfl) c2]
   refine a0h (σ' := ⟨[(4, .box 4 0), (5, .one (.dv [] (.int .i64 (0)))), (6, .one (.dv [] (.bool (false))))], [(4, 27, [(.dv [] (.str ((d).1))), (.dv [] (.int .i64 ((d).2.1))), (.key 90031), (.key 90900)])], [(90031, some (a0b false (a0x (d.2.2.1)))), (90900, some (a0b false (a0z (d.2.2.2))))]⟩) (a0e ⟨rfl, rfl, rfl, trivial⟩ ⟨rfl, trivial⟩ ⟨rfl, rfl, trivial⟩ rfl) ?_
   iterate 2 refine z ?_
   refine a1U (a0E hT rfl rfl rfl rfl) (a0l rfl) (a0l rfl) rfl rfl rfl ?_
   first | exact ⟨rfl, rfl⟩ | skip
  ·iterate 9 refine z ?_
   rw [b4s c1 (r := (opM (d.2.2.1.getD (a0s (a0D o.2.1) d.2.2.1 0).toNat default) o)) (.inl rfl) c2]
   refine a0h (σ' := ⟨[(4, .box 4 0), (5, .one (.dv [] (.int .i64 ((opM ((d.2.2.1.getD (a0s (a0D o.2.1) d.2.2.1 0).toNat default)) (o)).2.1)))), (6, .one (.dv [] (.bool (true))))], [(4, 27, [(.dv [] (.str ((d).1))), (.dv [] (.int .i64 ((d).2.1))), (.key 90031), (.key 90900)])], [(90031, some (a0b false (a0x (d.2.2.1.set (a0s (a0D o.2.1) d.2.2.1 0).toNat (opM (d.2.2.1.getD (a0s (a0D o.2.1) d.2.2.1 0).toNat default) o).1)))), (90900, some (a0b false (a0z (d.2.2.2))))]⟩) (a0e ⟨rfl, rfl, rfl, trivial⟩ ⟨rfl, trivial⟩ ⟨rfl, rfl, trivial⟩ rfl) ?_
   refine z ?_
   refine a1U (a0E hT rfl rfl rfl rfl) (a0l rfl) (a0l rfl) rfl rfl rfl ?_
   first | exact ⟨rfl, rfl⟩ | skip
theorem c8k {d : DbT} {o : OpT} (hb : a1h d ≤ 1099511627776) (hal : same (d.2.2.1.getD (a0s (a0D o.2.1) d.2.2.1 0).toNat default) o = true) : KFn Tryz.prog 42 [.agg [(.dv [] (.str (d.1))), (.dv [] (.int .i64 (d.2.1))), (.dv [] (a0x (d.2.2.1))), (.dv [] (a0z (d.2.2.2)))], .agg [(.dv [] (.int .i64 (o.1))), (.dv [] (.str (o.2.1))), (.dv [] (.int .i64 (o.2.2.1.1))), (.dv [] (.int .i64 (o.2.2.1.2.1))), (.dv [] (.str (o.2.2.1.2.2))), (.dv [] (a0I (o.2.2.2.1))), (.dv [] (.str (o.2.2.2.2)))]] (.tup [(true, [(.dv [] (.str ((a1j d o).1.1))), (.dv [] (.int .i64 ((a1j d o).1.2.1))), (.key 90031), (.key 90900)]), (false, [(.dv [] (.int .i64 ((a1j d o).2.1)))]), (false, [(.dv [] (.bool ((a1j d o).2.2)))])]) [(90031, some (a0b false (a0x ((a1j d o).1.2.2.1)))), (90900, some (a0b false (a0z ((a1j d o).1.2.2.2))))] := by
 refine ⟨a0O Tryz.func42 rfl Tryz.ntmps42 Tryz.results42 rfl (fun C => ?_)⟩
 refine yF 0 0 rfl rfl fun f0_0 => ?_
 refine yF 0 1 rfl rfl fun f0_1 => ?_
 refine yF 0 2 rfl rfl fun f0_2 => ?_
 refine yF 0 3 rfl rfl fun f0_3 => ?_
 refine yF 1 0 rfl rfl fun f1_0 => ?_
 refine yF 1 1 rfl rfl fun f1_1 => ?_
 refine yF 1 2 rfl rfl fun f1_2 => ?_
 refine yF 1 3 rfl rfl fun f1_3 => ?_
 refine yF 1 4 rfl rfl fun f1_4 => ?_
 refine yF 1 5 rfl rfl fun f1_5 => ?_
 refine yF 1 6 rfl rfl fun f1_6 => ?_
 iterate 9 refine z ?_
 refine zK 90000 Tryz.call27 ?_ (hf := a6W (x := d) (by omega))
 iterate 7 refine z ?_
 refine zC Tryz.call75 ?_ (hf := b2K (x := d) (n := o.2.1) )
 iterate 5 refine z ?_
 refine zC Tryz.call41 ?_ (hf := a9D (x := d) )
 iterate 3 refine z ?_
 refine a1O (a1t rfl rfl rfl rfl rfl) rfl rfl Tryz.call78 (b3N (x := o) ) (fun hg => (a0g (a0y rfl hg) (a0t (a0d a0c (a0d a0c (a0d a0c (a0d a0c (a0d a0c (a0d a0c (a0d a0c a0r)))))))) a0q)) rfl rfl ?_
 iterate 7 refine z ?_
 refine yQ rfl (fun c1 => ?_) fun c1 => ?_
 ·iterate 6 refine z ?_
  rw [b4o c1]
  refine a0h (σ' := ⟨[(4, .box 4 0), (5, .one (.dv [] (.int .i64 (0)))), (6, .one (.dv [] (.bool (false))))], [(4, 27, [(.dv [] (.str ((d).1))), (.dv [] (.int .i64 ((d).2.1))), (.key 90031), (.key 90900)])], [(90031, some (a0b false (a0x (d.2.2.1)))), (90900, some (a0b false (a0z (d.2.2.2))))]⟩) (a0e ⟨rfl, rfl, rfl, trivial⟩ ⟨rfl, trivial⟩ ⟨rfl, rfl, trivial⟩ rfl) ?_
  iterate 2 refine z ?_
  refine a1U (a0E hT rfl rfl rfl rfl) (a0l rfl) (a0l rfl) rfl rfl rfl ?_
  first | exact ⟨rfl, rfl⟩ | skip
 ·have hg := a9k c1
  have hlt : a0s (a0D o.2.1) d.2.2.1 0 < d.2.2.1.length := a8u d o.2.1
  have h0k : 0 ≤ a0s (a0D o.2.1) d.2.2.1 0 := hg.2.2
  have hsx := a5J (a9U hg.1) h0k hlt
  have hkn : (a0s (a0D o.2.1) d.2.2.1 0).toNat < d.2.2.1.length := by omega
  have hps := c4E hkn
  have hs1 := c5U hal
  iterate 2 refine z ?_
  refine a7d (σ' := ⟨[(2, .box 2 0), (3, .box 3 0), (4, .box 4 0), (5, .one (.dv [] (.int .i64 (0)))), (6, .one (.dv [] (.bool (false)))), (7, .box 7 0), (8, .one (.dv [] (.int .i64 (a0s (a0D (o.2.1)) (d).2.2.1 0)))), (9, .box 9 0), (10, .one (.dv [] (.int .i64 ((opI ((d.2.2.1.getD (a0s (a0D o.2.1) d.2.2.1 0).toNat default)) (o)).2.1)))), (11, .one (.dv [] (.bool ((opI ((d.2.2.1.getD (a0s (a0D o.2.1) d.2.2.1 0).toNat default)) (o)).2.2))))], [(2, 27, [(.dv [] (.str (d.1))), (.dv [] (.int .i64 (d.2.1))), (.dv [] (a0x (d.2.2.1))), (.dv [] (a0z (d.2.2.2)))]), (3, 65, [(.dv [] (.int .i64 (o.1))), (.dv [] (.str (o.2.1))), (.dv [] (.int .i64 (o.2.2.1.1))), (.dv [] (.int .i64 (o.2.2.1.2.1))), (.dv [] (.str (o.2.2.1.2.2))), (.dv [] (a0I (o.2.2.2.1))), (.dv [] (.str (o.2.2.2.2)))]), (4, 27, [(.dv [] (.str (ByteArray.empty))), (.dv [] (.int .i64 (0))), .nil, .nil]), (7, 27, [(.dv [] (.str ((d).1))), (.dv [] (.int .i64 ((d).2.1))), (.key 90031), (.key 90900)]), (9, 77, [(.dv [] (.str (((d.2.2.1.getD (a0s (a0D o.2.1) d.2.2.1 0).toNat default)).1))), (.nest 90031 (((a0s (a0D (o.2.1)) (d).2.2.1 0).toNat * 3 + 1)) (a0w ((d.2.2.1.getD (a0s (a0D o.2.1) d.2.2.1 0).toNat default).2.1))), (.dv [] (.int .i64 (((d.2.2.1.getD (a0s (a0D o.2.1) d.2.2.1 0).toNat default)).2.2)))])], [(90031, some (a0b false (a0x ((d).2.2.1)))), (90900, some (a0b false (a0z ((d).2.2.2))))]⟩) ?_ ?_
  ·refine a1K (oB := [2, 3, 4, 7]) (oK := [90031, 90900]) (by kernel_rfl) rfl rfl ?_
   refine zD 0 ?_
   refine zD 1 ?_
   refine zD 2 ?_
   refine a1q 3 rfl (by kernel_rfl) rfl rfl (a5d (i := (a0s (a0D (o.2.1)) (d).2.2.1 0).toNat) hT rfl rfl rfl (a0a rfl) rfl (a0a rfl) (by omega) (by show _ < (((d).2.2.1)).length; omega)) rfl rfl rfl rfl ?_
   refine a1q 4 rfl (by kernel_rfl) rfl rfl (b4l (ds := [.str ((d.2.2.1.getD (a0s (a0D o.2.1) d.2.2.1 0).toNat default).1), a0w ((d.2.2.1.getD (a0s (a0D o.2.1) d.2.2.1 0).toNat default).2.1), .int .i64 ((d.2.2.1.getD (a0s (a0D o.2.1) d.2.2.1 0).toNat default).2.2)]) hT rfl rfl (a0a rfl) rfl rfl (by decide) (b2J (enc := a1L) (sz := 3) (fun _ => rfl) hkn)) rfl rfl rfl rfl ?_
   refine zD 5 ?_
   refine a6c (A := [(11, 9, 77, _)]) hT ⟨⟨_, _, rfl⟩, rfl, trivial⟩ ?_
   refine c5v 6 rfl (by kernel_rfl) rfl rfl rfl (vok hT ⟨⟨_, _, rfl⟩, rfl, trivial⟩ (by kernel_rfl) (by kernel_rfl)) (vok hT ⟨⟨_, _, rfl⟩, rfl, trivial⟩ (by kernel_rfl) (by kernel_rfl)) rfl rfl Tryz.call79 (c2e (x := (d.2.2.1.getD (a0s (a0D o.2.1) d.2.2.1 0).toNat default)) (o := o) hsx hg.2.1 hal) (a0a rfl) a0c a8U a0c (a0g (a0a rfl) (a0t (a0d a0c (a0d a0c (a0d a0c (a0d a0c (a0d a0c (a0d a0c (a0d a0c a0r)))))))) a0q) rfl rfl rfl rfl rfl rfl rfl ?_
   refine a5X 7 rfl (by kernel_rfl) rfl rfl rfl (vok hT ⟨⟨_, _, rfl⟩, rfl, trivial⟩ (by kernel_rfl) (by kernel_rfl)) (vok hT ⟨⟨_, _, rfl⟩, rfl, trivial⟩ (by kernel_rfl) (by kernel_rfl)) (a0M (.inl rfl) (a0a rfl)) rfl rfl rfl rfl ?_
   refine a2D 8 rfl (by kernel_rfl) rfl rfl rfl rfl (vok hT ⟨⟨_, _, rfl⟩, rfl, trivial⟩ (by kernel_rfl) (by kernel_rfl)) (vok hT ⟨⟨_, _, rfl⟩, rfl, trivial⟩ (by kernel_rfl) (by kernel_rfl)) (a3F rfl (a0a rfl) rfl) rfl rfl ?_
   refine a2D 9 rfl (by kernel_rfl) rfl rfl rfl rfl (vok hT ⟨⟨_, _, rfl⟩, rfl, trivial⟩ (by kernel_rfl) (by kernel_rfl)) (vok hT ⟨⟨_, _, rfl⟩, rfl, trivial⟩ (by kernel_rfl) (by kernel_rfl)) (a3c rfl (a0a rfl) rfl) rfl rfl ?_
   refine a2D 10 rfl (by kernel_rfl) rfl rfl rfl rfl (vok hT ⟨⟨_, _, rfl⟩, rfl, trivial⟩ (by kernel_rfl) (by kernel_rfl)) (vok hT ⟨⟨_, _, rfl⟩, rfl, trivial⟩ (by kernel_rfl) (by kernel_rfl)) (a3c rfl (a0a rfl) rfl) rfl rfl ?_
   refine a6h (vok hT ⟨⟨_, _, rfl⟩, rfl, trivial⟩ (by kernel_rfl) (by kernel_rfl)) rfl rfl (by kernel_rfl) ?_
   dsimp only [a3l, a3d]
   refine a3y [12, 13, 14] rfl rfl (by kernel_rfl) ?_
   iterate 3 refine z ?_
   refine a1H ?_
   exact a2x (a0e ⟨rfl, rfl, rfl, rfl, rfl, rfl, rfl, rfl, rfl, rfl, trivial⟩ ⟨rfl, rfl, rfl, rfl, rfl, trivial⟩ ⟨rfl, rfl, trivial⟩ rfl)
  iterate 5 refine z ?_
  refine yO rfl rfl (a5d (i := (a0s (a0D (o.2.1)) (d).2.2.1 0).toNat) hT rfl rfl rfl (a0a rfl) rfl (a0a rfl) (by omega) (by show _ < (((d).2.2.1)).length; omega)) rfl ?_
  refine c3D (ds := [.str ((d.2.2.1.getD (a0s (a0D o.2.1) d.2.2.1 0).toNat default).1), a0w ((d.2.2.1.getD (a0s (a0D o.2.1) d.2.2.1 0).toNat default).2.1), .int .i64 ((d.2.2.1.getD (a0s (a0D o.2.1) d.2.2.1 0).toNat default).2.2)]) hT rfl rfl rfl rfl (a0a rfl) (a0a rfl) rfl rfl (b2J (enc := a1L) (sz := 3) (fun _ => rfl) hkn) (b9e (enc := a1L) (sz := 3) (fun _ => rfl) hkn) ?_
  simp only [a0p, a0k, SV.kill, CV.kill, kk, Nat.reduceBEq]
  iterate 7 refine z ?_
  refine a1O (a1t rfl rfl rfl rfl rfl) rfl rfl Tryz.call41 (a9D (x := d)) (fun hg => (a0g (a0y rfl hg) (a0t (a0d a0c (a0d a0c (a0d (a0X rfl rfl) (a0d (a0X rfl rfl) a0r))))) a0q)) rfl rfl ?_
  iterate 3 refine z ?_
  refine yQ rfl (fun c2 => ?_) fun c2 => ?_
  ·refine a0u ?_
   refine a0h (σ' := ⟨[(2, .box 2 0), (4, .box 4 0), (5, .one (.dv [] (.int .i64 (0)))), (6, .one (.dv [] (.bool (false))))], [(2, 27, [(.dv [] (.str (d.1))), (.dv [] (.int .i64 (d.2.1))), (.dv [] (a0x (d.2.2.1))), (.dv [] (a0z (d.2.2.2)))]), (4, 27, [(.dv [] (.str (ByteArray.empty))), (.dv [] (.int .i64 (0))), .nil, .nil])], []⟩) (a0e ⟨rfl, rfl, rfl, rfl, trivial⟩ ⟨rfl, rfl, trivial⟩ trivial rfl) ?_
   refine a0n ?_
   refine z ?_
   refine zK 90000 Tryz.call27 ?_ (hf := a6W (x := d) (by omega))
   iterate 4 refine z ?_
   rw [b2W c1 (b2k (d.2.2.1.getD (a0s (a0D o.2.1) d.2.2.1 0).toNat default) o) (by rw [hs1]; show (_ || !a1e (a3o d (a0s (a0D o.2.1) d.2.2.1 0).toNat (d.2.2.1.getD (a0s (a0D o.2.1) d.2.2.1 0).toNat default))) = true; rw [hps]; exact c2)]
   refine a0h (σ' := ⟨[(4, .box 4 0), (5, .one (.dv [] (.int .i64 (0)))), (6, .one (.dv [] (.bool (false))))], [(4, 27, [(.dv [] (.str ((d).1))), (.dv [] (.int .i64 ((d).2.1))), (.key 90031), (.key 90900)])], [(90031, some (a0b false (a0x (d.2.2.1)))), (90900, some (a0b false (a0z (d.2.2.2))))]⟩) (a0e ⟨rfl, rfl, rfl, trivial⟩ ⟨rfl, trivial⟩ ⟨rfl, rfl, trivial⟩ rfl) ?_
   iterate 2 refine z ?_
   refine a1U (a0E hT rfl rfl rfl rfl) (a0l rfl) (a0l rfl) rfl rfl rfl ?_
   first | exact ⟨rfl, rfl⟩ | skip
  ·iterate 9 refine z ?_
   have hfin : a1j d o = (d, (opI (d.2.2.1.getD (a0s (a0D o.2.1) d.2.2.1 0).toNat default) o).2.1, true) := by rw [b4s c1 (b2k (d.2.2.1.getD (a0s (a0D o.2.1) d.2.2.1 0).toNat default) o) (by rw [hs1]; show (_ || !a1e (a3o d (a0s (a0D o.2.1) d.2.2.1 0).toNat (d.2.2.1.getD (a0s (a0D o.2.1) d.2.2.1 0).toNat default))) = false; rw [hps]; exact c2), hs1]; show (a3o d (a0s (a0D o.2.1) d.2.2.1 0).toNat (d.2.2.1.getD (a0s (a0D o.2.1) d.2.2.1 0).toNat default), _, _) = _; rw [hps]
   rw [hfin]
   refine a0h (σ' := ⟨[(4, .box 4 0), (5, .one (.dv [] (.int .i64 ((opI ((d.2.2.1.getD (a0s (a0D o.2.1) d.2.2.1 0).toNat default)) (o)).2.1)))), (6, .one (.dv [] (.bool (true))))], [(4, 27, [(.dv [] (.str ((d).1))), (.dv [] (.int .i64 ((d).2.1))), (.key 90031), (.key 90900)])], [(90031, some (a0b false (a0x (d.2.2.1)))), (90900, some (a0b false (a0z (d.2.2.2))))]⟩) (a0e ⟨rfl, rfl, rfl, trivial⟩ ⟨rfl, trivial⟩ ⟨rfl, rfl, trivial⟩ rfl) ?_
   refine z ?_
   refine a1U (a0E hT rfl rfl rfl rfl) (a0l rfl) (a0l rfl) rfl rfl rfl ?_
   first | exact ⟨rfl, rfl⟩ | skip
theorem c3J {d : DbT} {o : OpT} (hb : a1h d ≤ 1099511627776) (hal : same (d.2.2.1.getD (a0s (a0D o.2.1) d.2.2.1 0).toNat default) o = false) : KFn Tryz.prog 42 [.agg [(.dv [] (.str (d.1))), (.dv [] (.int .i64 (d.2.1))), (.dv [] (a0x (d.2.2.1))), (.dv [] (a0z (d.2.2.2)))], .agg [(.dv [] (.int .i64 (o.1))), (.dv [] (.str (o.2.1))), (.dv [] (.int .i64 (o.2.2.1.1))), (.dv [] (.int .i64 (o.2.2.1.2.1))), (.dv [] (.str (o.2.2.1.2.2))), (.dv [] (a0I (o.2.2.2.1))), (.dv [] (.str (o.2.2.2.2)))]] (.tup [(true, [(.dv [] (.str ((a1j d o).1.1))), (.dv [] (.int .i64 ((a1j d o).1.2.1))), (.key 90031), (.key 90900)]), (false, [(.dv [] (.int .i64 ((a1j d o).2.1)))]), (false, [(.dv [] (.bool ((a1j d o).2.2)))])]) [(90031, some (a0b false (a0x ((a1j d o).1.2.2.1)))), (90900, some (a0b false (a0z ((a1j d o).1.2.2.2))))] := by
 refine ⟨a0O Tryz.func42 rfl Tryz.ntmps42 Tryz.results42 rfl (fun C => ?_)⟩
 refine yF 0 0 rfl rfl fun f0_0 => ?_
 refine yF 0 1 rfl rfl fun f0_1 => ?_
 refine yF 0 2 rfl rfl fun f0_2 => ?_
 refine yF 0 3 rfl rfl fun f0_3 => ?_
 refine yF 1 0 rfl rfl fun f1_0 => ?_
 refine yF 1 1 rfl rfl fun f1_1 => ?_
 refine yF 1 2 rfl rfl fun f1_2 => ?_
 refine yF 1 3 rfl rfl fun f1_3 => ?_
 refine yF 1 4 rfl rfl fun f1_4 => ?_
 refine yF 1 5 rfl rfl fun f1_5 => ?_
 refine yF 1 6 rfl rfl fun f1_6 => ?_
 iterate 9 refine z ?_
 refine zK 90000 Tryz.call27 ?_ (hf := a6W (x := d) (by omega))
 iterate 7 refine z ?_
 refine zC Tryz.call75 ?_ (hf := b2K (x := d) (n := o.2.1) )
 iterate 5 refine z ?_
 refine zC Tryz.call41 ?_ (hf := a9D (x := d) )
 iterate 3 refine z ?_
 refine a1O (a1t rfl rfl rfl rfl rfl) rfl rfl Tryz.call78 (b3N (x := o) ) (fun hg => (a0g (a0y rfl hg) (a0t (a0d a0c (a0d a0c (a0d a0c (a0d a0c (a0d a0c (a0d a0c (a0d a0c a0r)))))))) a0q)) rfl rfl ?_
 iterate 7 refine z ?_
 refine yQ rfl (fun c1 => ?_) fun c1 => ?_
 ·iterate 6 refine z ?_
  rw [b4o c1]
  refine a0h (σ' := ⟨[(4, .box 4 0), (5, .one (.dv [] (.int .i64 (0)))), (6, .one (.dv [] (.bool (false))))], [(4, 27, [(.dv [] (.str ((d).1))), (.dv [] (.int .i64 ((d).2.1))), (.key 90031), (.key 90900)])], [(90031, some (a0b false (a0x (d.2.2.1)))), (90900, some (a0b false (a0z (d.2.2.2))))]⟩) (a0e ⟨rfl, rfl, rfl, trivial⟩ ⟨rfl, trivial⟩ ⟨rfl, rfl, trivial⟩ rfl) ?_
  iterate 2 refine z ?_
  refine a1U (a0E hT rfl rfl rfl rfl) (a0l rfl) (a0l rfl) rfl rfl rfl ?_
  first | exact ⟨rfl, rfl⟩ | skip
 ·have hg := a9k c1
  have hlt : a0s (a0D o.2.1) d.2.2.1 0 < d.2.2.1.length := a8u d o.2.1
  have h0k : 0 ≤ a0s (a0D o.2.1) d.2.2.1 0 := hg.2.2
  have hsx := a5J (a9U hg.1) h0k hlt
  have hkn : (a0s (a0D o.2.1) d.2.2.1 0).toNat < d.2.2.1.length := by omega
  iterate 2 refine z ?_
  refine a7d (σ' := ⟨[(2, .box 2 0), (3, .box 3 0), (4, .box 4 0), (5, .one (.dv [] (.int .i64 (0)))), (6, .one (.dv [] (.bool (false)))), (7, .box 7 0), (8, .one (.dv [] (.int .i64 (a0s (a0D (o.2.1)) (d).2.2.1 0)))), (9, .box 9 0), (10, .one (.dv [] (.int .i64 ((opI ((d.2.2.1.getD (a0s (a0D o.2.1) d.2.2.1 0).toNat default)) (o)).2.1)))), (11, .one (.dv [] (.bool ((opI ((d.2.2.1.getD (a0s (a0D o.2.1) d.2.2.1 0).toNat default)) (o)).2.2))))], [(2, 27, [(.dv [] (.str (d.1))), (.dv [] (.int .i64 (d.2.1))), (.dv [] (a0x (d.2.2.1))), (.dv [] (a0z (d.2.2.2)))]), (3, 65, [(.dv [] (.int .i64 (o.1))), (.dv [] (.str (o.2.1))), (.dv [] (.int .i64 (o.2.2.1.1))), (.dv [] (.int .i64 (o.2.2.1.2.1))), (.dv [] (.str (o.2.2.1.2.2))), (.dv [] (a0I (o.2.2.2.1))), (.dv [] (.str (o.2.2.2.2)))]), (4, 27, [(.dv [] (.str (ByteArray.empty))), (.dv [] (.int .i64 (0))), .nil, .nil]), (7, 27, [(.dv [] (.str ((d).1))), (.dv [] (.int .i64 ((d).2.1))), (.key 90031), (.key 90900)]), (9, 77, [(.dv [] (.str ((opI ((d.2.2.1.getD (a0s (a0D o.2.1) d.2.2.1 0).toNat default)) (o)).1.1))), (.key 90501), (.dv [] (.int .i64 ((opI ((d.2.2.1.getD (a0s (a0D o.2.1) d.2.2.1 0).toNat default)) (o)).1.2.2)))])], [(90031, some (a0b false (a0x ((d).2.2.1)))), (90501, some (a0b false (a0w ((opI (d.2.2.1.getD (a0s (a0D o.2.1) d.2.2.1 0).toNat default) o).1.2.1)))), (90900, some (a0b false (a0z ((d).2.2.2))))]⟩) ?_ ?_
  ·refine a1K (oB := [2, 3, 4, 7]) (oK := [90031, 90900]) (by kernel_rfl) rfl rfl ?_
   refine zD 0 ?_
   refine zD 1 ?_
   refine zD 2 ?_
   refine a1q 3 rfl (by kernel_rfl) rfl rfl (a5d (i := (a0s (a0D (o.2.1)) (d).2.2.1 0).toNat) hT rfl rfl rfl (a0a rfl) rfl (a0a rfl) (by omega) (by show _ < (((d).2.2.1)).length; omega)) rfl rfl rfl rfl ?_
   refine a1q 4 rfl (by kernel_rfl) rfl rfl (b4l (ds := [.str ((d.2.2.1.getD (a0s (a0D o.2.1) d.2.2.1 0).toNat default).1), a0w ((d.2.2.1.getD (a0s (a0D o.2.1) d.2.2.1 0).toNat default).2.1), .int .i64 ((d.2.2.1.getD (a0s (a0D o.2.1) d.2.2.1 0).toNat default).2.2)]) hT rfl rfl (a0a rfl) rfl rfl (by decide) (b2J (enc := a1L) (sz := 3) (fun _ => rfl) hkn)) rfl rfl rfl rfl ?_
   refine zD 5 ?_
   refine a6c (A := [(11, 9, 77, _)]) hT ⟨⟨_, _, rfl⟩, rfl, trivial⟩ ?_
   refine a8T 81500 6 rfl (by kernel_rfl) rfl rfl rfl (vok hT ⟨⟨_, _, rfl⟩, rfl, trivial⟩ (by kernel_rfl) (by kernel_rfl)) (vok hT ⟨⟨_, _, rfl⟩, rfl, trivial⟩ (by kernel_rfl) (by kernel_rfl)) rfl Tryz.call79 (c4t (x := (d.2.2.1.getD (a0s (a0D o.2.1) d.2.2.1 0).toNat default)) (o := o) hsx hg.2.1 hal) (a0g (a0a rfl) (a0t (a0d a0c (a0d a8U (a0d a0c a0r)))) (a0g (a0a rfl) (a0t (a0d a0c (a0d a0c (a0d a0c (a0d a0c (a0d a0c (a0d a0c (a0d a0c a0r)))))))) a0q)) rfl rfl rfl rfl rfl ?_
   refine a5X 7 rfl (by kernel_rfl) rfl rfl rfl (vok hT ⟨⟨_, _, rfl⟩, rfl, trivial⟩ (by kernel_rfl) (by kernel_rfl)) (vok hT ⟨⟨_, _, rfl⟩, rfl, trivial⟩ (by kernel_rfl) (by kernel_rfl)) (a0M (.inl rfl) (a0a rfl)) rfl rfl rfl rfl ?_
   refine a2D 8 rfl (by kernel_rfl) rfl rfl rfl rfl (vok hT ⟨⟨_, _, rfl⟩, rfl, trivial⟩ (by kernel_rfl) (by kernel_rfl)) (vok hT ⟨⟨_, _, rfl⟩, rfl, trivial⟩ (by kernel_rfl) (by kernel_rfl)) (a3F rfl (a0a rfl) rfl) rfl rfl ?_
   refine a2D 9 rfl (by kernel_rfl) rfl rfl rfl rfl (vok hT ⟨⟨_, _, rfl⟩, rfl, trivial⟩ (by kernel_rfl) (by kernel_rfl)) (vok hT ⟨⟨_, _, rfl⟩, rfl, trivial⟩ (by kernel_rfl) (by kernel_rfl)) (a3c rfl (a0a rfl) rfl) rfl rfl ?_
   refine a2D 10 rfl (by kernel_rfl) rfl rfl rfl rfl (vok hT ⟨⟨_, _, rfl⟩, rfl, trivial⟩ (by kernel_rfl) (by kernel_rfl)) (vok hT ⟨⟨_, _, rfl⟩, rfl, trivial⟩ (by kernel_rfl) (by kernel_rfl)) (a3c rfl (a0a rfl) rfl) rfl rfl ?_
   refine a6h (vok hT ⟨⟨_, _, rfl⟩, rfl, trivial⟩ (by kernel_rfl) (by kernel_rfl)) rfl rfl (by kernel_rfl) ?_
   dsimp only [a3l, a3d]
   refine a3y [12, 13, 14] rfl rfl (by kernel_rfl) ?_
   iterate 3 refine z ?_
   refine a1H ?_
   exact a2x (a0e ⟨rfl, rfl, rfl, rfl, rfl, rfl, rfl, rfl, rfl, rfl, trivial⟩ ⟨rfl, rfl, rfl, rfl, rfl, trivial⟩ ⟨rfl, rfl, rfl, trivial⟩ rfl)
  iterate 5 refine z ?_
  refine yO rfl rfl (a5d (i := (a0s (a0D (o.2.1)) (d).2.2.1 0).toNat) hT rfl rfl rfl (a0a rfl) rfl (a0a rfl) (by omega) (by show _ < (((d).2.2.1)).length; omega)) rfl ?_
  refine a8i (js := [90501]) (cs := (d.2.2.1.set (a0s (a0D o.2.1) d.2.2.1 0).toNat (opI (d.2.2.1.getD (a0s (a0D o.2.1) d.2.2.1 0).toNat default) o).1).flatMap a1L) hT rfl rfl rfl rfl (a0a rfl) (a0a rfl) rfl rfl rfl rfl (a0o (a0R rfl) (a0o (a1f rfl) (a0o (a0R rfl) a1y rfl) rfl) rfl) (by decide) (by decide) rfl (by show _ ≤ List.length (((d).2.2.1).flatMap a1L); exact b9e (enc := a1L) (sz := 3) (fun _ => rfl) hkn) (b9w (enc := a1L) (sz := 3) (fun _ => rfl) hkn (opI (d.2.2.1.getD (a0s (a0D o.2.1) d.2.2.1 0).toNat default) o).1) ?_
  simp only [a0p, a0k, SV.kill, CV.kill, kk, Nat.reduceBEq]
  refine z ?_
  refine a0u ?_
  refine a0u ?_
  refine a0h (a4V (k := 90031) (c' := a0b false (a0x (d.2.2.1.set (a0s (a0D o.2.1) d.2.2.1 0).toNat (opI (d.2.2.1.getD (a0s (a0D o.2.1) d.2.2.1 0).toNat default) o).1))) rfl (congrArg (fun m => KC.mk false 77 3 m ((d.2.2.1.set (a0s (a0D o.2.1) d.2.2.1 0).toNat (opI (d.2.2.1.getD (a0s (a0D o.2.1) d.2.2.1 0).toNat default) o).1).flatMap a1L)) (List.length_set).symm) rfl) ?_
  refine a0n ?_
  iterate 4 refine z ?_
  refine a1O (a1t rfl rfl rfl rfl rfl) rfl rfl Tryz.call41 (a9D (x := a3o d (a0s (a0D o.2.1) d.2.2.1 0).toNat (opI (d.2.2.1.getD (a0s (a0D o.2.1) d.2.2.1 0).toNat default) o).1)) (fun hg => (a0g (a0y rfl hg) (a0t (a0d a0c (a0d a0c (a0d (a0X rfl rfl) (a0d (a0X rfl rfl) a0r))))) a0q)) rfl rfl ?_
  iterate 3 refine z ?_
  refine yQ rfl (fun c2 => ?_) fun c2 => ?_
  ·refine a0u ?_
   refine a0h (σ' := ⟨[(2, .box 2 0), (4, .box 4 0), (5, .one (.dv [] (.int .i64 (0)))), (6, .one (.dv [] (.bool (false))))], [(2, 27, [(.dv [] (.str (d.1))), (.dv [] (.int .i64 (d.2.1))), (.dv [] (a0x (d.2.2.1))), (.dv [] (a0z (d.2.2.2)))]), (4, 27, [(.dv [] (.str (ByteArray.empty))), (.dv [] (.int .i64 (0))), .nil, .nil])], []⟩) (a0e ⟨rfl, rfl, rfl, rfl, trivial⟩ ⟨rfl, rfl, trivial⟩ trivial rfl) ?_
   refine a0n ?_
   refine z ?_
   refine zK 90000 Tryz.call27 ?_ (hf := a6W (x := d) (by omega))
   iterate 4 refine z ?_
   rw [b2W c1 (b2k (d.2.2.1.getD (a0s (a0D o.2.1) d.2.2.1 0).toNat default) o) c2]
   refine a0h (σ' := ⟨[(4, .box 4 0), (5, .one (.dv [] (.int .i64 (0)))), (6, .one (.dv [] (.bool (false))))], [(4, 27, [(.dv [] (.str ((d).1))), (.dv [] (.int .i64 ((d).2.1))), (.key 90031), (.key 90900)])], [(90031, some (a0b false (a0x (d.2.2.1)))), (90900, some (a0b false (a0z (d.2.2.2))))]⟩) (a0e ⟨rfl, rfl, rfl, trivial⟩ ⟨rfl, trivial⟩ ⟨rfl, rfl, trivial⟩ rfl) ?_
   iterate 2 refine z ?_
   refine a1U (a0E hT rfl rfl rfl rfl) (a0l rfl) (a0l rfl) rfl rfl rfl ?_
   first | exact ⟨rfl, rfl⟩ | skip
  ·iterate 9 refine z ?_
   rw [b4s c1 (b2k (d.2.2.1.getD (a0s (a0D o.2.1) d.2.2.1 0).toNat default) o) c2]
   refine a0h (σ' := ⟨[(4, .box 4 0), (5, .one (.dv [] (.int .i64 ((opI ((d.2.2.1.getD (a0s (a0D o.2.1) d.2.2.1 0).toNat default)) (o)).2.1)))), (6, .one (.dv [] (.bool (true))))], [(4, 27, [(.dv [] (.str ((d).1))), (.dv [] (.int .i64 ((d).2.1))), (.key 90031), (.key 90900)])], [(90031, some (a0b false (a0x (d.2.2.1.set (a0s (a0D o.2.1) d.2.2.1 0).toNat (opI (d.2.2.1.getD (a0s (a0D o.2.1) d.2.2.1 0).toNat default) o).1)))), (90900, some (a0b false (a0z (d.2.2.2))))]⟩) (a0e ⟨rfl, rfl, rfl, trivial⟩ ⟨rfl, trivial⟩ ⟨rfl, rfl, trivial⟩ rfl) ?_
   refine z ?_
   refine a1U (a0E hT rfl rfl rfl rfl) (a0l rfl) (a0l rfl) rfl rfl rfl ?_
   first | exact ⟨rfl, rfl⟩ | skip
theorem c1C {d : DbT} {o : OpT} (hb : a1h d ≤ 1099511627776) : KFn Tryz.prog 42 [.agg [(.dv [] (.str (d.1))), (.dv [] (.int .i64 (d.2.1))), (.dv [] (a0x (d.2.2.1))), (.dv [] (a0z (d.2.2.2)))], .agg [(.dv [] (.int .i64 (o.1))), (.dv [] (.str (o.2.1))), (.dv [] (.int .i64 (o.2.2.1.1))), (.dv [] (.int .i64 (o.2.2.1.2.1))), (.dv [] (.str (o.2.2.1.2.2))), (.dv [] (a0I (o.2.2.2.1))), (.dv [] (.str (o.2.2.2.2)))]] (.tup [(true, [.dv [] (.str ((a1j d o).1.1)), .dv [] (.int .i64 ((a1j d o).1.2.1)), .key 90031, .key 90900]), (false, [.dv [] (.int .i64 ((a1j d o).2.1))]), (false, [.dv [] (.bool ((a1j d o).2.2))])]) [(90031, some (a0b false (a0x ((a1j d o).1.2.2.1)))), (90900, some (a0b false (a0z ((a1j d o).1.2.2.2))))] := by
 by_cases h : same (d.2.2.1.getD (a0s (a0D o.2.1) d.2.2.1 0).toNat default) o = true
 ·exact c8k hb h
 ·exact c3J hb (by simpa using h)
theorem c0u {α : Type} [Inhabited α] {w : α → Nat} {y : α} : ∀ (l : List α) (i : Nat), a0V w (l.set i y) ≤ a0V w l + w y
 | [], i => by simp [a0V]
 | x :: l, 0 => by simp [a0V]; omega
 | x :: l, i + 1 => by have := c0u (w := w) (y := y) l i; simp [a0V] at this ⊢; omega
theorem b9n (d : DbT) (o : OpT) : a1h (a1j d o).1 ≤ a1h d + 1000000 := by
 unfold a1j
 split
 ·show a1h d ≤ _; omega
 ·rename_i h1
  split
  ·show a1h d ≤ _; omega
  ·rename_i h2
   have h1 : ((!a1e d || !a1s o) || decide (a1D d o.2.1 < 0)) = false := by simpa using h1
   have hg := a9k h1
   have hlt := a8u d o.2.1
   have h2 : (!(opM (a2O d o) o).2.2 || !a1e (a3o d (a1D d o.2.1).toNat (opM (a2O d o) o).1)) = false := by simpa using h2
   have hd : a1e (a3o d (a1D d o.2.1).toNat (opM (a2O d o) o).1) = true := by
    simp only [Bool.or_eq_false_iff, Bool.not_eq_false'] at h2
    exact h2.2
   have hs := a5J (i := a1D d o.2.1) (a9U hd) hg.2.2 (by show _ < (((d.2.2.1.set _ _).length : Nat) : Int); rw [List.length_set]; exact hlt)
   have e : (a3o d (a1D d o.2.1).toNat (opM (a2O d o) o).1).2.2.1.getD (a1D d o.2.1).toNat default = (opM (a2O d o) o).1 := by
    have hl : (a1D d o.2.1).toNat < d.2.2.1.length := by omega
    simp [a3o, List.getD, hl]
   rw [e] at hs
   have hw := a6P hs
   have h3 := c0u (w := a1g) (y := (opM (a2O d o) o).1) d.2.2.1 (a1D d o.2.1).toNat
   have h4 : a1h d = d.1.size + a2d a1g d.2.2.1 + a2d a3a d.2.2.2 := rfl
   have h5 : a1h (a3o d (a1D d o.2.1).toNat (opM (a2O d o) o).1) = d.1.size + a2d a1g (d.2.2.1.set (a1D d o.2.1).toNat (opM (a2O d o) o).1) + a2d a3a d.2.2.2 := rfl
   have h6 : a2d a1g d.2.2.1 = d.2.2.1.length + a0V a1g d.2.2.1 := rfl
   have h7 : a2d a1g (d.2.2.1.set (a1D d o.2.1).toNat (opM (a2O d o) o).1) = (d.2.2.1.set (a1D d o.2.1).toNat (opM (a2O d o) o).1).length + a0V a1g (d.2.2.1.set (a1D d o.2.1).toNat (opM (a2O d o) o).1) := rfl
   rw [List.length_set] at h7
   show a1h (a3o d (a1D d o.2.1).toNat (opM (a2O d o) o).1) ≤ _
   omega
def a1Y : DbT → List OpT → Option (DbT × List Int)
 | c, [] => some (c, [])
 | c, o :: os => if (a1j c o).2.2 = true then (a1Y (a1j c o).1 os).map fun r => (r.1, (a1j c o).2.1 :: r.2) else none
def b5V (d : DbT) : Option (DbT × List Int) → DbT × List Int × Bool
 | none => (d, [], false)
 | some r => (r.1, r.2, true)
def a1F (d : DbT) (l : List OpT) : DbT × List Int × Bool := if (!a1e d || decide ((6 : Int) < (l.length : Int))) = true then (d, [], false) else b5V d (a1Y d l)
def a4M (acc : List Int) (x : Option (DbT × List Int)) : Option (DbT × List Int) := x.map fun r => (r.1, acc ++ r.2)
theorem b3K {d : DbT} {l : List OpT} (h : (!a1e d || decide ((6 : Int) < (l.length : Int))) = false) : l.length ≤ 6 := by
 simp only [Bool.or_eq_false_iff, decide_eq_false_iff_not] at h
 omega
theorem b5O {l : List OpT} {n : Nat} (h : n < l.length) : l.drop n = l.getD (n : Int).toNat default :: l.drop (n + 1) := by
 rw [List.drop_eq_getElem_cons h]
 simp [List.getD, List.getElem?_eq_getElem h]
theorem c0P {l : List OpT} {n : Nat} {c : DbT} (h : n < l.length) (hk : (!(a1j c (l.getD (n : Int).toNat default)).2.2) = true) : a1Y c (l.drop n) = none := by
 rw [b5O h, a1Y, if_neg (by simpa using hk)]
theorem b7i {l : List OpT} {n : Nat} {c : DbT} {acc : List Int} (h : n < l.length) (hk : (!(a1j c (l.getD (n : Int).toNat default)).2.2) = false) : a4M acc (a1Y c (l.drop n)) = a4M (acc ++ [(a1j c (l.getD (n : Int).toNat default)).2.1]) (a1Y (a1j c (l.getD (n : Int).toNat default)).1 (l.drop (n + 1))) := by
 rw [b5O h, a1Y, if_pos (by simpa using hk)]
 unfold a4M
 cases a1Y (a1j c (l.getD (n : Int).toNat default)).1 (l.drop (n + 1)) <;> simp
theorem b8I {d : DbT} {l : List OpT} (h : (!a1e d || decide ((6 : Int) < (l.length : Int))) = true) : a1F d l = (d, [], false) := by rw [a1F, if_pos h]
theorem b7O {d c : DbT} {l : List OpT} {n : Nat} {acc : List Int} (h : (!a1e d || decide ((6 : Int) < (l.length : Int))) = false) (hi : a1Y d l = a4M acc (a1Y c (l.drop n))) (hn : n < l.length) (hk : (!(a1j c (l.getD (n : Int).toNat default)).2.2) = true) : a1F d l = (d, [], false) := by
 rw [a1F, if_neg (by rw [h]; simp), hi, c0P hn hk]; rfl
theorem b6T {d c : DbT} {l : List OpT} {n : Nat} {acc : List Int} (h : (!a1e d || decide ((6 : Int) < (l.length : Int))) = false) (hi : a1Y d l = a4M acc (a1Y c (l.drop n))) (hn : n = l.length) : a1F d l = (c, acc, true) := by
 rw [a1F, if_neg (by rw [h]; simp), hi, hn, List.drop_length]
 simp [a1Y, a4M, b5V]
theorem b9t {d : DbT} {l : List OpT} (hb : a1h d ≤ 549755813888) : KFn Tryz.prog 20 [.agg [(.dv [] (.str (d.1))), (.dv [] (.int .i64 (d.2.1))), (.dv [] (a0x (d.2.2.1))), (.dv [] (a0z (d.2.2.2)))], .one (.dv [] (a2a (l)))] (.tup [(true, [(.dv [] (.str ((a1F d l).1.1))), (.dv [] (.int .i64 ((a1F d l).1.2.1))), (.key 90031), (.key 90900)]), (false, [(.key 95000)]), (false, [(.dv [] (.bool ((a1F d l).2.2)))])]) [(90031, some (a0b false (a0x ((a1F d l).1.2.2.1)))), (90900, some (a0b false (a0z ((a1F d l).1.2.2.2)))), (95000, some (a0b false (a5g ((a1F d l).2.1))))] := by
 refine ⟨a0O Tryz.func20 rfl Tryz.ntmps20 Tryz.results20 rfl (fun C => ?_)⟩
 refine yF 0 0 rfl rfl fun f0_0 => ?_
 refine yF 0 1 rfl rfl fun f0_1 => ?_
 refine yF 0 2 rfl rfl fun f0_2 => ?_
 refine yF 0 3 rfl rfl fun f0_3 => ?_
 refine a1k (x := .tmp 1) (a0a rfl) fun f1 => ?_
 iterate 8 refine z ?_
 refine zK 90000 Tryz.call27 ?_ (hf := a6W (x := d) (by omega))
 iterate 4 refine z ?_
 refine a2J (k := 95000) hT rfl rfl rfl rfl rfl rfl rfl rfl ?_
 iterate 5 refine z ?_
 refine zC Tryz.call41 ?_ (hf := a9D (x := d) )
 iterate 7 refine z ?_
 refine yQ rfl (fun c1 => ?_) fun c1 => ?_
 ·iterate 7 refine z ?_
  rw [b8I c1]
  refine a0h (σ' := ⟨[(4, .box 4 0), (5, .one (.key 95000)), (6, .one (.dv [] (.bool (false))))], [(4, 27, [(.dv [] (.str ((d).1))), (.dv [] (.int .i64 ((d).2.1))), (.key 90031), (.key 90900)])], [(90031, some (a0b false (a0x (d.2.2.1)))), (90900, some (a0b false (a0z (d.2.2.2)))), (95000, some (a0b false (a5g ([]))))]⟩) (a0e ⟨rfl, rfl, rfl, trivial⟩ ⟨rfl, trivial⟩ ⟨rfl, rfl, rfl, trivial⟩ rfl) ?_
  iterate 2 refine z ?_
  refine a1U (a0E hT rfl rfl rfl rfl) (a0l rfl) (a0l rfl) rfl rfl rfl ?_
  first | exact ⟨rfl, rfl⟩ | skip
 ·have hl6 := b3K c1
  iterate 9 refine z ?_
  refine a1o (ι := Nat × DbT × List Int) (fun zz => ⟨[(2, .box 2 0), (4, .box 4 0), (7, .box 7 0), (8, .one (.key 95000)), (27, .one (.dv [] (a2a (l)))), (28, .one (.dv [] (.int .i64 ((((l)).length : Int))))), (29, .one (.dv [] (.int .i64 ((zz.1 : Int)))))], [(2, 27, [(.dv [] (.str (d.1))), (.dv [] (.int .i64 (d.2.1))), (.dv [] (a0x (d.2.2.1))), (.dv [] (a0z (d.2.2.2)))]), (4, 27, [(.dv [] (.str (ByteArray.empty))), (.dv [] (.int .i64 (0))), .nil, .nil]), (7, 27, [(.dv [] (.str (zz.2.1.1))), (.dv [] (.int .i64 (zz.2.1.2.1))), (.key 90031), (.key 90900)])], [(90031, some (a0b false (.sl 77 3 (zz.2.1.2.2.1.length) (zz.2.1.2.2.1.flatMap a1L)))), (90900, some (a0b false (.sl 79 2 (zz.2.1.2.2.2.length) (zz.2.1.2.2.2.flatMap a2z)))), (95000, some (a0b false (.sl 3 1 (zz.2.2.length) (zz.2.2.flatMap a3X))))]⟩) (fun zz => zz.1 ≤ l.length ∧ a1Y d l = a4M zz.2.2 (a1Y zz.2.1 (l.drop zz.1)) ∧ a1h zz.2.1 ≤ a1h d + 1000000 * zz.1 ∧ zz.2.2.length = zz.1) (fun zz => l.length - zz.1) ((0, d, [])) ?_ (a0e ⟨rfl, rfl, rfl, rfl, rfl, rfl, rfl, trivial⟩ ⟨rfl, rfl, rfl, trivial⟩ ⟨rfl, rfl, rfl, trivial⟩ rfl) (fun zz hx => ?_)
  ·exact ⟨Nat.zero_le _, by simp [a4M], by dsimp only; omega, rfl⟩
  obtain ⟨n, c, acc⟩ := zz
  replace hx : n ≤ l.length ∧ a1Y d l = a4M acc (a1Y c (l.drop n)) ∧ a1h c ≤ a1h d + 1000000 * n ∧ acc.length = n := hx
  obtain ⟨hn, hi, hw, hal⟩ := hx
  show Ok _ _ _ _ _ (⟨[(2, .box 2 0), (4, .box 4 0), (7, .box 7 0), (8, .one (.key 95000)), (27, .one (.dv [] (a2a (l)))), (28, .one (.dv [] (.int .i64 ((((l)).length : Int))))), (29, .one (.dv [] (.int .i64 ((n : Int)))))], [(2, 27, [(.dv [] (.str (d.1))), (.dv [] (.int .i64 (d.2.1))), (.dv [] (a0x (d.2.2.1))), (.dv [] (a0z (d.2.2.2)))]), (4, 27, [(.dv [] (.str (ByteArray.empty))), (.dv [] (.int .i64 (0))), .nil, .nil]), (7, 27, [(.dv [] (.str (c.1))), (.dv [] (.int .i64 (c.2.1))), (.key 90031), (.key 90900)])], [(90031, some (a0b false (.sl 77 3 (c.2.2.1.length) (c.2.2.1.flatMap a1L)))), (90900, some (a0b false (.sl 79 2 (c.2.2.2.length) (c.2.2.2.flatMap a2z)))), (95000, some (a0b false (.sl 3 1 (acc.length) (acc.flatMap a3X))))]⟩ : St)
  iterate 3 refine z ?_
  refine a0u ?_
  refine yQ rfl (fun c2 => ?_) fun c2 => ?_
  ·have d2 := c9f c2
   have hn2 : n < l.length := by omega
   have hrw := b9n c (l.getD (n : Int).toNat default)
   have hw2 : a1h (a1j c (l.getD (n : Int).toNat default)).1 ≤ a1h d + 1000000 * (n + 1) := Nat.le_trans hrw (by rw [Nat.mul_succ, ← Nat.add_assoc]; exact Nat.add_le_add_right hw _)
   iterate 13 refine z ?_
   refine a2H 1000 rfl rfl rfl Tryz.call42 (c1C (d := c) (o := (l.getD (n : Int).toNat default)) (by omega)) (a0g (a0a rfl) (a0t (a0d a0c (a0d a0c (a0d (a0X rfl rfl) (a0d (a0X rfl rfl) a0r))))) (a0g (a0a rfl) (a0t (a0d a0c (a0d a0c (a0d a0c (a0d a0c (a0d a0c (a0d a0c (a0d a0c a0r)))))))) a0q)) rfl rfl rfl ?_
   iterate 14 refine z ?_
   refine yQ rfl (fun c3 => ?_) fun c3 => ?_
   ·refine a0u ?_
    refine a0h (σ' := ⟨[(2, .box 2 0), (4, .box 4 0)], [(2, 27, [(.dv [] (.str (d.1))), (.dv [] (.int .i64 (d.2.1))), (.dv [] (a0x (d.2.2.1))), (.dv [] (a0z (d.2.2.2)))]), (4, 27, [(.dv [] (.str (ByteArray.empty))), (.dv [] (.int .i64 (0))), .nil, .nil])], []⟩) (a0e ⟨rfl, rfl, trivial⟩ ⟨rfl, rfl, trivial⟩ trivial rfl) ?_
    refine a0n ?_
    refine z ?_
    refine zK 90000 Tryz.call27 ?_ (hf := a6W (x := d) (by omega))
    refine a2J (k := 95000) hT rfl rfl rfl rfl rfl rfl rfl rfl ?_
    iterate 4 refine z ?_
    rw [b7O c1 hi hn2 c3]
    refine a0h (σ' := ⟨[(4, .box 4 0), (5, .one (.key 95000)), (6, .one (.dv [] (.bool (false))))], [(4, 27, [(.dv [] (.str ((d).1))), (.dv [] (.int .i64 ((d).2.1))), (.key 90031), (.key 90900)])], [(90031, some (a0b false (a0x (d.2.2.1)))), (90900, some (a0b false (a0z (d.2.2.2)))), (95000, some (a0b false (a5g ([]))))]⟩) (a0e ⟨rfl, rfl, rfl, trivial⟩ ⟨rfl, trivial⟩ ⟨rfl, rfl, rfl, trivial⟩ rfl) ?_
    iterate 7 refine z ?_
    refine a1U (a0E hT rfl rfl rfl rfl) (a0l rfl) (a0l rfl) rfl rfl rfl ?_
    first | exact ⟨rfl, rfl⟩ | skip
   ·iterate 6 refine z ?_
    refine a0h (a2N (b := 7) (i := 2) (k := 91031) (k' := 90031) rfl rfl rfl rfl (by simp) rfl rfl) ?_
    simp only [a0p, a0k, SV.kill, CV.kill, kk, Nat.reduceBEq]
    refine a0h (a2N (b := 7) (i := 3) (k := 91900) (k' := 90900) rfl rfl rfl rfl (by simp) rfl rfl) ?_
    simp only [a0p, a0k, SV.kill, CV.kill, kk, Nat.reduceBEq]
    refine a0n ?_
    iterate 2 refine z ?_
    refine a3H (k := 48) (js := []) hT rfl rfl rfl rfl rfl rfl rfl rfl rfl (a0a rfl) rfl rfl (a0o (a0R rfl) a1y rfl) (by decide) (by decide) rfl rfl ?_
    simp only [a0p, a0k, SV.kill, CV.kill, kk, Nat.reduceBEq]
    refine a3f (k := 95000) (j := 48) (cs := (acc ++ [(a1j c (l.getD (n : Int).toNat default)).2.1]).flatMap a3X) (n := (acc ++ [(a1j c (l.getD (n : Int).toNat default)).2.1]).length) hT rfl rfl rfl rfl rfl rfl rfl (a0a rfl) rfl rfl rfl (a0a rfl) rfl rfl (by decide) (by dsimp only [a0b]; omega) (by dsimp only [a0b]; omega) (by simp) (by rw [List.flatMap_append]; rfl) ?_
    simp only [a0p, a0k, SV.kill, CV.kill, kk, Nat.reduceBEq]
    refine z ?_
    refine a1H ?_
    iterate 2 refine z ?_
    refine a0n ?_
    iterate 3 refine z ?_
    refine ⟨(n + 1, (a1j c (l.getD (n : Int).toNat default)).1, acc ++ [(a1j c (l.getD (n : Int).toNat default)).2.1]), ?_, ?_, a0e ⟨rfl, rfl, rfl, rfl, rfl, rfl, rfl, trivial⟩ ⟨rfl, rfl, rfl, trivial⟩ ⟨rfl, rfl, rfl, trivial⟩ rfl⟩
    ·exact ⟨hn2, by show a1Y d l = _; rw [hi]; exact b7i hn2 c3, hw2, by rw [c9i, hal]; rfl⟩
    ·dsimp only; omega
  ·have d2 := c9g c2
   iterate 12 refine z ?_
   rw [b6T c1 hi (by omega)]
   refine a0h (σ' := ⟨[(4, .box 4 0), (5, .one (.key 95000)), (6, .one (.dv [] (.bool (true))))], [(4, 27, [(.dv [] (.str (c.1))), (.dv [] (.int .i64 (c.2.1))), (.key 90031), (.key 90900)])], [(90031, some (a0b false (a0x (c.2.2.1)))), (90900, some (a0b false (a0z (c.2.2.2)))), (95000, some (a0b false (a5g (acc))))]⟩) (a0e ⟨rfl, rfl, rfl, trivial⟩ ⟨rfl, trivial⟩ ⟨rfl, rfl, rfl, trivial⟩ rfl) ?_
   refine z ?_
   refine a1U (a0E hT rfl rfl rfl rfl) (a0l rfl) (a0l rfl) rfl rfl rfl ?_
   first | exact ⟨rfl, rfl⟩ | skip
theorem b8c {d : DbT} {l : List OpT} (hb : a1h d ≤ 549755813888) : KFn Tryz.prog 7 [.agg [(.dv [] (.str (d.1))), (.dv [] (.int .i64 (d.2.1))), (.dv [] (a0x (d.2.2.1))), (.dv [] (a0z (d.2.2.2)))], .one (.dv [] (a2a (l)))] (.tup [(true, [(.dv [] (.str ((a1F d l).1.1))), (.dv [] (.int .i64 ((a1F d l).1.2.1))), (.key 90031), (.key 90900)]), (false, [(.key 95000)]), (false, [(.dv [] (.bool ((a1F d l).2.2)))])]) [(90031, some (a0b false (a0x ((a1F d l).1.2.2.1)))), (90900, some (a0b false (a0z ((a1F d l).1.2.2.2)))), (95000, some (a0b false (a5g ((a1F d l).2.1))))] := by
 refine ⟨a0O Tryz.func7 rfl Tryz.ntmps7 Tryz.results7 rfl (fun C => ?_)⟩
 refine yF 0 0 rfl rfl fun f0_0 => ?_
 refine yF 0 1 rfl rfl fun f0_1 => ?_
 refine yF 0 2 rfl rfl fun f0_2 => ?_
 refine yF 0 3 rfl rfl fun f0_3 => ?_
 refine a1k (x := .tmp 1) (a0a rfl) fun f1 => ?_
 iterate 8 refine z ?_
 refine zK 90000 Tryz.call23 ?_ (hf := a8P (x := d) (by omega))
 iterate 4 refine z ?_
 refine a2J (k := 95000) hT rfl rfl rfl rfl rfl rfl rfl rfl ?_
 iterate 5 refine z ?_
 refine zC Tryz.call24 ?_ (hf := a9x (x := d) )
 iterate 7 refine z ?_
 refine yQ rfl (fun c1 => ?_) fun c1 => ?_
 ·iterate 7 refine z ?_
  rw [b8I c1]
  refine a0h (σ' := ⟨[(4, .box 4 0), (5, .one (.key 95000)), (6, .one (.dv [] (.bool (false))))], [(4, 27, [(.dv [] (.str ((d).1))), (.dv [] (.int .i64 ((d).2.1))), (.key 90031), (.key 90900)])], [(90031, some (a0b false (a0x (d.2.2.1)))), (90900, some (a0b false (a0z (d.2.2.2)))), (95000, some (a0b false (a5g ([]))))]⟩) (a0e ⟨rfl, rfl, rfl, trivial⟩ ⟨rfl, trivial⟩ ⟨rfl, rfl, rfl, trivial⟩ rfl) ?_
  iterate 2 refine z ?_
  refine a1U (a0E hT rfl rfl rfl rfl) (a0l rfl) (a0l rfl) rfl rfl rfl ?_
  first | exact ⟨rfl, rfl⟩ | skip
 ·have hl6 := b3K c1
  iterate 7 refine z ?_
  refine a1o (ι := Nat × DbT × List Int) (fun zz => ⟨[(1, .one (.dv [] (a2a (l)))), (2, .box 2 0), (4, .box 4 0), (7, .box 7 0), (8, .one (.key 95000)), (9, .one (.dv [] (.int .i64 ((zz.1 : Int)))))], [(2, 27, [(.dv [] (.str (d.1))), (.dv [] (.int .i64 (d.2.1))), (.dv [] (a0x (d.2.2.1))), (.dv [] (a0z (d.2.2.2)))]), (4, 27, [(.dv [] (.str (ByteArray.empty))), (.dv [] (.int .i64 (0))), .nil, .nil]), (7, 27, [(.dv [] (.str (zz.2.1.1))), (.dv [] (.int .i64 (zz.2.1.2.1))), (.key 90031), (.key 90900)])], [(90031, some (a0b false (.sl 77 3 (zz.2.1.2.2.1.length) (zz.2.1.2.2.1.flatMap a1L)))), (90900, some (a0b false (.sl 79 2 (zz.2.1.2.2.2.length) (zz.2.1.2.2.2.flatMap a2z)))), (95000, some (a0b false (.sl 3 1 (zz.2.2.length) (zz.2.2.flatMap a3X))))]⟩) (fun zz => zz.1 ≤ l.length ∧ a1Y d l = a4M zz.2.2 (a1Y zz.2.1 (l.drop zz.1)) ∧ a1h zz.2.1 ≤ a1h d + 1000000 * zz.1 ∧ zz.2.2.length = zz.1) (fun zz => l.length - zz.1) ((0, d, [])) ?_ (a0e ⟨rfl, rfl, rfl, rfl, rfl, rfl, trivial⟩ ⟨rfl, rfl, rfl, trivial⟩ ⟨rfl, rfl, rfl, trivial⟩ rfl) (fun zz hx => ?_)
  ·exact ⟨Nat.zero_le _, by simp [a4M], by dsimp only; omega, rfl⟩
  obtain ⟨n, c, acc⟩ := zz
  replace hx : n ≤ l.length ∧ a1Y d l = a4M acc (a1Y c (l.drop n)) ∧ a1h c ≤ a1h d + 1000000 * n ∧ acc.length = n := hx
  obtain ⟨hn, hi, hw, hal⟩ := hx
  show Ok _ _ _ _ _ (⟨[(1, .one (.dv [] (a2a (l)))), (2, .box 2 0), (4, .box 4 0), (7, .box 7 0), (8, .one (.key 95000)), (9, .one (.dv [] (.int .i64 ((n : Int)))))], [(2, 27, [(.dv [] (.str (d.1))), (.dv [] (.int .i64 (d.2.1))), (.dv [] (a0x (d.2.2.1))), (.dv [] (a0z (d.2.2.2)))]), (4, 27, [(.dv [] (.str (ByteArray.empty))), (.dv [] (.int .i64 (0))), .nil, .nil]), (7, 27, [(.dv [] (.str (c.1))), (.dv [] (.int .i64 (c.2.1))), (.key 90031), (.key 90900)])], [(90031, some (a0b false (.sl 77 3 (c.2.2.1.length) (c.2.2.1.flatMap a1L)))), (90900, some (a0b false (.sl 79 2 (c.2.2.2.length) (c.2.2.2.flatMap a2z)))), (95000, some (a0b false (.sl 3 1 (acc.length) (acc.flatMap a3X))))]⟩ : St)
  iterate 7 refine z ?_
  refine yQ rfl (fun c2 => ?_) fun c2 => ?_
  ·have d2 := c9f c2
   have hn2 : n < l.length := by omega
   have hrw := b9n c (l.getD (n : Int).toNat default)
   have hw2 : a1h (a1j c (l.getD (n : Int).toNat default)).1 ≤ a1h d + 1000000 * (n + 1) := Nat.le_trans hrw (by rw [Nat.mul_succ, ← Nat.add_assoc]; exact Nat.add_le_add_right hw _)
   iterate 4 refine z ?_
   refine a7d (σ' := ⟨[(1, .one (.dv [] (a2a (l)))), (2, .box 2 0), (4, .box 4 0), (7, .box 7 0), (8, .one (.key 95000)), (9, .one (.dv [] (.int .i64 ((n : Int))))), (10, .box 10 0), (11, .one (.dv [] (.int .i64 ((a1j (c) ((l.getD (n : Int).toNat default))).2.1)))), (12, .one (.dv [] (.bool ((a1j (c) ((l.getD (n : Int).toNat default))).2.2))))], [(2, 27, [(.dv [] (.str (d.1))), (.dv [] (.int .i64 (d.2.1))), (.dv [] (a0x (d.2.2.1))), (.dv [] (a0z (d.2.2.2)))]), (4, 27, [(.dv [] (.str (ByteArray.empty))), (.dv [] (.int .i64 (0))), .nil, .nil]), (7, 27, [(.dv [] (.str (c.1))), (.dv [] (.int .i64 (c.2.1))), (.key 90031), (.key 90900)]), (10, 27, [(.dv [] (.str ((a1j (c) ((l.getD (n : Int).toNat default))).1.1))), (.dv [] (.int .i64 ((a1j (c) ((l.getD (n : Int).toNat default))).1.2.1))), (.key 91031), (.key 91900)])], [(90031, some (a0b false (.sl 77 3 (c.2.2.1.length) (c.2.2.1.flatMap a1L)))), (90900, some (a0b false (.sl 79 2 (c.2.2.2.length) (c.2.2.2.flatMap a2z)))), (91031, some (a0b false (a0x ((a1j (c) ((l.getD (n : Int).toNat default))).1.2.2.1)))), (91900, some (a0b false (a0z ((a1j (c) ((l.getD (n : Int).toNat default))).1.2.2.2)))), (95000, some (a0b false (.sl 3 1 (acc.length) (acc.flatMap a3X))))]⟩) ?_ ?_
   ·refine a1K (oB := [2, 4, 7]) (oK := [90031, 90900, 95000]) (by kernel_rfl) rfl rfl ?_
    refine zD 0 ?_
    refine zD 1 ?_
    refine zD 2 ?_
    refine zD 3 ?_
    refine zD 4 ?_
    refine a6c (A := [(10, 10, 27, _)]) hT ⟨⟨_, _, rfl⟩, rfl, trivial⟩ ?_
    refine a8T 1000 5 rfl (by kernel_rfl) rfl rfl rfl (vok hT ⟨⟨_, _, rfl⟩, rfl, trivial⟩ (by kernel_rfl) (by kernel_rfl)) (vok hT ⟨⟨_, _, rfl⟩, rfl, trivial⟩ (by kernel_rfl) (by kernel_rfl)) rfl Tryz.call25 (c4o (d := c) (o := (l.getD (n : Int).toNat default)) (by omega)) (a0g (a0a rfl) (a0t (a0d a0c (a0d a0c (a0d (a0X rfl rfl) (a0d (a0X rfl rfl) a0r))))) (a0g (a0a rfl) (a0t (a0d a0c (a0d a0c (a0d a0c (a0d a0c (a0d a0c (a0d a0c (a0d a0c a0r)))))))) a0q)) rfl rfl rfl rfl rfl ?_
    refine a5X 6 rfl (by kernel_rfl) rfl rfl rfl (vok hT ⟨⟨_, _, rfl⟩, rfl, trivial⟩ (by kernel_rfl) (by kernel_rfl)) (vok hT ⟨⟨_, _, rfl⟩, rfl, trivial⟩ (by kernel_rfl) (by kernel_rfl)) (a0M (.inl rfl) (a0a rfl)) rfl rfl rfl rfl ?_
    refine a2D 7 rfl (by kernel_rfl) rfl rfl rfl rfl (vok hT ⟨⟨_, _, rfl⟩, rfl, trivial⟩ (by kernel_rfl) (by kernel_rfl)) (vok hT ⟨⟨_, _, rfl⟩, rfl, trivial⟩ (by kernel_rfl) (by kernel_rfl)) (a3F rfl (a0a rfl) rfl) rfl rfl ?_
    refine a2D 8 rfl (by kernel_rfl) rfl rfl rfl rfl (vok hT ⟨⟨_, _, rfl⟩, rfl, trivial⟩ (by kernel_rfl) (by kernel_rfl)) (vok hT ⟨⟨_, _, rfl⟩, rfl, trivial⟩ (by kernel_rfl) (by kernel_rfl)) (a3c rfl (a0a rfl) rfl) rfl rfl ?_
    refine a2D 9 rfl (by kernel_rfl) rfl rfl rfl rfl (vok hT ⟨⟨_, _, rfl⟩, rfl, trivial⟩ (by kernel_rfl) (by kernel_rfl)) (vok hT ⟨⟨_, _, rfl⟩, rfl, trivial⟩ (by kernel_rfl) (by kernel_rfl)) (a3c rfl (a0a rfl) rfl) rfl rfl ?_
    refine a6h (vok hT ⟨⟨_, _, rfl⟩, rfl, trivial⟩ (by kernel_rfl) (by kernel_rfl)) rfl rfl (by kernel_rfl) ?_
    dsimp only [a3l, a3d]
    refine a3y [11, 12, 13] rfl rfl (by kernel_rfl) ?_
    iterate 3 refine z ?_
    refine a1H ?_
    exact a2x (a0e ⟨rfl, rfl, rfl, rfl, rfl, rfl, rfl, rfl, rfl, trivial⟩ ⟨rfl, rfl, rfl, rfl, trivial⟩ ⟨rfl, rfl, rfl, rfl, rfl, trivial⟩ rfl)
   iterate 5 refine z ?_
   refine yQ rfl (fun c3 => ?_) fun c3 => ?_
   ·refine a0u ?_
    refine a0h (σ' := ⟨[(2, .box 2 0), (4, .box 4 0)], [(2, 27, [(.dv [] (.str (d.1))), (.dv [] (.int .i64 (d.2.1))), (.dv [] (a0x (d.2.2.1))), (.dv [] (a0z (d.2.2.2)))]), (4, 27, [(.dv [] (.str (ByteArray.empty))), (.dv [] (.int .i64 (0))), .nil, .nil])], []⟩) (a0e ⟨rfl, rfl, trivial⟩ ⟨rfl, rfl, trivial⟩ trivial rfl) ?_
    refine a0n ?_
    refine z ?_
    refine zK 90000 Tryz.call23 ?_ (hf := a8P (x := d) (by omega))
    refine a2J (k := 95000) hT rfl rfl rfl rfl rfl rfl rfl rfl ?_
    iterate 4 refine z ?_
    rw [b7O c1 hi hn2 c3]
    refine a0h (σ' := ⟨[(4, .box 4 0), (5, .one (.key 95000)), (6, .one (.dv [] (.bool (false))))], [(4, 27, [(.dv [] (.str ((d).1))), (.dv [] (.int .i64 ((d).2.1))), (.key 90031), (.key 90900)])], [(90031, some (a0b false (a0x (d.2.2.1)))), (90900, some (a0b false (a0z (d.2.2.2)))), (95000, some (a0b false (a5g ([]))))]⟩) (a0e ⟨rfl, rfl, rfl, trivial⟩ ⟨rfl, trivial⟩ ⟨rfl, rfl, rfl, trivial⟩ rfl) ?_
    iterate 7 refine z ?_
    refine a1U (a0E hT rfl rfl rfl rfl) (a0l rfl) (a0l rfl) rfl rfl rfl ?_
    first | exact ⟨rfl, rfl⟩ | skip
   ·iterate 6 refine z ?_
    refine a0h (a2N (b := 7) (i := 2) (k := 91031) (k' := 90031) rfl rfl rfl rfl (by simp) rfl rfl) ?_
    simp only [a0p, a0k, SV.kill, CV.kill, kk, Nat.reduceBEq]
    refine a0h (a2N (b := 7) (i := 3) (k := 91900) (k' := 90900) rfl rfl rfl rfl (by simp) rfl rfl) ?_
    simp only [a0p, a0k, SV.kill, CV.kill, kk, Nat.reduceBEq]
    refine a0n ?_
    iterate 2 refine z ?_
    refine a3H (k := 50) (js := []) hT rfl rfl rfl rfl rfl rfl rfl rfl rfl (a0a rfl) rfl rfl (a0o (a0R rfl) a1y rfl) (by decide) (by decide) rfl rfl ?_
    simp only [a0p, a0k, SV.kill, CV.kill, kk, Nat.reduceBEq]
    refine a3f (k := 95000) (j := 50) (cs := (acc ++ [(a1j c (l.getD (n : Int).toNat default)).2.1]).flatMap a3X) (n := (acc ++ [(a1j c (l.getD (n : Int).toNat default)).2.1]).length) hT rfl rfl rfl rfl rfl rfl rfl (a0a rfl) rfl rfl rfl (a0a rfl) rfl rfl (by decide) (by dsimp only [a0b]; omega) (by dsimp only [a0b]; omega) (by simp) (by rw [List.flatMap_append]; rfl) ?_
    simp only [a0p, a0k, SV.kill, CV.kill, kk, Nat.reduceBEq]
    refine z ?_
    refine a1H ?_
    iterate 2 refine z ?_
    refine a0n ?_
    iterate 4 refine z ?_
    refine ⟨(n + 1, (a1j c (l.getD (n : Int).toNat default)).1, acc ++ [(a1j c (l.getD (n : Int).toNat default)).2.1]), ?_, ?_, a0e ⟨rfl, rfl, rfl, rfl, rfl, rfl, trivial⟩ ⟨rfl, rfl, rfl, trivial⟩ ⟨rfl, rfl, rfl, trivial⟩ rfl⟩
    ·exact ⟨hn2, by show a1Y d l = _; rw [hi]; exact b7i hn2 c3, hw2, by rw [c9i, hal]; rfl⟩
    ·dsimp only; omega
  ·have d2 := c9g c2
   iterate 12 refine z ?_
   rw [b6T c1 hi (by omega)]
   refine a0h (σ' := ⟨[(4, .box 4 0), (5, .one (.key 95000)), (6, .one (.dv [] (.bool (true))))], [(4, 27, [(.dv [] (.str (c.1))), (.dv [] (.int .i64 (c.2.1))), (.key 90031), (.key 90900)])], [(90031, some (a0b false (a0x (c.2.2.1)))), (90900, some (a0b false (a0z (c.2.2.2)))), (95000, some (a0b false (a5g (acc))))]⟩) (a0e ⟨rfl, rfl, rfl, trivial⟩ ⟨rfl, trivial⟩ ⟨rfl, rfl, rfl, trivial⟩ rfl) ?_
   refine z ?_
   refine a1U (a0E hT rfl rfl rfl rfl) (a0l rfl) (a0l rfl) rfl rfl rfl ?_
   first | exact ⟨rfl, rfl⟩ | skip
theorem b3k {α : Type} {w : α → Nat} {B : Nat} : ∀ (l : List α), (∀ x ∈ l, w x ≤ B) → a0V w l ≤ l.length * B
 | [], _ => by simp [a0V]
 | x :: l, h => by
  have h1 := b3k l (fun y hy => h y (by simp [hy]))
  have h2 := h x (by simp)
  have e : a0V w (x :: l) = w x + a0V w l := by simp [a0V]
  rw [e, List.length_cons, Nat.add_mul, Nat.one_mul]; omega
theorem b6x {s : a0G} (h : a1i s = true) : s.1.size ≤ 8 := by
 simp only [a1i, Bool.and_eq_true] at h
 have := h.2.1.1
 simp only [a2e, Bool.and_eq_true, decide_eq_true_eq] at this
 omega
theorem b7V (s : Str) : s.size = s.toList.length := by rw [a9G]; rfl
theorem c5t {d : DbT} (h : a1e d = true) : a1h d ≤ 5000000 := by
 have hst := a9U h
 rw [a1e] at h
 simp only [Bool.and_eq_true] at h
 obtain ⟨hh, _, hu⟩ := h
 simp only [a6M, Bool.and_eq_true, decide_eq_true_eq] at hh
 obtain ⟨⟨⟨hn, _⟩, hl1⟩, hl2⟩ := hh
 simp only [a2e, Bool.and_eq_true, decide_eq_true_eq] at hn
 have hs : ∀ s ∈ d.2.2.1, a1i s = true := fun s hs => by
  obtain ⟨i, hi, rfl⟩ := List.mem_iff_getElem.1 hs
  have := a5J (d := d) (i := (i : Int)) hst (by omega) (by omega)
  simpa [List.getD, List.getElem?_eq_getElem hi] using this
 have h1 := b3k (w := a1g) (B := 1000 * 1000) d.2.2.1 (fun s hm => a6P (hs s hm))
 have h2 := b3k (w := a3a) (B := 16) d.2.2.2 (fun x hm => by
  obtain ⟨i, hi, rfl⟩ := List.mem_iff_getElem.1 hm
  simp only [a7N, List.all_eq_true] at hu
  have h3 := hu i (List.mem_range.2 hi)
  have ex : d.2.2.2.getD i default = d.2.2.2[i] := by simp [List.getD, List.getElem?_eq_getElem hi]
  simp only [a3k, Int.toNat_natCast, ex, Bool.not_eq_true', Bool.or_eq_false_iff, decide_eq_false_iff_not, Bool.not_eq_false'] at h3
  obtain ⟨⟨⟨h4, h5⟩, _⟩, _⟩ := h3
  simp only [a2e, Bool.and_eq_true, decide_eq_true_eq] at h5
  rcases a9d (p := a0D d.2.2.2[i].1) (d := default) d.2.2.1 0 (by omega) with ⟨h6, _⟩ | ⟨m, h6, _, _, h7⟩
  ·exact absurd (show a1D d d.2.2.2[i].1 < 0 by show a0s _ _ _ < 0; omega) h4
  ·have hm' : d.2.2.1.getD m default ∈ d.2.2.1 := by simp [List.getD, List.getElem?_eq_getElem h6]
   have h8 := b6x (hs _ hm')
   have h9 : (d.2.2.1.getD m default).1.toList = d.2.2.2[i].1.toList := by simpa [a0D, sEq] using h7
   have h10 : d.2.2.2[i].1.size ≤ 8 := by rw [b7V, ← h9, ← b7V]; exact h8
   have h11 : a3a d.2.2.2[i] = d.2.2.2[i].1.size + d.2.2.2[i].2.size := rfl
   rw [h11]; omega)
 have h3 : a1h d = d.1.size + a2d a1g d.2.2.1 + a2d a3a d.2.2.2 := rfl
 have h4 : a2d a1g d.2.2.1 = d.2.2.1.length + a0V a1g d.2.2.1 := rfl
 have h5 : a2d a3a d.2.2.2 = d.2.2.2.length + a0V a3a d.2.2.2 := rfl
 have h6 : d.2.2.1.length ≤ 4 := by omega
 have h7 : d.2.2.2.length ≤ 4 := by omega
 have h8 : d.2.2.1.length * (1000 * 1000) ≤ 4 * (1000 * 1000) := Nat.mul_le_mul_right _ h6
 omega
theorem c0S {d : DbT} {o : OpT} (h : (a1j d o).2.2 = true) : a1e (a1j d o).1 = true := by
 unfold a1j at h ⊢
 split at h
 ·cases h
 ·rename_i h1
  split at h
  ·cases h
  ·rename_i h2
   rw [if_neg h1, if_neg h2]
   have h2 : (!(opM (a2O d o) o).2.2 || !a1e (a3o d (a1D d o.2.1).toNat (opM (a2O d o) o).1)) = false := by simpa using h2
   simp only [Bool.or_eq_false_iff, Bool.not_eq_false'] at h2
   exact h2.2
theorem b2B : ∀ (l : List OpT) (c c' : DbT) (ns : List Int), a1Y c l = some (c', ns) → c' = c ∨ a1e c' = true
 | [], c, c', ns, h => by simp only [a1Y, Option.some.injEq, Prod.mk.injEq] at h; exact .inl h.1.symm
 | o :: os, c, c', ns, h => by
  rw [a1Y] at h
  split at h
  ·rename_i hk
   cases hq : a1Y (a1j c o).1 os with
   | none => rw [hq] at h; cases h
   | some r =>
    rw [hq] at h
    simp only [Option.map_some, Option.some.injEq, Prod.mk.injEq] at h
    rcases b2B os (a1j c o).1 r.1 r.2 hq with h2 | h2
    ·right; rw [← h.1, h2]; exact c0S hk
    ·right; rw [← h.1]; exact h2
  ·cases h
theorem b8t (d : DbT) (l : List OpT) : a1h (a1F d l).1 ≤ a1h d ∨ a1h (a1F d l).1 ≤ 5000000 := by
 unfold a1F
 split
 ·exact .inl (Nat.le_refl _)
 ·cases hq : a1Y d l with
  | none => exact .inl (Nat.le_refl _)
  | some r =>
   rcases b2B l d r.1 r.2 hq with h | h
   ·left; show a1h r.1 ≤ _; rw [h]; exact Nat.le_refl _
   ·right; exact c5t h
def a3C (x : a2W) : a2W := (x.1, x.2.1.take (rl x.2.1).2, ((rl x.2.1).1.length : Int))
theorem c3C {x : a2W} (hb : a2Y x ≤ 2097152) : KFn Tryz.prog 10 [.agg [(.dv [] (.str (x.1.1))), (.dv [] (.int .i64 (x.1.2.1))), (.dv [] (a0x (x.1.2.2.1))), (.dv [] (a0z (x.1.2.2.2))), (.dv [] (a0m (x.2.1))), (.dv [] (.int .i64 (x.2.2)))]] (.agg [(.dv [] (.str ((a3C x).1.1))), (.dv [] (.int .i64 ((a3C x).1.2.1))), (.key 10031), (.key 10900), (.key 8000), (.dv [] (.int .i64 ((a3C x).2.2)))]) [(10031, some (a0b false (a0x ((a3C x).1.2.2.1)))), (10900, some (a0b false (a0z ((a3C x).1.2.2.2)))), (8000, some (a0b false (a0m ((a3C x).2.1))))] := by
 refine ⟨a0O Tryz.func10 rfl Tryz.ntmps10 Tryz.results10 rfl (fun C => ?_)⟩
 have hwk : a2Y x = a1h x.1 + x.2.1.length := rfl
 have hcn := b1b x.2.1
 refine yF 0 0 rfl rfl fun f0_0 => ?_
 refine yF 0 1 rfl rfl fun f0_1 => ?_
 refine yF 0 2 rfl rfl fun f0_2 => ?_
 refine yF 0 3 rfl rfl fun f0_3 => ?_
 refine yF 0 4 rfl rfl fun f0_4 => ?_
 refine yF 0 5 rfl rfl fun f0_5 => ?_
 iterate 6 refine z ?_
 refine zK 5000 Tryz.call19 ?_ (hf := b3p (x := x) (by omega))
 iterate 6 refine z ?_
 refine zK 8000 Tryz.call30 ?_ (hf := c8l (b := x.2.1) (by omega))
 iterate 6 refine z ?_
 refine zC Tryz.call31 ?_ (hf := c5p (b := x.2.1) (by omega))
 iterate 7 refine z ?_
 refine a0h (σ' := ⟨[(2, .box 2 0)], [(2, 29, [(.dv [] (.str ((a3C x).1.1))), (.dv [] (.int .i64 ((a3C x).1.2.1))), (.key 10031), (.key 10900), (.key 8000), (.dv [] (.int .i64 ((a3C x).2.2)))])], [(10031, some (a0b false (a0x ((a3C x).1.2.2.1)))), (10900, some (a0b false (a0z ((a3C x).1.2.2.2)))), (8000, some (a0b false (a0m ((a3C x).2.1))))]⟩) (a0e ⟨rfl, trivial⟩ ⟨rfl, trivial⟩ ⟨rfl, rfl, rfl, trivial⟩ rfl) ?_
 refine z ?_
 refine a1r (a0E hT rfl rfl rfl rfl) ?_
 exact ⟨rfl, rfl⟩
theorem b1j (n : Nat) : 0 < (uvL n).length := by
 by_cases h : n < 128
 ·rw [a6o h]; simp
 ·rw [a8y h]; simp
theorem c3H (f k acc n : Nat) (r : List UInt8) (h : n < 128) (hz : 0 < k → 0 < n) (hm : acc + n * 2 ^ (7 * k) ≤ 1000000000000) :
  rdF (f + 1) k acc (UInt8.ofNat n :: r) = some (acc + n * 2 ^ (7 * k), k + 1) := by
 have h1 : (UInt8.ofNat n).toNat = n := by simp; omega
 have h2 : n % 128 = n := Nat.mod_eq_of_lt h
 unfold rdF
 rw [h1, h2, if_pos h, if_neg (by omega)]
theorem c4F (f k acc n : Nat) (r : List UInt8) : rdF (f + 1) k acc (UInt8.ofNat (n % 128 + 128) :: r) = rdF f (k + 1) (acc + (n % 128) * 2 ^ (7 * k)) r := by
 have h1 : (UInt8.ofNat (n % 128 + 128)).toNat = n % 128 + 128 := by simp; omega
 conv => lhs; unfold rdF
 rw [h1, if_neg (by omega), show (n % 128 + 128) % 128 = n % 128 by omega]
theorem b4i (n k : Nat) : n * 2 ^ (7 * k) = (n % 128) * 2 ^ (7 * k) + (n / 128) * 2 ^ (7 * (k + 1)) := by
 rw [show 7 * (k + 1) = 7 + 7 * k by omega, Nat.pow_add, ← Nat.mul_assoc, ← Nat.add_mul]
 congr 1
 omega
theorem c0t : ∀ (f k acc n : Nat) (r : List UInt8), (uvL n).length ≤ f → (0 < k → 0 < n) → acc + n * 2 ^ (7 * k) ≤ 1000000000000 →
  rdF f k acc (uvL n ++ r) = some (acc + n * 2 ^ (7 * k), k + (uvL n).length)
 | 0, k, acc, n, r, h, _, _ => by have := b1j n; omega
 | f + 1, k, acc, n, r, h, hz, hm => by
  by_cases h1 : n < 128
  ·rw [a6o h1, List.singleton_append, c3H f k acc n r h1 hz hm]; rfl
  ·rw [a8y h1] at h ⊢
   rw [List.cons_append, c4F, c0t f (k + 1) _ (n / 128) r (by simpa using h) (by omega) (by rw [Nat.add_assoc, ← b4i]; exact hm), Nat.add_assoc, ← b4i]
   simp only [List.length_cons, Option.some.injEq, Prod.mk.injEq, true_and]
   omega
theorem c6N {n : Nat} (hn : n ≤ 1000000000000) : (uvL n).length ≤ 6 := b2E 5 n (by omega)
theorem b0n {b : List UInt8} {p n : Nat} {r : List UInt8} (h : b.drop p = uvL n ++ r) (hn : n ≤ 1000000000000) : rdU b (p : Int) = some (n, (uvL n).length) ∧ b.drop (p + (uvL n).length) = r ∧ p + (uvL n).length ≤ b.length := by
 have h0 := b1j n
 have hl : (b.drop p).length = (uvL n).length + r.length := by rw [h, c9i]
 rw [List.length_drop] at hl
 refine ⟨?_, ?_, by omega⟩
 ·unfold rdU
  rw [if_pos (by omega), Int.toNat_natCast, h, c0t 6 0 0 n r (c6N hn) (by omega) (by simpa using hn)]
  simp
 ·rw [← List.drop_drop, h, List.drop_left]
theorem b5K : ∀ (f k acc : Nat) (l : List UInt8) (v m : Nat), rdF f k acc l = some (v, m) → ∃ n r, v = acc + n * 2 ^ (7 * k) ∧ l = uvL n ++ r ∧ m = k + (uvL n).length ∧ (0 < k → 0 < n)
 | 0, _, _, _, _, _, h => by simp [rdF] at h
 | _ + 1, _, _, [], _, _, h => by simp [rdF] at h
 | f + 1, k, acc, x :: r, v, m, h => by
  unfold rdF at h
  split at h
  ·rename_i hx
   split at h
   ·cases h
   ·rename_i h2
    simp only [Option.some.injEq, Prod.mk.injEq] at h
    have e1 : x.toNat % 128 = x.toNat := Nat.mod_eq_of_lt hx
    refine ⟨x.toNat, r, by rw [← h.1, e1], ?_, ?_, by omega⟩
    ·rw [a6o hx]; simp
    ·rw [a6o hx, ← h.2]; rfl
  ·rename_i hx
   obtain ⟨n, s, h1, h2, h3, h4⟩ := b5K f (k + 1) _ r v m h
   have hxl := x.toNat_lt
   have hn := h4 (by omega)
   have e1 : (x.toNat % 128 + n * 128) % 128 = x.toNat % 128 := by omega
   have e2 : (x.toNat % 128 + n * 128) / 128 = n := by omega
   have e3 : ¬ x.toNat % 128 + n * 128 < 128 := by omega
   refine ⟨x.toNat % 128 + n * 128, s, ?_, ?_, ?_, by omega⟩
   ·rw [h1, b4i (x.toNat % 128 + n * 128) k, e1, e2, Nat.add_assoc]
   ·rw [a8y e3, e1, e2, List.cons_append, ← h2]
    congr 1
    have : x.toNat % 128 + 128 = x.toNat := by omega
    rw [this]; simp
   ·rw [a8y e3, e2, h3, List.length_cons]; omega
theorem b6F {b : List UInt8} {off : Int} {v k : Nat} (h : rdU b off = some (v, k)) : ∃ p : Nat, off = (p : Int) ∧ b.drop p = uvL v ++ b.drop (p + k) ∧ p + k ≤ b.length ∧ v ≤ 1000000000000 ∧ k = (uvL v).length := by
 obtain ⟨o, p, h1, h2, h3, h4, h5⟩ := a8z h
 unfold rdU at h
 split at h
 ·obtain ⟨n, r, g1, g2, g3, _⟩ := b5K _ _ _ _ _ _ h
  have e : v = n := by simpa using g1
  subst e
  have e2 : k = (uvL v).length := by omega
  rw [h1, Int.toNat_natCast] at g2
  refine ⟨o, h1, ?_, by omega, h5, e2⟩
  rw [← List.drop_drop, g2, e2, List.drop_left]
 ·cases h
theorem a9V {b : List UInt8} {p : Nat} {d r : List UInt8} {m : Int} (h : b.drop p = uvL d.length ++ d ++ r) (hd : d.length ≤ 1000000000000) (hm : (d.length : Int) ≤ m) : rdB b (p : Int) m = some (d, p + (uvL d.length).length + d.length) ∧ b.drop (p + (uvL d.length).length + d.length) = r ∧ p + (uvL d.length).length + d.length ≤ b.length := by
 rw [List.append_assoc] at h
 obtain ⟨h1, h2, h3⟩ := b0n h hd
 have hl : (b.drop (p + (uvL d.length).length)).length = d.length + r.length := by rw [h2, c9i]
 rw [List.length_drop] at hl
 refine ⟨?_, ?_, by omega⟩
 ·unfold rdB
  rw [h1]
  simp only [Int.toNat_natCast]
  rw [if_pos ⟨hm, by omega⟩, h2, List.take_left]
 ·rw [← List.drop_drop, h2, List.drop_left]
theorem c7z {b : List UInt8} {off m : Int} {d : List UInt8} {q : Nat} (h : rdB b off m = some (d, q)) : ∃ p : Nat, off = (p : Int) ∧ b.drop p = uvL d.length ++ (d ++ b.drop q) ∧ q ≤ b.length ∧ (d.length : Int) ≤ m ∧ d.length ≤ 1000000000000 ∧ p < q := by
 unfold rdB at h
 split at h
 ·cases h
 ·rename_i v k hu
  obtain ⟨p, h1, h2, h3, h4, h5⟩ := b6F hu
  split at h
  ·rename_i hc
   subst h1
   simp only [Option.some.injEq, Prod.mk.injEq, Int.toNat_natCast] at h hc
   obtain ⟨rfl, rfl⟩ := h
   have hl : ((b.drop (p + k)).take v).length = v := by rw [c9j, List.length_drop]; omega
   refine ⟨p, rfl, ?_, by omega, by omega, by omega, by have := b1j v; omega⟩
   rw [hl, h2, ← List.drop_drop (i := v), List.take_append_drop]
  ·cases h
theorem b0D (s : Str) : a2h s.data.toList = s := by simp [a2h]
theorem a9K (x y : List UInt8) : eqL a4b x y = decide (x = y) := by
 by_cases h : x = y
 ·subst h
  rw [decide_eq_true rfl]
  refine a8I (k := x.length) rfl ?_ rfl
  rw [List.all_eq_true]
  intro i _
  simp [a4b]
 ·rw [decide_eq_false h]
  cases he : eqL a4b x y with
  | false => rfl
  | true =>
   exfalso
   apply h
   simp only [eqL, Bool.and_eq_true, decide_eq_true_eq, List.all_eq_true] at he
   have hl : x.length = y.length := by omega
   apply List.ext_getElem hl
   intro i h1 h2
   have := he.2 i (List.mem_range.2 h1)
   rw [a3N h1, a3N h2] at this
   simp only [a4b, decide_eq_true_eq] at this
   exact UInt8.toNat_inj.1 (by omega)
def a2R (l : List UInt8) : Nat := l.foldl (fun n x => n * 256 + x.toNat) 0
theorem b6s (l : List UInt8) (x : UInt8) : a2R (l ++ [x]) = a2R l * 256 + x.toNat := by simp [a2R]
theorem b6X {l : List UInt8} {k : Nat} (h : k < l.length) : l.take (k + 1) = l.take k ++ [l.getD (k : Int).toNat default] := by
 rw [List.take_add_one, List.getElem?_eq_getElem h, a3N h]; rfl
theorem c5X {l : List UInt8} {k : Nat} (h : k < l.length) : a2R (l.take (k + 1)) = a2R (l.take k) * 256 + (l.getD (k : Int).toNat default).toNat := by rw [b6X h, b6s]
theorem b5G (l : List UInt8) : a2R l < 256 ^ l.length := by
 have key : ∀ (n : Nat) (l : List UInt8), l.length = n → a2R l < 256 ^ n := by
  intro n
  induction n with
  | zero => intro l h; have : l = [] := List.eq_nil_of_length_eq_zero h; subst this; simp [a2R]
  | succ n ih =>
   intro l h
   have h1 := ih (l.take n) (by rw [c9j]; omega)
   have e : l = l.take n ++ [l.getD (n : Int).toNat default] := by rw [← b6X (by omega), List.take_of_length_le (by omega)]
   rw [e, b6s, Nat.pow_succ]
   have := (l.getD (n : Int).toNat default).toNat_lt
   omega
 exact key _ l rfl
theorem c1K {l : List UInt8} (h : l.length = 6) : be6 (a2R l) = l := by
 match l, h with
 | [a, b, c, d, e, f], _ =>
  have ha := a.toNat_lt; have hb := b.toNat_lt; have hc := c.toNat_lt; have hd := d.toNat_lt; have he := e.toNat_lt; have hf := f.toNat_lt
  have e1 : a2R [a, b, c, d, e, f] = ((((a.toNat * 256 + b.toNat) * 256 + c.toNat) * 256 + d.toNat) * 256 + e.toNat) * 256 + f.toNat := by simp [a2R]
  rw [e1]
  have r : List.range 6 = [0, 1, 2, 3, 4, 5] := rfl
  unfold be6
  rw [r]
  simp only [List.map_cons, List.map_nil, List.cons.injEq, and_true]
  refine ⟨?_, ?_, ?_, ?_, ?_, ?_⟩ <;> apply UInt8.toNat_inj.1 <;> simp <;> omega
def kOf (b : List UInt8) : a0K := if ((b.getD 0 default).toNat : Int) = 2 then (2, 0, a2h (b.drop 1)) else (((b.getD 0 default).toNat : Int), (a2R ((b.drop 1).take 6) : Int) - 1000000000000, a2h ((b.drop 1).drop 6))
def a3O (b : List UInt8) : a0K × Bool :=
 if b.length = 0 then ((0, 0, ByteArray.empty), false)
 else if ¬ ((b.getD 0 default).toNat : Int) = 2 ∧ b.length < 7 then ((0, 0, ByteArray.empty), false)
 else if a1a (kOf b) = true then (kOf b, true) else ((0, 0, ByteArray.empty), false)
theorem b8e {b : List UInt8} (h : b.length ≠ 0) : b.getD 0 default :: b.drop 1 = b := by
 match b, h with
 | x :: xs, _ => rfl
theorem b9D (x : UInt8) : UInt8.ofNat ((x.toNat : Int)).toNat = x := by rw [Int.toNat_natCast]; simp
theorem c7q {b : List UInt8} (h : b.length ≠ 0) (h7 : ((b.getD 0 default).toNat : Int) = 2 ∨ 7 ≤ b.length) : (a1z (kOf b) = b) ↔ a1a (kOf b) = true := by
 constructor
 ·intro e
  cases hk : a1a (kOf b) with
  | true => rfl
  | false => rw [a7j hk] at e; rw [← e] at h; simp at h
 ·intro hk
  by_cases h2 : ((b.getD 0 default).toNat : Int) = 2
  ·have e : kOf b = (((b.getD 0 default).toNat : Int), 0, a2h (b.drop 1)) := by rw [kOf, if_pos h2, h2]
   rw [e] at hk ⊢
   rw [b4g hk h2]
   simp only [b9D, b1w]
   exact b8e h
  ·have e : kOf b = (((b.getD 0 default).toNat : Int), (a2R ((b.drop 1).take 6) : Int) - 1000000000000, a2h ((b.drop 1).drop 6)) := by rw [kOf, if_neg h2]
   have h7' : 7 ≤ b.length := h7.resolve_left h2
   have hl : ((b.drop 1).take 6).length = 6 := by rw [c9j, List.length_drop]; omega
   rw [e] at hk ⊢
   rw [b2O (j := 6) hk h2 (Nat.le_refl _)]
   have e2 : keyN (((b.getD 0 default).toNat : Int), (a2R ((b.drop 1).take 6) : Int) - 1000000000000, a2h ((b.drop 1).drop 6)) = a2R ((b.drop 1).take 6) := by
    show ((a2R ((b.drop 1).take 6) : Int) - 1000000000000 + 1000000000000).toNat = _
    omega
   rw [e2, c1K hl, List.take_of_length_le (l := (b.drop 1).take 6) (i := 6) (by rw [hl]; exact Nat.le_refl _)]
   simp only [b9D, b1w]
   rw [List.cons_append, List.take_append_drop]
   exact b8e h
theorem b0V {b : List UInt8} (h : ((b.getD 0 default).toNat : Int) = 2) : (((b.getD (0 : Int).toNat default).toNat : Int), (0 : Int), a2h (b.drop 1)) = kOf b := by
 rw [kOf, if_pos h]
 show ((((b.getD 0 default).toNat : Int)), _, _) = _
 rw [h]
theorem b1g {b r : List UInt8} {acc : Nat} (h : ¬ ((b.getD 0 default).toNat : Int) = 2) (hf : acc = a2R ((b.drop (1 : Int).toNat).take (6 : Int).toNat)) (hr : r = (b.drop 1).drop 6) : (((b.getD (0 : Int).toNat default).toNat : Int), (acc : Int) - 1000000000000, a2h r) = kOf b := by
 subst hf; subst hr
 rw [kOf, if_neg h]; rfl
theorem b7e {b : List UInt8} (h : b.length = 0) : a3O b = ((0, 0, ByteArray.empty), false) := by rw [a3O, if_pos h]
theorem c5d {b : List UInt8} (h : ¬ ((b.getD 0 default).toNat : Int) = 2) (h7 : b.length < 7) : a3O b = ((0, 0, ByteArray.empty), false) := by
 unfold a3O
 split
 ·rfl
 ·rw [if_pos ⟨h, h7⟩]
theorem b2p {b : List UInt8} {k : a0K} (h : b.length ≠ 0) (h7 : ((b.getD 0 default).toNat : Int) = 2 ∨ 7 ≤ b.length) (hk : k = kOf b) (hi : a1a k = true) : a3O b = (k, true) := by
 subst hk
 rw [a3O, if_neg h, if_neg (by omega), if_pos hi]
theorem b6J {b : List UInt8} {k : a0K} (h : b.length ≠ 0) (h7 : ((b.getD 0 default).toNat : Int) = 2 ∨ 7 ≤ b.length) (hk : k = kOf b) (hi : a1a k = false) : a3O b = ((0, 0, ByteArray.empty), false) := by
 subst hk
 rw [a3O, if_neg h, if_neg (by omega), if_neg (by rw [hi]; simp)]
theorem b1I {b : List UInt8} {k : a0K} {c : Bool} (h : b.length ≠ 0) (h7 : ((b.getD 0 default).toNat : Int) = 2 ∨ 7 ≤ b.length) (hk : k = kOf b) (hc : (!eqL a4b (a1z k) b) = c) : a1a k = !c := by
 subst hk
 rw [a9K] at hc
 have := c7q h h7
 cases hi : a1a (kOf b) with
 | true => rw [hi] at this; rw [← hc, decide_eq_true (this.2 rfl)]; rfl
 | false => rw [hi] at this; rw [← hc, decide_eq_false (fun e => absurd (this.1 e) (by simp))]; rfl
theorem b9b (x : UInt8) : IntKind.i64.wrap ((x.toNat : Nat) : Int) = ((x.toNat : Nat) : Int) := by
 have := x.toNat_lt
 rw [IntKind.wrap_i64]; omega
theorem c2U {l : List UInt8} {k : Nat} (h : k < 6) : a2R (l.take k) < 1099511627776 := by
 have h1 := b5G (l.take k)
 have h2 : 256 ^ (l.take k).length ≤ 256 ^ 5 := Nat.pow_le_pow_right (by omega) (by rw [c9j]; omega)
 omega
theorem c5L {a : Nat} (h : a < 1099511627776) : IntKind.i64.wrap ((a : Int) * ((2 ^ (8 : Int).toNat : Nat) : Int)) = (a : Int) * 256 := by
 rw [show ((2 ^ (8 : Int).toNat : Nat) : Int) = 256 from rfl, IntKind.wrap_i64]; omega
theorem c6X {b : List UInt8} (hb : b.length ≤ 16777216) : PFn Tryz.prog 60 [.one (.dv [] (a0m (b)))] (.tup [(true, [(.dv [] (.int .i64 ((a3O b).1.1))), (.dv [] (.int .i64 ((a3O b).1.2.1))), (.dv [] (.str ((a3O b).1.2.2)))]), (false, [(.dv [] (.bool ((a3O b).2)))])]) := by
 refine ⟨a0O Tryz.func60 rfl Tryz.ntmps60 Tryz.results60 rfl (fun C => ?_)⟩
 refine a1k (x := .tmp 0) (a0a rfl) fun f0 => ?_
 iterate 10 refine z ?_
 refine yQ rfl (fun c1 => ?_) fun c1 => ?_
 ·have d1 := c9f c1
  refine z ?_
  refine yO rfl rfl (a1v hT hB rfl rfl rfl a1w) rfl ?_
  iterate 5 refine z ?_
  refine a1u (a0E hT rfl rfl rfl rfl) (a0l rfl) rfl rfl ?_
  rw [b7e (by omega)]
  rfl
 ·have d1 := c9g c1
  have hne : b.length ≠ 0 := by omega
  have hdl : (b.drop (1 : Int).toNat).length = b.length - 1 := List.length_drop ..
  iterate 6 refine z ?_
  refine yO rfl rfl (a3E (a6X hT rfl rfl rfl (a0a rfl)) (b9b _)) rfl ?_
  refine yO rfl rfl (a1v hT hB rfl rfl rfl (a1c (a0a rfl) rfl rfl rfl rfl rfl a1w)) rfl ?_
  iterate 5 refine z ?_
  refine yO rfl rfl (b3q hT rfl rfl rfl (a0a rfl) (a0i (a0j rfl)) (fun _ => rfl) (by omega) (by omega)) rfl ?_
  iterate 8 refine z ?_
  refine yQ rfl (fun c2 => ?_) fun c2 => ?_
  ·have d2 := a5V c2
   iterate 6 refine z ?_
   refine yQ rfl (fun c3 => ?_) fun c3 => ?_
   ·have d3 := c9f c3
    refine z ?_
    refine yO rfl rfl (a1v hT hB rfl rfl rfl a1w) rfl ?_
    iterate 6 refine z ?_
    refine a1u (a0E hT rfl rfl rfl rfl) (a0l rfl) rfl rfl ?_
    rw [c5d (show ¬ ((b.getD 0 default).toNat : Int) = 2 from d2) (by omega)]
    rfl
   ·have d3 := c9g c3
    have hxl : ((b.drop (1 : Int).toNat).take (6 : Int).toNat).length = 6 := by rw [c9j]; show min 6 (b.drop 1).length = 6; rw [List.length_drop]; omega
    iterate 8 refine z ?_
    refine yO rfl rfl (b1z hT rfl rfl rfl (a0a rfl) (a0i (a0j rfl)) (fun _ => rfl) (by omega) (by omega)) rfl ?_
    iterate 4 refine z ?_
    refine a1o (ι := Nat × Nat) (fun zz => ⟨[(0, .one (.dv [] (a0m (b)))), (2, .box 2 0), (3, .one (.dv [] (.bool (false)))), (4, .box 4 0), (5, .one (.dv [] (a0m (((b)).drop ((1 : Int)).toNat)))), (6, .one (.dv [] (.int .i64 ((zz.2 : Int))))), (28, .one (.dv [] (a0m (((((b)).drop ((1 : Int)).toNat)).take ((6 : Int)).toNat)))), (29, .one (.dv [] (.int .i64 ((((((((b)).drop ((1 : Int)).toNat)).take ((6 : Int)).toNat)).length : Int))))), (30, .one (.dv [] (.int .i64 ((zz.1 : Int)))))], [(2, 60, [(.dv [] (.int .i64 (0))), (.dv [] (.int .i64 (0))), (.dv [] (.str (ByteArray.empty)))]), (4, 60, [(.dv [] (.int .i64 (((b.getD (0 : Int).toNat default).toNat : Int)))), (.dv [] (.int .i64 (0))), (.dv [] (.str (ByteArray.empty)))])], []⟩) (fun zz => zz.1 ≤ 6 ∧ zz.2 = a2R (((b.drop (1 : Int).toNat).take (6 : Int).toNat).take zz.1)) (fun zz => 6 - zz.1) ((0, 0)) ?_ (a0e ⟨rfl, rfl, rfl, rfl, rfl, rfl, rfl, rfl, rfl, trivial⟩ ⟨rfl, rfl, trivial⟩ trivial rfl) (fun zz hx => ?_)
    ·exact ⟨Nat.zero_le _, rfl⟩
    obtain ⟨k, acc⟩ := zz
    replace hx : k ≤ 6 ∧ acc = a2R (((b.drop (1 : Int).toNat).take (6 : Int).toNat).take k) := hx
    obtain ⟨hk, ha⟩ := hx
    show Ok _ _ _ _ _ (⟨[(0, .one (.dv [] (a0m (b)))), (2, .box 2 0), (3, .one (.dv [] (.bool (false)))), (4, .box 4 0), (5, .one (.dv [] (a0m (((b)).drop ((1 : Int)).toNat)))), (6, .one (.dv [] (.int .i64 ((acc : Int))))), (28, .one (.dv [] (a0m (((((b)).drop ((1 : Int)).toNat)).take ((6 : Int)).toNat)))), (29, .one (.dv [] (.int .i64 ((((((((b)).drop ((1 : Int)).toNat)).take ((6 : Int)).toNat)).length : Int))))), (30, .one (.dv [] (.int .i64 ((k : Int)))))], [(2, 60, [(.dv [] (.int .i64 (0))), (.dv [] (.int .i64 (0))), (.dv [] (.str (ByteArray.empty)))]), (4, 60, [(.dv [] (.int .i64 (((b.getD (0 : Int).toNat default).toNat : Int)))), (.dv [] (.int .i64 (0))), (.dv [] (.str (ByteArray.empty)))])], []⟩ : St)
    iterate 3 refine z ?_
    refine a0u ?_
    refine yQ rfl (fun c4 => ?_) fun c4 => ?_
    ·have d4 := c9f c4
     have hk6 : k < 6 := by omega
     have hac : acc < 1099511627776 := by rw [ha]; exact c2U hk6
     have hst := c5X (l := ((b.drop (1 : Int).toNat).take (6 : Int).toNat)) (k := k) (by omega)
     rw [← ha] at hst
     have hxb := (((b.drop (1 : Int).toNat).take (6 : Int).toNat).getD (k : Int).toNat default).toNat_lt
     iterate 9 refine z ?_
     refine a0n ?_
     refine z ?_
     refine yO rfl rfl (a3E (c3S rfl (a0a rfl) (a0i (a0j rfl)) (by omega) (by show _ ≤ 64; omega)) (c5L hac)) rfl ?_
     refine z ?_
     refine yO rfl rfl (a3E (a6X hT rfl rfl rfl (a0a rfl)) (b9b _)) rfl ?_
     iterate 2 refine z ?_
     refine a1H ?_
     iterate 2 refine z ?_
     refine a0n ?_
     iterate 3 refine z ?_
     refine ⟨(k + 1, a2R (((b.drop (1 : Int).toNat).take (6 : Int).toNat).take (k + 1))), ?_, ?_, a0e ⟨rfl, rfl, rfl, rfl, rfl, (a8p (by omega)), rfl, rfl, rfl, trivial⟩ ⟨rfl, rfl, trivial⟩ trivial rfl⟩
     ·exact ⟨by dsimp only; omega, rfl⟩
     ·dsimp only; omega
    ·have d4 := c9g c4
     have hke : k = 6 := by omega
     have hfin : acc = a2R ((b.drop (1 : Int).toNat).take (6 : Int).toNat) := by rw [ha, List.take_of_length_le (by omega)]
     have hfb := b5G ((b.drop (1 : Int).toNat).take (6 : Int).toNat)
     rw [hxl, ← hfin] at hfb
     iterate 11 refine z ?_
     refine a0n ?_
     refine z ?_
     refine yO rfl rfl (b3q hT rfl rfl rfl (a0a rfl) (a0i (a0j rfl)) (fun _ => rfl) (by omega) (by omega)) rfl ?_
     iterate 4 refine z ?_
     refine yO rfl rfl (a9O hT rfl rfl rfl rfl (a0a rfl)) rfl ?_
     iterate 6 refine z ?_
     refine zK 49000 Tryz.call45 ?_ (hf := a6q (k := (((b.getD (0 : Int).toNat default).toNat : Int), (acc : Int) - 1000000000000, a2h ((b.drop 1).drop 6))))
     refine z ?_
     refine a3T rfl rfl rfl Tryz.call62 (b2g (x := a1z ((((b.getD (0 : Int).toNat default).toNat : Int), (((acc : Int)) - (1000000000000), a2h ((((((b)).drop ((1 : Int)).toNat)).drop ((6 : Int)).toNat)))))) (y := b) ) (a0g (a0a rfl) (a0C (a0X rfl rfl)) (a0g (a0a rfl) (a0C a0c) a0q)) rfl rfl ?_
     iterate 2 refine z ?_
     refine yQ rfl (fun c5 => ?_) fun c5 => ?_
     ·refine z ?_
      refine yO rfl rfl (a1v hT hB rfl rfl rfl a1w) rfl ?_
      iterate 5 refine z ?_
      refine a1u (a0E hT rfl rfl rfl rfl) (a0l rfl) rfl rfl ?_
      rw [b6J (k := (((b.getD (0 : Int).toNat default).toNat : Int), (acc : Int) - 1000000000000, a2h ((b.drop 1).drop 6))) hne (.inr (by omega)) (b1g d2 hfin (by first | rfl | (rw [List.drop_drop]; rfl) | (rw [List.drop_drop]))) (b1I hne (.inr (by omega)) (b1g d2 hfin (by first | rfl | (rw [List.drop_drop]; rfl) | (rw [List.drop_drop]))) c5)]
      rfl
     ·iterate 8 refine z ?_
      refine a1u (a0E hT rfl rfl rfl rfl) (a0l rfl) rfl rfl ?_
      rw [b2p (k := (((b.getD (0 : Int).toNat default).toNat : Int), (acc : Int) - 1000000000000, a2h ((b.drop 1).drop 6))) hne (.inr (by omega)) (b1g d2 hfin (by first | rfl | (rw [List.drop_drop]; rfl) | (rw [List.drop_drop]))) (b1I hne (.inr (by omega)) (b1g d2 hfin (by first | rfl | (rw [List.drop_drop]; rfl) | (rw [List.drop_drop]))) c5)]
      rfl
  ·have d2 := a5T c2
   iterate 4 refine z ?_
   refine yO rfl rfl (a9O hT rfl rfl rfl rfl (a0a rfl)) rfl ?_
   iterate 6 refine z ?_
   refine zK 50000 Tryz.call45 ?_ (hf := a6q (k := (((b.getD (0 : Int).toNat default).toNat : Int), (0 : Int), a2h (b.drop 1))))
   refine z ?_
   refine a3T rfl rfl rfl Tryz.call62 (b2g (x := a1z ((((b.getD (0 : Int).toNat default).toNat : Int), (0, a2h ((((b)).drop ((1 : Int)).toNat)))))) (y := b) ) (a0g (a0a rfl) (a0C (a0X rfl rfl)) (a0g (a0a rfl) (a0C a0c) a0q)) rfl rfl ?_
   iterate 2 refine z ?_
   refine yQ rfl (fun c6 => ?_) fun c6 => ?_
   ·refine z ?_
    refine yO rfl rfl (a1v hT hB rfl rfl rfl a1w) rfl ?_
    iterate 5 refine z ?_
    refine a1u (a0E hT rfl rfl rfl rfl) (a0l rfl) rfl rfl ?_
    have d2' : ((b.getD 0 default).toNat : Int) = 2 := by
     have h8 := c2
     rw [Bool.not_eq_false'] at h8
     exact c9f h8
    rw [b6J (k := (((b.getD (0 : Int).toNat default).toNat : Int), (0 : Int), a2h (b.drop 1))) hne (.inl d2') (b0V d2') (b1I hne (.inl d2') (b0V d2') c6)]
    rfl
   ·iterate 8 refine z ?_
    refine a1u (a0E hT rfl rfl rfl rfl) (a0l rfl) rfl rfl ?_
    have d2' : ((b.getD 0 default).toNat : Int) = 2 := by
     have h8 := c2
     rw [Bool.not_eq_false'] at h8
     exact c9f h8
    rw [b2p (k := (((b.getD (0 : Int).toNat default).toNat : Int), (0 : Int), a2h (b.drop 1))) hne (.inl d2') (b0V d2') (b1I hne (.inl d2') (b0V d2') c6)]
    rfl
end Go.Proofs.YtkhldpbfkagdhaaGreat
