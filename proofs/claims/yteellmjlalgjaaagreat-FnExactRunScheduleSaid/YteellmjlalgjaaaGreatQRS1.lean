/-
  Contracts of the program's functions for the statements RunSchedule, by the rules of the logic. Conditions: none but those in the theorems.
-/
import Derived.Test.YteellmjlalgjaaaGreatU3
set_option maxHeartbeats 4000000
set_option maxRecDepth 100000
namespace Go.Proofs.YteellmjlalgjaaaGreat
open Go.RowKit
open Go.Proofs
set_option linter.unusedVariables false
set_option linter.unusedSimpArgs false
theorem a5k {n lo hi : Int}  : PFn Tryz.prog 69 [.one (.dv [] (.int .i64 (n))), .one (.dv [] (.int .i64 (lo))), .one (.dv [] (.int .i64 (hi)))] (.one (.dv [] (.bool (decide (lo ≤ n) && decide (n ≤ hi))))) := by
 refine ⟨a0u Tryz.func69 rfl Tryz.ntmps69 Tryz.results69 rfl (fun C => ?_)⟩
 refine a0G (x := .tmp 0) (a0a rfl) fun f0 => ?_
 refine a0G (x := .tmp 1) (a0a rfl) fun f1 => ?_
 refine a0G (x := .tmp 2) (a0a rfl) fun f2 => ?_
 iterate 16 refine z ?_
 rfl
theorem a3Y {n lo hi : Int}  : PFn Tryz.prog 58 [.one (.dv [] (.int .i64 (n))), .one (.dv [] (.int .i64 (lo))), .one (.dv [] (.int .i64 (hi)))] (.one (.dv [] (.bool (decide (lo ≤ n) && decide (n ≤ hi))))) := by
 refine ⟨a0u Tryz.func58 rfl Tryz.ntmps58 Tryz.results58 rfl (fun C => ?_)⟩
 refine a0G (x := .tmp 0) (a0a rfl) fun f0 => ?_
 refine a0G (x := .tmp 1) (a0a rfl) fun f1 => ?_
 refine a0G (x := .tmp 2) (a0a rfl) fun f2 => ?_
 iterate 16 refine z ?_
 rfl
theorem b0D {α : Type} {p : α → Bool} {l : List α} {k : Nat} {d : α} (h : (l.take k).all p = true) (hk : k < l.length) (hp : p (l.getD k d) = true) : (l.take (k + 1)).all p = true := by
 rw [List.take_succ_eq_append_getElem hk, List.all_append, h]
 simp only [List.all_cons, List.all_nil, Bool.and_true, Bool.true_and]
 simpa [List.getD, List.getElem?_eq_getElem hk] using hp
theorem b1k {α : Type} {p : α → Bool} {l : List α} {k : Nat} {d : α} (hk : k < l.length) (hp : p (l.getD k d) = false) : l.all p = false := by
 rw [List.all_eq_false]
 refine ⟨l[k], List.getElem_mem hk, ?_⟩
 simpa [List.getD, List.getElem?_eq_getElem hk] using hp
theorem b1o {α : Type} {p : α → Bool} {l : List α} {k : Nat} (h : (l.take k).all p = true) (hk : l.length ≤ k) : l.all p = true := by rwa [List.take_of_length_le hk] at h
theorem a4Q (s : ByteArray) : s.data.toList.length = s.size := rfl
def kch (b : UInt8) : Bool := (decide ((97 : Int) ≤ (b.toNat : Int)) && decide ((b.toNat : Int) ≤ 122)) || (decide ((48 : Int) ≤ (b.toNat : Int)) && decide ((b.toNat : Int) ≤ 57))
def a6z (s : Str) : Bool := s.data.toList.all kch && decide ((s.size : Int) ≤ 12)
def wch (sl : Bool) (b : UInt8) : Bool := (decide ((97 : Int) ≤ (b.toNat : Int)) && decide ((b.toNat : Int) ≤ 122)) || (sl && decide ((b.toNat : Int) = 47))
theorem b3I (b : UInt8) : ((decide ((b.toNat : Int) < 97) || decide ((122 : Int) < (b.toNat : Int))) && (decide ((b.toNat : Int) < 48) || decide ((57 : Int) < (b.toNat : Int)))) = !kch b := by
 unfold kch
 generalize (b.toNat : Int) = z
 by_cases h1 : z < 97 <;> by_cases h2 : 122 < z <;> by_cases h3 : z < 48 <;> by_cases h4 : 57 < z <;> simp [h1, h2, h3, h4] <;> omega
theorem c1Y {s : Str}  : PFn Tryz.prog 132 [.one (.dv [] (.str (s)))] (.one (.dv [] (.bool (a6z s)))) := by
 refine ⟨a0u Tryz.func132 rfl Tryz.ntmps132 Tryz.results132 rfl (fun C => ?_)⟩
 refine a0G (x := .tmp 0) (a0a rfl) fun f0 => ?_
 iterate 8 refine z ?_
 refine a0W (ι := Nat) (fun zz => ⟨[(0, .one (.dv [] (.str (s)))), (3, .one (.dv [] (.int .i64 ((zz : Int)))))], [], []⟩) (fun zz => zz ≤ s.size ∧ (s.data.toList.take zz).all kch = true) (fun zz => s.size - zz) (0) ?_ (a0e ⟨rfl, rfl, trivial⟩ trivial trivial rfl) (fun zz hx => ?_)
 ·exact ⟨Nat.zero_le _, rfl⟩
 obtain ⟨k, rfl⟩ : ∃ v, v = zz := ⟨_, rfl⟩
 replace hx : k ≤ s.size ∧ (s.data.toList.take k).all kch = true := hx
 obtain ⟨hk, hall⟩ := hx
 show Ok _ _ _ _ _ (⟨[(0, .one (.dv [] (.str (s)))), (3, .one (.dv [] (.int .i64 ((k : Int)))))], [], []⟩ : St)
 iterate 7 refine z ?_
 refine yQ rfl (fun c1 => ?_) fun c1 => ?_
 ·have d1 := c5p c1
  iterate 29 refine z ?_
  refine yQ rfl (fun c2 => ?_) fun c2 => ?_
  ·iterate 10 refine z ?_
   rw [a6z, b1k (k := k) (d := 0) (by rw [a4Q]; omega) (by have h : (!kch (s.data.toList.getD k 0)) = true := c2; simpa using h)]; rfl
  ·iterate 3 refine z ?_
   refine a0j ?_
   iterate 4 refine z ?_
   refine ⟨k + 1, ?_, ?_, a0e ⟨rfl, rfl, trivial⟩ trivial trivial rfl⟩
   ·exact ⟨by omega, b0D (d := 0) hall (by rw [a4Q]; omega) (by have h : (!kch (s.data.toList.getD k 0)) = false := c2; simpa using h)⟩
   ·omega
 ·have d1 := c5q c1
  iterate 13 refine z ?_
  rw [a6z, b1o hall (by rw [a4Q]; omega)]; rfl
theorem b9c {s : Str}  : PFn Tryz.prog 121 [.one (.dv [] (.str (s)))] (.one (.dv [] (.bool (a6z s)))) := by
 refine ⟨a0u Tryz.func121 rfl Tryz.ntmps121 Tryz.results121 rfl (fun C => ?_)⟩
 refine a0G (x := .tmp 0) (a0a rfl) fun f0 => ?_
 iterate 8 refine z ?_
 refine a0W (ι := Nat) (fun zz => ⟨[(0, .one (.dv [] (.str (s)))), (3, .one (.dv [] (.int .i64 ((zz : Int)))))], [], []⟩) (fun zz => zz ≤ s.size ∧ (s.data.toList.take zz).all kch = true) (fun zz => s.size - zz) (0) ?_ (a0e ⟨rfl, rfl, trivial⟩ trivial trivial rfl) (fun zz hx => ?_)
 ·exact ⟨Nat.zero_le _, rfl⟩
 obtain ⟨k, rfl⟩ : ∃ v, v = zz := ⟨_, rfl⟩
 replace hx : k ≤ s.size ∧ (s.data.toList.take k).all kch = true := hx
 obtain ⟨hk, hall⟩ := hx
 show Ok _ _ _ _ _ (⟨[(0, .one (.dv [] (.str (s)))), (3, .one (.dv [] (.int .i64 ((k : Int)))))], [], []⟩ : St)
 iterate 7 refine z ?_
 refine yQ rfl (fun c1 => ?_) fun c1 => ?_
 ·have d1 := c5p c1
  iterate 28 refine z ?_
  refine yQ rfl (fun c2 => ?_) fun c2 => ?_
  ·iterate 10 refine z ?_
   rw [a6z, b1k (k := k) (d := 0) (by rw [a4Q]; omega) (by have h := (b3I (s.data.toList.getD k 0)).symm.trans c2; simpa using h)]; rfl
  ·iterate 3 refine z ?_
   refine a0j ?_
   iterate 4 refine z ?_
   refine ⟨k + 1, ?_, ?_, a0e ⟨rfl, rfl, trivial⟩ trivial trivial rfl⟩
   ·exact ⟨by omega, b0D (d := 0) hall (by rw [a4Q]; omega) (by have h := (b3I (s.data.toList.getD k 0)).symm.trans c2; simpa using h)⟩
   ·omega
 ·have d1 := c5q c1
  iterate 13 refine z ?_
  rw [a6z, b1o hall (by rw [a4Q]; omega)]; rfl
def a1H (k : a1g) : Bool := (decide (1 ≤ k.1) && decide (k.1 ≤ 3)) && (decide (-1000000000000 ≤ k.2.1) && decide (k.2.1 ≤ 1000000000000)) && a6z k.2.2 && !(decide (k.1 = 2) && !decide (k.2.1 = 0)) && !(decide (k.1 = 1) && !sEq k.2.2 (ByteArray.mk #[]))
def a3l (s : Str) : Bool := s.data.toList.all (wch false) && (decide (1 ≤ (s.size : Int)) && decide ((s.size : Int) ≤ 8))
theorem b7y (b : UInt8) : (decide ((b.toNat : Int) < 97) || decide ((122 : Int) < (b.toNat : Int))) = !wch false b := by
 unfold wch
 generalize (b.toNat : Int) = z
 by_cases h1 : z < 97 <;> by_cases h2 : 122 < z <;> simp [h1, h2] <;> omega
theorem a6C {k : a1g}  : PFn Tryz.prog 102 [.agg [(.dv [] (.int .i64 (k.1))), (.dv [] (.int .i64 (k.2.1))), (.dv [] (.str (k.2.2)))]] (.one (.dv [] (.bool (a1H k)))) := by
 refine ⟨a0u Tryz.func102 rfl Tryz.ntmps102 Tryz.results102 rfl (fun C => ?_)⟩
 refine yF 0 0 rfl rfl fun f0_0 => ?_
 refine yF 0 1 rfl rfl fun f0_1 => ?_
 refine yF 0 2 rfl rfl fun f0_2 => ?_
 iterate 8 refine z ?_
 refine zC Tryz.call69 ?_ (hf := a5k)
 iterate 4 refine z ?_
 refine a1t (a1l rfl rfl rfl rfl rfl) rfl rfl Tryz.call69 a5k (fun hg => (a0f (a0x rfl hg) (a0H a0b) (a0f (a0y (a0w rfl)) (a0H a0b) (a0f (a0y (a0w rfl)) (a0H a0b) a0n)))) rfl rfl ?_
 iterate 5 refine z ?_
 refine a1t (a1l rfl rfl rfl rfl rfl) rfl rfl Tryz.call132 c1Y (fun hg => (a0f (a0x rfl hg) (a0H a0b) a0n)) rfl rfl ?_
 iterate 3 refine z ?_
 refine yQ rfl (fun c1 => ?_) fun c1 => ?_
 ·iterate 6 refine z ?_
  grind [a1H]
 ·iterate 27 refine z ?_
  grind [a1H]
theorem a6Y {k : a1g}  : PFn Tryz.prog 89 [.agg [(.dv [] (.int .i64 (k.1))), (.dv [] (.int .i64 (k.2.1))), (.dv [] (.str (k.2.2)))]] (.one (.dv [] (.bool (a1H k)))) := by
 refine ⟨a0u Tryz.func89 rfl Tryz.ntmps89 Tryz.results89 rfl (fun C => ?_)⟩
 refine yF 0 0 rfl rfl fun f0_0 => ?_
 refine yF 0 1 rfl rfl fun f0_1 => ?_
 refine yF 0 2 rfl rfl fun f0_2 => ?_
 iterate 7 refine z ?_
 refine zC Tryz.call58 ?_ (hf := a3Y)
 iterate 3 refine z ?_
 refine a1t (a1l rfl rfl rfl rfl rfl) rfl rfl Tryz.call58 a3Y (fun hg => (a0f (a0x rfl hg) (a0H a0b) (a0f (a0y (a0w rfl)) (a0H a0b) (a0f (a0y (a0w rfl)) (a0H a0b) a0n)))) rfl rfl ?_
 iterate 14 refine z ?_
 refine a1t (a1l rfl rfl rfl rfl rfl) rfl rfl Tryz.call121 b9c (fun hg => (a0f (a0x rfl hg) (a0H a0b) a0n)) rfl rfl ?_
 iterate 15 refine z ?_
 grind [a1H]
theorem b9R {s : Str} {m : Int} {sl : Bool}  : PFn Tryz.prog 101 [.one (.dv [] (.str (s))), .one (.dv [] (.int .i64 (m))), .one (.dv [] (.bool (sl)))] (.one (.dv [] (.bool (s.data.toList.all (wch sl) && (decide (1 ≤ (s.size : Int)) && decide ((s.size : Int) ≤ m)))))) := by
 refine ⟨a0u Tryz.func101 rfl Tryz.ntmps101 Tryz.results101 rfl (fun C => ?_)⟩
 refine a0G (x := .tmp 0) (a0a rfl) fun f0 => ?_
 refine a0G (x := .tmp 1) (a0a rfl) fun f1 => ?_
 iterate 8 refine z ?_
 refine a0W (ι := Nat) (fun zz => ⟨[(0, .one (.dv [] (.str (s)))), (1, .one (.dv [] (.int .i64 (m)))), (2, .one (.dv [] (.bool (sl)))), (7, .one (.dv [] (.int .i64 ((zz : Int)))))], [], []⟩) (fun zz => zz ≤ s.size ∧ (s.data.toList.take zz).all (wch sl) = true) (fun zz => s.size - zz) (0) ?_ (a0e ⟨rfl, rfl, rfl, rfl, trivial⟩ trivial trivial rfl) (fun zz hx => ?_)
 ·exact ⟨Nat.zero_le _, rfl⟩
 obtain ⟨k, rfl⟩ : ∃ v, v = zz := ⟨_, rfl⟩
 replace hx : k ≤ s.size ∧ (s.data.toList.take k).all (wch sl) = true := hx
 obtain ⟨hk, hall⟩ := hx
 show Ok _ _ _ _ _ (⟨[(0, .one (.dv [] (.str (s)))), (1, .one (.dv [] (.int .i64 (m)))), (2, .one (.dv [] (.bool (sl)))), (7, .one (.dv [] (.int .i64 ((k : Int)))))], [], []⟩ : St)
 iterate 7 refine z ?_
 refine yQ rfl (fun c1 => ?_) fun c1 => ?_
 ·have d1 := c5p c1
  iterate 26 refine z ?_
  refine yQ rfl (fun c2 => ?_) fun c2 => ?_
  ·iterate 10 refine z ?_
   rw [b1k (k := k) (d := 0) (by rw [a4Q]; omega) (by have h : (!wch sl (s.data.toList.getD k 0)) = true := c2; simpa using h)]; rfl
  ·iterate 3 refine z ?_
   refine a0j ?_
   iterate 4 refine z ?_
   refine ⟨k + 1, ?_, ?_, a0e ⟨rfl, rfl, rfl, rfl, trivial⟩ trivial trivial rfl⟩
   ·exact ⟨by omega, b0D (d := 0) hall (by rw [a4Q]; omega) (by have h : (!wch sl (s.data.toList.getD k 0)) = false := c2; simpa using h)⟩
   ·omega
 ·have d1 := c5q c1
  iterate 9 refine z ?_
  refine zC Tryz.call69 ?_ (hf := a5k)
  iterate 4 refine z ?_
  rw [b1o hall (by rw [a4Q]; omega)]; rfl
theorem a8x {s : Str}  : PFn Tryz.prog 68 [.one (.dv [] (.str (s)))] (.one (.dv [] (.bool (a3l s)))) := by
 refine ⟨a0u Tryz.func68 rfl Tryz.ntmps68 Tryz.results68 rfl (fun C => ?_)⟩
 refine a0G (x := .tmp 0) (a0a rfl) fun f0 => ?_
 iterate 5 refine z ?_
 refine zC Tryz.call101 ?_ (hf := b9R)
 iterate 4 refine z ?_
 rfl
theorem a7U {s : Str}  : PFn Tryz.prog 56 [.one (.dv [] (.str (s)))] (.one (.dv [] (.bool (a3l s)))) := by
 refine ⟨a0u Tryz.func56 rfl Tryz.ntmps56 Tryz.results56 rfl (fun C => ?_)⟩
 refine a0G (x := .tmp 0) (a0a rfl) fun f0 => ?_
 iterate 8 refine z ?_
 refine a0W (ι := Nat) (fun zz => ⟨[(0, .one (.dv [] (.str (s)))), (3, .one (.dv [] (.int .i64 ((zz : Int)))))], [], []⟩) (fun zz => zz ≤ s.size ∧ (s.data.toList.take zz).all (wch false) = true) (fun zz => s.size - zz) (0) ?_ (a0e ⟨rfl, rfl, trivial⟩ trivial trivial rfl) (fun zz hx => ?_)
 ·exact ⟨Nat.zero_le _, rfl⟩
 obtain ⟨k, rfl⟩ : ∃ v, v = zz := ⟨_, rfl⟩
 replace hx : k ≤ s.size ∧ (s.data.toList.take k).all (wch false) = true := hx
 obtain ⟨hk, hall⟩ := hx
 show Ok _ _ _ _ _ (⟨[(0, .one (.dv [] (.str (s)))), (3, .one (.dv [] (.int .i64 ((k : Int)))))], [], []⟩ : St)
 iterate 7 refine z ?_
 refine yQ rfl (fun c1 => ?_) fun c1 => ?_
 ·have d1 := c5p c1
  iterate 16 refine z ?_
  refine yQ rfl (fun c2 => ?_) fun c2 => ?_
  ·iterate 10 refine z ?_
   rw [a3l, b1k (k := k) (d := 0) (by rw [a4Q]; omega) (by have h := (b7y (s.data.toList.getD k 0)).symm.trans c2; simpa using h)]; rfl
  ·iterate 3 refine z ?_
   refine a0j ?_
   iterate 4 refine z ?_
   refine ⟨k + 1, ?_, ?_, a0e ⟨rfl, rfl, trivial⟩ trivial trivial rfl⟩
   ·exact ⟨by omega, b0D (d := 0) hall (by rw [a4Q]; omega) (by have h := (b7y (s.data.toList.getD k 0)).symm.trans c2; simpa using h)⟩
   ·omega
 ·have d1 := c5q c1
  iterate 8 refine z ?_
  refine zC Tryz.call58 ?_ (hf := a3Y)
  iterate 4 refine z ?_
  rw [a3l, b1o hall (by rw [a4Q]; omega)]; rfl
theorem b3e : ∀ (x y : List UInt8), (Op.bytesLess x y || (x == y)) = !Op.bytesLess y x
 | [], [] => rfl
 | [], _ :: _ => rfl
 | _ :: _, [] => rfl
 | a :: x, b :: y => by
  have ih := b3e x y
  simp only [Op.bytesLess]
  rcases Nat.lt_trichotomy a.toNat b.toNat with h | h | h
  ·have h1 : a < b := h
   have h2 : ¬ b < a := by intro h'; have : b.toNat < a.toNat := h'; omega
   have h3 : ¬ a = b := by rintro rfl; omega
   have h4 : ¬ b = a := fun e => h3 e.symm
   simp [h1, h2, h3, h4]
  ·have e : a = b := UInt8.toNat_inj.1 h
   subst e
   simpa using ih
  ·have h1 : b < a := h
   have h2 : ¬ a < b := by intro h'; have : a.toNat < b.toNat := h'; omega
   have h3 : ¬ a = b := by rintro rfl; omega
   have h4 : ¬ b = a := fun e => h3 e.symm
   simp [h1, h2, h3, h4]
theorem a7e (a b : Str) : (sLt a b || sEq a b) = !sLt b a := b3e _ _
theorem a6u {p : Nat → Bool} {k : Nat} (h : (List.range k).all p = true) (hp : p k = true) : (List.range (k + 1)).all p = true := by
 rw [List.range_succ, List.all_append, h]; simpa using hp
theorem a8m {p : Nat → Bool} {k n : Nat} (hk : k < n) (hp : p k = false) : (List.range n).all p = false := by
 rw [List.all_eq_false]; exact ⟨k, List.mem_range.2 hk, by simpa using hp⟩
def a4P (r : a0J) (i : Nat) : Bool := (!a3l (r.getD (i : Int).toNat default).1 || !(decide ((0 : Int) ≤ (r.getD (i : Int).toNat default).2) && decide ((r.getD (i : Int).toNat default).2 ≤ 1000000000))) ||
 (decide ((0 : Int) < (i : Int)) && (sLt (r.getD (i : Int).toNat default).1 (r.getD ((i : Int) - 1).toNat default).1 || sEq (r.getD (i : Int).toNat default).1 (r.getD ((i : Int) - 1).toNat default).1))
def a1C (r : a0J) : Bool := (List.range r.length).all (fun i => !a4P r i) && decide ((r.length : Int) ≤ 6)
def b0k (r : a0J) (i : Nat) : Bool := (!a3l (r.getD (i : Int).toNat default).1 || !(decide ((0 : Int) ≤ (r.getD (i : Int).toNat default).2) && decide ((r.getD (i : Int).toNat default).2 ≤ 1000000000))) ||
 (decide ((0 : Int) < (i : Int)) && !sLt (r.getD ((i : Int) - 1).toNat default).1 (r.getD (i : Int).toNat default).1)
theorem b4V (r : a0J) (i : Nat) : b0k r i = a4P r i := by unfold b0k a4P; rw [a7e]
theorem a8M {r : a0J}  : PFn Tryz.prog 103 [.agg [(.dv [] (a0z (r)))]] (.one (.dv [] (.bool (a1C r)))) := by
 refine ⟨a0u Tryz.func103 rfl Tryz.ntmps103 Tryz.results103 rfl (fun C => ?_)⟩
 refine yF 0 0 rfl rfl fun f0_0 => ?_
 iterate 12 refine z ?_
 refine a0W (ι := Nat) (fun zz => ⟨[(1, .box 1 0), (6, .one (.dv [] (a0z (r)))), (7, .one (.dv [] (.int .i64 ((((r)).length : Int))))), (8, .one (.dv [] (.int .i64 ((zz : Int)))))], [(1, 109, [(.dv [] (a0z (r)))])], []⟩) (fun zz => zz ≤ r.length ∧ (List.range zz).all (fun i => !a4P r i) = true) (fun zz => r.length - zz) (0) ?_ (a0e ⟨rfl, rfl, rfl, rfl, trivial⟩ ⟨rfl, trivial⟩ trivial rfl) (fun zz hx => ?_)
 ·exact ⟨Nat.zero_le _, rfl⟩
 obtain ⟨k, rfl⟩ : ∃ v, v = zz := ⟨_, rfl⟩
 replace hx : k ≤ r.length ∧ (List.range k).all (fun i => !a4P r i) = true := hx
 obtain ⟨hk, hall⟩ := hx
 show Ok _ _ _ _ _ (⟨[(1, .box 1 0), (6, .one (.dv [] (a0z (r)))), (7, .one (.dv [] (.int .i64 ((((r)).length : Int))))), (8, .one (.dv [] (.int .i64 ((k : Int)))))], [(1, 109, [(.dv [] (a0z (r)))])], []⟩ : St)
 iterate 3 refine z ?_
 refine a0p ?_
 refine yQ rfl (fun c1 => ?_) fun c1 => ?_
 ·have d1 := c5p c1
  iterate 12 refine z ?_
  refine a0p ?_
  refine a1o (oB := [1, 4]) (oK := []) (by kernel_rfl) rfl rfl ?_
  refine zD 0 ?_
  refine zD 1 ?_
  refine a2v 2 rfl (by kernel_rfl) rfl rfl rfl Tryz.call68 a8x (a0f (a0a rfl) (a0H a0b) a0n) rfl rfl rfl rfl ?_
  refine zD 3 ?_
  refine zD 4 ?_
  refine zDG 5 ?_
  refine zDG 6 ?_
  refine a4f 7 rfl (by kernel_rfl) (a1l rfl rfl rfl rfl rfl) rfl rfl Tryz.call69 a5k (fun hg => (a0f (a0x rfl hg) (a0H a0b) (a0f (a0y (a0w rfl)) (a0H a0b) (a0f (a0y (a0w rfl)) (a0H a0b) a0n)))) rfl rfl ?_
  refine zDG 8 ?_
  refine zD 9 ?_
  refine zD 10 ?_
  refine zDG 11 ?_
  refine zDG 12 ?_
  refine zDG 13 ?_
  refine zDG 14 ?_
  refine zDG 15 ?_
  refine zDG 16 ?_
  refine zDG 17 ?_
  refine zDG 18 ?_
  refine zDG 19 ?_
  refine zDG 20 ?_
  refine zDG 21 ?_
  refine zDG 22 ?_
  refine zDG 23 ?_
  refine zDG 24 ?_
  refine zD 25 ?_
  refine a1R (by kernel_rfl) ?_
  refine z ?_
  refine yQ rfl (fun c2 => ?_) fun c2 => ?_
  ·iterate 10 refine z ?_
   rw [a1C, a8m (k := k) (by omega) (by have h : a4P r k = true := c2; simpa using h)]; rfl
  ·iterate 3 refine z ?_
   refine a0j ?_
   iterate 3 refine z ?_
   refine ⟨k + 1, ?_, ?_, a0e ⟨rfl, rfl, rfl, rfl, trivial⟩ ⟨rfl, trivial⟩ trivial rfl⟩
   ·exact ⟨by omega, a6u hall (by have h : a4P r k = false := c2; simpa using h)⟩
   ·omega
 ·have d1 := c5q c1
  iterate 14 refine z ?_
  obtain rfl : k = r.length := by omega
  rw [a1C, hall]; rfl
theorem a7M {r : a0J}  : PFn Tryz.prog 90 [.agg [(.dv [] (a0z (r)))]] (.one (.dv [] (.bool (a1C r)))) := by
 refine ⟨a0u Tryz.func90 rfl Tryz.ntmps90 Tryz.results90 rfl (fun C => ?_)⟩
 refine yF 0 0 rfl rfl fun f0_0 => ?_
 iterate 9 refine z ?_
 refine a0W (ι := Nat) (fun zz => ⟨[(1, .box 1 0), (3, .one (.dv [] (.int .i64 ((zz : Int)))))], [(1, 109, [(.dv [] (a0z (r)))])], []⟩) (fun zz => zz ≤ r.length ∧ (List.range zz).all (fun i => !a4P r i) = true) (fun zz => r.length - zz) (0) ?_ (a0e ⟨rfl, rfl, trivial⟩ ⟨rfl, trivial⟩ trivial rfl) (fun zz hx => ?_)
 ·exact ⟨Nat.zero_le _, rfl⟩
 obtain ⟨k, rfl⟩ : ∃ v, v = zz := ⟨_, rfl⟩
 replace hx : k ≤ r.length ∧ (List.range k).all (fun i => !a4P r i) = true := hx
 obtain ⟨hk, hall⟩ := hx
 show Ok _ _ _ _ _ (⟨[(1, .box 1 0), (3, .one (.dv [] (.int .i64 ((k : Int)))))], [(1, 109, [(.dv [] (a0z (r)))])], []⟩ : St)
 iterate 8 refine z ?_
 refine yQ rfl (fun c1 => ?_) fun c1 => ?_
 ·have d1 := c5p c1
  iterate 4 refine z ?_
  refine a0p ?_
  refine a1o (oB := [1]) (oK := []) (by kernel_rfl) rfl rfl ?_
  refine zD 0 ?_
  refine zD 1 ?_
  refine zD 2 ?_
  refine zD 3 ?_
  refine zD 4 ?_
  refine zD 5 ?_
  refine a2v 6 rfl (by kernel_rfl) rfl rfl rfl Tryz.call56 a7U (a0f (a0a rfl) (a0H a0b) a0n) rfl rfl rfl rfl ?_
  refine zD 7 ?_
  refine zD 8 ?_
  refine zDG 9 ?_
  refine zDG 10 ?_
  refine zDG 11 ?_
  refine zDG 12 ?_
  refine zDG 13 ?_
  refine zDG 14 ?_
  refine a4f 15 rfl (by kernel_rfl) (a1l rfl rfl rfl rfl rfl) rfl rfl Tryz.call58 a3Y (fun hg => (a0f (a0x rfl hg) (a0H a0b) (a0f (a0y (a0w rfl)) (a0H a0b) (a0f (a0y (a0w rfl)) (a0H a0b) a0n)))) rfl rfl ?_
  refine zDG 16 ?_
  refine zD 17 ?_
  refine zD 18 ?_
  refine zDG 19 ?_
  refine zDG 20 ?_
  refine zDG 21 ?_
  refine zDG 22 ?_
  refine zDG 23 ?_
  refine zDG 24 ?_
  refine zDG 25 ?_
  refine zDG 26 ?_
  refine zDG 27 ?_
  refine zDG 28 ?_
  refine zDG 29 ?_
  refine zDG 30 ?_
  refine zDG 31 ?_
  refine zDG 32 ?_
  refine zDG 33 ?_
  refine zDG 34 ?_
  refine zDG 35 ?_
  refine zDG 36 ?_
  refine zD 37 ?_
  refine a1R (by kernel_rfl) ?_
  refine z ?_
  refine yQ rfl (fun c2 => ?_) fun c2 => ?_
  ·iterate 10 refine z ?_
   rw [a1C, a8m (k := k) (by omega) (by have h : b0k r k = true := c2; rw [b4V] at h; simpa using h)]; rfl
  ·iterate 3 refine z ?_
   refine a0j ?_
   iterate 4 refine z ?_
   refine ⟨k + 1, ?_, ?_, a0e ⟨rfl, rfl, trivial⟩ ⟨rfl, trivial⟩ trivial rfl⟩
   ·exact ⟨by omega, a6u hall (by have h : b0k r k = false := c2; rw [b4V] at h; simpa using h)⟩
   ·omega
 ·have d1 := c5q c1
  iterate 14 refine z ?_
  obtain rfl : k = r.length := by omega
  rw [a1C, hall]; rfl
def szR (left : Int) (w : Nat) : Int := if (w : Int) ≤ left then left - (w : Int) else -1
def wSum {α : Type} (w : α → Nat) (xs : List α) : Nat := (xs.map w).sum
def a0s {α : Type} (w : α → Nat) (xs : List α) : Nat := xs.length + wSum w xs
theorem b4w {α : Type} (w : α → Nat) (xs ys : List α) : wSum w (xs ++ ys) = wSum w xs + wSum w ys := by simp [wSum]
theorem a5w {α : Type} (w : α → Nat) (xs : List α) (k : Nat) : wSum w (xs.take k) ≤ wSum w xs := by
 have h := b4w w (xs.take k) (xs.drop k)
 rw [List.take_append_drop] at h
 omega
theorem a1T {α : Type} [Inhabited α] (w : α → Nat) (xs : List α) (k : Nat) (h : k < xs.length) : wSum w (xs.take (k + 1)) = wSum w (xs.take k) + w (xs.getD (k : Int).toNat default) ∧ wSum w (xs.take (k + 1)) ≤ wSum w xs := by
 refine ⟨?_, a5w w xs _⟩
 have : xs.take (k + 1) = xs.take k ++ [xs.getD k default] := by
  rw [List.take_add_one, List.getElem?_eq_getElem h]; simp [List.getD, List.getElem?_eq_getElem h]
 rw [this, b4w]
 simp [wSum]
theorem a3r {α : Type} (w : α → Nat) (xs : List α) (k : Nat) (h : xs.length ≤ k) : wSum w (xs.take k) = wSum w xs := by rw [List.take_of_length_le h]
theorem a8I {α : Type} (w : α → Nat) (xs : List α) : xs.length ≤ a0s w xs := by unfold a0s; omega
theorem a1K {l : Int} {w : Nat} (h : ¬ szR l w < 0) : (w : Int) ≤ l ∧ szR l w = l - w := by unfold szR at h ⊢; split at h <;> simp_all
theorem a1O {l : Int} {w : Nat} (h : szR l w < 0) (h0 : 0 ≤ l := by omega) : l < (w : Int) := by unfold szR at h; split at h <;> omega
theorem a1G (l : Int) (w : Nat) : ((w : Int) ≤ l ∧ szR l w = l - w) ∨ (l < w ∧ szR l w = -1) := by unfold szR; split <;> omega
def a2x (x : a1g) : Nat := (x.2.2).size
def a1v (x : a3n) : Nat := (x.1).size
def a2e (x : a0J) : Nat := a0s a1v (x)
def a1a (x : a0Q) : Nat := a2x (x.1) + a2e (x.2)
def a0v (x : a0I) : Nat := (x.1).size + a0s a1a (x.2.1)
def a1m (x : a2M) : Nat := (x.1).size + (x.2).size
def a1r (x : DbT) : Nat := (x.1).size + a0s a0v (x.2.2.1) + a0s a1m (x.2.2.2)
def wOp (x : OpT) : Nat := (x.2.1).size + a2x (x.2.2.1) + a2e (x.2.2.2.1) + (x.2.2.2.2).size
def wTx (x : TxT) : Nat := a0s wOp (x.2.1) + a0s a0v (x.2.2.2.2)
def a1z (x : List TxT) : Nat := a0s wTx (x)
theorem b4e {x : a1g} {left : Int} (h0 : 0 ≤ left) (h1 : left ≤ 1048576) : PFn Tryz.prog 147 [.agg [(.dv [] (.int .i64 (x.1))), (.dv [] (.int .i64 (x.2.1))), (.dv [] (.str (x.2.2)))], .one (.dv [] (.int .i64 (left)))] (.one (.dv [] (.int .i64 (szR (left) (a2x x))))) := by
 refine ⟨a0u Tryz.func147 rfl Tryz.ntmps147 Tryz.results147 rfl (fun C => ?_)⟩
 refine yF 0 0 rfl rfl fun f0_0 => ?_
 refine yF 0 1 rfl rfl fun f0_1 => ?_
 refine yF 0 2 rfl rfl fun f0_2 => ?_
 refine a0G (x := .tmp 1) (a0a rfl) fun f1 => ?_
 iterate 17 refine z ?_
 refine yQ rfl (fun c1 => ?_) fun c1 => ?_
 ·have d1 := c5p c1
  first | have q1 := a1O d1 | skip
  iterate 6 refine z ?_
  have hh := a1G left (a2x x); simp only [a2x] at hh ⊢ <;> omega
 ·have d1 := c5q c1
  first | have q1 := a1K d1 | skip
  iterate 8 refine z ?_
  have hh := a1G left (a2x x); simp only [a2x] at hh ⊢ <;> omega
theorem c4C {x : a3n} {left : Int} (h0 : 0 ≤ left) (h1 : left ≤ 1048576) : PFn Tryz.prog 190 [.agg [(.dv [] (.str (x.1))), (.dv [] (.int .i64 (x.2)))], .one (.dv [] (.int .i64 (left)))] (.one (.dv [] (.int .i64 (szR (left) (a1v x))))) := by
 refine ⟨a0u Tryz.func190 rfl Tryz.ntmps190 Tryz.results190 rfl (fun C => ?_)⟩
 refine yF 0 0 rfl rfl fun f0_0 => ?_
 refine yF 0 1 rfl rfl fun f0_1 => ?_
 refine a0G (x := .tmp 1) (a0a rfl) fun f1 => ?_
 iterate 17 refine z ?_
 refine yQ rfl (fun c1 => ?_) fun c1 => ?_
 ·have d1 := c5p c1
  first | have q1 := a1O d1 | skip
  iterate 6 refine z ?_
  have hh := a1G left (a1v x); simp only [a1v] at hh ⊢ <;> omega
 ·have d1 := c5q c1
  first | have q1 := a1K d1 | skip
  iterate 8 refine z ?_
  have hh := a1G left (a1v x); simp only [a1v] at hh ⊢ <;> omega
theorem c2a {x : List (a3n)} {left : Int} (h0 : 0 ≤ left) (h1 : left ≤ 1048576) : PFn Tryz.prog 177 [.one (.dv [] (a0z (x))), .one (.dv [] (.int .i64 (left)))] (.one (.dv [] (.int .i64 (szR (left) (a0s a1v x))))) := by
 refine ⟨a0u Tryz.func177 rfl Tryz.ntmps177 Tryz.results177 rfl (fun C => ?_)⟩
 refine a0G (x := .tmp 0) (a0a rfl) fun f0 => ?_
 refine a0G (x := .tmp 1) (a0a rfl) fun f1 => ?_
 iterate 15 refine z ?_
 refine yQ rfl (fun c1 => ?_) fun c1 => ?_
 ·have d1 := c5p c1
  first | have q1 := a1O d1 | skip
  iterate 6 refine z ?_
  have hh := a1G left (a0s a1v x); simp only [a0s] at hh ⊢ <;> omega
 ·have d1 := c5q c1
  first | have q1 := a1K d1 | skip
  iterate 7 refine z ?_
  refine a0W (ι := Nat × Int) (fun zz => ⟨[(0, .one (.dv [] (a0z (x)))), (1, .one (.dv [] (.int .i64 (zz.2)))), (5, .one (.dv [] (.int .i64 ((zz.1 : Int)))))], [], []⟩) (fun zz => zz.1 ≤ x.length ∧ 0 ≤ zz.2 ∧ zz.2 + (wSum a1v (x.take zz.1) : Int) = left - (x.length : Int)) (fun zz => x.length - zz.1) ((0, left - (x.length : Int))) ?_ (a0e ⟨rfl, rfl, rfl, trivial⟩ trivial trivial rfl) (fun zz hx => ?_)
  ·exact ⟨Nat.zero_le _, by omega, by simp [wSum]⟩
  obtain ⟨k, l⟩ := zz
  replace hx : k ≤ x.length ∧ 0 ≤ l ∧ l + (wSum a1v (x.take k) : Int) = left - (x.length : Int) := hx
  obtain ⟨hk, hl, he⟩ := hx
  have hw := fun h => a1T a1v x k h
  show Ok _ _ _ _ _ (⟨[(0, .one (.dv [] (a0z (x)))), (1, .one (.dv [] (.int .i64 (l)))), (5, .one (.dv [] (.int .i64 ((k : Int)))))], [], []⟩ : St)
  iterate 7 refine z ?_
  refine yQ rfl (fun c2 => ?_) fun c2 => ?_
  ·have d2 := c5p c2
   first | have q2 := a1O d2 | skip
   iterate 10 refine z ?_
   refine zC Tryz.call190 ?_ (hf := c4C (by omega) (by omega))
   iterate 6 refine z ?_
   refine yQ rfl (fun c3 => ?_) fun c3 => ?_
   ·have d3 := c5p c3
    first | have q3 := a1O d3 | skip
    iterate 10 refine z ?_
    have hw' := hw (by omega); have hh := a1G left (a0s a1v x); simp only [a0s] at hh ⊢ <;> omega
   ·have d3 := c5q c3
    first | have q3 := a1K d3 | skip
    iterate 3 refine z ?_
    refine a0j ?_
    iterate 4 refine z ?_
    refine ⟨(k + 1, szR l (a1v (x.getD (k : Int).toNat default))), ?_, ?_, a0e ⟨rfl, rfl, rfl, trivial⟩ trivial trivial rfl⟩
    ·have hw' := hw (by omega)
     dsimp only
     exact ⟨by omega, by omega, by omega⟩
    ·omega
  ·have d2 := c5q c2
   first | have q2 := a1K d2 | skip
   iterate 11 refine z ?_
   have hw' := a3r a1v x k (by omega); have hh := a1G left (a0s a1v x); simp only [a0s] at hh ⊢ <;> omega
theorem b4U {x : a0J} {left : Int} (h0 : 0 ≤ left) (h1 : left ≤ 1048576) : PFn Tryz.prog 148 [.agg [(.dv [] (a0z (x)))], .one (.dv [] (.int .i64 (left)))] (.one (.dv [] (.int .i64 (szR (left) (a2e x))))) := by
 refine ⟨a0u Tryz.func148 rfl Tryz.ntmps148 Tryz.results148 rfl (fun C => ?_)⟩
 refine yF 0 0 rfl rfl fun f0_0 => ?_
 refine a0G (x := .tmp 1) (a0a rfl) fun f1 => ?_
 iterate 8 refine z ?_
 refine zC Tryz.call177 ?_ (hf := c2a (by omega) (by omega))
 iterate 7 refine z ?_
 refine yQ rfl (fun c1 => ?_) fun c1 => ?_
 ·have d1 := c5p c1
  first | have q1 := a1O d1 | skip
  iterate 6 refine z ?_
  have hh := a1G left (a2e x); simp only [a2e] at hh ⊢ <;> omega
 ·have d1 := c5q c1
  first | have q1 := a1K d1 | skip
  iterate 8 refine z ?_
  have hh := a1G left (a2e x); simp only [a2e] at hh ⊢ <;> omega
theorem c3A {x : OpT} {left : Int} (h0 : 0 ≤ left) (h1 : left ≤ 1048576) : PFn Tryz.prog 120 [.agg [(.dv [] (.int .i64 (x.1))), (.dv [] (.str (x.2.1))), (.dv [] (.int .i64 (x.2.2.1.1))), (.dv [] (.int .i64 (x.2.2.1.2.1))), (.dv [] (.str (x.2.2.1.2.2))), (.dv [] (a0z (x.2.2.2.1))), (.dv [] (.str (x.2.2.2.2)))], .one (.dv [] (.int .i64 (left)))] (.one (.dv [] (.int .i64 (szR (left) (wOp x))))) := by
 refine ⟨a0u Tryz.func120 rfl Tryz.ntmps120 Tryz.results120 rfl (fun C => ?_)⟩
 refine yF 0 0 rfl rfl fun f0_0 => ?_
 refine yF 0 1 rfl rfl fun f0_1 => ?_
 refine yF 0 2 rfl rfl fun f0_2 => ?_
 refine yF 0 3 rfl rfl fun f0_3 => ?_
 refine yF 0 4 rfl rfl fun f0_4 => ?_
 refine yF 0 5 rfl rfl fun f0_5 => ?_
 refine yF 0 6 rfl rfl fun f0_6 => ?_
 refine a0G (x := .tmp 1) (a0a rfl) fun f1 => ?_
 iterate 17 refine z ?_
 refine yQ rfl (fun c1 => ?_) fun c1 => ?_
 ·have d1 := c5p c1
  first | have q1 := a1O d1 | skip
  iterate 6 refine z ?_
  have hh := a1G left (wOp x); simp only [wOp] at hh ⊢ <;> omega
 ·have d1 := c5q c1
  first | have q1 := a1K d1 | skip
  iterate 6 refine z ?_
  refine zC Tryz.call147 ?_ (hf := b4e (by omega) (by omega))
  iterate 7 refine z ?_
  refine yQ rfl (fun c2 => ?_) fun c2 => ?_
  ·have d2 := c5p c2
   first | have q2 := a1O d2 | skip
   iterate 6 refine z ?_
   have hh := a1G left (wOp x); simp only [wOp] at hh ⊢ <;> omega
  ·have d2 := c5q c2
   first | have q2 := a1K d2 | skip
   iterate 6 refine z ?_
   refine zC Tryz.call148 ?_ (hf := b4U (by omega) (by omega))
   iterate 7 refine z ?_
   refine yQ rfl (fun c3 => ?_) fun c3 => ?_
   ·have d3 := c5p c3
    first | have q3 := a1O d3 | skip
    iterate 6 refine z ?_
    have hh := a1G left (wOp x); simp only [wOp] at hh ⊢ <;> omega
   ·have d3 := c5q c3
    first | have q3 := a1K d3 | skip
    iterate 15 refine z ?_
    refine yQ rfl (fun c4 => ?_) fun c4 => ?_
    ·have d4 := c5p c4
     first | have q4 := a1O d4 | skip
     iterate 6 refine z ?_
     have hh := a1G left (wOp x); simp only [wOp] at hh ⊢ <;> omega
    ·have d4 := c5q c4
     first | have q4 := a1K d4 | skip
     iterate 8 refine z ?_
     have hh := a1G left (wOp x); simp only [wOp] at hh ⊢ <;> omega
theorem b3F {x : a1g}  : PFn Tryz.prog 151 [.agg [(.dv [] (.int .i64 (x.1))), (.dv [] (.int .i64 (x.2.1))), (.dv [] (.str (x.2.2)))]] (.agg [(.dv [] (.int .i64 (x.1))), (.dv [] (.int .i64 (x.2.1))), (.dv [] (.str (x.2.2)))]) := by
 refine ⟨a0u Tryz.func151 rfl Tryz.ntmps151 Tryz.results151 rfl (fun C => ?_)⟩
 refine yF 0 0 rfl rfl fun f0_0 => ?_
 refine yF 0 1 rfl rfl fun f0_1 => ?_
 refine yF 0 2 rfl rfl fun f0_2 => ?_
 iterate 30 refine z ?_
 refine a1B (a0K hT rfl rfl rfl rfl) ?_
 rfl
theorem c0D {x : a3n}  : PFn Tryz.prog 191 [.agg [(.dv [] (.str (x.1))), (.dv [] (.int .i64 (x.2)))]] (.agg [(.dv [] (.str (x.1))), (.dv [] (.int .i64 (x.2)))]) := by
 refine ⟨a0u Tryz.func191 rfl Tryz.ntmps191 Tryz.results191 rfl (fun C => ?_)⟩
 refine yF 0 0 rfl rfl fun f0_0 => ?_
 refine yF 0 1 rfl rfl fun f0_1 => ?_
 iterate 24 refine z ?_
 refine a1B (a0K hT rfl rfl rfl rfl) ?_
 rfl
theorem b9k {x : List (a3n)} (hb : a0s a1v x ≤ 1048576) : KFn Tryz.prog 178 [.one (.dv [] (a0z (x)))] (.one (.key 7)) [(7, some (a0d false (a0z (x))))] := by
 refine ⟨a0u Tryz.func178 rfl Tryz.ntmps178 Tryz.results178 rfl (fun C => ?_)⟩
 refine a0G (x := .tmp 0) (a0a rfl) fun f0 => ?_
 iterate 6 refine z ?_
 refine a7v (k := 7) (n := ((x)).length) (zd := [.str (ByteArray.empty), .int .i64 (0)]) (cs := a1M a1k [.str (ByteArray.empty), .int .i64 (0)] x 0) hT rfl rfl rfl rfl rfl rfl (a0a rfl) (a0a rfl) rfl rfl rfl (by have := a8I a1v x; omega) rfl rfl a7w ?_
 iterate 7 refine z ?_
 refine a0W (ι := Nat) (fun zz => ⟨[(0, .one (.dv [] (a0z (x)))), (3, .one (.key 7)), (4, .one (.dv [] (.int .i64 ((zz : Int)))))], [], [(7, some (a0d false (.sl 161 2 ((x).length) (a1M a1k [.str (ByteArray.empty), .int .i64 (0)] x zz))))]⟩) (fun zz => zz ≤ x.length) (fun zz => x.length - zz) (0) ?_ (a0e ⟨rfl, rfl, rfl, trivial⟩ trivial ⟨rfl, trivial⟩ rfl) (fun zz hx => ?_)
 ·exact Nat.zero_le _
 obtain ⟨k, rfl⟩ : ∃ v, v = zz := ⟨_, rfl⟩
 replace hx : k ≤ x.length := hx
 have hw := fun h => a1T a1v x k h
 have hw2 := a5w a1v x (k + 1)
 have hw3 : a0s a1v x = x.length + wSum a1v x := rfl
 show Ok _ _ _ _ _ (⟨[(0, .one (.dv [] (a0z (x)))), (3, .one (.key 7)), (4, .one (.dv [] (.int .i64 ((k : Int)))))], [], [(7, some (a0d false (.sl 161 2 ((x).length) (a1M a1k [.str (ByteArray.empty), .int .i64 (0)] x k))))]⟩ : St)
 iterate 7 refine z ?_
 refine yQ rfl (fun c1 => ?_) fun c1 => ?_
 ·have d1 := c5p c1
  iterate 4 refine z ?_
  refine a0j ?_
  iterate 6 refine z ?_
  refine zC Tryz.call191 ?_ (hf := c0D)
  refine yO rfl rfl (a1q (i := k) hT rfl rfl rfl (a0a rfl) rfl (a0a rfl) rfl (by show _ < ((x).length); omega)) rfl ?_
  refine a1u (js := []) (cs := a1M a1k [.str (ByteArray.empty), .int .i64 (0)] x (k + 1)) hT rfl rfl rfl rfl (a0a rfl) (a0a rfl) rfl rfl rfl rfl (a0o (a0C rfl) (a0o (a0C rfl) a1e rfl) rfl) (by decide) (by decide) rfl (by show _ ≤ List.length (a1M a1k [.str (ByteArray.empty), .int .i64 (0)] x k); rw [a7d (sz := 2) (fun _ => rfl) rfl]; omega) (a7c (sz := 2) (fun _ => rfl) rfl (by omega) rfl) ?_
  simp only [a0i, a0h, SV.kill, CV.kill, kk, Nat.reduceBEq]
  refine a1j ?_
  iterate 2 refine z ?_
  refine a0j ?_
  iterate 4 refine z ?_
  refine ⟨k + 1, ?_, ?_, a0e ⟨rfl, rfl, rfl, trivial⟩ trivial ⟨rfl, trivial⟩ rfl⟩
  ·omega
  ·omega
 ·have d1 := c5q c1
  iterate 9 refine z ?_
  refine a0r (σ' := ⟨[(2, .one (.key 7))], [], [(7, some (a0d false (a0z (x))))]⟩) (a0e ⟨rfl, trivial⟩ trivial ⟨(congrArg (fun cs => some (some (KC.mk false 161 2 x.length cs))) (a7u (by omega))), trivial⟩ rfl) ?_
  refine z ?_
  refine a1B (a0B rfl) ?_
  exact ⟨rfl, rfl⟩
theorem b5D {x : a0J} (hb : a2e x ≤ 1048576) : KFn Tryz.prog 152 [.agg [(.dv [] (a0z (x)))]] (.agg [(.key 6007)]) [(6007, some (a0d false (a0z (x))))] := by
 refine ⟨a0u Tryz.func152 rfl Tryz.ntmps152 Tryz.results152 rfl (fun C => ?_)⟩
 refine yF 0 0 rfl rfl fun f0_0 => ?_
 iterate 10 refine z ?_
 refine zK 6000 Tryz.call178 ?_ (hf := b9k (by first | omega | (simp only [a2x, a1v, a2e, a1a, a0v, a1m, a1r, wOp, wTx, a1z] at hb ⊢; omega) | (have hq := hw (by omega); omega)))
 iterate 7 refine z ?_
 refine a0r (σ' := ⟨[(2, .box 2 0)], [(2, 109, [(.key 6007)])], [(6007, some (a0d false (a0z (x))))]⟩) (a0e ⟨rfl, trivial⟩ ⟨rfl, trivial⟩ ⟨rfl, trivial⟩ rfl) ?_
 refine z ?_
 refine a1B (a0K hT rfl rfl rfl rfl) ?_
 exact ⟨rfl, rfl⟩
theorem c1S {x : OpT} (hb : wOp x ≤ 1048576) : KFn Tryz.prog 130 [.agg [(.dv [] (.int .i64 (x.1))), (.dv [] (.str (x.2.1))), (.dv [] (.int .i64 (x.2.2.1.1))), (.dv [] (.int .i64 (x.2.2.1.2.1))), (.dv [] (.str (x.2.2.1.2.2))), (.dv [] (a0z (x.2.2.2.1))), (.dv [] (.str (x.2.2.2.2)))]] (.agg [(.dv [] (.int .i64 (x.1))), (.dv [] (.str (x.2.1))), (.dv [] (.int .i64 (x.2.2.1.1))), (.dv [] (.int .i64 (x.2.2.1.2.1))), (.dv [] (.str (x.2.2.1.2.2))), (.key 22007), (.dv [] (.str (x.2.2.2.2)))]) [(22007, some (a0d false (a0z (x.2.2.2.1))))] := by
 refine ⟨a0u Tryz.func130 rfl Tryz.ntmps130 Tryz.results130 rfl (fun C => ?_)⟩
 refine yF 0 0 rfl rfl fun f0_0 => ?_
 refine yF 0 1 rfl rfl fun f0_1 => ?_
 refine yF 0 2 rfl rfl fun f0_2 => ?_
 refine yF 0 3 rfl rfl fun f0_3 => ?_
 refine yF 0 4 rfl rfl fun f0_4 => ?_
 refine yF 0 5 rfl rfl fun f0_5 => ?_
 refine yF 0 6 rfl rfl fun f0_6 => ?_
 iterate 22 refine z ?_
 refine zC Tryz.call151 ?_ (hf := b3F)
 iterate 6 refine z ?_
 refine zK 16000 Tryz.call152 ?_ (hf := b5D (by first | omega | (simp only [a2x, a1v, a2e, a1a, a0v, a1m, a1r, wOp, wTx, a1z] at hb ⊢; omega) | (have hq := hw (by omega); omega)))
 iterate 13 refine z ?_
 refine a0r (σ' := ⟨[(2, .box 2 0)], [(2, 111, [(.dv [] (.int .i64 (x.1))), (.dv [] (.str (x.2.1))), (.dv [] (.int .i64 (x.2.2.1.1))), (.dv [] (.int .i64 (x.2.2.1.2.1))), (.dv [] (.str (x.2.2.1.2.2))), (.key 22007), (.dv [] (.str (x.2.2.2.2)))])], [(22007, some (a0d false (a0z (x.2.2.2.1))))]⟩) (a0e ⟨rfl, trivial⟩ ⟨rfl, trivial⟩ ⟨rfl, trivial⟩ rfl) ?_
 refine z ?_
 refine a1B (a0K hT rfl rfl rfl rfl) ?_
 exact ⟨rfl, rfl⟩
theorem b4G {x : a1g}  : PFn Tryz.prog 175 [.agg [(.dv [] (.int .i64 (x.1))), (.dv [] (.int .i64 (x.2.1))), (.dv [] (.str (x.2.2)))], .agg [(.dv [] (.int .i64 (x.1))), (.dv [] (.int .i64 (x.2.1))), (.dv [] (.str (x.2.2)))]] (.one (.dv [] (.bool (true)))) := by
 refine ⟨a0u Tryz.func175 rfl Tryz.ntmps175 Tryz.results175 rfl (fun C => ?_)⟩
 refine yF 0 0 rfl rfl fun f0_0 => ?_
 refine yF 0 1 rfl rfl fun f0_1 => ?_
 refine yF 0 2 rfl rfl fun f0_2 => ?_
 refine yF 1 0 rfl rfl fun f1_0 => ?_
 refine yF 1 1 rfl rfl fun f1_1 => ?_
 refine yF 1 2 rfl rfl fun f1_2 => ?_
 iterate 13 refine z ?_
 refine yQ rfl (fun c1 => ?_) fun c1 => ?_
 ·have d1 := a2g c1
  iterate 6 refine z ?_
  first | rfl | (exfalso; simp_all [sEq])
 ·have d1 := a2j c1
  iterate 10 refine z ?_
  refine yQ rfl (fun c2 => ?_) fun c2 => ?_
  ·have d2 := a2g c2
   iterate 6 refine z ?_
   first | rfl | (exfalso; simp_all [sEq])
  ·have d2 := a2j c2
   iterate 10 refine z ?_
   refine yQ rfl (fun c3 => ?_) fun c3 => ?_
   ·iterate 6 refine z ?_
    first | rfl | (exfalso; simp_all [sEq])
   ·iterate 7 refine z ?_
    first | rfl | (exfalso; simp_all [sEq])
theorem c3H {x : a3n}  : PFn Tryz.prog 195 [.agg [(.dv [] (.str (x.1))), (.dv [] (.int .i64 (x.2)))], .agg [(.dv [] (.str (x.1))), (.dv [] (.int .i64 (x.2)))]] (.one (.dv [] (.bool (true)))) := by
 refine ⟨a0u Tryz.func195 rfl Tryz.ntmps195 Tryz.results195 rfl (fun C => ?_)⟩
 refine yF 0 0 rfl rfl fun f0_0 => ?_
 refine yF 0 1 rfl rfl fun f0_1 => ?_
 refine yF 1 0 rfl rfl fun f1_0 => ?_
 refine yF 1 1 rfl rfl fun f1_1 => ?_
 iterate 13 refine z ?_
 refine yQ rfl (fun c1 => ?_) fun c1 => ?_
 ·iterate 6 refine z ?_
  first | rfl | (exfalso; simp_all [sEq])
 ·iterate 10 refine z ?_
  refine yQ rfl (fun c2 => ?_) fun c2 => ?_
  ·have d2 := a2g c2
   iterate 6 refine z ?_
   first | rfl | (exfalso; simp_all [sEq])
  ·have d2 := a2j c2
   iterate 7 refine z ?_
   first | rfl | (exfalso; simp_all [sEq])
theorem c3J {x : List (a3n)}  : PFn Tryz.prog 189 [.one (.dv [] (a0z (x))), .one (.dv [] (a0z (x)))] (.one (.dv [] (.bool (true)))) := by
 refine ⟨a0u Tryz.func189 rfl Tryz.ntmps189 Tryz.results189 rfl (fun C => ?_)⟩
 refine a0G (x := .tmp 0) (a0a rfl) fun f0 => ?_
 refine a0G (x := .tmp 1) (a0a rfl) fun f1 => ?_
 iterate 11 refine z ?_
 refine yQ rfl (fun c1 => ?_) fun c1 => ?_
 ·have d1 := a2g c1
  iterate 6 refine z ?_
  first | rfl | (exfalso; simp_all [sEq])
 ·have d1 := a2j c1
  iterate 7 refine z ?_
  refine a0W (ι := Nat) (fun zz => ⟨[(0, .one (.dv [] (a0z (x)))), (1, .one (.dv [] (a0z (x)))), (5, .one (.dv [] (.int .i64 ((zz : Int)))))], [], []⟩) (fun zz => zz ≤ x.length) (fun zz => x.length - zz) (0) ?_ (a0e ⟨rfl, rfl, rfl, trivial⟩ trivial trivial rfl) (fun zz hx => ?_)
  ·exact Nat.zero_le _
  obtain ⟨k, rfl⟩ : ∃ v, v = zz := ⟨_, rfl⟩
  replace hx : k ≤ x.length := hx
  show Ok _ _ _ _ _ (⟨[(0, .one (.dv [] (a0z (x)))), (1, .one (.dv [] (a0z (x)))), (5, .one (.dv [] (.int .i64 ((k : Int)))))], [], []⟩ : St)
  iterate 7 refine z ?_
  refine yQ rfl (fun c2 => ?_) fun c2 => ?_
  ·have d2 := c5p c2
   iterate 4 refine z ?_
   refine a0p ?_
   refine a1o (oB := []) (oK := []) (by kernel_rfl) rfl rfl ?_
   refine zD 0 ?_
   refine zD 1 ?_
   refine zD 2 ?_
   refine zD 3 ?_
   refine zD 4 ?_
   refine zD 5 ?_
   refine zD 6 ?_
   refine zD 7 ?_
   refine a2v 8 rfl (by kernel_rfl) rfl rfl rfl Tryz.call195 c3H (a0f (a0a rfl) (a0l (a0c a0b (a0c a0b a0m))) (a0f (a0a rfl) (a0l (a0c a0b (a0c a0b a0m))) a0n)) rfl rfl rfl rfl ?_
   refine zD 9 ?_
   refine a1R (by kernel_rfl) ?_
   refine z ?_
   refine yQ rfl (fun c3 => ?_) fun c3 => ?_
   ·iterate 10 refine z ?_
    first | rfl | (exfalso; simp_all [sEq])
   ·iterate 3 refine z ?_
    refine a0j ?_
    iterate 4 refine z ?_
    refine ⟨k + 1, ?_, ?_, a0e ⟨rfl, rfl, rfl, trivial⟩ trivial trivial rfl⟩
    ·omega
    ·omega
  ·have d2 := c5q c2
   iterate 10 refine z ?_
   first | rfl | (exfalso; simp_all [sEq])
theorem b3K {x : a0J}  : PFn Tryz.prog 176 [.agg [(.dv [] (a0z (x)))], .agg [(.dv [] (a0z (x)))]] (.one (.dv [] (.bool (true)))) := by
 refine ⟨a0u Tryz.func176 rfl Tryz.ntmps176 Tryz.results176 rfl (fun C => ?_)⟩
 refine yF 0 0 rfl rfl fun f0_0 => ?_
 refine yF 1 0 rfl rfl fun f1_0 => ?_
 iterate 11 refine z ?_
 refine zC Tryz.call189 ?_ (hf := c3J)
 iterate 2 refine z ?_
 refine yQ rfl (fun c1 => ?_) fun c1 => ?_
 ·iterate 6 refine z ?_
  first | rfl | (exfalso; simp_all [sEq])
 ·iterate 7 refine z ?_
  first | rfl | (exfalso; simp_all [sEq])
theorem b9r {x : OpT}  : PFn Tryz.prog 146 [.agg [(.dv [] (.int .i64 (x.1))), (.dv [] (.str (x.2.1))), (.dv [] (.int .i64 (x.2.2.1.1))), (.dv [] (.int .i64 (x.2.2.1.2.1))), (.dv [] (.str (x.2.2.1.2.2))), (.dv [] (a0z (x.2.2.2.1))), (.dv [] (.str (x.2.2.2.2)))], .agg [(.dv [] (.int .i64 (x.1))), (.dv [] (.str (x.2.1))), (.dv [] (.int .i64 (x.2.2.1.1))), (.dv [] (.int .i64 (x.2.2.1.2.1))), (.dv [] (.str (x.2.2.1.2.2))), (.dv [] (a0z (x.2.2.2.1))), (.dv [] (.str (x.2.2.2.2)))]] (.one (.dv [] (.bool (true)))) := by
 refine ⟨a0u Tryz.func146 rfl Tryz.ntmps146 Tryz.results146 rfl (fun C => ?_)⟩
 refine yF 0 0 rfl rfl fun f0_0 => ?_
 refine yF 0 1 rfl rfl fun f0_1 => ?_
 refine yF 0 2 rfl rfl fun f0_2 => ?_
 refine yF 0 3 rfl rfl fun f0_3 => ?_
 refine yF 0 4 rfl rfl fun f0_4 => ?_
 refine yF 0 5 rfl rfl fun f0_5 => ?_
 refine yF 0 6 rfl rfl fun f0_6 => ?_
 refine yF 1 0 rfl rfl fun f1_0 => ?_
 refine yF 1 1 rfl rfl fun f1_1 => ?_
 refine yF 1 2 rfl rfl fun f1_2 => ?_
 refine yF 1 3 rfl rfl fun f1_3 => ?_
 refine yF 1 4 rfl rfl fun f1_4 => ?_
 refine yF 1 5 rfl rfl fun f1_5 => ?_
 refine yF 1 6 rfl rfl fun f1_6 => ?_
 iterate 13 refine z ?_
 refine yQ rfl (fun c1 => ?_) fun c1 => ?_
 ·have d1 := a2g c1
  iterate 6 refine z ?_
  first | rfl | (exfalso; simp_all [sEq])
 ·have d1 := a2j c1
  iterate 10 refine z ?_
  refine yQ rfl (fun c2 => ?_) fun c2 => ?_
  ·iterate 6 refine z ?_
   first | rfl | (exfalso; simp_all [sEq])
  ·iterate 8 refine z ?_
   refine zC Tryz.call175 ?_ (hf := b4G)
   iterate 2 refine z ?_
   refine yQ rfl (fun c3 => ?_) fun c3 => ?_
   ·iterate 6 refine z ?_
    first | rfl | (exfalso; simp_all [sEq])
   ·iterate 8 refine z ?_
    refine zC Tryz.call176 ?_ (hf := b3K)
    iterate 2 refine z ?_
    refine yQ rfl (fun c4 => ?_) fun c4 => ?_
    ·iterate 6 refine z ?_
     first | rfl | (exfalso; simp_all [sEq])
    ·iterate 10 refine z ?_
     refine yQ rfl (fun c5 => ?_) fun c5 => ?_
     ·iterate 6 refine z ?_
      first | rfl | (exfalso; simp_all [sEq])
     ·iterate 7 refine z ?_
      first | rfl | (exfalso; simp_all [sEq])
theorem b9Q {x : List (OpT)} {left : Int} (h0 : 0 ≤ left) (h1 : left ≤ 1048576) : PFn Tryz.prog 86 [.one (.dv [] (a0F (x))), .one (.dv [] (.int .i64 (left)))] (.one (.dv [] (.int .i64 (szR (left) (a0s wOp x))))) := by
 refine ⟨a0u Tryz.func86 rfl Tryz.ntmps86 Tryz.results86 rfl (fun C => ?_)⟩
 refine a0G (x := .tmp 0) (a0a rfl) fun f0 => ?_
 refine a0G (x := .tmp 1) (a0a rfl) fun f1 => ?_
 iterate 15 refine z ?_
 refine yQ rfl (fun c1 => ?_) fun c1 => ?_
 ·have d1 := c5p c1
  first | have q1 := a1O d1 | skip
  iterate 6 refine z ?_
  have hh := a1G left (a0s wOp x); simp only [a0s] at hh ⊢ <;> omega
 ·have d1 := c5q c1
  first | have q1 := a1K d1 | skip
  iterate 7 refine z ?_
  refine a0W (ι := Nat × Int) (fun zz => ⟨[(0, .one (.dv [] (a0F (x)))), (1, .one (.dv [] (.int .i64 (zz.2)))), (5, .one (.dv [] (.int .i64 ((zz.1 : Int)))))], [], []⟩) (fun zz => zz.1 ≤ x.length ∧ 0 ≤ zz.2 ∧ zz.2 + (wSum wOp (x.take zz.1) : Int) = left - (x.length : Int)) (fun zz => x.length - zz.1) ((0, left - (x.length : Int))) ?_ (a0e ⟨rfl, rfl, rfl, trivial⟩ trivial trivial rfl) (fun zz hx => ?_)
  ·exact ⟨Nat.zero_le _, by omega, by simp [wSum]⟩
  obtain ⟨k, l⟩ := zz
  replace hx : k ≤ x.length ∧ 0 ≤ l ∧ l + (wSum wOp (x.take k) : Int) = left - (x.length : Int) := hx
  obtain ⟨hk, hl, he⟩ := hx
  have hw := fun h => a1T wOp x k h
  show Ok _ _ _ _ _ (⟨[(0, .one (.dv [] (a0F (x)))), (1, .one (.dv [] (.int .i64 (l)))), (5, .one (.dv [] (.int .i64 ((k : Int)))))], [], []⟩ : St)
  iterate 7 refine z ?_
  refine yQ rfl (fun c2 => ?_) fun c2 => ?_
  ·have d2 := c5p c2
   first | have q2 := a1O d2 | skip
   iterate 10 refine z ?_
   refine zC Tryz.call120 ?_ (hf := c3A (by omega) (by omega))
   iterate 6 refine z ?_
   refine yQ rfl (fun c3 => ?_) fun c3 => ?_
   ·have d3 := c5p c3
    first | have q3 := a1O d3 | skip
    iterate 10 refine z ?_
    have hw' := hw (by omega); have hh := a1G left (a0s wOp x); simp only [a0s] at hh ⊢ <;> omega
   ·have d3 := c5q c3
    first | have q3 := a1K d3 | skip
    iterate 3 refine z ?_
    refine a0j ?_
    iterate 4 refine z ?_
    refine ⟨(k + 1, szR l (wOp (x.getD (k : Int).toNat default))), ?_, ?_, a0e ⟨rfl, rfl, rfl, trivial⟩ trivial trivial rfl⟩
    ·have hw' := hw (by omega)
     dsimp only
     exact ⟨by omega, by omega, by omega⟩
    ·omega
  ·have d2 := c5q c2
   first | have q2 := a1K d2 | skip
   iterate 11 refine z ?_
   have hw' := a3r wOp x k (by omega); have hh := a1G left (a0s wOp x); simp only [a0s] at hh ⊢ <;> omega
theorem b8L {x : List (OpT)} (hb : a0s wOp x ≤ 1048576) : KFn Tryz.prog 98 [.one (.dv [] (a0F (x)))] (.one (.key 7)) [(7, some (a0d false (a0F (x))))] := by
 refine ⟨a0u Tryz.func98 rfl Tryz.ntmps98 Tryz.results98 rfl (fun C => ?_)⟩
 refine a0G (x := .tmp 0) (a0a rfl) fun f0 => ?_
 iterate 6 refine z ?_
 refine a7v (k := 7) (n := ((x)).length) (zd := [.int .i64 (0), .str (ByteArray.empty), .int .i64 (0), .int .i64 (0), .str (ByteArray.empty), .sl 161 2 0 [], .str (ByteArray.empty)]) (cs := a1M eOp [.int .i64 (0), .str (ByteArray.empty), .int .i64 (0), .int .i64 (0), .str (ByteArray.empty), .sl 161 2 0 [], .str (ByteArray.empty)] x 0) hT rfl rfl rfl rfl rfl rfl (a0a rfl) (a0a rfl) rfl rfl rfl (by have := a8I wOp x; omega) rfl rfl a7w ?_
 iterate 7 refine z ?_
 refine a0W (ι := Nat) (fun zz => ⟨[(0, .one (.dv [] (a0F (x)))), (3, .one (.key 7)), (4, .one (.dv [] (.int .i64 ((zz : Int)))))], [], [(7, some (a0d false (.sl 111 7 ((x).length) (a1M eOp [.int .i64 (0), .str (ByteArray.empty), .int .i64 (0), .int .i64 (0), .str (ByteArray.empty), .sl 161 2 0 [], .str (ByteArray.empty)] x zz))))]⟩) (fun zz => zz ≤ x.length) (fun zz => x.length - zz) (0) ?_ (a0e ⟨rfl, rfl, rfl, trivial⟩ trivial ⟨rfl, trivial⟩ rfl) (fun zz hx => ?_)
 ·exact Nat.zero_le _
 obtain ⟨k, rfl⟩ : ∃ v, v = zz := ⟨_, rfl⟩
 replace hx : k ≤ x.length := hx
 have hw := fun h => a1T wOp x k h
 have hw2 := a5w wOp x (k + 1)
 have hw3 : a0s wOp x = x.length + wSum wOp x := rfl
 show Ok _ _ _ _ _ (⟨[(0, .one (.dv [] (a0F (x)))), (3, .one (.key 7)), (4, .one (.dv [] (.int .i64 ((k : Int)))))], [], [(7, some (a0d false (.sl 111 7 ((x).length) (a1M eOp [.int .i64 (0), .str (ByteArray.empty), .int .i64 (0), .int .i64 (0), .str (ByteArray.empty), .sl 161 2 0 [], .str (ByteArray.empty)] x k))))]⟩ : St)
 iterate 7 refine z ?_
 refine yQ rfl (fun c1 => ?_) fun c1 => ?_
 ·have d1 := c5p c1
  iterate 4 refine z ?_
  refine a0j ?_
  iterate 6 refine z ?_
  refine zK 20000 Tryz.call130 ?_ (hf := c1S (by first | omega | (simp only [a2x, a1v, a2e, a1a, a0v, a1m, a1r, wOp, wTx, a1z] at hb ⊢; omega) | (have hq := hw (by omega); omega)))
  refine yO rfl rfl (a1q (i := k) hT rfl rfl rfl (a0a rfl) rfl (a0a rfl) rfl (by show _ < ((x).length); omega)) rfl ?_
  refine a1u (js := [42007]) (cs := a1M eOp [.int .i64 (0), .str (ByteArray.empty), .int .i64 (0), .int .i64 (0), .str (ByteArray.empty), .sl 161 2 0 [], .str (ByteArray.empty)] x (k + 1)) hT rfl rfl rfl rfl (a0a rfl) (a0a rfl) rfl rfl rfl rfl (a0o (a0C rfl) (a0o (a0C rfl) (a0o (a0C rfl) (a0o (a0C rfl) (a0o (a0C rfl) (a0o (a1Y rfl) (a0o (a0C rfl) a1e rfl) rfl) rfl) rfl) rfl) rfl) rfl) (by decide) (by decide) rfl (by show _ ≤ List.length (a1M eOp [.int .i64 (0), .str (ByteArray.empty), .int .i64 (0), .int .i64 (0), .str (ByteArray.empty), .sl 161 2 0 [], .str (ByteArray.empty)] x k); rw [a7d (sz := 7) (fun _ => rfl) rfl]; omega) (a7c (sz := 7) (fun _ => rfl) rfl (by omega) rfl) ?_
  simp only [a0i, a0h, SV.kill, CV.kill, kk, Nat.reduceBEq]
  refine a1j ?_
  iterate 2 refine z ?_
  refine a0j ?_
  iterate 4 refine z ?_
  refine ⟨k + 1, ?_, ?_, a0e ⟨rfl, rfl, rfl, trivial⟩ trivial ⟨rfl, trivial⟩ rfl⟩
  ·omega
  ·omega
 ·have d1 := c5q c1
  iterate 9 refine z ?_
  refine a0r (σ' := ⟨[(2, .one (.key 7))], [], [(7, some (a0d false (a0F (x))))]⟩) (a0e ⟨rfl, trivial⟩ trivial ⟨(congrArg (fun cs => some (some (KC.mk false 111 7 x.length cs))) (a7u (by omega))), trivial⟩ rfl) ?_
  refine z ?_
  refine a1B (a0B rfl) ?_
  exact ⟨rfl, rfl⟩
theorem c3D {x : List (OpT)}  : PFn Tryz.prog 116 [.one (.dv [] (a0F (x))), .one (.dv [] (a0F (x)))] (.one (.dv [] (.bool (true)))) := by
 refine ⟨a0u Tryz.func116 rfl Tryz.ntmps116 Tryz.results116 rfl (fun C => ?_)⟩
 refine a0G (x := .tmp 0) (a0a rfl) fun f0 => ?_
 refine a0G (x := .tmp 1) (a0a rfl) fun f1 => ?_
 iterate 11 refine z ?_
 refine yQ rfl (fun c1 => ?_) fun c1 => ?_
 ·have d1 := a2g c1
  iterate 6 refine z ?_
  first | rfl | (exfalso; simp_all [sEq])
 ·have d1 := a2j c1
  iterate 7 refine z ?_
  refine a0W (ι := Nat) (fun zz => ⟨[(0, .one (.dv [] (a0F (x)))), (1, .one (.dv [] (a0F (x)))), (5, .one (.dv [] (.int .i64 ((zz : Int)))))], [], []⟩) (fun zz => zz ≤ x.length) (fun zz => x.length - zz) (0) ?_ (a0e ⟨rfl, rfl, rfl, trivial⟩ trivial trivial rfl) (fun zz hx => ?_)
  ·exact Nat.zero_le _
  obtain ⟨k, rfl⟩ : ∃ v, v = zz := ⟨_, rfl⟩
  replace hx : k ≤ x.length := hx
  show Ok _ _ _ _ _ (⟨[(0, .one (.dv [] (a0F (x)))), (1, .one (.dv [] (a0F (x)))), (5, .one (.dv [] (.int .i64 ((k : Int)))))], [], []⟩ : St)
  iterate 7 refine z ?_
  refine yQ rfl (fun c2 => ?_) fun c2 => ?_
  ·have d2 := c5p c2
   iterate 4 refine z ?_
   refine a0p ?_
   refine a1o (oB := []) (oK := []) (by kernel_rfl) rfl rfl ?_
   refine zD 0 ?_
   refine zD 1 ?_
   refine zD 2 ?_
   refine zD 3 ?_
   refine zD 4 ?_
   refine zD 5 ?_
   refine zD 6 ?_
   refine zD 7 ?_
   refine a2v 8 rfl (by kernel_rfl) rfl rfl rfl Tryz.call146 b9r (a0f (a0a rfl) (a0l (a0c a0b (a0c a0b (a0c a0b (a0c a0b (a0c a0b (a0c a0b (a0c a0b a0m)))))))) (a0f (a0a rfl) (a0l (a0c a0b (a0c a0b (a0c a0b (a0c a0b (a0c a0b (a0c a0b (a0c a0b a0m)))))))) a0n)) rfl rfl rfl rfl ?_
   refine zD 9 ?_
   refine a1R (by kernel_rfl) ?_
   refine z ?_
   refine yQ rfl (fun c3 => ?_) fun c3 => ?_
   ·iterate 10 refine z ?_
    first | rfl | (exfalso; simp_all [sEq])
   ·iterate 3 refine z ?_
    refine a0j ?_
    iterate 4 refine z ?_
    refine ⟨k + 1, ?_, ?_, a0e ⟨rfl, rfl, rfl, trivial⟩ trivial trivial rfl⟩
    ·omega
    ·omega
  ·have d2 := c5q c2
   iterate 10 refine z ?_
   first | rfl | (exfalso; simp_all [sEq])
theorem b9w {x : a0Q} {left : Int} (h0 : 0 ≤ left) (h1 : left ≤ 1048576) : PFn Tryz.prog 119 [.agg [(.dv [] (.int .i64 (x.1.1))), (.dv [] (.int .i64 (x.1.2.1))), (.dv [] (.str (x.1.2.2))), (.dv [] (a0z (x.2)))], .one (.dv [] (.int .i64 (left)))] (.one (.dv [] (.int .i64 (szR (left) (a1a x))))) := by
 refine ⟨a0u Tryz.func119 rfl Tryz.ntmps119 Tryz.results119 rfl (fun C => ?_)⟩
 refine yF 0 0 rfl rfl fun f0_0 => ?_
 refine yF 0 1 rfl rfl fun f0_1 => ?_
 refine yF 0 2 rfl rfl fun f0_2 => ?_
 refine yF 0 3 rfl rfl fun f0_3 => ?_
 refine a0G (x := .tmp 1) (a0a rfl) fun f1 => ?_
 iterate 8 refine z ?_
 refine zC Tryz.call147 ?_ (hf := b4e (by omega) (by omega))
 iterate 7 refine z ?_
 refine yQ rfl (fun c1 => ?_) fun c1 => ?_
 ·have d1 := c5p c1
  first | have q1 := a1O d1 | skip
  iterate 6 refine z ?_
  have hh := a1G left (a1a x); simp only [a1a] at hh ⊢ <;> omega
 ·have d1 := c5q c1
  first | have q1 := a1K d1 | skip
  iterate 6 refine z ?_
  refine zC Tryz.call148 ?_ (hf := b4U (by omega) (by omega))
  iterate 7 refine z ?_
  refine yQ rfl (fun c2 => ?_) fun c2 => ?_
  ·have d2 := c5p c2
   first | have q2 := a1O d2 | skip
   iterate 6 refine z ?_
   have hh := a1G left (a1a x); simp only [a1a] at hh ⊢ <;> omega
  ·have d2 := c5q c2
   first | have q2 := a1K d2 | skip
   iterate 8 refine z ?_
   have hh := a1G left (a1a x); simp only [a1a] at hh ⊢ <;> omega
theorem b8A {x : List (a0Q)} {left : Int} (h0 : 0 ≤ left) (h1 : left ≤ 1048576) : PFn Tryz.prog 85 [.one (.dv [] (a0t (x))), .one (.dv [] (.int .i64 (left)))] (.one (.dv [] (.int .i64 (szR (left) (a0s a1a x))))) := by
 refine ⟨a0u Tryz.func85 rfl Tryz.ntmps85 Tryz.results85 rfl (fun C => ?_)⟩
 refine a0G (x := .tmp 0) (a0a rfl) fun f0 => ?_
 refine a0G (x := .tmp 1) (a0a rfl) fun f1 => ?_
 iterate 15 refine z ?_
 refine yQ rfl (fun c1 => ?_) fun c1 => ?_
 ·have d1 := c5p c1
  first | have q1 := a1O d1 | skip
  iterate 6 refine z ?_
  have hh := a1G left (a0s a1a x); simp only [a0s] at hh ⊢ <;> omega
 ·have d1 := c5q c1
  first | have q1 := a1K d1 | skip
  iterate 7 refine z ?_
  refine a0W (ι := Nat × Int) (fun zz => ⟨[(0, .one (.dv [] (a0t (x)))), (1, .one (.dv [] (.int .i64 (zz.2)))), (5, .one (.dv [] (.int .i64 ((zz.1 : Int)))))], [], []⟩) (fun zz => zz.1 ≤ x.length ∧ 0 ≤ zz.2 ∧ zz.2 + (wSum a1a (x.take zz.1) : Int) = left - (x.length : Int)) (fun zz => x.length - zz.1) ((0, left - (x.length : Int))) ?_ (a0e ⟨rfl, rfl, rfl, trivial⟩ trivial trivial rfl) (fun zz hx => ?_)
  ·exact ⟨Nat.zero_le _, by omega, by simp [wSum]⟩
  obtain ⟨k, l⟩ := zz
  replace hx : k ≤ x.length ∧ 0 ≤ l ∧ l + (wSum a1a (x.take k) : Int) = left - (x.length : Int) := hx
  obtain ⟨hk, hl, he⟩ := hx
  have hw := fun h => a1T a1a x k h
  show Ok _ _ _ _ _ (⟨[(0, .one (.dv [] (a0t (x)))), (1, .one (.dv [] (.int .i64 (l)))), (5, .one (.dv [] (.int .i64 ((k : Int)))))], [], []⟩ : St)
  iterate 7 refine z ?_
  refine yQ rfl (fun c2 => ?_) fun c2 => ?_
  ·have d2 := c5p c2
   first | have q2 := a1O d2 | skip
   iterate 10 refine z ?_
   refine zC Tryz.call119 ?_ (hf := b9w (by omega) (by omega))
   iterate 6 refine z ?_
   refine yQ rfl (fun c3 => ?_) fun c3 => ?_
   ·have d3 := c5p c3
    first | have q3 := a1O d3 | skip
    iterate 10 refine z ?_
    have hw' := hw (by omega); have hh := a1G left (a0s a1a x); simp only [a0s] at hh ⊢ <;> omega
   ·have d3 := c5q c3
    first | have q3 := a1K d3 | skip
    iterate 3 refine z ?_
    refine a0j ?_
    iterate 4 refine z ?_
    refine ⟨(k + 1, szR l (a1a (x.getD (k : Int).toNat default))), ?_, ?_, a0e ⟨rfl, rfl, rfl, trivial⟩ trivial trivial rfl⟩
    ·have hw' := hw (by omega)
     dsimp only
     exact ⟨by omega, by omega, by omega⟩
    ·omega
  ·have d2 := c5q c2
   first | have q2 := a1K d2 | skip
   iterate 11 refine z ?_
   have hw' := a3r a1a x k (by omega); have hh := a1G left (a0s a1a x); simp only [a0s] at hh ⊢ <;> omega
theorem c3N {x : a0I} {left : Int} (h0 : 0 ≤ left) (h1 : left ≤ 1048576) : PFn Tryz.prog 48 [.agg [(.dv [] (.str (x.1))), (.dv [] (a0t (x.2.1))), (.dv [] (.int .i64 (x.2.2)))], .one (.dv [] (.int .i64 (left)))] (.one (.dv [] (.int .i64 (szR (left) (a0v x))))) := by
 refine ⟨a0u Tryz.func48 rfl Tryz.ntmps48 Tryz.results48 rfl (fun C => ?_)⟩
 refine yF 0 0 rfl rfl fun f0_0 => ?_
 refine yF 0 1 rfl rfl fun f0_1 => ?_
 refine yF 0 2 rfl rfl fun f0_2 => ?_
 refine a0G (x := .tmp 1) (a0a rfl) fun f1 => ?_
 iterate 17 refine z ?_
 refine yQ rfl (fun c1 => ?_) fun c1 => ?_
 ·have d1 := c5p c1
  first | have q1 := a1O d1 | skip
  iterate 6 refine z ?_
  have hh := a1G left (a0v x); simp only [a0v] at hh ⊢ <;> omega
 ·have d1 := c5q c1
  first | have q1 := a1K d1 | skip
  iterate 6 refine z ?_
  refine zC Tryz.call85 ?_ (hf := b8A (by omega) (by omega))
  iterate 7 refine z ?_
  refine yQ rfl (fun c2 => ?_) fun c2 => ?_
  ·have d2 := c5p c2
   first | have q2 := a1O d2 | skip
   iterate 6 refine z ?_
   have hh := a1G left (a0v x); simp only [a0v] at hh ⊢ <;> omega
  ·have d2 := c5q c2
   first | have q2 := a1K d2 | skip
   iterate 8 refine z ?_
   have hh := a1G left (a0v x); simp only [a0v] at hh ⊢ <;> omega
theorem b8B {x : a0Q} (hb : a1a x ≤ 1048576) : KFn Tryz.prog 129 [.agg [(.dv [] (.int .i64 (x.1.1))), (.dv [] (.int .i64 (x.1.2.1))), (.dv [] (.str (x.1.2.2))), (.dv [] (a0z (x.2)))]] (.agg [(.dv [] (.int .i64 (x.1.1))), (.dv [] (.int .i64 (x.1.2.1))), (.dv [] (.str (x.1.2.2))), (.key 16007)]) [(16007, some (a0d false (a0z (x.2))))] := by
 refine ⟨a0u Tryz.func129 rfl Tryz.ntmps129 Tryz.results129 rfl (fun C => ?_)⟩
 refine yF 0 0 rfl rfl fun f0_0 => ?_
 refine yF 0 1 rfl rfl fun f0_1 => ?_
 refine yF 0 2 rfl rfl fun f0_2 => ?_
 refine yF 0 3 rfl rfl fun f0_3 => ?_
 iterate 10 refine z ?_
 refine zC Tryz.call151 ?_ (hf := b3F)
 iterate 6 refine z ?_
 refine zK 10000 Tryz.call152 ?_ (hf := b5D (by first | omega | (simp only [a2x, a1v, a2e, a1a, a0v, a1m, a1r, wOp, wTx, a1z] at hb ⊢; omega) | (have hq := hw (by omega); omega)))
 iterate 7 refine z ?_
 refine a0r (σ' := ⟨[(2, .box 2 0)], [(2, 128, [(.dv [] (.int .i64 (x.1.1))), (.dv [] (.int .i64 (x.1.2.1))), (.dv [] (.str (x.1.2.2))), (.key 16007)])], [(16007, some (a0d false (a0z (x.2))))]⟩) (a0e ⟨rfl, trivial⟩ ⟨rfl, trivial⟩ ⟨rfl, trivial⟩ rfl) ?_
 refine z ?_
 refine a1B (a0K hT rfl rfl rfl rfl) ?_
 exact ⟨rfl, rfl⟩
theorem c2z {x : List (a0Q)} (hb : a0s a1a x ≤ 1048576) : KFn Tryz.prog 97 [.one (.dv [] (a0t (x)))] (.one (.key 7)) [(7, some (a0d false (a0t (x))))] := by
 refine ⟨a0u Tryz.func97 rfl Tryz.ntmps97 Tryz.results97 rfl (fun C => ?_)⟩
 refine a0G (x := .tmp 0) (a0a rfl) fun f0 => ?_
 iterate 6 refine z ?_
 refine a7v (k := 7) (n := ((x)).length) (zd := [.int .i64 (0), .int .i64 (0), .str (ByteArray.empty), .sl 161 2 0 []]) (cs := a1M a0E [.int .i64 (0), .int .i64 (0), .str (ByteArray.empty), .sl 161 2 0 []] x 0) hT rfl rfl rfl rfl rfl rfl (a0a rfl) (a0a rfl) rfl rfl rfl (by have := a8I a1a x; omega) rfl rfl a7w ?_
 iterate 7 refine z ?_
 refine a0W (ι := Nat) (fun zz => ⟨[(0, .one (.dv [] (a0t (x)))), (3, .one (.key 7)), (4, .one (.dv [] (.int .i64 ((zz : Int)))))], [], [(7, some (a0d false (.sl 128 4 ((x).length) (a1M a0E [.int .i64 (0), .int .i64 (0), .str (ByteArray.empty), .sl 161 2 0 []] x zz))))]⟩) (fun zz => zz ≤ x.length) (fun zz => x.length - zz) (0) ?_ (a0e ⟨rfl, rfl, rfl, trivial⟩ trivial ⟨rfl, trivial⟩ rfl) (fun zz hx => ?_)
 ·exact Nat.zero_le _
 obtain ⟨k, rfl⟩ : ∃ v, v = zz := ⟨_, rfl⟩
 replace hx : k ≤ x.length := hx
 have hw := fun h => a1T a1a x k h
 have hw2 := a5w a1a x (k + 1)
 have hw3 : a0s a1a x = x.length + wSum a1a x := rfl
 show Ok _ _ _ _ _ (⟨[(0, .one (.dv [] (a0t (x)))), (3, .one (.key 7)), (4, .one (.dv [] (.int .i64 ((k : Int)))))], [], [(7, some (a0d false (.sl 128 4 ((x).length) (a1M a0E [.int .i64 (0), .int .i64 (0), .str (ByteArray.empty), .sl 161 2 0 []] x k))))]⟩ : St)
 iterate 7 refine z ?_
 refine yQ rfl (fun c1 => ?_) fun c1 => ?_
 ·have d1 := c5p c1
  iterate 4 refine z ?_
  refine a0j ?_
  iterate 6 refine z ?_
  refine zK 20000 Tryz.call129 ?_ (hf := b8B (by first | omega | (simp only [a2x, a1v, a2e, a1a, a0v, a1m, a1r, wOp, wTx, a1z] at hb ⊢; omega) | (have hq := hw (by omega); omega)))
  refine yO rfl rfl (a1q (i := k) hT rfl rfl rfl (a0a rfl) rfl (a0a rfl) rfl (by show _ < ((x).length); omega)) rfl ?_
  refine a1u (js := [36007]) (cs := a1M a0E [.int .i64 (0), .int .i64 (0), .str (ByteArray.empty), .sl 161 2 0 []] x (k + 1)) hT rfl rfl rfl rfl (a0a rfl) (a0a rfl) rfl rfl rfl rfl (a0o (a0C rfl) (a0o (a0C rfl) (a0o (a0C rfl) (a0o (a1Y rfl) a1e rfl) rfl) rfl) rfl) (by decide) (by decide) rfl (by show _ ≤ List.length (a1M a0E [.int .i64 (0), .int .i64 (0), .str (ByteArray.empty), .sl 161 2 0 []] x k); rw [a7d (sz := 4) (fun _ => rfl) rfl]; omega) (a7c (sz := 4) (fun _ => rfl) rfl (by omega) rfl) ?_
  simp only [a0i, a0h, SV.kill, CV.kill, kk, Nat.reduceBEq]
  refine a1j ?_
  iterate 2 refine z ?_
  refine a0j ?_
  iterate 4 refine z ?_
  refine ⟨k + 1, ?_, ?_, a0e ⟨rfl, rfl, rfl, trivial⟩ trivial ⟨rfl, trivial⟩ rfl⟩
  ·omega
  ·omega
 ·have d1 := c5q c1
  iterate 9 refine z ?_
  refine a0r (σ' := ⟨[(2, .one (.key 7))], [], [(7, some (a0d false (a0t (x))))]⟩) (a0e ⟨rfl, trivial⟩ trivial ⟨(congrArg (fun cs => some (some (KC.mk false 128 4 x.length cs))) (a7u (by omega))), trivial⟩ rfl) ?_
  refine z ?_
  refine a1B (a0B rfl) ?_
  exact ⟨rfl, rfl⟩
theorem c4T {x : a0I} (hb : a0v x ≤ 1048576) : KFn Tryz.prog 63 [.agg [(.dv [] (.str (x.1))), (.dv [] (a0t (x.2.1))), (.dv [] (.int .i64 (x.2.2)))]] (.agg [(.dv [] (.str (x.1))), (.key 9007), (.dv [] (.int .i64 (x.2.2)))]) [(9007, some (a0d false (a0t (x.2.1))))] := by
 refine ⟨a0u Tryz.func63 rfl Tryz.ntmps63 Tryz.results63 rfl (fun C => ?_)⟩
 refine yF 0 0 rfl rfl fun f0_0 => ?_
 refine yF 0 1 rfl rfl fun f0_1 => ?_
 refine yF 0 2 rfl rfl fun f0_2 => ?_
 iterate 16 refine z ?_
 refine zK 9000 Tryz.call97 ?_ (hf := c2z (by first | omega | (simp only [a2x, a1v, a2e, a1a, a0v, a1m, a1r, wOp, wTx, a1z] at hb ⊢; omega) | (have hq := hw (by omega); omega)))
 iterate 13 refine z ?_
 refine a0r (σ' := ⟨[(2, .box 2 0)], [(2, 89, [(.dv [] (.str (x.1))), (.key 9007), (.dv [] (.int .i64 (x.2.2)))])], [(9007, some (a0d false (a0t (x.2.1))))]⟩) (a0e ⟨rfl, trivial⟩ ⟨rfl, trivial⟩ ⟨rfl, trivial⟩ rfl) ?_
 refine z ?_
 refine a1B (a0K hT rfl rfl rfl rfl) ?_
 exact ⟨rfl, rfl⟩
theorem c2y {x : a0Q}  : PFn Tryz.prog 145 [.agg [(.dv [] (.int .i64 (x.1.1))), (.dv [] (.int .i64 (x.1.2.1))), (.dv [] (.str (x.1.2.2))), (.dv [] (a0z (x.2)))], .agg [(.dv [] (.int .i64 (x.1.1))), (.dv [] (.int .i64 (x.1.2.1))), (.dv [] (.str (x.1.2.2))), (.dv [] (a0z (x.2)))]] (.one (.dv [] (.bool (true)))) := by
 refine ⟨a0u Tryz.func145 rfl Tryz.ntmps145 Tryz.results145 rfl (fun C => ?_)⟩
 refine yF 0 0 rfl rfl fun f0_0 => ?_
 refine yF 0 1 rfl rfl fun f0_1 => ?_
 refine yF 0 2 rfl rfl fun f0_2 => ?_
 refine yF 0 3 rfl rfl fun f0_3 => ?_
 refine yF 1 0 rfl rfl fun f1_0 => ?_
 refine yF 1 1 rfl rfl fun f1_1 => ?_
 refine yF 1 2 rfl rfl fun f1_2 => ?_
 refine yF 1 3 rfl rfl fun f1_3 => ?_
 iterate 11 refine z ?_
 refine zC Tryz.call175 ?_ (hf := b4G)
 iterate 2 refine z ?_
 refine yQ rfl (fun c1 => ?_) fun c1 => ?_
 ·iterate 6 refine z ?_
  first | rfl | (exfalso; simp_all [sEq])
 ·iterate 8 refine z ?_
  refine zC Tryz.call176 ?_ (hf := b3K)
  iterate 2 refine z ?_
  refine yQ rfl (fun c2 => ?_) fun c2 => ?_
  ·iterate 6 refine z ?_
   first | rfl | (exfalso; simp_all [sEq])
  ·iterate 7 refine z ?_
   first | rfl | (exfalso; simp_all [sEq])
theorem c0N {x : List (a0Q)}  : PFn Tryz.prog 115 [.one (.dv [] (a0t (x))), .one (.dv [] (a0t (x)))] (.one (.dv [] (.bool (true)))) := by
 refine ⟨a0u Tryz.func115 rfl Tryz.ntmps115 Tryz.results115 rfl (fun C => ?_)⟩
 refine a0G (x := .tmp 0) (a0a rfl) fun f0 => ?_
 refine a0G (x := .tmp 1) (a0a rfl) fun f1 => ?_
 iterate 11 refine z ?_
 refine yQ rfl (fun c1 => ?_) fun c1 => ?_
 ·have d1 := a2g c1
  iterate 6 refine z ?_
  first | rfl | (exfalso; simp_all [sEq])
 ·have d1 := a2j c1
  iterate 7 refine z ?_
  refine a0W (ι := Nat) (fun zz => ⟨[(0, .one (.dv [] (a0t (x)))), (1, .one (.dv [] (a0t (x)))), (5, .one (.dv [] (.int .i64 ((zz : Int)))))], [], []⟩) (fun zz => zz ≤ x.length) (fun zz => x.length - zz) (0) ?_ (a0e ⟨rfl, rfl, rfl, trivial⟩ trivial trivial rfl) (fun zz hx => ?_)
  ·exact Nat.zero_le _
  obtain ⟨k, rfl⟩ : ∃ v, v = zz := ⟨_, rfl⟩
  replace hx : k ≤ x.length := hx
  show Ok _ _ _ _ _ (⟨[(0, .one (.dv [] (a0t (x)))), (1, .one (.dv [] (a0t (x)))), (5, .one (.dv [] (.int .i64 ((k : Int)))))], [], []⟩ : St)
  iterate 7 refine z ?_
  refine yQ rfl (fun c2 => ?_) fun c2 => ?_
  ·have d2 := c5p c2
   iterate 4 refine z ?_
   refine a0p ?_
   refine a1o (oB := []) (oK := []) (by kernel_rfl) rfl rfl ?_
   refine zD 0 ?_
   refine zD 1 ?_
   refine zD 2 ?_
   refine zD 3 ?_
   refine zD 4 ?_
   refine zD 5 ?_
   refine zD 6 ?_
   refine zD 7 ?_
   refine a2v 8 rfl (by kernel_rfl) rfl rfl rfl Tryz.call145 c2y (a0f (a0a rfl) (a0l (a0c a0b (a0c a0b (a0c a0b (a0c a0b a0m))))) (a0f (a0a rfl) (a0l (a0c a0b (a0c a0b (a0c a0b (a0c a0b a0m))))) a0n)) rfl rfl rfl rfl ?_
   refine zD 9 ?_
   refine a1R (by kernel_rfl) ?_
   refine z ?_
   refine yQ rfl (fun c3 => ?_) fun c3 => ?_
   ·iterate 10 refine z ?_
    first | rfl | (exfalso; simp_all [sEq])
   ·iterate 3 refine z ?_
    refine a0j ?_
    iterate 4 refine z ?_
    refine ⟨k + 1, ?_, ?_, a0e ⟨rfl, rfl, rfl, trivial⟩ trivial trivial rfl⟩
    ·omega
    ·omega
  ·have d2 := c5q c2
   iterate 10 refine z ?_
   first | rfl | (exfalso; simp_all [sEq])
theorem c3Z {x : a0I}  : PFn Tryz.prog 77 [.agg [(.dv [] (.str (x.1))), (.dv [] (a0t (x.2.1))), (.dv [] (.int .i64 (x.2.2)))], .agg [(.dv [] (.str (x.1))), (.dv [] (a0t (x.2.1))), (.dv [] (.int .i64 (x.2.2)))]] (.one (.dv [] (.bool (true)))) := by
 refine ⟨a0u Tryz.func77 rfl Tryz.ntmps77 Tryz.results77 rfl (fun C => ?_)⟩
 refine yF 0 0 rfl rfl fun f0_0 => ?_
 refine yF 0 1 rfl rfl fun f0_1 => ?_
 refine yF 0 2 rfl rfl fun f0_2 => ?_
 refine yF 1 0 rfl rfl fun f1_0 => ?_
 refine yF 1 1 rfl rfl fun f1_1 => ?_
 refine yF 1 2 rfl rfl fun f1_2 => ?_
 iterate 13 refine z ?_
 refine yQ rfl (fun c1 => ?_) fun c1 => ?_
 ·iterate 6 refine z ?_
  first | rfl | (exfalso; simp_all [sEq])
 ·iterate 8 refine z ?_
  refine zC Tryz.call115 ?_ (hf := c0N)
  iterate 2 refine z ?_
  refine yQ rfl (fun c2 => ?_) fun c2 => ?_
  ·iterate 6 refine z ?_
   first | rfl | (exfalso; simp_all [sEq])
  ·iterate 10 refine z ?_
   refine yQ rfl (fun c3 => ?_) fun c3 => ?_
   ·have d3 := a2g c3
    iterate 6 refine z ?_
    first | rfl | (exfalso; simp_all [sEq])
   ·have d3 := a2j c3
    iterate 7 refine z ?_
    first | rfl | (exfalso; simp_all [sEq])
theorem b5G {x : List (a0I)} {left : Int} (h0 : 0 ≤ left) (h1 : left ≤ 1048576) : PFn Tryz.prog 19 [.one (.dv [] (a0k (x))), .one (.dv [] (.int .i64 (left)))] (.one (.dv [] (.int .i64 (szR (left) (a0s a0v x))))) := by
 refine ⟨a0u Tryz.func19 rfl Tryz.ntmps19 Tryz.results19 rfl (fun C => ?_)⟩
 refine a0G (x := .tmp 0) (a0a rfl) fun f0 => ?_
 refine a0G (x := .tmp 1) (a0a rfl) fun f1 => ?_
 iterate 15 refine z ?_
 refine yQ rfl (fun c1 => ?_) fun c1 => ?_
 ·have d1 := c5p c1
  first | have q1 := a1O d1 | skip
  iterate 6 refine z ?_
  have hh := a1G left (a0s a0v x); simp only [a0s] at hh ⊢ <;> omega
 ·have d1 := c5q c1
  first | have q1 := a1K d1 | skip
  iterate 7 refine z ?_
  refine a0W (ι := Nat × Int) (fun zz => ⟨[(0, .one (.dv [] (a0k (x)))), (1, .one (.dv [] (.int .i64 (zz.2)))), (5, .one (.dv [] (.int .i64 ((zz.1 : Int)))))], [], []⟩) (fun zz => zz.1 ≤ x.length ∧ 0 ≤ zz.2 ∧ zz.2 + (wSum a0v (x.take zz.1) : Int) = left - (x.length : Int)) (fun zz => x.length - zz.1) ((0, left - (x.length : Int))) ?_ (a0e ⟨rfl, rfl, rfl, trivial⟩ trivial trivial rfl) (fun zz hx => ?_)
  ·exact ⟨Nat.zero_le _, by omega, by simp [wSum]⟩
  obtain ⟨k, l⟩ := zz
  replace hx : k ≤ x.length ∧ 0 ≤ l ∧ l + (wSum a0v (x.take k) : Int) = left - (x.length : Int) := hx
  obtain ⟨hk, hl, he⟩ := hx
  have hw := fun h => a1T a0v x k h
  show Ok _ _ _ _ _ (⟨[(0, .one (.dv [] (a0k (x)))), (1, .one (.dv [] (.int .i64 (l)))), (5, .one (.dv [] (.int .i64 ((k : Int)))))], [], []⟩ : St)
  iterate 7 refine z ?_
  refine yQ rfl (fun c2 => ?_) fun c2 => ?_
  ·have d2 := c5p c2
   first | have q2 := a1O d2 | skip
   iterate 10 refine z ?_
   refine zC Tryz.call48 ?_ (hf := c3N (by omega) (by omega))
   iterate 6 refine z ?_
   refine yQ rfl (fun c3 => ?_) fun c3 => ?_
   ·have d3 := c5p c3
    first | have q3 := a1O d3 | skip
    iterate 10 refine z ?_
    have hw' := hw (by omega); have hh := a1G left (a0s a0v x); simp only [a0s] at hh ⊢ <;> omega
   ·have d3 := c5q c3
    first | have q3 := a1K d3 | skip
    iterate 3 refine z ?_
    refine a0j ?_
    iterate 4 refine z ?_
    refine ⟨(k + 1, szR l (a0v (x.getD (k : Int).toNat default))), ?_, ?_, a0e ⟨rfl, rfl, rfl, trivial⟩ trivial trivial rfl⟩
    ·have hw' := hw (by omega)
     dsimp only
     exact ⟨by omega, by omega, by omega⟩
    ·omega
  ·have d2 := c5q c2
   first | have q2 := a1K d2 | skip
   iterate 11 refine z ?_
   have hw' := a3r a0v x k (by omega); have hh := a1G left (a0s a0v x); simp only [a0s] at hh ⊢ <;> omega
theorem b6P {x : List (a0I)} (hb : a0s a0v x ≤ 1048576) : KFn Tryz.prog 30 [.one (.dv [] (a0k (x)))] (.one (.key 7)) [(7, some (a0d false (a0k (x))))] := by
 refine ⟨a0u Tryz.func30 rfl Tryz.ntmps30 Tryz.results30 rfl (fun C => ?_)⟩
 refine a0G (x := .tmp 0) (a0a rfl) fun f0 => ?_
 iterate 6 refine z ?_
 refine a7v (k := 7) (n := ((x)).length) (zd := [.str (ByteArray.empty), .sl 128 4 0 [], .int .i64 (0)]) (cs := a1M a0U [.str (ByteArray.empty), .sl 128 4 0 [], .int .i64 (0)] x 0) hT rfl rfl rfl rfl rfl rfl (a0a rfl) (a0a rfl) rfl rfl rfl (by have := a8I a0v x; omega) rfl rfl a7w ?_
 iterate 7 refine z ?_
 refine a0W (ι := Nat) (fun zz => ⟨[(0, .one (.dv [] (a0k (x)))), (3, .one (.key 7)), (4, .one (.dv [] (.int .i64 ((zz : Int)))))], [], [(7, some (a0d false (.sl 89 3 ((x).length) (a1M a0U [.str (ByteArray.empty), .sl 128 4 0 [], .int .i64 (0)] x zz))))]⟩) (fun zz => zz ≤ x.length) (fun zz => x.length - zz) (0) ?_ (a0e ⟨rfl, rfl, rfl, trivial⟩ trivial ⟨rfl, trivial⟩ rfl) (fun zz hx => ?_)
 ·exact Nat.zero_le _
 obtain ⟨k, rfl⟩ : ∃ v, v = zz := ⟨_, rfl⟩
 replace hx : k ≤ x.length := hx
 have hw := fun h => a1T a0v x k h
 have hw2 := a5w a0v x (k + 1)
 have hw3 : a0s a0v x = x.length + wSum a0v x := rfl
 show Ok _ _ _ _ _ (⟨[(0, .one (.dv [] (a0k (x)))), (3, .one (.key 7)), (4, .one (.dv [] (.int .i64 ((k : Int)))))], [], [(7, some (a0d false (.sl 89 3 ((x).length) (a1M a0U [.str (ByteArray.empty), .sl 128 4 0 [], .int .i64 (0)] x k))))]⟩ : St)
 iterate 7 refine z ?_
 refine yQ rfl (fun c1 => ?_) fun c1 => ?_
 ·have d1 := c5p c1
  iterate 4 refine z ?_
  refine a0j ?_
  iterate 6 refine z ?_
  refine zK 20000 Tryz.call63 ?_ (hf := c4T (by first | omega | (simp only [a2x, a1v, a2e, a1a, a0v, a1m, a1r, wOp, wTx, a1z] at hb ⊢; omega) | (have hq := hw (by omega); omega)))
  refine yO rfl rfl (a1q (i := k) hT rfl rfl rfl (a0a rfl) rfl (a0a rfl) rfl (by show _ < ((x).length); omega)) rfl ?_
  refine a1u (js := [29007]) (cs := a1M a0U [.str (ByteArray.empty), .sl 128 4 0 [], .int .i64 (0)] x (k + 1)) hT rfl rfl rfl rfl (a0a rfl) (a0a rfl) rfl rfl rfl rfl (a0o (a0C rfl) (a0o (a1Y rfl) (a0o (a0C rfl) a1e rfl) rfl) rfl) (by decide) (by decide) rfl (by show _ ≤ List.length (a1M a0U [.str (ByteArray.empty), .sl 128 4 0 [], .int .i64 (0)] x k); rw [a7d (sz := 3) (fun _ => rfl) rfl]; omega) (a7c (sz := 3) (fun _ => rfl) rfl (by omega) rfl) ?_
  simp only [a0i, a0h, SV.kill, CV.kill, kk, Nat.reduceBEq]
  refine a1j ?_
  iterate 2 refine z ?_
  refine a0j ?_
  iterate 4 refine z ?_
  refine ⟨k + 1, ?_, ?_, a0e ⟨rfl, rfl, rfl, trivial⟩ trivial ⟨rfl, trivial⟩ rfl⟩
  ·omega
  ·omega
 ·have d1 := c5q c1
  iterate 9 refine z ?_
  refine a0r (σ' := ⟨[(2, .one (.key 7))], [], [(7, some (a0d false (a0k (x))))]⟩) (a0e ⟨rfl, trivial⟩ trivial ⟨(congrArg (fun cs => some (some (KC.mk false 89 3 x.length cs))) (a7u (by omega))), trivial⟩ rfl) ?_
  refine z ?_
  refine a1B (a0B rfl) ?_
  exact ⟨rfl, rfl⟩
theorem b8l {x : List (a0I)}  : PFn Tryz.prog 39 [.one (.dv [] (a0k (x))), .one (.dv [] (a0k (x)))] (.one (.dv [] (.bool (true)))) := by
 refine ⟨a0u Tryz.func39 rfl Tryz.ntmps39 Tryz.results39 rfl (fun C => ?_)⟩
 refine a0G (x := .tmp 0) (a0a rfl) fun f0 => ?_
 refine a0G (x := .tmp 1) (a0a rfl) fun f1 => ?_
 iterate 11 refine z ?_
 refine yQ rfl (fun c1 => ?_) fun c1 => ?_
 ·have d1 := a2g c1
  iterate 6 refine z ?_
  first | rfl | (exfalso; simp_all [sEq])
 ·have d1 := a2j c1
  iterate 7 refine z ?_
  refine a0W (ι := Nat) (fun zz => ⟨[(0, .one (.dv [] (a0k (x)))), (1, .one (.dv [] (a0k (x)))), (5, .one (.dv [] (.int .i64 ((zz : Int)))))], [], []⟩) (fun zz => zz ≤ x.length) (fun zz => x.length - zz) (0) ?_ (a0e ⟨rfl, rfl, rfl, trivial⟩ trivial trivial rfl) (fun zz hx => ?_)
  ·exact Nat.zero_le _
  obtain ⟨k, rfl⟩ : ∃ v, v = zz := ⟨_, rfl⟩
  replace hx : k ≤ x.length := hx
  show Ok _ _ _ _ _ (⟨[(0, .one (.dv [] (a0k (x)))), (1, .one (.dv [] (a0k (x)))), (5, .one (.dv [] (.int .i64 ((k : Int)))))], [], []⟩ : St)
  iterate 7 refine z ?_
  refine yQ rfl (fun c2 => ?_) fun c2 => ?_
  ·have d2 := c5p c2
   iterate 4 refine z ?_
   refine a0p ?_
   refine a1o (oB := []) (oK := []) (by kernel_rfl) rfl rfl ?_
   refine zD 0 ?_
   refine zD 1 ?_
   refine zD 2 ?_
   refine zD 3 ?_
   refine zD 4 ?_
   refine zD 5 ?_
   refine zD 6 ?_
   refine zD 7 ?_
   refine a2v 8 rfl (by kernel_rfl) rfl rfl rfl Tryz.call77 c3Z (a0f (a0a rfl) (a0l (a0c a0b (a0c a0b (a0c a0b a0m)))) (a0f (a0a rfl) (a0l (a0c a0b (a0c a0b (a0c a0b a0m)))) a0n)) rfl rfl rfl rfl ?_
   refine zD 9 ?_
   refine a1R (by kernel_rfl) ?_
   refine z ?_
   refine yQ rfl (fun c3 => ?_) fun c3 => ?_
   ·iterate 10 refine z ?_
    first | rfl | (exfalso; simp_all [sEq])
   ·iterate 3 refine z ?_
    refine a0j ?_
    iterate 4 refine z ?_
    refine ⟨k + 1, ?_, ?_, a0e ⟨rfl, rfl, rfl, trivial⟩ trivial trivial rfl⟩
    ·omega
    ·omega
  ·have d2 := c5q c2
   iterate 10 refine z ?_
   first | rfl | (exfalso; simp_all [sEq])
theorem b9X {x : a2M} {left : Int} (h0 : 0 ≤ left) (h1 : left ≤ 1048576) : PFn Tryz.prog 49 [.agg [(.dv [] (.str (x.1))), (.dv [] (.str (x.2)))], .one (.dv [] (.int .i64 (left)))] (.one (.dv [] (.int .i64 (szR (left) (a1m x))))) := by
 refine ⟨a0u Tryz.func49 rfl Tryz.ntmps49 Tryz.results49 rfl (fun C => ?_)⟩
 refine yF 0 0 rfl rfl fun f0_0 => ?_
 refine yF 0 1 rfl rfl fun f0_1 => ?_
 refine a0G (x := .tmp 1) (a0a rfl) fun f1 => ?_
 iterate 17 refine z ?_
 refine yQ rfl (fun c1 => ?_) fun c1 => ?_
 ·have d1 := c5p c1
  first | have q1 := a1O d1 | skip
  iterate 6 refine z ?_
  have hh := a1G left (a1m x); simp only [a1m] at hh ⊢ <;> omega
 ·have d1 := c5q c1
  first | have q1 := a1K d1 | skip
  iterate 15 refine z ?_
  refine yQ rfl (fun c2 => ?_) fun c2 => ?_
  ·have d2 := c5p c2
   first | have q2 := a1O d2 | skip
   iterate 6 refine z ?_
   have hh := a1G left (a1m x); simp only [a1m] at hh ⊢ <;> omega
  ·have d2 := c5q c2
   first | have q2 := a1K d2 | skip
   iterate 8 refine z ?_
   have hh := a1G left (a1m x); simp only [a1m] at hh ⊢ <;> omega
theorem c4a {x : List (a2M)} {left : Int} (h0 : 0 ≤ left) (h1 : left ≤ 1048576) : PFn Tryz.prog 20 [.one (.dv [] (a0A (x))), .one (.dv [] (.int .i64 (left)))] (.one (.dv [] (.int .i64 (szR (left) (a0s a1m x))))) := by
 refine ⟨a0u Tryz.func20 rfl Tryz.ntmps20 Tryz.results20 rfl (fun C => ?_)⟩
 refine a0G (x := .tmp 0) (a0a rfl) fun f0 => ?_
 refine a0G (x := .tmp 1) (a0a rfl) fun f1 => ?_
 iterate 15 refine z ?_
 refine yQ rfl (fun c1 => ?_) fun c1 => ?_
 ·have d1 := c5p c1
  first | have q1 := a1O d1 | skip
  iterate 6 refine z ?_
  have hh := a1G left (a0s a1m x); simp only [a0s] at hh ⊢ <;> omega
 ·have d1 := c5q c1
  first | have q1 := a1K d1 | skip
  iterate 7 refine z ?_
  refine a0W (ι := Nat × Int) (fun zz => ⟨[(0, .one (.dv [] (a0A (x)))), (1, .one (.dv [] (.int .i64 (zz.2)))), (5, .one (.dv [] (.int .i64 ((zz.1 : Int)))))], [], []⟩) (fun zz => zz.1 ≤ x.length ∧ 0 ≤ zz.2 ∧ zz.2 + (wSum a1m (x.take zz.1) : Int) = left - (x.length : Int)) (fun zz => x.length - zz.1) ((0, left - (x.length : Int))) ?_ (a0e ⟨rfl, rfl, rfl, trivial⟩ trivial trivial rfl) (fun zz hx => ?_)
  ·exact ⟨Nat.zero_le _, by omega, by simp [wSum]⟩
  obtain ⟨k, l⟩ := zz
  replace hx : k ≤ x.length ∧ 0 ≤ l ∧ l + (wSum a1m (x.take k) : Int) = left - (x.length : Int) := hx
  obtain ⟨hk, hl, he⟩ := hx
  have hw := fun h => a1T a1m x k h
  show Ok _ _ _ _ _ (⟨[(0, .one (.dv [] (a0A (x)))), (1, .one (.dv [] (.int .i64 (l)))), (5, .one (.dv [] (.int .i64 ((k : Int)))))], [], []⟩ : St)
  iterate 7 refine z ?_
  refine yQ rfl (fun c2 => ?_) fun c2 => ?_
  ·have d2 := c5p c2
   first | have q2 := a1O d2 | skip
   iterate 10 refine z ?_
   refine zC Tryz.call49 ?_ (hf := b9X (by omega) (by omega))
   iterate 6 refine z ?_
   refine yQ rfl (fun c3 => ?_) fun c3 => ?_
   ·have d3 := c5p c3
    first | have q3 := a1O d3 | skip
    iterate 10 refine z ?_
    have hw' := hw (by omega); have hh := a1G left (a0s a1m x); simp only [a0s] at hh ⊢ <;> omega
   ·have d3 := c5q c3
    first | have q3 := a1K d3 | skip
    iterate 3 refine z ?_
    refine a0j ?_
    iterate 4 refine z ?_
    refine ⟨(k + 1, szR l (a1m (x.getD (k : Int).toNat default))), ?_, ?_, a0e ⟨rfl, rfl, rfl, trivial⟩ trivial trivial rfl⟩
    ·have hw' := hw (by omega)
     dsimp only
     exact ⟨by omega, by omega, by omega⟩
    ·omega
  ·have d2 := c5q c2
   first | have q2 := a1K d2 | skip
   iterate 11 refine z ?_
   have hw' := a3r a1m x k (by omega); have hh := a1G left (a0s a1m x); simp only [a0s] at hh ⊢ <;> omega
theorem b8H {x : a2M}  : PFn Tryz.prog 64 [.agg [(.dv [] (.str (x.1))), (.dv [] (.str (x.2)))]] (.agg [(.dv [] (.str (x.1))), (.dv [] (.str (x.2)))]) := by
 refine ⟨a0u Tryz.func64 rfl Tryz.ntmps64 Tryz.results64 rfl (fun C => ?_)⟩
 refine yF 0 0 rfl rfl fun f0_0 => ?_
 refine yF 0 1 rfl rfl fun f0_1 => ?_
 iterate 24 refine z ?_
 refine a1B (a0K hT rfl rfl rfl rfl) ?_
 rfl
theorem c3j {x : List (a2M)} (hb : a0s a1m x ≤ 1048576) : KFn Tryz.prog 31 [.one (.dv [] (a0A (x)))] (.one (.key 7)) [(7, some (a0d false (a0A (x))))] := by
 refine ⟨a0u Tryz.func31 rfl Tryz.ntmps31 Tryz.results31 rfl (fun C => ?_)⟩
 refine a0G (x := .tmp 0) (a0a rfl) fun f0 => ?_
 iterate 6 refine z ?_
 refine a7v (k := 7) (n := ((x)).length) (zd := [.str (ByteArray.empty), .str (ByteArray.empty)]) (cs := a1M a1y [.str (ByteArray.empty), .str (ByteArray.empty)] x 0) hT rfl rfl rfl rfl rfl rfl (a0a rfl) (a0a rfl) rfl rfl rfl (by have := a8I a1m x; omega) rfl rfl a7w ?_
 iterate 7 refine z ?_
 refine a0W (ι := Nat) (fun zz => ⟨[(0, .one (.dv [] (a0A (x)))), (3, .one (.key 7)), (4, .one (.dv [] (.int .i64 ((zz : Int)))))], [], [(7, some (a0d false (.sl 95 2 ((x).length) (a1M a1y [.str (ByteArray.empty), .str (ByteArray.empty)] x zz))))]⟩) (fun zz => zz ≤ x.length) (fun zz => x.length - zz) (0) ?_ (a0e ⟨rfl, rfl, rfl, trivial⟩ trivial ⟨rfl, trivial⟩ rfl) (fun zz hx => ?_)
 ·exact Nat.zero_le _
 obtain ⟨k, rfl⟩ : ∃ v, v = zz := ⟨_, rfl⟩
 replace hx : k ≤ x.length := hx
 have hw := fun h => a1T a1m x k h
 have hw2 := a5w a1m x (k + 1)
 have hw3 : a0s a1m x = x.length + wSum a1m x := rfl
 show Ok _ _ _ _ _ (⟨[(0, .one (.dv [] (a0A (x)))), (3, .one (.key 7)), (4, .one (.dv [] (.int .i64 ((k : Int)))))], [], [(7, some (a0d false (.sl 95 2 ((x).length) (a1M a1y [.str (ByteArray.empty), .str (ByteArray.empty)] x k))))]⟩ : St)
 iterate 7 refine z ?_
 refine yQ rfl (fun c1 => ?_) fun c1 => ?_
 ·have d1 := c5p c1
  iterate 4 refine z ?_
  refine a0j ?_
  iterate 6 refine z ?_
  refine zC Tryz.call64 ?_ (hf := b8H)
  refine yO rfl rfl (a1q (i := k) hT rfl rfl rfl (a0a rfl) rfl (a0a rfl) rfl (by show _ < ((x).length); omega)) rfl ?_
  refine a1u (js := []) (cs := a1M a1y [.str (ByteArray.empty), .str (ByteArray.empty)] x (k + 1)) hT rfl rfl rfl rfl (a0a rfl) (a0a rfl) rfl rfl rfl rfl (a0o (a0C rfl) (a0o (a0C rfl) a1e rfl) rfl) (by decide) (by decide) rfl (by show _ ≤ List.length (a1M a1y [.str (ByteArray.empty), .str (ByteArray.empty)] x k); rw [a7d (sz := 2) (fun _ => rfl) rfl]; omega) (a7c (sz := 2) (fun _ => rfl) rfl (by omega) rfl) ?_
  simp only [a0i, a0h, SV.kill, CV.kill, kk, Nat.reduceBEq]
  refine a1j ?_
  iterate 2 refine z ?_
  refine a0j ?_
  iterate 4 refine z ?_
  refine ⟨k + 1, ?_, ?_, a0e ⟨rfl, rfl, rfl, trivial⟩ trivial ⟨rfl, trivial⟩ rfl⟩
  ·omega
  ·omega
 ·have d1 := c5q c1
  iterate 9 refine z ?_
  refine a0r (σ' := ⟨[(2, .one (.key 7))], [], [(7, some (a0d false (a0A (x))))]⟩) (a0e ⟨rfl, trivial⟩ trivial ⟨(congrArg (fun cs => some (some (KC.mk false 95 2 x.length cs))) (a7u (by omega))), trivial⟩ rfl) ?_
  refine z ?_
  refine a1B (a0B rfl) ?_
  exact ⟨rfl, rfl⟩
theorem c4G {x : a2M}  : PFn Tryz.prog 78 [.agg [(.dv [] (.str (x.1))), (.dv [] (.str (x.2)))], .agg [(.dv [] (.str (x.1))), (.dv [] (.str (x.2)))]] (.one (.dv [] (.bool (true)))) := by
 refine ⟨a0u Tryz.func78 rfl Tryz.ntmps78 Tryz.results78 rfl (fun C => ?_)⟩
 refine yF 0 0 rfl rfl fun f0_0 => ?_
 refine yF 0 1 rfl rfl fun f0_1 => ?_
 refine yF 1 0 rfl rfl fun f1_0 => ?_
 refine yF 1 1 rfl rfl fun f1_1 => ?_
 iterate 13 refine z ?_
 refine yQ rfl (fun c1 => ?_) fun c1 => ?_
 ·iterate 6 refine z ?_
  first | rfl | (exfalso; simp_all [sEq])
 ·iterate 10 refine z ?_
  refine yQ rfl (fun c2 => ?_) fun c2 => ?_
  ·iterate 6 refine z ?_
   first | rfl | (exfalso; simp_all [sEq])
  ·iterate 7 refine z ?_
   first | rfl | (exfalso; simp_all [sEq])
theorem c0P {x : List (a2M)}  : PFn Tryz.prog 40 [.one (.dv [] (a0A (x))), .one (.dv [] (a0A (x)))] (.one (.dv [] (.bool (true)))) := by
 refine ⟨a0u Tryz.func40 rfl Tryz.ntmps40 Tryz.results40 rfl (fun C => ?_)⟩
 refine a0G (x := .tmp 0) (a0a rfl) fun f0 => ?_
 refine a0G (x := .tmp 1) (a0a rfl) fun f1 => ?_
 iterate 11 refine z ?_
 refine yQ rfl (fun c1 => ?_) fun c1 => ?_
 ·have d1 := a2g c1
  iterate 6 refine z ?_
  first | rfl | (exfalso; simp_all [sEq])
 ·have d1 := a2j c1
  iterate 7 refine z ?_
  refine a0W (ι := Nat) (fun zz => ⟨[(0, .one (.dv [] (a0A (x)))), (1, .one (.dv [] (a0A (x)))), (5, .one (.dv [] (.int .i64 ((zz : Int)))))], [], []⟩) (fun zz => zz ≤ x.length) (fun zz => x.length - zz) (0) ?_ (a0e ⟨rfl, rfl, rfl, trivial⟩ trivial trivial rfl) (fun zz hx => ?_)
  ·exact Nat.zero_le _
  obtain ⟨k, rfl⟩ : ∃ v, v = zz := ⟨_, rfl⟩
  replace hx : k ≤ x.length := hx
  show Ok _ _ _ _ _ (⟨[(0, .one (.dv [] (a0A (x)))), (1, .one (.dv [] (a0A (x)))), (5, .one (.dv [] (.int .i64 ((k : Int)))))], [], []⟩ : St)
  iterate 7 refine z ?_
  refine yQ rfl (fun c2 => ?_) fun c2 => ?_
  ·have d2 := c5p c2
   iterate 4 refine z ?_
   refine a0p ?_
   refine a1o (oB := []) (oK := []) (by kernel_rfl) rfl rfl ?_
   refine zD 0 ?_
   refine zD 1 ?_
   refine zD 2 ?_
   refine zD 3 ?_
   refine zD 4 ?_
   refine zD 5 ?_
   refine zD 6 ?_
   refine zD 7 ?_
   refine a2v 8 rfl (by kernel_rfl) rfl rfl rfl Tryz.call78 c4G (a0f (a0a rfl) (a0l (a0c a0b (a0c a0b a0m))) (a0f (a0a rfl) (a0l (a0c a0b (a0c a0b a0m))) a0n)) rfl rfl rfl rfl ?_
   refine zD 9 ?_
   refine a1R (by kernel_rfl) ?_
   refine z ?_
   refine yQ rfl (fun c3 => ?_) fun c3 => ?_
   ·iterate 10 refine z ?_
    first | rfl | (exfalso; simp_all [sEq])
   ·iterate 3 refine z ?_
    refine a0j ?_
    iterate 4 refine z ?_
    refine ⟨k + 1, ?_, ?_, a0e ⟨rfl, rfl, rfl, trivial⟩ trivial trivial rfl⟩
    ·omega
    ·omega
  ·have d2 := c5q c2
   iterate 10 refine z ?_
   first | rfl | (exfalso; simp_all [sEq])
theorem c1R {x : DbT} {left : Int} (h0 : 0 ≤ left) (h1 : left ≤ 1048576) : PFn Tryz.prog 4 [.agg [(.dv [] (.str (x.1))), (.dv [] (.int .i64 (x.2.1))), (.dv [] (a0k (x.2.2.1))), (.dv [] (a0A (x.2.2.2)))], .one (.dv [] (.int .i64 (left)))] (.one (.dv [] (.int .i64 (szR (left) (a1r x))))) := by
 refine ⟨a0u Tryz.func4 rfl Tryz.ntmps4 Tryz.results4 rfl (fun C => ?_)⟩
 refine yF 0 0 rfl rfl fun f0_0 => ?_
 refine yF 0 1 rfl rfl fun f0_1 => ?_
 refine yF 0 2 rfl rfl fun f0_2 => ?_
 refine yF 0 3 rfl rfl fun f0_3 => ?_
 refine a0G (x := .tmp 1) (a0a rfl) fun f1 => ?_
 iterate 17 refine z ?_
 refine yQ rfl (fun c1 => ?_) fun c1 => ?_
 ·have d1 := c5p c1
  first | have q1 := a1O d1 | skip
  iterate 6 refine z ?_
  have hh := a1G left (a1r x); simp only [a1r] at hh ⊢ <;> omega
 ·have d1 := c5q c1
  first | have q1 := a1K d1 | skip
  iterate 6 refine z ?_
  refine zC Tryz.call19 ?_ (hf := b5G (by omega) (by omega))
  iterate 7 refine z ?_
  refine yQ rfl (fun c2 => ?_) fun c2 => ?_
  ·have d2 := c5p c2
   first | have q2 := a1O d2 | skip
   iterate 6 refine z ?_
   have hh := a1G left (a1r x); simp only [a1r] at hh ⊢ <;> omega
  ·have d2 := c5q c2
   first | have q2 := a1K d2 | skip
   iterate 6 refine z ?_
   refine zC Tryz.call20 ?_ (hf := c4a (by omega) (by omega))
   iterate 7 refine z ?_
   refine yQ rfl (fun c3 => ?_) fun c3 => ?_
   ·have d3 := c5p c3
    first | have q3 := a1O d3 | skip
    iterate 6 refine z ?_
    have hh := a1G left (a1r x); simp only [a1r] at hh ⊢ <;> omega
   ·have d3 := c5q c3
    first | have q3 := a1K d3 | skip
    iterate 8 refine z ?_
    have hh := a1G left (a1r x); simp only [a1r] at hh ⊢ <;> omega
theorem b0I {x : DbT} (hb : a1r x ≤ 1048576) : KFn Tryz.prog 7 [.agg [(.dv [] (.str (x.1))), (.dv [] (.int .i64 (x.2.1))), (.dv [] (a0k (x.2.2.1))), (.dv [] (a0A (x.2.2.2)))]] (.agg [(.dv [] (.str (x.1))), (.dv [] (.int .i64 (x.2.1))), (.key 12007), (.key 16007)]) [(12007, some (a0d false (a0k (x.2.2.1)))), (16007, some (a0d false (a0A (x.2.2.2))))] := by
 refine ⟨a0u Tryz.func7 rfl Tryz.ntmps7 Tryz.results7 rfl (fun C => ?_)⟩
 refine yF 0 0 rfl rfl fun f0_0 => ?_
 refine yF 0 1 rfl rfl fun f0_1 => ?_
 refine yF 0 2 rfl rfl fun f0_2 => ?_
 refine yF 0 3 rfl rfl fun f0_3 => ?_
 iterate 22 refine z ?_
 refine zK 12000 Tryz.call30 ?_ (hf := b6P (by first | omega | (simp only [a2x, a1v, a2e, a1a, a0v, a1m, a1r, wOp, wTx, a1z] at hb ⊢; omega) | (have hq := hw (by omega); omega)))
 iterate 6 refine z ?_
 refine zK 16000 Tryz.call31 ?_ (hf := c3j (by first | omega | (simp only [a2x, a1v, a2e, a1a, a0v, a1m, a1r, wOp, wTx, a1z] at hb ⊢; omega) | (have hq := hw (by omega); omega)))
 iterate 7 refine z ?_
 refine a0r (σ' := ⟨[(2, .box 2 0)], [(2, 35, [(.dv [] (.str (x.1))), (.dv [] (.int .i64 (x.2.1))), (.key 12007), (.key 16007)])], [(12007, some (a0d false (a0k (x.2.2.1)))), (16007, some (a0d false (a0A (x.2.2.2))))]⟩) (a0e ⟨rfl, trivial⟩ ⟨rfl, trivial⟩ ⟨rfl, rfl, trivial⟩ rfl) ?_
 refine z ?_
 refine a1B (a0K hT rfl rfl rfl rfl) ?_
 exact ⟨rfl, rfl⟩
theorem b1d {x : DbT}  : PFn Tryz.prog 11 [.agg [(.dv [] (.str (x.1))), (.dv [] (.int .i64 (x.2.1))), (.dv [] (a0k (x.2.2.1))), (.dv [] (a0A (x.2.2.2)))], .agg [(.dv [] (.str (x.1))), (.dv [] (.int .i64 (x.2.1))), (.dv [] (a0k (x.2.2.1))), (.dv [] (a0A (x.2.2.2)))]] (.one (.dv [] (.bool (true)))) := by
 refine ⟨a0u Tryz.func11 rfl Tryz.ntmps11 Tryz.results11 rfl (fun C => ?_)⟩
 refine yF 0 0 rfl rfl fun f0_0 => ?_
 refine yF 0 1 rfl rfl fun f0_1 => ?_
 refine yF 0 2 rfl rfl fun f0_2 => ?_
 refine yF 0 3 rfl rfl fun f0_3 => ?_
 refine yF 1 0 rfl rfl fun f1_0 => ?_
 refine yF 1 1 rfl rfl fun f1_1 => ?_
 refine yF 1 2 rfl rfl fun f1_2 => ?_
 refine yF 1 3 rfl rfl fun f1_3 => ?_
 iterate 13 refine z ?_
 refine yQ rfl (fun c1 => ?_) fun c1 => ?_
 ·iterate 6 refine z ?_
  first | rfl | (exfalso; simp_all [sEq])
 ·iterate 10 refine z ?_
  refine yQ rfl (fun c2 => ?_) fun c2 => ?_
  ·have d2 := a2g c2
   iterate 6 refine z ?_
   first | rfl | (exfalso; simp_all [sEq])
  ·have d2 := a2j c2
   iterate 8 refine z ?_
   refine zC Tryz.call39 ?_ (hf := b8l)
   iterate 2 refine z ?_
   refine yQ rfl (fun c3 => ?_) fun c3 => ?_
   ·iterate 6 refine z ?_
    first | rfl | (exfalso; simp_all [sEq])
   ·iterate 8 refine z ?_
    refine zC Tryz.call40 ?_ (hf := c0P)
    iterate 2 refine z ?_
    refine yQ rfl (fun c4 => ?_) fun c4 => ?_
    ·iterate 6 refine z ?_
     first | rfl | (exfalso; simp_all [sEq])
    ·iterate 7 refine z ?_
     first | rfl | (exfalso; simp_all [sEq])
theorem c2r {x : TxT} {left : Int} (h0 : 0 ≤ left) (h1 : left ≤ 1048576) : PFn Tryz.prog 50 [.agg [(.dv [] (.int .i64 (x.1))), (.dv [] (a0F (x.2.1))), (.dv [] (.int .i64 (x.2.2.1))), (.dv [] (.int .i64 (x.2.2.2.1))), (.dv [] (a0k (x.2.2.2.2)))], .one (.dv [] (.int .i64 (left)))] (.one (.dv [] (.int .i64 (szR (left) (wTx x))))) := by
 refine ⟨a0u Tryz.func50 rfl Tryz.ntmps50 Tryz.results50 rfl (fun C => ?_)⟩
 refine yF 0 0 rfl rfl fun f0_0 => ?_
 refine yF 0 1 rfl rfl fun f0_1 => ?_
 refine yF 0 2 rfl rfl fun f0_2 => ?_
 refine yF 0 3 rfl rfl fun f0_3 => ?_
 refine yF 0 4 rfl rfl fun f0_4 => ?_
 refine a0G (x := .tmp 1) (a0a rfl) fun f1 => ?_
 iterate 8 refine z ?_
 refine zC Tryz.call86 ?_ (hf := b9Q (by omega) (by omega))
 iterate 7 refine z ?_
 refine yQ rfl (fun c1 => ?_) fun c1 => ?_
 ·have d1 := c5p c1
  first | have q1 := a1O d1 | skip
  iterate 6 refine z ?_
  have hh := a1G left (wTx x); simp only [wTx] at hh ⊢ <;> omega
 ·have d1 := c5q c1
  first | have q1 := a1K d1 | skip
  iterate 6 refine z ?_
  refine zC Tryz.call19 ?_ (hf := b5G (by omega) (by omega))
  iterate 7 refine z ?_
  refine yQ rfl (fun c2 => ?_) fun c2 => ?_
  ·have d2 := c5p c2
   first | have q2 := a1O d2 | skip
   iterate 6 refine z ?_
   have hh := a1G left (wTx x); simp only [wTx] at hh ⊢ <;> omega
  ·have d2 := c5q c2
   first | have q2 := a1K d2 | skip
   iterate 8 refine z ?_
   have hh := a1G left (wTx x); simp only [wTx] at hh ⊢ <;> omega
theorem c1m {x : List (TxT)} {left : Int} (h0 : 0 ≤ left) (h1 : left ≤ 1048576) : PFn Tryz.prog 21 [.one (.dv [] (a0Z (x))), .one (.dv [] (.int .i64 (left)))] (.one (.dv [] (.int .i64 (szR (left) (a0s wTx x))))) := by
 refine ⟨a0u Tryz.func21 rfl Tryz.ntmps21 Tryz.results21 rfl (fun C => ?_)⟩
 refine a0G (x := .tmp 0) (a0a rfl) fun f0 => ?_
 refine a0G (x := .tmp 1) (a0a rfl) fun f1 => ?_
 iterate 15 refine z ?_
 refine yQ rfl (fun c1 => ?_) fun c1 => ?_
 ·have d1 := c5p c1
  first | have q1 := a1O d1 | skip
  iterate 6 refine z ?_
  have hh := a1G left (a0s wTx x); simp only [a0s] at hh ⊢ <;> omega
 ·have d1 := c5q c1
  first | have q1 := a1K d1 | skip
  iterate 7 refine z ?_
  refine a0W (ι := Nat × Int) (fun zz => ⟨[(0, .one (.dv [] (a0Z (x)))), (1, .one (.dv [] (.int .i64 (zz.2)))), (5, .one (.dv [] (.int .i64 ((zz.1 : Int)))))], [], []⟩) (fun zz => zz.1 ≤ x.length ∧ 0 ≤ zz.2 ∧ zz.2 + (wSum wTx (x.take zz.1) : Int) = left - (x.length : Int)) (fun zz => x.length - zz.1) ((0, left - (x.length : Int))) ?_ (a0e ⟨rfl, rfl, rfl, trivial⟩ trivial trivial rfl) (fun zz hx => ?_)
  ·exact ⟨Nat.zero_le _, by omega, by simp [wSum]⟩
  obtain ⟨k, l⟩ := zz
  replace hx : k ≤ x.length ∧ 0 ≤ l ∧ l + (wSum wTx (x.take k) : Int) = left - (x.length : Int) := hx
  obtain ⟨hk, hl, he⟩ := hx
  have hw := fun h => a1T wTx x k h
  show Ok _ _ _ _ _ (⟨[(0, .one (.dv [] (a0Z (x)))), (1, .one (.dv [] (.int .i64 (l)))), (5, .one (.dv [] (.int .i64 ((k : Int)))))], [], []⟩ : St)
  iterate 7 refine z ?_
  refine yQ rfl (fun c2 => ?_) fun c2 => ?_
  ·have d2 := c5p c2
   first | have q2 := a1O d2 | skip
   iterate 10 refine z ?_
   refine zC Tryz.call50 ?_ (hf := c2r (by omega) (by omega))
   iterate 6 refine z ?_
   refine yQ rfl (fun c3 => ?_) fun c3 => ?_
   ·have d3 := c5p c3
    first | have q3 := a1O d3 | skip
    iterate 10 refine z ?_
    have hw' := hw (by omega); have hh := a1G left (a0s wTx x); simp only [a0s] at hh ⊢ <;> omega
   ·have d3 := c5q c3
    first | have q3 := a1K d3 | skip
    iterate 3 refine z ?_
    refine a0j ?_
    iterate 4 refine z ?_
    refine ⟨(k + 1, szR l (wTx (x.getD (k : Int).toNat default))), ?_, ?_, a0e ⟨rfl, rfl, rfl, trivial⟩ trivial trivial rfl⟩
    ·have hw' := hw (by omega)
     dsimp only
     exact ⟨by omega, by omega, by omega⟩
    ·omega
  ·have d2 := c5q c2
   first | have q2 := a1K d2 | skip
   iterate 11 refine z ?_
   have hw' := a3r wTx x k (by omega); have hh := a1G left (a0s wTx x); simp only [a0s] at hh ⊢ <;> omega
theorem c4o {x : List TxT} {left : Int} (h0 : 0 ≤ left) (h1 : left ≤ 1048576) : PFn Tryz.prog 5 [.agg [(.dv [] (a0Z (x)))], .one (.dv [] (.int .i64 (left)))] (.one (.dv [] (.int .i64 (szR (left) (a1z x))))) := by
 refine ⟨a0u Tryz.func5 rfl Tryz.ntmps5 Tryz.results5 rfl (fun C => ?_)⟩
 refine yF 0 0 rfl rfl fun f0_0 => ?_
 refine a0G (x := .tmp 1) (a0a rfl) fun f1 => ?_
 iterate 8 refine z ?_
 refine zC Tryz.call21 ?_ (hf := c1m (by omega) (by omega))
 iterate 7 refine z ?_
 refine yQ rfl (fun c1 => ?_) fun c1 => ?_
 ·have d1 := c5p c1
  first | have q1 := a1O d1 | skip
  iterate 6 refine z ?_
  have hh := a1G left (a1z x); simp only [a1z] at hh ⊢ <;> omega
 ·have d1 := c5q c1
  first | have q1 := a1K d1 | skip
  iterate 8 refine z ?_
  have hh := a1G left (a1z x); simp only [a1z] at hh ⊢ <;> omega
theorem c3X {x : TxT} (hb : wTx x ≤ 1048576) : KFn Tryz.prog 65 [.agg [(.dv [] (.int .i64 (x.1))), (.dv [] (a0F (x.2.1))), (.dv [] (.int .i64 (x.2.2.1))), (.dv [] (.int .i64 (x.2.2.2.1))), (.dv [] (a0k (x.2.2.2.2)))]] (.agg [(.dv [] (.int .i64 (x.1))), (.key 9007), (.dv [] (.int .i64 (x.2.2.1))), (.dv [] (.int .i64 (x.2.2.2.1))), (.key 19007)]) [(9007, some (a0d false (a0F (x.2.1)))), (19007, some (a0d false (a0k (x.2.2.2.2))))] := by
 refine ⟨a0u Tryz.func65 rfl Tryz.ntmps65 Tryz.results65 rfl (fun C => ?_)⟩
 refine yF 0 0 rfl rfl fun f0_0 => ?_
 refine yF 0 1 rfl rfl fun f0_1 => ?_
 refine yF 0 2 rfl rfl fun f0_2 => ?_
 refine yF 0 3 rfl rfl fun f0_3 => ?_
 refine yF 0 4 rfl rfl fun f0_4 => ?_
 iterate 16 refine z ?_
 refine zK 9000 Tryz.call98 ?_ (hf := b8L (by first | omega | (simp only [a2x, a1v, a2e, a1a, a0v, a1m, a1r, wOp, wTx, a1z] at hb ⊢; omega) | (have hq := hw (by omega); omega)))
 iterate 18 refine z ?_
 refine zK 19000 Tryz.call30 ?_ (hf := b6P (by first | omega | (simp only [a2x, a1v, a2e, a1a, a0v, a1m, a1r, wOp, wTx, a1z] at hb ⊢; omega) | (have hq := hw (by omega); omega)))
 iterate 7 refine z ?_
 refine a0r (σ' := ⟨[(2, .box 2 0)], [(2, 63, [(.dv [] (.int .i64 (x.1))), (.key 9007), (.dv [] (.int .i64 (x.2.2.1))), (.dv [] (.int .i64 (x.2.2.2.1))), (.key 19007)])], [(9007, some (a0d false (a0F (x.2.1)))), (19007, some (a0d false (a0k (x.2.2.2.2))))]⟩) (a0e ⟨rfl, trivial⟩ ⟨rfl, trivial⟩ ⟨rfl, rfl, trivial⟩ rfl) ?_
 refine z ?_
 refine a1B (a0K hT rfl rfl rfl rfl) ?_
 exact ⟨rfl, rfl⟩
theorem c4D {x : List (TxT)} (hb : a0s wTx x ≤ 1048576) : KFn Tryz.prog 32 [.one (.dv [] (a0Z (x)))] (.one (.key 7)) [(7, some (a0d false (a0Z (x))))] := by
 refine ⟨a0u Tryz.func32 rfl Tryz.ntmps32 Tryz.results32 rfl (fun C => ?_)⟩
 refine a0G (x := .tmp 0) (a0a rfl) fun f0 => ?_
 iterate 6 refine z ?_
 refine a7v (k := 7) (n := ((x)).length) (zd := [.int .i64 (0), .sl 111 7 0 [], .int .i64 (0), .int .i64 (0), .sl 89 3 0 []]) (cs := a1M eTx [.int .i64 (0), .sl 111 7 0 [], .int .i64 (0), .int .i64 (0), .sl 89 3 0 []] x 0) hT rfl rfl rfl rfl rfl rfl (a0a rfl) (a0a rfl) rfl rfl rfl (by have := a8I wTx x; omega) rfl rfl a7w ?_
 iterate 7 refine z ?_
 refine a0W (ι := Nat) (fun zz => ⟨[(0, .one (.dv [] (a0Z (x)))), (3, .one (.key 7)), (4, .one (.dv [] (.int .i64 ((zz : Int)))))], [], [(7, some (a0d false (.sl 63 5 ((x).length) (a1M eTx [.int .i64 (0), .sl 111 7 0 [], .int .i64 (0), .int .i64 (0), .sl 89 3 0 []] x zz))))]⟩) (fun zz => zz ≤ x.length) (fun zz => x.length - zz) (0) ?_ (a0e ⟨rfl, rfl, rfl, trivial⟩ trivial ⟨rfl, trivial⟩ rfl) (fun zz hx => ?_)
 ·exact Nat.zero_le _
 obtain ⟨k, rfl⟩ : ∃ v, v = zz := ⟨_, rfl⟩
 replace hx : k ≤ x.length := hx
 have hw := fun h => a1T wTx x k h
 have hw2 := a5w wTx x (k + 1)
 have hw3 : a0s wTx x = x.length + wSum wTx x := rfl
 show Ok _ _ _ _ _ (⟨[(0, .one (.dv [] (a0Z (x)))), (3, .one (.key 7)), (4, .one (.dv [] (.int .i64 ((k : Int)))))], [], [(7, some (a0d false (.sl 63 5 ((x).length) (a1M eTx [.int .i64 (0), .sl 111 7 0 [], .int .i64 (0), .int .i64 (0), .sl 89 3 0 []] x k))))]⟩ : St)
 iterate 7 refine z ?_
 refine yQ rfl (fun c1 => ?_) fun c1 => ?_
 ·have d1 := c5p c1
  iterate 4 refine z ?_
  refine a0j ?_
  iterate 6 refine z ?_
  refine zK 20000 Tryz.call65 ?_ (hf := c3X (by first | omega | (simp only [a2x, a1v, a2e, a1a, a0v, a1m, a1r, wOp, wTx, a1z] at hb ⊢; omega) | (have hq := hw (by omega); omega)))
  refine yO rfl rfl (a1q (i := k) hT rfl rfl rfl (a0a rfl) rfl (a0a rfl) rfl (by show _ < ((x).length); omega)) rfl ?_
  refine a1u (js := [29007, 39007]) (cs := a1M eTx [.int .i64 (0), .sl 111 7 0 [], .int .i64 (0), .int .i64 (0), .sl 89 3 0 []] x (k + 1)) hT rfl rfl rfl rfl (a0a rfl) (a0a rfl) rfl rfl rfl rfl (a0o (a0C rfl) (a0o (a1Y rfl) (a0o (a0C rfl) (a0o (a0C rfl) (a0o (a1Y rfl) a1e rfl) rfl) rfl) rfl) rfl) (by decide) (by decide) rfl (by show _ ≤ List.length (a1M eTx [.int .i64 (0), .sl 111 7 0 [], .int .i64 (0), .int .i64 (0), .sl 89 3 0 []] x k); rw [a7d (sz := 5) (fun _ => rfl) rfl]; omega) (a7c (sz := 5) (fun _ => rfl) rfl (by omega) rfl) ?_
  simp only [a0i, a0h, SV.kill, CV.kill, kk, Nat.reduceBEq]
  refine a1j ?_
  iterate 2 refine z ?_
  refine a0j ?_
  iterate 4 refine z ?_
  refine ⟨k + 1, ?_, ?_, a0e ⟨rfl, rfl, rfl, trivial⟩ trivial ⟨rfl, trivial⟩ rfl⟩
  ·omega
  ·omega
 ·have d1 := c5q c1
  iterate 9 refine z ?_
  refine a0r (σ' := ⟨[(2, .one (.key 7))], [], [(7, some (a0d false (a0Z (x))))]⟩) (a0e ⟨rfl, trivial⟩ trivial ⟨(congrArg (fun cs => some (some (KC.mk false 63 5 x.length cs))) (a7u (by omega))), trivial⟩ rfl) ?_
  refine z ?_
  refine a1B (a0B rfl) ?_
  exact ⟨rfl, rfl⟩
theorem b0w {x : List TxT} (hb : a1z x ≤ 1048576) : KFn Tryz.prog 8 [.agg [(.dv [] (a0Z (x)))]] (.agg [(.key 6007)]) [(6007, some (a0d false (a0Z (x))))] := by
 refine ⟨a0u Tryz.func8 rfl Tryz.ntmps8 Tryz.results8 rfl (fun C => ?_)⟩
 refine yF 0 0 rfl rfl fun f0_0 => ?_
 iterate 10 refine z ?_
 refine zK 6000 Tryz.call32 ?_ (hf := c4D (by first | omega | (simp only [a2x, a1v, a2e, a1a, a0v, a1m, a1r, wOp, wTx, a1z] at hb ⊢; omega) | (have hq := hw (by omega); omega)))
 iterate 7 refine z ?_
 refine a0r (σ' := ⟨[(2, .box 2 0)], [(2, 38, [(.key 6007)])], [(6007, some (a0d false (a0Z (x))))]⟩) (a0e ⟨rfl, trivial⟩ ⟨rfl, trivial⟩ ⟨rfl, trivial⟩ rfl) ?_
 refine z ?_
 refine a1B (a0K hT rfl rfl rfl rfl) ?_
 exact ⟨rfl, rfl⟩
theorem c3L {x : TxT}  : PFn Tryz.prog 79 [.agg [(.dv [] (.int .i64 (x.1))), (.dv [] (a0F (x.2.1))), (.dv [] (.int .i64 (x.2.2.1))), (.dv [] (.int .i64 (x.2.2.2.1))), (.dv [] (a0k (x.2.2.2.2)))], .agg [(.dv [] (.int .i64 (x.1))), (.dv [] (a0F (x.2.1))), (.dv [] (.int .i64 (x.2.2.1))), (.dv [] (.int .i64 (x.2.2.2.1))), (.dv [] (a0k (x.2.2.2.2)))]] (.one (.dv [] (.bool (true)))) := by
 refine ⟨a0u Tryz.func79 rfl Tryz.ntmps79 Tryz.results79 rfl (fun C => ?_)⟩
 refine yF 0 0 rfl rfl fun f0_0 => ?_
 refine yF 0 1 rfl rfl fun f0_1 => ?_
 refine yF 0 2 rfl rfl fun f0_2 => ?_
 refine yF 0 3 rfl rfl fun f0_3 => ?_
 refine yF 0 4 rfl rfl fun f0_4 => ?_
 refine yF 1 0 rfl rfl fun f1_0 => ?_
 refine yF 1 1 rfl rfl fun f1_1 => ?_
 refine yF 1 2 rfl rfl fun f1_2 => ?_
 refine yF 1 3 rfl rfl fun f1_3 => ?_
 refine yF 1 4 rfl rfl fun f1_4 => ?_
 iterate 13 refine z ?_
 refine yQ rfl (fun c1 => ?_) fun c1 => ?_
 ·have d1 := a2g c1
  iterate 6 refine z ?_
  first | rfl | (exfalso; simp_all [sEq])
 ·have d1 := a2j c1
  iterate 8 refine z ?_
  refine zC Tryz.call116 ?_ (hf := c3D)
  iterate 2 refine z ?_
  refine yQ rfl (fun c2 => ?_) fun c2 => ?_
  ·iterate 6 refine z ?_
   first | rfl | (exfalso; simp_all [sEq])
  ·iterate 10 refine z ?_
   refine yQ rfl (fun c3 => ?_) fun c3 => ?_
   ·have d3 := a2g c3
    iterate 6 refine z ?_
    first | rfl | (exfalso; simp_all [sEq])
   ·have d3 := a2j c3
    iterate 10 refine z ?_
    refine yQ rfl (fun c4 => ?_) fun c4 => ?_
    ·have d4 := a2g c4
     iterate 6 refine z ?_
     first | rfl | (exfalso; simp_all [sEq])
    ·have d4 := a2j c4
     iterate 8 refine z ?_
     refine zC Tryz.call39 ?_ (hf := b8l)
     iterate 2 refine z ?_
     refine yQ rfl (fun c5 => ?_) fun c5 => ?_
     ·iterate 6 refine z ?_
      first | rfl | (exfalso; simp_all [sEq])
     ·iterate 7 refine z ?_
      first | rfl | (exfalso; simp_all [sEq])
theorem b9l {x : List (TxT)}  : PFn Tryz.prog 41 [.one (.dv [] (a0Z (x))), .one (.dv [] (a0Z (x)))] (.one (.dv [] (.bool (true)))) := by
 refine ⟨a0u Tryz.func41 rfl Tryz.ntmps41 Tryz.results41 rfl (fun C => ?_)⟩
 refine a0G (x := .tmp 0) (a0a rfl) fun f0 => ?_
 refine a0G (x := .tmp 1) (a0a rfl) fun f1 => ?_
 iterate 11 refine z ?_
 refine yQ rfl (fun c1 => ?_) fun c1 => ?_
 ·have d1 := a2g c1
  iterate 6 refine z ?_
  first | rfl | (exfalso; simp_all [sEq])
 ·have d1 := a2j c1
  iterate 7 refine z ?_
  refine a0W (ι := Nat) (fun zz => ⟨[(0, .one (.dv [] (a0Z (x)))), (1, .one (.dv [] (a0Z (x)))), (5, .one (.dv [] (.int .i64 ((zz : Int)))))], [], []⟩) (fun zz => zz ≤ x.length) (fun zz => x.length - zz) (0) ?_ (a0e ⟨rfl, rfl, rfl, trivial⟩ trivial trivial rfl) (fun zz hx => ?_)
  ·exact Nat.zero_le _
  obtain ⟨k, rfl⟩ : ∃ v, v = zz := ⟨_, rfl⟩
  replace hx : k ≤ x.length := hx
  show Ok _ _ _ _ _ (⟨[(0, .one (.dv [] (a0Z (x)))), (1, .one (.dv [] (a0Z (x)))), (5, .one (.dv [] (.int .i64 ((k : Int)))))], [], []⟩ : St)
  iterate 7 refine z ?_
  refine yQ rfl (fun c2 => ?_) fun c2 => ?_
  ·have d2 := c5p c2
   iterate 4 refine z ?_
   refine a0p ?_
   refine a1o (oB := []) (oK := []) (by kernel_rfl) rfl rfl ?_
   refine zD 0 ?_
   refine zD 1 ?_
   refine zD 2 ?_
   refine zD 3 ?_
   refine zD 4 ?_
   refine zD 5 ?_
   refine zD 6 ?_
   refine zD 7 ?_
   refine a2v 8 rfl (by kernel_rfl) rfl rfl rfl Tryz.call79 c3L (a0f (a0a rfl) (a0l (a0c a0b (a0c a0b (a0c a0b (a0c a0b (a0c a0b a0m)))))) (a0f (a0a rfl) (a0l (a0c a0b (a0c a0b (a0c a0b (a0c a0b (a0c a0b a0m)))))) a0n)) rfl rfl rfl rfl ?_
   refine zD 9 ?_
   refine a1R (by kernel_rfl) ?_
   refine z ?_
   refine yQ rfl (fun c3 => ?_) fun c3 => ?_
   ·iterate 10 refine z ?_
    first | rfl | (exfalso; simp_all [sEq])
   ·iterate 3 refine z ?_
    refine a0j ?_
    iterate 4 refine z ?_
    refine ⟨k + 1, ?_, ?_, a0e ⟨rfl, rfl, rfl, trivial⟩ trivial trivial rfl⟩
    ·omega
    ·omega
  ·have d2 := c5q c2
   iterate 10 refine z ?_
   first | rfl | (exfalso; simp_all [sEq])
theorem b0m {x : List TxT}  : PFn Tryz.prog 12 [.agg [(.dv [] (a0Z (x)))], .agg [(.dv [] (a0Z (x)))]] (.one (.dv [] (.bool (true)))) := by
 refine ⟨a0u Tryz.func12 rfl Tryz.ntmps12 Tryz.results12 rfl (fun C => ?_)⟩
 refine yF 0 0 rfl rfl fun f0_0 => ?_
 refine yF 1 0 rfl rfl fun f1_0 => ?_
 iterate 11 refine z ?_
 refine zC Tryz.call41 ?_ (hf := b9l)
 iterate 2 refine z ?_
 refine yQ rfl (fun c1 => ?_) fun c1 => ?_
 ·iterate 6 refine z ?_
  first | rfl | (exfalso; simp_all [sEq])
 ·iterate 7 refine z ?_
  first | rfl | (exfalso; simp_all [sEq])
def a8v (o : OpT) : Bool := (decide (1 ≤ o.1) && decide (o.1 ≤ 6)) && !decide (o.1 = 4)
theorem b7K {x : OpT}  : PFn Tryz.prog 112 [.agg [(.dv [] (.int .i64 (x.1))), (.dv [] (.str (x.2.1))), (.dv [] (.int .i64 (x.2.2.1.1))), (.dv [] (.int .i64 (x.2.2.1.2.1))), (.dv [] (.str (x.2.2.1.2.2))), (.dv [] (a0z (x.2.2.2.1))), (.dv [] (.str (x.2.2.2.2)))]] (.one (.dv [] (.bool (a8v x)))) := by
 refine ⟨a0u Tryz.func112 rfl Tryz.ntmps112 Tryz.results112 rfl (fun C => ?_)⟩
 refine yF 0 0 rfl rfl fun f0_0 => ?_
 refine yF 0 1 rfl rfl fun f0_1 => ?_
 refine yF 0 2 rfl rfl fun f0_2 => ?_
 refine yF 0 3 rfl rfl fun f0_3 => ?_
 refine yF 0 4 rfl rfl fun f0_4 => ?_
 refine yF 0 5 rfl rfl fun f0_5 => ?_
 refine yF 0 6 rfl rfl fun f0_6 => ?_
 iterate 7 refine z ?_
 refine zC Tryz.call69 ?_ (hf := a5k)
 iterate 9 refine z ?_
 first | rfl | grind [a8v]
theorem b3Z {x : OpT}  : PFn Tryz.prog 94 [.agg [(.dv [] (.int .i64 (x.1))), (.dv [] (.str (x.2.1))), (.dv [] (.int .i64 (x.2.2.1.1))), (.dv [] (.int .i64 (x.2.2.1.2.1))), (.dv [] (.str (x.2.2.1.2.2))), (.dv [] (a0z (x.2.2.2.1))), (.dv [] (.str (x.2.2.2.2)))]] (.one (.dv [] (.bool (a8v x)))) := by
 refine ⟨a0u Tryz.func94 rfl Tryz.ntmps94 Tryz.results94 rfl (fun C => ?_)⟩
 refine yF 0 0 rfl rfl fun f0_0 => ?_
 refine yF 0 1 rfl rfl fun f0_1 => ?_
 refine yF 0 2 rfl rfl fun f0_2 => ?_
 refine yF 0 3 rfl rfl fun f0_3 => ?_
 refine yF 0 4 rfl rfl fun f0_4 => ?_
 refine yF 0 5 rfl rfl fun f0_5 => ?_
 refine yF 0 6 rfl rfl fun f0_6 => ?_
 iterate 7 refine z ?_
 refine zC Tryz.call58 ?_ (hf := a3Y)
 iterate 9 refine z ?_
 first | rfl | grind [a8v]
def a3P (o : OpT) : Bool := (decide (1 ≤ o.1) && decide (o.1 ≤ 6)) && a3l o.2.1 && (decide (o.1 = 5) || a1H o.2.2.1) && a1C o.2.2.2.1 && ((decide (o.1 = 6) && a3l o.2.2.2.2) || (!decide (o.1 = 6) && sEq o.2.2.2.2 (ByteArray.mk #[])))
theorem a7f {α : Type} {p : α → Bool} {l : List α} {k : Nat} {d : α} (h : (l.take k).any p = false) (hk : k < l.length) (hp : p (l.getD k d) = false) : (l.take (k + 1)).any p = false := by
 rw [List.take_succ_eq_append_getElem hk, List.any_append, h]
 simp only [List.any_cons, List.any_nil, Bool.or_false, Bool.false_or]
 simpa [List.getD, List.getElem?_eq_getElem hk] using hp
theorem a7E {α : Type} {p : α → Bool} {l : List α} {k : Nat} {d : α} (hk : k < l.length) (hp : p (l.getD k d) = true) : l.any p = true := by
 rw [List.any_eq_true]
 exact ⟨l[k], List.getElem_mem hk, by simpa [List.getD, List.getElem?_eq_getElem hk] using hp⟩
theorem a7Z {α : Type} {p : α → Bool} {l : List α} {k : Nat} (h : (l.take k).any p = false) (hk : l.length ≤ k) : l.any p = false := by
 rwa [List.take_of_length_le hk] at h
def a4K (x y : OpT) : Bool := sEq x.2.1 y.2.1 && (a8v x || a8v y)
def b0n (a b : List OpT) : Bool := a.any fun x => b.any (a4K x)
theorem b4P {x : OpT}  : PFn Tryz.prog 110 [.agg [(.dv [] (.int .i64 (x.1))), (.dv [] (.str (x.2.1))), (.dv [] (.int .i64 (x.2.2.1.1))), (.dv [] (.int .i64 (x.2.2.1.2.1))), (.dv [] (.str (x.2.2.1.2.2))), (.dv [] (a0z (x.2.2.2.1))), (.dv [] (.str (x.2.2.2.2)))]] (.one (.dv [] (.bool (a3P x)))) := by
 refine ⟨a0u Tryz.func110 rfl Tryz.ntmps110 Tryz.results110 rfl (fun C => ?_)⟩
 refine yF 0 0 rfl rfl fun f0_0 => ?_
 refine yF 0 1 rfl rfl fun f0_1 => ?_
 refine yF 0 2 rfl rfl fun f0_2 => ?_
 refine yF 0 3 rfl rfl fun f0_3 => ?_
 refine yF 0 4 rfl rfl fun f0_4 => ?_
 refine yF 0 5 rfl rfl fun f0_5 => ?_
 refine yF 0 6 rfl rfl fun f0_6 => ?_
 iterate 8 refine z ?_
 refine zC Tryz.call69 ?_ (hf := a5k)
 iterate 4 refine z ?_
 refine a1t (a1l rfl rfl rfl rfl rfl) rfl rfl Tryz.call68 a8x (fun hg => (a0f (a0x rfl hg) (a0H a0b) a0n)) rfl rfl ?_
 iterate 9 refine z ?_
 refine a1t (a3G rfl rfl rfl rfl rfl) rfl rfl Tryz.call102 a6C (fun hg => (a0f (a0x rfl hg) (a0l (a0c a0b (a0c a0b (a0c a0b a0m)))) a0n)) rfl rfl ?_
 iterate 6 refine z ?_
 refine a1t (a1l rfl rfl rfl rfl rfl) rfl rfl Tryz.call103 a8M (fun hg => (a0f (a0x rfl hg) (a0l (a0c a0b a0m)) a0n)) rfl rfl ?_
 iterate 3 refine z ?_
 refine yQ rfl (fun c1 => ?_) fun c1 => ?_
 ·iterate 6 refine z ?_
  grind [a3P]
 ·iterate 8 refine z ?_
  refine yQ rfl (fun c2 => ?_) fun c2 => ?_
  ·have d2 := c5p c2
   iterate 3 refine z ?_
   refine zC Tryz.call68 ?_ (hf := a8x)
   iterate 5 refine z ?_
   grind [a3P]
  ·have d2 := c5q c2
   iterate 10 refine z ?_
   grind [a3P]
theorem c3d {x : OpT}  : PFn Tryz.prog 95 [.agg [(.dv [] (.int .i64 (x.1))), (.dv [] (.str (x.2.1))), (.dv [] (.int .i64 (x.2.2.1.1))), (.dv [] (.int .i64 (x.2.2.1.2.1))), (.dv [] (.str (x.2.2.1.2.2))), (.dv [] (a0z (x.2.2.2.1))), (.dv [] (.str (x.2.2.2.2)))]] (.one (.dv [] (.bool (a3P x)))) := by
 refine ⟨a0u Tryz.func95 rfl Tryz.ntmps95 Tryz.results95 rfl (fun C => ?_)⟩
 refine yF 0 0 rfl rfl fun f0_0 => ?_
 refine yF 0 1 rfl rfl fun f0_1 => ?_
 refine yF 0 2 rfl rfl fun f0_2 => ?_
 refine yF 0 3 rfl rfl fun f0_3 => ?_
 refine yF 0 4 rfl rfl fun f0_4 => ?_
 refine yF 0 5 rfl rfl fun f0_5 => ?_
 refine yF 0 6 rfl rfl fun f0_6 => ?_
 iterate 7 refine z ?_
 refine zC Tryz.call58 ?_ (hf := a3Y)
 iterate 3 refine z ?_
 refine a1t (a1l rfl rfl rfl rfl rfl) rfl rfl Tryz.call56 a7U (fun hg => (a0f (a0x rfl hg) (a0H a0b) a0n)) rfl rfl ?_
 iterate 8 refine z ?_
 refine a1t (a3G rfl rfl rfl rfl rfl) rfl rfl Tryz.call89 a6Y (fun hg => (a0f (a0x rfl hg) (a0l (a0c a0b (a0c a0b (a0c a0b a0m)))) a0n)) rfl rfl ?_
 iterate 5 refine z ?_
 refine a1t (a1l rfl rfl rfl rfl rfl) rfl rfl Tryz.call90 a7M (fun hg => (a0f (a0x rfl hg) (a0l (a0c a0b a0m)) a0n)) rfl rfl ?_
 iterate 8 refine z ?_
 refine a1t (a3G rfl rfl rfl rfl rfl) rfl rfl Tryz.call56 a7U (fun hg => (a0f (a0x rfl hg) (a0H a0b) a0n)) rfl rfl ?_
 iterate 16 refine z ?_
 grind [a3P]
theorem b9t {a b : List OpT}  : PFn Tryz.prog 75 [.one (.dv [] (a0F (a))), .one (.dv [] (a0F (b)))] (.one (.dv [] (.bool (b0n a b)))) := by
 refine ⟨a0u Tryz.func75 rfl Tryz.ntmps75 Tryz.results75 rfl (fun C => ?_)⟩
 refine a0G (x := .tmp 0) (a0a rfl) fun f0 => ?_
 refine a0G (x := .tmp 1) (a0a rfl) fun f1 => ?_
 iterate 10 refine z ?_
 refine a0W (ι := Nat) (fun zz => ⟨[(1, .one (.dv [] (a0F (b)))), (9, .one (.dv [] (a0F (a)))), (10, .one (.dv [] (.int .i64 ((((a)).length : Int))))), (11, .one (.dv [] (.int .i64 ((zz : Int)))))], [], []⟩) (fun zz => zz ≤ a.length ∧ (a.take zz).any (fun x => b.any (a4K x)) = false) (fun zz => a.length - zz) (0) ?_ (a0e ⟨rfl, rfl, rfl, rfl, trivial⟩ trivial trivial rfl) (fun zz hx => ?_)
 ·exact ⟨Nat.zero_le _, rfl⟩
 obtain ⟨i, rfl⟩ : ∃ v, v = zz := ⟨_, rfl⟩
 replace hx : i ≤ a.length ∧ (a.take i).any (fun x => b.any (a4K x)) = false := hx
 obtain ⟨hi, hall⟩ := hx
 show Ok _ _ _ _ _ (⟨[(1, .one (.dv [] (a0F (b)))), (9, .one (.dv [] (a0F (a)))), (10, .one (.dv [] (.int .i64 ((((a)).length : Int))))), (11, .one (.dv [] (.int .i64 ((i : Int)))))], [], []⟩ : St)
 iterate 3 refine z ?_
 refine a0p ?_
 refine yQ rfl (fun c1 => ?_) fun c1 => ?_
 ·have d1 := c5p c1
  iterate 16 refine z ?_
  refine a0W (ι := Nat) (fun zz => ⟨[(1, .one (.dv [] (a0F (b)))), (6, .box 6 0), (9, .one (.dv [] (a0F (a)))), (10, .one (.dv [] (.int .i64 ((((a)).length : Int))))), (11, .one (.dv [] (.int .i64 ((i : Int))))), (15, .one (.dv [] (a0F (b)))), (16, .one (.dv [] (.int .i64 ((((b)).length : Int))))), (17, .one (.dv [] (.int .i64 ((zz : Int)))))], [(6, 111, [(.dv [] (.int .i64 ((((a)).getD ((i : Int)).toNat default).1))), (.dv [] (.str ((((a)).getD ((i : Int)).toNat default).2.1))), (.dv [] (.int .i64 ((((a)).getD ((i : Int)).toNat default).2.2.1.1))), (.dv [] (.int .i64 ((((a)).getD ((i : Int)).toNat default).2.2.1.2.1))), (.dv [] (.str ((((a)).getD ((i : Int)).toNat default).2.2.1.2.2))), (.dv [] (a0z ((((a)).getD ((i : Int)).toNat default).2.2.2.1))), (.dv [] (.str ((((a)).getD ((i : Int)).toNat default).2.2.2.2)))])], []⟩) (fun zz => zz ≤ b.length ∧ (b.take zz).any (a4K (a.getD (i : Int).toNat default)) = false) (fun zz => b.length - zz) (0) ?_ (a0e ⟨rfl, rfl, rfl, rfl, rfl, rfl, rfl, rfl, trivial⟩ ⟨rfl, trivial⟩ trivial rfl) (fun zz hx => ?_)
  ·exact ⟨Nat.zero_le _, rfl⟩
  obtain ⟨j, rfl⟩ : ∃ v, v = zz := ⟨_, rfl⟩
  replace hx : j ≤ b.length ∧ (b.take j).any (a4K (a.getD (i : Int).toNat default)) = false := hx
  obtain ⟨hj, hall2⟩ := hx
  show Ok _ _ _ _ _ (⟨[(1, .one (.dv [] (a0F (b)))), (6, .box 6 0), (9, .one (.dv [] (a0F (a)))), (10, .one (.dv [] (.int .i64 ((((a)).length : Int))))), (11, .one (.dv [] (.int .i64 ((i : Int))))), (15, .one (.dv [] (a0F (b)))), (16, .one (.dv [] (.int .i64 ((((b)).length : Int))))), (17, .one (.dv [] (.int .i64 ((j : Int)))))], [(6, 111, [(.dv [] (.int .i64 ((((a)).getD ((i : Int)).toNat default).1))), (.dv [] (.str ((((a)).getD ((i : Int)).toNat default).2.1))), (.dv [] (.int .i64 ((((a)).getD ((i : Int)).toNat default).2.2.1.1))), (.dv [] (.int .i64 ((((a)).getD ((i : Int)).toNat default).2.2.1.2.1))), (.dv [] (.str ((((a)).getD ((i : Int)).toNat default).2.2.1.2.2))), (.dv [] (a0z ((((a)).getD ((i : Int)).toNat default).2.2.2.1))), (.dv [] (.str ((((a)).getD ((i : Int)).toNat default).2.2.2.2)))])], []⟩ : St)
  iterate 3 refine z ?_
  refine a0p ?_
  refine yQ rfl (fun c2 => ?_) fun c2 => ?_
  ·have d2 := c5p c2
   iterate 18 refine z ?_
   refine a1t (a1l rfl rfl rfl rfl rfl) rfl rfl Tryz.call112 b7K (fun hg => (a0f (a0x rfl hg) (a0l (a0c a0b (a0c a0b (a0c a0b (a0c a0b (a0c a0b (a0c a0b (a0c a0b a0m)))))))) a0n)) rfl rfl ?_
   iterate 2 refine z ?_
   refine a1t (a3G rfl rfl rfl rfl rfl) rfl rfl Tryz.call112 b7K (fun hg => (a0f (a0x rfl hg) (a0l (a0c a0b (a0c a0b (a0c a0b (a0c a0b (a0c a0b (a0c a0b (a0c a0b a0m)))))))) a0n)) rfl rfl ?_
   iterate 3 refine z ?_
   refine yQ rfl (fun c3 => ?_) fun c3 => ?_
   ·iterate 14 refine z ?_
    have h1 : b.any (a4K (a.getD i default)) = true := a7E (k := j) (d := default) (by omega) c3
    have h2 : a.any (fun x => b.any (a4K x)) = true := a7E (k := i) (d := default) (by omega) h1
    exact h2.symm
   ·iterate 3 refine z ?_
    refine a0j ?_
    iterate 3 refine z ?_
    refine ⟨j + 1, ?_, ?_, a0e ⟨rfl, rfl, rfl, rfl, rfl, rfl, rfl, rfl, trivial⟩ ⟨rfl, trivial⟩ trivial rfl⟩
    ·exact ⟨by omega, a7f (d := default) hall2 (by omega) (by first | exact c3 | exact c4 | exact c2)⟩
    ·omega
  ·have d2 := c5q c2
   iterate 6 refine z ?_
   refine a0j ?_
   iterate 3 refine z ?_
   refine ⟨i + 1, ?_, ?_, a0e ⟨rfl, rfl, rfl, rfl, trivial⟩ trivial trivial rfl⟩
   ·exact ⟨by omega, a7f (d := default) hall (by omega) (a7Z hall2 (by omega))⟩
   ·omega
 ·have d1 := c5q c1
  iterate 10 refine z ?_
  exact (a7Z (k := i) hall (by omega)).symm
theorem c1M {a b : List OpT}  : PFn Tryz.prog 59 [.one (.dv [] (a0F (a))), .one (.dv [] (a0F (b)))] (.one (.dv [] (.bool (b0n a b)))) := by
 refine ⟨a0u Tryz.func59 rfl Tryz.ntmps59 Tryz.results59 rfl (fun C => ?_)⟩
 refine a0G (x := .tmp 0) (a0a rfl) fun f0 => ?_
 refine a0G (x := .tmp 1) (a0a rfl) fun f1 => ?_
 iterate 8 refine z ?_
 refine a0W (ι := Nat) (fun zz => ⟨[(0, .one (.dv [] (a0F (a)))), (1, .one (.dv [] (a0F (b)))), (5, .one (.dv [] (.int .i64 ((zz : Int)))))], [], []⟩) (fun zz => zz ≤ a.length ∧ (a.take zz).any (fun x => b.any (a4K x)) = false) (fun zz => a.length - zz) (0) ?_ (a0e ⟨rfl, rfl, rfl, trivial⟩ trivial trivial rfl) (fun zz hx => ?_)
 ·exact ⟨Nat.zero_le _, rfl⟩
 obtain ⟨i, rfl⟩ : ∃ v, v = zz := ⟨_, rfl⟩
 replace hx : i ≤ a.length ∧ (a.take i).any (fun x => b.any (a4K x)) = false := hx
 obtain ⟨hi, hall⟩ := hx
 show Ok _ _ _ _ _ (⟨[(0, .one (.dv [] (a0F (a)))), (1, .one (.dv [] (a0F (b)))), (5, .one (.dv [] (.int .i64 ((i : Int)))))], [], []⟩ : St)
 iterate 7 refine z ?_
 refine yQ rfl (fun c1 => ?_) fun c1 => ?_
 ·have d1 := c5p c1
  iterate 8 refine z ?_
  refine a0W (ι := Nat) (fun zz => ⟨[(0, .one (.dv [] (a0F (a)))), (1, .one (.dv [] (a0F (b)))), (5, .one (.dv [] (.int .i64 ((i : Int))))), (6, .one (.dv [] (.int .i64 ((zz : Int)))))], [], []⟩) (fun zz => zz ≤ b.length ∧ (b.take zz).any (a4K (a.getD (i : Int).toNat default)) = false) (fun zz => b.length - zz) (0) ?_ (a0e ⟨rfl, rfl, rfl, rfl, trivial⟩ trivial trivial rfl) (fun zz hx => ?_)
  ·exact ⟨Nat.zero_le _, rfl⟩
  obtain ⟨j, rfl⟩ : ∃ v, v = zz := ⟨_, rfl⟩
  replace hx : j ≤ b.length ∧ (b.take j).any (a4K (a.getD (i : Int).toNat default)) = false := hx
  obtain ⟨hj, hall2⟩ := hx
  show Ok _ _ _ _ _ (⟨[(0, .one (.dv [] (a0F (a)))), (1, .one (.dv [] (a0F (b)))), (5, .one (.dv [] (.int .i64 ((i : Int))))), (6, .one (.dv [] (.int .i64 ((j : Int)))))], [], []⟩ : St)
  iterate 7 refine z ?_
  refine yQ rfl (fun c2 => ?_) fun c2 => ?_
  ·have d2 := c5p c2
   iterate 4 refine z ?_
   refine a0p ?_
   refine a1o (oB := []) (oK := []) (by kernel_rfl) rfl rfl ?_
   refine zD 0 ?_
   refine zD 1 ?_
   refine zD 2 ?_
   refine zD 3 ?_
   refine zD 4 ?_
   refine zD 5 ?_
   refine zD 6 ?_
   refine zD 7 ?_
   refine zD 8 ?_
   refine zD 9 ?_
   refine zD 10 ?_
   refine zD 11 ?_
   refine zDG 12 ?_
   refine zDG 13 ?_
   refine zDG 14 ?_
   refine zDG 15 ?_
   refine a4f 16 rfl (by kernel_rfl) (a1l rfl rfl rfl rfl rfl) rfl rfl Tryz.call94 b3Z (fun hg => (a0f (a0x rfl hg) (a0l (a0c a0b (a0c a0b (a0c a0b (a0c a0b (a0c a0b (a0c a0b (a0c a0b a0m)))))))) a0n)) rfl rfl ?_
   refine zDG 17 ?_
   refine zDG 18 ?_
   refine zDG 19 ?_
   refine zDG 20 ?_
   refine zDG 21 ?_
   refine a4f 22 rfl (by kernel_rfl) (a3G rfl rfl rfl rfl rfl) rfl rfl Tryz.call94 b3Z (fun hg => (a0f (a0x rfl hg) (a0l (a0c a0b (a0c a0b (a0c a0b (a0c a0b (a0c a0b (a0c a0b (a0c a0b a0m)))))))) a0n)) rfl rfl ?_
   refine zDG 23 ?_
   refine zD 24 ?_
   refine a1R (by kernel_rfl) ?_
   refine z ?_
   refine yQ rfl (fun c3 => ?_) fun c3 => ?_
   ·iterate 14 refine z ?_
    have h1 : b.any (a4K (a.getD i default)) = true := a7E (k := j) (d := default) (by omega) c3
    have h2 : a.any (fun x => b.any (a4K x)) = true := a7E (k := i) (d := default) (by omega) h1
    exact h2.symm
   ·iterate 3 refine z ?_
    refine a0j ?_
    iterate 4 refine z ?_
    refine ⟨j + 1, ?_, ?_, a0e ⟨rfl, rfl, rfl, rfl, trivial⟩ trivial trivial rfl⟩
    ·exact ⟨by omega, a7f (d := default) hall2 (by omega) (by first | exact c3 | exact c4 | exact c2)⟩
    ·omega
  ·have d2 := c5q c2
   iterate 6 refine z ?_
   refine a0j ?_
   iterate 4 refine z ?_
   refine ⟨i + 1, ?_, ?_, a0e ⟨rfl, rfl, rfl, trivial⟩ trivial trivial rfl⟩
   ·exact ⟨by omega, a7f (d := default) hall (by omega) (a7Z hall2 (by omega))⟩
   ·omega
 ·have d1 := c5q c1
  iterate 10 refine z ?_
  exact (a7Z (k := i) hall (by omega)).symm
def a3E (d e : a2M) : Bool := sEq d.1 e.1 && sEq d.2 e.2
def a0q {α : Type} (p : α → Bool) : List α → Int → Int
 | [], _ => -1
 | x :: xs, i => if p x then i else a0q p xs (i + 1)
theorem b1y {α : Type} {p : α → Bool} : ∀ {xs : List α} {k : Nat} {i : Int}, (xs.take k).any p = false → k ≤ xs.length → a0q p xs i = a0q p (xs.drop k) (i + k)
 | xs, 0, i, _, _ => by simp
 | [], k + 1, i, _, hk => by simp at hk
 | x :: xs, k + 1, i, h, hk => by
  simp only [List.take_succ_cons, List.any_cons, Bool.or_eq_false_iff] at h
  rw [a0q, h.1, List.drop_succ_cons]
  simp only [Bool.false_eq_true, if_false]
  rw [b1y h.2 (by simpa using hk)]
  congr 1; omega
theorem a6V {α : Type} {p : α → Bool} {xs : List α} {k : Nat} {d : α} (h : (xs.take k).any p = false) (hk : k < xs.length) (hp : p (xs.getD k d) = true) : a0q p xs 0 = (k : Int) := by
 rw [b1y h (by omega), List.drop_eq_getElem_cons hk, a0q]
 have : p xs[k] = true := by simpa [List.getD, List.getElem?_eq_getElem hk] using hp
 rw [if_pos this]; omega
theorem a6Q {α : Type} {p : α → Bool} {xs : List α} {k : Nat} (h : (xs.take k).any p = false) (hk : k = xs.length) : a0q p xs 0 = -1 := by
 rw [b1y h (by omega), hk, List.drop_length]; rfl
theorem a6F {α : Type} {p : α → Bool} {l : List α} {k : Nat} {d : α} (h : (l.take k).any p = false) (hk : k < l.length) (hp : p (l.getD k d) = false) : (l.take (k + 1)).any p = false := by
 rw [List.take_succ_eq_append_getElem hk, List.any_append, h]
 simp only [List.any_cons, List.any_nil, Bool.or_false, Bool.false_or]
 simpa [List.getD, List.getElem?_eq_getElem hk] using hp
def a0D (n : Str) (s : a0I) : Bool := sEq s.1 n
theorem b9V {x : a0I} {n : Str}  : PFn Tryz.prog 106 [.agg [(.dv [] (.str (x.1))), (.dv [] (a0t (x.2.1))), (.dv [] (.int .i64 (x.2.2)))], .ref [] [.str (n)]] (.one (.dv [] (.bool (a0D n x)))) := by
 refine ⟨a0u Tryz.func106 rfl Tryz.ntmps106 Tryz.results106 rfl (fun C => ?_)⟩
 refine yF 0 0 rfl rfl fun f0_0 => ?_
 refine yF 0 1 rfl rfl fun f0_1 => ?_
 refine yF 0 2 rfl rfl fun f0_2 => ?_
 iterate 13 refine z ?_
 rfl
theorem c2J {x : List a0I} {n : Str}  : PFn Tryz.prog 105 [.one (.dv [] (a0k (x))), .fn 106 [[.str (n)]]] (.one (.dv [] (.int .i64 (a0q (a0D n) x 0)))) := by
 refine ⟨a0u Tryz.func105 rfl Tryz.ntmps105 Tryz.results105 rfl (fun C => ?_)⟩
 refine a0G (x := .tmp 0) (a0a rfl) fun f0 => ?_
 iterate 10 refine z ?_
 refine a0W (ι := Nat) (fun zz => ⟨[(0, .one (.dv [] (a0k (x)))), (1, .fn 106 [[.str (n)]]), (7, .one (.dv [] (.int .i64 ((((x)).length : Int))))), (8, .one (.dv [] (.int .i64 ((zz : Int)))))], [], []⟩) (fun zz => zz ≤ x.length ∧ (x.take zz).any (a0D n) = false) (fun zz => x.length - zz) (0) ?_ (a0e ⟨rfl, rfl, rfl, rfl, trivial⟩ trivial trivial rfl) (fun zz hx => ?_)
 ·exact ⟨Nat.zero_le _, rfl⟩
 obtain ⟨k, rfl⟩ : ∃ v, v = zz := ⟨_, rfl⟩
 replace hx : k ≤ x.length ∧ (x.take k).any (a0D n) = false := hx
 obtain ⟨hk, hall⟩ := hx
 show Ok _ _ _ _ _ (⟨[(0, .one (.dv [] (a0k (x)))), (1, .fn 106 [[.str (n)]]), (7, .one (.dv [] (.int .i64 ((((x)).length : Int))))), (8, .one (.dv [] (.int .i64 ((k : Int)))))], [], []⟩ : St)
 iterate 3 refine z ?_
 refine a0p ?_
 refine yQ rfl (fun c1 => ?_) fun c1 => ?_
 ·have d1 := c5p c1
  iterate 14 refine z ?_
  refine a9q rfl rfl rfl (a0a rfl) Tryz.call106 b9V (a0f (a0a rfl) (a0l (a0c a0b (a0c a0b (a0c a0b a0m)))) a0n) rfl rfl ?_
  refine z ?_
  refine yQ rfl (fun c2 => ?_) fun c2 => ?_
  ·iterate 11 refine z ?_
   exact (a6V (p := a0D n) (d := default) hall (by omega) c2).symm
  ·iterate 3 refine z ?_
   refine a0j ?_
   iterate 3 refine z ?_
   refine ⟨k + 1, ?_, ?_, a0e ⟨rfl, rfl, rfl, rfl, trivial⟩ trivial trivial rfl⟩
   ·exact ⟨by omega, a6F (d := default) hall (by omega) c2⟩
   ·omega
 ·have d1 := c5q c1
  iterate 10 refine z ?_
  exact (a6Q (p := a0D n) hall (by omega)).symm
theorem a8Q {x : DbT} {n : Str}  : PFn Tryz.prog 71 [.agg [(.dv [] (.str (x.1))), (.dv [] (.int .i64 (x.2.1))), (.dv [] (a0k (x.2.2.1))), (.dv [] (a0A (x.2.2.2)))], .one (.dv [] (.str (n)))] (.one (.dv [] (.int .i64 (a0q (a0D n) x.2.2.1 0)))) := by
 refine ⟨a0u Tryz.func71 rfl Tryz.ntmps71 Tryz.results71 rfl (fun C => ?_)⟩
 refine yF 0 0 rfl rfl fun f0_0 => ?_
 refine yF 0 1 rfl rfl fun f0_1 => ?_
 refine yF 0 2 rfl rfl fun f0_2 => ?_
 refine yF 0 3 rfl rfl fun f0_3 => ?_
 refine a0G (x := .tmp 1) (a0a rfl) fun f1 => ?_
 iterate 8 refine z ?_
 refine yO rfl rfl (b0B rfl (a0a rfl)) rfl ?_
 refine a3k rfl rfl rfl Tryz.call105 c2J (a0f (a0a rfl) (a0H a0b) (a0f (a0a rfl) (b2b (b1g rfl rfl a9R)) a0n)) rfl rfl ?_
 iterate 4 refine z ?_
 rfl
theorem b0b {x : DbT} {n : Str}  : PFn Tryz.prog 55 [.agg [(.dv [] (.str (x.1))), (.dv [] (.int .i64 (x.2.1))), (.dv [] (a0k (x.2.2.1))), (.dv [] (a0A (x.2.2.2)))], .one (.dv [] (.str (n)))] (.one (.dv [] (.int .i64 (a0q (a0D n) x.2.2.1 0)))) := by
 refine ⟨a0u Tryz.func55 rfl Tryz.ntmps55 Tryz.results55 rfl (fun C => ?_)⟩
 refine yF 0 0 rfl rfl fun f0_0 => ?_
 refine yF 0 1 rfl rfl fun f0_1 => ?_
 refine yF 0 2 rfl rfl fun f0_2 => ?_
 refine yF 0 3 rfl rfl fun f0_3 => ?_
 refine a0G (x := .tmp 1) (a0a rfl) fun f1 => ?_
 iterate 9 refine z ?_
 refine a0W (ι := Nat) (fun zz => ⟨[(1, .one (.dv [] (.str (n)))), (2, .box 2 0), (5, .one (.dv [] (.int .i64 ((zz : Int)))))], [(2, 35, [(.dv [] (.str (x.1))), (.dv [] (.int .i64 (x.2.1))), (.dv [] (a0k (x.2.2.1))), (.dv [] (a0A (x.2.2.2)))])], []⟩) (fun zz => zz ≤ x.2.2.1.length ∧ (x.2.2.1.take zz).any (a0D n) = false) (fun zz => x.2.2.1.length - zz) (0) ?_ (a0e ⟨rfl, rfl, rfl, trivial⟩ ⟨rfl, trivial⟩ trivial rfl) (fun zz hx => ?_)
 ·exact ⟨Nat.zero_le _, rfl⟩
 obtain ⟨k, rfl⟩ : ∃ v, v = zz := ⟨_, rfl⟩
 replace hx : k ≤ x.2.2.1.length ∧ (x.2.2.1.take k).any (a0D n) = false := hx
 obtain ⟨hk, hall⟩ := hx
 show Ok _ _ _ _ _ (⟨[(1, .one (.dv [] (.str (n)))), (2, .box 2 0), (5, .one (.dv [] (.int .i64 ((k : Int)))))], [(2, 35, [(.dv [] (.str (x.1))), (.dv [] (.int .i64 (x.2.1))), (.dv [] (a0k (x.2.2.1))), (.dv [] (a0A (x.2.2.2)))])], []⟩ : St)
 iterate 8 refine z ?_
 refine yQ rfl (fun c1 => ?_) fun c1 => ?_
 ·have d1 := c5p c1
  iterate 14 refine z ?_
  refine yQ rfl (fun c2 => ?_) fun c2 => ?_
  ·iterate 11 refine z ?_
   exact (a6V (p := a0D n) (d := default) hall (by omega) c2).symm
  ·iterate 3 refine z ?_
   refine a0j ?_
   iterate 4 refine z ?_
   refine ⟨k + 1, ?_, ?_, a0e ⟨rfl, rfl, rfl, trivial⟩ ⟨rfl, trivial⟩ trivial rfl⟩
   ·exact ⟨by omega, a6F (d := default) hall (by omega) c2⟩
   ·omega
 ·have d1 := c5q c1
  iterate 10 refine z ?_
  exact (a6Q (p := a0D n) hall (by omega)).symm
def a4x (q : List TxT) (i : Int) (t : TxT) : Bool := (decide (t.2.2.2.1 = 0) || decide (t.2.2.2.1 = 1)) && b0n t.2.1 (q.getD i.toNat default).2.1
def a2Y (q : List TxT) (i : Int) : Bool := ((decide (0 ≤ i) && decide (i < (q.length : Int))) && decide ((q.getD i.toNat default).2.2.2.1 = 0)) && !(q.take i.toNat).any (a4x q i)
theorem b2t {α : Type} {q : List α} {n k : Nat} {d : α} (h : k < n) : (q.take n).getD k d = q.getD k d := by simp [List.getD, List.getElem?_take, h]
theorem b3G (s : Int) : (decide (s = 0) || decide (s = 1)) = (decide (0 ≤ s) && decide (s ≤ 1)) := by
 by_cases h0 : s = 0
 ·simp [h0]
 ·by_cases h1 : s = 1
  ·simp [h1]
  ·have : ¬ (0 ≤ s ∧ s ≤ 1) := by omega
   by_cases h2 : 0 ≤ s <;> by_cases h3 : s ≤ 1 <;> simp [h0, h1, h2, h3]
   omega
theorem b5p {q : List TxT} {i : Int}  : PFn Tryz.prog 37 [.agg [(.dv [] (a0Z (q)))], .one (.dv [] (.int .i64 (i)))] (.one (.dv [] (.bool (a2Y q i)))) := by
 refine ⟨a0u Tryz.func37 rfl Tryz.ntmps37 Tryz.results37 rfl (fun C => ?_)⟩
 refine yF 0 0 rfl rfl fun f0_0 => ?_
 refine a0G (x := .tmp 1) (a0a rfl) fun f1 => ?_
 iterate 25 refine z ?_
 refine yQ rfl (fun c1 => ?_) fun c1 => ?_
 ·iterate 6 refine z ?_
  have h := c1; grind [a2Y]
 ·have e1 : 0 ≤ i ∧ i < (q.length : Int) := by grind
  have e2 : (q.take i.toNat).length = i.toNat := by rw [c5t]; omega
  iterate 7 refine z ?_
  refine yO rfl rfl (a8T hT rfl rfl rfl (a0a rfl) (a0a rfl) (fun _ => rfl) (by omega) (by omega)) rfl ?_
  iterate 4 refine z ?_
  refine a0W (ι := Nat) (fun zz => ⟨[(1, .one (.dv [] (.int .i64 (i)))), (2, .box 2 0), (28, .one (.dv [] (a0Z (((q)).take (i).toNat)))), (29, .one (.dv [] (.int .i64 ((((((q)).take (i).toNat)).length : Int))))), (30, .one (.dv [] (.int .i64 ((zz : Int)))))], [(2, 38, [(.dv [] (a0Z (q)))])], []⟩) (fun zz => zz ≤ i.toNat ∧ ((q.take i.toNat).take zz).any (a4x q i) = false) (fun zz => i.toNat - zz) (0) ?_ (a0e ⟨rfl, rfl, rfl, rfl, rfl, trivial⟩ ⟨rfl, trivial⟩ trivial rfl) (fun zz hx => ?_)
  ·exact ⟨Nat.zero_le _, by simp⟩
  obtain ⟨k, rfl⟩ : ∃ v, v = zz := ⟨_, rfl⟩
  replace hx : k ≤ i.toNat ∧ ((q.take i.toNat).take k).any (a4x q i) = false := hx
  obtain ⟨hk, hall⟩ := hx
  show Ok _ _ _ _ _ (⟨[(1, .one (.dv [] (.int .i64 (i)))), (2, .box 2 0), (28, .one (.dv [] (a0Z (((q)).take (i).toNat)))), (29, .one (.dv [] (.int .i64 ((((((q)).take (i).toNat)).length : Int))))), (30, .one (.dv [] (.int .i64 ((k : Int)))))], [(2, 38, [(.dv [] (a0Z (q)))])], []⟩ : St)
  iterate 3 refine z ?_
  refine a0p ?_
  refine yQ rfl (fun c2 => ?_) fun c2 => ?_
  ·have d2 := c5p c2
   iterate 10 refine z ?_
   refine a0p ?_
   refine a1o (oB := [2, 6]) (oK := []) (by kernel_rfl) rfl rfl ?_
   refine zD 0 ?_
   refine zD 1 ?_
   refine zD 2 ?_
   refine zD 3 ?_
   refine zDG 4 ?_
   refine zDG 5 ?_
   refine zDG 6 ?_
   refine zD 7 ?_
   refine zD 8 ?_
   refine zDG 9 ?_
   refine zDG 10 ?_
   refine zDG 11 ?_
   refine zDG 12 ?_
   refine zDG 13 ?_
   refine zDG 14 ?_
   refine zDG 15 ?_
   refine zDG 16 ?_
   refine a4f 17 rfl (by kernel_rfl) (a1l rfl rfl rfl rfl rfl) rfl rfl Tryz.call75 b9t (fun hg => (a0f (a0x rfl hg) (a0H a0b) (a0f (a0x rfl hg) (a0H a0b) a0n))) rfl rfl ?_
   refine zD 18 ?_
   refine a1R (by kernel_rfl) ?_
   refine z ?_
   refine yQ rfl (fun c3 => ?_) fun c3 => ?_
   ·iterate 10 refine z ?_
    have h2 : (q.take i.toNat).any (a4x q i) = true := a7E (k := k) (d := default) (by rw [e2]; omega) (c3)
    rw [a2Y, h2]; simp
   ·iterate 3 refine z ?_
    refine a0j ?_
    iterate 3 refine z ?_
    refine ⟨k + 1, ?_, ?_, a0e ⟨rfl, rfl, rfl, rfl, rfl, trivial⟩ ⟨rfl, trivial⟩ trivial rfl⟩
    ·exact ⟨by omega, a7f (d := default) hall (by rw [e2]; omega) (c3)⟩
    ·omega
  ·have d2 := c5q c2
   iterate 10 refine z ?_
   have h2 : (q.take i.toNat).any (a4x q i) = false := a7Z (k := k) hall (by rw [e2]; omega)
   rw [a2Y, h2]; have h := c1; clear hall h2; grind
theorem b4i {q : List TxT} {i : Int}  : PFn Tryz.prog 26 [.agg [(.dv [] (a0Z (q)))], .one (.dv [] (.int .i64 (i)))] (.one (.dv [] (.bool (a2Y q i)))) := by
 refine ⟨a0u Tryz.func26 rfl Tryz.ntmps26 Tryz.results26 rfl (fun C => ?_)⟩
 refine yF 0 0 rfl rfl fun f0_0 => ?_
 refine a0G (x := .tmp 1) (a0a rfl) fun f1 => ?_
 iterate 11 refine z ?_
 refine zC Tryz.call58 ?_ (hf := a3Y)
 iterate 11 refine z ?_
 refine yQ rfl (fun c1 => ?_) fun c1 => ?_
 ·iterate 6 refine z ?_
  have h := c1; grind [a2Y]
 ·have e1 : 0 ≤ i ∧ i < (q.length : Int) := by grind
  have e2 : (q.take i.toNat).length = i.toNat := by rw [c5t]; omega
  iterate 7 refine z ?_
  refine a0W (ι := Nat) (fun zz => ⟨[(1, .one (.dv [] (.int .i64 (i)))), (2, .box 2 0), (5, .one (.dv [] (.int .i64 ((zz : Int)))))], [(2, 38, [(.dv [] (a0Z (q)))])], []⟩) (fun zz => zz ≤ i.toNat ∧ ((q.take i.toNat).take zz).any (a4x q i) = false) (fun zz => i.toNat - zz) (0) ?_ (a0e ⟨rfl, rfl, rfl, trivial⟩ ⟨rfl, trivial⟩ trivial rfl) (fun zz hx => ?_)
  ·exact ⟨Nat.zero_le _, by simp⟩
  obtain ⟨k, rfl⟩ : ∃ v, v = zz := ⟨_, rfl⟩
  replace hx : k ≤ i.toNat ∧ ((q.take i.toNat).take k).any (a4x q i) = false := hx
  obtain ⟨hk, hall⟩ := hx
  show Ok _ _ _ _ _ (⟨[(1, .one (.dv [] (.int .i64 (i)))), (2, .box 2 0), (5, .one (.dv [] (.int .i64 ((k : Int)))))], [(2, 38, [(.dv [] (a0Z (q)))])], []⟩ : St)
  iterate 6 refine z ?_
  refine yQ rfl (fun c2 => ?_) fun c2 => ?_
  ·have d2 := c5p c2
   iterate 4 refine z ?_
   refine a0p ?_
   refine a1o (oB := [2]) (oK := []) (by kernel_rfl) rfl rfl ?_
   refine zD 0 ?_
   refine zD 1 ?_
   refine zD 2 ?_
   refine zD 3 ?_
   refine zD 4 ?_
   refine zD 5 ?_
   refine a2v 6 rfl (by kernel_rfl) rfl rfl rfl Tryz.call58 a3Y (a0f (a0a rfl) (a0H a0b) (a0f (a0y (a0w rfl)) (a0H a0b) (a0f (a0y (a0w rfl)) (a0H a0b) a0n))) rfl rfl rfl rfl ?_
   refine zD 7 ?_
   refine zDG 8 ?_
   refine zDG 9 ?_
   refine zDG 10 ?_
   refine zDG 11 ?_
   refine zDG 12 ?_
   refine zDG 13 ?_
   refine zDG 14 ?_
   refine zDG 15 ?_
   refine zDG 16 ?_
   refine zDG 17 ?_
   refine zDG 18 ?_
   refine zDG 19 ?_
   refine a4f 20 rfl (by kernel_rfl) (a1l rfl rfl rfl rfl rfl) rfl rfl Tryz.call59 c1M (fun hg => (a0f (a0x rfl hg) (a0H a0b) (a0f (a0x rfl hg) (a0H a0b) a0n))) rfl rfl ?_
   refine zD 21 ?_
   refine a1R (by kernel_rfl) ?_
   refine z ?_
   refine yQ rfl (fun c3 => ?_) fun c3 => ?_
   ·iterate 10 refine z ?_
    have h2 : (q.take i.toNat).any (a4x q i) = true := a7E (k := k) (d := default) (by rw [e2]; omega) (by rw [b2t (by omega)]; have h := c3; rw [Int.toNat_natCast] at h; rw [a4x, b3G]; exact h)
    rw [a2Y, h2]; simp
   ·iterate 3 refine z ?_
    refine a0j ?_
    iterate 4 refine z ?_
    refine ⟨k + 1, ?_, ?_, a0e ⟨rfl, rfl, rfl, trivial⟩ ⟨rfl, trivial⟩ trivial rfl⟩
    ·exact ⟨by omega, a7f (d := default) hall (by rw [e2]; omega) (by rw [b2t (by omega)]; have h := c3; rw [Int.toNat_natCast] at h; rw [a4x, b3G]; exact h)⟩
    ·omega
  ·have d2 := c5q c2
   iterate 10 refine z ?_
   have h2 : (q.take i.toNat).any (a4x q i) = false := a7Z (k := k) hall (by rw [e2]; omega)
   rw [a2Y, h2]; have h := c1; clear hall h2; grind
def a2d (n : Str) (f : a3n) : Bool := sEq f.1 n
def a1d (r : a0J) (n : Str) : Int × Bool := if a0q (a2d n) r 0 < 0 then (0, false) else ((r.getD (a0q (a2d n) r 0).toNat default).2, true)
theorem a7W {α : Type} {p : α → Bool} : ∀ (xs : List α) (i : Int), 0 ≤ i → a0q p xs i < i + xs.length ∨ a0q p xs i = -1
 | [], i, h => .inr rfl
 | x :: xs, i, h => by
  rw [a0q]
  split
  ·left; simp; omega
  ·rcases a7W (p := p) xs (i + 1) (by omega) with h1 | h1
   ·left; simp only [List.length_cons]; omega
   ·exact .inr h1
theorem b8X {r : a0J} {n : Str} {k : Nat} (h : (r.take k).any (a2d n) = false) (hk : k < r.length) (hp : a2d n (r.getD k default) = true) : a1d r n = ((r.getD (k : Int).toNat default).2, true) := by
 have := a6V (p := a2d n) (d := default) h hk hp
 rw [a1d, this, if_neg (by omega)]
theorem c0s {r : a0J} {n : Str} {k : Nat} (h : (r.take k).any (a2d n) = false) (hk : k = r.length) : a1d r n = (0, false) := by
 rw [a1d, a6Q (p := a2d n) h hk]; rfl
theorem b7R {p : a0Q → Bool} {xs : List a0Q} {k : Nat} (hk : k < xs.length) : (xs.take (k + 1)).filter p = (xs.take k).filter p ++ (if p (xs.getD (k : Int).toNat default) then [xs.getD (k : Int).toNat default] else []) := by
 rw [List.take_add_one, List.getElem?_eq_getElem hk, List.filter_append]
 have : xs.getD (k : Int).toNat default = xs[k] := by simp [List.getD, List.getElem?_eq_getElem hk]
 rw [this]
 simp only [Option.toList_some, List.filter_cons, List.filter_nil]
theorem a6b (x : a0Q) : x.2.length ≤ a1a x := by unfold a1a a2e a0s; omega
theorem c3t {x : a3n} {n : Str}  : PFn Tryz.prog 157 [.agg [(.dv [] (.str (x.1))), (.dv [] (.int .i64 (x.2)))], .ref [] [.str (n)]] (.one (.dv [] (.bool (a2d n x)))) := by
 refine ⟨a0u Tryz.func157 rfl Tryz.ntmps157 Tryz.results157 rfl (fun C => ?_)⟩
 refine yF 0 0 rfl rfl fun f0_0 => ?_
 refine yF 0 1 rfl rfl fun f0_1 => ?_
 iterate 13 refine z ?_
 rfl
theorem c2x {x : a0J} {n : Str}  : PFn Tryz.prog 156 [.one (.dv [] (a0z (x))), .fn 157 [[.str (n)]]] (.one (.dv [] (.int .i64 (a0q (a2d n) x 0)))) := by
 refine ⟨a0u Tryz.func156 rfl Tryz.ntmps156 Tryz.results156 rfl (fun C => ?_)⟩
 refine a0G (x := .tmp 0) (a0a rfl) fun f0 => ?_
 iterate 10 refine z ?_
 refine a0W (ι := Nat) (fun zz => ⟨[(0, .one (.dv [] (a0z (x)))), (1, .fn 157 [[.str (n)]]), (7, .one (.dv [] (.int .i64 ((((x)).length : Int))))), (8, .one (.dv [] (.int .i64 ((zz : Int)))))], [], []⟩) (fun zz => zz ≤ x.length ∧ (x.take zz).any (a2d n) = false) (fun zz => x.length - zz) (0) ?_ (a0e ⟨rfl, rfl, rfl, rfl, trivial⟩ trivial trivial rfl) (fun zz hx => ?_)
 ·exact ⟨Nat.zero_le _, rfl⟩
 obtain ⟨k, rfl⟩ : ∃ v, v = zz := ⟨_, rfl⟩
 replace hx : k ≤ x.length ∧ (x.take k).any (a2d n) = false := hx
 obtain ⟨hk, hall⟩ := hx
 show Ok _ _ _ _ _ (⟨[(0, .one (.dv [] (a0z (x)))), (1, .fn 157 [[.str (n)]]), (7, .one (.dv [] (.int .i64 ((((x)).length : Int))))), (8, .one (.dv [] (.int .i64 ((k : Int)))))], [], []⟩ : St)
 iterate 3 refine z ?_
 refine a0p ?_
 refine yQ rfl (fun c1 => ?_) fun c1 => ?_
 ·have d1 := c5p c1
  iterate 14 refine z ?_
  refine a9q rfl rfl rfl (a0a rfl) Tryz.call157 c3t (a0f (a0a rfl) (a0l (a0c a0b (a0c a0b a0m))) a0n) rfl rfl ?_
  refine z ?_
  refine yQ rfl (fun c2 => ?_) fun c2 => ?_
  ·iterate 11 refine z ?_
   exact (a6V (p := a2d n) (d := default) hall (by omega) c2).symm
  ·iterate 3 refine z ?_
   refine a0j ?_
   iterate 3 refine z ?_
   refine ⟨k + 1, ?_, ?_, a0e ⟨rfl, rfl, rfl, rfl, trivial⟩ trivial trivial rfl⟩
   ·exact ⟨by omega, a6F (d := default) hall (by omega) c2⟩
   ·omega
 ·have d1 := c5q c1
  iterate 10 refine z ?_
  exact (a6Q (p := a2d n) hall (by omega)).symm
theorem b4r {x : a0J} {n : Str}  : PFn Tryz.prog 137 [.agg [(.dv [] (a0z (x)))], .one (.dv [] (.str (n)))] (.one (.dv [] (.int .i64 (a0q (a2d n) x 0)))) := by
 refine ⟨a0u Tryz.func137 rfl Tryz.ntmps137 Tryz.results137 rfl (fun C => ?_)⟩
 refine yF 0 0 rfl rfl fun f0_0 => ?_
 refine a0G (x := .tmp 1) (a0a rfl) fun f1 => ?_
 iterate 8 refine z ?_
 refine yO rfl rfl (b0B rfl (a0a rfl)) rfl ?_
 refine a3k rfl rfl rfl Tryz.call156 c2x (a0f (a0a rfl) (a0H a0b) (a0f (a0a rfl) (b2b (b1g rfl rfl a9R)) a0n)) rfl rfl ?_
 iterate 4 refine z ?_
 rfl
theorem a6j {x : a0J} {n : Str}  : PFn Tryz.prog 109 [.agg [(.dv [] (a0z (x)))], .one (.dv [] (.str (n)))] (.tup [(false, [(.dv [] (.int .i64 ((a1d x n).1)))]), (false, [(.dv [] (.bool ((a1d x n).2)))])]) := by
 refine ⟨a0u Tryz.func109 rfl Tryz.ntmps109 Tryz.results109 rfl (fun C => ?_)⟩
 refine yF 0 0 rfl rfl fun f0_0 => ?_
 refine a0G (x := .tmp 1) (a0a rfl) fun f1 => ?_
 iterate 8 refine z ?_
 refine zC Tryz.call137 ?_ (hf := b4r)
 iterate 7 refine z ?_
 refine yQ rfl (fun c1 => ?_) fun c1 => ?_
 ·have d1 := c5p c1
  iterate 6 refine z ?_
  refine a1W (a0B rfl) (a0B rfl) rfl rfl ?_
  have h : a1d x n = (0, false) := by rw [a1d, if_pos d1]
  rw [h] <;> rfl
 ·have d1 := c5q c1
  have hlt := a7W (p := a2d n) x 0 (by omega)
  iterate 13 refine z ?_
  refine a1W (a0B rfl) (a0B rfl) rfl rfl ?_
  have h : a1d x n = ((x.getD (a0q (a2d n) x 0).toNat default).2, true) := by rw [a1d, if_neg d1]
  rw [h] <;> rfl
theorem a7F {x : a0J} {n : Str}  : PFn Tryz.prog 93 [.agg [(.dv [] (a0z (x)))], .one (.dv [] (.str (n)))] (.tup [(false, [(.dv [] (.int .i64 ((a1d x n).1)))]), (false, [(.dv [] (.bool ((a1d x n).2)))])]) := by
 refine ⟨a0u Tryz.func93 rfl Tryz.ntmps93 Tryz.results93 rfl (fun C => ?_)⟩
 refine yF 0 0 rfl rfl fun f0_0 => ?_
 refine a0G (x := .tmp 1) (a0a rfl) fun f1 => ?_
 iterate 10 refine z ?_
 refine a0W (ι := Nat) (fun zz => ⟨[(1, .one (.dv [] (.str (n)))), (2, .box 2 0), (6, .one (.dv [] (.int .i64 ((zz : Int)))))], [(2, 109, [(.dv [] (a0z (x)))])], []⟩) (fun zz => zz ≤ x.length ∧ (x.take zz).any (a2d n) = false) (fun zz => x.length - zz) (0) ?_ (a0e ⟨rfl, rfl, rfl, trivial⟩ ⟨rfl, trivial⟩ trivial rfl) (fun zz hx => ?_)
 ·exact ⟨Nat.zero_le _, rfl⟩
 obtain ⟨k, rfl⟩ : ∃ v, v = zz := ⟨_, rfl⟩
 replace hx : k ≤ x.length ∧ (x.take k).any (a2d n) = false := hx
 obtain ⟨hk, hall⟩ := hx
 show Ok _ _ _ _ _ (⟨[(1, .one (.dv [] (.str (n)))), (2, .box 2 0), (6, .one (.dv [] (.int .i64 ((k : Int)))))], [(2, 109, [(.dv [] (a0z (x)))])], []⟩ : St)
 iterate 8 refine z ?_
 refine yQ rfl (fun c1 => ?_) fun c1 => ?_
 ·have d1 := c5p c1
  iterate 14 refine z ?_
  refine yQ rfl (fun c2 => ?_) fun c2 => ?_
  ·iterate 16 refine z ?_
   refine a1W (a0B rfl) (a0B rfl) rfl rfl ?_
   rw [b8X hall (by omega) c2] <;> rfl
  ·iterate 3 refine z ?_
   refine a0j ?_
   iterate 4 refine z ?_
   refine ⟨k + 1, ?_, ?_, a0e ⟨rfl, rfl, rfl, trivial⟩ ⟨rfl, trivial⟩ trivial rfl⟩
   ·exact ⟨by omega, a6F (d := default) hall (by omega) c2⟩
   ·omega
 ·have d1 := c5q c1
  iterate 10 refine z ?_
  refine a1W (a0B rfl) (a0B rfl) rfl rfl ?_
  rw [c0s hall (by omega)] <;> rfl
theorem a7g {x : a0J} (hb : x.length ≤ 1099511627776) : KFn Tryz.prog 131 [.agg [(.dv [] (a0z (x)))]] (.agg [(.key 3)]) [(3, some (a0d false (a0z (x))))] := by
 refine ⟨a0u Tryz.func131 rfl Tryz.ntmps131 Tryz.results131 rfl (fun C => ?_)⟩
 refine yF 0 0 rfl rfl fun f0_0 => ?_
 iterate 5 refine z ?_
 refine a5b (k := 3) hT rfl rfl rfl rfl rfl rfl rfl rfl ?_
 iterate 2 refine z ?_
 refine b7a (k := 3) (cs := (x).flatMap a1k) (n := (x).length) hT rfl rfl rfl rfl rfl rfl rfl (a0a rfl) rfl rfl rfl (a0a rfl) (a3e (fun _ => rfl) _) (by first | (dsimp only [a0d]; omega) | omega) (by first | (dsimp only [a0d]; omega) | omega) (Nat.zero_add _) (rfl) ?_
 simp only [a0i, a0h, SV.kill, CV.kill, kk, Nat.reduceBEq]
 refine yO rfl rfl (a2s hT hB rfl rfl rfl (a1x (a0a rfl) rfl rfl rfl rfl rfl a2o)) rfl ?_
 iterate 2 refine z ?_
 refine a0r (σ' := ⟨[(2, .box 2 0)], [(2, 109, [(.key 3)])], [(3, some (a0d false (a0z (x))))]⟩) (a0e ⟨rfl, trivial⟩ ⟨rfl, trivial⟩ ⟨rfl, trivial⟩ rfl) ?_
 refine z ?_
 refine a1B (a0K hT rfl rfl rfl rfl) ?_
 exact ⟨rfl, rfl⟩
theorem a7m {x : a0J} (hb : x.length ≤ 1099511627776) : KFn Tryz.prog 88 [.agg [(.dv [] (a0z (x)))]] (.agg [(.key 3)]) [(3, some (a0d false (a0z (x))))] := by
 refine ⟨a0u Tryz.func88 rfl Tryz.ntmps88 Tryz.results88 rfl (fun C => ?_)⟩
 refine yF 0 0 rfl rfl fun f0_0 => ?_
 iterate 5 refine z ?_
 refine a5b (k := 3) hT rfl rfl rfl rfl rfl rfl rfl rfl ?_
 iterate 2 refine z ?_
 refine b7a (k := 3) (cs := (x).flatMap a1k) (n := (x).length) hT rfl rfl rfl rfl rfl rfl rfl (a0a rfl) rfl rfl rfl (a0a rfl) (a3e (fun _ => rfl) _) (by first | (dsimp only [a0d]; omega) | omega) (by first | (dsimp only [a0d]; omega) | omega) (Nat.zero_add _) (rfl) ?_
 simp only [a0i, a0h, SV.kill, CV.kill, kk, Nat.reduceBEq]
 refine yO rfl rfl (a2s hT hB rfl rfl rfl (a1x (a0a rfl) rfl rfl rfl rfl rfl a2o)) rfl ?_
 iterate 2 refine z ?_
 refine a0r (σ' := ⟨[(2, .box 2 0)], [(2, 109, [(.key 3)])], [(3, some (a0d false (a0z (x))))]⟩) (a0e ⟨rfl, trivial⟩ ⟨rfl, trivial⟩ ⟨rfl, trivial⟩ rfl) ?_
 refine z ?_
 refine a1B (a0K hT rfl rfl rfl rfl) ?_
 exact ⟨rfl, rfl⟩
theorem b7g {x : a0Q} (hb : x.2.length ≤ 1099511627776) : KFn Tryz.prog 99 [.agg [(.dv [] (.int .i64 (x.1.1))), (.dv [] (.int .i64 (x.1.2.1))), (.dv [] (.str (x.1.2.2))), (.dv [] (a0z (x.2)))]] (.agg [(.dv [] (.int .i64 (x.1.1))), (.dv [] (.int .i64 (x.1.2.1))), (.dv [] (.str (x.1.2.2))), (.key 7003)]) [(7003, some (a0d false (a0z (x.2))))] := by
 refine ⟨a0u Tryz.func99 rfl Tryz.ntmps99 Tryz.results99 rfl (fun C => ?_)⟩
 refine yF 0 0 rfl rfl fun f0_0 => ?_
 refine yF 0 1 rfl rfl fun f0_1 => ?_
 refine yF 0 2 rfl rfl fun f0_2 => ?_
 refine yF 0 3 rfl rfl fun f0_3 => ?_
 iterate 4 refine z ?_
 refine a0p ?_
 refine a1o (oB := [1, 2]) (oK := []) (by kernel_rfl) rfl rfl ?_
 refine zD 0 ?_
 refine zD 1 ?_
 refine zD 2 ?_
 refine zD 3 ?_
 refine a3L 7000 4 rfl (by kernel_rfl) rfl rfl rfl Tryz.call131 (a7g (by omega)) (a0f (a0a rfl) (a0l (a0c a0b a0m)) a0n) rfl rfl rfl rfl rfl ?_
 refine a1X 5 rfl (by kernel_rfl) rfl rfl (a2s hT hB rfl rfl rfl (a1x (a0a rfl) rfl rfl rfl rfl rfl (a1x (a0a rfl) rfl rfl rfl rfl rfl a2o))) rfl rfl rfl rfl ?_
 refine b3g 6 rfl (by kernel_rfl) rfl (by kernel_rfl) (a4E hT rfl rfl rfl (a0a rfl) (a0a rfl) rfl rfl rfl rfl rfl rfl) (by kernel_rfl) ?_
 refine z ?_
 refine a0r (σ' := ⟨[(2, .box 2 0)], [(2, 128, [(.dv [] (.int .i64 (x.1.1))), (.dv [] (.int .i64 (x.1.2.1))), (.dv [] (.str (x.1.2.2))), (.key 7003)])], [(7003, some (a0d false (a0z (x.2))))]⟩) (a0e ⟨rfl, trivial⟩ ⟨rfl, trivial⟩ ⟨rfl, trivial⟩ rfl) ?_
 refine z ?_
 refine a1B (a0K hT rfl rfl rfl rfl) ?_
 exact ⟨rfl, rfl⟩
theorem b1M {x : a0Q} (hb : x.2.length ≤ 1099511627776) : KFn Tryz.prog 87 [.agg [(.dv [] (.int .i64 (x.1.1))), (.dv [] (.int .i64 (x.1.2.1))), (.dv [] (.str (x.1.2.2))), (.dv [] (a0z (x.2)))]] (.agg [(.dv [] (.int .i64 (x.1.1))), (.dv [] (.int .i64 (x.1.2.1))), (.dv [] (.str (x.1.2.2))), (.key 7003)]) [(7003, some (a0d false (a0z (x.2))))] := by
 refine ⟨a0u Tryz.func87 rfl Tryz.ntmps87 Tryz.results87 rfl (fun C => ?_)⟩
 refine yF 0 0 rfl rfl fun f0_0 => ?_
 refine yF 0 1 rfl rfl fun f0_1 => ?_
 refine yF 0 2 rfl rfl fun f0_2 => ?_
 refine yF 0 3 rfl rfl fun f0_3 => ?_
 iterate 4 refine z ?_
 refine a0p ?_
 refine a1o (oB := [1, 2]) (oK := []) (by kernel_rfl) rfl rfl ?_
 refine zD 0 ?_
 refine zD 1 ?_
 refine zD 2 ?_
 refine zD 3 ?_
 refine a3L 7000 4 rfl (by kernel_rfl) rfl rfl rfl Tryz.call88 (a7m (by omega)) (a0f (a0a rfl) (a0l (a0c a0b a0m)) a0n) rfl rfl rfl rfl rfl ?_
 refine a1X 5 rfl (by kernel_rfl) rfl rfl (a2s hT hB rfl rfl rfl (a1x (a0a rfl) rfl rfl rfl rfl rfl (a1x (a0a rfl) rfl rfl rfl rfl rfl a2o))) rfl rfl rfl rfl ?_
 refine b3g 6 rfl (by kernel_rfl) rfl (by kernel_rfl) (a4E hT rfl rfl rfl (a0a rfl) (a0a rfl) rfl rfl rfl rfl rfl rfl) (by kernel_rfl) ?_
 refine z ?_
 refine a0r (σ' := ⟨[(2, .box 2 0)], [(2, 128, [(.dv [] (.int .i64 (x.1.1))), (.dv [] (.int .i64 (x.1.2.1))), (.dv [] (.str (x.1.2.2))), (.key 7003)])], [(7003, some (a0d false (a0z (x.2))))]⟩) (a0e ⟨rfl, trivial⟩ ⟨rfl, trivial⟩ ⟨rfl, trivial⟩ rfl) ?_
 refine z ?_
 refine a1B (a0K hT rfl rfl rfl rfl) ?_
 exact ⟨rfl, rfl⟩
theorem a2E {k : IntKind} {a b : Int} (h : a = b) : some (SV.one (CV.dv [] (DV.int k a))) = some (SV.one (CV.dv [] (DV.int k b))) := by rw [h]
def mkL {α : Type} (m : α → Int → α) (c : α → Nat) : List α → Int → List α
 | [], _ => []
 | x :: xs, k => m x k :: mkL m c xs (k + (c x : Int))
theorem a5y {α : Type} {m : α → Int → α} {c : α → Nat} : ∀ (xs : List α) (k : Int), (mkL m c xs k).length = xs.length
 | [], _ => rfl
 | x :: xs, k => by rw [mkL, List.length_cons, a5y xs, List.length_cons]
theorem b2y {α : Type} {m : α → Int → α} {c : α → Nat} : ∀ (xs ys : List α) (k : Int), mkL m c (xs ++ ys) k = mkL m c xs k ++ mkL m c ys (k + (wSum c xs : Int))
 | [], ys, k => by simp [mkL, wSum]
 | x :: xs, ys, k => by
  rw [List.cons_append, mkL, b2y xs ys, mkL, List.cons_append]
  congr 3
  have : wSum c (x :: xs) = c x + wSum c xs := by simp [wSum]
  omega
theorem a4L {α : Type} [Inhabited α] {xs : List α} {j : Nat} (h : j < xs.length) : xs.getD (j : Int).toNat default = xs[j] := by simp [List.getD, List.getElem?_eq_getElem h]
theorem b5v {α : Type} [Inhabited α] {m : α → Int → α} {c : α → Nat} {xs : List α} {j : Nat} {k : Int} (h : j < xs.length) : mkL m c (xs.take (j + 1)) k = mkL m c (xs.take j) k ++ [m (xs.getD (j : Int).toNat default) (k + (wSum c (xs.take j) : Int))] := by
 rw [List.take_add_one, List.getElem?_eq_getElem h, b2y, a4L h]; rfl
theorem a8d {α : Type} [Inhabited α] {m : α → Int → α} {c : α → Nat} {xs : List α} {j : Nat} {k : Int} (h : j < xs.length) : (mkL m c xs k).getD (j : Int).toNat default = m (xs.getD (j : Int).toNat default) (k + (wSum c (xs.take j) : Int)) := by
 have e : mkL m c xs k = mkL m c (xs.take (j + 1)) k ++ mkL m c (xs.drop (j + 1)) (k + (wSum c (xs.take (j + 1)) : Int)) := by rw [← b2y, List.take_append_drop]
 rw [e, b5v h]
 have hl : (mkL m c (xs.take j) k).length = j := by rw [a5y, c5t]; omega
 have : (j : Int).toNat = j := by omega
 rw [List.getD, List.append_assoc, List.getElem?_append_right (by omega), show (j : Int).toNat - (mkL m c (xs.take j) k).length = 0 by omega]
 rfl
theorem c2N {α : Type} [Inhabited α] {enc : α → List DV} {xs : List α} {j : Nat} (h : j < xs.length) : (xs.drop j).flatMap enc = enc (xs.getD (j : Int).toNat default) ++ (xs.drop (j + 1)).flatMap enc := by
 rw [List.drop_eq_getElem_cons h, List.flatMap_cons, a4L h]
theorem a7L {α : Type} [Inhabited α] {enc : α → List DV} {A : List DV} {xs : List α} {j : Nat} (h : j < xs.length) : A ++ (xs.drop j).flatMap enc = mid A (enc (xs.getD (j : Int).toNat default)) ((xs.drop (j + 1)).flatMap enc) := by rw [c2N h]; rfl
theorem a7B {α : Type} [Inhabited α] {m : α → Int → α} {c : α → Nat} {enc : α → List DV} {B C : List DV} {xs : List α} {j : Nat} {k : Int} (h : j < xs.length) (hB : B = enc (m (xs.getD (j : Int).toNat default) (k + (wSum c (xs.take j) : Int)))) : mid ((mkL m c (xs.take j) k).flatMap enc) B C = (mkL m c (xs.take (j + 1)) k).flatMap enc ++ C := by
 unfold mid
 rw [b5v h, List.flatMap_append, hB]; simp
theorem a7h {α : Type} {m : α → Int → α} {c : α → Nat} {enc : α → List DV} {e sz : Nat} {xs : List α} {j : Nat} {k : Int} (h : xs.length ≤ j) : some (some (KC.mk true e sz xs.length ((mkL m c (xs.take j) k).flatMap enc ++ (xs.drop j).flatMap enc))) = some (some (a0d true (a2B e sz enc (mkL m c xs k)))) := by
 rw [List.take_of_length_le h, List.drop_eq_nil_of_le h]
 simp only [a2B, a0d, a5y, List.flatMap_nil, List.append_nil]
theorem a1s {α : Type} {m : α → Int → α} {c : α → Nat} {enc : α → List DV} {sz : Nat} (hs : ∀ x, (enc x).length = sz) {xs : List α} {j : Nat} {k : Int} (h : j ≤ xs.length) : ((mkL m c (xs.take j) k).flatMap enc).length = j * sz := by
 rw [a7N hs, a5y, c5t, Nat.min_eq_left h]
theorem a4X {α : Type} {c w : α → Nat} (h : ∀ x, c x ≤ 8 * (1 + w x)) : ∀ xs : List α, wSum c xs ≤ 8 * a0s w xs
 | [] => by simp [wSum, a0s]
 | x :: xs => by
  have := a4X h xs
  have := h x
  simp only [wSum, a0s, List.map_cons, List.sum_cons, List.length_cons] at *
  omega
theorem a6M {α : Type} {c : α → Nat} (h : ∀ x, 1 ≤ c x) : ∀ xs : List α, xs.length ≤ wSum c xs
 | [] => by simp [wSum]
 | x :: xs => by
  have := a6M h xs
  have := h x
  simp only [wSum, List.map_cons, List.sum_cons, List.length_cons] at *
  omega
theorem b4E {α : Type} {n : Nat} : ∀ xs : List α, wSum (fun _ => n) xs = n * xs.length
 | [] => by simp [wSum]
 | x :: xs => by
  have := b4E (n := n) xs
  simp only [wSum, List.map_cons, List.sum_cons, List.length_cons] at *
  rw [Nat.mul_add]; omega
def a5m (k : Nat) (out : Str) : Str := if k = 0 then out else a5m (k / 10) (a5j [UInt8.ofNat (IntKind.u8.wrap (48 + (k : Int) % 10)).toNat] ++ out)
termination_by k
theorem c1i {k : Nat} {out : Str} (h : 0 < (k : Int)) : a5m (k / 10) (a5j [UInt8.ofNat (IntKind.u8.wrap (48 + (k : Int) % 10)).toNat] ++ out) = a5m k out := by rw [a5m.eq_def k out, if_neg (by omega)]
theorem b9D {k : Nat} {out : Str} (h : ¬ 0 < (k : Int)) : a5m k out = out := by rw [a5m.eq_def k out, if_pos (by omega)]
def a2r (k : Int) : Str := if k ≤ 0 then ByteArray.mk #[109, 48] else ByteArray.mk #[109] ++ a5m k.toNat (ByteArray.mk #[])
def a8t (_ : Int) (k : Int) : Int := k
def a3D (_ : Int) : Nat := 1
def a3U (x : a3n) (k : Int) : a3n := (a2r (k), (k) + (1))
def a1P (x : a3n) : Nat := 2
theorem b8a (x : a3n) : a1P x ≤ 8 * (1 + a1v x) := by
 simp only [a1P]
 omega
def a3O (x : a0Q) (k : Int) : a0Q := ((k, (k) + (1), a2r (((k) + (1)) + (1))), mkL a3U a1P (x.2) ((((k) + (1)) + (1)) + (1)))
def a1D (x : a0Q) : Nat := 3 + wSum a1P (x.2)
theorem c1X (x : a0Q) : a1D x ≤ 8 * (1 + a1a x) := by
 have h3 := a4X b8a (x.2)
 simp only [a1D, a1a, a2x, a2e]
 omega
theorem a3Z {k : Int} (hk : k ≤ 9000000000000000000) : PFn Tryz.prog 80 [.one (.dv [] (.int .i64 (k)))] (.one (.dv [] (.str (a2r k)))) := by
 refine ⟨a0u Tryz.func80 rfl Tryz.ntmps80 Tryz.results80 rfl (fun C => ?_)⟩
 refine a0G (x := .tmp 0) (a0a rfl) fun f0 => ?_
 iterate 8 refine z ?_
 refine yQ rfl (fun c1 => ?_) fun c1 => ?_
 ·have d1 := c5p c1
  iterate 6 refine z ?_
  rw [a2r, if_pos d1]
 ·have d1 := c5q c1
  iterate 7 refine z ?_
  refine a0W (ι := Nat × Str) (fun zz => ⟨[(0, .one (.dv [] (.int .i64 ((zz.1 : Int))))), (2, .one (.dv [] (.str (ByteArray.mk #[])))), (3, .one (.dv [] (.str (zz.2))))], [], []⟩) (fun zz => a5m zz.1 zz.2 = a5m k.toNat (ByteArray.mk #[]) ∧ zz.2.size + zz.1 ≤ k.toNat) (fun zz => zz.1) ((k.toNat, ByteArray.mk #[])) ?_ (a0e ⟨(a2E (by show k = ((k.toNat : Nat) : Int); omega)), rfl, rfl, trivial⟩ trivial trivial rfl) (fun zz hx => ?_)
  ·exact ⟨rfl, by show 0 + _ ≤ _; omega⟩
  obtain ⟨n, out⟩ := zz
  replace hx : a5m n out = a5m k.toNat (ByteArray.mk #[]) ∧ out.size + n ≤ k.toNat := hx
  obtain ⟨hd, hs⟩ := hx
  show Ok _ _ _ _ _ (⟨[(0, .one (.dv [] (.int .i64 ((n : Int))))), (2, .one (.dv [] (.str (ByteArray.mk #[])))), (3, .one (.dv [] (.str (out))))], [], []⟩ : St)
  iterate 5 refine z ?_
  refine yQ rfl (fun c2 => ?_) fun c2 => ?_
  ·have d2 := c5p c2
   have hs1 : (a5j [UInt8.ofNat (IntKind.u8.wrap (48 + (n : Int) % 10)).toNat]).size = 1 := rfl
   iterate 5 refine z ?_
   refine yO rfl rfl (a9B rfl (a0a rfl) (a0y (a0w rfl)) (by omega) (by omega)) rfl ?_
   refine z ?_
   refine yO rfl rfl (c1n hT rfl rfl rfl (a0a rfl)) rfl ?_
   refine a6n (k := 12) (js := []) hT rfl rfl rfl rfl rfl rfl rfl rfl rfl (a0a rfl) rfl rfl (a0o (a0C rfl) a1e rfl) (by decide) (by decide) rfl rfl ?_
   simp only [a0i, a0h, SV.kill, CV.kill, kk, Nat.reduceBEq]
   refine yO rfl rfl (b8z (b := UInt8.ofNat (IntKind.u8.wrap ((48) + (((n : Int)) % (10)))).toNat) hT rfl rfl rfl rfl (b2h (c := ⟨false, 5, 1, 1, [.int .u8 (IntKind.u8.wrap ((48) + (((n : Int)) % (10))))]⟩) (a0a rfl) rfl) (c4A _)) rfl ?_
   refine z ?_
   refine yO rfl rfl (b5s rfl (a0a rfl) (a0a rfl) (by omega)) rfl ?_
   iterate 2 refine z ?_
   refine a0j ?_
   refine z ?_
   refine yO rfl rfl (c1f rfl (a0a rfl) (a0y (a0w rfl)) (by omega) (by omega)) rfl ?_
   refine z ?_
   refine a1j ?_
   iterate 2 refine z ?_
   refine ⟨(n / 10, a5j [UInt8.ofNat (IntKind.u8.wrap (48 + (n : Int) % 10)).toNat] ++ out), ?_, ?_, a0e ⟨rfl, rfl, rfl, trivial⟩ trivial trivial rfl⟩
   ·exact ⟨(c1i d2).trans hd, by rw [ByteArray.size_append, hs1]; dsimp only; omega⟩
   ·dsimp only; omega
  ·have d2 := c5q c2
   have hs9 : (ByteArray.mk #[109]).size = 1 := rfl
   iterate 7 refine z ?_
   refine yO rfl rfl (b5s rfl (a0R (a0S rfl)) (a0a rfl) (by omega)) rfl ?_
   iterate 4 refine z ?_
   rw [a2r, if_neg d1, ← hd, b9D d2]
theorem b7Z {x : List (a3n)} {k : Int} (h0 : 0 ≤ k) (h1 : k + (wSum a1P x : Int) ≤ 4611686018427387904) : WFn Tryz.prog 117 [.one (.key 0), .one (.dv [] (.int .i64 (k)))] (.one (.dv [] (.int .i64 (k + (wSum a1P x : Int))))) [(0, a0d true (.sl 161 2 (x.length) (x.flatMap a1k)))] [(0, a0d true (a0z (mkL a3U a1P x k)))] := by
 refine ⟨a0u Tryz.func117 rfl Tryz.ntmps117 Tryz.results117 rfl (fun C => ?_)⟩
 have hln : x.length ≤ wSum a1P x := a6M (fun _ => by simp only [a1P]; omega) x
 refine a0G (x := .tmp 1) (a0a rfl) fun f1 => ?_
 iterate 8 refine z ?_
 refine a0W (ι := Nat) (fun zz => ⟨[(0, .one (.key 0)), (1, .one (.dv [] (.int .i64 (k + (wSum a1P (x.take zz) : Int))))), (4, .one (.dv [] (.int .i64 (0)))), (5, .one (.dv [] (.int .i64 ((zz : Int)))))], [], [(0, some ⟨true, 161, 2, x.length, (mkL a3U a1P (x.take zz) k).flatMap a1k ++ (x.drop zz).flatMap a1k⟩)]⟩) (fun zz => zz ≤ x.length) (fun zz => x.length - zz) (0) ?_ (a0e ⟨rfl, (a2E (by simp [wSum])), rfl, rfl, trivial⟩ trivial ⟨rfl, trivial⟩ rfl) (fun zz hx => ?_)
 ·exact Nat.zero_le _
 obtain ⟨j, rfl⟩ : ∃ v, v = zz := ⟨_, rfl⟩
 replace hx : j ≤ x.length := hx
 have hw := fun h => a1T a1P x j h
 show Ok _ _ _ _ _ (⟨[(0, .one (.key 0)), (1, .one (.dv [] (.int .i64 (k + (wSum a1P (x.take j) : Int))))), (4, .one (.dv [] (.int .i64 (0)))), (5, .one (.dv [] (.int .i64 ((j : Int)))))], [], [(0, some ⟨true, 161, 2, x.length, (mkL a3U a1P (x.take j) k).flatMap a1k ++ (x.drop j).flatMap a1k⟩)]⟩ : St)
 iterate 4 refine z ?_
 refine yO rfl rfl (a3S (n := (x.length)) hT rfl rfl (a0a rfl) rfl rfl) rfl ?_
 iterate 2 refine z ?_
 refine yQ rfl (fun c1 => ?_) fun c1 => ?_
 ·have d1 := c5p c1
  have hj : j < x.length := by omega
  obtain ⟨hw1, hw2⟩ := hw hj
  have hc : a1P (x.getD (j : Int).toNat default) = 2 := rfl
  refine a5g (k := 0) (cs' := mid ((mkL a3U a1P (x.take j) k).flatMap a1k) [.str ((x.getD (j : Int).toNat default).1), .int .i64 ((x.getD (j : Int).toNat default).2)] ((x.drop (j + 1)).flatMap a1k)) rfl (a7L hj) ?_
  iterate 8 refine z ?_
  refine zC Tryz.call80 ?_ (hf := a3Z (by omega))
  refine yO rfl rfl (a1q (i := j) hT rfl rfl rfl (a0a rfl) rfl (a0a rfl) rfl (by show _ < (x.length); omega)) rfl ?_
  refine z ?_
  refine a1u (js := []) (cs := mid ((mkL a3U a1P (x.take j) k).flatMap a1k) [.str (a2r (k + (wSum a1P (x.take j) : Int))), .int .i64 ((x.getD (j : Int).toNat default).2)] ((x.drop (j + 1)).flatMap a1k)) hT rfl rfl rfl rfl (a0a rfl) (a0a rfl) rfl rfl rfl rfl (a0o (a0C rfl) a1e rfl) (by decide) (by decide) rfl (a2a (off := (j * 2 + 0)) (n := 1) (j := 0) (a1s (sz := 2) (fun _ => rfl) (Nat.le_of_lt hj)) (by omega) (Nat.le_of_ble_eq_true rfl)) (a1S (off := (j * 2 + 0)) (j := 0) (a1s (sz := 2) (fun _ => rfl) (Nat.le_of_lt hj)) (by omega) rfl (Nat.le_of_ble_eq_true rfl)) ?_
  simp only [a0i, a0h, SV.kill, CV.kill, kk, Nat.reduceBEq]
  iterate 10 refine z ?_
  refine yO rfl rfl (a1q (i := j) hT rfl rfl rfl (a0a rfl) rfl (a0a rfl) rfl (by show _ < (x.length); omega)) rfl ?_
  refine z ?_
  refine a1u (js := []) (cs := mid ((mkL a3U a1P (x.take j) k).flatMap a1k) [.str (a2r (k + (wSum a1P (x.take j) : Int))), .int .i64 ((k + (wSum a1P (x.take j) : Int)) + (1))] ((x.drop (j + 1)).flatMap a1k)) hT rfl rfl rfl rfl (a0a rfl) (a0a rfl) rfl rfl rfl rfl (a0o (a0C rfl) a1e rfl) (by decide) (by decide) rfl (a2a (off := (j * 2 + 1)) (n := 1) (j := 1) (a1s (sz := 2) (fun _ => rfl) (Nat.le_of_lt hj)) (by omega) (Nat.le_of_ble_eq_true rfl)) (a1S (off := (j * 2 + 1)) (j := 1) (a1s (sz := 2) (fun _ => rfl) (Nat.le_of_lt hj)) (by omega) rfl (Nat.le_of_ble_eq_true rfl)) ?_
  simp only [a0i, a0h, SV.kill, CV.kill, kk, Nat.reduceBEq]
  refine z ?_
  refine a0j ?_
  iterate 3 refine z ?_
  refine a1j ?_
  iterate 2 refine z ?_
  refine a0j ?_
  iterate 4 refine z ?_
  refine ⟨j + 1, ?_, ?_, a0e ⟨rfl, (a2E (by omega)), rfl, rfl, trivial⟩ trivial ⟨(congrArg (fun cs => some (some (KC.mk true 161 2 x.length cs))) (a7B (by omega) (by rfl))), trivial⟩ rfl⟩
  ·omega
  ·omega
 ·have d1 := c5q c1
  iterate 9 refine z ?_
  refine a0r (σ' := ⟨[(4, .one (.dv [] (.int .i64 (k + (wSum a1P (x.take j) : Int)))))], [], [(0, some (a0d true (a0z (mkL a3U a1P x k))))]⟩) (a0e ⟨rfl, trivial⟩ trivial ⟨(a7h (by omega)), trivial⟩ rfl) ?_
  refine z ?_
  refine a1B (a0B rfl) ⟨eqI ?_, a6P rfl⟩
  have hq := a3r a1P x j (by omega); omega
theorem b6x {x y : List (a3n)} {k : Int} (hy : y = mkL a3U a1P x k) (h0 : 0 ≤ k) (h1 : k + (wSum a1P x : Int) ≤ 4611686018427387904) : PFn Tryz.prog 118 [.one (.dv [] (a0z (y))), .one (.dv [] (.int .i64 (k)))] (.one (.dv [] (.int .i64 (k + (wSum a1P x : Int))))) := by
 refine ⟨a0u Tryz.func118 rfl Tryz.ntmps118 Tryz.results118 rfl (fun C => ?_)⟩
 refine a0G (x := .tmp 0) (a0a rfl) fun f0 => ?_
 refine a0G (x := .tmp 1) (a0a rfl) fun f1 => ?_
 iterate 8 refine z ?_
 refine a0W (ι := Nat) (fun zz => ⟨[(0, .one (.dv [] (a0z (y)))), (1, .one (.dv [] (.int .i64 (k + (wSum a1P (x.take zz) : Int))))), (5, .one (.dv [] (.int .i64 ((zz : Int)))))], [], []⟩) (fun zz => zz ≤ x.length) (fun zz => x.length - zz) (0) ?_ (a0e ⟨rfl, (a2E (by simp [wSum])), rfl, trivial⟩ trivial trivial rfl) (fun zz hx => ?_)
 ·exact Nat.zero_le _
 obtain ⟨j, rfl⟩ : ∃ v, v = zz := ⟨_, rfl⟩
 replace hx : j ≤ x.length := hx
 have hw := fun h => a1T a1P x j h
 have hyl : y.length = x.length := by rw [hy, a5y]
 show Ok _ _ _ _ _ (⟨[(0, .one (.dv [] (a0z (y)))), (1, .one (.dv [] (.int .i64 (k + (wSum a1P (x.take j) : Int))))), (5, .one (.dv [] (.int .i64 ((j : Int)))))], [], []⟩ : St)
 iterate 7 refine z ?_
 refine yQ rfl (fun c1 => ?_) fun c1 => ?_
 ·have d1 := c5p c1
  have hj : j < x.length := by omega
  obtain ⟨hw1, hw2⟩ := hw hj
  have hc : a1P (x.getD (j : Int).toNat default) = 2 := rfl
  have he : y.getD (j : Int).toNat default = a3U (x.getD (j : Int).toNat default) (k + (wSum a1P (x.take j) : Int)) := by rw [hy]; exact a8d hj
  iterate 4 refine z ?_
  refine a0p ?_
  refine a0p ?_
  refine a1o (oB := []) (oK := []) (by kernel_rfl) rfl rfl ?_
  refine zD 0 ?_
  refine zD 1 ?_
  refine zD 2 ?_
  refine zD 3 ?_
  refine zD 4 ?_
  refine zD 5 ?_
  refine a2v 6 rfl (by kernel_rfl) rfl rfl rfl Tryz.call80 (a3Z (by omega)) (a0f (a0a rfl) (a0H a0b) a0n) rfl rfl rfl rfl ?_
  refine zD 7 ?_
  refine a1R (by kernel_rfl) ?_
  refine z ?_
  refine yQ rfl (fun c2 => ?_) fun c2 => ?_
  ·iterate 11 refine z ?_
   exfalso; rw [he] at c2; simp [a3U, sEq] at c2
  ·iterate 17 refine z ?_
   refine yQ rfl (fun c3 => ?_) fun c3 => ?_
   ·have d3 := a2g c3
    iterate 11 refine z ?_
    exfalso; rw [he] at c3; simp [a3U, sEq] at c3
   ·have d3 := a2j c3
    iterate 2 refine z ?_
    refine a0j ?_
    iterate 3 refine z ?_
    refine a1j ?_
    iterate 2 refine z ?_
    refine a0j ?_
    iterate 4 refine z ?_
    refine ⟨j + 1, ?_, ?_, a0e ⟨rfl, (a2E (by omega)), rfl, trivial⟩ trivial trivial rfl⟩
    ·omega
    ·omega
 ·have d1 := c5q c1
  iterate 11 refine z ?_
  have hq := a3r a1P x j (by omega); omega
theorem c2A {x : List (a0Q)} {k : Int} (h0 : 0 ≤ k) (h1 : k + (wSum a1D x : Int) ≤ 4611686018427387904) : WFn Tryz.prog 81 [.one (.key 0), .one (.dv [] (.int .i64 (k)))] (.one (.dv [] (.int .i64 (k + (wSum a1D x : Int))))) [(0, a0d true (.sl 128 4 (x.length) (x.flatMap a0E)))] [(0, a0d true (a0t (mkL a3O a1D x k)))] := by
 refine ⟨a0u Tryz.func81 rfl Tryz.ntmps81 Tryz.results81 rfl (fun C => ?_)⟩
 have hln : x.length ≤ wSum a1D x := a6M (fun _ => by simp only [a1D]; omega) x
 refine a0G (x := .tmp 1) (a0a rfl) fun f1 => ?_
 iterate 8 refine z ?_
 refine a0W (ι := Nat) (fun zz => ⟨[(0, .one (.key 0)), (1, .one (.dv [] (.int .i64 (k + (wSum a1D (x.take zz) : Int))))), (4, .one (.dv [] (.int .i64 (0)))), (5, .one (.dv [] (.int .i64 ((zz : Int)))))], [], [(0, some ⟨true, 128, 4, x.length, (mkL a3O a1D (x.take zz) k).flatMap a0E ++ (x.drop zz).flatMap a0E⟩)]⟩) (fun zz => zz ≤ x.length) (fun zz => x.length - zz) (0) ?_ (a0e ⟨rfl, (a2E (by simp [wSum])), rfl, rfl, trivial⟩ trivial ⟨rfl, trivial⟩ rfl) (fun zz hx => ?_)
 ·exact Nat.zero_le _
 obtain ⟨j, rfl⟩ : ∃ v, v = zz := ⟨_, rfl⟩
 replace hx : j ≤ x.length := hx
 have hw := fun h => a1T a1D x j h
 show Ok _ _ _ _ _ (⟨[(0, .one (.key 0)), (1, .one (.dv [] (.int .i64 (k + (wSum a1D (x.take j) : Int))))), (4, .one (.dv [] (.int .i64 (0)))), (5, .one (.dv [] (.int .i64 ((j : Int)))))], [], [(0, some ⟨true, 128, 4, x.length, (mkL a3O a1D (x.take j) k).flatMap a0E ++ (x.drop j).flatMap a0E⟩)]⟩ : St)
 iterate 4 refine z ?_
 refine yO rfl rfl (a3S (n := (x.length)) hT rfl rfl (a0a rfl) rfl rfl) rfl ?_
 iterate 2 refine z ?_
 refine yQ rfl (fun c1 => ?_) fun c1 => ?_
 ·have d1 := c5p c1
  have hj : j < x.length := by omega
  obtain ⟨hw1, hw2⟩ := hw hj
  have hc : a1D (x.getD (j : Int).toNat default) = 3 + wSum a1P ((x.getD (j : Int).toNat default).2) := rfl
  refine a5g (k := 0) (cs' := mid ((mkL a3O a1D (x.take j) k).flatMap a0E) [.int .i64 ((x.getD (j : Int).toNat default).1.1), .int .i64 ((x.getD (j : Int).toNat default).1.2.1), .str ((x.getD (j : Int).toNat default).1.2.2), a0z ((x.getD (j : Int).toNat default).2)] ((x.drop (j + 1)).flatMap a0E)) rfl (a7L hj) ?_
  iterate 8 refine z ?_
  refine yO rfl rfl (a1q (i := j) hT rfl rfl rfl (a0a rfl) rfl (a0a rfl) rfl (by show _ < (x.length); omega)) rfl ?_
  iterate 2 refine z ?_
  refine a1u (js := []) (cs := mid ((mkL a3O a1D (x.take j) k).flatMap a0E) [.int .i64 (k + (wSum a1D (x.take j) : Int)), .int .i64 ((x.getD (j : Int).toNat default).1.2.1), .str ((x.getD (j : Int).toNat default).1.2.2), a0z ((x.getD (j : Int).toNat default).2)] ((x.drop (j + 1)).flatMap a0E)) hT rfl rfl rfl rfl (a0a rfl) (a0a rfl) rfl rfl rfl rfl (a0o (a0C rfl) a1e rfl) (by decide) (by decide) rfl (a2a (off := ((j * 4 + 0) + 0)) (n := 1) (j := 0) (a1s (sz := 4) (fun _ => rfl) (Nat.le_of_lt hj)) (by omega) (Nat.le_of_ble_eq_true rfl)) (a1S (off := ((j * 4 + 0) + 0)) (j := 0) (a1s (sz := 4) (fun _ => rfl) (Nat.le_of_lt hj)) (by omega) rfl (Nat.le_of_ble_eq_true rfl)) ?_
  simp only [a0i, a0h, SV.kill, CV.kill, kk, Nat.reduceBEq]
  iterate 10 refine z ?_
  refine yO rfl rfl (a1q (i := j) hT rfl rfl rfl (a0a rfl) rfl (a0a rfl) rfl (by show _ < (x.length); omega)) rfl ?_
  iterate 2 refine z ?_
  refine a1u (js := []) (cs := mid ((mkL a3O a1D (x.take j) k).flatMap a0E) [.int .i64 (k + (wSum a1D (x.take j) : Int)), .int .i64 ((k + (wSum a1D (x.take j) : Int)) + (1)), .str ((x.getD (j : Int).toNat default).1.2.2), a0z ((x.getD (j : Int).toNat default).2)] ((x.drop (j + 1)).flatMap a0E)) hT rfl rfl rfl rfl (a0a rfl) (a0a rfl) rfl rfl rfl rfl (a0o (a0C rfl) a1e rfl) (by decide) (by decide) rfl (a2a (off := ((j * 4 + 0) + 1)) (n := 1) (j := 1) (a1s (sz := 4) (fun _ => rfl) (Nat.le_of_lt hj)) (by omega) (Nat.le_of_ble_eq_true rfl)) (a1S (off := ((j * 4 + 0) + 1)) (j := 1) (a1s (sz := 4) (fun _ => rfl) (Nat.le_of_lt hj)) (by omega) rfl (Nat.le_of_ble_eq_true rfl)) ?_
  simp only [a0i, a0h, SV.kill, CV.kill, kk, Nat.reduceBEq]
  iterate 10 refine z ?_
  refine zC Tryz.call80 ?_ (hf := a3Z (by omega))
  refine yO rfl rfl (a1q (i := j) hT rfl rfl rfl (a0a rfl) rfl (a0a rfl) rfl (by show _ < (x.length); omega)) rfl ?_
  iterate 2 refine z ?_
  refine a1u (js := []) (cs := mid ((mkL a3O a1D (x.take j) k).flatMap a0E) [.int .i64 (k + (wSum a1D (x.take j) : Int)), .int .i64 ((k + (wSum a1D (x.take j) : Int)) + (1)), .str (a2r (((k + (wSum a1D (x.take j) : Int)) + (1)) + (1))), a0z ((x.getD (j : Int).toNat default).2)] ((x.drop (j + 1)).flatMap a0E)) hT rfl rfl rfl rfl (a0a rfl) (a0a rfl) rfl rfl rfl rfl (a0o (a0C rfl) a1e rfl) (by decide) (by decide) rfl (a2a (off := ((j * 4 + 0) + 2)) (n := 1) (j := 2) (a1s (sz := 4) (fun _ => rfl) (Nat.le_of_lt hj)) (by omega) (Nat.le_of_ble_eq_true rfl)) (a1S (off := ((j * 4 + 0) + 2)) (j := 2) (a1s (sz := 4) (fun _ => rfl) (Nat.le_of_lt hj)) (by omega) rfl (Nat.le_of_ble_eq_true rfl)) ?_
  simp only [a0i, a0h, SV.kill, CV.kill, kk, Nat.reduceBEq]
  iterate 6 refine z ?_
  refine a0j ?_
  iterate 2 refine z ?_
  refine yO rfl rfl (a1q (i := j) hT rfl rfl rfl (a0a rfl) rfl (a0a rfl) rfl (by show _ < (x.length); omega)) rfl ?_
  iterate 2 refine z ?_
  refine yO rfl rfl (a3a hT rfl rfl (a0a rfl) rfl (a2m (off := ((j * 4 + 3) + 0)) (j := 3) (a1s (sz := 4) (fun _ => rfl) (Nat.le_of_lt hj)) (by omega) rfl)) rfl ?_
  refine z ?_
  refine a9a (t := 42) (ccs := mid ((mkL a3O a1D (x.take j) k).flatMap a0E) [.int .i64 (k + (wSum a1D (x.take j) : Int)), .int .i64 ((k + (wSum a1D (x.take j) : Int)) + (1)), .str (a2r (((k + (wSum a1D (x.take j) : Int)) + (1)) + (1))), a0z (mkL a3U a1P ((x.getD (j : Int).toNat default).2) ((((k + (wSum a1D (x.take j) : Int)) + (1)) + (1)) + (1)))] ((x.drop (j + 1)).flatMap a0E)) 5044 rfl rfl rfl Tryz.call117 (b7Z (by omega) (by omega)) rfl rfl (a2m (off := ((j * 4 + 3) + 0)) (j := 3) (a1s (sz := 4) (fun _ => rfl) (Nat.le_of_lt hj)) (by omega) rfl) rfl (a2J (a0a rfl) (a3b (a4h rfl)) (a2J (a0a rfl) (a3b (a3I rfl)) a4C)) rfl rfl (a5l (off := ((j * 4 + 3) + 0)) (j := 3) (a1s (sz := 4) (fun _ => rfl) (Nat.le_of_lt hj)) (by omega) rfl (Nat.lt_of_lt_of_le (Nat.lt_succ_self _) (Nat.le_of_ble_eq_true rfl))) ?_
  simp only [a0i, a0h, SV.kill, CV.kill, kk, Nat.reduceBEq]
  refine z ?_
  refine a1j ?_
  iterate 2 refine z ?_
  refine a0j ?_
  iterate 4 refine z ?_
  refine ⟨j + 1, ?_, ?_, a0e ⟨rfl, (a2E (by omega)), rfl, rfl, trivial⟩ trivial ⟨(congrArg (fun cs => some (some (KC.mk true 128 4 x.length cs))) (a7B (by omega) (by rfl))), trivial⟩ rfl⟩
  ·omega
  ·omega
 ·have d1 := c5q c1
  iterate 9 refine z ?_
  refine a0r (σ' := ⟨[(4, .one (.dv [] (.int .i64 (k + (wSum a1D (x.take j) : Int)))))], [], [(0, some (a0d true (a0t (mkL a3O a1D x k))))]⟩) (a0e ⟨rfl, trivial⟩ trivial ⟨(a7h (by omega)), trivial⟩ rfl) ?_
  refine z ?_
  refine a1B (a0B rfl) ⟨eqI ?_, a6P rfl⟩
  have hq := a3r a1D x j (by omega); omega
theorem b8y {x y : List (a0Q)} {k : Int} (hy : y = mkL a3O a1D x k) (h0 : 0 ≤ k) (h1 : k + (wSum a1D x : Int) ≤ 4611686018427387904) : PFn Tryz.prog 83 [.one (.dv [] (a0t (y))), .one (.dv [] (.int .i64 (k)))] (.one (.dv [] (.int .i64 (k + (wSum a1D x : Int))))) := by
 refine ⟨a0u Tryz.func83 rfl Tryz.ntmps83 Tryz.results83 rfl (fun C => ?_)⟩
 refine a0G (x := .tmp 0) (a0a rfl) fun f0 => ?_
 refine a0G (x := .tmp 1) (a0a rfl) fun f1 => ?_
 iterate 8 refine z ?_
 refine a0W (ι := Nat) (fun zz => ⟨[(0, .one (.dv [] (a0t (y)))), (1, .one (.dv [] (.int .i64 (k + (wSum a1D (x.take zz) : Int))))), (5, .one (.dv [] (.int .i64 ((zz : Int)))))], [], []⟩) (fun zz => zz ≤ x.length) (fun zz => x.length - zz) (0) ?_ (a0e ⟨rfl, (a2E (by simp [wSum])), rfl, trivial⟩ trivial trivial rfl) (fun zz hx => ?_)
 ·exact Nat.zero_le _
 obtain ⟨j, rfl⟩ : ∃ v, v = zz := ⟨_, rfl⟩
 replace hx : j ≤ x.length := hx
 have hw := fun h => a1T a1D x j h
 have hyl : y.length = x.length := by rw [hy, a5y]
 show Ok _ _ _ _ _ (⟨[(0, .one (.dv [] (a0t (y)))), (1, .one (.dv [] (.int .i64 (k + (wSum a1D (x.take j) : Int))))), (5, .one (.dv [] (.int .i64 ((j : Int)))))], [], []⟩ : St)
 iterate 7 refine z ?_
 refine yQ rfl (fun c1 => ?_) fun c1 => ?_
 ·have d1 := c5p c1
  have hj : j < x.length := by omega
  obtain ⟨hw1, hw2⟩ := hw hj
  have hc : a1D (x.getD (j : Int).toNat default) = 3 + wSum a1P ((x.getD (j : Int).toNat default).2) := rfl
  have he : y.getD (j : Int).toNat default = a3O (x.getD (j : Int).toNat default) (k + (wSum a1D (x.take j) : Int)) := by rw [hy]; exact a8d hj
  iterate 15 refine z ?_
  refine yQ rfl (fun c2 => ?_) fun c2 => ?_
  ·have d2 := a2g c2
   iterate 11 refine z ?_
   exfalso; rw [he] at c2; simp [a3O, sEq] at c2
  ·have d2 := a2j c2
   iterate 18 refine z ?_
   refine yQ rfl (fun c3 => ?_) fun c3 => ?_
   ·have d3 := a2g c3
    iterate 11 refine z ?_
    exfalso; rw [he] at c3; simp [a3O, sEq] at c3
   ·have d3 := a2j c3
    iterate 7 refine z ?_
    refine a0p ?_
    refine a0p ?_
    refine a1o (oB := []) (oK := []) (by kernel_rfl) rfl rfl ?_
    refine zD 0 ?_
    refine zD 1 ?_
    refine zD 2 ?_
    refine zD 3 ?_
    refine zD 4 ?_
    refine zD 5 ?_
    refine zD 6 ?_
    refine a2v 7 rfl (by kernel_rfl) rfl rfl rfl Tryz.call80 (a3Z (by omega)) (a0f (a0a rfl) (a0H a0b) a0n) rfl rfl rfl rfl ?_
    refine zD 8 ?_
    refine a1R (by kernel_rfl) ?_
    refine z ?_
    refine yQ rfl (fun c4 => ?_) fun c4 => ?_
    ·iterate 11 refine z ?_
     exfalso; rw [he] at c4; simp [a3O, sEq] at c4
    ·iterate 15 refine z ?_
     refine zC Tryz.call118 ?_ (hf := b6x (x := (x.getD (j : Int).toNat default).2) (by rw [he]; rfl) (by omega) (by omega))
     iterate 6 refine z ?_
     refine yQ rfl (fun c5 => ?_) fun c5 => ?_
     ·have d5 := c5p c5
      iterate 10 refine z ?_
      exfalso; omega
     ·have d5 := c5q c5
      iterate 3 refine z ?_
      refine a0j ?_
      iterate 4 refine z ?_
      refine ⟨j + 1, ?_, ?_, a0e ⟨rfl, (a2E (by omega)), rfl, trivial⟩ trivial trivial rfl⟩
      ·omega
      ·omega
 ·have d1 := c5q c1
  iterate 11 refine z ?_
  have hq := a3r a1D x j (by omega); omega
def a3K (x : a0I) (k : Int) : a0I := (a2r (k), mkL a3O a1D (x.2.1) ((k) + (1)), ((k) + (1)) + (wSum a1D (x.2.1) : Int))
def a1w (x : a0I) : Nat := 2 + wSum a1D (x.2.1)
theorem b1x (x : a0I) : a1w x ≤ 8 * (1 + a0v x) := by
 have h1 := a4X c1X (x.2.1)
 simp only [a1w, a0v]
 omega
theorem b4y {x : List (a0I)} {k : Int} (h0 : 0 ≤ k) (h1 : k + (wSum a1w x : Int) ≤ 4611686018427387904) : WFn Tryz.prog 42 [.one (.key 0), .one (.dv [] (.int .i64 (k)))] (.one (.dv [] (.int .i64 (k + (wSum a1w x : Int))))) [(0, a0d true (.sl 89 3 (x.length) (x.flatMap a0U)))] [(0, a0d true (a0k (mkL a3K a1w x k)))] := by
 refine ⟨a0u Tryz.func42 rfl Tryz.ntmps42 Tryz.results42 rfl (fun C => ?_)⟩
 have hln : x.length ≤ wSum a1w x := a6M (fun _ => by simp only [a1w]; omega) x
 refine a0G (x := .tmp 1) (a0a rfl) fun f1 => ?_
 iterate 8 refine z ?_
 refine a0W (ι := Nat) (fun zz => ⟨[(0, .one (.key 0)), (1, .one (.dv [] (.int .i64 (k + (wSum a1w (x.take zz) : Int))))), (4, .one (.dv [] (.int .i64 (0)))), (5, .one (.dv [] (.int .i64 ((zz : Int)))))], [], [(0, some ⟨true, 89, 3, x.length, (mkL a3K a1w (x.take zz) k).flatMap a0U ++ (x.drop zz).flatMap a0U⟩)]⟩) (fun zz => zz ≤ x.length) (fun zz => x.length - zz) (0) ?_ (a0e ⟨rfl, (a2E (by simp [wSum])), rfl, rfl, trivial⟩ trivial ⟨rfl, trivial⟩ rfl) (fun zz hx => ?_)
 ·exact Nat.zero_le _
 obtain ⟨j, rfl⟩ : ∃ v, v = zz := ⟨_, rfl⟩
 replace hx : j ≤ x.length := hx
 have hw := fun h => a1T a1w x j h
 show Ok _ _ _ _ _ (⟨[(0, .one (.key 0)), (1, .one (.dv [] (.int .i64 (k + (wSum a1w (x.take j) : Int))))), (4, .one (.dv [] (.int .i64 (0)))), (5, .one (.dv [] (.int .i64 ((j : Int)))))], [], [(0, some ⟨true, 89, 3, x.length, (mkL a3K a1w (x.take j) k).flatMap a0U ++ (x.drop j).flatMap a0U⟩)]⟩ : St)
 iterate 4 refine z ?_
 refine yO rfl rfl (a3S (n := (x.length)) hT rfl rfl (a0a rfl) rfl rfl) rfl ?_
 iterate 2 refine z ?_
 refine yQ rfl (fun c1 => ?_) fun c1 => ?_
 ·have d1 := c5p c1
  have hj : j < x.length := by omega
  obtain ⟨hw1, hw2⟩ := hw hj
  have hc : a1w (x.getD (j : Int).toNat default) = 2 + wSum a1D ((x.getD (j : Int).toNat default).2.1) := rfl
  refine a5g (k := 0) (cs' := mid ((mkL a3K a1w (x.take j) k).flatMap a0U) [.str ((x.getD (j : Int).toNat default).1), a0t ((x.getD (j : Int).toNat default).2.1), .int .i64 ((x.getD (j : Int).toNat default).2.2)] ((x.drop (j + 1)).flatMap a0U)) rfl (a7L hj) ?_
  iterate 8 refine z ?_
  refine zC Tryz.call80 ?_ (hf := a3Z (by omega))
  refine yO rfl rfl (a1q (i := j) hT rfl rfl rfl (a0a rfl) rfl (a0a rfl) rfl (by show _ < (x.length); omega)) rfl ?_
  refine z ?_
  refine a1u (js := []) (cs := mid ((mkL a3K a1w (x.take j) k).flatMap a0U) [.str (a2r (k + (wSum a1w (x.take j) : Int))), a0t ((x.getD (j : Int).toNat default).2.1), .int .i64 ((x.getD (j : Int).toNat default).2.2)] ((x.drop (j + 1)).flatMap a0U)) hT rfl rfl rfl rfl (a0a rfl) (a0a rfl) rfl rfl rfl rfl (a0o (a0C rfl) a1e rfl) (by decide) (by decide) rfl (a2a (off := (j * 3 + 0)) (n := 1) (j := 0) (a1s (sz := 3) (fun _ => rfl) (Nat.le_of_lt hj)) (by omega) (Nat.le_of_ble_eq_true rfl)) (a1S (off := (j * 3 + 0)) (j := 0) (a1s (sz := 3) (fun _ => rfl) (Nat.le_of_lt hj)) (by omega) rfl (Nat.le_of_ble_eq_true rfl)) ?_
  simp only [a0i, a0h, SV.kill, CV.kill, kk, Nat.reduceBEq]
  iterate 9 refine z ?_
  refine yO rfl rfl (a1q (i := j) hT rfl rfl rfl (a0a rfl) rfl (a0a rfl) rfl (by show _ < (x.length); omega)) rfl ?_
  refine z ?_
  refine yO rfl rfl (a3a hT rfl rfl (a0a rfl) rfl (a2m (off := (j * 3 + 1)) (j := 1) (a1s (sz := 3) (fun _ => rfl) (Nat.le_of_lt hj)) (by omega) rfl)) rfl ?_
  refine z ?_
  refine a9a (t := 24) (ccs := mid ((mkL a3K a1w (x.take j) k).flatMap a0U) [.str (a2r (k + (wSum a1w (x.take j) : Int))), a0t (mkL a3O a1D ((x.getD (j : Int).toNat default).2.1) ((k + (wSum a1w (x.take j) : Int)) + (1))), .int .i64 ((x.getD (j : Int).toNat default).2.2)] ((x.drop (j + 1)).flatMap a0U)) 5026 rfl rfl rfl Tryz.call81 (c2A (by omega) (by omega)) rfl rfl (a2m (off := (j * 3 + 1)) (j := 1) (a1s (sz := 3) (fun _ => rfl) (Nat.le_of_lt hj)) (by omega) rfl) rfl (a2J (a0a rfl) (a3b (a4h rfl)) (a2J (a0a rfl) (a3b (a3I rfl)) a4C)) rfl rfl (a5l (off := (j * 3 + 1)) (j := 1) (a1s (sz := 3) (fun _ => rfl) (Nat.le_of_lt hj)) (by omega) rfl (Nat.lt_of_lt_of_le (Nat.lt_succ_self _) (Nat.le_of_ble_eq_true rfl))) ?_
  simp only [a0i, a0h, SV.kill, CV.kill, kk, Nat.reduceBEq]
  iterate 6 refine z ?_
  refine yO rfl rfl (a1q (i := j) hT rfl rfl rfl (a0a rfl) rfl (a0a rfl) rfl (by show _ < (x.length); omega)) rfl ?_
  refine z ?_
  refine a1u (js := []) (cs := mid ((mkL a3K a1w (x.take j) k).flatMap a0U) [.str (a2r (k + (wSum a1w (x.take j) : Int))), a0t (mkL a3O a1D ((x.getD (j : Int).toNat default).2.1) ((k + (wSum a1w (x.take j) : Int)) + (1))), .int .i64 (((k + (wSum a1w (x.take j) : Int)) + (1)) + (wSum a1D ((x.getD (j : Int).toNat default).2.1) : Int))] ((x.drop (j + 1)).flatMap a0U)) hT rfl rfl rfl rfl (a0a rfl) (a0a rfl) rfl rfl rfl rfl (a0o (a0C rfl) a1e rfl) (by decide) (by decide) rfl (a2a (off := (j * 3 + 2)) (n := 1) (j := 2) (a1s (sz := 3) (fun _ => rfl) (Nat.le_of_lt hj)) (by omega) (Nat.le_of_ble_eq_true rfl)) (a1S (off := (j * 3 + 2)) (j := 2) (a1s (sz := 3) (fun _ => rfl) (Nat.le_of_lt hj)) (by omega) rfl (Nat.le_of_ble_eq_true rfl)) ?_
  simp only [a0i, a0h, SV.kill, CV.kill, kk, Nat.reduceBEq]
  refine z ?_
  refine a0j ?_
  iterate 3 refine z ?_
  refine a1j ?_
  iterate 2 refine z ?_
  refine a0j ?_
  iterate 4 refine z ?_
  refine ⟨j + 1, ?_, ?_, a0e ⟨rfl, (a2E (by omega)), rfl, rfl, trivial⟩ trivial ⟨(congrArg (fun cs => some (some (KC.mk true 89 3 x.length cs))) (a7B (by omega) (by rfl))), trivial⟩ rfl⟩
  ·omega
  ·omega
 ·have d1 := c5q c1
  iterate 9 refine z ?_
  refine a0r (σ' := ⟨[(4, .one (.dv [] (.int .i64 (k + (wSum a1w (x.take j) : Int)))))], [], [(0, some (a0d true (a0k (mkL a3K a1w x k))))]⟩) (a0e ⟨rfl, trivial⟩ trivial ⟨(a7h (by omega)), trivial⟩ rfl) ?_
  refine z ?_
  refine a1B (a0B rfl) ⟨eqI ?_, a6P rfl⟩
  have hq := a3r a1w x j (by omega); omega
theorem b8e {x y : List (a0I)} {k : Int} (hy : y = mkL a3K a1w x k) (h0 : 0 ≤ k) (h1 : k + (wSum a1w x : Int) ≤ 4611686018427387904) : PFn Tryz.prog 45 [.one (.dv [] (a0k (y))), .one (.dv [] (.int .i64 (k)))] (.one (.dv [] (.int .i64 (k + (wSum a1w x : Int))))) := by
 refine ⟨a0u Tryz.func45 rfl Tryz.ntmps45 Tryz.results45 rfl (fun C => ?_)⟩
 refine a0G (x := .tmp 0) (a0a rfl) fun f0 => ?_
 refine a0G (x := .tmp 1) (a0a rfl) fun f1 => ?_
 iterate 8 refine z ?_
 refine a0W (ι := Nat) (fun zz => ⟨[(0, .one (.dv [] (a0k (y)))), (1, .one (.dv [] (.int .i64 (k + (wSum a1w (x.take zz) : Int))))), (5, .one (.dv [] (.int .i64 ((zz : Int)))))], [], []⟩) (fun zz => zz ≤ x.length) (fun zz => x.length - zz) (0) ?_ (a0e ⟨rfl, (a2E (by simp [wSum])), rfl, trivial⟩ trivial trivial rfl) (fun zz hx => ?_)
 ·exact Nat.zero_le _
 obtain ⟨j, rfl⟩ : ∃ v, v = zz := ⟨_, rfl⟩
 replace hx : j ≤ x.length := hx
 have hw := fun h => a1T a1w x j h
 have hyl : y.length = x.length := by rw [hy, a5y]
 show Ok _ _ _ _ _ (⟨[(0, .one (.dv [] (a0k (y)))), (1, .one (.dv [] (.int .i64 (k + (wSum a1w (x.take j) : Int))))), (5, .one (.dv [] (.int .i64 ((j : Int)))))], [], []⟩ : St)
 iterate 7 refine z ?_
 refine yQ rfl (fun c1 => ?_) fun c1 => ?_
 ·have d1 := c5p c1
  have hj : j < x.length := by omega
  obtain ⟨hw1, hw2⟩ := hw hj
  have hc : a1w (x.getD (j : Int).toNat default) = 2 + wSum a1D ((x.getD (j : Int).toNat default).2.1) := rfl
  have he : y.getD (j : Int).toNat default = a3K (x.getD (j : Int).toNat default) (k + (wSum a1w (x.take j) : Int)) := by rw [hy]; exact a8d hj
  iterate 4 refine z ?_
  refine a0p ?_
  refine a0p ?_
  refine a1o (oB := []) (oK := []) (by kernel_rfl) rfl rfl ?_
  refine zD 0 ?_
  refine zD 1 ?_
  refine zD 2 ?_
  refine zD 3 ?_
  refine zD 4 ?_
  refine zD 5 ?_
  refine a2v 6 rfl (by kernel_rfl) rfl rfl rfl Tryz.call80 (a3Z (by omega)) (a0f (a0a rfl) (a0H a0b) a0n) rfl rfl rfl rfl ?_
  refine zD 7 ?_
  refine a1R (by kernel_rfl) ?_
  refine z ?_
  refine yQ rfl (fun c2 => ?_) fun c2 => ?_
  ·iterate 11 refine z ?_
   exfalso; rw [he] at c2; simp [a3K, sEq] at c2
  ·iterate 14 refine z ?_
   refine zC Tryz.call83 ?_ (hf := b8y (x := (x.getD (j : Int).toNat default).2.1) (by rw [he]; rfl) (by omega) (by omega))
   iterate 7 refine z ?_
   refine yQ rfl (fun c3 => ?_) fun c3 => ?_
   ·have d3 := c5p c3
    iterate 11 refine z ?_
    exfalso; omega
   ·have d3 := c5q c3
    iterate 12 refine z ?_
    refine yQ rfl (fun c4 => ?_) fun c4 => ?_
    ·have d4 := a2g c4
     iterate 11 refine z ?_
     exfalso; rw [he] at c4; simp [a3K, sEq] at c4
    ·have d4 := a2j c4
     iterate 2 refine z ?_
     refine a0j ?_
     iterate 3 refine z ?_
     refine a1j ?_
     iterate 2 refine z ?_
     refine a0j ?_
     iterate 4 refine z ?_
     refine ⟨j + 1, ?_, ?_, a0e ⟨rfl, (a2E (by omega)), rfl, trivial⟩ trivial trivial rfl⟩
     ·omega
     ·omega
 ·have d1 := c5q c1
  iterate 11 refine z ?_
  have hq := a3r a1w x j (by omega); omega
def a4m (a b : Int) : Int := if a < b then -1 else if b < a then 1 else 0
def a2W (a b : a1g) : Int := if !a1H a || !a1H b then 0 else if ¬ a.1 = b.1 then a4m a.1 b.1 else if ¬ a.2.1 = b.2.1 then a4m a.2.1 b.2.1 else a4D a.2.2 b.2.2
def a7z (a b : Bool) : Int := if a then -1 else if b then 1 else 0
theorem a7i {a b : Int} : a4m a b = 0 ↔ a = b := by unfold a4m; split <;> (try split) <;> omega
theorem b0h {a b : a1g} (h : (!a1H a || !a1H b) = true) : a2W a b = 0 := by rw [a2W, if_pos h]
theorem a9c {a b : a1g} (h : (!a1H a || !a1H b) = false) (h1 : ¬ a.1 = b.1) : a2W a b = a4m a.1 b.1 := by rw [a2W, if_neg (by rw [h]; simp), if_pos h1]
theorem a9t {a b : a1g} (h : (!a1H a || !a1H b) = false) (h1 : a.1 = b.1) (h2 : ¬ a.2.1 = b.2.1) : a2W a b = a4m a.2.1 b.2.1 := by rw [a2W, if_neg (by rw [h]; simp), if_neg (by simp [h1]), if_pos h2]
theorem a9o {a b : a1g} (h : (!a1H a || !a1H b) = false) (h1 : a.1 = b.1) (h2 : a.2.1 = b.2.1) : a2W a b = a4D a.2.2 b.2.2 := by rw [a2W, if_neg (by rw [h]; simp), if_neg (by simp [h1]), if_neg (by simp [h2])]
theorem c4f (a b : Str) : (!(sLt a b || sEq a b)) = sLt b a := by rw [a7e, Bool.not_not]
def a6g (k : a1g) (r : a3V) : Bool := !((!a1H k || (r.1 && !a1H r.2.2.1)) || (r.2.1 && !a1H r.2.2.2)) && ((!r.1 || decide (a2W r.2.2.1 k ≤ 0)) && (!r.2.1 || decide (a2W k r.2.2.2 ≤ 0)))
theorem b6Z (a b : Int) : a4m a b = - a4m b a := by unfold a4m; split <;> split <;> (try split) <;> omega
theorem c5c (a b : Str) : a4D a b = - a4D b a := by
 unfold a4D
 cases h1 : sLt a b <;> cases h2 : sLt b a <;> simp
 have h := a7e a b
 rw [h1, h2] at h
 simp at h
theorem a9F (a b : a1g) : a2W a b = - a2W b a := by
 by_cases h : (!a1H a || !a1H b) = true
 ·rw [b0h h, b0h (by rw [Bool.or_comm]; exact h)]; rfl
 ·have h : (!a1H a || !a1H b) = false := by simpa using h
  have h' : (!a1H b || !a1H a) = false := by rw [Bool.or_comm]; exact h
  by_cases h1 : a.1 = b.1
  ·by_cases h2 : a.2.1 = b.2.1
   ·rw [a9o h h1 h2, a9o h' h1.symm h2.symm, c5c]
   ·rw [a9t h h1 h2, a9t h' h1.symm (fun e => h2 e.symm), b6Z]
  ·rw [a9c h h1, a9c h' (fun e => h1 e.symm), b6Z]
theorem b1Q {x y : Bool}  : PFn Tryz.prog 122 [.one (.dv [] (.bool (x))), .one (.dv [] (.bool (y)))] (.one (.dv [] (.int .i64 (a7z x y)))) := by
 refine ⟨a0u Tryz.func122 rfl Tryz.ntmps122 Tryz.results122 rfl (fun C => ?_)⟩
 iterate 7 refine z ?_
 refine yQ rfl (fun c1 => ?_) fun c1 => ?_
 ·iterate 6 refine z ?_
  rw [a7z, if_pos c1]
 ·iterate 6 refine z ?_
  refine yQ rfl (fun c2 => ?_) fun c2 => ?_
  ·iterate 6 refine z ?_
   rw [a7z, if_neg (by rw [c1]; simp), if_pos c2]
  ·iterate 7 refine z ?_
   rw [a7z, if_neg (by rw [c1]; simp), if_neg (by rw [c2]; simp)]
theorem b6A {x y : Int}  : PFn Tryz.prog 133 [.one (.dv [] (.int .i64 (x))), .one (.dv [] (.int .i64 (y)))] (.one (.dv [] (.int .i64 (a4m x y)))) := by
 refine ⟨a0u Tryz.func133 rfl Tryz.ntmps133 Tryz.results133 rfl (fun C => ?_)⟩
 refine a0G (x := .tmp 0) (a0a rfl) fun f0 => ?_
 refine a0G (x := .tmp 1) (a0a rfl) fun f1 => ?_
 iterate 11 refine z ?_
 refine yQ rfl (fun c1 => ?_) fun c1 => ?_
 ·have d1 := c5p c1
  iterate 7 refine z ?_
  rw [a4m, if_pos d1]
 ·have d1 := c5q c1
  iterate 6 refine z ?_
  refine yQ rfl (fun c2 => ?_) fun c2 => ?_
  ·have d2 := c5p c2
   iterate 7 refine z ?_
   rw [a4m, if_neg d1, if_pos d2]
  ·have d2 := c5q c2
   iterate 8 refine z ?_
   rw [a4m, if_neg d1, if_neg d2]
theorem a8X {x y : a1g}  : PFn Tryz.prog 104 [.agg [(.dv [] (.int .i64 (x.1))), (.dv [] (.int .i64 (x.2.1))), (.dv [] (.str (x.2.2)))], .agg [(.dv [] (.int .i64 (y.1))), (.dv [] (.int .i64 (y.2.1))), (.dv [] (.str (y.2.2)))]] (.one (.dv [] (.int .i64 (a2W x y)))) := by
 refine ⟨a0u Tryz.func104 rfl Tryz.ntmps104 Tryz.results104 rfl (fun C => ?_)⟩
 refine yF 0 0 rfl rfl fun f0_0 => ?_
 refine yF 0 1 rfl rfl fun f0_1 => ?_
 refine yF 0 2 rfl rfl fun f0_2 => ?_
 refine yF 1 0 rfl rfl fun f1_0 => ?_
 refine yF 1 1 rfl rfl fun f1_1 => ?_
 refine yF 1 2 rfl rfl fun f1_2 => ?_
 iterate 8 refine z ?_
 refine zC Tryz.call102 ?_ (hf := a6C)
 iterate 3 refine z ?_
 refine a1t (a1l rfl rfl rfl rfl rfl) rfl rfl Tryz.call102 a6C (fun hg => (a0f (a0x rfl hg) (a0l (a0c a0b (a0c a0b (a0c a0b a0m)))) a0n)) rfl rfl ?_
 iterate 3 refine z ?_
 refine yQ rfl (fun c1 => ?_) fun c1 => ?_
 ·iterate 6 refine z ?_
  rw [b0h c1]
 ·iterate 8 refine z ?_
  refine zC Tryz.call133 ?_ (hf := b6A)
  iterate 6 refine z ?_
  refine yQ rfl (fun c2 => ?_) fun c2 => ?_
  ·have d2 := a2g c2
   iterate 7 refine z ?_
   rw [a9c c1 (fun e => d2 (a7i.2 e))]
  ·have d2 := a2j c2
   iterate 8 refine z ?_
   refine zC Tryz.call133 ?_ (hf := b6A)
   iterate 6 refine z ?_
   refine yQ rfl (fun c3 => ?_) fun c3 => ?_
   ·have d3 := a2g c3
    iterate 7 refine z ?_
    rw [a9t c1 (a7i.1 d2) (fun e => d3 (a7i.2 e))]
   ·have d3 := a2j c3
    iterate 7 refine z ?_
    refine zC Tryz.call134 ?_ (hf := c1t)
    iterate 4 refine z ?_
    rw [a9o c1 (a7i.1 d2) (a7i.1 d3)]
theorem a8R {x y : a1g}  : PFn Tryz.prog 91 [.agg [(.dv [] (.int .i64 (x.1))), (.dv [] (.int .i64 (x.2.1))), (.dv [] (.str (x.2.2)))], .agg [(.dv [] (.int .i64 (y.1))), (.dv [] (.int .i64 (y.2.1))), (.dv [] (.str (y.2.2)))]] (.one (.dv [] (.int .i64 (a2W x y)))) := by
 refine ⟨a0u Tryz.func91 rfl Tryz.ntmps91 Tryz.results91 rfl (fun C => ?_)⟩
 refine yF 0 0 rfl rfl fun f0_0 => ?_
 refine yF 0 1 rfl rfl fun f0_1 => ?_
 refine yF 0 2 rfl rfl fun f0_2 => ?_
 refine yF 1 0 rfl rfl fun f1_0 => ?_
 refine yF 1 1 rfl rfl fun f1_1 => ?_
 refine yF 1 2 rfl rfl fun f1_2 => ?_
 iterate 8 refine z ?_
 refine zC Tryz.call89 ?_ (hf := a6Y)
 iterate 3 refine z ?_
 refine a1t (a1l rfl rfl rfl rfl rfl) rfl rfl Tryz.call89 a6Y (fun hg => (a0f (a0x rfl hg) (a0l (a0c a0b (a0c a0b (a0c a0b a0m)))) a0n)) rfl rfl ?_
 iterate 3 refine z ?_
 refine yQ rfl (fun c1 => ?_) fun c1 => ?_
 ·iterate 6 refine z ?_
  rw [b0h c1]
 ·iterate 10 refine z ?_
  refine yQ rfl (fun c2 => ?_) fun c2 => ?_
  ·have d2 := a2g c2
   iterate 6 refine z ?_
   refine zC Tryz.call122 ?_ (hf := b1Q)
   iterate 5 refine z ?_
   rw [a9c c1 d2]; unfold a7z a4m; split <;> split <;> simp_all <;> omega
  ·have d2 := a2j c2
   iterate 10 refine z ?_
   refine yQ rfl (fun c3 => ?_) fun c3 => ?_
   ·have d3 := a2g c3
    iterate 6 refine z ?_
    refine zC Tryz.call122 ?_ (hf := b1Q)
    iterate 5 refine z ?_
    rw [a9t c1 d2 d3]; unfold a7z a4m; split <;> split <;> simp_all <;> omega
   ·have d3 := a2j c3
    iterate 13 refine z ?_
    refine zC Tryz.call122 ?_ (hf := b1Q)
    iterate 4 refine z ?_
    rw [a9o c1 d2 d3, c4f]; unfold a7z a4D; rfl
theorem c4V {x : a1g} {y : a3V}  : PFn Tryz.prog 162 [.agg [(.dv [] (.int .i64 (x.1))), (.dv [] (.int .i64 (x.2.1))), (.dv [] (.str (x.2.2)))], .agg [(.dv [] (.bool (y.1))), (.dv [] (.bool (y.2.1))), (.dv [] (.int .i64 (y.2.2.1.1))), (.dv [] (.int .i64 (y.2.2.1.2.1))), (.dv [] (.str (y.2.2.1.2.2))), (.dv [] (.int .i64 (y.2.2.2.1))), (.dv [] (.int .i64 (y.2.2.2.2.1))), (.dv [] (.str (y.2.2.2.2.2)))]] (.one (.dv [] (.bool (a6g x y)))) := by
 refine ⟨a0u Tryz.func162 rfl Tryz.ntmps162 Tryz.results162 rfl (fun C => ?_)⟩
 refine yF 0 0 rfl rfl fun f0_0 => ?_
 refine yF 0 1 rfl rfl fun f0_1 => ?_
 refine yF 0 2 rfl rfl fun f0_2 => ?_
 refine yF 1 2 rfl rfl fun f1_2 => ?_
 refine yF 1 3 rfl rfl fun f1_3 => ?_
 refine yF 1 4 rfl rfl fun f1_4 => ?_
 refine yF 1 5 rfl rfl fun f1_5 => ?_
 refine yF 1 6 rfl rfl fun f1_6 => ?_
 refine yF 1 7 rfl rfl fun f1_7 => ?_
 iterate 8 refine z ?_
 refine zC Tryz.call102 ?_ (hf := a6C)
 iterate 7 refine z ?_
 refine a1t (a3G rfl rfl rfl rfl rfl) rfl rfl Tryz.call102 a6C (fun hg => (a0f (a0x rfl hg) (a0l (a0c a0b (a0c a0b (a0c a0b a0m)))) a0n)) rfl rfl ?_
 iterate 9 refine z ?_
 refine a1t (a3G rfl rfl rfl rfl rfl) rfl rfl Tryz.call102 a6C (fun hg => (a0f (a0x rfl hg) (a0l (a0c a0b (a0c a0b (a0c a0b a0m)))) a0n)) rfl rfl ?_
 iterate 4 refine z ?_
 refine yQ rfl (fun c1 => ?_) fun c1 => ?_
 ·iterate 6 refine z ?_
  unfold a6g; rw [c1]; rfl
 ·iterate 9 refine z ?_
  refine a1t (a1l rfl rfl rfl rfl rfl) rfl rfl Tryz.call104 a8X (fun hg => (a0f (a0x rfl hg) (a0l (a0c a0b (a0c a0b (a0c a0b a0m)))) (a0f (a0x rfl hg) (a0l (a0c a0b (a0c a0b (a0c a0b a0m)))) a0n))) rfl rfl ?_
  iterate 10 refine z ?_
  refine a1t (a3G rfl rfl rfl rfl rfl) rfl rfl Tryz.call104 a8X (fun hg => (a0f (a0x rfl hg) (a0l (a0c a0b (a0c a0b (a0c a0b a0m)))) (a0f (a0x rfl hg) (a0l (a0c a0b (a0c a0b (a0c a0b a0m)))) a0n))) rfl rfl ?_
  iterate 8 refine z ?_
  have h1 := a9F x y.2.2.1; have h2 := a9F x y.2.2.2; unfold a6g; rw [c1]; cases y.1 <;> cases y.2.1 <;> simp <;> grind
theorem b9P {x : a1g} {y : a3V}  : PFn Tryz.prog 149 [.agg [(.dv [] (.int .i64 (x.1))), (.dv [] (.int .i64 (x.2.1))), (.dv [] (.str (x.2.2)))], .agg [(.dv [] (.bool (y.1))), (.dv [] (.bool (y.2.1))), (.dv [] (.int .i64 (y.2.2.1.1))), (.dv [] (.int .i64 (y.2.2.1.2.1))), (.dv [] (.str (y.2.2.1.2.2))), (.dv [] (.int .i64 (y.2.2.2.1))), (.dv [] (.int .i64 (y.2.2.2.2.1))), (.dv [] (.str (y.2.2.2.2.2)))]] (.one (.dv [] (.bool (a6g x y)))) := by
 refine ⟨a0u Tryz.func149 rfl Tryz.ntmps149 Tryz.results149 rfl (fun C => ?_)⟩
 refine yF 0 0 rfl rfl fun f0_0 => ?_
 refine yF 0 1 rfl rfl fun f0_1 => ?_
 refine yF 0 2 rfl rfl fun f0_2 => ?_
 refine yF 1 2 rfl rfl fun f1_2 => ?_
 refine yF 1 3 rfl rfl fun f1_3 => ?_
 refine yF 1 4 rfl rfl fun f1_4 => ?_
 refine yF 1 5 rfl rfl fun f1_5 => ?_
 refine yF 1 6 rfl rfl fun f1_6 => ?_
 refine yF 1 7 rfl rfl fun f1_7 => ?_
 iterate 8 refine z ?_
 refine zC Tryz.call89 ?_ (hf := a6Y)
 iterate 7 refine z ?_
 refine a1t (a3G rfl rfl rfl rfl rfl) rfl rfl Tryz.call89 a6Y (fun hg => (a0f (a0x rfl hg) (a0l (a0c a0b (a0c a0b (a0c a0b a0m)))) a0n)) rfl rfl ?_
 iterate 9 refine z ?_
 refine a1t (a3G rfl rfl rfl rfl rfl) rfl rfl Tryz.call89 a6Y (fun hg => (a0f (a0x rfl hg) (a0l (a0c a0b (a0c a0b (a0c a0b a0m)))) a0n)) rfl rfl ?_
 iterate 4 refine z ?_
 refine yQ rfl (fun c1 => ?_) fun c1 => ?_
 ·iterate 6 refine z ?_
  unfold a6g; rw [c1]; rfl
 ·iterate 10 refine z ?_
  refine a1t (a1l rfl rfl rfl rfl rfl) rfl rfl Tryz.call91 a8R (fun hg => (a0f (a0x rfl hg) (a0l (a0c a0b (a0c a0b (a0c a0b a0m)))) (a0f (a0x rfl hg) (a0l (a0c a0b (a0c a0b (a0c a0b a0m)))) a0n))) rfl rfl ?_
  iterate 10 refine z ?_
  refine a1t (a3G rfl rfl rfl rfl rfl) rfl rfl Tryz.call91 a8R (fun hg => (a0f (a0x rfl hg) (a0l (a0c a0b (a0c a0b (a0c a0b a0m)))) (a0f (a0x rfl hg) (a0l (a0c a0b (a0c a0b (a0c a0b a0m)))) a0n))) rfl rfl ?_
  iterate 7 refine z ?_
  have h1 := a9F x y.2.2.1; have h2 := a9F x y.2.2.2; unfold a6g; rw [c1]; cases y.1 <;> cases y.2.1 <;> simp <;> grind
def bef (f : Str) (a b : a0Q) : Bool := decide ((a1d a.2 f).1 < (a1d b.2 f).1) || (decide ((a1d a.2 f).1 = (a1d b.2 f).1) && decide (a2W a.1 b.1 < 0))
def a4e (f : Str) (x : a0Q) (o : List a0Q) : Nat → Nat
 | 0 => 0
 | k + 1 => if bef f x (o.getD k default) then a4e f x o k else k + 1
def a2l (o : List a0Q) (j : Nat) (y : a0Q) : List a0Q := o.take j ++ [y] ++ o.drop j
def a0M (f : Str) (its : List a0Q) : Nat → List a0Q
 | 0 => []
 | k + 1 => if (a1d (its.getD (k : Int).toNat default).2 f).2 then a2l (a0M f its k) (a4e f (its.getD (k : Int).toNat default) (a0M f its k) (a0M f its k).length) (its.getD (k : Int).toNat default) else a0M f its k
theorem a8o {o : List a0Q} {j : Nat} {y : a0Q} : (a2l o j y).length = o.length + 1 := by simp only [a2l, c5s, c5t, List.length_drop, List.length_singleton]; omega
theorem a9f (f : Str) (its : List a0Q) : ∀ k, (a0M f its k).length ≤ k
 | 0 => Nat.le_refl _
 | k + 1 => by have := a9f f its k; rw [a0M]; split <;> (try rw [a8o]) <;> omega
theorem b0s {f : Str} {its : List a0Q} {k : Nat} (h : (a1d (its.getD (k : Int).toNat default).2 f).2 = true) : a0M f its (k + 1) = a2l (a0M f its k) (a4e f (its.getD (k : Int).toNat default) (a0M f its k) (a0M f its k).length) (its.getD (k : Int).toNat default) := by rw [a0M, if_pos h]
theorem b5X {f : Str} {its : List a0Q} {k : Nat} (h : (a1d (its.getD (k : Int).toNat default).2 f).2 = false) : a0M f its k = a0M f its (k + 1) := by rw [a0M, if_neg (by rw [h]; simp)]
theorem b5m {f : Str} {x : a0Q} {o : List a0Q} {j : Nat} (h : (decide (0 < (j : Int)) && bef f x (o.getD ((j : Int) - 1).toNat default)) = true) : 0 < j ∧ a4e f x o j = a4e f x o (j - 1) := by
 obtain ⟨h1, h2⟩ := (Bool.and_eq_true _ _ ▸ h : _ ∧ _)
 have h1 := c5p h1
 cases j with
 | zero => simp at h1
 | succ k =>
  have e : (((k + 1 : Nat) : Int) - 1).toNat = k := by omega
  rw [e] at h2
  exact ⟨by omega, by rw [a4e, if_pos h2]; rfl⟩
theorem b4h {f : Str} {x : a0Q} {o : List a0Q} {j : Nat} (h : (decide (0 < (j : Int)) && bef f x (o.getD ((j : Int) - 1).toNat default)) = false) : a4e f x o j = j := by
 cases j with
 | zero => rfl
 | succ k =>
  have e : (((k + 1 : Nat) : Int) - 1).toNat = k := by omega
  rw [e, decide_eq_true (by omega : (0 : Int) < ((k + 1 : Nat) : Int)), Bool.true_and] at h
  rw [a4e, if_neg (by rw [h]; simp)]
theorem a6Z {α : Type} {enc : α → List DV} {sz : Nat} (hs : ∀ x, (enc x).length = sz) : ∀ (n : Nat) (xs : List α), (xs.flatMap enc).take (n * sz) = (xs.take n).flatMap enc ∧ (xs.flatMap enc).drop (n * sz) = (xs.drop n).flatMap enc
 | 0, xs => by simp
 | n + 1, [] => by simp
 | n + 1, x :: xs => by
  obtain ⟨h1, h2⟩ := a6Z hs n xs
  rw [List.flatMap_cons, Nat.add_mul, Nat.one_mul, Nat.add_comm (n * sz) sz, ← hs x, List.take_length_add_append, List.take_succ_cons, List.flatMap_cons, hs x, h1, List.drop_succ_cons, ← h2]
  exact ⟨rfl, by rw [← hs x, List.drop_length_add_append]⟩
theorem b4t {o : List a0Q} {j : Nat} {y : a0Q} : a5V (o.flatMap a0E) (((j : Nat) : Int).toNat * 4) (a0E y) = (a2l o j y).flatMap a0E := by
 obtain ⟨h1, h2⟩ := a6Z (enc := a0E) (sz := 4) (fun _ => rfl) j o
 rw [a5V, Int.toNat_natCast, h1, h2, a2l, List.flatMap_append, List.flatMap_append, List.flatMap_cons, List.flatMap_nil, List.append_nil]
theorem b7e {o : List a0Q} {j : Nat} : ([] : List DV) ++ sub (0 * 4) ((((j : Nat) : Int).toNat - 0) * 4) (o.flatMap a0E) = (o.take j).flatMap a0E := by
 obtain ⟨h1, h2⟩ := a6Z (enc := a0E) (sz := 4) (fun _ => rfl) j o
 rw [Int.toNat_natCast, Nat.sub_zero, Nat.zero_mul, sub, List.drop_zero, List.nil_append, h1]
theorem b6D {o : List a0Q} {j : Nat} : a5t (o.flatMap a0E) (0 * 4) ((((j : Nat) : Int).toNat - 0) * 4) = List.replicate (j * 4) .hole ++ (o.drop j).flatMap a0E := by
 obtain ⟨h1, h2⟩ := a6Z (enc := a0E) (sz := 4) (fun _ => rfl) j o
 rw [Int.toNat_natCast, Nat.sub_zero, Nat.zero_mul, a5t, List.drop_zero, h2]; rfl
theorem b6R {o : List a0Q} {j : Nat} {el : a0Q} (hj : j ≤ o.length) : (o.take j ++ [el]).flatMap a0E ++ sub (((j : Nat) : Int).toNat * 4) ((o.length - ((j : Nat) : Int).toNat) * 4) (List.replicate (j * 4) .hole ++ (o.drop j).flatMap a0E) = (a2l o j el).flatMap a0E := by
 have hl : ((o.drop j).flatMap a0E).length = (o.length - j) * 4 := by
  have : ∀ l : List a0Q, (l.flatMap a0E).length = l.length * 4 := fun l => by
   induction l with
   | nil => rfl
   | cons x l ih => rw [List.flatMap_cons, c5s, ih, List.length_cons]; show 4 + l.length * 4 = (l.length + 1) * 4; omega
  rw [this, List.length_drop]
 have e : (List.replicate (j * 4) DV.hole ++ (o.drop j).flatMap a0E).drop (j * 4) = (o.drop j).flatMap a0E := by
  have h := List.drop_left (l₁ := List.replicate (j * 4) DV.hole) (l₂ := (o.drop j).flatMap a0E)
  rwa [List.length_replicate] at h
 rw [Int.toNat_natCast, sub, e, List.take_of_length_le (l := (o.drop j).flatMap a0E) (by rw [hl]; exact Nat.le_refl _)]
 simp only [a2l, List.flatMap_append]
theorem c2G {x y : a0Q} {f : Str}  : PFn Tryz.prog 135 [.agg [(.dv [] (.int .i64 (x.1.1))), (.dv [] (.int .i64 (x.1.2.1))), (.dv [] (.str (x.1.2.2))), (.dv [] (a0z (x.2)))], .agg [(.dv [] (.int .i64 (y.1.1))), (.dv [] (.int .i64 (y.1.2.1))), (.dv [] (.str (y.1.2.2))), (.dv [] (a0z (y.2)))], .one (.dv [] (.str (f)))] (.one (.dv [] (.bool (bef f x y)))) := by
 refine ⟨a0u Tryz.func135 rfl Tryz.ntmps135 Tryz.results135 rfl (fun C => ?_)⟩
 refine yF 0 0 rfl rfl fun f0_0 => ?_
 refine yF 0 1 rfl rfl fun f0_1 => ?_
 refine yF 0 2 rfl rfl fun f0_2 => ?_
 refine yF 0 3 rfl rfl fun f0_3 => ?_
 refine yF 1 0 rfl rfl fun f1_0 => ?_
 refine yF 1 1 rfl rfl fun f1_1 => ?_
 refine yF 1 2 rfl rfl fun f1_2 => ?_
 refine yF 1 3 rfl rfl fun f1_3 => ?_
 refine a0G (x := .tmp 2) (a0a rfl) fun f2 => ?_
 iterate 9 refine z ?_
 refine zC Tryz.call109 ?_ (hf := a6j)
 iterate 10 refine z ?_
 refine zC Tryz.call109 ?_ (hf := a6j)
 iterate 19 refine z ?_
 refine a1t (a3G rfl rfl rfl rfl rfl) rfl rfl Tryz.call104 a8X (fun hg => (a0f (a0x rfl hg) (a0l (a0c a0b (a0c a0b (a0c a0b a0m)))) (a0f (a0x rfl hg) (a0l (a0c a0b (a0c a0b (a0c a0b a0m)))) a0n))) rfl rfl ?_
 iterate 7 refine z ?_
 unfold bef; grind
theorem b9S {x : a0I} {f : Str} (hb : a0v x ≤ 1048576) : KFn Tryz.prog 108 [.agg [(.dv [] (.str (x.1))), (.dv [] (a0t (x.2.1))), (.dv [] (.int .i64 (x.2.2)))], .one (.dv [] (.str (f)))] (.one (.key 11)) [(11, some (a0d false (a0t (a0M f x.2.1 x.2.1.length))))] := by
 refine ⟨a0u Tryz.func108 rfl Tryz.ntmps108 Tryz.results108 rfl (fun C => ?_)⟩
 refine yF 0 0 rfl rfl fun f0_0 => ?_
 refine yF 0 1 rfl rfl fun f0_1 => ?_
 refine yF 0 2 rfl rfl fun f0_2 => ?_
 refine a0G (x := .tmp 1) (a0a rfl) fun f1 => ?_
 iterate 5 refine z ?_
 refine a5b (k := 11) hT rfl rfl rfl rfl rfl rfl rfl rfl ?_
 iterate 10 refine z ?_
 refine a0W (ι := Nat) (fun zz => ⟨[(1, .one (.dv [] (.str (f)))), (4, .one .nil), (5, .one (.key 11)), (13, .one (.dv [] (a0t (x.2.1)))), (14, .one (.dv [] (.int .i64 ((((x.2.1)).length : Int))))), (15, .one (.dv [] (.int .i64 ((zz : Int)))))], [], [(11, some (a0d false (.sl 128 4 ((a0M f x.2.1 zz).length) ((a0M f x.2.1 zz).flatMap a0E))))]⟩) (fun zz => zz ≤ x.2.1.length) (fun zz => x.2.1.length - zz) (0) ?_ (a0e ⟨rfl, rfl, rfl, rfl, rfl, rfl, trivial⟩ trivial ⟨rfl, trivial⟩ rfl) (fun zz hx => ?_)
 ·exact Nat.zero_le _
 obtain ⟨k, rfl⟩ : ∃ v, v = zz := ⟨_, rfl⟩
 replace hx : k ≤ x.2.1.length := hx
 have hw := fun h => a1T a1a x.2.1 k h
 have hol := a9f f x.2.1 k
 show Ok _ _ _ _ _ (⟨[(1, .one (.dv [] (.str (f)))), (4, .one .nil), (5, .one (.key 11)), (13, .one (.dv [] (a0t (x.2.1)))), (14, .one (.dv [] (.int .i64 ((((x.2.1)).length : Int))))), (15, .one (.dv [] (.int .i64 ((k : Int)))))], [], [(11, some (a0d false (.sl 128 4 ((a0M f x.2.1 k).length) ((a0M f x.2.1 k).flatMap a0E))))]⟩ : St)
 iterate 3 refine z ?_
 refine a0p ?_
 refine yQ rfl (fun c1 => ?_) fun c1 => ?_
 ·have d1 := c5p c1
  have hk2 : k < x.2.1.length := by omega
  have hlen : x.2.1.length ≤ 1048576 := by have h3 : a0v x = x.1.size + (x.2.1.length + wSum a1a x.2.1) := rfl; omega
  have hrec : a1a (x.2.1.getD (k : Int).toNat default) ≤ 1099511627776 := by have := hw hk2; have h3 : a0v x = x.1.size + (x.2.1.length + wSum a1a x.2.1) := rfl; omega
  iterate 15 refine z ?_
  refine zC Tryz.call109 ?_ (hf := a6j)
  iterate 10 refine z ?_
  refine yQ rfl (fun c2 => ?_) fun c2 => ?_
  ·iterate 4 refine z ?_
   refine a0j ?_
   iterate 3 refine z ?_
   refine ⟨k + 1, ?_, ?_, a0e ⟨rfl, rfl, rfl, rfl, rfl, rfl, trivial⟩ trivial ⟨(congrArg (fun l : List a0Q => some (some (KC.mk false 128 4 l.length (l.flatMap a0E)))) (b5X (by simpa using c2))), trivial⟩ rfl⟩
   ·omega
   ·omega
  ·iterate 4 refine z ?_
   refine yO rfl rfl (a3S (n := ((a0M f x.2.1 k).length)) hT rfl rfl (a0a rfl) rfl rfl) rfl ?_
   iterate 4 refine z ?_
   refine a0W (ι := Nat) (fun zz => ⟨[(1, .one (.dv [] (.str (f)))), (4, .one .nil), (5, .one (.key 11)), (7, .box 7 0), (10, .one (.dv [] (.int .i64 ((zz : Int))))), (13, .one (.dv [] (a0t (x.2.1)))), (14, .one (.dv [] (.int .i64 ((((x.2.1)).length : Int))))), (15, .one (.dv [] (.int .i64 ((k : Int)))))], [(7, 128, [(.dv [] (.int .i64 ((((x.2.1)).getD ((k : Int)).toNat default).1.1))), (.dv [] (.int .i64 ((((x.2.1)).getD ((k : Int)).toNat default).1.2.1))), (.dv [] (.str ((((x.2.1)).getD ((k : Int)).toNat default).1.2.2))), (.dv [] (a0z ((((x.2.1)).getD ((k : Int)).toNat default).2)))])], [(11, some (a0d false (.sl 128 4 ((a0M f x.2.1 k).length) ((a0M f x.2.1 k).flatMap a0E))))]⟩) (fun zz => zz ≤ (a0M f x.2.1 k).length ∧ a4e f (x.2.1.getD (k : Int).toNat default) (a0M f x.2.1 k) (a0M f x.2.1 k).length = a4e f (x.2.1.getD (k : Int).toNat default) (a0M f x.2.1 k) zz) (fun zz => zz) ((a0M f x.2.1 k).length) ?_ (a0e ⟨rfl, rfl, rfl, rfl, rfl, rfl, rfl, rfl, trivial⟩ ⟨rfl, trivial⟩ ⟨rfl, trivial⟩ rfl) (fun zz hx => ?_)
   ·exact ⟨Nat.le_refl _, rfl⟩
   obtain ⟨j, rfl⟩ : ∃ v, v = zz := ⟨_, rfl⟩
   replace hx : j ≤ (a0M f x.2.1 k).length ∧ a4e f (x.2.1.getD (k : Int).toNat default) (a0M f x.2.1 k) (a0M f x.2.1 k).length = a4e f (x.2.1.getD (k : Int).toNat default) (a0M f x.2.1 k) j := hx
   obtain ⟨hj, hp⟩ := hx
   show Ok _ _ _ _ _ (⟨[(1, .one (.dv [] (.str (f)))), (4, .one .nil), (5, .one (.key 11)), (7, .box 7 0), (10, .one (.dv [] (.int .i64 ((j : Int))))), (13, .one (.dv [] (a0t (x.2.1)))), (14, .one (.dv [] (.int .i64 ((((x.2.1)).length : Int))))), (15, .one (.dv [] (.int .i64 ((k : Int)))))], [(7, 128, [(.dv [] (.int .i64 ((((x.2.1)).getD ((k : Int)).toNat default).1.1))), (.dv [] (.int .i64 ((((x.2.1)).getD ((k : Int)).toNat default).1.2.1))), (.dv [] (.str ((((x.2.1)).getD ((k : Int)).toNat default).1.2.2))), (.dv [] (a0z ((((x.2.1)).getD ((k : Int)).toNat default).2)))])], [(11, some (a0d false (.sl 128 4 ((a0M f x.2.1 k).length) ((a0M f x.2.1 k).flatMap a0E))))]⟩ : St)
   refine a0p ?_
   refine a0p ?_
   refine a1o (oB := [7]) (oK := [11]) (by kernel_rfl) rfl rfl ?_
   refine zD 0 ?_
   refine zD 1 ?_
   refine zD 2 ?_
   refine zDG 3 ?_
   refine a7k 4 rfl (by kernel_rfl) (a1l rfl rfl rfl rfl rfl) rfl (fun hg => a1Q (v := .one (.dv [11] (a0t (a0M f x.2.1 k)))) (.inl rfl) (a2X (a0a rfl) rfl rfl)) rfl rfl rfl rfl ?_
   refine zDG 5 ?_
   refine zDG 6 ?_
   refine zDG 7 ?_
   refine zDG 8 ?_
   refine zDG 9 ?_
   refine a4f 10 rfl (by kernel_rfl) (a1l rfl rfl rfl rfl rfl) rfl rfl Tryz.call135 c2G (fun hg => (a0f (a0x rfl hg) (a0l (a0c a0b (a0c a0b (a0c a0b (a0c a0b a0m))))) (a0f (a0x rfl hg) (a0l (a0c a0b (a0c a0b (a0c a0b (a0c a0b a0m))))) (a0f (a0x rfl hg) (a0H a0b) a0n)))) rfl rfl ?_
   refine zD 11 ?_
   refine a1R (by kernel_rfl) ?_
   refine z ?_
   refine yQ rfl (fun c3 => ?_) fun c3 => ?_
   ·have hst := b5m c3
    have hst1 := hst.1
    iterate 3 refine z ?_
    refine a0j ?_
    iterate 3 refine z ?_
    refine a1j ?_
    iterate 2 refine z ?_
    refine ⟨j - 1, ?_, ?_, a0e ⟨rfl, rfl, rfl, rfl, (congrArg (fun z : Int => some (SV.one (CV.dv [] (DV.int .i64 z)))) (show ((j : Int) - 1) = ((j - 1 : Nat) : Int) by omega)), rfl, rfl, rfl, trivial⟩ ⟨rfl, trivial⟩ ⟨rfl, trivial⟩ rfl⟩
    ·exact ⟨by omega, hp.trans hst.2⟩
    ·omega
   ·have hpos := hp.trans (b4h c3)
    iterate 5 refine z ?_
    refine a0j ?_
    iterate 3 refine z ?_
    refine zK 47000 Tryz.call99 ?_ (hf := b7g (by first | omega | exact Nat.le_trans (a6b _) hrec | exact Nat.le_trans (a6b _) (Nat.le_trans hrec (by decide))))
    refine a6n (k := 48) (js := [54003]) hT rfl rfl rfl rfl rfl rfl rfl rfl rfl (a0a rfl) rfl rfl (a0o (a0C rfl) (a0o (a0C rfl) (a0o (a0C rfl) (a0o (a1Y rfl) a1e rfl) rfl) rfl) rfl) (by decide) (by decide) rfl rfl ?_
    simp only [a0i, a0h, SV.kill, CV.kill, kk, Nat.reduceBEq]
    refine b1A (k := 11) (j := 48) (cs := (a0M f x.2.1 (k + 1)).flatMap a0E) (n := (a0M f x.2.1 (k + 1)).length) (b6k rfl rfl (by decide)) rfl rfl Tryz.call136 rfl rfl (a0a rfl) rfl rfl rfl (a0a rfl) (by omega) (by dsimp only [a0d]; omega) (a0a rfl) rfl rfl rfl rfl (by decide) (by dsimp only [a0d]; omega) (by dsimp only [a0d]; omega) (by rw [b0s (by simpa using c2), a8o]) (by rw [b0s (by simpa using c2), hpos]; exact b4t) ?_
    simp only [a0i, a0h, SV.kill, CV.kill, kk, Nat.reduceBEq]
    refine z ?_
    refine a1j ?_
    iterate 2 refine z ?_
    refine a0j ?_
    iterate 3 refine z ?_
    refine ⟨k + 1, ?_, ?_, a0e ⟨rfl, rfl, rfl, rfl, rfl, rfl, trivial⟩ trivial ⟨rfl, trivial⟩ rfl⟩
    ·omega
    ·omega
 ·have d1 := c5q c1
  iterate 9 refine z ?_
  refine a0r (σ' := ⟨[(4, .one (.key 11))], [], [(11, some (a0d false (a0t (a0M f x.2.1 x.2.1.length))))]⟩) (a0e ⟨rfl, trivial⟩ trivial ⟨(congrArg (fun m : Nat => some (some (KC.mk false 128 4 (a0M f x.2.1 m).length ((a0M f x.2.1 m).flatMap a0E)))) (show k = x.2.1.length by omega)), trivial⟩ rfl) ?_
  refine z ?_
  refine a1B (a0B rfl) ?_
  exact ⟨rfl, rfl⟩
theorem c3B {x y : a0Q} {f : Str}  : PFn Tryz.prog 123 [.agg [(.dv [] (.int .i64 (x.1.1))), (.dv [] (.int .i64 (x.1.2.1))), (.dv [] (.str (x.1.2.2))), (.dv [] (a0z (x.2)))], .agg [(.dv [] (.int .i64 (y.1.1))), (.dv [] (.int .i64 (y.1.2.1))), (.dv [] (.str (y.1.2.2))), (.dv [] (a0z (y.2)))], .one (.dv [] (.str (f)))] (.one (.dv [] (.bool (bef f x y)))) := by
 refine ⟨a0u Tryz.func123 rfl Tryz.ntmps123 Tryz.results123 rfl (fun C => ?_)⟩
 refine yF 0 0 rfl rfl fun f0_0 => ?_
 refine yF 0 1 rfl rfl fun f0_1 => ?_
 refine yF 0 2 rfl rfl fun f0_2 => ?_
 refine yF 0 3 rfl rfl fun f0_3 => ?_
 refine yF 1 0 rfl rfl fun f1_0 => ?_
 refine yF 1 1 rfl rfl fun f1_1 => ?_
 refine yF 1 2 rfl rfl fun f1_2 => ?_
 refine yF 1 3 rfl rfl fun f1_3 => ?_
 refine a0G (x := .tmp 2) (a0a rfl) fun f2 => ?_
 iterate 9 refine z ?_
 refine zC Tryz.call93 ?_ (hf := a7F)
 iterate 10 refine z ?_
 refine zC Tryz.call93 ?_ (hf := a7F)
 iterate 19 refine z ?_
 refine a1t (a3G rfl rfl rfl rfl rfl) rfl rfl Tryz.call91 a8R (fun hg => (a0f (a0x rfl hg) (a0l (a0c a0b (a0c a0b (a0c a0b a0m)))) (a0f (a0x rfl hg) (a0l (a0c a0b (a0c a0b (a0c a0b a0m)))) a0n))) rfl rfl ?_
 iterate 7 refine z ?_
 unfold bef; grind
theorem c0X {x : a0I} {f : Str} (hb : a0v x ≤ 1048576) : KFn Tryz.prog 92 [.agg [(.dv [] (.str (x.1))), (.dv [] (a0t (x.2.1))), (.dv [] (.int .i64 (x.2.2)))], .one (.dv [] (.str (f)))] (.one (.key 11)) [(11, some (a0d false (a0t (a0M f x.2.1 x.2.1.length))))] := by
 refine ⟨a0u Tryz.func92 rfl Tryz.ntmps92 Tryz.results92 rfl (fun C => ?_)⟩
 refine yF 0 0 rfl rfl fun f0_0 => ?_
 refine yF 0 1 rfl rfl fun f0_1 => ?_
 refine yF 0 2 rfl rfl fun f0_2 => ?_
 refine a0G (x := .tmp 1) (a0a rfl) fun f1 => ?_
 iterate 5 refine z ?_
 refine a5b (k := 11) hT rfl rfl rfl rfl rfl rfl rfl rfl ?_
 iterate 7 refine z ?_
 refine a0W (ι := Nat) (fun zz => ⟨[(1, .one (.dv [] (.str (f)))), (2, .box 2 0), (4, .one .nil), (5, .one (.key 11)), (6, .one (.dv [] (.int .i64 ((zz : Int)))))], [(2, 89, [(.dv [] (.str (x.1))), (.dv [] (a0t (x.2.1))), (.dv [] (.int .i64 (x.2.2)))])], [(11, some (a0d false (.sl 128 4 ((a0M f x.2.1 zz).length) ((a0M f x.2.1 zz).flatMap a0E))))]⟩) (fun zz => zz ≤ x.2.1.length) (fun zz => x.2.1.length - zz) (0) ?_ (a0e ⟨rfl, rfl, rfl, rfl, rfl, trivial⟩ ⟨rfl, trivial⟩ ⟨rfl, trivial⟩ rfl) (fun zz hx => ?_)
 ·exact Nat.zero_le _
 obtain ⟨k, rfl⟩ : ∃ v, v = zz := ⟨_, rfl⟩
 replace hx : k ≤ x.2.1.length := hx
 have hw := fun h => a1T a1a x.2.1 k h
 have hol := a9f f x.2.1 k
 show Ok _ _ _ _ _ (⟨[(1, .one (.dv [] (.str (f)))), (2, .box 2 0), (4, .one .nil), (5, .one (.key 11)), (6, .one (.dv [] (.int .i64 ((k : Int)))))], [(2, 89, [(.dv [] (.str (x.1))), (.dv [] (a0t (x.2.1))), (.dv [] (.int .i64 (x.2.2)))])], [(11, some (a0d false (.sl 128 4 ((a0M f x.2.1 k).length) ((a0M f x.2.1 k).flatMap a0E))))]⟩ : St)
 iterate 8 refine z ?_
 refine yQ rfl (fun c1 => ?_) fun c1 => ?_
 ·have d1 := c5p c1
  have hk2 : k < x.2.1.length := by omega
  have hlen : x.2.1.length ≤ 1048576 := by have h3 : a0v x = x.1.size + (x.2.1.length + wSum a1a x.2.1) := rfl; omega
  have hrec : a1a (x.2.1.getD (k : Int).toNat default) ≤ 1099511627776 := by have := hw hk2; have h3 : a0v x = x.1.size + (x.2.1.length + wSum a1a x.2.1) := rfl; omega
  iterate 13 refine z ?_
  refine zC Tryz.call93 ?_ (hf := a7F)
  iterate 10 refine z ?_
  refine yQ rfl (fun c2 => ?_) fun c2 => ?_
  ·iterate 4 refine z ?_
   refine a0j ?_
   iterate 4 refine z ?_
   refine ⟨k + 1, ?_, ?_, a0e ⟨rfl, rfl, rfl, rfl, rfl, trivial⟩ ⟨rfl, trivial⟩ ⟨(congrArg (fun l : List a0Q => some (some (KC.mk false 128 4 l.length (l.flatMap a0E)))) (b5X (by simpa using c2))), trivial⟩ rfl⟩
   ·omega
   ·omega
  ·iterate 4 refine z ?_
   refine yO rfl rfl (a3S (n := ((a0M f x.2.1 k).length)) hT rfl rfl (a0a rfl) rfl rfl) rfl ?_
   iterate 4 refine z ?_
   refine a0W (ι := Nat) (fun zz => ⟨[(1, .one (.dv [] (.str (f)))), (2, .box 2 0), (4, .one .nil), (5, .one (.key 11)), (6, .one (.dv [] (.int .i64 ((k : Int))))), (9, .one (.dv [] (.int .i64 ((zz : Int)))))], [(2, 89, [(.dv [] (.str (x.1))), (.dv [] (a0t (x.2.1))), (.dv [] (.int .i64 (x.2.2)))])], [(11, some (a0d false (.sl 128 4 ((a0M f x.2.1 k).length) ((a0M f x.2.1 k).flatMap a0E))))]⟩) (fun zz => zz ≤ (a0M f x.2.1 k).length ∧ a4e f (x.2.1.getD (k : Int).toNat default) (a0M f x.2.1 k) (a0M f x.2.1 k).length = a4e f (x.2.1.getD (k : Int).toNat default) (a0M f x.2.1 k) zz) (fun zz => zz) ((a0M f x.2.1 k).length) ?_ (a0e ⟨rfl, rfl, rfl, rfl, rfl, rfl, trivial⟩ ⟨rfl, trivial⟩ ⟨rfl, trivial⟩ rfl) (fun zz hx => ?_)
   ·exact ⟨Nat.le_refl _, rfl⟩
   obtain ⟨j, rfl⟩ : ∃ v, v = zz := ⟨_, rfl⟩
   replace hx : j ≤ (a0M f x.2.1 k).length ∧ a4e f (x.2.1.getD (k : Int).toNat default) (a0M f x.2.1 k) (a0M f x.2.1 k).length = a4e f (x.2.1.getD (k : Int).toNat default) (a0M f x.2.1 k) j := hx
   obtain ⟨hj, hp⟩ := hx
   show Ok _ _ _ _ _ (⟨[(1, .one (.dv [] (.str (f)))), (2, .box 2 0), (4, .one .nil), (5, .one (.key 11)), (6, .one (.dv [] (.int .i64 ((k : Int))))), (9, .one (.dv [] (.int .i64 ((j : Int)))))], [(2, 89, [(.dv [] (.str (x.1))), (.dv [] (a0t (x.2.1))), (.dv [] (.int .i64 (x.2.2)))])], [(11, some (a0d false (.sl 128 4 ((a0M f x.2.1 k).length) ((a0M f x.2.1 k).flatMap a0E))))]⟩ : St)
   refine a0p ?_
   refine a0p ?_
   refine a1o (oB := [2]) (oK := [11]) (by kernel_rfl) rfl rfl ?_
   refine zD 0 ?_
   refine zD 1 ?_
   refine zD 2 ?_
   refine zDG 3 ?_
   refine zDG 4 ?_
   refine zDG 5 ?_
   refine zDG 6 ?_
   refine zDG 7 ?_
   refine a7k 8 rfl (by kernel_rfl) (a1l rfl rfl rfl rfl rfl) rfl (fun hg => a1Q (v := .one (.dv [11] (a0t (a0M f x.2.1 k)))) (.inl rfl) (a2X (a0a rfl) rfl rfl)) rfl rfl rfl rfl ?_
   refine zDG 9 ?_
   refine zDG 10 ?_
   refine zDG 11 ?_
   refine zDG 12 ?_
   refine zDG 13 ?_
   refine a4f 14 rfl (by kernel_rfl) (a1l rfl rfl rfl rfl rfl) rfl rfl Tryz.call123 c3B (fun hg => (a0f (a0x rfl hg) (a0l (a0c a0b (a0c a0b (a0c a0b (a0c a0b a0m))))) (a0f (a0x rfl hg) (a0l (a0c a0b (a0c a0b (a0c a0b (a0c a0b a0m))))) (a0f (a0x rfl hg) (a0H a0b) a0n)))) rfl rfl ?_
   refine zD 15 ?_
   refine a1R (by kernel_rfl) ?_
   refine z ?_
   refine yQ rfl (fun c3 => ?_) fun c3 => ?_
   ·have hst := b5m c3
    have hst1 := hst.1
    iterate 3 refine z ?_
    refine a0j ?_
    iterate 3 refine z ?_
    refine a1j ?_
    iterate 2 refine z ?_
    refine ⟨j - 1, ?_, ?_, a0e ⟨rfl, rfl, rfl, rfl, rfl, (congrArg (fun z : Int => some (SV.one (CV.dv [] (DV.int .i64 z)))) (show ((j : Int) - 1) = ((j - 1 : Nat) : Int) by omega)), trivial⟩ ⟨rfl, trivial⟩ ⟨rfl, trivial⟩ rfl⟩
    ·exact ⟨by omega, hp.trans hst.2⟩
    ·omega
   ·have hpos := hp.trans (b4h c3)
    iterate 6 refine z ?_
    refine a5b (k := 52) hT rfl rfl rfl rfl rfl rfl rfl rfl ?_
    iterate 2 refine z ?_
    refine b2o (k := 52) (j := 11) (s := 5) (n := ((a0M f x.2.1 k).take j).length) (cs := ((a0M f x.2.1 k).take j).flatMap a0E) (c2s := List.replicate (j * 4) .hole ++ ((a0M f x.2.1 k).drop j).flatMap a0E) hT rfl rfl rfl (b3r hT rfl rfl rfl (a0a rfl) rfl (a0a rfl) (by omega) (by dsimp only [a0d]; omega)) rfl rfl rfl rfl rfl rfl rfl (a0a rfl) rfl rfl rfl rfl rfl rfl (by decide) rfl rfl ⟨rfl, rfl⟩ (by omega) (by dsimp only [a0d]; omega) (by dsimp only [a0d]; omega) (by dsimp only [a0d]; omega) (by rw [c5t, Nat.min_eq_left (by omega)]; simp) (b7e) (b6D) ?_
    simp only [a0i, a0h, SV.kill, CV.kill, kk, Nat.reduceBEq]
    iterate 9 refine z ?_
    refine zK 63000 Tryz.call87 ?_ (hf := b1M (by first | omega | exact Nat.le_trans (a6b _) hrec | exact Nat.le_trans (a6b _) (Nat.le_trans hrec (by decide))))
    refine a6n (k := 64) (js := [70003]) hT rfl rfl rfl rfl rfl rfl rfl rfl rfl (a0a rfl) rfl rfl (a0o (a0C rfl) (a0o (a0C rfl) (a0o (a0C rfl) (a0o (a1Y rfl) a1e rfl) rfl) rfl) rfl) (by decide) (by decide) rfl rfl ?_
    simp only [a0i, a0h, SV.kill, CV.kill, kk, Nat.reduceBEq]
    refine a4r (k := 52) (j := 64) (cs := ((a0M f x.2.1 k).take j ++ [(x.2.1.getD (k : Int).toNat default)]).flatMap a0E) (n := ((a0M f x.2.1 k).take j ++ [(x.2.1.getD (k : Int).toNat default)]).length) hT rfl rfl rfl rfl rfl rfl rfl (a0a rfl) rfl rfl rfl (a0a rfl) rfl rfl (by decide) (by dsimp only [a0d]; simp only [c5t]; omega) (by dsimp only [a0d]; simp only [c5t]; omega) (by simp) (by rw [List.flatMap_append]; rfl) ?_
    simp only [a0i, a0h, SV.kill, CV.kill, kk, Nat.reduceBEq]
    iterate 2 refine z ?_
    refine a0j ?_
    iterate 3 refine z ?_
    refine b2o (k := 52) (j := 11) (s := 5) (n := (a0M f x.2.1 (k + 1)).length) (cs := (a0M f x.2.1 (k + 1)).flatMap a0E) (c2s := _) hT rfl rfl rfl (b1T hT rfl rfl rfl (a0a rfl) rfl (a0a rfl) (by omega) (by dsimp only [a0d]; omega)) rfl rfl rfl rfl rfl rfl rfl (a0a rfl) rfl rfl rfl rfl rfl rfl (by decide) rfl rfl ⟨rfl, rfl⟩ (by dsimp only [a0d]; omega) (by dsimp only [a0d]; omega) (by dsimp only [a0d]; simp only [c5s, c5t, List.length_singleton]; omega) (by dsimp only [a0d]; simp only [c5s, c5t, List.length_singleton]; omega) (by rw [b0s (by simpa using c2), a8o]; simp; omega) (by rw [b0s (by simpa using c2), hpos]; exact b6R hj) (rfl) ?_
    simp only [a0i, a0h, SV.kill, CV.kill, kk, Nat.reduceBEq]
    refine z ?_
    refine a1j ?_
    iterate 2 refine z ?_
    refine a0r (b1f (s := 5) (k := 52) (k' := 11) rfl rfl rfl (by decide) rfl) ?_
    simp only [a0i, a0h, SV.kill, CV.kill, kk, Nat.reduceBEq]
    refine a0j ?_
    iterate 4 refine z ?_
    refine ⟨k + 1, ?_, ?_, a0e ⟨rfl, rfl, rfl, rfl, rfl, trivial⟩ ⟨rfl, trivial⟩ ⟨rfl, trivial⟩ rfl⟩
    ·omega
    ·omega
 ·have d1 := c5q c1
  iterate 9 refine z ?_
  refine a0r (σ' := ⟨[(4, .one (.key 11))], [], [(11, some (a0d false (a0t (a0M f x.2.1 x.2.1.length))))]⟩) (a0e ⟨rfl, trivial⟩ trivial ⟨(congrArg (fun m : Nat => some (some (KC.mk false 128 4 (a0M f x.2.1 m).length ((a0M f x.2.1 m).flatMap a0E)))) (show k = x.2.1.length by omega)), trivial⟩ rfl) ?_
  refine z ?_
  refine a1B (a0B rfl) ?_
  exact ⟨rfl, rfl⟩
def a8n (f : Str) (l : List a0Q) (k : Nat) : Bool := decide ((a1d (l.getD (k - 1) default).2 f).1 = (a1d (l.getD k default).2 f).1)
def ufN (f : Str) (l : List a0Q) : Nat → Option Nat
 | 0 => none
 | k + 1 => (ufN f l k).or (if 1 ≤ k ∧ a8n f l k = true then some k else none)
def a3u (f : Str) (l : List a0Q) : a1g × a1g × Bool := match ufN f l l.length with
 | some m => ((l.getD (m - 1) default).1, (l.getD m default).1, true)
 | none => ((0, 0, ByteArray.empty), (0, 0, ByteArray.empty), false)
theorem b7z {f : Str} {l : List a0Q} {k m : Nat} (h : ufN f l k = some m) : ∀ d, ufN f l (k + d) = some m
 | 0 => h
 | d + 1 => by rw [← Nat.add_assoc, ufN, b7z h d]; rfl
theorem b7Y {f : Str} {l : List a0Q} {k : Nat} (h : ufN f l k = none) (h1 : 1 ≤ k) (hk : k < l.length) (hs : a8n f l k = true) : a3u f l = ((l.getD (k - 1) default).1, (l.getD k default).1, true) := by
 have h2 : ufN f l (k + 1) = some k := by rw [ufN, h, if_pos ⟨h1, hs⟩]; rfl
 have h3 := b7z h2 (l.length - (k + 1))
 rw [show k + 1 + (l.length - (k + 1)) = l.length by omega] at h3
 rw [a3u, h3]
theorem b5H {f : Str} {l : List a0Q} (h : ufN f l l.length = none) : a3u f l = ((0, 0, ByteArray.empty), (0, 0, ByteArray.empty), false) := by rw [a3u, h]
theorem b6s {f : Str} {l : List a0Q} {k : Nat} (h : ufN f l k = none) (hs : a8n f l k = false) : ufN f l (k + 1) = none := by rw [ufN, h, if_neg (by rw [hs]; simp)]; rfl
theorem b1Z {f : Str} {l : List a0Q} {k : Nat} (h1 : 1 ≤ k) : (a1d (l.getD ((k : Int) - 1).toNat default).2 f).1 = (a1d (l.getD (k : Int).toNat default).2 f).1 ↔ a8n f l k = true := by
 rw [show ((k : Int) - 1).toNat = k - 1 by omega, Int.toNat_natCast, a8n, decide_eq_true_iff]
theorem b6V {f : Str} {l : List a0Q} {k : Nat} (h1 : 1 ≤ k) (h : ¬ (a1d (l.getD ((k : Int) - 1).toNat default).2 f).1 = (a1d (l.getD (k : Int).toNat default).2 f).1) : a8n f l k = false := by
 rw [b1Z h1] at h; simpa using h
theorem b8p {f : Str} {l : List a0Q} {k : Nat} (hu : ufN f l k = none) (hk : k ≤ 1 ∨ k ≤ l.length) (h : ¬ (k : Int) < (l.length : Int)) : ufN f l l.length = none := by
 by_cases e : l.length = k
 ·rw [e]; exact hu
 ·have : l.length = 0 := by omega
  rw [this]; rfl
theorem c2L {x : a0I} {f : Str} (hb : a0v x ≤ 1048576) : PFn Tryz.prog 73 [.agg [(.dv [] (.str (x.1))), (.dv [] (a0t (x.2.1))), (.dv [] (.int .i64 (x.2.2)))], .one (.dv [] (.str (f)))] (.tup [(true, [(.dv [] (.int .i64 ((a3u f (a0M f x.2.1 x.2.1.length)).1.1))), (.dv [] (.int .i64 ((a3u f (a0M f x.2.1 x.2.1.length)).1.2.1))), (.dv [] (.str ((a3u f (a0M f x.2.1 x.2.1.length)).1.2.2)))]), (true, [(.dv [] (.int .i64 ((a3u f (a0M f x.2.1 x.2.1.length)).2.1.1))), (.dv [] (.int .i64 ((a3u f (a0M f x.2.1 x.2.1.length)).2.1.2.1))), (.dv [] (.str ((a3u f (a0M f x.2.1 x.2.1.length)).2.1.2.2)))]), (false, [(.dv [] (.bool ((a3u f (a0M f x.2.1 x.2.1.length)).2.2)))])]) := by
 refine ⟨a0u Tryz.func73 rfl Tryz.ntmps73 Tryz.results73 rfl (fun C => ?_)⟩
 refine yF 0 0 rfl rfl fun f0_0 => ?_
 refine yF 0 1 rfl rfl fun f0_1 => ?_
 refine yF 0 2 rfl rfl fun f0_2 => ?_
 refine a0G (x := .tmp 1) (a0a rfl) fun f1 => ?_
 iterate 9 refine z ?_
 refine zK 0 Tryz.call108 ?_ (hf := b9S (by omega))
 iterate 7 refine z ?_
 refine a0W (ι := Nat) (fun zz => ⟨[(1, .one (.dv [] (.str (f)))), (4, .box 4 0), (5, .box 5 0), (7, .one (.key 11)), (8, .one (.dv [] (.int .i64 ((zz : Int)))))], [(4, 98, [(.dv [] (.int .i64 (0))), (.dv [] (.int .i64 (0))), (.dv [] (.str (ByteArray.empty)))]), (5, 98, [(.dv [] (.int .i64 (0))), (.dv [] (.int .i64 (0))), (.dv [] (.str (ByteArray.empty)))])], [(11, some (a0d false (.sl 128 4 ((a0M f x.2.1 x.2.1.length).length) ((a0M f x.2.1 x.2.1.length).flatMap a0E))))]⟩) (fun zz => 1 ≤ zz ∧ (zz ≤ 1 ∨ zz ≤ (a0M f x.2.1 x.2.1.length).length) ∧ ufN f (a0M f x.2.1 x.2.1.length) zz = none) (fun zz => (a0M f x.2.1 x.2.1.length).length - zz) (1) ?_ (a0e ⟨rfl, rfl, rfl, rfl, rfl, trivial⟩ ⟨rfl, rfl, trivial⟩ ⟨rfl, trivial⟩ rfl) (fun zz hx => ?_)
 ·exact ⟨Nat.le_refl _, .inl (Nat.le_refl _), rfl⟩
 obtain ⟨k, rfl⟩ : ∃ v, v = zz := ⟨_, rfl⟩
 replace hx : 1 ≤ k ∧ (k ≤ 1 ∨ k ≤ (a0M f x.2.1 x.2.1.length).length) ∧ ufN f (a0M f x.2.1 x.2.1.length) k = none := hx
 obtain ⟨h1, hk, hu⟩ := hx
 have hlw := a9f f x.2.1 x.2.1.length
 have hlen : x.2.1.length ≤ 1048576 := by have h3 : a0v x = x.1.size + (x.2.1.length + wSum a1a x.2.1) := rfl; omega
 show Ok _ _ _ _ _ (⟨[(1, .one (.dv [] (.str (f)))), (4, .box 4 0), (5, .box 5 0), (7, .one (.key 11)), (8, .one (.dv [] (.int .i64 ((k : Int)))))], [(4, 98, [(.dv [] (.int .i64 (0))), (.dv [] (.int .i64 (0))), (.dv [] (.str (ByteArray.empty)))]), (5, 98, [(.dv [] (.int .i64 (0))), (.dv [] (.int .i64 (0))), (.dv [] (.str (ByteArray.empty)))])], [(11, some (a0d false (.sl 128 4 ((a0M f x.2.1 x.2.1.length).length) ((a0M f x.2.1 x.2.1.length).flatMap a0E))))]⟩ : St)
 iterate 3 refine z ?_
 refine yO rfl rfl (a1Q (v := .one (.dv [11] (a0t (a0M f x.2.1 x.2.1.length)))) (.inl rfl) (a2X (a0a rfl) rfl rfl)) rfl ?_
 iterate 3 refine z ?_
 refine yQ rfl (fun c1 => ?_) fun c1 => ?_
 ·have d1 := c5p c1
  iterate 5 refine z ?_
  refine yO rfl rfl (a1Q (v := .one (.dv [11] (a0t (a0M f x.2.1 x.2.1.length)))) (.inl rfl) (a2X (a0a rfl) rfl rfl)) rfl ?_
  iterate 6 refine z ?_
  refine zC Tryz.call109 ?_ (hf := a6j)
  iterate 7 refine z ?_
  refine yO rfl rfl (a1Q (v := .one (.dv [11] (a0t (a0M f x.2.1 x.2.1.length)))) (.inl rfl) (a2X (a0a rfl) rfl rfl)) rfl ?_
  iterate 5 refine z ?_
  refine zC Tryz.call109 ?_ (hf := a6j)
  iterate 11 refine z ?_
  refine yQ rfl (fun c2 => ?_) fun c2 => ?_
  ·have d2 := c5p c2
   refine a0p ?_
   refine a3p 4 (oB := [5]) (oK := [11]) (by kernel_rfl) rfl rfl ?_
   refine a1i 0 rfl (by kernel_rfl) rfl rfl (a1Q (v := .one (.dv [11] (a0t (a0M f x.2.1 x.2.1.length)))) (.inl rfl) (a2X (a0a rfl) rfl rfl)) rfl rfl rfl rfl rfl ?_
   refine a1i 1 rfl (by kernel_rfl) rfl rfl (a1Q (.inl rfl) (a0a rfl)) rfl rfl rfl rfl rfl ?_
   refine a1i 2 rfl (by kernel_rfl) rfl rfl (a8W rfl (a0a rfl) (a0y (a0w rfl)) (a4c (by omega) (by omega))) rfl rfl rfl rfl rfl ?_
   refine a1i 3 rfl (by kernel_rfl) rfl rfl (a4t hT rfl rfl rfl (a0a rfl) (a0a rfl) (fun _ => rfl) (by omega) (by omega)) rfl rfl rfl rfl rfl ?_
   refine a1i 4 rfl (by kernel_rfl) rfl rfl (a6i hT rfl rfl rfl (a0a rfl)) rfl rfl rfl rfl rfl ?_
   refine a1i 5 rfl (by kernel_rfl) rfl rfl (a7p hT rfl rfl (a0a rfl) rfl) rfl rfl rfl rfl rfl ?_
   refine a1i 6 rfl (by kernel_rfl) rfl rfl (a1Q (v := .one (.dv [11] (a0t (a0M f x.2.1 x.2.1.length)))) (.inl rfl) (a2X (a0a rfl) rfl rfl)) rfl rfl rfl rfl rfl ?_
   refine a1i 7 rfl (by kernel_rfl) rfl rfl (a1Q (.inl rfl) (a0a rfl)) rfl rfl rfl rfl rfl ?_
   refine a1i 8 rfl (by kernel_rfl) rfl rfl (a4t hT rfl rfl rfl (a0a rfl) (a0a rfl) (fun _ => rfl) (by omega) (by omega)) rfl rfl rfl rfl rfl ?_
   refine a1i 9 rfl (by kernel_rfl) rfl rfl (a6i hT rfl rfl rfl (a0a rfl)) rfl rfl rfl rfl rfl ?_
   refine a1i 10 rfl (by kernel_rfl) rfl rfl (a7p hT rfl rfl (a0a rfl) rfl) rfl rfl rfl rfl rfl ?_
   refine a3t 11 rfl (by kernel_rfl) rfl hT rfl rfl rfl (a0a rfl) (a0a rfl) rfl rfl rfl rfl rfl rfl ?_
   refine a3s [12, 13] rfl rfl (by kernel_rfl) ?_
   iterate 9 refine z ?_
   refine a1V (a0K hT rfl rfl rfl rfl) (a0K hT rfl rfl rfl rfl) (a0B rfl) rfl rfl rfl ?_
   rw [b7Y hu h1 (by omega) ((b1Z h1).1 d2), show ((k : Int) - 1).toNat = k - 1 by omega] <;> rfl
  ·have d2 := c5q c2
   iterate 3 refine z ?_
   refine a0j ?_
   iterate 4 refine z ?_
   refine ⟨k + 1, ?_, ?_, a0e ⟨rfl, rfl, rfl, rfl, rfl, trivial⟩ ⟨rfl, rfl, trivial⟩ ⟨rfl, trivial⟩ rfl⟩
   ·exact ⟨by omega, .inr (by omega), b6s hu (b6V h1 d2)⟩
   ·omega
 ·have d1 := c5q c1
  iterate 6 refine z ?_
  refine yO rfl rfl (a2s hT hB rfl rfl rfl a2o) rfl ?_
  refine yO rfl rfl (a2s hT hB rfl rfl rfl a2o) rfl ?_
  iterate 5 refine z ?_
  refine a1V (a0K hT rfl rfl rfl rfl) (a0K hT rfl rfl rfl rfl) (a0B rfl) rfl rfl rfl ?_
  rw [b5H (b8p hu hk d1)] <;> rfl
theorem b8v {x : a0I} {f : Str} (hb : a0v x ≤ 1048576) : PFn Tryz.prog 57 [.agg [(.dv [] (.str (x.1))), (.dv [] (a0t (x.2.1))), (.dv [] (.int .i64 (x.2.2)))], .one (.dv [] (.str (f)))] (.tup [(true, [(.dv [] (.int .i64 ((a3u f (a0M f x.2.1 x.2.1.length)).1.1))), (.dv [] (.int .i64 ((a3u f (a0M f x.2.1 x.2.1.length)).1.2.1))), (.dv [] (.str ((a3u f (a0M f x.2.1 x.2.1.length)).1.2.2)))]), (true, [(.dv [] (.int .i64 ((a3u f (a0M f x.2.1 x.2.1.length)).2.1.1))), (.dv [] (.int .i64 ((a3u f (a0M f x.2.1 x.2.1.length)).2.1.2.1))), (.dv [] (.str ((a3u f (a0M f x.2.1 x.2.1.length)).2.1.2.2)))]), (false, [(.dv [] (.bool ((a3u f (a0M f x.2.1 x.2.1.length)).2.2)))])]) := by
 refine ⟨a0u Tryz.func57 rfl Tryz.ntmps57 Tryz.results57 rfl (fun C => ?_)⟩
 refine yF 0 0 rfl rfl fun f0_0 => ?_
 refine yF 0 1 rfl rfl fun f0_1 => ?_
 refine yF 0 2 rfl rfl fun f0_2 => ?_
 refine a0G (x := .tmp 1) (a0a rfl) fun f1 => ?_
 iterate 9 refine z ?_
 refine zK 0 Tryz.call92 ?_ (hf := c0X (by omega))
 iterate 7 refine z ?_
 refine a0W (ι := Nat) (fun zz => ⟨[(1, .one (.dv [] (.str (f)))), (4, .box 4 0), (5, .box 5 0), (7, .one (.key 11)), (8, .one (.dv [] (.int .i64 ((zz : Int)))))], [(4, 98, [(.dv [] (.int .i64 (0))), (.dv [] (.int .i64 (0))), (.dv [] (.str (ByteArray.empty)))]), (5, 98, [(.dv [] (.int .i64 (0))), (.dv [] (.int .i64 (0))), (.dv [] (.str (ByteArray.empty)))])], [(11, some (a0d false (.sl 128 4 ((a0M f x.2.1 x.2.1.length).length) ((a0M f x.2.1 x.2.1.length).flatMap a0E))))]⟩) (fun zz => 1 ≤ zz ∧ (zz ≤ 1 ∨ zz ≤ (a0M f x.2.1 x.2.1.length).length) ∧ ufN f (a0M f x.2.1 x.2.1.length) zz = none) (fun zz => (a0M f x.2.1 x.2.1.length).length - zz) (1) ?_ (a0e ⟨rfl, rfl, rfl, rfl, rfl, trivial⟩ ⟨rfl, rfl, trivial⟩ ⟨rfl, trivial⟩ rfl) (fun zz hx => ?_)
 ·exact ⟨Nat.le_refl _, .inl (Nat.le_refl _), rfl⟩
 obtain ⟨k, rfl⟩ : ∃ v, v = zz := ⟨_, rfl⟩
 replace hx : 1 ≤ k ∧ (k ≤ 1 ∨ k ≤ (a0M f x.2.1 x.2.1.length).length) ∧ ufN f (a0M f x.2.1 x.2.1.length) k = none := hx
 obtain ⟨h1, hk, hu⟩ := hx
 have hlw := a9f f x.2.1 x.2.1.length
 have hlen : x.2.1.length ≤ 1048576 := by have h3 : a0v x = x.1.size + (x.2.1.length + wSum a1a x.2.1) := rfl; omega
 show Ok _ _ _ _ _ (⟨[(1, .one (.dv [] (.str (f)))), (4, .box 4 0), (5, .box 5 0), (7, .one (.key 11)), (8, .one (.dv [] (.int .i64 ((k : Int)))))], [(4, 98, [(.dv [] (.int .i64 (0))), (.dv [] (.int .i64 (0))), (.dv [] (.str (ByteArray.empty)))]), (5, 98, [(.dv [] (.int .i64 (0))), (.dv [] (.int .i64 (0))), (.dv [] (.str (ByteArray.empty)))])], [(11, some (a0d false (.sl 128 4 ((a0M f x.2.1 x.2.1.length).length) ((a0M f x.2.1 x.2.1.length).flatMap a0E))))]⟩ : St)
 iterate 3 refine z ?_
 refine yO rfl rfl (a1Q (v := .one (.dv [11] (a0t (a0M f x.2.1 x.2.1.length)))) (.inl rfl) (a2X (a0a rfl) rfl rfl)) rfl ?_
 iterate 3 refine z ?_
 refine yQ rfl (fun c1 => ?_) fun c1 => ?_
 ·have d1 := c5p c1
  iterate 5 refine z ?_
  refine yO rfl rfl (a1Q (v := .one (.dv [11] (a0t (a0M f x.2.1 x.2.1.length)))) (.inl rfl) (a2X (a0a rfl) rfl rfl)) rfl ?_
  iterate 6 refine z ?_
  refine zC Tryz.call93 ?_ (hf := a7F)
  iterate 7 refine z ?_
  refine yO rfl rfl (a1Q (v := .one (.dv [11] (a0t (a0M f x.2.1 x.2.1.length)))) (.inl rfl) (a2X (a0a rfl) rfl rfl)) rfl ?_
  iterate 5 refine z ?_
  refine zC Tryz.call93 ?_ (hf := a7F)
  iterate 11 refine z ?_
  refine yQ rfl (fun c2 => ?_) fun c2 => ?_
  ·have d2 := c5p c2
   refine a0p ?_
   refine a3p 4 (oB := [5]) (oK := [11]) (by kernel_rfl) rfl rfl ?_
   refine a1i 0 rfl (by kernel_rfl) rfl rfl (a1Q (v := .one (.dv [11] (a0t (a0M f x.2.1 x.2.1.length)))) (.inl rfl) (a2X (a0a rfl) rfl rfl)) rfl rfl rfl rfl rfl ?_
   refine a1i 1 rfl (by kernel_rfl) rfl rfl (a1Q (.inl rfl) (a0a rfl)) rfl rfl rfl rfl rfl ?_
   refine a1i 2 rfl (by kernel_rfl) rfl rfl (a8W rfl (a0a rfl) (a0y (a0w rfl)) (a4c (by omega) (by omega))) rfl rfl rfl rfl rfl ?_
   refine a1i 3 rfl (by kernel_rfl) rfl rfl (a4t hT rfl rfl rfl (a0a rfl) (a0a rfl) (fun _ => rfl) (by omega) (by omega)) rfl rfl rfl rfl rfl ?_
   refine a1i 4 rfl (by kernel_rfl) rfl rfl (a6i hT rfl rfl rfl (a0a rfl)) rfl rfl rfl rfl rfl ?_
   refine a1i 5 rfl (by kernel_rfl) rfl rfl (a7p hT rfl rfl (a0a rfl) rfl) rfl rfl rfl rfl rfl ?_
   refine a1i 6 rfl (by kernel_rfl) rfl rfl (a1Q (v := .one (.dv [11] (a0t (a0M f x.2.1 x.2.1.length)))) (.inl rfl) (a2X (a0a rfl) rfl rfl)) rfl rfl rfl rfl rfl ?_
   refine a1i 7 rfl (by kernel_rfl) rfl rfl (a1Q (.inl rfl) (a0a rfl)) rfl rfl rfl rfl rfl ?_
   refine a1i 8 rfl (by kernel_rfl) rfl rfl (a4t hT rfl rfl rfl (a0a rfl) (a0a rfl) (fun _ => rfl) (by omega) (by omega)) rfl rfl rfl rfl rfl ?_
   refine a1i 9 rfl (by kernel_rfl) rfl rfl (a6i hT rfl rfl rfl (a0a rfl)) rfl rfl rfl rfl rfl ?_
   refine a1i 10 rfl (by kernel_rfl) rfl rfl (a7p hT rfl rfl (a0a rfl) rfl) rfl rfl rfl rfl rfl ?_
   refine a3t 11 rfl (by kernel_rfl) rfl hT rfl rfl rfl (a0a rfl) (a0a rfl) rfl rfl rfl rfl rfl rfl ?_
   refine a3s [12, 13] rfl rfl (by kernel_rfl) ?_
   iterate 9 refine z ?_
   refine a1V (a0K hT rfl rfl rfl rfl) (a0K hT rfl rfl rfl rfl) (a0B rfl) rfl rfl rfl ?_
   rw [b7Y hu h1 (by omega) ((b1Z h1).1 d2), show ((k : Int) - 1).toNat = k - 1 by omega] <;> rfl
  ·have d2 := c5q c2
   iterate 3 refine z ?_
   refine a0j ?_
   iterate 4 refine z ?_
   refine ⟨k + 1, ?_, ?_, a0e ⟨rfl, rfl, rfl, rfl, rfl, trivial⟩ ⟨rfl, rfl, trivial⟩ ⟨rfl, trivial⟩ rfl⟩
   ·exact ⟨by omega, .inr (by omega), b6s hu (b6V h1 d2)⟩
   ·omega
 ·have d1 := c5q c1
  iterate 6 refine z ?_
  refine yO rfl rfl (a2s hT hB rfl rfl rfl a2o) rfl ?_
  refine yO rfl rfl (a2s hT hB rfl rfl rfl a2o) rfl ?_
  iterate 5 refine z ?_
  refine a1V (a0K hT rfl rfl rfl rfl) (a0K hT rfl rfl rfl rfl) (a0B rfl) rfl rfl rfl ?_
  rw [b5H (b8p hu hk d1)] <;> rfl
end Go.Proofs.YteellmjlalgjaaaGreat
