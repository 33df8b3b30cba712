/-
  Contracts of the program's functions for the statements Durable, by the rules of the logic. Conditions: none but those in the theorems.
-/
import Derived.Test.YtkhldpbfkagdhaaGreatU3
set_option maxHeartbeats 4000000
set_option maxRecDepth 100000
namespace Go.Proofs.YtkhldpbfkagdhaaGreat
open Go.RowKit
open Go.Proofs
set_option linter.unusedVariables false
set_option linter.unusedSimpArgs false
theorem a6I {n lo hi : Int}  : PFn Tryz.prog 73 [.one (.dv [] (.int .i64 (n))), .one (.dv [] (.int .i64 (lo))), .one (.dv [] (.int .i64 (hi)))] (.one (.dv [] (.bool (decide (lo ≤ n) && decide (n ≤ hi))))) := by
 refine ⟨a0O Tryz.func73 rfl Tryz.ntmps73 Tryz.results73 rfl (fun C => ?_)⟩
 refine a1k (x := .tmp 0) (a0a rfl) fun f0 => ?_
 refine a1k (x := .tmp 1) (a0a rfl) fun f1 => ?_
 refine a1k (x := .tmp 2) (a0a rfl) fun f2 => ?_
 iterate 16 refine z ?_
 rfl
theorem a7b {n lo hi : Int}  : PFn Tryz.prog 54 [.one (.dv [] (.int .i64 (n))), .one (.dv [] (.int .i64 (lo))), .one (.dv [] (.int .i64 (hi)))] (.one (.dv [] (.bool (decide (lo ≤ n) && decide (n ≤ hi))))) := by
 refine ⟨a0O Tryz.func54 rfl Tryz.ntmps54 Tryz.results54 rfl (fun C => ?_)⟩
 refine a1k (x := .tmp 0) (a0a rfl) fun f0 => ?_
 refine a1k (x := .tmp 1) (a0a rfl) fun f1 => ?_
 refine a1k (x := .tmp 2) (a0a rfl) fun f2 => ?_
 iterate 16 refine z ?_
 rfl
theorem b0B {α : Type} {p : α → Bool} {l : List α} {k : Nat} {d : α} (h : (l.take k).all p = true) (hk : k < l.length) (hp : p (l.getD k d) = true) : (l.take (k + 1)).all p = true := by
 rw [List.take_succ_eq_append_getElem hk, List.all_append, h]
 simp only [List.all_cons, List.all_nil, Bool.and_true, Bool.true_and]
 simpa [List.getD, List.getElem?_eq_getElem hk] using hp
theorem b1P {α : Type} {p : α → Bool} {l : List α} {k : Nat} {d : α} (hk : k < l.length) (hp : p (l.getD k d) = false) : l.all p = false := by
 rw [List.all_eq_false]
 refine ⟨l[k], List.getElem_mem hk, ?_⟩
 simpa [List.getD, List.getElem?_eq_getElem hk] using hp
theorem b1o {α : Type} {p : α → Bool} {l : List α} {k : Nat} (h : (l.take k).all p = true) (hk : l.length ≤ k) : l.all p = true := by rwa [List.take_of_length_le hk] at h
theorem a4H (s : ByteArray) : s.data.toList.length = s.size := rfl
def kch (b : UInt8) : Bool := (decide ((97 : Int) ≤ (b.toNat : Int)) && decide ((b.toNat : Int) ≤ 122)) || (decide ((48 : Int) ≤ (b.toNat : Int)) && decide ((b.toNat : Int) ≤ 57))
def a4p (s : Str) : Bool := s.data.toList.all kch && decide ((s.size : Int) ≤ 12)
def wch (sl : Bool) (b : UInt8) : Bool := (decide ((97 : Int) ≤ (b.toNat : Int)) && decide ((b.toNat : Int) ≤ 122)) || (sl && decide ((b.toNat : Int) = 47))
theorem b7U (b : UInt8) : ((decide ((b.toNat : Int) < 97) || decide ((122 : Int) < (b.toNat : Int))) && (decide ((b.toNat : Int) < 48) || decide ((57 : Int) < (b.toNat : Int)))) = !kch b := by
 unfold kch
 generalize (b.toNat : Int) = z
 by_cases h1 : z < 97 <;> by_cases h2 : 122 < z <;> by_cases h3 : z < 48 <;> by_cases h4 : 57 < z <;> simp [h1, h2, h3, h4] <;> omega
theorem c8i {s : Str}  : PFn Tryz.prog 111 [.one (.dv [] (.str (s)))] (.one (.dv [] (.bool (a4p s)))) := by
 refine ⟨a0O Tryz.func111 rfl Tryz.ntmps111 Tryz.results111 rfl (fun C => ?_)⟩
 refine a1k (x := .tmp 0) (a0a rfl) fun f0 => ?_
 iterate 8 refine z ?_
 refine a1o (ι := Nat) (fun zz => ⟨[(0, .one (.dv [] (.str (s)))), (3, .one (.dv [] (.int .i64 ((zz : Int)))))], [], []⟩) (fun zz => zz ≤ s.size ∧ (s.data.toList.take zz).all kch = true) (fun zz => s.size - zz) (0) ?_ (a0e ⟨rfl, rfl, trivial⟩ trivial trivial rfl) (fun zz hx => ?_)
 ·exact ⟨Nat.zero_le _, rfl⟩
 obtain ⟨k, rfl⟩ : ∃ v, v = zz := ⟨_, rfl⟩
 replace hx : k ≤ s.size ∧ (s.data.toList.take k).all kch = true := hx
 obtain ⟨hk, hall⟩ := hx
 show Ok _ _ _ _ _ (⟨[(0, .one (.dv [] (.str (s)))), (3, .one (.dv [] (.int .i64 ((k : Int)))))], [], []⟩ : St)
 iterate 7 refine z ?_
 refine yQ rfl (fun c1 => ?_) fun c1 => ?_
 ·have d1 := c9f c1
  iterate 29 refine z ?_
  refine yQ rfl (fun c2 => ?_) fun c2 => ?_
  ·iterate 10 refine z ?_
   rw [a4p, b1P (k := k) (d := 0) (by rw [a4H]; omega) (by have h : (!kch (s.data.toList.getD k 0)) = true := c2; simpa using h)]; rfl
  ·iterate 3 refine z ?_
   refine a0n ?_
   iterate 4 refine z ?_
   refine ⟨k + 1, ?_, ?_, a0e ⟨rfl, rfl, trivial⟩ trivial trivial rfl⟩
   ·exact ⟨by omega, b0B (d := 0) hall (by rw [a4H]; omega) (by have h : (!kch (s.data.toList.getD k 0)) = false := c2; simpa using h)⟩
   ·omega
 ·have d1 := c9g c1
  iterate 13 refine z ?_
  rw [a4p, b1o hall (by rw [a4H]; omega)]; rfl
theorem c5I {s : Str}  : PFn Tryz.prog 113 [.one (.dv [] (.str (s)))] (.one (.dv [] (.bool (a4p s)))) := by
 refine ⟨a0O Tryz.func113 rfl Tryz.ntmps113 Tryz.results113 rfl (fun C => ?_)⟩
 refine a1k (x := .tmp 0) (a0a rfl) fun f0 => ?_
 iterate 8 refine z ?_
 refine a1o (ι := Nat) (fun zz => ⟨[(0, .one (.dv [] (.str (s)))), (3, .one (.dv [] (.int .i64 ((zz : Int)))))], [], []⟩) (fun zz => zz ≤ s.size ∧ (s.data.toList.take zz).all kch = true) (fun zz => s.size - zz) (0) ?_ (a0e ⟨rfl, rfl, trivial⟩ trivial trivial rfl) (fun zz hx => ?_)
 ·exact ⟨Nat.zero_le _, rfl⟩
 obtain ⟨k, rfl⟩ : ∃ v, v = zz := ⟨_, rfl⟩
 replace hx : k ≤ s.size ∧ (s.data.toList.take k).all kch = true := hx
 obtain ⟨hk, hall⟩ := hx
 show Ok _ _ _ _ _ (⟨[(0, .one (.dv [] (.str (s)))), (3, .one (.dv [] (.int .i64 ((k : Int)))))], [], []⟩ : St)
 iterate 7 refine z ?_
 refine yQ rfl (fun c1 => ?_) fun c1 => ?_
 ·have d1 := c9f c1
  iterate 28 refine z ?_
  refine yQ rfl (fun c2 => ?_) fun c2 => ?_
  ·iterate 10 refine z ?_
   rw [a4p, b1P (k := k) (d := 0) (by rw [a4H]; omega) (by have h := (b7U (s.data.toList.getD k 0)).symm.trans c2; simpa using h)]; rfl
  ·iterate 3 refine z ?_
   refine a0n ?_
   iterate 4 refine z ?_
   refine ⟨k + 1, ?_, ?_, a0e ⟨rfl, rfl, trivial⟩ trivial trivial rfl⟩
   ·exact ⟨by omega, b0B (d := 0) hall (by rw [a4H]; omega) (by have h := (b7U (s.data.toList.getD k 0)).symm.trans c2; simpa using h)⟩
   ·omega
 ·have d1 := c9g c1
  iterate 13 refine z ?_
  rw [a4p, b1o hall (by rw [a4H]; omega)]; rfl
def a1a (k : a0K) : Bool := (decide (1 ≤ k.1) && decide (k.1 ≤ 3)) && (decide (-1000000000000 ≤ k.2.1) && decide (k.2.1 ≤ 1000000000000)) && a4p k.2.2 && !(decide (k.1 = 2) && !decide (k.2.1 = 0)) && !(decide (k.1 = 1) && !sEq k.2.2 (ByteArray.mk #[]))
def a2e (s : Str) : Bool := s.data.toList.all (wch false) && (decide (1 ≤ (s.size : Int)) && decide ((s.size : Int) ≤ 8))
theorem b8k (b : UInt8) : (decide ((b.toNat : Int) < 97) || decide ((122 : Int) < (b.toNat : Int))) = !wch false b := by
 unfold wch
 generalize (b.toNat : Int) = z
 by_cases h1 : z < 97 <;> by_cases h2 : 122 < z <;> simp [h1, h2] <;> omega
theorem a5N {k : a0K}  : PFn Tryz.prog 80 [.agg [(.dv [] (.int .i64 (k.1))), (.dv [] (.int .i64 (k.2.1))), (.dv [] (.str (k.2.2)))]] (.one (.dv [] (.bool (a1a k)))) := by
 refine ⟨a0O Tryz.func80 rfl Tryz.ntmps80 Tryz.results80 rfl (fun C => ?_)⟩
 refine yF 0 0 rfl rfl fun f0_0 => ?_
 refine yF 0 1 rfl rfl fun f0_1 => ?_
 refine yF 0 2 rfl rfl fun f0_2 => ?_
 iterate 8 refine z ?_
 refine zC Tryz.call73 ?_ (hf := a6I)
 iterate 4 refine z ?_
 refine a1O (a1t rfl rfl rfl rfl rfl) rfl rfl Tryz.call73 a6I (fun hg => (a0g (a0y rfl hg) (a0C a0c) (a0g (a0i (a0j rfl)) (a0C a0c) (a0g (a0i (a0j rfl)) (a0C a0c) a0q)))) rfl rfl ?_
 iterate 5 refine z ?_
 refine a1O (a1t rfl rfl rfl rfl rfl) rfl rfl Tryz.call111 c8i (fun hg => (a0g (a0y rfl hg) (a0C a0c) a0q)) rfl rfl ?_
 iterate 3 refine z ?_
 refine yQ rfl (fun c1 => ?_) fun c1 => ?_
 ·iterate 6 refine z ?_
  grind [a1a]
 ·iterate 27 refine z ?_
  grind [a1a]
theorem a6z {k : a0K}  : PFn Tryz.prog 85 [.agg [(.dv [] (.int .i64 (k.1))), (.dv [] (.int .i64 (k.2.1))), (.dv [] (.str (k.2.2)))]] (.one (.dv [] (.bool (a1a k)))) := by
 refine ⟨a0O Tryz.func85 rfl Tryz.ntmps85 Tryz.results85 rfl (fun C => ?_)⟩
 refine yF 0 0 rfl rfl fun f0_0 => ?_
 refine yF 0 1 rfl rfl fun f0_1 => ?_
 refine yF 0 2 rfl rfl fun f0_2 => ?_
 iterate 7 refine z ?_
 refine zC Tryz.call54 ?_ (hf := a7b)
 iterate 3 refine z ?_
 refine a1O (a1t rfl rfl rfl rfl rfl) rfl rfl Tryz.call54 a7b (fun hg => (a0g (a0y rfl hg) (a0C a0c) (a0g (a0i (a0j rfl)) (a0C a0c) (a0g (a0i (a0j rfl)) (a0C a0c) a0q)))) rfl rfl ?_
 iterate 14 refine z ?_
 refine a1O (a1t rfl rfl rfl rfl rfl) rfl rfl Tryz.call113 c5I (fun hg => (a0g (a0y rfl hg) (a0C a0c) a0q)) rfl rfl ?_
 iterate 15 refine z ?_
 grind [a1a]
theorem c6A {s : Str} {m : Int} {sl : Bool}  : PFn Tryz.prog 99 [.one (.dv [] (.str (s))), .one (.dv [] (.int .i64 (m))), .one (.dv [] (.bool (sl)))] (.one (.dv [] (.bool (s.data.toList.all (wch sl) && (decide (1 ≤ (s.size : Int)) && decide ((s.size : Int) ≤ m)))))) := by
 refine ⟨a0O Tryz.func99 rfl Tryz.ntmps99 Tryz.results99 rfl (fun C => ?_)⟩
 refine a1k (x := .tmp 0) (a0a rfl) fun f0 => ?_
 refine a1k (x := .tmp 1) (a0a rfl) fun f1 => ?_
 iterate 8 refine z ?_
 refine a1o (ι := Nat) (fun zz => ⟨[(0, .one (.dv [] (.str (s)))), (1, .one (.dv [] (.int .i64 (m)))), (2, .one (.dv [] (.bool (sl)))), (7, .one (.dv [] (.int .i64 ((zz : Int)))))], [], []⟩) (fun zz => zz ≤ s.size ∧ (s.data.toList.take zz).all (wch sl) = true) (fun zz => s.size - zz) (0) ?_ (a0e ⟨rfl, rfl, rfl, rfl, trivial⟩ trivial trivial rfl) (fun zz hx => ?_)
 ·exact ⟨Nat.zero_le _, rfl⟩
 obtain ⟨k, rfl⟩ : ∃ v, v = zz := ⟨_, rfl⟩
 replace hx : k ≤ s.size ∧ (s.data.toList.take k).all (wch sl) = true := hx
 obtain ⟨hk, hall⟩ := hx
 show Ok _ _ _ _ _ (⟨[(0, .one (.dv [] (.str (s)))), (1, .one (.dv [] (.int .i64 (m)))), (2, .one (.dv [] (.bool (sl)))), (7, .one (.dv [] (.int .i64 ((k : Int)))))], [], []⟩ : St)
 iterate 7 refine z ?_
 refine yQ rfl (fun c1 => ?_) fun c1 => ?_
 ·have d1 := c9f c1
  iterate 26 refine z ?_
  refine yQ rfl (fun c2 => ?_) fun c2 => ?_
  ·iterate 10 refine z ?_
   rw [b1P (k := k) (d := 0) (by rw [a4H]; omega) (by have h : (!wch sl (s.data.toList.getD k 0)) = true := c2; simpa using h)]; rfl
  ·iterate 3 refine z ?_
   refine a0n ?_
   iterate 4 refine z ?_
   refine ⟨k + 1, ?_, ?_, a0e ⟨rfl, rfl, rfl, rfl, trivial⟩ trivial trivial rfl⟩
   ·exact ⟨by omega, b0B (d := 0) hall (by rw [a4H]; omega) (by have h : (!wch sl (s.data.toList.getD k 0)) = false := c2; simpa using h)⟩
   ·omega
 ·have d1 := c9g c1
  iterate 9 refine z ?_
  refine zC Tryz.call73 ?_ (hf := a6I)
  iterate 4 refine z ?_
  rw [b1o hall (by rw [a4H]; omega)]; rfl
theorem a8k {s : Str}  : PFn Tryz.prog 72 [.one (.dv [] (.str (s)))] (.one (.dv [] (.bool (a2e s)))) := by
 refine ⟨a0O Tryz.func72 rfl Tryz.ntmps72 Tryz.results72 rfl (fun C => ?_)⟩
 refine a1k (x := .tmp 0) (a0a rfl) fun f0 => ?_
 iterate 5 refine z ?_
 refine zC Tryz.call99 ?_ (hf := c6A)
 iterate 4 refine z ?_
 rfl
theorem a8H {s : Str}  : PFn Tryz.prog 52 [.one (.dv [] (.str (s)))] (.one (.dv [] (.bool (a2e s)))) := by
 refine ⟨a0O Tryz.func52 rfl Tryz.ntmps52 Tryz.results52 rfl (fun C => ?_)⟩
 refine a1k (x := .tmp 0) (a0a rfl) fun f0 => ?_
 iterate 8 refine z ?_
 refine a1o (ι := Nat) (fun zz => ⟨[(0, .one (.dv [] (.str (s)))), (3, .one (.dv [] (.int .i64 ((zz : Int)))))], [], []⟩) (fun zz => zz ≤ s.size ∧ (s.data.toList.take zz).all (wch false) = true) (fun zz => s.size - zz) (0) ?_ (a0e ⟨rfl, rfl, trivial⟩ trivial trivial rfl) (fun zz hx => ?_)
 ·exact ⟨Nat.zero_le _, rfl⟩
 obtain ⟨k, rfl⟩ : ∃ v, v = zz := ⟨_, rfl⟩
 replace hx : k ≤ s.size ∧ (s.data.toList.take k).all (wch false) = true := hx
 obtain ⟨hk, hall⟩ := hx
 show Ok _ _ _ _ _ (⟨[(0, .one (.dv [] (.str (s)))), (3, .one (.dv [] (.int .i64 ((k : Int)))))], [], []⟩ : St)
 iterate 7 refine z ?_
 refine yQ rfl (fun c1 => ?_) fun c1 => ?_
 ·have d1 := c9f c1
  iterate 16 refine z ?_
  refine yQ rfl (fun c2 => ?_) fun c2 => ?_
  ·iterate 10 refine z ?_
   rw [a2e, b1P (k := k) (d := 0) (by rw [a4H]; omega) (by have h := (b8k (s.data.toList.getD k 0)).symm.trans c2; simpa using h)]; rfl
  ·iterate 3 refine z ?_
   refine a0n ?_
   iterate 4 refine z ?_
   refine ⟨k + 1, ?_, ?_, a0e ⟨rfl, rfl, trivial⟩ trivial trivial rfl⟩
   ·exact ⟨by omega, b0B (d := 0) hall (by rw [a4H]; omega) (by have h := (b8k (s.data.toList.getD k 0)).symm.trans c2; simpa using h)⟩
   ·omega
 ·have d1 := c9g c1
  iterate 8 refine z ?_
  refine zC Tryz.call54 ?_ (hf := a7b)
  iterate 4 refine z ?_
  rw [a2e, b1o hall (by rw [a4H]; omega)]; rfl
theorem b8T : ∀ (x y : List UInt8), (Op.bytesLess x y || (x == y)) = !Op.bytesLess y x
 | [], [] => rfl
 | [], _ :: _ => rfl
 | _ :: _, [] => rfl
 | a :: x, b :: y => by
  have ih := b8T x y
  simp only [Op.bytesLess]
  rcases Nat.lt_trichotomy a.toNat b.toNat with h | h | h
  ·have h1 : a < b := h
   have h2 : ¬ b < a := by intro h'; have : b.toNat < a.toNat := h'; omega
   have h3 : ¬ a = b := by rintro rfl; omega
   have h4 : ¬ b = a := fun e => h3 e.symm
   simp [h1, h2, h3, h4]
  ·have e : a = b := UInt8.toNat_inj.1 h
   subst e
   simpa using ih
  ·have h1 : b < a := h
   have h2 : ¬ a < b := by intro h'; have : a.toNat < b.toNat := h'; omega
   have h3 : ¬ a = b := by rintro rfl; omega
   have h4 : ¬ b = a := fun e => h3 e.symm
   simp [h1, h2, h3, h4]
theorem a7i (a b : Str) : (sLt a b || sEq a b) = !sLt b a := b8T _ _
theorem a4z {p : Nat → Bool} {k : Nat} (h : (List.range k).all p = true) (hp : p k = true) : (List.range (k + 1)).all p = true := by
 rw [List.range_succ, List.all_append, h]; simpa using hp
theorem a7S {p : Nat → Bool} {k n : Nat} (hk : k < n) (hp : p k = false) : (List.range n).all p = false := by
 rw [List.all_eq_false]; exact ⟨k, List.mem_range.2 hk, by simpa using hp⟩
def a4N (r : a0v) (i : Nat) : Bool := (!a2e (r.getD (i : Int).toNat default).1 || !(decide ((0 : Int) ≤ (r.getD (i : Int).toNat default).2) && decide ((r.getD (i : Int).toNat default).2 ≤ 1000000000))) ||
 (decide ((0 : Int) < (i : Int)) && (sLt (r.getD (i : Int).toNat default).1 (r.getD ((i : Int) - 1).toNat default).1 || sEq (r.getD (i : Int).toNat default).1 (r.getD ((i : Int) - 1).toNat default).1))
def a1b (r : a0v) : Bool := (List.range r.length).all (fun i => !a4N r i) && decide ((r.length : Int) ≤ 6)
def b2a (r : a0v) (i : Nat) : Bool := (!a2e (r.getD (i : Int).toNat default).1 || !(decide ((0 : Int) ≤ (r.getD (i : Int).toNat default).2) && decide ((r.getD (i : Int).toNat default).2 ≤ 1000000000))) ||
 (decide ((0 : Int) < (i : Int)) && !sLt (r.getD ((i : Int) - 1).toNat default).1 (r.getD (i : Int).toNat default).1)
theorem b6N (r : a0v) (i : Nat) : b2a r i = a4N r i := by unfold b2a a4N; rw [a7i]
theorem a7m {r : a0v}  : PFn Tryz.prog 81 [.agg [(.dv [] (a0I (r)))]] (.one (.dv [] (.bool (a1b r)))) := by
 refine ⟨a0O Tryz.func81 rfl Tryz.ntmps81 Tryz.results81 rfl (fun C => ?_)⟩
 refine yF 0 0 rfl rfl fun f0_0 => ?_
 iterate 12 refine z ?_
 refine a1o (ι := Nat) (fun zz => ⟨[(1, .box 1 0), (6, .one (.dv [] (a0I (r)))), (7, .one (.dv [] (.int .i64 ((((r)).length : Int))))), (8, .one (.dv [] (.int .i64 ((zz : Int)))))], [(1, 63, [(.dv [] (a0I (r)))])], []⟩) (fun zz => zz ≤ r.length ∧ (List.range zz).all (fun i => !a4N r i) = true) (fun zz => r.length - zz) (0) ?_ (a0e ⟨rfl, rfl, rfl, rfl, trivial⟩ ⟨rfl, trivial⟩ trivial rfl) (fun zz hx => ?_)
 ·exact ⟨Nat.zero_le _, rfl⟩
 obtain ⟨k, rfl⟩ : ∃ v, v = zz := ⟨_, rfl⟩
 replace hx : k ≤ r.length ∧ (List.range k).all (fun i => !a4N r i) = true := hx
 obtain ⟨hk, hall⟩ := hx
 show Ok _ _ _ _ _ (⟨[(1, .box 1 0), (6, .one (.dv [] (a0I (r)))), (7, .one (.dv [] (.int .i64 ((((r)).length : Int))))), (8, .one (.dv [] (.int .i64 ((k : Int)))))], [(1, 63, [(.dv [] (a0I (r)))])], []⟩ : St)
 iterate 3 refine z ?_
 refine a0u ?_
 refine yQ rfl (fun c1 => ?_) fun c1 => ?_
 ·have d1 := c9f c1
  iterate 12 refine z ?_
  refine a0u ?_
  refine a1K (oB := [1, 4]) (oK := []) (by kernel_rfl) rfl rfl ?_
  refine zD 0 ?_
  refine zD 1 ?_
  refine a5C 2 rfl (by kernel_rfl) rfl rfl rfl Tryz.call72 a8k (a0g (a0a rfl) (a0C a0c) a0q) rfl rfl rfl rfl ?_
  refine zD 3 ?_
  refine zD 4 ?_
  refine zDG 5 ?_
  refine zDG 6 ?_
  refine a3J 7 rfl (by kernel_rfl) (a1t rfl rfl rfl rfl rfl) rfl rfl Tryz.call73 a6I (fun hg => (a0g (a0y rfl hg) (a0C a0c) (a0g (a0i (a0j rfl)) (a0C a0c) (a0g (a0i (a0j rfl)) (a0C a0c) a0q)))) rfl rfl ?_
  refine zDG 8 ?_
  refine zD 9 ?_
  refine zD 10 ?_
  refine zDG 11 ?_
  refine zDG 12 ?_
  refine zDG 13 ?_
  refine zDG 14 ?_
  refine zDG 15 ?_
  refine zDG 16 ?_
  refine zDG 17 ?_
  refine zDG 18 ?_
  refine zDG 19 ?_
  refine zDG 20 ?_
  refine zDG 21 ?_
  refine zDG 22 ?_
  refine zDG 23 ?_
  refine zDG 24 ?_
  refine zD 25 ?_
  refine a1Q (by kernel_rfl) ?_
  refine z ?_
  refine yQ rfl (fun c2 => ?_) fun c2 => ?_
  ·iterate 10 refine z ?_
   rw [a1b, a7S (k := k) (by omega) (by have h : a4N r k = true := c2; simpa using h)]; rfl
  ·iterate 3 refine z ?_
   refine a0n ?_
   iterate 3 refine z ?_
   refine ⟨k + 1, ?_, ?_, a0e ⟨rfl, rfl, rfl, rfl, trivial⟩ ⟨rfl, trivial⟩ trivial rfl⟩
   ·exact ⟨by omega, a4z hall (by have h : a4N r k = false := c2; simpa using h)⟩
   ·omega
 ·have d1 := c9g c1
  iterate 14 refine z ?_
  obtain rfl : k = r.length := by omega
  rw [a1b, hall]; rfl
theorem a7q {r : a0v}  : PFn Tryz.prog 86 [.agg [(.dv [] (a0I (r)))]] (.one (.dv [] (.bool (a1b r)))) := by
 refine ⟨a0O Tryz.func86 rfl Tryz.ntmps86 Tryz.results86 rfl (fun C => ?_)⟩
 refine yF 0 0 rfl rfl fun f0_0 => ?_
 iterate 9 refine z ?_
 refine a1o (ι := Nat) (fun zz => ⟨[(1, .box 1 0), (3, .one (.dv [] (.int .i64 ((zz : Int)))))], [(1, 63, [(.dv [] (a0I (r)))])], []⟩) (fun zz => zz ≤ r.length ∧ (List.range zz).all (fun i => !a4N r i) = true) (fun zz => r.length - zz) (0) ?_ (a0e ⟨rfl, rfl, trivial⟩ ⟨rfl, trivial⟩ trivial rfl) (fun zz hx => ?_)
 ·exact ⟨Nat.zero_le _, rfl⟩
 obtain ⟨k, rfl⟩ : ∃ v, v = zz := ⟨_, rfl⟩
 replace hx : k ≤ r.length ∧ (List.range k).all (fun i => !a4N r i) = true := hx
 obtain ⟨hk, hall⟩ := hx
 show Ok _ _ _ _ _ (⟨[(1, .box 1 0), (3, .one (.dv [] (.int .i64 ((k : Int)))))], [(1, 63, [(.dv [] (a0I (r)))])], []⟩ : St)
 iterate 8 refine z ?_
 refine yQ rfl (fun c1 => ?_) fun c1 => ?_
 ·have d1 := c9f c1
  iterate 4 refine z ?_
  refine a0u ?_
  refine a1K (oB := [1]) (oK := []) (by kernel_rfl) rfl rfl ?_
  refine zD 0 ?_
  refine zD 1 ?_
  refine zD 2 ?_
  refine zD 3 ?_
  refine zD 4 ?_
  refine zD 5 ?_
  refine a5C 6 rfl (by kernel_rfl) rfl rfl rfl Tryz.call52 a8H (a0g (a0a rfl) (a0C a0c) a0q) rfl rfl rfl rfl ?_
  refine zD 7 ?_
  refine zD 8 ?_
  refine zDG 9 ?_
  refine zDG 10 ?_
  refine zDG 11 ?_
  refine zDG 12 ?_
  refine zDG 13 ?_
  refine zDG 14 ?_
  refine a3J 15 rfl (by kernel_rfl) (a1t rfl rfl rfl rfl rfl) rfl rfl Tryz.call54 a7b (fun hg => (a0g (a0y rfl hg) (a0C a0c) (a0g (a0i (a0j rfl)) (a0C a0c) (a0g (a0i (a0j rfl)) (a0C a0c) a0q)))) rfl rfl ?_
  refine zDG 16 ?_
  refine zD 17 ?_
  refine zD 18 ?_
  refine zDG 19 ?_
  refine zDG 20 ?_
  refine zDG 21 ?_
  refine zDG 22 ?_
  refine zDG 23 ?_
  refine zDG 24 ?_
  refine zDG 25 ?_
  refine zDG 26 ?_
  refine zDG 27 ?_
  refine zDG 28 ?_
  refine zDG 29 ?_
  refine zDG 30 ?_
  refine zDG 31 ?_
  refine zDG 32 ?_
  refine zDG 33 ?_
  refine zDG 34 ?_
  refine zDG 35 ?_
  refine zDG 36 ?_
  refine zD 37 ?_
  refine a1Q (by kernel_rfl) ?_
  refine z ?_
  refine yQ rfl (fun c2 => ?_) fun c2 => ?_
  ·iterate 10 refine z ?_
   rw [a1b, a7S (k := k) (by omega) (by have h : b2a r k = true := c2; rw [b6N] at h; simpa using h)]; rfl
  ·iterate 3 refine z ?_
   refine a0n ?_
   iterate 4 refine z ?_
   refine ⟨k + 1, ?_, ?_, a0e ⟨rfl, rfl, trivial⟩ ⟨rfl, trivial⟩ trivial rfl⟩
   ·exact ⟨by omega, a4z hall (by have h : b2a r k = false := c2; rw [b6N] at h; simpa using h)⟩
   ·omega
 ·have d1 := c9g c1
  iterate 14 refine z ?_
  obtain rfl : k = r.length := by omega
  rw [a1b, hall]; rfl
def a0V {α : Type} (w : α → Nat) (xs : List α) : Nat := (xs.map w).sum
def a2d {α : Type} (w : α → Nat) (xs : List α) : Nat := xs.length + a0V w xs
theorem c0L {α : Type} (w : α → Nat) (xs ys : List α) : a0V w (xs ++ ys) = a0V w xs + a0V w ys := by simp [a0V]
theorem c7n {α : Type} (w : α → Nat) (xs : List α) (k : Nat) : a0V w (xs.take k) ≤ a0V w xs := by
 have h := c0L w (xs.take k) (xs.drop k)
 rw [List.take_append_drop] at h
 omega
theorem a5D {α : Type} [Inhabited α] (w : α → Nat) (xs : List α) (k : Nat) (h : k < xs.length) : a0V w (xs.take (k + 1)) = a0V w (xs.take k) + w (xs.getD (k : Int).toNat default) ∧ a0V w (xs.take (k + 1)) ≤ a0V w xs := by
 refine ⟨?_, c7n w xs _⟩
 have : xs.take (k + 1) = xs.take k ++ [xs.getD k default] := by
  rw [List.take_add_one, List.getElem?_eq_getElem h]; simp [List.getD, List.getElem?_eq_getElem h]
 rw [this, c0L]
 simp [a0V]
theorem b7z {α : Type} (w : α → Nat) (xs : List α) (k : Nat) (h : xs.length ≤ k) : a0V w (xs.take k) = a0V w xs := by rw [List.take_of_length_le h]
def c8m (x : a0K) : Nat := (x.2.2).size
def a6a (x : a4A) : Nat := (x.1).size
def a7z (x : a0v) : Nat := a2d a6a (x)
def a1P (x : a0T) : Nat := c8m (x.1) + a7z (x.2)
def a1g (x : a0G) : Nat := (x.1).size + a2d a1P (x.2.1)
def a3a (x : a3Q) : Nat := (x.1).size + (x.2).size
def a1h (x : DbT) : Nat := (x.1).size + a2d a1g (x.2.2.1) + a2d a3a (x.2.2.2)
def a2Y (x : a2W) : Nat := a1h (x.1) + (x.2.1).length
def a1s (o : OpT) : Bool := (decide (1 ≤ o.1) && decide (o.1 ≤ 6)) && a2e o.2.1 && (decide (o.1 = 5) || a1a o.2.2.1) && a1b o.2.2.2.1 && ((decide (o.1 = 6) && a2e o.2.2.2.2) || (!decide (o.1 = 6) && sEq o.2.2.2.2 (ByteArray.mk #[])))
theorem c8c {α : Type} {p : α → Bool} {l : List α} {k : Nat} {d : α} (h : (l.take k).any p = false) (hk : k < l.length) (hp : p (l.getD k d) = false) : (l.take (k + 1)).any p = false := by
 rw [List.take_succ_eq_append_getElem hk, List.any_append, h]
 simp only [List.any_cons, List.any_nil, Bool.or_false, Bool.false_or]
 simpa [List.getD, List.getElem?_eq_getElem hk] using hp
theorem c7F {α : Type} {p : α → Bool} {l : List α} {k : Nat} {d : α} (hk : k < l.length) (hp : p (l.getD k d) = true) : l.any p = true := by
 rw [List.any_eq_true]
 exact ⟨l[k], List.getElem_mem hk, by simpa [List.getD, List.getElem?_eq_getElem hk] using hp⟩
theorem b3N {x : OpT}  : PFn Tryz.prog 78 [.agg [(.dv [] (.int .i64 (x.1))), (.dv [] (.str (x.2.1))), (.dv [] (.int .i64 (x.2.2.1.1))), (.dv [] (.int .i64 (x.2.2.1.2.1))), (.dv [] (.str (x.2.2.1.2.2))), (.dv [] (a0I (x.2.2.2.1))), (.dv [] (.str (x.2.2.2.2)))]] (.one (.dv [] (.bool (a1s x)))) := by
 refine ⟨a0O Tryz.func78 rfl Tryz.ntmps78 Tryz.results78 rfl (fun C => ?_)⟩
 refine yF 0 0 rfl rfl fun f0_0 => ?_
 refine yF 0 1 rfl rfl fun f0_1 => ?_
 refine yF 0 2 rfl rfl fun f0_2 => ?_
 refine yF 0 3 rfl rfl fun f0_3 => ?_
 refine yF 0 4 rfl rfl fun f0_4 => ?_
 refine yF 0 5 rfl rfl fun f0_5 => ?_
 refine yF 0 6 rfl rfl fun f0_6 => ?_
 iterate 8 refine z ?_
 refine zC Tryz.call73 ?_ (hf := a6I)
 iterate 4 refine z ?_
 refine a1O (a1t rfl rfl rfl rfl rfl) rfl rfl Tryz.call72 a8k (fun hg => (a0g (a0y rfl hg) (a0C a0c) a0q)) rfl rfl ?_
 iterate 9 refine z ?_
 refine a1O (a3Y rfl rfl rfl rfl rfl) rfl rfl Tryz.call80 a5N (fun hg => (a0g (a0y rfl hg) (a0t (a0d a0c (a0d a0c (a0d a0c a0r)))) a0q)) rfl rfl ?_
 iterate 6 refine z ?_
 refine a1O (a1t rfl rfl rfl rfl rfl) rfl rfl Tryz.call81 a7m (fun hg => (a0g (a0y rfl hg) (a0t (a0d a0c a0r)) a0q)) rfl rfl ?_
 iterate 3 refine z ?_
 refine yQ rfl (fun c1 => ?_) fun c1 => ?_
 ·iterate 6 refine z ?_
  grind [a1s]
 ·iterate 8 refine z ?_
  refine yQ rfl (fun c2 => ?_) fun c2 => ?_
  ·have d2 := c9f c2
   iterate 3 refine z ?_
   refine zC Tryz.call72 ?_ (hf := a8k)
   iterate 5 refine z ?_
   grind [a1s]
  ·have d2 := c9g c2
   iterate 10 refine z ?_
   grind [a1s]
theorem c0Y {x : OpT}  : PFn Tryz.prog 55 [.agg [(.dv [] (.int .i64 (x.1))), (.dv [] (.str (x.2.1))), (.dv [] (.int .i64 (x.2.2.1.1))), (.dv [] (.int .i64 (x.2.2.1.2.1))), (.dv [] (.str (x.2.2.1.2.2))), (.dv [] (a0I (x.2.2.2.1))), (.dv [] (.str (x.2.2.2.2)))]] (.one (.dv [] (.bool (a1s x)))) := by
 refine ⟨a0O Tryz.func55 rfl Tryz.ntmps55 Tryz.results55 rfl (fun C => ?_)⟩
 refine yF 0 0 rfl rfl fun f0_0 => ?_
 refine yF 0 1 rfl rfl fun f0_1 => ?_
 refine yF 0 2 rfl rfl fun f0_2 => ?_
 refine yF 0 3 rfl rfl fun f0_3 => ?_
 refine yF 0 4 rfl rfl fun f0_4 => ?_
 refine yF 0 5 rfl rfl fun f0_5 => ?_
 refine yF 0 6 rfl rfl fun f0_6 => ?_
 iterate 7 refine z ?_
 refine zC Tryz.call54 ?_ (hf := a7b)
 iterate 3 refine z ?_
 refine a1O (a1t rfl rfl rfl rfl rfl) rfl rfl Tryz.call52 a8H (fun hg => (a0g (a0y rfl hg) (a0C a0c) a0q)) rfl rfl ?_
 iterate 8 refine z ?_
 refine a1O (a3Y rfl rfl rfl rfl rfl) rfl rfl Tryz.call85 a6z (fun hg => (a0g (a0y rfl hg) (a0t (a0d a0c (a0d a0c (a0d a0c a0r)))) a0q)) rfl rfl ?_
 iterate 5 refine z ?_
 refine a1O (a1t rfl rfl rfl rfl rfl) rfl rfl Tryz.call86 a7q (fun hg => (a0g (a0y rfl hg) (a0t (a0d a0c a0r)) a0q)) rfl rfl ?_
 iterate 8 refine z ?_
 refine a1O (a3Y rfl rfl rfl rfl rfl) rfl rfl Tryz.call52 a8H (fun hg => (a0g (a0y rfl hg) (a0C a0c) a0q)) rfl rfl ?_
 iterate 16 refine z ?_
 grind [a1s]
def eqL {α : Type} [Inhabited α] (p : α → α → Bool) (xs ys : List α) : Bool := decide ((xs.length : Int) = (ys.length : Int)) && (List.range xs.length).all (fun i => p (xs.getD (i : Int).toNat default) (ys.getD (i : Int).toNat default))
theorem b6E {α : Type} [Inhabited α] {p : α → α → Bool} {xs ys : List α} (h : ¬ (xs.length : Int) = (ys.length : Int)) : eqL p xs ys = false := by simp only [eqL, decide_eq_false h, Bool.false_and]
theorem a9g {α : Type} [Inhabited α] {p : α → α → Bool} {xs ys : List α} {k : Nat} (hk : k < xs.length) (h : p (xs.getD (k : Int).toNat default) (ys.getD (k : Int).toNat default) = false) : eqL p xs ys = false := by
 unfold eqL
 rw [a7S (p := fun i => p (xs.getD (i : Int).toNat default) (ys.getD (i : Int).toNat default)) hk h, Bool.and_false]
theorem a8I {α : Type} [Inhabited α] {p : α → α → Bool} {xs ys : List α} {k : Nat} (hl : (xs.length : Int) = (ys.length : Int)) (h : (List.range k).all (fun i => p (xs.getD (i : Int).toNat default) (ys.getD (i : Int).toNat default)) = true) (hk : k = xs.length) : eqL p xs ys = true := by
 subst hk
 unfold eqL
 rw [h, decide_eq_true hl]; rfl
def a7H (f g : a4A) : Bool := sEq f.1 g.1 && decide (f.2 = g.2)
def b0z (r s : a0v) : Bool := eqL a7H r s
def b0f (k l : a0K) : Bool := decide (k.1 = l.1) && (decide (k.2.1 = l.2.1) && sEq k.2.2 l.2.2)
def a6L (x y : a0T) : Bool := b0f x.1 y.1 && b0z x.2 y.2
def a5a (s t : a0G) : Bool := (sEq s.1 t.1 && decide (s.2.2 = t.2.2)) && eqL a6L s.2.1 t.2.1
def a1W (d e : a3Q) : Bool := sEq d.1 e.1 && sEq d.2 e.2
def a5B (d e : DbT) : Bool := ((sEq d.1 e.1 && decide (d.2.1 = e.2.1)) && eqL a5a d.2.2.1 e.2.2.1) && eqL a1W d.2.2.2 e.2.2.2
def a4b (b c : UInt8) : Bool := decide ((b.toNat : Int) = (c.toNat : Int))
theorem c1T {x y : List (a4A)}  : PFn Tryz.prog 63 [.agg [(.dv [] (a0I (x)))], .agg [(.dv [] (a0I (y)))]] (.one (.dv [] (.bool (eqL a7H x y)))) := by
 refine ⟨a0O Tryz.func63 rfl Tryz.ntmps63 Tryz.results63 rfl (fun C => ?_)⟩
 refine yF 0 0 rfl rfl fun f0_0 => ?_
 refine yF 1 0 rfl rfl fun f1_0 => ?_
 iterate 15 refine z ?_
 refine yQ rfl (fun c1 => ?_) fun c1 => ?_
 ·have d1 := a5V c1
  iterate 6 refine z ?_
  exact (b6E d1).symm
 ·have d1 := a5T c1
  iterate 7 refine z ?_
  refine a1o (ι := Nat) (fun zz => ⟨[(2, .box 2 0), (3, .box 3 0), (5, .one (.dv [] (.int .i64 ((zz : Int)))))], [(2, 63, [(.dv [] (a0I (x)))]), (3, 63, [(.dv [] (a0I (y)))])], []⟩) (fun zz => zz ≤ x.length ∧ (List.range zz).all (fun i => a7H (x.getD (i : Int).toNat default) (y.getD (i : Int).toNat default)) = true) (fun zz => x.length - zz) (0) ?_ (a0e ⟨rfl, rfl, rfl, trivial⟩ ⟨rfl, rfl, trivial⟩ trivial rfl) (fun zz hx => ?_)
  ·exact ⟨Nat.zero_le _, rfl⟩
  obtain ⟨k, rfl⟩ : ∃ v, v = zz := ⟨_, rfl⟩
  replace hx : k ≤ x.length ∧ (List.range k).all (fun i => a7H (x.getD (i : Int).toNat default) (y.getD (i : Int).toNat default)) = true := hx
  obtain ⟨hk, hall⟩ := hx
  show Ok _ _ _ _ _ (⟨[(2, .box 2 0), (3, .box 3 0), (5, .one (.dv [] (.int .i64 ((k : Int)))))], [(2, 63, [(.dv [] (a0I (x)))]), (3, 63, [(.dv [] (a0I (y)))])], []⟩ : St)
  iterate 8 refine z ?_
  refine yQ rfl (fun c2 => ?_) fun c2 => ?_
  ·have d2 := c9f c2
   iterate 4 refine z ?_
   refine a0u ?_
   refine a1K (oB := [2, 3]) (oK := []) (by kernel_rfl) rfl rfl ?_
   refine zD 0 ?_
   refine zD 1 ?_
   refine zD 2 ?_
   refine zD 3 ?_
   refine zD 4 ?_
   refine zD 5 ?_
   refine zD 6 ?_
   refine zD 7 ?_
   refine zD 8 ?_
   refine zD 9 ?_
   refine a1q 10 rfl (by kernel_rfl) rfl rfl (a7L rfl (a0a rfl) (a0a rfl) rfl rfl Tryz.eqGuardType135 (c4d _ _ _ _)) rfl rfl rfl rfl ?_
   refine a1Q (by kernel_rfl) ?_
   refine z ?_
   refine yQ rfl (fun c3 => ?_) fun c3 => ?_
   ·iterate 10 refine z ?_
    exact (a9g (k := k) (by omega) (by have h := c3; grind [a7H])).symm
   ·iterate 3 refine z ?_
    refine a0n ?_
    iterate 4 refine z ?_
    refine ⟨k + 1, ?_, ?_, a0e ⟨rfl, rfl, rfl, trivial⟩ ⟨rfl, rfl, trivial⟩ trivial rfl⟩
    ·exact ⟨by omega, a4z hall (by have h := c3; grind [a7H])⟩
    ·omega
  ·have d2 := c9g c2
   iterate 10 refine z ?_
   exact (a8I d1 hall (by omega)).symm
def a0s {α : Type} (p : α → Bool) : List α → Int → Int
 | [], _ => -1
 | x :: xs, i => if p x then i else a0s p xs (i + 1)
theorem b2t {α : Type} {p : α → Bool} : ∀ {xs : List α} {k : Nat} {i : Int}, (xs.take k).any p = false → k ≤ xs.length → a0s p xs i = a0s p (xs.drop k) (i + k)
 | xs, 0, i, _, _ => by simp
 | [], k + 1, i, _, hk => by simp at hk
 | x :: xs, k + 1, i, h, hk => by
  simp only [List.take_succ_cons, List.any_cons, Bool.or_eq_false_iff] at h
  rw [a0s, h.1, List.drop_succ_cons]
  simp only [Bool.false_eq_true, if_false]
  rw [b2t h.2 (by simpa using hk)]
  congr 1; omega
theorem a6b {α : Type} {p : α → Bool} {xs : List α} {k : Nat} {d : α} (h : (xs.take k).any p = false) (hk : k < xs.length) (hp : p (xs.getD k d) = true) : a0s p xs 0 = (k : Int) := by
 rw [b2t h (by omega), List.drop_eq_getElem_cons hk, a0s]
 have : p xs[k] = true := by simpa [List.getD, List.getElem?_eq_getElem hk] using hp
 rw [if_pos this]; omega
theorem a5O {α : Type} {p : α → Bool} {xs : List α} {k : Nat} (h : (xs.take k).any p = false) (hk : k = xs.length) : a0s p xs 0 = -1 := by
 rw [b2t h (by omega), hk, List.drop_length]; rfl
theorem a5M {α : Type} {p : α → Bool} {l : List α} {k : Nat} {d : α} (h : (l.take k).any p = false) (hk : k < l.length) (hp : p (l.getD k d) = false) : (l.take (k + 1)).any p = false := by
 rw [List.take_succ_eq_append_getElem hk, List.any_append, h]
 simp only [List.any_cons, List.any_nil, Bool.or_false, Bool.false_or]
 simpa [List.getD, List.getElem?_eq_getElem hk] using hp
def a0D (n : Str) (s : a0G) : Bool := sEq s.1 n
theorem c5V {x : a0G} {n : Str}  : PFn Tryz.prog 102 [.agg [(.dv [] (.str (x.1))), (.dv [] (a0w (x.2.1))), (.dv [] (.int .i64 (x.2.2)))], .ref [] [.str (n)]] (.one (.dv [] (.bool (a0D n x)))) := by
 refine ⟨a0O Tryz.func102 rfl Tryz.ntmps102 Tryz.results102 rfl (fun C => ?_)⟩
 refine yF 0 0 rfl rfl fun f0_0 => ?_
 refine yF 0 1 rfl rfl fun f0_1 => ?_
 refine yF 0 2 rfl rfl fun f0_2 => ?_
 iterate 13 refine z ?_
 rfl
theorem c8h {x : List a0G} {n : Str}  : PFn Tryz.prog 101 [.one (.dv [] (a0x (x))), .fn 102 [[.str (n)]]] (.one (.dv [] (.int .i64 (a0s (a0D n) x 0)))) := by
 refine ⟨a0O Tryz.func101 rfl Tryz.ntmps101 Tryz.results101 rfl (fun C => ?_)⟩
 refine a1k (x := .tmp 0) (a0a rfl) fun f0 => ?_
 iterate 10 refine z ?_
 refine a1o (ι := Nat) (fun zz => ⟨[(0, .one (.dv [] (a0x (x)))), (1, .fn 102 [[.str (n)]]), (7, .one (.dv [] (.int .i64 ((((x)).length : Int))))), (8, .one (.dv [] (.int .i64 ((zz : Int)))))], [], []⟩) (fun zz => zz ≤ x.length ∧ (x.take zz).any (a0D n) = false) (fun zz => x.length - zz) (0) ?_ (a0e ⟨rfl, rfl, rfl, rfl, trivial⟩ trivial trivial rfl) (fun zz hx => ?_)
 ·exact ⟨Nat.zero_le _, rfl⟩
 obtain ⟨k, rfl⟩ : ∃ v, v = zz := ⟨_, rfl⟩
 replace hx : k ≤ x.length ∧ (x.take k).any (a0D n) = false := hx
 obtain ⟨hk, hall⟩ := hx
 show Ok _ _ _ _ _ (⟨[(0, .one (.dv [] (a0x (x)))), (1, .fn 102 [[.str (n)]]), (7, .one (.dv [] (.int .i64 ((((x)).length : Int))))), (8, .one (.dv [] (.int .i64 ((k : Int)))))], [], []⟩ : St)
 iterate 3 refine z ?_
 refine a0u ?_
 refine yQ rfl (fun c1 => ?_) fun c1 => ?_
 ·have d1 := c9f c1
  iterate 14 refine z ?_
  refine b0j rfl rfl rfl (a0a rfl) Tryz.call102 c5V (a0g (a0a rfl) (a0t (a0d a0c (a0d a0c (a0d a0c a0r)))) a0q) rfl rfl ?_
  refine z ?_
  refine yQ rfl (fun c2 => ?_) fun c2 => ?_
  ·iterate 11 refine z ?_
   exact (a6b (p := a0D n) (d := default) hall (by omega) c2).symm
  ·iterate 3 refine z ?_
   refine a0n ?_
   iterate 3 refine z ?_
   refine ⟨k + 1, ?_, ?_, a0e ⟨rfl, rfl, rfl, rfl, trivial⟩ trivial trivial rfl⟩
   ·exact ⟨by omega, a5M (d := default) hall (by omega) c2⟩
   ·omega
 ·have d1 := c9g c1
  iterate 10 refine z ?_
  exact (a5O (p := a0D n) hall (by omega)).symm
theorem b2K {x : DbT} {n : Str}  : PFn Tryz.prog 75 [.agg [(.dv [] (.str (x.1))), (.dv [] (.int .i64 (x.2.1))), (.dv [] (a0x (x.2.2.1))), (.dv [] (a0z (x.2.2.2)))], .one (.dv [] (.str (n)))] (.one (.dv [] (.int .i64 (a0s (a0D n) x.2.2.1 0)))) := by
 refine ⟨a0O Tryz.func75 rfl Tryz.ntmps75 Tryz.results75 rfl (fun C => ?_)⟩
 refine yF 0 0 rfl rfl fun f0_0 => ?_
 refine yF 0 1 rfl rfl fun f0_1 => ?_
 refine yF 0 2 rfl rfl fun f0_2 => ?_
 refine yF 0 3 rfl rfl fun f0_3 => ?_
 refine a1k (x := .tmp 1) (a0a rfl) fun f1 => ?_
 iterate 8 refine z ?_
 refine yO rfl rfl (b1S rfl (a0a rfl)) rfl ?_
 refine a3T rfl rfl rfl Tryz.call101 c8h (a0g (a0a rfl) (a0C a0c) (a0g (a0a rfl) (b4r (b0Z rfl rfl b1G)) a0q)) rfl rfl ?_
 iterate 4 refine z ?_
 rfl
theorem b2P {x : DbT} {n : Str}  : PFn Tryz.prog 51 [.agg [(.dv [] (.str (x.1))), (.dv [] (.int .i64 (x.2.1))), (.dv [] (a0x (x.2.2.1))), (.dv [] (a0z (x.2.2.2)))], .one (.dv [] (.str (n)))] (.one (.dv [] (.int .i64 (a0s (a0D n) x.2.2.1 0)))) := by
 refine ⟨a0O Tryz.func51 rfl Tryz.ntmps51 Tryz.results51 rfl (fun C => ?_)⟩
 refine yF 0 0 rfl rfl fun f0_0 => ?_
 refine yF 0 1 rfl rfl fun f0_1 => ?_
 refine yF 0 2 rfl rfl fun f0_2 => ?_
 refine yF 0 3 rfl rfl fun f0_3 => ?_
 refine a1k (x := .tmp 1) (a0a rfl) fun f1 => ?_
 iterate 9 refine z ?_
 refine a1o (ι := Nat) (fun zz => ⟨[(1, .one (.dv [] (.str (n)))), (2, .box 2 0), (5, .one (.dv [] (.int .i64 ((zz : Int)))))], [(2, 27, [(.dv [] (.str (x.1))), (.dv [] (.int .i64 (x.2.1))), (.dv [] (a0x (x.2.2.1))), (.dv [] (a0z (x.2.2.2)))])], []⟩) (fun zz => zz ≤ x.2.2.1.length ∧ (x.2.2.1.take zz).any (a0D n) = false) (fun zz => x.2.2.1.length - zz) (0) ?_ (a0e ⟨rfl, rfl, rfl, trivial⟩ ⟨rfl, trivial⟩ trivial rfl) (fun zz hx => ?_)
 ·exact ⟨Nat.zero_le _, rfl⟩
 obtain ⟨k, rfl⟩ : ∃ v, v = zz := ⟨_, rfl⟩
 replace hx : k ≤ x.2.2.1.length ∧ (x.2.2.1.take k).any (a0D n) = false := hx
 obtain ⟨hk, hall⟩ := hx
 show Ok _ _ _ _ _ (⟨[(1, .one (.dv [] (.str (n)))), (2, .box 2 0), (5, .one (.dv [] (.int .i64 ((k : Int)))))], [(2, 27, [(.dv [] (.str (x.1))), (.dv [] (.int .i64 (x.2.1))), (.dv [] (a0x (x.2.2.1))), (.dv [] (a0z (x.2.2.2)))])], []⟩ : St)
 iterate 8 refine z ?_
 refine yQ rfl (fun c1 => ?_) fun c1 => ?_
 ·have d1 := c9f c1
  iterate 14 refine z ?_
  refine yQ rfl (fun c2 => ?_) fun c2 => ?_
  ·iterate 11 refine z ?_
   exact (a6b (p := a0D n) (d := default) hall (by omega) c2).symm
  ·iterate 3 refine z ?_
   refine a0n ?_
   iterate 4 refine z ?_
   refine ⟨k + 1, ?_, ?_, a0e ⟨rfl, rfl, rfl, trivial⟩ ⟨rfl, trivial⟩ trivial rfl⟩
   ·exact ⟨by omega, a5M (d := default) hall (by omega) c2⟩
   ·omega
 ·have d1 := c9g c1
  iterate 10 refine z ?_
  exact (a5O (p := a0D n) hall (by omega)).symm
theorem c7w {x y : a0G}  : PFn Tryz.prog 32 [.agg [(.dv [] (.str (x.1))), (.dv [] (a0w (x.2.1))), (.dv [] (.int .i64 (x.2.2)))], .agg [(.dv [] (.str (y.1))), (.dv [] (a0w (y.2.1))), (.dv [] (.int .i64 (y.2.2)))]] (.one (.dv [] (.bool (a5a x y)))) := by
 refine ⟨a0O Tryz.func32 rfl Tryz.ntmps32 Tryz.results32 rfl (fun C => ?_)⟩
 refine yF 0 0 rfl rfl fun f0_0 => ?_
 refine yF 0 1 rfl rfl fun f0_1 => ?_
 refine yF 0 2 rfl rfl fun f0_2 => ?_
 refine yF 1 0 rfl rfl fun f1_0 => ?_
 refine yF 1 1 rfl rfl fun f1_1 => ?_
 refine yF 1 2 rfl rfl fun f1_2 => ?_
 iterate 29 refine z ?_
 refine yQ rfl (fun c1 => ?_) fun c1 => ?_
 ·iterate 6 refine z ?_
  have h := c1; grind [a5a, eqL]
 ·have e1 : (x.2.1.length : Int) = (y.2.1.length : Int) := by grind
  iterate 7 refine z ?_
  refine a1o (ι := Nat) (fun zz => ⟨[(2, .box 2 0), (3, .box 3 0), (5, .one (.dv [] (.int .i64 ((zz : Int)))))], [(2, 77, [(.dv [] (.str (x.1))), (.dv [] (a0w (x.2.1))), (.dv [] (.int .i64 (x.2.2)))]), (3, 77, [(.dv [] (.str (y.1))), (.dv [] (a0w (y.2.1))), (.dv [] (.int .i64 (y.2.2)))])], []⟩) (fun zz => zz ≤ x.2.1.length ∧ (List.range zz).all (fun i => a6L (x.2.1.getD (i : Int).toNat default) (y.2.1.getD (i : Int).toNat default)) = true) (fun zz => x.2.1.length - zz) (0) ?_ (a0e ⟨rfl, rfl, rfl, trivial⟩ ⟨rfl, rfl, trivial⟩ trivial rfl) (fun zz hx => ?_)
  ·exact ⟨Nat.zero_le _, rfl⟩
  obtain ⟨k, rfl⟩ : ∃ v, v = zz := ⟨_, rfl⟩
  replace hx : k ≤ x.2.1.length ∧ (List.range k).all (fun i => a6L (x.2.1.getD (i : Int).toNat default) (y.2.1.getD (i : Int).toNat default)) = true := hx
  obtain ⟨hk, hall⟩ := hx
  show Ok _ _ _ _ _ (⟨[(2, .box 2 0), (3, .box 3 0), (5, .one (.dv [] (.int .i64 ((k : Int)))))], [(2, 77, [(.dv [] (.str (x.1))), (.dv [] (a0w (x.2.1))), (.dv [] (.int .i64 (x.2.2)))]), (3, 77, [(.dv [] (.str (y.1))), (.dv [] (a0w (y.2.1))), (.dv [] (.int .i64 (y.2.2)))])], []⟩ : St)
  iterate 8 refine z ?_
  refine yQ rfl (fun c2 => ?_) fun c2 => ?_
  ·have d2 := c9f c2
   iterate 4 refine z ?_
   refine a0u ?_
   refine a1K (oB := [2, 3]) (oK := []) (by kernel_rfl) rfl rfl ?_
   refine zD 0 ?_
   refine zD 1 ?_
   refine zD 2 ?_
   refine zD 3 ?_
   refine zD 4 ?_
   refine zD 5 ?_
   refine zD 6 ?_
   refine zD 7 ?_
   refine zD 8 ?_
   refine zD 9 ?_
   refine zD 10 ?_
   refine zD 11 ?_
   refine a1q 12 rfl (by kernel_rfl) rfl rfl (a7L rfl (a0a rfl) (a0a rfl) rfl rfl Tryz.eqGuardType60 (c2r _ _ _ _ _ _)) rfl rfl rfl rfl ?_
   refine zD 13 ?_
   refine zDG 14 ?_
   refine zDG 15 ?_
   refine zDG 16 ?_
   refine zDG 17 ?_
   refine zDG 18 ?_
   refine zDG 19 ?_
   refine zDG 20 ?_
   refine zDG 21 ?_
   refine zDG 22 ?_
   refine zDG 23 ?_
   refine zDG 24 ?_
   refine zDG 25 ?_
   refine a3J 26 rfl (by kernel_rfl) (a1t rfl rfl rfl rfl rfl) rfl rfl Tryz.call63 c1T (fun hg => (a0g (a0y rfl hg) (a0t (a0d a0c a0r)) (a0g (a0y rfl hg) (a0t (a0d a0c a0r)) a0q))) rfl rfl ?_
   refine zDG 27 ?_
   refine zD 28 ?_
   refine a1Q (by kernel_rfl) ?_
   refine z ?_
   refine yQ rfl (fun c3 => ?_) fun c3 => ?_
   ·iterate 10 refine z ?_
    rw [a5a, a9g (k := k) (by omega) (by have h := c3; clear hall; grind [a6L, b0f, b0z]), Bool.and_false]
   ·iterate 3 refine z ?_
    refine a0n ?_
    iterate 4 refine z ?_
    refine ⟨k + 1, ?_, ?_, a0e ⟨rfl, rfl, rfl, trivial⟩ ⟨rfl, rfl, trivial⟩ trivial rfl⟩
    ·exact ⟨by omega, a4z hall (by have h := c3; clear hall; grind [a6L, b0f, b0z])⟩
    ·omega
  ·have d2 := c9g c2
   iterate 10 refine z ?_
   have h2 := a8I (p := a6L) (k := k) e1 hall (by omega); have h := c1; clear hall; grind [a5a]
theorem b5f {x y : DbT}  : PFn Tryz.prog 12 [.agg [(.dv [] (.str (x.1))), (.dv [] (.int .i64 (x.2.1))), (.dv [] (a0x (x.2.2.1))), (.dv [] (a0z (x.2.2.2)))], .agg [(.dv [] (.str (y.1))), (.dv [] (.int .i64 (y.2.1))), (.dv [] (a0x (y.2.2.1))), (.dv [] (a0z (y.2.2.2)))]] (.one (.dv [] (.bool (a5B x y)))) := by
 refine ⟨a0O Tryz.func12 rfl Tryz.ntmps12 Tryz.results12 rfl (fun C => ?_)⟩
 refine yF 0 0 rfl rfl fun f0_0 => ?_
 refine yF 0 1 rfl rfl fun f0_1 => ?_
 refine yF 0 2 rfl rfl fun f0_2 => ?_
 refine yF 0 3 rfl rfl fun f0_3 => ?_
 refine yF 1 0 rfl rfl fun f1_0 => ?_
 refine yF 1 1 rfl rfl fun f1_1 => ?_
 refine yF 1 2 rfl rfl fun f1_2 => ?_
 refine yF 1 3 rfl rfl fun f1_3 => ?_
 iterate 38 refine z ?_
 refine yQ rfl (fun c1 => ?_) fun c1 => ?_
 ·iterate 6 refine z ?_
  have h := c1; grind [a5B, eqL]
 ·have e1 : (x.2.2.1.length : Int) = (y.2.2.1.length : Int) := by grind
  have e2 : (x.2.2.2.length : Int) = (y.2.2.2.length : Int) := by grind
  iterate 7 refine z ?_
  refine a1o (ι := Nat) (fun zz => ⟨[(2, .box 2 0), (3, .box 3 0), (5, .one (.dv [] (.int .i64 ((zz : Int)))))], [(2, 27, [(.dv [] (.str (x.1))), (.dv [] (.int .i64 (x.2.1))), (.dv [] (a0x (x.2.2.1))), (.dv [] (a0z (x.2.2.2)))]), (3, 27, [(.dv [] (.str (y.1))), (.dv [] (.int .i64 (y.2.1))), (.dv [] (a0x (y.2.2.1))), (.dv [] (a0z (y.2.2.2)))])], []⟩) (fun zz => zz ≤ x.2.2.1.length ∧ (List.range zz).all (fun i => a5a (x.2.2.1.getD (i : Int).toNat default) (y.2.2.1.getD (i : Int).toNat default)) = true) (fun zz => x.2.2.1.length - zz) (0) ?_ (a0e ⟨rfl, rfl, rfl, trivial⟩ ⟨rfl, rfl, trivial⟩ trivial rfl) (fun zz hx => ?_)
  ·exact ⟨Nat.zero_le _, rfl⟩
  obtain ⟨k, rfl⟩ : ∃ v, v = zz := ⟨_, rfl⟩
  replace hx : k ≤ x.2.2.1.length ∧ (List.range k).all (fun i => a5a (x.2.2.1.getD (i : Int).toNat default) (y.2.2.1.getD (i : Int).toNat default)) = true := hx
  obtain ⟨hk, hall⟩ := hx
  show Ok _ _ _ _ _ (⟨[(2, .box 2 0), (3, .box 3 0), (5, .one (.dv [] (.int .i64 ((k : Int)))))], [(2, 27, [(.dv [] (.str (x.1))), (.dv [] (.int .i64 (x.2.1))), (.dv [] (a0x (x.2.2.1))), (.dv [] (a0z (x.2.2.2)))]), (3, 27, [(.dv [] (.str (y.1))), (.dv [] (.int .i64 (y.2.1))), (.dv [] (a0x (y.2.2.1))), (.dv [] (a0z (y.2.2.2)))])], []⟩ : St)
  iterate 8 refine z ?_
  refine yQ rfl (fun c2 => ?_) fun c2 => ?_
  ·have d2 := c9f c2
   iterate 4 refine z ?_
   refine a0u ?_
   refine a1K (oB := [2, 3]) (oK := []) (by kernel_rfl) rfl rfl ?_
   refine zD 0 ?_
   refine zD 1 ?_
   refine zD 2 ?_
   refine zD 3 ?_
   refine zD 4 ?_
   refine zD 5 ?_
   refine zD 6 ?_
   refine zD 7 ?_
   refine zD 8 ?_
   refine zD 9 ?_
   refine a5C 10 rfl (by kernel_rfl) rfl rfl rfl Tryz.call32 c7w (a0g (a0a rfl) (a0t (a0d a0c (a0d a0c (a0d a0c a0r)))) (a0g (a0a rfl) (a0t (a0d a0c (a0d a0c (a0d a0c a0r)))) a0q)) rfl rfl rfl rfl ?_
   refine zD 11 ?_
   refine a1Q (by kernel_rfl) ?_
   refine z ?_
   refine yQ rfl (fun c3 => ?_) fun c3 => ?_
   ·iterate 10 refine z ?_
    rw [a5B, a9g (p := a5a) (k := k) (by omega) (by have h := c3; simpa using h), Bool.and_false, Bool.false_and]
   ·iterate 3 refine z ?_
    refine a0n ?_
    iterate 4 refine z ?_
    refine ⟨k + 1, ?_, ?_, a0e ⟨rfl, rfl, rfl, trivial⟩ ⟨rfl, rfl, trivial⟩ trivial rfl⟩
    ·exact ⟨by omega, a4z hall (by have h := c3; simpa using h)⟩
    ·omega
  ·have d2 := c9g c2
   iterate 10 refine z ?_
   refine a1o (ι := Nat) (fun zz => ⟨[(2, .box 2 0), (3, .box 3 0), (6, .one (.dv [] (.int .i64 ((zz : Int)))))], [(2, 27, [(.dv [] (.str (x.1))), (.dv [] (.int .i64 (x.2.1))), (.dv [] (a0x (x.2.2.1))), (.dv [] (a0z (x.2.2.2)))]), (3, 27, [(.dv [] (.str (y.1))), (.dv [] (.int .i64 (y.2.1))), (.dv [] (a0x (y.2.2.1))), (.dv [] (a0z (y.2.2.2)))])], []⟩) (fun zz => zz ≤ x.2.2.2.length ∧ (List.range zz).all (fun i => a1W (x.2.2.2.getD (i : Int).toNat default) (y.2.2.2.getD (i : Int).toNat default)) = true) (fun zz => x.2.2.2.length - zz) (0) ?_ (a0e ⟨rfl, rfl, rfl, trivial⟩ ⟨rfl, rfl, trivial⟩ trivial rfl) (fun zz hx => ?_)
   ·exact ⟨Nat.zero_le _, rfl⟩
   obtain ⟨k2, rfl⟩ : ∃ v, v = zz := ⟨_, rfl⟩
   replace hx : k2 ≤ x.2.2.2.length ∧ (List.range k2).all (fun i => a1W (x.2.2.2.getD (i : Int).toNat default) (y.2.2.2.getD (i : Int).toNat default)) = true := hx
   obtain ⟨hk2, hall2⟩ := hx
   show Ok _ _ _ _ _ (⟨[(2, .box 2 0), (3, .box 3 0), (6, .one (.dv [] (.int .i64 ((k2 : Int)))))], [(2, 27, [(.dv [] (.str (x.1))), (.dv [] (.int .i64 (x.2.1))), (.dv [] (a0x (x.2.2.1))), (.dv [] (a0z (x.2.2.2)))]), (3, 27, [(.dv [] (.str (y.1))), (.dv [] (.int .i64 (y.2.1))), (.dv [] (a0x (y.2.2.1))), (.dv [] (a0z (y.2.2.2)))])], []⟩ : St)
   iterate 8 refine z ?_
   refine yQ rfl (fun c4 => ?_) fun c4 => ?_
   ·have d4 := c9f c4
    iterate 4 refine z ?_
    refine a0u ?_
    refine a1K (oB := [2, 3]) (oK := []) (by kernel_rfl) rfl rfl ?_
    refine zD 0 ?_
    refine zD 1 ?_
    refine zD 2 ?_
    refine zD 3 ?_
    refine zD 4 ?_
    refine zD 5 ?_
    refine zD 6 ?_
    refine zD 7 ?_
    refine zD 8 ?_
    refine zD 9 ?_
    refine a1q 10 rfl (by kernel_rfl) rfl rfl (a7L rfl (a0a rfl) (a0a rfl) rfl rfl Tryz.eqGuardType79 (c4I _ _ _ _)) rfl rfl rfl rfl ?_
    refine a1Q (by kernel_rfl) ?_
    refine z ?_
    refine yQ rfl (fun c5 => ?_) fun c5 => ?_
    ·iterate 10 refine z ?_
     rw [a5B, a9g (p := a1W) (k := k2) (by omega) (by have h := c5; clear hall2 hall; grind [a1W]), Bool.and_false]
    ·iterate 3 refine z ?_
     refine a0n ?_
     iterate 4 refine z ?_
     refine ⟨k2 + 1, ?_, ?_, a0e ⟨rfl, rfl, rfl, trivial⟩ ⟨rfl, rfl, trivial⟩ trivial rfl⟩
     ·exact ⟨by omega, a4z hall2 (by have h := c5; clear hall2 hall; grind [a1W])⟩
     ·omega
   ·have d4 := c9g c4
    iterate 10 refine z ?_
    have h2 := a8I (p := a5a) (k := k) e1 hall (by omega); have h3 := a8I (p := a1W) (k := k2) e2 hall2 (by omega); have h := c1; clear hall hall2; grind [a5B]
theorem c3r {x y : List (UInt8)}  : PFn Tryz.prog 95 [.one (.dv [] (a0m (x))), .one (.dv [] (a0m (y)))] (.one (.dv [] (.bool (eqL a4b x y)))) := by
 refine ⟨a0O Tryz.func95 rfl Tryz.ntmps95 Tryz.results95 rfl (fun C => ?_)⟩
 refine a1k (x := .tmp 0) (a0a rfl) fun f0 => ?_
 refine a1k (x := .tmp 1) (a0a rfl) fun f1 => ?_
 iterate 11 refine z ?_
 refine yQ rfl (fun c1 => ?_) fun c1 => ?_
 ·have d1 := a5V c1
  iterate 6 refine z ?_
  exact (b6E d1).symm
 ·have d1 := a5T c1
  iterate 9 refine z ?_
  refine a1o (ι := Nat) (fun zz => ⟨[(0, .one (.dv [] (a0m (x)))), (1, .one (.dv [] (a0m (y)))), (12, .one (.dv [] (.int .i64 ((((x)).length : Int))))), (13, .one (.dv [] (.int .i64 ((zz : Int)))))], [], []⟩) (fun zz => zz ≤ x.length ∧ (List.range zz).all (fun i => a4b (x.getD (i : Int).toNat default) (y.getD (i : Int).toNat default)) = true) (fun zz => x.length - zz) (0) ?_ (a0e ⟨rfl, rfl, rfl, rfl, trivial⟩ trivial trivial rfl) (fun zz hx => ?_)
  ·exact ⟨Nat.zero_le _, rfl⟩
  obtain ⟨k, rfl⟩ : ∃ v, v = zz := ⟨_, rfl⟩
  replace hx : k ≤ x.length ∧ (List.range k).all (fun i => a4b (x.getD (i : Int).toNat default) (y.getD (i : Int).toNat default)) = true := hx
  obtain ⟨hk, hall⟩ := hx
  show Ok _ _ _ _ _ (⟨[(0, .one (.dv [] (a0m (x)))), (1, .one (.dv [] (a0m (y)))), (12, .one (.dv [] (.int .i64 ((((x)).length : Int))))), (13, .one (.dv [] (.int .i64 ((k : Int)))))], [], []⟩ : St)
  iterate 3 refine z ?_
  refine a0u ?_
  refine yQ rfl (fun c2 => ?_) fun c2 => ?_
  ·have d2 := c9f c2
   iterate 8 refine z ?_
   refine a0u ?_
   refine a1K (oB := []) (oK := []) (by kernel_rfl) rfl rfl ?_
   refine zD 0 ?_
   refine zD 1 ?_
   refine zD 2 ?_
   refine zD 3 ?_
   refine zD 4 ?_
   refine zD 5 ?_
   refine zD 6 ?_
   refine zD 7 ?_
   refine zD 8 ?_
   refine a1Q (by kernel_rfl) ?_
   refine z ?_
   refine yQ rfl (fun c3 => ?_) fun c3 => ?_
   ·have d3 := a5V c3
    iterate 10 refine z ?_
    exact (a9g (k := k) (by omega) (by have h := c3; simpa [a4b] using h)).symm
   ·have d3 := a5T c3
    iterate 3 refine z ?_
    refine a0n ?_
    iterate 3 refine z ?_
    refine ⟨k + 1, ?_, ?_, a0e ⟨rfl, rfl, rfl, rfl, trivial⟩ trivial trivial rfl⟩
    ·exact ⟨by omega, a4z hall (by have h := c3; simpa [a4b] using h)⟩
    ·omega
  ·have d2 := c9g c2
   iterate 10 refine z ?_
   exact (a8I d1 hall (by omega)).symm
theorem b2g {x y : List UInt8}  : PFn Tryz.prog 62 [.one (.dv [] (a0m (x))), .one (.dv [] (a0m (y)))] (.one (.dv [] (.bool (eqL a4b x y)))) := by
 refine ⟨a0O Tryz.func62 rfl Tryz.ntmps62 Tryz.results62 rfl (fun C => ?_)⟩
 refine a1k (x := .tmp 0) (a0a rfl) fun f0 => ?_
 refine a1k (x := .tmp 1) (a0a rfl) fun f1 => ?_
 iterate 6 refine z ?_
 refine zC Tryz.call95 ?_ (hf := c3r)
 iterate 4 refine z ?_
 rfl
theorem c4k {α : Type} {q : List α} {n k : Nat} {d : α} (h : k < n) : (q.take n).getD k d = q.getD k d := by simp [List.getD, List.getElem?_take, h]
def a1X (n : Str) (f : a4A) : Bool := sEq f.1 n
def a0Z (r : a0v) (n : Str) : Int × Bool := if a0s (a1X n) r 0 < 0 then (0, false) else ((r.getD (a0s (a1X n) r 0).toNat default).2, true)
theorem a8a {α : Type} {p : α → Bool} : ∀ (xs : List α) (i : Int), 0 ≤ i → a0s p xs i < i + xs.length ∨ a0s p xs i = -1
 | [], i, h => .inr rfl
 | x :: xs, i, h => by
  rw [a0s]
  split
  ·left; simp; omega
  ·rcases a8a (p := p) xs (i + 1) (by omega) with h1 | h1
   ·left; simp only [List.length_cons]; omega
   ·exact .inr h1
theorem c1k {r : a0v} {n : Str} {k : Nat} (h : (r.take k).any (a1X n) = false) (hk : k < r.length) (hp : a1X n (r.getD k default) = true) : a0Z r n = ((r.getD (k : Int).toNat default).2, true) := by
 have := a6b (p := a1X n) (d := default) h hk hp
 rw [a0Z, this, if_neg (by omega)]
theorem c1A {r : a0v} {n : Str} {k : Nat} (h : (r.take k).any (a1X n) = false) (hk : k = r.length) : a0Z r n = (0, false) := by
 rw [a0Z, a5O (p := a1X n) h hk]; rfl
theorem c0c {p : a0T → Bool} {xs : List a0T} {k : Nat} (hk : k < xs.length) : (xs.take (k + 1)).filter p = (xs.take k).filter p ++ (if p (xs.getD (k : Int).toNat default) then [xs.getD (k : Int).toNat default] else []) := by
 rw [List.take_add_one, List.getElem?_eq_getElem hk, List.filter_append]
 have : xs.getD (k : Int).toNat default = xs[k] := by simp [List.getD, List.getElem?_eq_getElem hk]
 rw [this]
 simp only [Option.toList_some, List.filter_cons, List.filter_nil]
theorem a6d (x : a0T) : x.2.length ≤ a1P x := by unfold a1P a7z a2d; omega
theorem c8Q {x : a4A} {n : Str}  : PFn Tryz.prog 133 [.agg [(.dv [] (.str (x.1))), (.dv [] (.int .i64 (x.2)))], .ref [] [.str (n)]] (.one (.dv [] (.bool (a1X n x)))) := by
 refine ⟨a0O Tryz.func133 rfl Tryz.ntmps133 Tryz.results133 rfl (fun C => ?_)⟩
 refine yF 0 0 rfl rfl fun f0_0 => ?_
 refine yF 0 1 rfl rfl fun f0_1 => ?_
 iterate 13 refine z ?_
 rfl
theorem c8z {x : a0v} {n : Str}  : PFn Tryz.prog 132 [.one (.dv [] (a0I (x))), .fn 133 [[.str (n)]]] (.one (.dv [] (.int .i64 (a0s (a1X n) x 0)))) := by
 refine ⟨a0O Tryz.func132 rfl Tryz.ntmps132 Tryz.results132 rfl (fun C => ?_)⟩
 refine a1k (x := .tmp 0) (a0a rfl) fun f0 => ?_
 iterate 10 refine z ?_
 refine a1o (ι := Nat) (fun zz => ⟨[(0, .one (.dv [] (a0I (x)))), (1, .fn 133 [[.str (n)]]), (7, .one (.dv [] (.int .i64 ((((x)).length : Int))))), (8, .one (.dv [] (.int .i64 ((zz : Int)))))], [], []⟩) (fun zz => zz ≤ x.length ∧ (x.take zz).any (a1X n) = false) (fun zz => x.length - zz) (0) ?_ (a0e ⟨rfl, rfl, rfl, rfl, trivial⟩ trivial trivial rfl) (fun zz hx => ?_)
 ·exact ⟨Nat.zero_le _, rfl⟩
 obtain ⟨k, rfl⟩ : ∃ v, v = zz := ⟨_, rfl⟩
 replace hx : k ≤ x.length ∧ (x.take k).any (a1X n) = false := hx
 obtain ⟨hk, hall⟩ := hx
 show Ok _ _ _ _ _ (⟨[(0, .one (.dv [] (a0I (x)))), (1, .fn 133 [[.str (n)]]), (7, .one (.dv [] (.int .i64 ((((x)).length : Int))))), (8, .one (.dv [] (.int .i64 ((k : Int)))))], [], []⟩ : St)
 iterate 3 refine z ?_
 refine a0u ?_
 refine yQ rfl (fun c1 => ?_) fun c1 => ?_
 ·have d1 := c9f c1
  iterate 14 refine z ?_
  refine b0j rfl rfl rfl (a0a rfl) Tryz.call133 c8Q (a0g (a0a rfl) (a0t (a0d a0c (a0d a0c a0r))) a0q) rfl rfl ?_
  refine z ?_
  refine yQ rfl (fun c2 => ?_) fun c2 => ?_
  ·iterate 11 refine z ?_
   exact (a6b (p := a1X n) (d := default) hall (by omega) c2).symm
  ·iterate 3 refine z ?_
   refine a0n ?_
   iterate 3 refine z ?_
   refine ⟨k + 1, ?_, ?_, a0e ⟨rfl, rfl, rfl, rfl, trivial⟩ trivial trivial rfl⟩
   ·exact ⟨by omega, a5M (d := default) hall (by omega) c2⟩
   ·omega
 ·have d1 := c9g c1
  iterate 10 refine z ?_
  exact (a5O (p := a1X n) hall (by omega)).symm
theorem b8w {x : a0v} {n : Str}  : PFn Tryz.prog 122 [.agg [(.dv [] (a0I (x)))], .one (.dv [] (.str (n)))] (.one (.dv [] (.int .i64 (a0s (a1X n) x 0)))) := by
 refine ⟨a0O Tryz.func122 rfl Tryz.ntmps122 Tryz.results122 rfl (fun C => ?_)⟩
 refine yF 0 0 rfl rfl fun f0_0 => ?_
 refine a1k (x := .tmp 1) (a0a rfl) fun f1 => ?_
 iterate 8 refine z ?_
 refine yO rfl rfl (b1S rfl (a0a rfl)) rfl ?_
 refine a3T rfl rfl rfl Tryz.call132 c8z (a0g (a0a rfl) (a0C a0c) (a0g (a0a rfl) (b4r (b0Z rfl rfl b1G)) a0q)) rfl rfl ?_
 iterate 4 refine z ?_
 rfl
theorem a5U {x : a0v} {n : Str}  : PFn Tryz.prog 105 [.agg [(.dv [] (a0I (x)))], .one (.dv [] (.str (n)))] (.tup [(false, [(.dv [] (.int .i64 ((a0Z x n).1)))]), (false, [(.dv [] (.bool ((a0Z x n).2)))])]) := by
 refine ⟨a0O Tryz.func105 rfl Tryz.ntmps105 Tryz.results105 rfl (fun C => ?_)⟩
 refine yF 0 0 rfl rfl fun f0_0 => ?_
 refine a1k (x := .tmp 1) (a0a rfl) fun f1 => ?_
 iterate 8 refine z ?_
 refine zC Tryz.call122 ?_ (hf := b8w)
 iterate 7 refine z ?_
 refine yQ rfl (fun c1 => ?_) fun c1 => ?_
 ·have d1 := c9f c1
  iterate 6 refine z ?_
  refine a1u (a0l rfl) (a0l rfl) rfl rfl ?_
  have h : a0Z x n = (0, false) := by rw [a0Z, if_pos d1]
  rw [h] <;> rfl
 ·have d1 := c9g c1
  have hlt := a8a (p := a1X n) x 0 (by omega)
  iterate 13 refine z ?_
  refine a1u (a0l rfl) (a0l rfl) rfl rfl ?_
  have h : a0Z x n = ((x.getD (a0s (a1X n) x 0).toNat default).2, true) := by rw [a0Z, if_neg d1]
  rw [h] <;> rfl
theorem a7v {x : a0v} {n : Str}  : PFn Tryz.prog 89 [.agg [(.dv [] (a0I (x)))], .one (.dv [] (.str (n)))] (.tup [(false, [(.dv [] (.int .i64 ((a0Z x n).1)))]), (false, [(.dv [] (.bool ((a0Z x n).2)))])]) := by
 refine ⟨a0O Tryz.func89 rfl Tryz.ntmps89 Tryz.results89 rfl (fun C => ?_)⟩
 refine yF 0 0 rfl rfl fun f0_0 => ?_
 refine a1k (x := .tmp 1) (a0a rfl) fun f1 => ?_
 iterate 10 refine z ?_
 refine a1o (ι := Nat) (fun zz => ⟨[(1, .one (.dv [] (.str (n)))), (2, .box 2 0), (6, .one (.dv [] (.int .i64 ((zz : Int)))))], [(2, 63, [(.dv [] (a0I (x)))])], []⟩) (fun zz => zz ≤ x.length ∧ (x.take zz).any (a1X n) = false) (fun zz => x.length - zz) (0) ?_ (a0e ⟨rfl, rfl, rfl, trivial⟩ ⟨rfl, trivial⟩ trivial rfl) (fun zz hx => ?_)
 ·exact ⟨Nat.zero_le _, rfl⟩
 obtain ⟨k, rfl⟩ : ∃ v, v = zz := ⟨_, rfl⟩
 replace hx : k ≤ x.length ∧ (x.take k).any (a1X n) = false := hx
 obtain ⟨hk, hall⟩ := hx
 show Ok _ _ _ _ _ (⟨[(1, .one (.dv [] (.str (n)))), (2, .box 2 0), (6, .one (.dv [] (.int .i64 ((k : Int)))))], [(2, 63, [(.dv [] (a0I (x)))])], []⟩ : St)
 iterate 8 refine z ?_
 refine yQ rfl (fun c1 => ?_) fun c1 => ?_
 ·have d1 := c9f c1
  iterate 14 refine z ?_
  refine yQ rfl (fun c2 => ?_) fun c2 => ?_
  ·iterate 16 refine z ?_
   refine a1u (a0l rfl) (a0l rfl) rfl rfl ?_
   rw [c1k hall (by omega) c2] <;> rfl
  ·iterate 3 refine z ?_
   refine a0n ?_
   iterate 4 refine z ?_
   refine ⟨k + 1, ?_, ?_, a0e ⟨rfl, rfl, rfl, trivial⟩ ⟨rfl, trivial⟩ trivial rfl⟩
   ·exact ⟨by omega, a5M (d := default) hall (by omega) c2⟩
   ·omega
 ·have d1 := c9g c1
  iterate 10 refine z ?_
  refine a1u (a0l rfl) (a0l rfl) rfl rfl ?_
  rw [c1A hall (by omega)] <;> rfl
theorem a8g {x : a0v} (hb : x.length ≤ 1099511627776) : KFn Tryz.prog 117 [.agg [(.dv [] (a0I (x)))]] (.agg [(.key 3)]) [(3, some (a0b false (a0I (x))))] := by
 refine ⟨a0O Tryz.func117 rfl Tryz.ntmps117 Tryz.results117 rfl (fun C => ?_)⟩
 refine yF 0 0 rfl rfl fun f0_0 => ?_
 iterate 5 refine z ?_
 refine a2J (k := 3) hT rfl rfl rfl rfl rfl rfl rfl rfl ?_
 iterate 2 refine z ?_
 refine a9h (k := 3) (cs := (x).flatMap a1B) (n := (x).length) hT rfl rfl rfl rfl rfl rfl rfl (a0a rfl) rfl rfl rfl (a0a rfl) (a3v (fun _ => rfl) _) (by first | (dsimp only [a0b]; omega) | omega) (by first | (dsimp only [a0b]; omega) | omega) (Nat.zero_add _) (rfl) ?_
 simp only [a0p, a0k, SV.kill, CV.kill, kk, Nat.reduceBEq]
 refine yO rfl rfl (a1v hT hB rfl rfl rfl (a1c (a0a rfl) rfl rfl rfl rfl rfl a1w)) rfl ?_
 iterate 2 refine z ?_
 refine a0h (σ' := ⟨[(2, .box 2 0)], [(2, 63, [(.key 3)])], [(3, some (a0b false (a0I (x))))]⟩) (a0e ⟨rfl, trivial⟩ ⟨rfl, trivial⟩ ⟨rfl, trivial⟩ rfl) ?_
 refine z ?_
 refine a1r (a0E hT rfl rfl rfl rfl) ?_
 exact ⟨rfl, rfl⟩
theorem a8l {x : a0v} (hb : x.length ≤ 1099511627776) : KFn Tryz.prog 96 [.agg [(.dv [] (a0I (x)))]] (.agg [(.key 3)]) [(3, some (a0b false (a0I (x))))] := by
 refine ⟨a0O Tryz.func96 rfl Tryz.ntmps96 Tryz.results96 rfl (fun C => ?_)⟩
 refine yF 0 0 rfl rfl fun f0_0 => ?_
 iterate 5 refine z ?_
 refine a2J (k := 3) hT rfl rfl rfl rfl rfl rfl rfl rfl ?_
 iterate 2 refine z ?_
 refine a9h (k := 3) (cs := (x).flatMap a1B) (n := (x).length) hT rfl rfl rfl rfl rfl rfl rfl (a0a rfl) rfl rfl rfl (a0a rfl) (a3v (fun _ => rfl) _) (by first | (dsimp only [a0b]; omega) | omega) (by first | (dsimp only [a0b]; omega) | omega) (Nat.zero_add _) (rfl) ?_
 simp only [a0p, a0k, SV.kill, CV.kill, kk, Nat.reduceBEq]
 refine yO rfl rfl (a1v hT hB rfl rfl rfl (a1c (a0a rfl) rfl rfl rfl rfl rfl a1w)) rfl ?_
 iterate 2 refine z ?_
 refine a0h (σ' := ⟨[(2, .box 2 0)], [(2, 63, [(.key 3)])], [(3, some (a0b false (a0I (x))))]⟩) (a0e ⟨rfl, trivial⟩ ⟨rfl, trivial⟩ ⟨rfl, trivial⟩ rfl) ?_
 refine z ?_
 refine a1r (a0E hT rfl rfl rfl rfl) ?_
 exact ⟨rfl, rfl⟩
theorem b5k {x : a0T} (hb : x.2.length ≤ 1099511627776) : KFn Tryz.prog 94 [.agg [(.dv [] (.int .i64 (x.1.1))), (.dv [] (.int .i64 (x.1.2.1))), (.dv [] (.str (x.1.2.2))), (.dv [] (a0I (x.2)))]] (.agg [(.dv [] (.int .i64 (x.1.1))), (.dv [] (.int .i64 (x.1.2.1))), (.dv [] (.str (x.1.2.2))), (.key 7003)]) [(7003, some (a0b false (a0I (x.2))))] := by
 refine ⟨a0O Tryz.func94 rfl Tryz.ntmps94 Tryz.results94 rfl (fun C => ?_)⟩
 refine yF 0 0 rfl rfl fun f0_0 => ?_
 refine yF 0 1 rfl rfl fun f0_1 => ?_
 refine yF 0 2 rfl rfl fun f0_2 => ?_
 refine yF 0 3 rfl rfl fun f0_3 => ?_
 iterate 4 refine z ?_
 refine a0u ?_
 refine a1K (oB := [1, 2]) (oK := []) (by kernel_rfl) rfl rfl ?_
 refine zD 0 ?_
 refine zD 1 ?_
 refine zD 2 ?_
 refine zD 3 ?_
 refine a2G 7000 4 rfl (by kernel_rfl) rfl rfl rfl Tryz.call117 (a8g (by omega)) (a0g (a0a rfl) (a0t (a0d a0c a0r)) a0q) rfl rfl rfl rfl rfl ?_
 refine a1q 5 rfl (by kernel_rfl) rfl rfl (a1v hT hB rfl rfl rfl (a1c (a0a rfl) rfl rfl rfl rfl rfl (a1c (a0a rfl) rfl rfl rfl rfl rfl a1w))) rfl rfl rfl rfl ?_
 refine b4z 6 rfl (by kernel_rfl) rfl (by kernel_rfl) (a4x hT rfl rfl rfl (a0a rfl) (a0a rfl) rfl rfl rfl rfl rfl rfl) (by kernel_rfl) ?_
 refine z ?_
 refine a0h (σ' := ⟨[(2, .box 2 0)], [(2, 119, [(.dv [] (.int .i64 (x.1.1))), (.dv [] (.int .i64 (x.1.2.1))), (.dv [] (.str (x.1.2.2))), (.key 7003)])], [(7003, some (a0b false (a0I (x.2))))]⟩) (a0e ⟨rfl, trivial⟩ ⟨rfl, trivial⟩ ⟨rfl, trivial⟩ rfl) ?_
 refine z ?_
 refine a1r (a0E hT rfl rfl rfl rfl) ?_
 exact ⟨rfl, rfl⟩
theorem b4p {x : a0T} (hb : x.2.length ≤ 1099511627776) : KFn Tryz.prog 84 [.agg [(.dv [] (.int .i64 (x.1.1))), (.dv [] (.int .i64 (x.1.2.1))), (.dv [] (.str (x.1.2.2))), (.dv [] (a0I (x.2)))]] (.agg [(.dv [] (.int .i64 (x.1.1))), (.dv [] (.int .i64 (x.1.2.1))), (.dv [] (.str (x.1.2.2))), (.key 7003)]) [(7003, some (a0b false (a0I (x.2))))] := by
 refine ⟨a0O Tryz.func84 rfl Tryz.ntmps84 Tryz.results84 rfl (fun C => ?_)⟩
 refine yF 0 0 rfl rfl fun f0_0 => ?_
 refine yF 0 1 rfl rfl fun f0_1 => ?_
 refine yF 0 2 rfl rfl fun f0_2 => ?_
 refine yF 0 3 rfl rfl fun f0_3 => ?_
 iterate 4 refine z ?_
 refine a0u ?_
 refine a1K (oB := [1, 2]) (oK := []) (by kernel_rfl) rfl rfl ?_
 refine zD 0 ?_
 refine zD 1 ?_
 refine zD 2 ?_
 refine zD 3 ?_
 refine a2G 7000 4 rfl (by kernel_rfl) rfl rfl rfl Tryz.call96 (a8l (by omega)) (a0g (a0a rfl) (a0t (a0d a0c a0r)) a0q) rfl rfl rfl rfl rfl ?_
 refine a1q 5 rfl (by kernel_rfl) rfl rfl (a1v hT hB rfl rfl rfl (a1c (a0a rfl) rfl rfl rfl rfl rfl (a1c (a0a rfl) rfl rfl rfl rfl rfl a1w))) rfl rfl rfl rfl ?_
 refine b4z 6 rfl (by kernel_rfl) rfl (by kernel_rfl) (a4x hT rfl rfl rfl (a0a rfl) (a0a rfl) rfl rfl rfl rfl rfl rfl) (by kernel_rfl) ?_
 refine z ?_
 refine a0h (σ' := ⟨[(2, .box 2 0)], [(2, 119, [(.dv [] (.int .i64 (x.1.1))), (.dv [] (.int .i64 (x.1.2.1))), (.dv [] (.str (x.1.2.2))), (.key 7003)])], [(7003, some (a0b false (a0I (x.2))))]⟩) (a0e ⟨rfl, trivial⟩ ⟨rfl, trivial⟩ ⟨rfl, trivial⟩ rfl) ?_
 refine z ?_
 refine a1r (a0E hT rfl rfl rfl rfl) ?_
 exact ⟨rfl, rfl⟩
theorem a8p {k : IntKind} {a b : Int} (h : a = b) : some (SV.one (CV.dv [] (DV.int k a))) = some (SV.one (CV.dv [] (DV.int k b))) := by rw [h]
theorem a3N {α : Type} [Inhabited α] {xs : List α} {j : Nat} (h : j < xs.length) : xs.getD (j : Int).toNat default = xs[j] := by simp [List.getD, List.getElem?_eq_getElem h]
def a3W (a b : Int) : Int := if a < b then -1 else if b < a then 1 else 0
def a2K (a b : a0K) : Int := if !a1a a || !a1a b then 0 else if ¬ a.1 = b.1 then a3W a.1 b.1 else if ¬ a.2.1 = b.2.1 then a3W a.2.1 b.2.1 else a4r a.2.2 b.2.2
def a7u (a b : Bool) : Int := if a then -1 else if b then 1 else 0
theorem a7F {a b : Int} : a3W a b = 0 ↔ a = b := by unfold a3W; split <;> (try split) <;> omega
theorem b0v {a b : a0K} (h : (!a1a a || !a1a b) = true) : a2K a b = 0 := by rw [a2K, if_pos h]
theorem a8X {a b : a0K} (h : (!a1a a || !a1a b) = false) (h1 : ¬ a.1 = b.1) : a2K a b = a3W a.1 b.1 := by rw [a2K, if_neg (by rw [h]; simp), if_pos h1]
theorem a9P {a b : a0K} (h : (!a1a a || !a1a b) = false) (h1 : a.1 = b.1) (h2 : ¬ a.2.1 = b.2.1) : a2K a b = a3W a.2.1 b.2.1 := by rw [a2K, if_neg (by rw [h]; simp), if_neg (by simp [h1]), if_pos h2]
theorem a9T {a b : a0K} (h : (!a1a a || !a1a b) = false) (h1 : a.1 = b.1) (h2 : a.2.1 = b.2.1) : a2K a b = a4r a.2.2 b.2.2 := by rw [a2K, if_neg (by rw [h]; simp), if_neg (by simp [h1]), if_neg (by simp [h2])]
theorem c8G (a b : Str) : (!(sLt a b || sEq a b)) = sLt b a := by rw [a7i, Bool.not_not]
def a6g (k : a0K) (r : a3R) : Bool := !((!a1a k || (r.1 && !a1a r.2.2.1)) || (r.2.1 && !a1a r.2.2.2)) && ((!r.1 || decide (a2K r.2.2.1 k ≤ 0)) && (!r.2.1 || decide (a2K k r.2.2.2 ≤ 0)))
theorem b9X (a b : Int) : a3W a b = - a3W b a := by unfold a3W; split <;> split <;> (try split) <;> omega
theorem c2Q (a b : Str) : a4r a b = - a4r b a := by
 unfold a4r
 cases h1 : sLt a b <;> cases h2 : sLt b a <;> simp
 have h := a7i a b
 rw [h1, h2] at h
 simp at h
theorem b0t (a b : a0K) : a2K a b = - a2K b a := by
 by_cases h : (!a1a a || !a1a b) = true
 ·rw [b0v h, b0v (by rw [Bool.or_comm]; exact h)]; rfl
 ·have h : (!a1a a || !a1a b) = false := by simpa using h
  have h' : (!a1a b || !a1a a) = false := by rw [Bool.or_comm]; exact h
  by_cases h1 : a.1 = b.1
  ·by_cases h2 : a.2.1 = b.2.1
   ·rw [a9T h h1 h2, a9T h' h1.symm h2.symm, c2Q]
   ·rw [a9P h h1 h2, a9P h' h1.symm (fun e => h2 e.symm), b9X]
  ·rw [a8X h h1, a8X h' (fun e => h1 e.symm), b9X]
theorem b3j {x y : Bool}  : PFn Tryz.prog 114 [.one (.dv [] (.bool (x))), .one (.dv [] (.bool (y)))] (.one (.dv [] (.int .i64 (a7u x y)))) := by
 refine ⟨a0O Tryz.func114 rfl Tryz.ntmps114 Tryz.results114 rfl (fun C => ?_)⟩
 iterate 7 refine z ?_
 refine yQ rfl (fun c1 => ?_) fun c1 => ?_
 ·iterate 6 refine z ?_
  rw [a7u, if_pos c1]
 ·iterate 6 refine z ?_
  refine yQ rfl (fun c2 => ?_) fun c2 => ?_
  ·iterate 6 refine z ?_
   rw [a7u, if_neg (by rw [c1]; simp), if_pos c2]
  ·iterate 7 refine z ?_
   rw [a7u, if_neg (by rw [c1]; simp), if_neg (by rw [c2]; simp)]
theorem b8j {x y : Int}  : PFn Tryz.prog 118 [.one (.dv [] (.int .i64 (x))), .one (.dv [] (.int .i64 (y)))] (.one (.dv [] (.int .i64 (a3W x y)))) := by
 refine ⟨a0O Tryz.func118 rfl Tryz.ntmps118 Tryz.results118 rfl (fun C => ?_)⟩
 refine a1k (x := .tmp 0) (a0a rfl) fun f0 => ?_
 refine a1k (x := .tmp 1) (a0a rfl) fun f1 => ?_
 iterate 11 refine z ?_
 refine yQ rfl (fun c1 => ?_) fun c1 => ?_
 ·have d1 := c9f c1
  iterate 7 refine z ?_
  rw [a3W, if_pos d1]
 ·have d1 := c9g c1
  iterate 6 refine z ?_
  refine yQ rfl (fun c2 => ?_) fun c2 => ?_
  ·have d2 := c9f c2
   iterate 7 refine z ?_
   rw [a3W, if_neg d1, if_pos d2]
  ·have d2 := c9g c2
   iterate 8 refine z ?_
   rw [a3W, if_neg d1, if_neg d2]
theorem a9B {x y : a0K}  : PFn Tryz.prog 100 [.agg [(.dv [] (.int .i64 (x.1))), (.dv [] (.int .i64 (x.2.1))), (.dv [] (.str (x.2.2)))], .agg [(.dv [] (.int .i64 (y.1))), (.dv [] (.int .i64 (y.2.1))), (.dv [] (.str (y.2.2)))]] (.one (.dv [] (.int .i64 (a2K x y)))) := by
 refine ⟨a0O Tryz.func100 rfl Tryz.ntmps100 Tryz.results100 rfl (fun C => ?_)⟩
 refine yF 0 0 rfl rfl fun f0_0 => ?_
 refine yF 0 1 rfl rfl fun f0_1 => ?_
 refine yF 0 2 rfl rfl fun f0_2 => ?_
 refine yF 1 0 rfl rfl fun f1_0 => ?_
 refine yF 1 1 rfl rfl fun f1_1 => ?_
 refine yF 1 2 rfl rfl fun f1_2 => ?_
 iterate 8 refine z ?_
 refine zC Tryz.call80 ?_ (hf := a5N)
 iterate 3 refine z ?_
 refine a1O (a1t rfl rfl rfl rfl rfl) rfl rfl Tryz.call80 a5N (fun hg => (a0g (a0y rfl hg) (a0t (a0d a0c (a0d a0c (a0d a0c a0r)))) a0q)) rfl rfl ?_
 iterate 3 refine z ?_
 refine yQ rfl (fun c1 => ?_) fun c1 => ?_
 ·iterate 6 refine z ?_
  rw [b0v c1]
 ·iterate 8 refine z ?_
  refine zC Tryz.call118 ?_ (hf := b8j)
  iterate 6 refine z ?_
  refine yQ rfl (fun c2 => ?_) fun c2 => ?_
  ·have d2 := a5V c2
   iterate 7 refine z ?_
   rw [a8X c1 (fun e => d2 (a7F.2 e))]
  ·have d2 := a5T c2
   iterate 8 refine z ?_
   refine zC Tryz.call118 ?_ (hf := b8j)
   iterate 6 refine z ?_
   refine yQ rfl (fun c3 => ?_) fun c3 => ?_
   ·have d3 := a5V c3
    iterate 7 refine z ?_
    rw [a9P c1 (a7F.1 d2) (fun e => d3 (a7F.2 e))]
   ·have d3 := a5T c3
    iterate 7 refine z ?_
    refine zC Tryz.call119 ?_ (hf := c3N)
    iterate 4 refine z ?_
    rw [a9T c1 (a7F.1 d2) (a7F.1 d3)]
theorem a9W {x y : a0K}  : PFn Tryz.prog 87 [.agg [(.dv [] (.int .i64 (x.1))), (.dv [] (.int .i64 (x.2.1))), (.dv [] (.str (x.2.2)))], .agg [(.dv [] (.int .i64 (y.1))), (.dv [] (.int .i64 (y.2.1))), (.dv [] (.str (y.2.2)))]] (.one (.dv [] (.int .i64 (a2K x y)))) := by
 refine ⟨a0O Tryz.func87 rfl Tryz.ntmps87 Tryz.results87 rfl (fun C => ?_)⟩
 refine yF 0 0 rfl rfl fun f0_0 => ?_
 refine yF 0 1 rfl rfl fun f0_1 => ?_
 refine yF 0 2 rfl rfl fun f0_2 => ?_
 refine yF 1 0 rfl rfl fun f1_0 => ?_
 refine yF 1 1 rfl rfl fun f1_1 => ?_
 refine yF 1 2 rfl rfl fun f1_2 => ?_
 iterate 8 refine z ?_
 refine zC Tryz.call85 ?_ (hf := a6z)
 iterate 3 refine z ?_
 refine a1O (a1t rfl rfl rfl rfl rfl) rfl rfl Tryz.call85 a6z (fun hg => (a0g (a0y rfl hg) (a0t (a0d a0c (a0d a0c (a0d a0c a0r)))) a0q)) rfl rfl ?_
 iterate 3 refine z ?_
 refine yQ rfl (fun c1 => ?_) fun c1 => ?_
 ·iterate 6 refine z ?_
  rw [b0v c1]
 ·iterate 10 refine z ?_
  refine yQ rfl (fun c2 => ?_) fun c2 => ?_
  ·have d2 := a5V c2
   iterate 6 refine z ?_
   refine zC Tryz.call114 ?_ (hf := b3j)
   iterate 5 refine z ?_
   rw [a8X c1 d2]; unfold a7u a3W; split <;> split <;> simp_all <;> omega
  ·have d2 := a5T c2
   iterate 10 refine z ?_
   refine yQ rfl (fun c3 => ?_) fun c3 => ?_
   ·have d3 := a5V c3
    iterate 6 refine z ?_
    refine zC Tryz.call114 ?_ (hf := b3j)
    iterate 5 refine z ?_
    rw [a9P c1 d2 d3]; unfold a7u a3W; split <;> split <;> simp_all <;> omega
   ·have d3 := a5T c3
    iterate 13 refine z ?_
    refine zC Tryz.call114 ?_ (hf := b3j)
    iterate 4 refine z ?_
    rw [a9T c1 d2 d3, c8G]; unfold a7u a4r; rfl
theorem c5Q {x : a0K} {y : a3R}  : PFn Tryz.prog 127 [.agg [(.dv [] (.int .i64 (x.1))), (.dv [] (.int .i64 (x.2.1))), (.dv [] (.str (x.2.2)))], .agg [(.dv [] (.bool (y.1))), (.dv [] (.bool (y.2.1))), (.dv [] (.int .i64 (y.2.2.1.1))), (.dv [] (.int .i64 (y.2.2.1.2.1))), (.dv [] (.str (y.2.2.1.2.2))), (.dv [] (.int .i64 (y.2.2.2.1))), (.dv [] (.int .i64 (y.2.2.2.2.1))), (.dv [] (.str (y.2.2.2.2.2)))]] (.one (.dv [] (.bool (a6g x y)))) := by
 refine ⟨a0O Tryz.func127 rfl Tryz.ntmps127 Tryz.results127 rfl (fun C => ?_)⟩
 refine yF 0 0 rfl rfl fun f0_0 => ?_
 refine yF 0 1 rfl rfl fun f0_1 => ?_
 refine yF 0 2 rfl rfl fun f0_2 => ?_
 refine yF 1 2 rfl rfl fun f1_2 => ?_
 refine yF 1 3 rfl rfl fun f1_3 => ?_
 refine yF 1 4 rfl rfl fun f1_4 => ?_
 refine yF 1 5 rfl rfl fun f1_5 => ?_
 refine yF 1 6 rfl rfl fun f1_6 => ?_
 refine yF 1 7 rfl rfl fun f1_7 => ?_
 iterate 8 refine z ?_
 refine zC Tryz.call80 ?_ (hf := a5N)
 iterate 7 refine z ?_
 refine a1O (a3Y rfl rfl rfl rfl rfl) rfl rfl Tryz.call80 a5N (fun hg => (a0g (a0y rfl hg) (a0t (a0d a0c (a0d a0c (a0d a0c a0r)))) a0q)) rfl rfl ?_
 iterate 9 refine z ?_
 refine a1O (a3Y rfl rfl rfl rfl rfl) rfl rfl Tryz.call80 a5N (fun hg => (a0g (a0y rfl hg) (a0t (a0d a0c (a0d a0c (a0d a0c a0r)))) a0q)) rfl rfl ?_
 iterate 4 refine z ?_
 refine yQ rfl (fun c1 => ?_) fun c1 => ?_
 ·iterate 6 refine z ?_
  unfold a6g; rw [c1]; rfl
 ·iterate 9 refine z ?_
  refine a1O (a1t rfl rfl rfl rfl rfl) rfl rfl Tryz.call100 a9B (fun hg => (a0g (a0y rfl hg) (a0t (a0d a0c (a0d a0c (a0d a0c a0r)))) (a0g (a0y rfl hg) (a0t (a0d a0c (a0d a0c (a0d a0c a0r)))) a0q))) rfl rfl ?_
  iterate 10 refine z ?_
  refine a1O (a3Y rfl rfl rfl rfl rfl) rfl rfl Tryz.call100 a9B (fun hg => (a0g (a0y rfl hg) (a0t (a0d a0c (a0d a0c (a0d a0c a0r)))) (a0g (a0y rfl hg) (a0t (a0d a0c (a0d a0c (a0d a0c a0r)))) a0q))) rfl rfl ?_
  iterate 8 refine z ?_
  have h1 := b0t x y.2.2.1; have h2 := b0t x y.2.2.2; unfold a6g; rw [c1]; cases y.1 <;> cases y.2.1 <;> simp <;> grind
theorem c8N {x : a0K} {y : a3R}  : PFn Tryz.prog 116 [.agg [(.dv [] (.int .i64 (x.1))), (.dv [] (.int .i64 (x.2.1))), (.dv [] (.str (x.2.2)))], .agg [(.dv [] (.bool (y.1))), (.dv [] (.bool (y.2.1))), (.dv [] (.int .i64 (y.2.2.1.1))), (.dv [] (.int .i64 (y.2.2.1.2.1))), (.dv [] (.str (y.2.2.1.2.2))), (.dv [] (.int .i64 (y.2.2.2.1))), (.dv [] (.int .i64 (y.2.2.2.2.1))), (.dv [] (.str (y.2.2.2.2.2)))]] (.one (.dv [] (.bool (a6g x y)))) := by
 refine ⟨a0O Tryz.func116 rfl Tryz.ntmps116 Tryz.results116 rfl (fun C => ?_)⟩
 refine yF 0 0 rfl rfl fun f0_0 => ?_
 refine yF 0 1 rfl rfl fun f0_1 => ?_
 refine yF 0 2 rfl rfl fun f0_2 => ?_
 refine yF 1 2 rfl rfl fun f1_2 => ?_
 refine yF 1 3 rfl rfl fun f1_3 => ?_
 refine yF 1 4 rfl rfl fun f1_4 => ?_
 refine yF 1 5 rfl rfl fun f1_5 => ?_
 refine yF 1 6 rfl rfl fun f1_6 => ?_
 refine yF 1 7 rfl rfl fun f1_7 => ?_
 iterate 8 refine z ?_
 refine zC Tryz.call85 ?_ (hf := a6z)
 iterate 7 refine z ?_
 refine a1O (a3Y rfl rfl rfl rfl rfl) rfl rfl Tryz.call85 a6z (fun hg => (a0g (a0y rfl hg) (a0t (a0d a0c (a0d a0c (a0d a0c a0r)))) a0q)) rfl rfl ?_
 iterate 9 refine z ?_
 refine a1O (a3Y rfl rfl rfl rfl rfl) rfl rfl Tryz.call85 a6z (fun hg => (a0g (a0y rfl hg) (a0t (a0d a0c (a0d a0c (a0d a0c a0r)))) a0q)) rfl rfl ?_
 iterate 4 refine z ?_
 refine yQ rfl (fun c1 => ?_) fun c1 => ?_
 ·iterate 6 refine z ?_
  unfold a6g; rw [c1]; rfl
 ·iterate 10 refine z ?_
  refine a1O (a1t rfl rfl rfl rfl rfl) rfl rfl Tryz.call87 a9W (fun hg => (a0g (a0y rfl hg) (a0t (a0d a0c (a0d a0c (a0d a0c a0r)))) (a0g (a0y rfl hg) (a0t (a0d a0c (a0d a0c (a0d a0c a0r)))) a0q))) rfl rfl ?_
  iterate 10 refine z ?_
  refine a1O (a3Y rfl rfl rfl rfl rfl) rfl rfl Tryz.call87 a9W (fun hg => (a0g (a0y rfl hg) (a0t (a0d a0c (a0d a0c (a0d a0c a0r)))) (a0g (a0y rfl hg) (a0t (a0d a0c (a0d a0c (a0d a0c a0r)))) a0q))) rfl rfl ?_
  iterate 7 refine z ?_
  have h1 := b0t x y.2.2.1; have h2 := b0t x y.2.2.2; unfold a6g; rw [c1]; cases y.1 <;> cases y.2.1 <;> simp <;> grind
def bef (f : Str) (a b : a0T) : Bool := decide ((a0Z a.2 f).1 < (a0Z b.2 f).1) || (decide ((a0Z a.2 f).1 = (a0Z b.2 f).1) && decide (a2K a.1 b.1 < 0))
def a3K (f : Str) (x : a0T) (o : List a0T) : Nat → Nat
 | 0 => 0
 | k + 1 => if bef f x (o.getD k default) then a3K f x o k else k + 1
def a1Z (o : List a0T) (j : Nat) (y : a0T) : List a0T := o.take j ++ [y] ++ o.drop j
def a0H (f : Str) (its : List a0T) : Nat → List a0T
 | 0 => []
 | k + 1 => if (a0Z (its.getD (k : Int).toNat default).2 f).2 then a1Z (a0H f its k) (a3K f (its.getD (k : Int).toNat default) (a0H f its k) (a0H f its k).length) (its.getD (k : Int).toNat default) else a0H f its k
theorem a8N {o : List a0T} {j : Nat} {y : a0T} : (a1Z o j y).length = o.length + 1 := by simp only [a1Z, c9i, c9j, List.length_drop, List.length_singleton]; omega
theorem b0m (f : Str) (its : List a0T) : ∀ k, (a0H f its k).length ≤ k
 | 0 => Nat.le_refl _
 | k + 1 => by have := b0m f its k; rw [a0H]; split <;> (try rw [a8N]) <;> omega
theorem b1K {f : Str} {its : List a0T} {k : Nat} (h : (a0Z (its.getD (k : Int).toNat default).2 f).2 = true) : a0H f its (k + 1) = a1Z (a0H f its k) (a3K f (its.getD (k : Int).toNat default) (a0H f its k) (a0H f its k).length) (its.getD (k : Int).toNat default) := by rw [a0H, if_pos h]
theorem b8G {f : Str} {its : List a0T} {k : Nat} (h : (a0Z (its.getD (k : Int).toNat default).2 f).2 = false) : a0H f its k = a0H f its (k + 1) := by rw [a0H, if_neg (by rw [h]; simp)]
theorem c0j {f : Str} {x : a0T} {o : List a0T} {j : Nat} (h : (decide (0 < (j : Int)) && bef f x (o.getD ((j : Int) - 1).toNat default)) = true) : 0 < j ∧ a3K f x o j = a3K f x o (j - 1) := by
 obtain ⟨h1, h2⟩ := (Bool.and_eq_true _ _ ▸ h : _ ∧ _)
 have h1 := c9f h1
 cases j with
 | zero => simp at h1
 | succ k =>
  have e : (((k + 1 : Nat) : Int) - 1).toNat = k := by omega
  rw [e] at h2
  exact ⟨by omega, by rw [a3K, if_pos h2]; rfl⟩
theorem c0M {f : Str} {x : a0T} {o : List a0T} {j : Nat} (h : (decide (0 < (j : Int)) && bef f x (o.getD ((j : Int) - 1).toNat default)) = false) : a3K f x o j = j := by
 cases j with
 | zero => rfl
 | succ k =>
  have e : (((k + 1 : Nat) : Int) - 1).toNat = k := by omega
  rw [e, decide_eq_true (by omega : (0 : Int) < ((k + 1 : Nat) : Int)), Bool.true_and] at h
  rw [a3K, if_neg (by rw [h]; simp)]
theorem a7x {α : Type} {enc : α → List DV} {sz : Nat} (hs : ∀ x, (enc x).length = sz) : ∀ (n : Nat) (xs : List α), (xs.flatMap enc).take (n * sz) = (xs.take n).flatMap enc ∧ (xs.flatMap enc).drop (n * sz) = (xs.drop n).flatMap enc
 | 0, xs => by simp
 | n + 1, [] => by simp
 | n + 1, x :: xs => by
  obtain ⟨h1, h2⟩ := a7x hs n xs
  rw [List.flatMap_cons, Nat.add_mul, Nat.one_mul, Nat.add_comm (n * sz) sz, ← hs x, List.take_length_add_append, List.take_succ_cons, List.flatMap_cons, hs x, h1, List.drop_succ_cons, ← h2]
  exact ⟨rfl, by rw [← hs x, List.drop_length_add_append]⟩
theorem b9g {o : List a0T} {j : Nat} {y : a0T} : a5s (o.flatMap a0F) (((j : Nat) : Int).toNat * 4) (a0F y) = (a1Z o j y).flatMap a0F := by
 obtain ⟨h1, h2⟩ := a7x (enc := a0F) (sz := 4) (fun _ => rfl) j o
 rw [a5s, Int.toNat_natCast, h1, h2, a1Z, List.flatMap_append, List.flatMap_append, List.flatMap_cons, List.flatMap_nil, List.append_nil]
theorem b5C {o : List a0T} {j : Nat} : ([] : List DV) ++ sub (0 * 4) ((((j : Nat) : Int).toNat - 0) * 4) (o.flatMap a0F) = (o.take j).flatMap a0F := by
 obtain ⟨h1, h2⟩ := a7x (enc := a0F) (sz := 4) (fun _ => rfl) j o
 rw [Int.toNat_natCast, Nat.sub_zero, Nat.zero_mul, sub, List.drop_zero, List.nil_append, h1]
theorem b9W {o : List a0T} {j : Nat} : a5m (o.flatMap a0F) (0 * 4) ((((j : Nat) : Int).toNat - 0) * 4) = List.replicate (j * 4) .hole ++ (o.drop j).flatMap a0F := by
 obtain ⟨h1, h2⟩ := a7x (enc := a0F) (sz := 4) (fun _ => rfl) j o
 rw [Int.toNat_natCast, Nat.sub_zero, Nat.zero_mul, a5m, List.drop_zero, h2]; rfl
theorem b7q {o : List a0T} {j : Nat} {el : a0T} (hj : j ≤ o.length) : (o.take j ++ [el]).flatMap a0F ++ sub (((j : Nat) : Int).toNat * 4) ((o.length - ((j : Nat) : Int).toNat) * 4) (List.replicate (j * 4) .hole ++ (o.drop j).flatMap a0F) = (a1Z o j el).flatMap a0F := by
 have hl : ((o.drop j).flatMap a0F).length = (o.length - j) * 4 := by
  have : ∀ l : List a0T, (l.flatMap a0F).length = l.length * 4 := fun l => by
   induction l with
   | nil => rfl
   | cons x l ih => rw [List.flatMap_cons, c9i, ih, List.length_cons]; show 4 + l.length * 4 = (l.length + 1) * 4; omega
  rw [this, List.length_drop]
 have e : (List.replicate (j * 4) DV.hole ++ (o.drop j).flatMap a0F).drop (j * 4) = (o.drop j).flatMap a0F := by
  have h := List.drop_left (l₁ := List.replicate (j * 4) DV.hole) (l₂ := (o.drop j).flatMap a0F)
  rwa [List.length_replicate] at h
 rw [Int.toNat_natCast, sub, e, List.take_of_length_le (l := (o.drop j).flatMap a0F) (by rw [hl]; exact Nat.le_refl _)]
 simp only [a1Z, List.flatMap_append]
theorem c7l {x y : a0T} {f : Str}  : PFn Tryz.prog 120 [.agg [(.dv [] (.int .i64 (x.1.1))), (.dv [] (.int .i64 (x.1.2.1))), (.dv [] (.str (x.1.2.2))), (.dv [] (a0I (x.2)))], .agg [(.dv [] (.int .i64 (y.1.1))), (.dv [] (.int .i64 (y.1.2.1))), (.dv [] (.str (y.1.2.2))), (.dv [] (a0I (y.2)))], .one (.dv [] (.str (f)))] (.one (.dv [] (.bool (bef f x y)))) := by
 refine ⟨a0O Tryz.func120 rfl Tryz.ntmps120 Tryz.results120 rfl (fun C => ?_)⟩
 refine yF 0 0 rfl rfl fun f0_0 => ?_
 refine yF 0 1 rfl rfl fun f0_1 => ?_
 refine yF 0 2 rfl rfl fun f0_2 => ?_
 refine yF 0 3 rfl rfl fun f0_3 => ?_
 refine yF 1 0 rfl rfl fun f1_0 => ?_
 refine yF 1 1 rfl rfl fun f1_1 => ?_
 refine yF 1 2 rfl rfl fun f1_2 => ?_
 refine yF 1 3 rfl rfl fun f1_3 => ?_
 refine a1k (x := .tmp 2) (a0a rfl) fun f2 => ?_
 iterate 9 refine z ?_
 refine zC Tryz.call105 ?_ (hf := a5U)
 iterate 10 refine z ?_
 refine zC Tryz.call105 ?_ (hf := a5U)
 iterate 19 refine z ?_
 refine a1O (a3Y rfl rfl rfl rfl rfl) rfl rfl Tryz.call100 a9B (fun hg => (a0g (a0y rfl hg) (a0t (a0d a0c (a0d a0c (a0d a0c a0r)))) (a0g (a0y rfl hg) (a0t (a0d a0c (a0d a0c (a0d a0c a0r)))) a0q))) rfl rfl ?_
 iterate 7 refine z ?_
 unfold bef; grind
theorem c8Y {x : a0G} {f : Str} (hb : a1g x ≤ 1048576) : KFn Tryz.prog 104 [.agg [(.dv [] (.str (x.1))), (.dv [] (a0w (x.2.1))), (.dv [] (.int .i64 (x.2.2)))], .one (.dv [] (.str (f)))] (.one (.key 11)) [(11, some (a0b false (a0w (a0H f x.2.1 x.2.1.length))))] := by
 refine ⟨a0O Tryz.func104 rfl Tryz.ntmps104 Tryz.results104 rfl (fun C => ?_)⟩
 refine yF 0 0 rfl rfl fun f0_0 => ?_
 refine yF 0 1 rfl rfl fun f0_1 => ?_
 refine yF 0 2 rfl rfl fun f0_2 => ?_
 refine a1k (x := .tmp 1) (a0a rfl) fun f1 => ?_
 iterate 5 refine z ?_
 refine a2J (k := 11) hT rfl rfl rfl rfl rfl rfl rfl rfl ?_
 iterate 10 refine z ?_
 refine a1o (ι := Nat) (fun zz => ⟨[(1, .one (.dv [] (.str (f)))), (4, .one .nil), (5, .one (.key 11)), (13, .one (.dv [] (a0w (x.2.1)))), (14, .one (.dv [] (.int .i64 ((((x.2.1)).length : Int))))), (15, .one (.dv [] (.int .i64 ((zz : Int)))))], [], [(11, some (a0b false (.sl 119 4 ((a0H f x.2.1 zz).length) ((a0H f x.2.1 zz).flatMap a0F))))]⟩) (fun zz => zz ≤ x.2.1.length) (fun zz => x.2.1.length - zz) (0) ?_ (a0e ⟨rfl, rfl, rfl, rfl, rfl, rfl, trivial⟩ trivial ⟨rfl, trivial⟩ rfl) (fun zz hx => ?_)
 ·exact Nat.zero_le _
 obtain ⟨k, rfl⟩ : ∃ v, v = zz := ⟨_, rfl⟩
 replace hx : k ≤ x.2.1.length := hx
 have hw := fun h => a5D a1P x.2.1 k h
 have hol := b0m f x.2.1 k
 show Ok _ _ _ _ _ (⟨[(1, .one (.dv [] (.str (f)))), (4, .one .nil), (5, .one (.key 11)), (13, .one (.dv [] (a0w (x.2.1)))), (14, .one (.dv [] (.int .i64 ((((x.2.1)).length : Int))))), (15, .one (.dv [] (.int .i64 ((k : Int)))))], [], [(11, some (a0b false (.sl 119 4 ((a0H f x.2.1 k).length) ((a0H f x.2.1 k).flatMap a0F))))]⟩ : St)
 iterate 3 refine z ?_
 refine a0u ?_
 refine yQ rfl (fun c1 => ?_) fun c1 => ?_
 ·have d1 := c9f c1
  have hk2 : k < x.2.1.length := by omega
  have hlen : x.2.1.length ≤ 1048576 := by have h3 : a1g x = x.1.size + (x.2.1.length + a0V a1P x.2.1) := rfl; omega
  have hrec : a1P (x.2.1.getD (k : Int).toNat default) ≤ 1099511627776 := by have := hw hk2; have h3 : a1g x = x.1.size + (x.2.1.length + a0V a1P x.2.1) := rfl; omega
  iterate 15 refine z ?_
  refine zC Tryz.call105 ?_ (hf := a5U)
  iterate 10 refine z ?_
  refine yQ rfl (fun c2 => ?_) fun c2 => ?_
  ·iterate 4 refine z ?_
   refine a0n ?_
   iterate 3 refine z ?_
   refine ⟨k + 1, ?_, ?_, a0e ⟨rfl, rfl, rfl, rfl, rfl, rfl, trivial⟩ trivial ⟨(congrArg (fun l : List a0T => some (some (KC.mk false 119 4 l.length (l.flatMap a0F)))) (b8G (by simpa using c2))), trivial⟩ rfl⟩
   ·omega
   ·omega
  ·iterate 4 refine z ?_
   refine yO rfl rfl (a2I (n := ((a0H f x.2.1 k).length)) hT rfl rfl (a0a rfl) rfl rfl) rfl ?_
   iterate 4 refine z ?_
   refine a1o (ι := Nat) (fun zz => ⟨[(1, .one (.dv [] (.str (f)))), (4, .one .nil), (5, .one (.key 11)), (7, .box 7 0), (10, .one (.dv [] (.int .i64 ((zz : Int))))), (13, .one (.dv [] (a0w (x.2.1)))), (14, .one (.dv [] (.int .i64 ((((x.2.1)).length : Int))))), (15, .one (.dv [] (.int .i64 ((k : Int)))))], [(7, 119, [(.dv [] (.int .i64 ((((x.2.1)).getD ((k : Int)).toNat default).1.1))), (.dv [] (.int .i64 ((((x.2.1)).getD ((k : Int)).toNat default).1.2.1))), (.dv [] (.str ((((x.2.1)).getD ((k : Int)).toNat default).1.2.2))), (.dv [] (a0I ((((x.2.1)).getD ((k : Int)).toNat default).2)))])], [(11, some (a0b false (.sl 119 4 ((a0H f x.2.1 k).length) ((a0H f x.2.1 k).flatMap a0F))))]⟩) (fun zz => zz ≤ (a0H f x.2.1 k).length ∧ a3K f (x.2.1.getD (k : Int).toNat default) (a0H f x.2.1 k) (a0H f x.2.1 k).length = a3K f (x.2.1.getD (k : Int).toNat default) (a0H f x.2.1 k) zz) (fun zz => zz) ((a0H f x.2.1 k).length) ?_ (a0e ⟨rfl, rfl, rfl, rfl, rfl, rfl, rfl, rfl, trivial⟩ ⟨rfl, trivial⟩ ⟨rfl, trivial⟩ rfl) (fun zz hx => ?_)
   ·exact ⟨Nat.le_refl _, rfl⟩
   obtain ⟨j, rfl⟩ : ∃ v, v = zz := ⟨_, rfl⟩
   replace hx : j ≤ (a0H f x.2.1 k).length ∧ a3K f (x.2.1.getD (k : Int).toNat default) (a0H f x.2.1 k) (a0H f x.2.1 k).length = a3K f (x.2.1.getD (k : Int).toNat default) (a0H f x.2.1 k) j := hx
   obtain ⟨hj, hp⟩ := hx
   show Ok _ _ _ _ _ (⟨[(1, .one (.dv [] (.str (f)))), (4, .one .nil), (5, .one (.key 11)), (7, .box 7 0), (10, .one (.dv [] (.int .i64 ((j : Int))))), (13, .one (.dv [] (a0w (x.2.1)))), (14, .one (.dv [] (.int .i64 ((((x.2.1)).length : Int))))), (15, .one (.dv [] (.int .i64 ((k : Int)))))], [(7, 119, [(.dv [] (.int .i64 ((((x.2.1)).getD ((k : Int)).toNat default).1.1))), (.dv [] (.int .i64 ((((x.2.1)).getD ((k : Int)).toNat default).1.2.1))), (.dv [] (.str ((((x.2.1)).getD ((k : Int)).toNat default).1.2.2))), (.dv [] (a0I ((((x.2.1)).getD ((k : Int)).toNat default).2)))])], [(11, some (a0b false (.sl 119 4 ((a0H f x.2.1 k).length) ((a0H f x.2.1 k).flatMap a0F))))]⟩ : St)
   refine a0u ?_
   refine a0u ?_
   refine a1K (oB := [7]) (oK := [11]) (by kernel_rfl) rfl rfl ?_
   refine zD 0 ?_
   refine zD 1 ?_
   refine zD 2 ?_
   refine zDG 3 ?_
   refine a8t 4 rfl (by kernel_rfl) (a1t rfl rfl rfl rfl rfl) rfl (fun hg => a0M (v := .one (.dv [11] (a0w (a0H f x.2.1 k)))) (.inl rfl) (a2L (a0a rfl) rfl rfl)) rfl rfl rfl rfl ?_
   refine zDG 5 ?_
   refine zDG 6 ?_
   refine zDG 7 ?_
   refine zDG 8 ?_
   refine zDG 9 ?_
   refine a3J 10 rfl (by kernel_rfl) (a1t rfl rfl rfl rfl rfl) rfl rfl Tryz.call120 c7l (fun hg => (a0g (a0y rfl hg) (a0t (a0d a0c (a0d a0c (a0d a0c (a0d a0c a0r))))) (a0g (a0y rfl hg) (a0t (a0d a0c (a0d a0c (a0d a0c (a0d a0c a0r))))) (a0g (a0y rfl hg) (a0C a0c) a0q)))) rfl rfl ?_
   refine zD 11 ?_
   refine a1Q (by kernel_rfl) ?_
   refine z ?_
   refine yQ rfl (fun c3 => ?_) fun c3 => ?_
   ·have hst := c0j c3
    have hst1 := hst.1
    iterate 3 refine z ?_
    refine a0n ?_
    iterate 3 refine z ?_
    refine a1H ?_
    iterate 2 refine z ?_
    refine ⟨j - 1, ?_, ?_, a0e ⟨rfl, rfl, rfl, rfl, (congrArg (fun z : Int => some (SV.one (CV.dv [] (DV.int .i64 z)))) (show ((j : Int) - 1) = ((j - 1 : Nat) : Int) by omega)), rfl, rfl, rfl, trivial⟩ ⟨rfl, trivial⟩ ⟨rfl, trivial⟩ rfl⟩
    ·exact ⟨by omega, hp.trans hst.2⟩
    ·omega
   ·have hpos := hp.trans (c0M c3)
    iterate 5 refine z ?_
    refine a0n ?_
    iterate 3 refine z ?_
    refine zK 47000 Tryz.call94 ?_ (hf := b5k (by first | omega | exact Nat.le_trans (a6d _) hrec | exact Nat.le_trans (a6d _) (Nat.le_trans hrec (by decide))))
    refine a3H (k := 48) (js := [54003]) hT rfl rfl rfl rfl rfl rfl rfl rfl rfl (a0a rfl) rfl rfl (a0o (a0R rfl) (a0o (a0R rfl) (a0o (a0R rfl) (a0o (a1f rfl) a1y rfl) rfl) rfl) rfl) (by decide) (by decide) rfl rfl ?_
    simp only [a0p, a0k, SV.kill, CV.kill, kk, Nat.reduceBEq]
    refine b5b (k := 11) (j := 48) (cs := (a0H f x.2.1 (k + 1)).flatMap a0F) (n := (a0H f x.2.1 (k + 1)).length) (b6v rfl rfl (by decide)) rfl rfl Tryz.call121 rfl rfl (a0a rfl) rfl rfl rfl (a0a rfl) (by omega) (by dsimp only [a0b]; omega) (a0a rfl) rfl rfl rfl rfl (by decide) (by dsimp only [a0b]; omega) (by dsimp only [a0b]; omega) (by rw [b1K (by simpa using c2), a8N]) (by rw [b1K (by simpa using c2), hpos]; exact b9g) ?_
    simp only [a0p, a0k, SV.kill, CV.kill, kk, Nat.reduceBEq]
    refine z ?_
    refine a1H ?_
    iterate 2 refine z ?_
    refine a0n ?_
    iterate 3 refine z ?_
    refine ⟨k + 1, ?_, ?_, a0e ⟨rfl, rfl, rfl, rfl, rfl, rfl, trivial⟩ trivial ⟨rfl, trivial⟩ rfl⟩
    ·omega
    ·omega
 ·have d1 := c9g c1
  iterate 9 refine z ?_
  refine a0h (σ' := ⟨[(4, .one (.key 11))], [], [(11, some (a0b false (a0w (a0H f x.2.1 x.2.1.length))))]⟩) (a0e ⟨rfl, trivial⟩ trivial ⟨(congrArg (fun m : Nat => some (some (KC.mk false 119 4 (a0H f x.2.1 m).length ((a0H f x.2.1 m).flatMap a0F)))) (show k = x.2.1.length by omega)), trivial⟩ rfl) ?_
  refine z ?_
  refine a1r (a0l rfl) ?_
  exact ⟨rfl, rfl⟩
theorem c4m {x y : a0T} {f : Str}  : PFn Tryz.prog 115 [.agg [(.dv [] (.int .i64 (x.1.1))), (.dv [] (.int .i64 (x.1.2.1))), (.dv [] (.str (x.1.2.2))), (.dv [] (a0I (x.2)))], .agg [(.dv [] (.int .i64 (y.1.1))), (.dv [] (.int .i64 (y.1.2.1))), (.dv [] (.str (y.1.2.2))), (.dv [] (a0I (y.2)))], .one (.dv [] (.str (f)))] (.one (.dv [] (.bool (bef f x y)))) := by
 refine ⟨a0O Tryz.func115 rfl Tryz.ntmps115 Tryz.results115 rfl (fun C => ?_)⟩
 refine yF 0 0 rfl rfl fun f0_0 => ?_
 refine yF 0 1 rfl rfl fun f0_1 => ?_
 refine yF 0 2 rfl rfl fun f0_2 => ?_
 refine yF 0 3 rfl rfl fun f0_3 => ?_
 refine yF 1 0 rfl rfl fun f1_0 => ?_
 refine yF 1 1 rfl rfl fun f1_1 => ?_
 refine yF 1 2 rfl rfl fun f1_2 => ?_
 refine yF 1 3 rfl rfl fun f1_3 => ?_
 refine a1k (x := .tmp 2) (a0a rfl) fun f2 => ?_
 iterate 9 refine z ?_
 refine zC Tryz.call89 ?_ (hf := a7v)
 iterate 10 refine z ?_
 refine zC Tryz.call89 ?_ (hf := a7v)
 iterate 19 refine z ?_
 refine a1O (a3Y rfl rfl rfl rfl rfl) rfl rfl Tryz.call87 a9W (fun hg => (a0g (a0y rfl hg) (a0t (a0d a0c (a0d a0c (a0d a0c a0r)))) (a0g (a0y rfl hg) (a0t (a0d a0c (a0d a0c (a0d a0c a0r)))) a0q))) rfl rfl ?_
 iterate 7 refine z ?_
 unfold bef; grind
theorem c8o {x : a0G} {f : Str} (hb : a1g x ≤ 1048576) : KFn Tryz.prog 88 [.agg [(.dv [] (.str (x.1))), (.dv [] (a0w (x.2.1))), (.dv [] (.int .i64 (x.2.2)))], .one (.dv [] (.str (f)))] (.one (.key 11)) [(11, some (a0b false (a0w (a0H f x.2.1 x.2.1.length))))] := by
 refine ⟨a0O Tryz.func88 rfl Tryz.ntmps88 Tryz.results88 rfl (fun C => ?_)⟩
 refine yF 0 0 rfl rfl fun f0_0 => ?_
 refine yF 0 1 rfl rfl fun f0_1 => ?_
 refine yF 0 2 rfl rfl fun f0_2 => ?_
 refine a1k (x := .tmp 1) (a0a rfl) fun f1 => ?_
 iterate 5 refine z ?_
 refine a2J (k := 11) hT rfl rfl rfl rfl rfl rfl rfl rfl ?_
 iterate 7 refine z ?_
 refine a1o (ι := Nat) (fun zz => ⟨[(1, .one (.dv [] (.str (f)))), (2, .box 2 0), (4, .one .nil), (5, .one (.key 11)), (6, .one (.dv [] (.int .i64 ((zz : Int)))))], [(2, 77, [(.dv [] (.str (x.1))), (.dv [] (a0w (x.2.1))), (.dv [] (.int .i64 (x.2.2)))])], [(11, some (a0b false (.sl 119 4 ((a0H f x.2.1 zz).length) ((a0H f x.2.1 zz).flatMap a0F))))]⟩) (fun zz => zz ≤ x.2.1.length) (fun zz => x.2.1.length - zz) (0) ?_ (a0e ⟨rfl, rfl, rfl, rfl, rfl, trivial⟩ ⟨rfl, trivial⟩ ⟨rfl, trivial⟩ rfl) (fun zz hx => ?_)
 ·exact Nat.zero_le _
 obtain ⟨k, rfl⟩ : ∃ v, v = zz := ⟨_, rfl⟩
 replace hx : k ≤ x.2.1.length := hx
 have hw := fun h => a5D a1P x.2.1 k h
 have hol := b0m f x.2.1 k
 show Ok _ _ _ _ _ (⟨[(1, .one (.dv [] (.str (f)))), (2, .box 2 0), (4, .one .nil), (5, .one (.key 11)), (6, .one (.dv [] (.int .i64 ((k : Int)))))], [(2, 77, [(.dv [] (.str (x.1))), (.dv [] (a0w (x.2.1))), (.dv [] (.int .i64 (x.2.2)))])], [(11, some (a0b false (.sl 119 4 ((a0H f x.2.1 k).length) ((a0H f x.2.1 k).flatMap a0F))))]⟩ : St)
 iterate 8 refine z ?_
 refine yQ rfl (fun c1 => ?_) fun c1 => ?_
 ·have d1 := c9f c1
  have hk2 : k < x.2.1.length := by omega
  have hlen : x.2.1.length ≤ 1048576 := by have h3 : a1g x = x.1.size + (x.2.1.length + a0V a1P x.2.1) := rfl; omega
  have hrec : a1P (x.2.1.getD (k : Int).toNat default) ≤ 1099511627776 := by have := hw hk2; have h3 : a1g x = x.1.size + (x.2.1.length + a0V a1P x.2.1) := rfl; omega
  iterate 13 refine z ?_
  refine zC Tryz.call89 ?_ (hf := a7v)
  iterate 10 refine z ?_
  refine yQ rfl (fun c2 => ?_) fun c2 => ?_
  ·iterate 4 refine z ?_
   refine a0n ?_
   iterate 4 refine z ?_
   refine ⟨k + 1, ?_, ?_, a0e ⟨rfl, rfl, rfl, rfl, rfl, trivial⟩ ⟨rfl, trivial⟩ ⟨(congrArg (fun l : List a0T => some (some (KC.mk false 119 4 l.length (l.flatMap a0F)))) (b8G (by simpa using c2))), trivial⟩ rfl⟩
   ·omega
   ·omega
  ·iterate 4 refine z ?_
   refine yO rfl rfl (a2I (n := ((a0H f x.2.1 k).length)) hT rfl rfl (a0a rfl) rfl rfl) rfl ?_
   iterate 4 refine z ?_
   refine a1o (ι := Nat) (fun zz => ⟨[(1, .one (.dv [] (.str (f)))), (2, .box 2 0), (4, .one .nil), (5, .one (.key 11)), (6, .one (.dv [] (.int .i64 ((k : Int))))), (9, .one (.dv [] (.int .i64 ((zz : Int)))))], [(2, 77, [(.dv [] (.str (x.1))), (.dv [] (a0w (x.2.1))), (.dv [] (.int .i64 (x.2.2)))])], [(11, some (a0b false (.sl 119 4 ((a0H f x.2.1 k).length) ((a0H f x.2.1 k).flatMap a0F))))]⟩) (fun zz => zz ≤ (a0H f x.2.1 k).length ∧ a3K f (x.2.1.getD (k : Int).toNat default) (a0H f x.2.1 k) (a0H f x.2.1 k).length = a3K f (x.2.1.getD (k : Int).toNat default) (a0H f x.2.1 k) zz) (fun zz => zz) ((a0H f x.2.1 k).length) ?_ (a0e ⟨rfl, rfl, rfl, rfl, rfl, rfl, trivial⟩ ⟨rfl, trivial⟩ ⟨rfl, trivial⟩ rfl) (fun zz hx => ?_)
   ·exact ⟨Nat.le_refl _, rfl⟩
   obtain ⟨j, rfl⟩ : ∃ v, v = zz := ⟨_, rfl⟩
   replace hx : j ≤ (a0H f x.2.1 k).length ∧ a3K f (x.2.1.getD (k : Int).toNat default) (a0H f x.2.1 k) (a0H f x.2.1 k).length = a3K f (x.2.1.getD (k : Int).toNat default) (a0H f x.2.1 k) j := hx
   obtain ⟨hj, hp⟩ := hx
   show Ok _ _ _ _ _ (⟨[(1, .one (.dv [] (.str (f)))), (2, .box 2 0), (4, .one .nil), (5, .one (.key 11)), (6, .one (.dv [] (.int .i64 ((k : Int))))), (9, .one (.dv [] (.int .i64 ((j : Int)))))], [(2, 77, [(.dv [] (.str (x.1))), (.dv [] (a0w (x.2.1))), (.dv [] (.int .i64 (x.2.2)))])], [(11, some (a0b false (.sl 119 4 ((a0H f x.2.1 k).length) ((a0H f x.2.1 k).flatMap a0F))))]⟩ : St)
   refine a0u ?_
   refine a0u ?_
   refine a1K (oB := [2]) (oK := [11]) (by kernel_rfl) rfl rfl ?_
   refine zD 0 ?_
   refine zD 1 ?_
   refine zD 2 ?_
   refine zDG 3 ?_
   refine zDG 4 ?_
   refine zDG 5 ?_
   refine zDG 6 ?_
   refine zDG 7 ?_
   refine a8t 8 rfl (by kernel_rfl) (a1t rfl rfl rfl rfl rfl) rfl (fun hg => a0M (v := .one (.dv [11] (a0w (a0H f x.2.1 k)))) (.inl rfl) (a2L (a0a rfl) rfl rfl)) rfl rfl rfl rfl ?_
   refine zDG 9 ?_
   refine zDG 10 ?_
   refine zDG 11 ?_
   refine zDG 12 ?_
   refine zDG 13 ?_
   refine a3J 14 rfl (by kernel_rfl) (a1t rfl rfl rfl rfl rfl) rfl rfl Tryz.call115 c4m (fun hg => (a0g (a0y rfl hg) (a0t (a0d a0c (a0d a0c (a0d a0c (a0d a0c a0r))))) (a0g (a0y rfl hg) (a0t (a0d a0c (a0d a0c (a0d a0c (a0d a0c a0r))))) (a0g (a0y rfl hg) (a0C a0c) a0q)))) rfl rfl ?_
   refine zD 15 ?_
   refine a1Q (by kernel_rfl) ?_
   refine z ?_
   refine yQ rfl (fun c3 => ?_) fun c3 => ?_
   ·have hst := c0j c3
    have hst1 := hst.1
    iterate 3 refine z ?_
    refine a0n ?_
    iterate 3 refine z ?_
    refine a1H ?_
    iterate 2 refine z ?_
    refine ⟨j - 1, ?_, ?_, a0e ⟨rfl, rfl, rfl, rfl, rfl, (congrArg (fun z : Int => some (SV.one (CV.dv [] (DV.int .i64 z)))) (show ((j : Int) - 1) = ((j - 1 : Nat) : Int) by omega)), trivial⟩ ⟨rfl, trivial⟩ ⟨rfl, trivial⟩ rfl⟩
    ·exact ⟨by omega, hp.trans hst.2⟩
    ·omega
   ·have hpos := hp.trans (c0M c3)
    iterate 6 refine z ?_
    refine a2J (k := 52) hT rfl rfl rfl rfl rfl rfl rfl rfl ?_
    iterate 2 refine z ?_
    refine b4Y (k := 52) (j := 11) (s := 5) (n := ((a0H f x.2.1 k).take j).length) (cs := ((a0H f x.2.1 k).take j).flatMap a0F) (c2s := List.replicate (j * 4) .hole ++ ((a0H f x.2.1 k).drop j).flatMap a0F) hT rfl rfl rfl (b3u hT rfl rfl rfl (a0a rfl) rfl (a0a rfl) (by omega) (by dsimp only [a0b]; omega)) rfl rfl rfl rfl rfl rfl rfl (a0a rfl) rfl rfl rfl rfl rfl rfl (by decide) rfl rfl ⟨rfl, rfl⟩ (by omega) (by dsimp only [a0b]; omega) (by dsimp only [a0b]; omega) (by dsimp only [a0b]; omega) (by rw [c9j, Nat.min_eq_left (by omega)]; simp) (b5C) (b9W) ?_
    simp only [a0p, a0k, SV.kill, CV.kill, kk, Nat.reduceBEq]
    iterate 9 refine z ?_
    refine zK 63000 Tryz.call84 ?_ (hf := b4p (by first | omega | exact Nat.le_trans (a6d _) hrec | exact Nat.le_trans (a6d _) (Nat.le_trans hrec (by decide))))
    refine a3H (k := 64) (js := [70003]) hT rfl rfl rfl rfl rfl rfl rfl rfl rfl (a0a rfl) rfl rfl (a0o (a0R rfl) (a0o (a0R rfl) (a0o (a0R rfl) (a0o (a1f rfl) a1y rfl) rfl) rfl) rfl) (by decide) (by decide) rfl rfl ?_
    simp only [a0p, a0k, SV.kill, CV.kill, kk, Nat.reduceBEq]
    refine a3f (k := 52) (j := 64) (cs := ((a0H f x.2.1 k).take j ++ [(x.2.1.getD (k : Int).toNat default)]).flatMap a0F) (n := ((a0H f x.2.1 k).take j ++ [(x.2.1.getD (k : Int).toNat default)]).length) hT rfl rfl rfl rfl rfl rfl rfl (a0a rfl) rfl rfl rfl (a0a rfl) rfl rfl (by decide) (by dsimp only [a0b]; simp only [c9j]; omega) (by dsimp only [a0b]; simp only [c9j]; omega) (by simp) (by rw [List.flatMap_append]; rfl) ?_
    simp only [a0p, a0k, SV.kill, CV.kill, kk, Nat.reduceBEq]
    iterate 2 refine z ?_
    refine a0n ?_
    iterate 3 refine z ?_
    refine b4Y (k := 52) (j := 11) (s := 5) (n := (a0H f x.2.1 (k + 1)).length) (cs := (a0H f x.2.1 (k + 1)).flatMap a0F) (c2s := _) hT rfl rfl rfl (b4x hT rfl rfl rfl (a0a rfl) rfl (a0a rfl) (by omega) (by dsimp only [a0b]; omega)) rfl rfl rfl rfl rfl rfl rfl (a0a rfl) rfl rfl rfl rfl rfl rfl (by decide) rfl rfl ⟨rfl, rfl⟩ (by dsimp only [a0b]; omega) (by dsimp only [a0b]; omega) (by dsimp only [a0b]; simp only [c9i, c9j, List.length_singleton]; omega) (by dsimp only [a0b]; simp only [c9i, c9j, List.length_singleton]; omega) (by rw [b1K (by simpa using c2), a8N]; simp; omega) (by rw [b1K (by simpa using c2), hpos]; exact b7q hj) (rfl) ?_
    simp only [a0p, a0k, SV.kill, CV.kill, kk, Nat.reduceBEq]
    refine z ?_
    refine a1H ?_
    iterate 2 refine z ?_
    refine a0h (b0S (s := 5) (k := 52) (k' := 11) rfl rfl rfl (by decide) rfl) ?_
    simp only [a0p, a0k, SV.kill, CV.kill, kk, Nat.reduceBEq]
    refine a0n ?_
    iterate 4 refine z ?_
    refine ⟨k + 1, ?_, ?_, a0e ⟨rfl, rfl, rfl, rfl, rfl, trivial⟩ ⟨rfl, trivial⟩ ⟨rfl, trivial⟩ rfl⟩
    ·omega
    ·omega
 ·have d1 := c9g c1
  iterate 9 refine z ?_
  refine a0h (σ' := ⟨[(4, .one (.key 11))], [], [(11, some (a0b false (a0w (a0H f x.2.1 x.2.1.length))))]⟩) (a0e ⟨rfl, trivial⟩ trivial ⟨(congrArg (fun m : Nat => some (some (KC.mk false 119 4 (a0H f x.2.1 m).length ((a0H f x.2.1 m).flatMap a0F)))) (show k = x.2.1.length by omega)), trivial⟩ rfl) ?_
  refine z ?_
  refine a1r (a0l rfl) ?_
  exact ⟨rfl, rfl⟩
def a8o (f : Str) (l : List a0T) (k : Nat) : Bool := decide ((a0Z (l.getD (k - 1) default).2 f).1 = (a0Z (l.getD k default).2 f).1)
def ufN (f : Str) (l : List a0T) : Nat → Option Nat
 | 0 => none
 | k + 1 => (ufN f l k).or (if 1 ≤ k ∧ a8o f l k = true then some k else none)
def a3m (f : Str) (l : List a0T) : a0K × a0K × Bool := match ufN f l l.length with
 | some m => ((l.getD (m - 1) default).1, (l.getD m default).1, true)
 | none => ((0, 0, ByteArray.empty), (0, 0, ByteArray.empty), false)
theorem b9E {f : Str} {l : List a0T} {k m : Nat} (h : ufN f l k = some m) : ∀ d, ufN f l (k + d) = some m
 | 0 => h
 | d + 1 => by rw [← Nat.add_assoc, ufN, b9E h d]; rfl
theorem b5l {f : Str} {l : List a0T} {k : Nat} (h : ufN f l k = none) (h1 : 1 ≤ k) (hk : k < l.length) (hs : a8o f l k = true) : a3m f l = ((l.getD (k - 1) default).1, (l.getD k default).1, true) := by
 have h2 : ufN f l (k + 1) = some k := by rw [ufN, h, if_pos ⟨h1, hs⟩]; rfl
 have h3 := b9E h2 (l.length - (k + 1))
 rw [show k + 1 + (l.length - (k + 1)) = l.length by omega] at h3
 rw [a3m, h3]
theorem b5Q {f : Str} {l : List a0T} (h : ufN f l l.length = none) : a3m f l = ((0, 0, ByteArray.empty), (0, 0, ByteArray.empty), false) := by rw [a3m, h]
theorem b5v {f : Str} {l : List a0T} {k : Nat} (h : ufN f l k = none) (hs : a8o f l k = false) : ufN f l (k + 1) = none := by rw [ufN, h, if_neg (by rw [hs]; simp)]; rfl
theorem b2C {f : Str} {l : List a0T} {k : Nat} (h1 : 1 ≤ k) : (a0Z (l.getD ((k : Int) - 1).toNat default).2 f).1 = (a0Z (l.getD (k : Int).toNat default).2 f).1 ↔ a8o f l k = true := by
 rw [show ((k : Int) - 1).toNat = k - 1 by omega, Int.toNat_natCast, a8o, decide_eq_true_iff]
theorem b9k {f : Str} {l : List a0T} {k : Nat} (h1 : 1 ≤ k) (h : ¬ (a0Z (l.getD ((k : Int) - 1).toNat default).2 f).1 = (a0Z (l.getD (k : Int).toNat default).2 f).1) : a8o f l k = false := by
 rw [b2C h1] at h; simpa using h
theorem b5m {f : Str} {l : List a0T} {k : Nat} (hu : ufN f l k = none) (hk : k ≤ 1 ∨ k ≤ l.length) (h : ¬ (k : Int) < (l.length : Int)) : ufN f l l.length = none := by
 by_cases e : l.length = k
 ·rw [e]; exact hu
 ·have : l.length = 0 := by omega
  rw [this]; rfl
theorem c6D {x : a0G} {f : Str} (hb : a1g x ≤ 1048576) : PFn Tryz.prog 77 [.agg [(.dv [] (.str (x.1))), (.dv [] (a0w (x.2.1))), (.dv [] (.int .i64 (x.2.2)))], .one (.dv [] (.str (f)))] (.tup [(true, [(.dv [] (.int .i64 ((a3m f (a0H f x.2.1 x.2.1.length)).1.1))), (.dv [] (.int .i64 ((a3m f (a0H f x.2.1 x.2.1.length)).1.2.1))), (.dv [] (.str ((a3m f (a0H f x.2.1 x.2.1.length)).1.2.2)))]), (true, [(.dv [] (.int .i64 ((a3m f (a0H f x.2.1 x.2.1.length)).2.1.1))), (.dv [] (.int .i64 ((a3m f (a0H f x.2.1 x.2.1.length)).2.1.2.1))), (.dv [] (.str ((a3m f (a0H f x.2.1 x.2.1.length)).2.1.2.2)))]), (false, [(.dv [] (.bool ((a3m f (a0H f x.2.1 x.2.1.length)).2.2)))])]) := by
 refine ⟨a0O Tryz.func77 rfl Tryz.ntmps77 Tryz.results77 rfl (fun C => ?_)⟩
 refine yF 0 0 rfl rfl fun f0_0 => ?_
 refine yF 0 1 rfl rfl fun f0_1 => ?_
 refine yF 0 2 rfl rfl fun f0_2 => ?_
 refine a1k (x := .tmp 1) (a0a rfl) fun f1 => ?_
 iterate 9 refine z ?_
 refine zK 0 Tryz.call104 ?_ (hf := c8Y (by omega))
 iterate 7 refine z ?_
 refine a1o (ι := Nat) (fun zz => ⟨[(1, .one (.dv [] (.str (f)))), (4, .box 4 0), (5, .box 5 0), (7, .one (.key 11)), (8, .one (.dv [] (.int .i64 ((zz : Int)))))], [(4, 60, [(.dv [] (.int .i64 (0))), (.dv [] (.int .i64 (0))), (.dv [] (.str (ByteArray.empty)))]), (5, 60, [(.dv [] (.int .i64 (0))), (.dv [] (.int .i64 (0))), (.dv [] (.str (ByteArray.empty)))])], [(11, some (a0b false (.sl 119 4 ((a0H f x.2.1 x.2.1.length).length) ((a0H f x.2.1 x.2.1.length).flatMap a0F))))]⟩) (fun zz => 1 ≤ zz ∧ (zz ≤ 1 ∨ zz ≤ (a0H f x.2.1 x.2.1.length).length) ∧ ufN f (a0H f x.2.1 x.2.1.length) zz = none) (fun zz => (a0H f x.2.1 x.2.1.length).length - zz) (1) ?_ (a0e ⟨rfl, rfl, rfl, rfl, rfl, trivial⟩ ⟨rfl, rfl, trivial⟩ ⟨rfl, trivial⟩ rfl) (fun zz hx => ?_)
 ·exact ⟨Nat.le_refl _, .inl (Nat.le_refl _), rfl⟩
 obtain ⟨k, rfl⟩ : ∃ v, v = zz := ⟨_, rfl⟩
 replace hx : 1 ≤ k ∧ (k ≤ 1 ∨ k ≤ (a0H f x.2.1 x.2.1.length).length) ∧ ufN f (a0H f x.2.1 x.2.1.length) k = none := hx
 obtain ⟨h1, hk, hu⟩ := hx
 have hlw := b0m f x.2.1 x.2.1.length
 have hlen : x.2.1.length ≤ 1048576 := by have h3 : a1g x = x.1.size + (x.2.1.length + a0V a1P x.2.1) := rfl; omega
 show Ok _ _ _ _ _ (⟨[(1, .one (.dv [] (.str (f)))), (4, .box 4 0), (5, .box 5 0), (7, .one (.key 11)), (8, .one (.dv [] (.int .i64 ((k : Int)))))], [(4, 60, [(.dv [] (.int .i64 (0))), (.dv [] (.int .i64 (0))), (.dv [] (.str (ByteArray.empty)))]), (5, 60, [(.dv [] (.int .i64 (0))), (.dv [] (.int .i64 (0))), (.dv [] (.str (ByteArray.empty)))])], [(11, some (a0b false (.sl 119 4 ((a0H f x.2.1 x.2.1.length).length) ((a0H f x.2.1 x.2.1.length).flatMap a0F))))]⟩ : St)
 iterate 3 refine z ?_
 refine yO rfl rfl (a0M (v := .one (.dv [11] (a0w (a0H f x.2.1 x.2.1.length)))) (.inl rfl) (a2L (a0a rfl) rfl rfl)) rfl ?_
 iterate 3 refine z ?_
 refine yQ rfl (fun c1 => ?_) fun c1 => ?_
 ·have d1 := c9f c1
  iterate 5 refine z ?_
  refine yO rfl rfl (a0M (v := .one (.dv [11] (a0w (a0H f x.2.1 x.2.1.length)))) (.inl rfl) (a2L (a0a rfl) rfl rfl)) rfl ?_
  iterate 6 refine z ?_
  refine zC Tryz.call105 ?_ (hf := a5U)
  iterate 7 refine z ?_
  refine yO rfl rfl (a0M (v := .one (.dv [11] (a0w (a0H f x.2.1 x.2.1.length)))) (.inl rfl) (a2L (a0a rfl) rfl rfl)) rfl ?_
  iterate 5 refine z ?_
  refine zC Tryz.call105 ?_ (hf := a5U)
  iterate 11 refine z ?_
  refine yQ rfl (fun c2 => ?_) fun c2 => ?_
  ·have d2 := c9f c2
   refine a0u ?_
   refine a9I 4 (oB := [5]) (oK := [11]) (by kernel_rfl) rfl rfl ?_
   refine a1I 0 rfl (by kernel_rfl) rfl rfl (a0M (v := .one (.dv [11] (a0w (a0H f x.2.1 x.2.1.length)))) (.inl rfl) (a2L (a0a rfl) rfl rfl)) rfl rfl rfl rfl rfl ?_
   refine a1I 1 rfl (by kernel_rfl) rfl rfl (a0M (.inl rfl) (a0a rfl)) rfl rfl rfl rfl rfl ?_
   refine a1I 2 rfl (by kernel_rfl) rfl rfl (a9u rfl (a0a rfl) (a0i (a0j rfl)) (a2P (by omega) (by omega))) rfl rfl rfl rfl rfl ?_
   refine a1I 3 rfl (by kernel_rfl) rfl rfl (a5k hT rfl rfl rfl (a0a rfl) (a0a rfl) (fun _ => rfl) (by omega) (by omega)) rfl rfl rfl rfl rfl ?_
   refine a1I 4 rfl (by kernel_rfl) rfl rfl (a5Q hT rfl rfl rfl (a0a rfl)) rfl rfl rfl rfl rfl ?_
   refine a1I 5 rfl (by kernel_rfl) rfl rfl (b0p hT rfl rfl (a0a rfl) rfl) rfl rfl rfl rfl rfl ?_
   refine a1I 6 rfl (by kernel_rfl) rfl rfl (a0M (v := .one (.dv [11] (a0w (a0H f x.2.1 x.2.1.length)))) (.inl rfl) (a2L (a0a rfl) rfl rfl)) rfl rfl rfl rfl rfl ?_
   refine a1I 7 rfl (by kernel_rfl) rfl rfl (a0M (.inl rfl) (a0a rfl)) rfl rfl rfl rfl rfl ?_
   refine a1I 8 rfl (by kernel_rfl) rfl rfl (a5k hT rfl rfl rfl (a0a rfl) (a0a rfl) (fun _ => rfl) (by omega) (by omega)) rfl rfl rfl rfl rfl ?_
   refine a1I 9 rfl (by kernel_rfl) rfl rfl (a5Q hT rfl rfl rfl (a0a rfl)) rfl rfl rfl rfl rfl ?_
   refine a1I 10 rfl (by kernel_rfl) rfl rfl (b0p hT rfl rfl (a0a rfl) rfl) rfl rfl rfl rfl rfl ?_
   refine a9c 11 rfl (by kernel_rfl) rfl hT rfl rfl rfl (a0a rfl) (a0a rfl) rfl rfl rfl rfl rfl rfl ?_
   refine a9F [12, 13] rfl rfl (by kernel_rfl) ?_
   iterate 9 refine z ?_
   refine a1U (a0E hT rfl rfl rfl rfl) (a0E hT rfl rfl rfl rfl) (a0l rfl) rfl rfl rfl ?_
   rw [b5l hu h1 (by omega) ((b2C h1).1 d2), show ((k : Int) - 1).toNat = k - 1 by omega] <;> rfl
  ·have d2 := c9g c2
   iterate 3 refine z ?_
   refine a0n ?_
   iterate 4 refine z ?_
   refine ⟨k + 1, ?_, ?_, a0e ⟨rfl, rfl, rfl, rfl, rfl, trivial⟩ ⟨rfl, rfl, trivial⟩ ⟨rfl, trivial⟩ rfl⟩
   ·exact ⟨by omega, .inr (by omega), b5v hu (b9k h1 d2)⟩
   ·omega
 ·have d1 := c9g c1
  iterate 6 refine z ?_
  refine yO rfl rfl (a1v hT hB rfl rfl rfl a1w) rfl ?_
  refine yO rfl rfl (a1v hT hB rfl rfl rfl a1w) rfl ?_
  iterate 5 refine z ?_
  refine a1U (a0E hT rfl rfl rfl rfl) (a0E hT rfl rfl rfl rfl) (a0l rfl) rfl rfl rfl ?_
  rw [b5Q (b5m hu hk d1)] <;> rfl
theorem c1Q {x : a0G} {f : Str} (hb : a1g x ≤ 1048576) : PFn Tryz.prog 53 [.agg [(.dv [] (.str (x.1))), (.dv [] (a0w (x.2.1))), (.dv [] (.int .i64 (x.2.2)))], .one (.dv [] (.str (f)))] (.tup [(true, [(.dv [] (.int .i64 ((a3m f (a0H f x.2.1 x.2.1.length)).1.1))), (.dv [] (.int .i64 ((a3m f (a0H f x.2.1 x.2.1.length)).1.2.1))), (.dv [] (.str ((a3m f (a0H f x.2.1 x.2.1.length)).1.2.2)))]), (true, [(.dv [] (.int .i64 ((a3m f (a0H f x.2.1 x.2.1.length)).2.1.1))), (.dv [] (.int .i64 ((a3m f (a0H f x.2.1 x.2.1.length)).2.1.2.1))), (.dv [] (.str ((a3m f (a0H f x.2.1 x.2.1.length)).2.1.2.2)))]), (false, [(.dv [] (.bool ((a3m f (a0H f x.2.1 x.2.1.length)).2.2)))])]) := by
 refine ⟨a0O Tryz.func53 rfl Tryz.ntmps53 Tryz.results53 rfl (fun C => ?_)⟩
 refine yF 0 0 rfl rfl fun f0_0 => ?_
 refine yF 0 1 rfl rfl fun f0_1 => ?_
 refine yF 0 2 rfl rfl fun f0_2 => ?_
 refine a1k (x := .tmp 1) (a0a rfl) fun f1 => ?_
 iterate 9 refine z ?_
 refine zK 0 Tryz.call88 ?_ (hf := c8o (by omega))
 iterate 7 refine z ?_
 refine a1o (ι := Nat) (fun zz => ⟨[(1, .one (.dv [] (.str (f)))), (4, .box 4 0), (5, .box 5 0), (7, .one (.key 11)), (8, .one (.dv [] (.int .i64 ((zz : Int)))))], [(4, 60, [(.dv [] (.int .i64 (0))), (.dv [] (.int .i64 (0))), (.dv [] (.str (ByteArray.empty)))]), (5, 60, [(.dv [] (.int .i64 (0))), (.dv [] (.int .i64 (0))), (.dv [] (.str (ByteArray.empty)))])], [(11, some (a0b false (.sl 119 4 ((a0H f x.2.1 x.2.1.length).length) ((a0H f x.2.1 x.2.1.length).flatMap a0F))))]⟩) (fun zz => 1 ≤ zz ∧ (zz ≤ 1 ∨ zz ≤ (a0H f x.2.1 x.2.1.length).length) ∧ ufN f (a0H f x.2.1 x.2.1.length) zz = none) (fun zz => (a0H f x.2.1 x.2.1.length).length - zz) (1) ?_ (a0e ⟨rfl, rfl, rfl, rfl, rfl, trivial⟩ ⟨rfl, rfl, trivial⟩ ⟨rfl, trivial⟩ rfl) (fun zz hx => ?_)
 ·exact ⟨Nat.le_refl _, .inl (Nat.le_refl _), rfl⟩
 obtain ⟨k, rfl⟩ : ∃ v, v = zz := ⟨_, rfl⟩
 replace hx : 1 ≤ k ∧ (k ≤ 1 ∨ k ≤ (a0H f x.2.1 x.2.1.length).length) ∧ ufN f (a0H f x.2.1 x.2.1.length) k = none := hx
 obtain ⟨h1, hk, hu⟩ := hx
 have hlw := b0m f x.2.1 x.2.1.length
 have hlen : x.2.1.length ≤ 1048576 := by have h3 : a1g x = x.1.size + (x.2.1.length + a0V a1P x.2.1) := rfl; omega
 show Ok _ _ _ _ _ (⟨[(1, .one (.dv [] (.str (f)))), (4, .box 4 0), (5, .box 5 0), (7, .one (.key 11)), (8, .one (.dv [] (.int .i64 ((k : Int)))))], [(4, 60, [(.dv [] (.int .i64 (0))), (.dv [] (.int .i64 (0))), (.dv [] (.str (ByteArray.empty)))]), (5, 60, [(.dv [] (.int .i64 (0))), (.dv [] (.int .i64 (0))), (.dv [] (.str (ByteArray.empty)))])], [(11, some (a0b false (.sl 119 4 ((a0H f x.2.1 x.2.1.length).length) ((a0H f x.2.1 x.2.1.length).flatMap a0F))))]⟩ : St)
 iterate 3 refine z ?_
 refine yO rfl rfl (a0M (v := .one (.dv [11] (a0w (a0H f x.2.1 x.2.1.length)))) (.inl rfl) (a2L (a0a rfl) rfl rfl)) rfl ?_
 iterate 3 refine z ?_
 refine yQ rfl (fun c1 => ?_) fun c1 => ?_
 ·have d1 := c9f c1
  iterate 5 refine z ?_
  refine yO rfl rfl (a0M (v := .one (.dv [11] (a0w (a0H f x.2.1 x.2.1.length)))) (.inl rfl) (a2L (a0a rfl) rfl rfl)) rfl ?_
  iterate 6 refine z ?_
  refine zC Tryz.call89 ?_ (hf := a7v)
  iterate 7 refine z ?_
  refine yO rfl rfl (a0M (v := .one (.dv [11] (a0w (a0H f x.2.1 x.2.1.length)))) (.inl rfl) (a2L (a0a rfl) rfl rfl)) rfl ?_
  iterate 5 refine z ?_
  refine zC Tryz.call89 ?_ (hf := a7v)
  iterate 11 refine z ?_
  refine yQ rfl (fun c2 => ?_) fun c2 => ?_
  ·have d2 := c9f c2
   refine a0u ?_
   refine a9I 4 (oB := [5]) (oK := [11]) (by kernel_rfl) rfl rfl ?_
   refine a1I 0 rfl (by kernel_rfl) rfl rfl (a0M (v := .one (.dv [11] (a0w (a0H f x.2.1 x.2.1.length)))) (.inl rfl) (a2L (a0a rfl) rfl rfl)) rfl rfl rfl rfl rfl ?_
   refine a1I 1 rfl (by kernel_rfl) rfl rfl (a0M (.inl rfl) (a0a rfl)) rfl rfl rfl rfl rfl ?_
   refine a1I 2 rfl (by kernel_rfl) rfl rfl (a9u rfl (a0a rfl) (a0i (a0j rfl)) (a2P (by omega) (by omega))) rfl rfl rfl rfl rfl ?_
   refine a1I 3 rfl (by kernel_rfl) rfl rfl (a5k hT rfl rfl rfl (a0a rfl) (a0a rfl) (fun _ => rfl) (by omega) (by omega)) rfl rfl rfl rfl rfl ?_
   refine a1I 4 rfl (by kernel_rfl) rfl rfl (a5Q hT rfl rfl rfl (a0a rfl)) rfl rfl rfl rfl rfl ?_
   refine a1I 5 rfl (by kernel_rfl) rfl rfl (b0p hT rfl rfl (a0a rfl) rfl) rfl rfl rfl rfl rfl ?_
   refine a1I 6 rfl (by kernel_rfl) rfl rfl (a0M (v := .one (.dv [11] (a0w (a0H f x.2.1 x.2.1.length)))) (.inl rfl) (a2L (a0a rfl) rfl rfl)) rfl rfl rfl rfl rfl ?_
   refine a1I 7 rfl (by kernel_rfl) rfl rfl (a0M (.inl rfl) (a0a rfl)) rfl rfl rfl rfl rfl ?_
   refine a1I 8 rfl (by kernel_rfl) rfl rfl (a5k hT rfl rfl rfl (a0a rfl) (a0a rfl) (fun _ => rfl) (by omega) (by omega)) rfl rfl rfl rfl rfl ?_
   refine a1I 9 rfl (by kernel_rfl) rfl rfl (a5Q hT rfl rfl rfl (a0a rfl)) rfl rfl rfl rfl rfl ?_
   refine a1I 10 rfl (by kernel_rfl) rfl rfl (b0p hT rfl rfl (a0a rfl) rfl) rfl rfl rfl rfl rfl ?_
   refine a9c 11 rfl (by kernel_rfl) rfl hT rfl rfl rfl (a0a rfl) (a0a rfl) rfl rfl rfl rfl rfl rfl ?_
   refine a9F [12, 13] rfl rfl (by kernel_rfl) ?_
   iterate 9 refine z ?_
   refine a1U (a0E hT rfl rfl rfl rfl) (a0E hT rfl rfl rfl rfl) (a0l rfl) rfl rfl rfl ?_
   rw [b5l hu h1 (by omega) ((b2C h1).1 d2), show ((k : Int) - 1).toNat = k - 1 by omega] <;> rfl
  ·have d2 := c9g c2
   iterate 3 refine z ?_
   refine a0n ?_
   iterate 4 refine z ?_
   refine ⟨k + 1, ?_, ?_, a0e ⟨rfl, rfl, rfl, rfl, rfl, trivial⟩ ⟨rfl, rfl, trivial⟩ ⟨rfl, trivial⟩ rfl⟩
   ·exact ⟨by omega, .inr (by omega), b5v hu (b9k h1 d2)⟩
   ·omega
 ·have d1 := c9g c1
  iterate 6 refine z ?_
  refine yO rfl rfl (a1v hT hB rfl rfl rfl a1w) rfl ?_
  refine yO rfl rfl (a1v hT hB rfl rfl rfl a1w) rfl ?_
  iterate 5 refine z ?_
  refine a1U (a0E hT rfl rfl rfl rfl) (a0E hT rfl rfl rfl rfl) (a0l rfl) rfl rfl rfl ?_
  rw [b5Q (b5m hu hk d1)] <;> rfl
def a4f (s : a0G) (i : Nat) : Bool := (!a1a (s.2.1.getD (i : Int).toNat default).1 || !a1b (s.2.1.getD (i : Int).toNat default).2) ||
 (decide ((0 : Int) < (i : Int)) && decide (0 ≤ a2K (s.2.1.getD ((i : Int) - 1).toNat default).1 (s.2.1.getD (i : Int).toNat default).1))
def a1i (s : a0G) : Bool := (List.range s.2.1.length).all (fun i => !a4f s i) && (a2e s.1 && decide ((s.2.1.length : Int) ≤ 16) && (decide ((0 : Int) ≤ s.2.2) && decide (s.2.2 ≤ 1000000)))
def kEq (a b : a0K) : Bool := decide (a.1 = b.1) && (decide (a.2.1 = b.2.1) && sEq a.2.2 b.2.2)
def a0S (x : a0G) (k : a0K) : Int := a0s (fun y : a0T => kEq y.1 k) x.2.1 0
theorem b2e {xs : List a0T} {k : Nat} (hk : k < xs.length) : (xs.take k).flatMap a0F ++ a0F (xs.getD (k : Int).toNat default) = (xs.take (k + 1)).flatMap a0F ∧ (xs.take k).length + 1 = (xs.take (k + 1)).length := by
 have e : xs.getD (k : Int).toNat default = xs[k] := by simp [List.getD, List.getElem?_eq_getElem hk]
 rw [List.take_add_one, List.getElem?_eq_getElem hk, e]
 simp only [Option.toList_some, List.flatMap_append, List.flatMap_cons, List.flatMap_nil, List.append_nil, c9i, List.length_singleton]
 exact ⟨trivial, trivial⟩
theorem a8v {s : a0G}  : PFn Tryz.prog 74 [.agg [(.dv [] (.str (s.1))), (.dv [] (a0w (s.2.1))), (.dv [] (.int .i64 (s.2.2)))]] (.one (.dv [] (.bool (a1i s)))) := by
 refine ⟨a0O Tryz.func74 rfl Tryz.ntmps74 Tryz.results74 rfl (fun C => ?_)⟩
 refine yF 0 0 rfl rfl fun f0_0 => ?_
 refine yF 0 1 rfl rfl fun f0_1 => ?_
 refine yF 0 2 rfl rfl fun f0_2 => ?_
 iterate 12 refine z ?_
 refine a1o (ι := Nat) (fun zz => ⟨[(1, .box 1 0), (6, .one (.dv [] (a0w (s.2.1)))), (7, .one (.dv [] (.int .i64 ((((s.2.1)).length : Int))))), (8, .one (.dv [] (.int .i64 ((zz : Int)))))], [(1, 77, [(.dv [] (.str (s.1))), (.dv [] (a0w (s.2.1))), (.dv [] (.int .i64 (s.2.2)))])], []⟩) (fun zz => zz ≤ s.2.1.length ∧ (List.range zz).all (fun i => !a4f s i) = true) (fun zz => s.2.1.length - zz) (0) ?_ (a0e ⟨rfl, rfl, rfl, rfl, trivial⟩ ⟨rfl, trivial⟩ trivial rfl) (fun zz hx => ?_)
 ·exact ⟨Nat.zero_le _, rfl⟩
 obtain ⟨k, rfl⟩ : ∃ v, v = zz := ⟨_, rfl⟩
 replace hx : k ≤ s.2.1.length ∧ (List.range k).all (fun i => !a4f s i) = true := hx
 obtain ⟨hk, hall⟩ := hx
 show Ok _ _ _ _ _ (⟨[(1, .box 1 0), (6, .one (.dv [] (a0w (s.2.1)))), (7, .one (.dv [] (.int .i64 ((((s.2.1)).length : Int))))), (8, .one (.dv [] (.int .i64 ((k : Int)))))], [(1, 77, [(.dv [] (.str (s.1))), (.dv [] (a0w (s.2.1))), (.dv [] (.int .i64 (s.2.2)))])], []⟩ : St)
 iterate 3 refine z ?_
 refine a0u ?_
 refine yQ rfl (fun c1 => ?_) fun c1 => ?_
 ·have d1 := c9f c1
  iterate 12 refine z ?_
  refine a0u ?_
  refine a1K (oB := [1, 4]) (oK := []) (by kernel_rfl) rfl rfl ?_
  refine zD 0 ?_
  refine zD 1 ?_
  refine a5C 2 rfl (by kernel_rfl) rfl rfl rfl Tryz.call80 a5N (a0g (a0a rfl) (a0t (a0d a0c (a0d a0c (a0d a0c a0r)))) a0q) rfl rfl rfl rfl ?_
  refine zD 3 ?_
  refine zD 4 ?_
  refine zDG 5 ?_
  refine zDG 6 ?_
  refine a3J 7 rfl (by kernel_rfl) (a1t rfl rfl rfl rfl rfl) rfl rfl Tryz.call81 a7m (fun hg => (a0g (a0y rfl hg) (a0t (a0d a0c a0r)) a0q)) rfl rfl ?_
  refine zDG 8 ?_
  refine zD 9 ?_
  refine zD 10 ?_
  refine zDG 11 ?_
  refine zDG 12 ?_
  refine zDG 13 ?_
  refine zDG 14 ?_
  refine zDG 15 ?_
  refine zDG 16 ?_
  refine zDG 17 ?_
  refine zDG 18 ?_
  refine zDG 19 ?_
  refine zDG 20 ?_
  refine zDG 21 ?_
  refine zDG 22 ?_
  refine a3J 23 rfl (by kernel_rfl) (a3Y rfl rfl rfl rfl rfl) rfl rfl Tryz.call100 a9B (fun hg => (a0g (a0y rfl hg) (a0t (a0d a0c (a0d a0c (a0d a0c a0r)))) (a0g (a0y rfl hg) (a0t (a0d a0c (a0d a0c (a0d a0c a0r)))) a0q))) rfl rfl ?_
  refine zDG 24 ?_
  refine zDG 25 ?_
  refine zD 26 ?_
  refine a1Q (by kernel_rfl) ?_
  refine z ?_
  refine yQ rfl (fun c2 => ?_) fun c2 => ?_
  ·iterate 10 refine z ?_
   rw [a1i, a7S (k := k) (by omega) (by have h : a4f s k = true := c2; simpa using h)]; rfl
  ·iterate 3 refine z ?_
   refine a0n ?_
   iterate 3 refine z ?_
   refine ⟨k + 1, ?_, ?_, a0e ⟨rfl, rfl, rfl, rfl, trivial⟩ ⟨rfl, trivial⟩ trivial rfl⟩
   ·exact ⟨by omega, a4z hall (by have h : a4f s k = false := c2; simpa using h)⟩
   ·omega
 ·have d1 := c9g c1
  iterate 8 refine z ?_
  refine zC Tryz.call72 ?_ (hf := a8k)
  iterate 9 refine z ?_
  refine a1O (a1t rfl rfl rfl rfl rfl) rfl rfl Tryz.call73 a6I (fun hg => (a0g (a0y rfl hg) (a0C a0c) (a0g (a0i (a0j rfl)) (a0C a0c) (a0g (a0i (a0j rfl)) (a0C a0c) a0q)))) rfl rfl ?_
  iterate 5 refine z ?_
  obtain rfl : k = s.2.1.length := by omega
  rw [a1i, hall]; rfl
theorem b3T {s : a0G}  : PFn Tryz.prog 50 [.agg [(.dv [] (.str (s.1))), (.dv [] (a0w (s.2.1))), (.dv [] (.int .i64 (s.2.2)))]] (.one (.dv [] (.bool (a1i s)))) := by
 refine ⟨a0O Tryz.func50 rfl Tryz.ntmps50 Tryz.results50 rfl (fun C => ?_)⟩
 refine yF 0 0 rfl rfl fun f0_0 => ?_
 refine yF 0 1 rfl rfl fun f0_1 => ?_
 refine yF 0 2 rfl rfl fun f0_2 => ?_
 iterate 9 refine z ?_
 refine a1o (ι := Nat) (fun zz => ⟨[(1, .box 1 0), (3, .one (.dv [] (.int .i64 ((zz : Int)))))], [(1, 77, [(.dv [] (.str (s.1))), (.dv [] (a0w (s.2.1))), (.dv [] (.int .i64 (s.2.2)))])], []⟩) (fun zz => zz ≤ s.2.1.length ∧ (List.range zz).all (fun i => !a4f s i) = true) (fun zz => s.2.1.length - zz) (0) ?_ (a0e ⟨rfl, rfl, trivial⟩ ⟨rfl, trivial⟩ trivial rfl) (fun zz hx => ?_)
 ·exact ⟨Nat.zero_le _, rfl⟩
 obtain ⟨k, rfl⟩ : ∃ v, v = zz := ⟨_, rfl⟩
 replace hx : k ≤ s.2.1.length ∧ (List.range k).all (fun i => !a4f s i) = true := hx
 obtain ⟨hk, hall⟩ := hx
 show Ok _ _ _ _ _ (⟨[(1, .box 1 0), (3, .one (.dv [] (.int .i64 ((k : Int)))))], [(1, 77, [(.dv [] (.str (s.1))), (.dv [] (a0w (s.2.1))), (.dv [] (.int .i64 (s.2.2)))])], []⟩ : St)
 iterate 8 refine z ?_
 refine yQ rfl (fun c1 => ?_) fun c1 => ?_
 ·have d1 := c9f c1
  iterate 4 refine z ?_
  refine a0u ?_
  refine a1K (oB := [1]) (oK := []) (by kernel_rfl) rfl rfl ?_
  refine zD 0 ?_
  refine zD 1 ?_
  refine zD 2 ?_
  refine zD 3 ?_
  refine zD 4 ?_
  refine zD 5 ?_
  refine a5C 6 rfl (by kernel_rfl) rfl rfl rfl Tryz.call85 a6z (a0g (a0a rfl) (a0t (a0d a0c (a0d a0c (a0d a0c a0r)))) a0q) rfl rfl rfl rfl ?_
  refine zD 7 ?_
  refine zD 8 ?_
  refine zDG 9 ?_
  refine zDG 10 ?_
  refine zDG 11 ?_
  refine zDG 12 ?_
  refine zDG 13 ?_
  refine zDG 14 ?_
  refine a3J 15 rfl (by kernel_rfl) (a1t rfl rfl rfl rfl rfl) rfl rfl Tryz.call86 a7q (fun hg => (a0g (a0y rfl hg) (a0t (a0d a0c a0r)) a0q)) rfl rfl ?_
  refine zDG 16 ?_
  refine zD 17 ?_
  refine zD 18 ?_
  refine zDG 19 ?_
  refine zDG 20 ?_
  refine zDG 21 ?_
  refine zDG 22 ?_
  refine zDG 23 ?_
  refine zDG 24 ?_
  refine zDG 25 ?_
  refine zDG 26 ?_
  refine zDG 27 ?_
  refine zDG 28 ?_
  refine zDG 29 ?_
  refine zDG 30 ?_
  refine zDG 31 ?_
  refine zDG 32 ?_
  refine zDG 33 ?_
  refine zDG 34 ?_
  refine a3J 35 rfl (by kernel_rfl) (a3Y rfl rfl rfl rfl rfl) rfl rfl Tryz.call87 a9W (fun hg => (a0g (a0y rfl hg) (a0t (a0d a0c (a0d a0c (a0d a0c a0r)))) (a0g (a0y rfl hg) (a0t (a0d a0c (a0d a0c (a0d a0c a0r)))) a0q))) rfl rfl ?_
  refine zDG 36 ?_
  refine zDG 37 ?_
  refine zD 38 ?_
  refine a1Q (by kernel_rfl) ?_
  refine z ?_
  refine yQ rfl (fun c2 => ?_) fun c2 => ?_
  ·iterate 10 refine z ?_
   rw [a1i, a7S (k := k) (by omega) (by have h : a4f s k = true := c2; simpa using h)]; rfl
  ·iterate 3 refine z ?_
   refine a0n ?_
   iterate 4 refine z ?_
   refine ⟨k + 1, ?_, ?_, a0e ⟨rfl, rfl, trivial⟩ ⟨rfl, trivial⟩ trivial rfl⟩
   ·exact ⟨by omega, a4z hall (by have h : a4f s k = false := c2; simpa using h)⟩
   ·omega
 ·have d1 := c9g c1
  iterate 8 refine z ?_
  refine zC Tryz.call52 ?_ (hf := a8H)
  iterate 9 refine z ?_
  refine a1O (a1t rfl rfl rfl rfl rfl) rfl rfl Tryz.call54 a7b (fun hg => (a0g (a0y rfl hg) (a0C a0c) (a0g (a0i (a0j rfl)) (a0C a0c) (a0g (a0i (a0j rfl)) (a0C a0c) a0q)))) rfl rfl ?_
  iterate 5 refine z ?_
  obtain rfl : k = s.2.1.length := by omega
  rw [a1i, hall]; rfl
theorem c7S {y : a0T} {k : a0K}  : PFn Tryz.prog 124 [.agg [(.dv [] (.int .i64 (y.1.1))), (.dv [] (.int .i64 (y.1.2.1))), (.dv [] (.str (y.1.2.2))), (.dv [] (a0I (y.2)))], .ref [] [.int .i64 (k.1), .int .i64 (k.2.1), .str (k.2.2)]] (.one (.dv [] (.bool (kEq y.1 k)))) := by
 refine ⟨a0O Tryz.func124 rfl Tryz.ntmps124 Tryz.results124 rfl (fun C => ?_)⟩
 refine yF 0 0 rfl rfl fun f0_0 => ?_
 refine yF 0 1 rfl rfl fun f0_1 => ?_
 refine yF 0 2 rfl rfl fun f0_2 => ?_
 refine yF 0 3 rfl rfl fun f0_3 => ?_
 iterate 8 refine z ?_
 refine yO rfl rfl (a7L rfl (a0a rfl) (a0a rfl) rfl rfl Tryz.eqGuardType60 (b7r _ _ _ _ _ _)) rfl ?_
 iterate 4 refine z ?_
 rfl
theorem c2E {x : List a0T} {k : a0K}  : PFn Tryz.prog 123 [.one (.dv [] (a0w (x))), .fn 124 [[.int .i64 (k.1), .int .i64 (k.2.1), .str (k.2.2)]]] (.one (.dv [] (.int .i64 (a0s (fun y : a0T => kEq y.1 k) x 0)))) := by
 refine ⟨a0O Tryz.func123 rfl Tryz.ntmps123 Tryz.results123 rfl (fun C => ?_)⟩
 refine a1k (x := .tmp 0) (a0a rfl) fun f0 => ?_
 iterate 10 refine z ?_
 refine a1o (ι := Nat) (fun zz => ⟨[(0, .one (.dv [] (a0w (x)))), (1, .fn 124 [[.int .i64 (k.1), .int .i64 (k.2.1), .str (k.2.2)]]), (7, .one (.dv [] (.int .i64 ((((x)).length : Int))))), (8, .one (.dv [] (.int .i64 ((zz : Int)))))], [], []⟩) (fun zz => zz ≤ x.length ∧ (x.take zz).any (fun y : a0T => kEq y.1 k) = false) (fun zz => x.length - zz) (0) ?_ (a0e ⟨rfl, rfl, rfl, rfl, trivial⟩ trivial trivial rfl) (fun zz hx => ?_)
 ·exact ⟨Nat.zero_le _, rfl⟩
 obtain ⟨n, rfl⟩ : ∃ v, v = zz := ⟨_, rfl⟩
 replace hx : n ≤ x.length ∧ (x.take n).any (fun y : a0T => kEq y.1 k) = false := hx
 obtain ⟨hk, hall⟩ := hx
 show Ok _ _ _ _ _ (⟨[(0, .one (.dv [] (a0w (x)))), (1, .fn 124 [[.int .i64 (k.1), .int .i64 (k.2.1), .str (k.2.2)]]), (7, .one (.dv [] (.int .i64 ((((x)).length : Int))))), (8, .one (.dv [] (.int .i64 ((n : Int)))))], [], []⟩ : St)
 iterate 3 refine z ?_
 refine a0u ?_
 refine yQ rfl (fun c1 => ?_) fun c1 => ?_
 ·have d1 := c9f c1
  iterate 14 refine z ?_
  refine b0j rfl rfl rfl (a0a rfl) Tryz.call124 c7S (a0g (a0a rfl) (a0t (a0d a0c (a0d a0c (a0d a0c (a0d a0c a0r))))) a0q) rfl rfl ?_
  refine z ?_
  refine yQ rfl (fun c2 => ?_) fun c2 => ?_
  ·iterate 11 refine z ?_
   exact (a6b (p := fun y : a0T => kEq y.1 k) (d := default) hall (by omega) c2).symm
  ·iterate 3 refine z ?_
   refine a0n ?_
   iterate 3 refine z ?_
   refine ⟨n + 1, ?_, ?_, a0e ⟨rfl, rfl, rfl, rfl, trivial⟩ trivial trivial rfl⟩
   ·exact ⟨by omega, a5M (d := default) hall (by omega) c2⟩
   ·omega
 ·have d1 := c9g c1
  iterate 10 refine z ?_
  exact (a5O (p := fun y : a0T => kEq y.1 k) hall (by omega)).symm
theorem b1V {x : a0G} {k : a0K}  : PFn Tryz.prog 106 [.agg [(.dv [] (.str (x.1))), (.dv [] (a0w (x.2.1))), (.dv [] (.int .i64 (x.2.2)))], .agg [(.dv [] (.int .i64 (k.1))), (.dv [] (.int .i64 (k.2.1))), (.dv [] (.str (k.2.2)))]] (.one (.dv [] (.int .i64 (a0S x k)))) := by
 refine ⟨a0O Tryz.func106 rfl Tryz.ntmps106 Tryz.results106 rfl (fun C => ?_)⟩
 refine yF 0 0 rfl rfl fun f0_0 => ?_
 refine yF 0 1 rfl rfl fun f0_1 => ?_
 refine yF 0 2 rfl rfl fun f0_2 => ?_
 refine yF 1 0 rfl rfl fun f1_0 => ?_
 refine yF 1 1 rfl rfl fun f1_1 => ?_
 refine yF 1 2 rfl rfl fun f1_2 => ?_
 iterate 8 refine z ?_
 refine yO rfl rfl (b1S rfl (a0a rfl)) rfl ?_
 refine a3T rfl rfl rfl Tryz.call123 c2E (a0g (a0a rfl) (a0C a0c) (a0g (a0a rfl) (b4r (b0Z rfl rfl b1G)) a0q)) rfl rfl ?_
 iterate 4 refine z ?_
 rfl
theorem b0R {x : a0G} {k : a0K}  : PFn Tryz.prog 92 [.agg [(.dv [] (.str (x.1))), (.dv [] (a0w (x.2.1))), (.dv [] (.int .i64 (x.2.2)))], .agg [(.dv [] (.int .i64 (k.1))), (.dv [] (.int .i64 (k.2.1))), (.dv [] (.str (k.2.2)))]] (.one (.dv [] (.int .i64 (a0S x k)))) := by
 refine ⟨a0O Tryz.func92 rfl Tryz.ntmps92 Tryz.results92 rfl (fun C => ?_)⟩
 refine yF 0 0 rfl rfl fun f0_0 => ?_
 refine yF 0 1 rfl rfl fun f0_1 => ?_
 refine yF 0 2 rfl rfl fun f0_2 => ?_
 refine yF 1 0 rfl rfl fun f1_0 => ?_
 refine yF 1 1 rfl rfl fun f1_1 => ?_
 refine yF 1 2 rfl rfl fun f1_2 => ?_
 iterate 10 refine z ?_
 refine a1o (ι := Nat) (fun zz => ⟨[(2, .box 2 0), (3, .box 3 0), (5, .one (.dv [] (.int .i64 ((zz : Int)))))], [(2, 77, [(.dv [] (.str (x.1))), (.dv [] (a0w (x.2.1))), (.dv [] (.int .i64 (x.2.2)))]), (3, 60, [(.dv [] (.int .i64 (k.1))), (.dv [] (.int .i64 (k.2.1))), (.dv [] (.str (k.2.2)))])], []⟩) (fun zz => zz ≤ x.2.1.length ∧ (x.2.1.take zz).any (fun y : a0T => kEq y.1 k) = false) (fun zz => x.2.1.length - zz) (0) ?_ (a0e ⟨rfl, rfl, rfl, trivial⟩ ⟨rfl, rfl, trivial⟩ trivial rfl) (fun zz hx => ?_)
 ·exact ⟨Nat.zero_le _, rfl⟩
 obtain ⟨n, rfl⟩ : ∃ v, v = zz := ⟨_, rfl⟩
 replace hx : n ≤ x.2.1.length ∧ (x.2.1.take n).any (fun y : a0T => kEq y.1 k) = false := hx
 obtain ⟨hk, hall⟩ := hx
 show Ok _ _ _ _ _ (⟨[(2, .box 2 0), (3, .box 3 0), (5, .one (.dv [] (.int .i64 ((n : Int)))))], [(2, 77, [(.dv [] (.str (x.1))), (.dv [] (a0w (x.2.1))), (.dv [] (.int .i64 (x.2.2)))]), (3, 60, [(.dv [] (.int .i64 (k.1))), (.dv [] (.int .i64 (k.2.1))), (.dv [] (.str (k.2.2)))])], []⟩ : St)
 iterate 8 refine z ?_
 refine yQ rfl (fun c1 => ?_) fun c1 => ?_
 ·have d1 := c9f c1
  iterate 4 refine z ?_
  refine a0u ?_
  refine a1K (oB := [2, 3]) (oK := []) (by kernel_rfl) rfl rfl ?_
  refine zD 0 ?_
  refine zD 1 ?_
  refine zD 2 ?_
  refine zD 3 ?_
  refine zD 4 ?_
  refine zD 5 ?_
  refine zD 6 ?_
  refine a1q 7 rfl (by kernel_rfl) rfl rfl (a7L rfl (a0a rfl) (a0a rfl) rfl rfl Tryz.eqGuardType60 (b7r _ _ _ _ _ _)) rfl rfl rfl rfl ?_
  refine a1Q (by kernel_rfl) ?_
  refine z ?_
  refine yQ rfl (fun c2 => ?_) fun c2 => ?_
  ·iterate 11 refine z ?_
   exact (a6b (p := fun y : a0T => kEq y.1 k) (d := default) hall (by omega) c2).symm
  ·iterate 3 refine z ?_
   refine a0n ?_
   iterate 4 refine z ?_
   refine ⟨n + 1, ?_, ?_, a0e ⟨rfl, rfl, rfl, trivial⟩ ⟨rfl, rfl, trivial⟩ trivial rfl⟩
   ·exact ⟨by omega, a5M (d := default) hall (by omega) c2⟩
   ·omega
 ·have d1 := c9g c1
  iterate 10 refine z ?_
  exact (a5O (p := fun y : a0T => kEq y.1 k) hall (by omega)).symm
theorem a6n {x : a0G} (hb : a1g x ≤ 1099511627776) : KFn Tryz.prog 57 [.agg [(.dv [] (.str (x.1))), (.dv [] (a0w (x.2.1))), (.dv [] (.int .i64 (x.2.2)))]] (.agg [(.dv [] (.str (x.1))), (.key 30), (.dv [] (.int .i64 (x.2.2)))]) [(30, some (a0b false (a0w (x.2.1))))] := by
 refine ⟨a0O Tryz.func57 rfl Tryz.ntmps57 Tryz.results57 rfl (fun C => ?_)⟩
 refine yF 0 0 rfl rfl fun f0_0 => ?_
 refine yF 0 1 rfl rfl fun f0_1 => ?_
 refine yF 0 2 rfl rfl fun f0_2 => ?_
 iterate 9 refine z ?_
 refine yO rfl rfl (a1v hT hB rfl rfl rfl (a1c (a0a rfl) rfl rfl rfl rfl rfl (a1c (a0a rfl) rfl rfl rfl rfl rfl a1w))) rfl ?_
 iterate 3 refine z ?_
 refine a0u ?_
 refine a0u ?_
 refine a0h (a3p 30 (b := 3) (i := 1) (e := 119) (sz := 4) rfl rfl rfl rfl rfl) ?_
 simp only [a0p, a0k, SV.kill, CV.kill, kk, Nat.reduceBEq]
 refine a0n ?_
 iterate 6 refine z ?_
 refine a1o (ι := Nat) (fun zz => ⟨[(2, .box 2 0), (3, .box 3 0), (12, .one (.dv [] (a0w (x.2.1)))), (13, .one (.dv [] (.int .i64 ((((x.2.1)).length : Int))))), (14, .one (.dv [] (.int .i64 ((zz : Int)))))], [(2, 77, [(.dv [] (.str (ByteArray.empty))), .nil, (.dv [] (.int .i64 (0)))]), (3, 77, [(.dv [] (.str (x.1))), (.key 30), (.dv [] (.int .i64 (x.2.2)))])], [(30, some (a0b false (.sl 119 4 ((x.2.1.take zz).length) ((x.2.1.take zz).flatMap a0F))))]⟩) (fun zz => zz ≤ x.2.1.length) (fun zz => x.2.1.length - zz) (0) ?_ (a0e ⟨rfl, rfl, rfl, rfl, rfl, trivial⟩ ⟨rfl, rfl, trivial⟩ ⟨rfl, trivial⟩ rfl) (fun zz hx => ?_)
 ·exact Nat.zero_le _
 obtain ⟨k, rfl⟩ : ∃ v, v = zz := ⟨_, rfl⟩
 replace hx : k ≤ x.2.1.length := hx
 have hw := fun h => a5D a1P x.2.1 k h
 show Ok _ _ _ _ _ (⟨[(2, .box 2 0), (3, .box 3 0), (12, .one (.dv [] (a0w (x.2.1)))), (13, .one (.dv [] (.int .i64 ((((x.2.1)).length : Int))))), (14, .one (.dv [] (.int .i64 ((k : Int)))))], [(2, 77, [(.dv [] (.str (ByteArray.empty))), .nil, (.dv [] (.int .i64 (0)))]), (3, 77, [(.dv [] (.str (x.1))), (.key 30), (.dv [] (.int .i64 (x.2.2)))])], [(30, some (a0b false (.sl 119 4 ((x.2.1.take k).length) ((x.2.1.take k).flatMap a0F))))]⟩ : St)
 iterate 3 refine z ?_
 refine a0u ?_
 refine yQ rfl (fun c1 => ?_) fun c1 => ?_
 ·have d1 := c9f c1
  have hk2 : k < x.2.1.length := by omega
  have hlen : x.2.1.length ≤ 1099511627776 := by have h3 : a1g x = x.1.size + (x.2.1.length + a0V a1P x.2.1) := rfl; omega
  have hrec : a1P (x.2.1.getD (k : Int).toNat default) ≤ 1099511627776 := by have := hw hk2; have h3 : a1g x = x.1.size + (x.2.1.length + a0V a1P x.2.1) := rfl; omega
  iterate 10 refine z ?_
  refine a5w [0, 1, 2, 3, 4] (oB := [2, 3, 5]) (oK := [30]) (by kernel_rfl) rfl rfl ?_
  refine zD 0 ?_
  refine zD 1 ?_
  refine zD 2 ?_
  refine a2G 21000 3 rfl (by kernel_rfl) rfl rfl rfl Tryz.call94 (b5k (by first | omega | exact Nat.le_trans (a6d _) hrec | exact Nat.le_trans (a6d _) (Nat.le_trans hrec (by decide)))) (a0g (a0a rfl) (a0t (a0d a0c (a0d a0c (a0d a0c (a0d a0c a0r))))) a0q) rfl rfl rfl rfl rfl ?_
  refine a7O (k := 22) (js := [28003]) 4 hT rfl (by kernel_rfl) rfl rfl rfl rfl rfl rfl rfl rfl rfl (a0a rfl) rfl rfl (a0o (a0R rfl) (a0o (a0R rfl) (a0o (a0R rfl) (a0o (a1f rfl) a1y rfl) rfl) rfl) rfl) (by decide) (by decide) rfl rfl (by decide) ?_
  simp only [a0p, a0k, SV.kill, CV.kill, kk, Nat.reduceBEq]
  refine a3y [5, 6, 7] rfl rfl (by kernel_rfl) ?_
  refine a3f (k := 30) (j := 22) (cs := (x.2.1.take (k + 1)).flatMap a0F) (n := (x.2.1.take (k + 1)).length) hT rfl rfl rfl rfl rfl rfl rfl (a0a rfl) rfl rfl rfl (a0a rfl) rfl rfl (by decide) (by dsimp only [a0b]; simp only [c9j]; omega) (by dsimp only [a0b]; simp only [c9j]; omega) ((b2e hk2).2) ((b2e hk2).1) ?_
  simp only [a0p, a0k, SV.kill, CV.kill, kk, Nat.reduceBEq]
  iterate 2 refine z ?_
  refine a1H ?_
  iterate 2 refine z ?_
  refine a0n ?_
  iterate 3 refine z ?_
  refine ⟨k + 1, ?_, ?_, a0e ⟨rfl, rfl, rfl, rfl, rfl, trivial⟩ ⟨rfl, rfl, trivial⟩ ⟨rfl, trivial⟩ rfl⟩
  ·omega
  ·omega
 ·have d1 := c9g c1
  iterate 9 refine z ?_
  refine a0h (σ' := ⟨[(2, .box 2 0)], [(2, 77, [(.dv [] (.str (x.1))), (.key 30), (.dv [] (.int .i64 (x.2.2)))])], [(30, some (a0b false (a0w (x.2.1))))]⟩) (a0e ⟨rfl, trivial⟩ ⟨rfl, trivial⟩ ⟨(congrArg (fun l : List a0T => some (some (KC.mk false 119 4 l.length (l.flatMap a0F)))) (List.take_of_length_le (by omega))), trivial⟩ rfl) ?_
  refine z ?_
  refine a1r (a0E hT rfl rfl rfl rfl) ?_
  exact ⟨rfl, rfl⟩
theorem a7B {x : a0G} (hb : a1g x ≤ 1099511627776) : KFn Tryz.prog 49 [.agg [(.dv [] (.str (x.1))), (.dv [] (a0w (x.2.1))), (.dv [] (.int .i64 (x.2.2)))]] (.agg [(.dv [] (.str (x.1))), (.key 30), (.dv [] (.int .i64 (x.2.2)))]) [(30, some (a0b false (a0w (x.2.1))))] := by
 refine ⟨a0O Tryz.func49 rfl Tryz.ntmps49 Tryz.results49 rfl (fun C => ?_)⟩
 refine yF 0 0 rfl rfl fun f0_0 => ?_
 refine yF 0 1 rfl rfl fun f0_1 => ?_
 refine yF 0 2 rfl rfl fun f0_2 => ?_
 iterate 9 refine z ?_
 refine yO rfl rfl (a1v hT hB rfl rfl rfl (a1c (a0a rfl) rfl rfl rfl rfl rfl (a1c (a0a rfl) rfl rfl rfl rfl rfl a1w))) rfl ?_
 iterate 3 refine z ?_
 refine a0u ?_
 refine a0u ?_
 refine a0h (a3p 30 (b := 3) (i := 1) (e := 119) (sz := 4) rfl rfl rfl rfl rfl) ?_
 simp only [a0p, a0k, SV.kill, CV.kill, kk, Nat.reduceBEq]
 refine a0n ?_
 iterate 3 refine z ?_
 refine a1o (ι := Nat) (fun zz => ⟨[(1, .box 1 0), (2, .box 2 0), (3, .box 3 0), (4, .one (.dv [] (.int .i64 ((zz : Int)))))], [(1, 77, [(.dv [] (.str (x.1))), (.dv [] (a0w (x.2.1))), (.dv [] (.int .i64 (x.2.2)))]), (2, 77, [(.dv [] (.str (ByteArray.empty))), .nil, (.dv [] (.int .i64 (0)))]), (3, 77, [(.dv [] (.str (x.1))), (.key 30), (.dv [] (.int .i64 (x.2.2)))])], [(30, some (a0b false (.sl 119 4 ((x.2.1.take zz).length) ((x.2.1.take zz).flatMap a0F))))]⟩) (fun zz => zz ≤ x.2.1.length) (fun zz => x.2.1.length - zz) (0) ?_ (a0e ⟨rfl, rfl, rfl, rfl, trivial⟩ ⟨rfl, rfl, rfl, trivial⟩ ⟨rfl, trivial⟩ rfl) (fun zz hx => ?_)
 ·exact Nat.zero_le _
 obtain ⟨k, rfl⟩ : ∃ v, v = zz := ⟨_, rfl⟩
 replace hx : k ≤ x.2.1.length := hx
 have hw := fun h => a5D a1P x.2.1 k h
 show Ok _ _ _ _ _ (⟨[(1, .box 1 0), (2, .box 2 0), (3, .box 3 0), (4, .one (.dv [] (.int .i64 ((k : Int)))))], [(1, 77, [(.dv [] (.str (x.1))), (.dv [] (a0w (x.2.1))), (.dv [] (.int .i64 (x.2.2)))]), (2, 77, [(.dv [] (.str (ByteArray.empty))), .nil, (.dv [] (.int .i64 (0)))]), (3, 77, [(.dv [] (.str (x.1))), (.key 30), (.dv [] (.int .i64 (x.2.2)))])], [(30, some (a0b false (.sl 119 4 ((x.2.1.take k).length) ((x.2.1.take k).flatMap a0F))))]⟩ : St)
 iterate 8 refine z ?_
 refine yQ rfl (fun c1 => ?_) fun c1 => ?_
 ·have d1 := c9f c1
  have hk2 : k < x.2.1.length := by omega
  have hlen : x.2.1.length ≤ 1099511627776 := by have h3 : a1g x = x.1.size + (x.2.1.length + a0V a1P x.2.1) := rfl; omega
  have hrec : a1P (x.2.1.getD (k : Int).toNat default) ≤ 1099511627776 := by have := hw hk2; have h3 : a1g x = x.1.size + (x.2.1.length + a0V a1P x.2.1) := rfl; omega
  iterate 4 refine z ?_
  refine a5w [0, 1, 2, 3, 4, 5, 6, 7, 8] (oB := [1, 2, 3]) (oK := [30]) (by kernel_rfl) rfl rfl ?_
  refine zD 0 ?_
  refine zD 1 ?_
  refine zD 2 ?_
  refine zD 3 ?_
  refine zD 4 ?_
  refine zD 5 ?_
  refine zD 6 ?_
  refine a2G 24000 7 rfl (by kernel_rfl) rfl rfl rfl Tryz.call84 (b4p (by first | omega | exact Nat.le_trans (a6d _) hrec | exact Nat.le_trans (a6d _) (Nat.le_trans hrec (by decide)))) (a0g (a0a rfl) (a0t (a0d a0c (a0d a0c (a0d a0c (a0d a0c a0r))))) a0q) rfl rfl rfl rfl rfl ?_
  refine a7O (k := 25) (js := [31003]) 8 hT rfl (by kernel_rfl) rfl rfl rfl rfl rfl rfl rfl rfl rfl (a0a rfl) rfl rfl (a0o (a0R rfl) (a0o (a0R rfl) (a0o (a0R rfl) (a0o (a1f rfl) a1y rfl) rfl) rfl) rfl) (by decide) (by decide) rfl rfl (by decide) ?_
  simp only [a0p, a0k, SV.kill, CV.kill, kk, Nat.reduceBEq]
  refine a3y [9, 10, 11] rfl rfl (by kernel_rfl) ?_
  refine a3f (k := 30) (j := 25) (cs := (x.2.1.take (k + 1)).flatMap a0F) (n := (x.2.1.take (k + 1)).length) hT rfl rfl rfl rfl rfl rfl rfl (a0a rfl) rfl rfl rfl (a0a rfl) rfl rfl (by decide) (by dsimp only [a0b]; simp only [c9j]; omega) (by dsimp only [a0b]; simp only [c9j]; omega) ((b2e hk2).2) ((b2e hk2).1) ?_
  simp only [a0p, a0k, SV.kill, CV.kill, kk, Nat.reduceBEq]
  iterate 2 refine z ?_
  refine a1H ?_
  iterate 2 refine z ?_
  refine a0n ?_
  iterate 4 refine z ?_
  refine ⟨k + 1, ?_, ?_, a0e ⟨rfl, rfl, rfl, rfl, trivial⟩ ⟨rfl, rfl, rfl, trivial⟩ ⟨rfl, trivial⟩ rfl⟩
  ·omega
  ·omega
 ·have d1 := c9g c1
  iterate 9 refine z ?_
  refine a0h (σ' := ⟨[(2, .box 2 0)], [(2, 77, [(.dv [] (.str (x.1))), (.key 30), (.dv [] (.int .i64 (x.2.2)))])], [(30, some (a0b false (a0w (x.2.1))))]⟩) (a0e ⟨rfl, trivial⟩ ⟨rfl, trivial⟩ ⟨(congrArg (fun l : List a0T => some (some (KC.mk false 119 4 l.length (l.flatMap a0F)))) (List.take_of_length_le (by omega))), trivial⟩ rfl) ?_
  refine z ?_
  refine a1r (a0E hT rfl rfl rfl rfl) ?_
  exact ⟨rfl, rfl⟩
def a2l (k : a0K) : List a0T → Nat
 | [] => 0
 | y :: ys => if a2K y.1 k < 0 then a2l k ys + 1 else 0
def a2t (l : List a0T) (i : Nat) (r : a0v) : List a0T := l.set i ((l.getD i default).1, r)
def a3h (x : a0G) (k : a0K) : Int := if decide (k.1 = 1) && (decide (x.2.2 + 1 ≤ k.2.1) && decide (k.2.1 ≤ 1000000)) then k.2.1 else x.2.2
def a0N (x : a0G) (k : a0K) (r : a0v) : a0G × Bool :=
 if !a1i x || !a1a k || !a1b r then (x, false)
 else if 0 ≤ a0S x k then ((x.1, a2t x.2.1 (a0S x k).toNat r, x.2.2), true)
 else if 16 ≤ x.2.1.length then (x, false)
 else ((x.1, a1Z x.2.1 (a2l k x.2.1) (k, r), a3h x k), true)
theorem a4W {x : a0G} {k : a0K} (h : 0 ≤ a0S x k) : a0S x k < x.2.1.length := by
 rcases a8a (p := fun y : a0T => kEq y.1 k) x.2.1 0 (by omega) with h1 | h1
 ·unfold a0S; omega
 ·unfold a0S at h; omega
theorem c8U {x : a0G} {k : a0K} {r : a0v} (h : (!a1i x || !a1a k) = true) : a0N x k r = (x, false) := by
 rw [a0N, if_pos (by rw [h]; rfl)]
theorem b3l {l : List a0T} {i : Nat} {r : a0v} : (a2t l i r).length = l.length := by simp [a2t]
theorem b4C (l : List a0T) : (l.flatMap a0F).length = l.length * 4 := by
 induction l with
 | nil => rfl
 | cons x l ih => rw [List.flatMap_cons, c9i, ih, List.length_cons]; show 4 + l.length * 4 = (l.length + 1) * 4; omega
theorem b4q {l : List a0T} {j : Nat} (h : j < l.length) : l.drop j = l.getD j default :: l.drop (j + 1) := by
 rw [List.drop_eq_getElem_cons h]
 simp [List.getD, List.getElem?_eq_getElem h]
theorem b8h {k : a0K} {l : List a0T} {j : Nat} (hp : a2l k l = j + a2l k (l.drop j)) (h : (decide ((j : Int) < (l.length : Int)) && decide (a2K (l.getD (j : Int).toNat default).1 k < 0)) = true) : j < l.length ∧ a2l k l = (j + 1) + a2l k (l.drop (j + 1)) := by
 obtain ⟨h1, h2⟩ := (Bool.and_eq_true _ _ ▸ h : _ ∧ _)
 have h1 := c9f h1
 have h2 := c9f h2
 rw [Int.toNat_natCast] at h2
 have h3 : j < l.length := by omega
 refine ⟨h3, ?_⟩
 rw [hp, b4q h3, a2l, if_pos h2]
 omega
theorem b9L {k : a0K} {l : List a0T} {j : Nat} (hj : j ≤ l.length) (hp : a2l k l = j + a2l k (l.drop j)) (h : (decide ((j : Int) < (l.length : Int)) && decide (a2K (l.getD (j : Int).toNat default).1 k < 0)) = false) : a2l k l = j := by
 rcases Nat.lt_or_ge j l.length with h3 | h3
 ·rw [decide_eq_true (by omega : (j : Int) < (l.length : Int)), Bool.true_and] at h
  have h2 := c9g h
  rw [Int.toNat_natCast] at h2
  rw [hp, b4q h3, a2l, if_neg h2]
  omega
 ·rw [hp, List.drop_eq_nil_of_le h3, a2l]; omega
theorem c0k {l : List a0T} {i : Nat} {r : a0v} (hi : i < l.length) : a1d (i * 4 + 3) [a0I r] (l.flatMap a0F) = (a2t l i r).flatMap a0F := by
 obtain ⟨h1, h2⟩ := a7x (enc := a0F) (sz := 4) (fun _ => rfl) i l
 have e : l.flatMap a0F = (l.take i).flatMap a0F ++ (a0F (l.getD i default) ++ (l.drop (i + 1)).flatMap a0F) := by
  rw [← List.flatMap_cons, ← b4q hi, ← List.flatMap_append, List.take_append_drop]
 have e2 : (a2t l i r).flatMap a0F = (l.take i).flatMap a0F ++ (a0F ((l.getD i default).1, r) ++ (l.drop (i + 1)).flatMap a0F) := by
  rw [a2t, List.set_eq_take_append_cons_drop, if_pos hi, List.flatMap_append, List.flatMap_cons]
 have hl : ((l.take i).flatMap a0F).length = i * 4 := by rw [b4C, c9j]; omega
 rw [e, e2]
 exact b9p (pre := (l.take i).flatMap a0F) (B := a0F (l.getD i default)) (B' := a0F ((l.getD i default).1, r)) (post := (l.drop (i + 1)).flatMap a0F) (m := i * 4) (off := i * 4 + 3) (j := 3) hl rfl rfl (Nat.le_refl _)
def a6T (p : Option a0K) (k : a0K) : Bool := match p with | none => true | some q => decide (a2K q k < 0)
def okL : Option a0K → List a0T → Bool
 | _, [] => true
 | p, y :: ys => a1a y.1 && a1b y.2 && a6T p y.1 && okL (some y.1) ys
def a8B (p : Option a0K) (l : List a0T) (i : Nat) : Bool := (!a1a (l.getD i default).1 || !a1b (l.getD i default).2) || !(a6T (if i = 0 then p else some (l.getD (i - 1) default).1) (l.getD i default).1)
theorem b5i : ∀ (l : List a0T) (p : Option a0K), okL p l = (List.range l.length).all (fun i => !a8B p l i)
 | [], _ => rfl
 | y :: ys, p => by
  rw [okL, b5i ys (some y.1), List.length_cons, List.range_succ_eq_map, List.all_cons, List.all_map]
  congr 1
  ·simp [a8B]
  ·congr 1
   funext i
   cases i with
   | zero => simp [a8B]
   | succ i => simp [a8B]
theorem b2b (s : a0G) : a1i s = (okL none s.2.1 && (a2e s.1 && decide ((s.2.1.length : Int) ≤ 16) && (decide ((0 : Int) ≤ s.2.2) && decide (s.2.2 ≤ 1000000)))) := by
 rw [a1i, b5i]
 congr 2
 funext i
 cases i with
 | zero => simp [a4f, a8B, a6T]
 | succ i =>
  have e : (((i + 1 : Nat) : Int) - 1).toNat = i := by omega
  have e2 : (((i + 1 : Nat) : Int)).toNat = i + 1 := by omega
  have e3 : decide ((0 : Int) < ((i + 1 : Nat) : Int)) = true := decide_eq_true (by omega)
  simp only [a4f, a8B, a6T, e, e2, e3, Bool.true_and, Nat.succ_ne_zero, if_false, Nat.add_sub_cancel]
  congr 2
  by_cases h : a2K (s.2.1.getD i default).1 (s.2.1.getD (i + 1) default).1 < 0
  ·rw [decide_eq_true h, decide_eq_false (by omega)]; rfl
  ·rw [decide_eq_false h, decide_eq_true (by omega)]; rfl
theorem c1S {a b : Str} (h : a4r a b = 0) : sEq a b = true := by
 have e := a7i a b
 unfold a4r at h
 cases h1 : sLt a b <;> cases h2 : sLt b a <;> simp_all
theorem c2h {a b : a0K} (ha : a1a a = true) (hb : a1a b = true) (h : a2K a b = 0) : kEq a b = true := by
 have hg : (!a1a a || !a1a b) = false := by rw [ha, hb]; rfl
 by_cases h1 : a.1 = b.1
 ·by_cases h2 : a.2.1 = b.2.1
  ·rw [a9T hg h1 h2] at h
   rw [kEq, decide_eq_true h1, decide_eq_true h2, c1S h]; rfl
  ·rw [a9P hg h1 h2] at h; exact absurd (a7F.1 h) h2
 ·rw [a8X hg h1] at h; exact absurd (a7F.1 h) h1
theorem c0q {k : a0K} {r : a0v} (hk : a1a k = true) : ∀ (l : List a0T) (p : Option a0K), okL p l = true → l.any (fun y : a0T => kEq y.1 k) = false → a6T p k = true → okL p (a1Z l (a2l k l) (k, r)) = a1b r
 | [], p, _, _, hp => by simp [a1Z, a2l, okL, hk, hp]
 | y :: ys, p, hl, hn, hp => by
  simp only [okL, Bool.and_eq_true] at hl
  obtain ⟨⟨⟨h1, h2⟩, h3⟩, h4⟩ := hl
  simp only [List.any_cons, Bool.or_eq_false_iff] at hn
  by_cases hc : a2K y.1 k < 0
  ·have ih := c0q (r := r) hk ys (some y.1) h4 hn.2 (by simpa [a6T] using hc)
   rw [a2l, if_pos hc]
   have e : a1Z (y :: ys) (a2l k ys + 1) (k, r) = y :: a1Z ys (a2l k ys) (k, r) := by simp [a1Z]
   rw [e, okL, h1, h2, h3, ih]; rfl
  ·rw [a2l, if_neg hc]
   have e : a1Z (y :: ys) 0 (k, r) = (k, r) :: y :: ys := by simp [a1Z]
   have h0 : ¬ a2K y.1 k = 0 := fun h => by
    have := c2h h1 hk h
    rw [hn.1] at this; cases this
   have hs := b0t k y.1
   rw [e, okL, okL, hk, hp, h1, h2, h4]
   have : a6T (some k) y.1 = true := by simp only [a6T, decide_eq_true_eq]; omega
   rw [this]; simp
theorem c0w {r : a0v} : ∀ (l : List a0T) (p : Option a0K) (i : Nat), okL p l = true → i < l.length → okL p (a2t l i r) = a1b r
 | [], _, _, _, h => by simp at h
 | y :: ys, p, 0, hl, _ => by
  simp only [okL, Bool.and_eq_true] at hl
  obtain ⟨⟨⟨h1, h2⟩, h3⟩, h4⟩ := hl
  simp [a2t, okL, h1, h3, h4]
 | y :: ys, p, i + 1, hl, h => by
  simp only [okL, Bool.and_eq_true] at hl
  obtain ⟨⟨⟨h1, h2⟩, h3⟩, h4⟩ := hl
  have ih := c0w (r := r) ys (some y.1) i h4 (by simpa using h)
  have e : a2t (y :: ys) (i + 1) r = y :: a2t ys i r := by simp [a2t]
  rw [e, okL, h1, h2, h3, ih]; rfl
theorem b5U {α : Type} {p : α → Bool} : ∀ (xs : List α) (i : Int), 0 ≤ i → a0s p xs i < 0 → xs.any p = false
 | [], _, _, _ => rfl
 | x :: xs, i, hi, h => by
  rw [a0s] at h
  split at h
  ·omega
  ·rename_i hp
   rw [List.any_cons, b5U xs (i + 1) (by omega) h]
   simpa using hp
theorem b2H {x : a0G} {i : Nat} {r : a0v} (hs : a1i x = true) (hi : i < x.2.1.length) : a1i (x.1, a2t x.2.1 i r, x.2.2) = a1b r := by
 rw [b2b] at hs ⊢
 simp only [Bool.and_eq_true] at hs
 obtain ⟨h1, ⟨h2, h3⟩, h4, h5⟩ := hs
 simp only [b3l, c0w _ _ _ h1 hi, h2, h3, h4, h5, Bool.and_self, Bool.and_true]
theorem b3y {x : a0G} {k : a0K} {r : a0v} {a : Int} (hs : a1i x = true) (hk : a1a k = true) (hf : a0S x k < 0) (ha : 0 ≤ a ∧ a ≤ 1000000) : a1i (x.1, a1Z x.2.1 (a2l k x.2.1) (k, r), a) = (a1b r && decide (x.2.1.length < 16)) := by
 rw [b2b] at hs ⊢
 simp only [Bool.and_eq_true] at hs
 obtain ⟨h1, ⟨h2, h3⟩, h4, h5⟩ := hs
 simp only [a8N, c0q hk _ _ h1 (b5U _ 0 (by omega) hf) rfl, h2, decide_eq_true ha.1, decide_eq_true ha.2, Bool.and_self, Bool.and_true, Bool.true_and]
 congr 1
 exact decide_eq_decide.2 (by omega)
theorem b1M {a b : Bool} (h : (!a || !b) = false) : a = true ∧ b = true := by cases a <;> cases b <;> simp_all
theorem c1J {x : a0G} {k : a0K} {r : a0v} (h : (!a1i x || !a1a k) = false) (hf : 0 ≤ a0S x k) (ho : (!a1i (x.1, a2t x.2.1 (a0S x k).toNat r, x.2.2)) = true) : a0N x k r = (x, false) := by
 obtain ⟨h1, h2⟩ := b1M h
 have hl := a4W hf
 rw [b2H h1 (by omega)] at ho
 rw [a0N, if_pos (by rw [ho]; simp)]
theorem c1z {x : a0G} {k : a0K} {r : a0v} (h : (!a1i x || !a1a k) = false) (hf : 0 ≤ a0S x k) (ho : (!a1i (x.1, a2t x.2.1 (a0S x k).toNat r, x.2.2)) = false) : a0N x k r = ((x.1, a2t x.2.1 (a0S x k).toNat r, x.2.2), true) := by
 obtain ⟨h1, h2⟩ := b1M h
 have hl := a4W hf
 rw [b2H h1 (by omega)] at ho
 rw [a0N, if_neg (by rw [h, ho]; simp), if_pos hf]
theorem b3s {x : a0G} {k : a0K} (hs : a1i x = true) : 0 ≤ a3h x k ∧ a3h x k ≤ 1000000 := by
 rw [b2b] at hs
 simp only [Bool.and_eq_true, decide_eq_true_eq] at hs
 unfold a3h
 split
 ·rename_i h
  simp only [Bool.and_eq_true, decide_eq_true_eq] at h
  omega
 ·omega
theorem b8b {x : a0G} {k : a0K} (h : (decide (k.1 = 1) && decide (x.2.2 < k.2.1) && decide (k.2.1 ≤ 1000000)) = true) : k.2.1 = a3h x k := by
 simp only [Bool.and_eq_true, decide_eq_true_eq] at h
 rw [a3h, if_pos (by simp only [Bool.and_eq_true, decide_eq_true_eq]; omega)]
theorem b8U {x : a0G} {k : a0K} (h : (decide (k.1 = 1) && decide (x.2.2 < k.2.1) && decide (k.2.1 ≤ 1000000)) = false) : x.2.2 = a3h x k := by
 rw [a3h, if_neg]
 intro h2
 simp only [Bool.and_eq_true, decide_eq_true_eq] at h2
 rw [decide_eq_true h2.1, decide_eq_true (by omega : x.2.2 < k.2.1), decide_eq_true h2.2.2] at h
 cases h
theorem c0n {x : a0G} {k : a0K} {r : a0v} {j : Nat} {a : Int} (h : (!a1i x || !a1a k) = false) (hf : ¬ 0 ≤ a0S x k) (hj : a2l k x.2.1 = j) (ha : a = a3h x k) (ho : (!a1i (x.1, a1Z x.2.1 j (k, r), a)) = true) : a0N x k r = (x, false) := by
 obtain ⟨h1, h2⟩ := b1M h
 subst hj; subst ha
 rw [b3y h1 h2 (by omega) (b3s h1)] at ho
 rw [a0N]
 split
 ·rfl
 ·rename_i h3
  rw [if_pos]
  rw [h, Bool.false_or] at h3
  have h4 : a1b r = true := by simpa using h3
  rw [h4, Bool.true_and] at ho
  simpa using ho
theorem b8i {x : a0G} {k : a0K} {r : a0v} {j : Nat} {a : Int} (h : (!a1i x || !a1a k) = false) (hf : ¬ 0 ≤ a0S x k) (hj : a2l k x.2.1 = j) (ha : a = a3h x k) (ho : (!a1i (x.1, a1Z x.2.1 j (k, r), a)) = false) : a0N x k r = ((x.1, a1Z x.2.1 j (k, r), a), true) := by
 obtain ⟨h1, h2⟩ := b1M h
 subst hj; subst ha
 rw [b3y h1 h2 (by omega) (b3s h1)] at ho
 have ho' : a1b r = true ∧ x.2.1.length < 16 := by
  simpa using ho
 rw [a0N, if_neg (by rw [h, ho'.1]; simp), if_neg hf, if_neg (by omega)]
theorem b1R {x : a0G} {k : a0K} {r : a0v} (hb : a1g x ≤ 1048576) (hb2 : r.length ≤ 1048576) : KFn Tryz.prog 107 [.agg [(.dv [] (.str (x.1))), (.dv [] (a0w (x.2.1))), (.dv [] (.int .i64 (x.2.2)))], .agg [(.dv [] (.int .i64 (k.1))), (.dv [] (.int .i64 (k.2.1))), (.dv [] (.str (k.2.2)))], .agg [(.dv [] (a0I (r)))]] (.tup [(true, [(.dv [] (.str ((a0N x k r).1.1))), (.key 9001), (.dv [] (.int .i64 ((a0N x k r).1.2.2)))]), (false, [(.dv [] (.bool ((a0N x k r).2)))])]) [(9001, some (a0b false (a0w ((a0N x k r).1.2.1))))] := by
 refine ⟨a0O Tryz.func107 rfl Tryz.ntmps107 Tryz.results107 rfl (fun C => ?_)⟩
 have hlen : x.2.1.length ≤ 1048576 := by have h3 : a1g x = x.1.size + (x.2.1.length + a0V a1P x.2.1) := rfl; omega
 refine yF 0 0 rfl rfl fun f0_0 => ?_
 refine yF 0 1 rfl rfl fun f0_1 => ?_
 refine yF 0 2 rfl rfl fun f0_2 => ?_
 refine yF 1 0 rfl rfl fun f1_0 => ?_
 refine yF 1 1 rfl rfl fun f1_1 => ?_
 refine yF 1 2 rfl rfl fun f1_2 => ?_
 refine yF 2 0 rfl rfl fun f2_0 => ?_
 iterate 10 refine z ?_
 refine zC Tryz.call74 ?_ (hf := a8v (s := x))
 iterate 3 refine z ?_
 refine a1O (a1t rfl rfl rfl rfl rfl) rfl rfl Tryz.call80 a5N (fun hg => (a0g (a0y rfl hg) (a0t (a0d a0c (a0d a0c (a0d a0c a0r)))) a0q)) rfl rfl ?_
 iterate 3 refine z ?_
 refine yQ rfl (fun c1 => ?_) fun c1 => ?_
 ·iterate 2 refine z ?_
  refine zK 8971 Tryz.call57 ?_ (hf := a6n (x := x) (by omega))
  iterate 3 refine z ?_
  rw [c8U c1]
  refine a0h (σ' := ⟨[(6, .box 6 0), (7, .one (.dv [] (.bool (false))))], [(6, 77, [(.dv [] (.str ((x).1))), (.key 9001), (.dv [] (.int .i64 ((x).2.2)))])], [(9001, some (a0b false (a0w (x.2.1))))]⟩) (a0e ⟨rfl, rfl, trivial⟩ ⟨rfl, trivial⟩ ⟨rfl, trivial⟩ rfl) ?_
  iterate 2 refine z ?_
  refine a1u (a0E hT rfl rfl rfl rfl) (a0l rfl) rfl rfl ?_
  first | exact ⟨rfl, rfl⟩ | skip
 ·iterate 4 refine z ?_
  refine zK 8971 Tryz.call57 ?_ (hf := a6n (x := x) (by omega))
  iterate 7 refine z ?_
  refine zC Tryz.call106 ?_ (hf := b1V)
  iterate 6 refine z ?_
  refine yQ rfl (fun c2 => ?_) fun c2 => ?_
  ·have d2 := c9f c2
   have hlt := a4W d2
   refine a1K (oB := [3, 4, 5, 6, 8]) (oK := [9001]) (by kernel_rfl) rfl rfl ?_
   refine zD 0 ?_
   refine zD 1 ?_
   refine zD 2 ?_
   refine zD 3 ?_
   refine a2G 9000 4 rfl (by kernel_rfl) rfl rfl rfl Tryz.call117 (a8g (by omega)) (a0g (a0a rfl) (a0t (a0d a0c a0r)) a0q) rfl rfl rfl rfl rfl ?_
   refine a1q 5 rfl (by kernel_rfl) rfl rfl (a5d (i := (a0S (x) (k)).toNat) hT rfl rfl rfl (a0a rfl) rfl (a0a rfl) (by omega) (by show _ < ((x.2.1)).length; omega)) rfl rfl rfl rfl ?_
   refine zD 6 ?_
   refine a3y [7] rfl rfl (by kernel_rfl) ?_
   refine a8i (js := [9003]) (cs := (a2t x.2.1 (a0S x k).toNat r).flatMap a0F) hT rfl rfl rfl rfl (a0a rfl) (a0a rfl) rfl rfl rfl rfl (a0o (a1f rfl) a1y rfl) (by decide) (by decide) rfl (by show _ ≤ List.length ((x.2.1).flatMap a0F); rw [b4C]; omega) (c0k (by omega)) ?_
   simp only [a0p, a0k, SV.kill, CV.kill, kk, Nat.reduceBEq]
   refine z ?_
   refine a0u ?_
   refine a0u ?_
   refine a0h (a4V (k := 9001) (c' := a0b false (a0w (a2t x.2.1 (a0S x k).toNat r))) rfl (congrArg (fun n => KC.mk false 119 4 n ((a2t x.2.1 (a0S x k).toNat r).flatMap a0F)) b3l.symm) rfl) ?_
   refine a0n ?_
   refine z ?_
   refine a3T rfl rfl rfl Tryz.call74 (a8v (s := (x.1, a2t x.2.1 (a0S x k).toNat r, x.2.2))) (a0g (a0a rfl) (a0t (a0d a0c (a0d (a0X rfl rfl) (a0d a0c a0r)))) a0q) rfl rfl ?_
   iterate 2 refine z ?_
   refine yQ rfl (fun c3 => ?_) fun c3 => ?_
   ·refine a0u ?_
    refine a0h (σ' := ⟨[(3, .box 3 0), (6, .box 6 0), (7, .one (.dv [] (.bool (false))))], [(3, 77, [(.dv [] (.str (x.1))), (.dv [] (a0w (x.2.1))), (.dv [] (.int .i64 (x.2.2)))]), (6, 77, [(.dv [] (.str (ByteArray.empty))), .nil, (.dv [] (.int .i64 (0)))])], []⟩) (a0e ⟨rfl, rfl, rfl, trivial⟩ ⟨rfl, rfl, trivial⟩ trivial rfl) ?_
    refine a0n ?_
    refine z ?_
    refine zK 8971 Tryz.call57 ?_ (hf := a6n (x := x) (by omega))
    iterate 3 refine z ?_
    rw [c1J c1 d2 c3]
    refine a0h (σ' := ⟨[(6, .box 6 0), (7, .one (.dv [] (.bool (false))))], [(6, 77, [(.dv [] (.str ((x).1))), (.key 9001), (.dv [] (.int .i64 ((x).2.2)))])], [(9001, some (a0b false (a0w (x.2.1))))]⟩) (a0e ⟨rfl, rfl, trivial⟩ ⟨rfl, trivial⟩ ⟨rfl, trivial⟩ rfl) ?_
    iterate 2 refine z ?_
    refine a1u (a0E hT rfl rfl rfl rfl) (a0l rfl) rfl rfl ?_
    first | exact ⟨rfl, rfl⟩ | skip
   ·iterate 7 refine z ?_
    rw [c1z c1 d2 c3]
    refine a0h (σ' := ⟨[(6, .box 6 0), (7, .one (.dv [] (.bool (true))))], [(6, 77, [(.dv [] (.str ((x).1))), (.key 9001), (.dv [] (.int .i64 ((x).2.2)))])], [(9001, some (a0b false (a0w (a2t x.2.1 (a0S x k).toNat r))))]⟩) (a0e ⟨rfl, rfl, trivial⟩ ⟨rfl, trivial⟩ ⟨rfl, trivial⟩ rfl) ?_
    refine z ?_
    refine a1u (a0E hT rfl rfl rfl rfl) (a0l rfl) rfl rfl ?_
    first | exact ⟨rfl, rfl⟩ | skip
  ·have d2 := c9g c2
   iterate 5 refine z ?_
   refine a1o (ι := Nat) (fun zz => ⟨[(3, .box 3 0), (4, .box 4 0), (5, .box 5 0), (6, .box 6 0), (7, .one (.dv [] (.bool (false)))), (8, .box 8 0), (10, .one (.dv [] (.int .i64 ((zz : Int)))))], [(3, 77, [(.dv [] (.str (x.1))), (.dv [] (a0w (x.2.1))), (.dv [] (.int .i64 (x.2.2)))]), (4, 60, [(.dv [] (.int .i64 (k.1))), (.dv [] (.int .i64 (k.2.1))), (.dv [] (.str (k.2.2)))]), (5, 63, [(.dv [] (a0I (r)))]), (6, 77, [(.dv [] (.str (ByteArray.empty))), .nil, (.dv [] (.int .i64 (0)))]), (8, 77, [(.dv [] (.str ((x).1))), (.key 9001), (.dv [] (.int .i64 ((x).2.2)))])], [(9001, some (a0b false (.sl 119 4 (x.2.1.length) (x.2.1.flatMap a0F))))]⟩) (fun zz => zz ≤ x.2.1.length ∧ a2l k x.2.1 = zz + a2l k (x.2.1.drop zz)) (fun zz => x.2.1.length - zz) (0) ?_ (a0e ⟨rfl, rfl, rfl, rfl, rfl, rfl, rfl, trivial⟩ ⟨rfl, rfl, rfl, rfl, rfl, trivial⟩ ⟨rfl, trivial⟩ rfl) (fun zz hx => ?_)
   ·exact ⟨Nat.zero_le _, by simp⟩
   obtain ⟨j, rfl⟩ : ∃ v, v = zz := ⟨_, rfl⟩
   replace hx : j ≤ x.2.1.length ∧ a2l k x.2.1 = j + a2l k (x.2.1.drop j) := hx
   obtain ⟨hj, hp⟩ := hx
   show Ok _ _ _ _ _ (⟨[(3, .box 3 0), (4, .box 4 0), (5, .box 5 0), (6, .box 6 0), (7, .one (.dv [] (.bool (false)))), (8, .box 8 0), (10, .one (.dv [] (.int .i64 ((j : Int)))))], [(3, 77, [(.dv [] (.str (x.1))), (.dv [] (a0w (x.2.1))), (.dv [] (.int .i64 (x.2.2)))]), (4, 60, [(.dv [] (.int .i64 (k.1))), (.dv [] (.int .i64 (k.2.1))), (.dv [] (.str (k.2.2)))]), (5, 63, [(.dv [] (a0I (r)))]), (6, 77, [(.dv [] (.str (ByteArray.empty))), .nil, (.dv [] (.int .i64 (0)))]), (8, 77, [(.dv [] (.str ((x).1))), (.key 9001), (.dv [] (.int .i64 ((x).2.2)))])], [(9001, some (a0b false (.sl 119 4 (x.2.1.length) (x.2.1.flatMap a0F))))]⟩ : St)
   refine a0u ?_
   refine a0u ?_
   refine a1K (oB := [3, 4, 5, 6, 8]) (oK := [9001]) (by kernel_rfl) rfl rfl ?_
   refine zD 0 ?_
   refine zD 1 ?_
   refine a1q 2 rfl (by kernel_rfl) rfl rfl (b1i (dd := a0w x.2.1) (a4d hT rfl rfl (a0a rfl) rfl rfl) rfl rfl) rfl rfl rfl rfl ?_
   refine zD 3 ?_
   refine zD 4 ?_
   refine zD 5 ?_
   refine zDG 6 ?_
   refine a8t 7 rfl (by kernel_rfl) (a1t rfl rfl rfl rfl rfl) rfl (fun hg => b1i (dd := a0w x.2.1) (a4d hT rfl rfl (a0y rfl hg) rfl rfl) rfl rfl) rfl rfl rfl rfl ?_
   refine zDG 8 ?_
   refine zDG 9 ?_
   refine zDG 10 ?_
   refine zDG 11 ?_
   refine zDG 12 ?_
   refine a3J 13 rfl (by kernel_rfl) (a1t rfl rfl rfl rfl rfl) rfl rfl Tryz.call100 a9B (fun hg => (a0g (a0y rfl hg) (a0t (a0d a0c (a0d a0c (a0d a0c a0r)))) (a0g (a0y rfl hg) (a0t (a0d a0c (a0d a0c (a0d a0c a0r)))) a0q))) rfl rfl ?_
   refine zDG 14 ?_
   refine zD 15 ?_
   refine a1Q (by kernel_rfl) ?_
   refine z ?_
   refine yQ rfl (fun c4 => ?_) fun c4 => ?_
   ·have hst := b8h hp c4
    have hst1 := hst.1
    iterate 3 refine z ?_
    refine a0n ?_
    iterate 3 refine z ?_
    refine a1H ?_
    iterate 2 refine z ?_
    refine ⟨j + 1, ?_, ?_, a0e ⟨rfl, rfl, rfl, rfl, rfl, rfl, rfl, trivial⟩ ⟨rfl, rfl, rfl, rfl, rfl, trivial⟩ ⟨rfl, trivial⟩ rfl⟩
    ·exact ⟨by omega, hst.2⟩
    ·omega
   ·have hpos := b9L hj hp c4
    iterate 5 refine z ?_
    refine a0u ?_
    refine a5w [0, 1, 2, 3, 4, 5, 6, 7] (oB := [3, 4, 5, 6, 8]) (oK := [9001]) (by kernel_rfl) rfl rfl ?_
    refine zD 0 ?_
    refine zD 1 ?_
    refine zD 2 ?_
    refine zD 3 ?_
    refine zD 4 ?_
    refine a2G 9000 5 rfl (by kernel_rfl) rfl rfl rfl Tryz.call117 (a8g (by omega)) (a0g (a0a rfl) (a0t (a0d a0c a0r)) a0q) rfl rfl rfl rfl rfl ?_
    refine a1q 6 rfl (by kernel_rfl) rfl rfl (a1v hT hB rfl rfl rfl (a1c (a0a rfl) rfl rfl rfl rfl rfl (a1c (a0a rfl) rfl rfl rfl rfl rfl a1w))) rfl rfl rfl rfl ?_
    refine a7O (k := 60) (js := [9003]) 7 hT rfl (by kernel_rfl) rfl rfl rfl rfl rfl rfl rfl rfl rfl (a0a rfl) rfl rfl (a0o (a0R rfl) (a0o (a0R rfl) (a0o (a0R rfl) (a0o (a1f rfl) a1y rfl) rfl) rfl) rfl) (by decide) (by decide) rfl rfl (by decide) ?_
    simp only [a0p, a0k, SV.kill, CV.kill, kk, Nat.reduceBEq]
    refine a3y [8, 9, 10] rfl rfl (by kernel_rfl) ?_
    refine b5b (k := 9001) (j := 60) (cs := (a1Z x.2.1 j (k, r)).flatMap a0F) (n := (a1Z x.2.1 j (k, r)).length) (b6v rfl rfl (by decide)) rfl rfl Tryz.call121 rfl rfl (a0a rfl) rfl rfl rfl (a0a rfl) (by omega) (by dsimp only [a0b]; omega) (a0a rfl) rfl rfl rfl rfl (by decide) (by dsimp only [a0b]; omega) (by dsimp only [a0b]; omega) (by rw [a8N]) (b9g (o := x.2.1) (j := j) (y := (k, r))) ?_
    simp only [a0p, a0k, SV.kill, CV.kill, kk, Nat.reduceBEq]
    iterate 20 refine z ?_
    refine yQ rfl (fun c5 => ?_) fun c5 => ?_
    ·refine a0n ?_
     iterate 5 refine z ?_
     refine a0u ?_
     refine a0u ?_
     refine a0h (a4V (k := 9001) (c' := a0b false (a0w (a1Z x.2.1 j (k, r)))) rfl (rfl) rfl) ?_
     refine a0n ?_
     refine z ?_
     refine a3T rfl rfl rfl Tryz.call74 (a8v (s := (x.1, a1Z x.2.1 j (k, r), k.2.1))) (a0g (a0a rfl) (a0t (a0d a0c (a0d (a0X rfl rfl) (a0d a0c a0r)))) a0q) rfl rfl ?_
     iterate 2 refine z ?_
     refine yQ rfl (fun c6 => ?_) fun c6 => ?_
     ·refine a0u ?_
      refine a0h (σ' := ⟨[(3, .box 3 0), (6, .box 6 0), (7, .one (.dv [] (.bool (false))))], [(3, 77, [(.dv [] (.str (x.1))), (.dv [] (a0w (x.2.1))), (.dv [] (.int .i64 (x.2.2)))]), (6, 77, [(.dv [] (.str (ByteArray.empty))), .nil, (.dv [] (.int .i64 (0)))])], []⟩) (a0e ⟨rfl, rfl, rfl, trivial⟩ ⟨rfl, rfl, trivial⟩ trivial rfl) ?_
      refine a0n ?_
      refine z ?_
      refine zK 8971 Tryz.call57 ?_ (hf := a6n (x := x) (by omega))
      iterate 3 refine z ?_
      rw [c0n c1 d2 hpos (b8b c5) c6]
      refine a0h (σ' := ⟨[(6, .box 6 0), (7, .one (.dv [] (.bool (false))))], [(6, 77, [(.dv [] (.str ((x).1))), (.key 9001), (.dv [] (.int .i64 ((x).2.2)))])], [(9001, some (a0b false (a0w (x.2.1))))]⟩) (a0e ⟨rfl, rfl, trivial⟩ ⟨rfl, trivial⟩ ⟨rfl, trivial⟩ rfl) ?_
      iterate 2 refine z ?_
      refine a1u (a0E hT rfl rfl rfl rfl) (a0l rfl) rfl rfl ?_
      first | exact ⟨rfl, rfl⟩ | skip
     ·iterate 7 refine z ?_
      rw [b8i c1 d2 hpos (b8b c5) c6]
      refine a0h (σ' := ⟨[(6, .box 6 0), (7, .one (.dv [] (.bool (true))))], [(6, 77, [(.dv [] (.str ((x).1))), (.key 9001), (.dv [] (.int .i64 (k.2.1)))])], [(9001, some (a0b false (a0w (a1Z x.2.1 j (k, r)))))]⟩) (a0e ⟨rfl, rfl, trivial⟩ ⟨rfl, trivial⟩ ⟨rfl, trivial⟩ rfl) ?_
      refine z ?_
      refine a1u (a0E hT rfl rfl rfl rfl) (a0l rfl) rfl rfl ?_
      first | exact ⟨rfl, rfl⟩ | skip
    ·iterate 2 refine z ?_
     refine a0u ?_
     refine a0u ?_
     refine a0h (a4V (k := 9001) (c' := a0b false (a0w (a1Z x.2.1 j (k, r)))) rfl (rfl) rfl) ?_
     refine a0n ?_
     refine z ?_
     refine a3T rfl rfl rfl Tryz.call74 (a8v (s := (x.1, a1Z x.2.1 j (k, r), x.2.2))) (a0g (a0a rfl) (a0t (a0d a0c (a0d (a0X rfl rfl) (a0d a0c a0r)))) a0q) rfl rfl ?_
     iterate 2 refine z ?_
     refine yQ rfl (fun c7 => ?_) fun c7 => ?_
     ·refine a0u ?_
      refine a0h (σ' := ⟨[(3, .box 3 0), (6, .box 6 0), (7, .one (.dv [] (.bool (false))))], [(3, 77, [(.dv [] (.str (x.1))), (.dv [] (a0w (x.2.1))), (.dv [] (.int .i64 (x.2.2)))]), (6, 77, [(.dv [] (.str (ByteArray.empty))), .nil, (.dv [] (.int .i64 (0)))])], []⟩) (a0e ⟨rfl, rfl, rfl, trivial⟩ ⟨rfl, rfl, trivial⟩ trivial rfl) ?_
      refine a0n ?_
      refine z ?_
      refine zK 8971 Tryz.call57 ?_ (hf := a6n (x := x) (by omega))
      iterate 3 refine z ?_
      rw [c0n c1 d2 hpos (b8U c5) c7]
      refine a0h (σ' := ⟨[(6, .box 6 0), (7, .one (.dv [] (.bool (false))))], [(6, 77, [(.dv [] (.str ((x).1))), (.key 9001), (.dv [] (.int .i64 ((x).2.2)))])], [(9001, some (a0b false (a0w (x.2.1))))]⟩) (a0e ⟨rfl, rfl, trivial⟩ ⟨rfl, trivial⟩ ⟨rfl, trivial⟩ rfl) ?_
      iterate 2 refine z ?_
      refine a1u (a0E hT rfl rfl rfl rfl) (a0l rfl) rfl rfl ?_
      first | exact ⟨rfl, rfl⟩ | skip
     ·iterate 7 refine z ?_
      rw [b8i c1 d2 hpos (b8U c5) c7]
      refine a0h (σ' := ⟨[(6, .box 6 0), (7, .one (.dv [] (.bool (true))))], [(6, 77, [(.dv [] (.str ((x).1))), (.key 9001), (.dv [] (.int .i64 ((x).2.2)))])], [(9001, some (a0b false (a0w (a1Z x.2.1 j (k, r)))))]⟩) (a0e ⟨rfl, rfl, trivial⟩ ⟨rfl, trivial⟩ ⟨rfl, trivial⟩ rfl) ?_
      refine z ?_
      refine a1u (a0E hT rfl rfl rfl rfl) (a0l rfl) rfl rfl ?_
      first | exact ⟨rfl, rfl⟩ | skip
theorem c1V {x : a0G} {b c : Bool} (h : (!a1i x || b || c) = false) : 0 ≤ x.2.2 ∧ x.2.2 ≤ 1000000 := by
 have hs : a1i x = true := by cases hh : a1i x <;> simp_all
 rw [b2b] at hs
 simp only [Bool.and_eq_true, decide_eq_true_eq] at hs
 omega
theorem c7o {x : a0G} {k : a0K} {r : a0v} (h : (!a1i x || !a1a k || !a1b r) = false) (hf : 0 ≤ a0S x k) : a0N x k r = ((x.1, a2t x.2.1 (a0S x k).toNat r, x.2.2), true) := by
 rw [a0N, if_neg (by rw [h]; simp), if_pos hf]
theorem c4y {x : a0G} {k : a0K} {r : a0v} (h : (!a1i x || !a1a k || !a1b r) = false) (hf : ¬ 0 ≤ a0S x k) (hl : (16 : Int) ≤ (x.2.1.length : Int)) : a0N x k r = (x, false) := by
 rw [a0N, if_neg (by rw [h]; simp), if_neg hf, if_pos (by omega)]
theorem b6k {x : a0G} {k : a0K} {r : a0v} {j : Nat} {a : Int} (h : (!a1i x || !a1a k || !a1b r) = false) (hf : ¬ 0 ≤ a0S x k) (hl : ¬ (16 : Int) ≤ (x.2.1.length : Int)) (hj : a2l k x.2.1 = j) (ha : a = a3h x k) : a0N x k r = ((x.1, a1Z x.2.1 j (k, r), a), true) := by
 subst hj; subst ha
 rw [a0N, if_neg (by rw [h]; simp), if_neg hf, if_neg (by omega)]
theorem c5S {x : a0G} {k : a0K} (h : (decide (k.1 = 1) && (decide (x.2.2 + 1 ≤ k.2.1) && decide (k.2.1 ≤ 1000000))) = true) : k.2.1 = a3h x k := by rw [a3h, if_pos h]
theorem c4A {x : a0G} {k : a0K} (h : (decide (k.1 = 1) && (decide (x.2.2 + 1 ≤ k.2.1) && decide (k.2.1 ≤ 1000000))) = false) : x.2.2 = a3h x k := by rw [a3h, if_neg (by rw [h]; simp)]
theorem a8r {x : a0G} {k : a0K} {r : a0v} (hb : a1g x ≤ 1048576) (hb2 : r.length ≤ 1048576) : KFn Tryz.prog 65 [.agg [(.dv [] (.str (x.1))), (.dv [] (a0w (x.2.1))), (.dv [] (.int .i64 (x.2.2)))], .agg [(.dv [] (.int .i64 (k.1))), (.dv [] (.int .i64 (k.2.1))), (.dv [] (.str (k.2.2)))], .agg [(.dv [] (a0I (r)))]] (.tup [(true, [(.dv [] (.str ((a0N x k r).1.1))), (.key 9001), (.dv [] (.int .i64 ((a0N x k r).1.2.2)))]), (false, [(.dv [] (.bool ((a0N x k r).2)))])]) [(9001, some (a0b false (a0w ((a0N x k r).1.2.1))))] := by
 refine ⟨a0O Tryz.func65 rfl Tryz.ntmps65 Tryz.results65 rfl (fun C => ?_)⟩
 have hlen : x.2.1.length ≤ 1048576 := by have h3 : a1g x = x.1.size + (x.2.1.length + a0V a1P x.2.1) := rfl; omega
 refine yF 0 0 rfl rfl fun f0_0 => ?_
 refine yF 0 1 rfl rfl fun f0_1 => ?_
 refine yF 0 2 rfl rfl fun f0_2 => ?_
 refine yF 1 0 rfl rfl fun f1_0 => ?_
 refine yF 1 1 rfl rfl fun f1_1 => ?_
 refine yF 1 2 rfl rfl fun f1_2 => ?_
 refine yF 2 0 rfl rfl fun f2_0 => ?_
 iterate 10 refine z ?_
 refine zC Tryz.call50 ?_ (hf := b3T (s := x))
 iterate 3 refine z ?_
 refine a1O (a1t rfl rfl rfl rfl rfl) rfl rfl Tryz.call85 a6z (fun hg => (a0g (a0y rfl hg) (a0t (a0d a0c (a0d a0c (a0d a0c a0r)))) a0q)) rfl rfl ?_
 iterate 4 refine z ?_
 refine a1O (a1t rfl rfl rfl rfl rfl) rfl rfl Tryz.call86 a7q (fun hg => (a0g (a0y rfl hg) (a0t (a0d a0c a0r)) a0q)) rfl rfl ?_
 iterate 3 refine z ?_
 refine yQ rfl (fun c1 => ?_) fun c1 => ?_
 ·iterate 2 refine z ?_
  refine zK 8971 Tryz.call49 ?_ (hf := a7B (x := x) (by omega))
  iterate 3 refine z ?_
  rw [a0N, if_pos c1]
  refine a0h (σ' := ⟨[(6, .box 6 0), (7, .one (.dv [] (.bool (false))))], [(6, 77, [(.dv [] (.str ((x).1))), (.key 9001), (.dv [] (.int .i64 ((x).2.2)))])], [(9001, some (a0b false (a0w (x.2.1))))]⟩) (a0e ⟨rfl, rfl, trivial⟩ ⟨rfl, trivial⟩ ⟨rfl, trivial⟩ rfl) ?_
  iterate 2 refine z ?_
  refine a1u (a0E hT rfl rfl rfl rfl) (a0l rfl) rfl rfl ?_
  first | exact ⟨rfl, rfl⟩ | skip
 ·have hau := c1V c1
  iterate 4 refine z ?_
  refine zK 8971 Tryz.call49 ?_ (hf := a7B (x := x) (by omega))
  iterate 7 refine z ?_
  refine zC Tryz.call92 ?_ (hf := b0R)
  iterate 6 refine z ?_
  refine yQ rfl (fun c2 => ?_) fun c2 => ?_
  ·have d2 := c9f c2
   have hlt := a4W d2
   refine a0u ?_
   refine a1K (oB := [3, 4, 5, 6, 8]) (oK := [9001]) (by kernel_rfl) rfl rfl ?_
   refine zD 0 ?_
   refine zD 1 ?_
   refine zD 2 ?_
   refine zD 3 ?_
   refine a2G 9000 4 rfl (by kernel_rfl) rfl rfl rfl Tryz.call96 (a8l (by omega)) (a0g (a0a rfl) (a0t (a0d a0c a0r)) a0q) rfl rfl rfl rfl rfl ?_
   refine a1q 5 rfl (by kernel_rfl) rfl rfl (a5d (i := (a0S (x) (k)).toNat) hT rfl rfl rfl (a0a rfl) rfl (a0a rfl) (by omega) (by show _ < ((x.2.1)).length; omega)) rfl rfl rfl rfl ?_
   refine zD 6 ?_
   refine a3y [7] rfl rfl (by kernel_rfl) ?_
   refine a8i (js := [9003]) (cs := (a2t x.2.1 (a0S x k).toNat r).flatMap a0F) hT rfl rfl rfl rfl (a0a rfl) (a0a rfl) rfl rfl rfl rfl (a0o (a1f rfl) a1y rfl) (by decide) (by decide) rfl (by show _ ≤ List.length ((x.2.1).flatMap a0F); rw [b4C]; omega) (c0k (by omega)) ?_
   simp only [a0p, a0k, SV.kill, CV.kill, kk, Nat.reduceBEq]
   refine z ?_
   refine a0u ?_
   refine a0h (a4V (k := 9001) (c' := a0b false (a0w (a2t x.2.1 (a0S x k).toNat r))) rfl (congrArg (fun n => KC.mk false 119 4 n ((a2t x.2.1 (a0S x k).toNat r).flatMap a0F)) b3l.symm) rfl) ?_
   refine a0n ?_
   iterate 4 refine z ?_
   rw [c7o c1 d2]
   refine a0h (σ' := ⟨[(6, .box 6 0), (7, .one (.dv [] (.bool (true))))], [(6, 77, [(.dv [] (.str ((x).1))), (.key 9001), (.dv [] (.int .i64 ((x).2.2)))])], [(9001, some (a0b false (a0w (a2t x.2.1 (a0S x k).toNat r))))]⟩) (a0e ⟨rfl, rfl, trivial⟩ ⟨rfl, trivial⟩ ⟨rfl, trivial⟩ rfl) ?_
   iterate 2 refine z ?_
   refine a1u (a0E hT rfl rfl rfl rfl) (a0l rfl) rfl rfl ?_
   first | exact ⟨rfl, rfl⟩ | skip
  ·have d2 := c9g c2
   iterate 9 refine z ?_
   refine yQ rfl (fun c3 => ?_) fun c3 => ?_
   ·have d3 := c9f c3
    iterate 5 refine z ?_
    rw [c4y c1 d2 d3]
    refine a0h (σ' := ⟨[(6, .box 6 0), (7, .one (.dv [] (.bool (false))))], [(6, 77, [(.dv [] (.str ((x).1))), (.key 9001), (.dv [] (.int .i64 ((x).2.2)))])], [(9001, some (a0b false (a0w (x.2.1))))]⟩) (a0e ⟨rfl, rfl, trivial⟩ ⟨rfl, trivial⟩ ⟨rfl, trivial⟩ rfl) ?_
    iterate 2 refine z ?_
    refine a1u (a0E hT rfl rfl rfl rfl) (a0l rfl) rfl rfl ?_
    first | exact ⟨rfl, rfl⟩ | skip
   ·have d3 := c9g c3
    iterate 7 refine z ?_
    refine a1o (ι := Nat) (fun zz => ⟨[(3, .box 3 0), (4, .box 4 0), (5, .box 5 0), (6, .box 6 0), (7, .one (.dv [] (.bool (false)))), (8, .box 8 0), (10, .one (.dv [] (.int .i64 ((zz : Int)))))], [(3, 77, [(.dv [] (.str (x.1))), (.dv [] (a0w (x.2.1))), (.dv [] (.int .i64 (x.2.2)))]), (4, 60, [(.dv [] (.int .i64 (k.1))), (.dv [] (.int .i64 (k.2.1))), (.dv [] (.str (k.2.2)))]), (5, 63, [(.dv [] (a0I (r)))]), (6, 77, [(.dv [] (.str (ByteArray.empty))), .nil, (.dv [] (.int .i64 (0)))]), (8, 77, [(.dv [] (.str ((x).1))), (.key 9001), (.dv [] (.int .i64 ((x).2.2)))])], [(9001, some (a0b false (.sl 119 4 (x.2.1.length) (x.2.1.flatMap a0F))))]⟩) (fun zz => zz ≤ x.2.1.length ∧ a2l k x.2.1 = zz + a2l k (x.2.1.drop zz)) (fun zz => x.2.1.length - zz) (0) ?_ (a0e ⟨rfl, rfl, rfl, rfl, rfl, rfl, rfl, trivial⟩ ⟨rfl, rfl, rfl, rfl, rfl, trivial⟩ ⟨rfl, trivial⟩ rfl) (fun zz hx => ?_)
    ·exact ⟨Nat.zero_le _, by simp⟩
    obtain ⟨j, rfl⟩ : ∃ v, v = zz := ⟨_, rfl⟩
    replace hx : j ≤ x.2.1.length ∧ a2l k x.2.1 = j + a2l k (x.2.1.drop j) := hx
    obtain ⟨hj, hp⟩ := hx
    show Ok _ _ _ _ _ (⟨[(3, .box 3 0), (4, .box 4 0), (5, .box 5 0), (6, .box 6 0), (7, .one (.dv [] (.bool (false)))), (8, .box 8 0), (10, .one (.dv [] (.int .i64 ((j : Int)))))], [(3, 77, [(.dv [] (.str (x.1))), (.dv [] (a0w (x.2.1))), (.dv [] (.int .i64 (x.2.2)))]), (4, 60, [(.dv [] (.int .i64 (k.1))), (.dv [] (.int .i64 (k.2.1))), (.dv [] (.str (k.2.2)))]), (5, 63, [(.dv [] (a0I (r)))]), (6, 77, [(.dv [] (.str (ByteArray.empty))), .nil, (.dv [] (.int .i64 (0)))]), (8, 77, [(.dv [] (.str ((x).1))), (.key 9001), (.dv [] (.int .i64 ((x).2.2)))])], [(9001, some (a0b false (.sl 119 4 (x.2.1.length) (x.2.1.flatMap a0F))))]⟩ : St)
    refine a0u ?_
    refine a0u ?_
    refine a1K (oB := [3, 4, 5, 6, 8]) (oK := [9001]) (by kernel_rfl) rfl rfl ?_
    refine zD 0 ?_
    refine zD 1 ?_
    refine zD 2 ?_
    refine zD 3 ?_
    refine zD 4 ?_
    refine zD 5 ?_
    refine zDG 6 ?_
    refine zDG 7 ?_
    refine zDG 8 ?_
    refine zDG 9 ?_
    refine zDG 10 ?_
    refine zDG 11 ?_
    refine zDG 12 ?_
    refine a3J 13 rfl (by kernel_rfl) (a1t rfl rfl rfl rfl rfl) rfl rfl Tryz.call87 a9W (fun hg => (a0g (a0y rfl hg) (a0t (a0d a0c (a0d a0c (a0d a0c a0r)))) (a0g (a0y rfl hg) (a0t (a0d a0c (a0d a0c (a0d a0c a0r)))) a0q))) rfl rfl ?_
    refine zDG 14 ?_
    refine zD 15 ?_
    refine a1Q (by kernel_rfl) ?_
    refine z ?_
    refine yQ rfl (fun c4 => ?_) fun c4 => ?_
    ·have hst := b8h hp c4
     have hst1 := hst.1
     iterate 3 refine z ?_
     refine a0n ?_
     iterate 3 refine z ?_
     refine a1H ?_
     iterate 2 refine z ?_
     refine ⟨j + 1, ?_, ?_, a0e ⟨rfl, rfl, rfl, rfl, rfl, rfl, rfl, trivial⟩ ⟨rfl, rfl, rfl, rfl, rfl, trivial⟩ ⟨rfl, trivial⟩ rfl⟩
     ·exact ⟨by omega, hst.2⟩
     ·omega
    ·have hpos := b9L hj hp c4
     iterate 6 refine z ?_
     refine a2J (k := 65) hT rfl rfl rfl rfl rfl rfl rfl rfl ?_
     iterate 3 refine z ?_
     refine c6V (b8 := 8) (i8 := 1) (k := 65) (j := 9001) (s := 67) (n := (x.2.1.take j).length) (cs := (x.2.1.take j).flatMap a0F) (c2s := List.replicate (j * 4) .hole ++ (x.2.1.drop j).flatMap a0F) hT rfl rfl rfl (b3u hT rfl rfl rfl (a0a rfl) rfl (a0a rfl) (by omega) (by dsimp only [a0b]; omega)) rfl rfl rfl rfl rfl rfl rfl (a0a rfl) rfl rfl rfl rfl rfl rfl (by decide) rfl rfl ⟨rfl, rfl⟩ (by omega) (by dsimp only [a0b]; omega) (by dsimp only [a0b]; omega) (by dsimp only [a0b]; omega) (by rw [c9j, Nat.min_eq_left (by omega)]; simp) (b5C) (b9W) rfl rfl rfl ?_
     simp only [a0p, a0k, SV.kill, CV.kill, kk, Nat.reduceBEq]
     iterate 2 refine z ?_
     refine a0u ?_
     refine a5w [0, 1, 2, 3, 4, 5] (oB := [3, 4, 5, 6, 8]) (oK := [65, 9001]) (by kernel_rfl) rfl rfl ?_
     refine zD 0 ?_
     refine zD 1 ?_
     refine zD 2 ?_
     refine a2G 9000 3 rfl (by kernel_rfl) rfl rfl rfl Tryz.call96 (a8l (by omega)) (a0g (a0a rfl) (a0t (a0d a0c a0r)) a0q) rfl rfl rfl rfl rfl ?_
     refine a1q 4 rfl (by kernel_rfl) rfl rfl (a1v hT hB rfl rfl rfl (a1c (a0a rfl) rfl rfl rfl rfl rfl (a1c (a0a rfl) rfl rfl rfl rfl rfl a1w))) rfl rfl rfl rfl ?_
     refine a7O (k := 76) (js := [9003]) 5 hT rfl (by kernel_rfl) rfl rfl rfl rfl rfl rfl rfl rfl rfl (a0a rfl) rfl rfl (a0o (a0R rfl) (a0o (a0R rfl) (a0o (a0R rfl) (a0o (a1f rfl) a1y rfl) rfl) rfl) rfl) (by decide) (by decide) rfl rfl (by decide) ?_
     simp only [a0p, a0k, SV.kill, CV.kill, kk, Nat.reduceBEq]
     refine a3y [6, 7] rfl rfl (by kernel_rfl) ?_
     refine a3f (k := 65) (j := 76) (cs := (x.2.1.take j ++ [(k, r)]).flatMap a0F) (n := (x.2.1.take j ++ [(k, r)]).length) hT rfl rfl rfl rfl rfl rfl rfl (a0a rfl) rfl rfl rfl (a0a rfl) rfl rfl (by decide) (by dsimp only [a0b]; simp only [c9j]; omega) (by dsimp only [a0b]; simp only [c9j]; omega) (by simp) (by rw [List.flatMap_append]; rfl) ?_
     simp only [a0p, a0k, SV.kill, CV.kill, kk, Nat.reduceBEq]
     iterate 7 refine z ?_
     refine b4Y (k := 65) (j := 9001) (s := 80) (n := (a1Z x.2.1 j (k, r)).length) (cs := (a1Z x.2.1 j (k, r)).flatMap a0F) (c2s := _) hT rfl rfl rfl (b4x hT rfl rfl rfl (a0a rfl) rfl (a0a rfl) (by omega) (by dsimp only [a0b]; omega)) rfl rfl rfl rfl rfl rfl rfl (a0a rfl) rfl rfl rfl rfl rfl rfl (by decide) rfl rfl ⟨rfl, rfl⟩ (by dsimp only [a0b]; omega) (by dsimp only [a0b]; omega) (by dsimp only [a0b]; simp only [c9i, c9j, List.length_singleton]; omega) (by dsimp only [a0b]; simp only [c9i, c9j, List.length_singleton]; omega) (by rw [a8N]; simp; omega) (b7q hj) (rfl) ?_
     simp only [a0p, a0k, SV.kill, CV.kill, kk, Nat.reduceBEq]
     iterate 14 refine z ?_
     refine a1O (a1t rfl rfl rfl rfl rfl) rfl rfl Tryz.call54 a7b (fun hg => (a0g (a0y rfl hg) (a0C a0c) (a0g (a0y rfl hg) (a0C a0c) (a0g (a0i (a0j rfl)) (a0C a0c) a0q)))) rfl rfl ?_
     iterate 2 refine z ?_
     refine yQ rfl (fun c5 => ?_) fun c5 => ?_
     ·refine a0n ?_
      iterate 5 refine z ?_
      refine a0u ?_
      refine a0h (a2N (b := 8) (i := 1) (k := 65) (k' := 9001) rfl rfl rfl rfl (by decide) rfl rfl) ?_
      simp only [a0p, a0k, SV.kill, CV.kill, kk, Nat.reduceBEq]
      refine a0n ?_
      iterate 4 refine z ?_
      rw [b6k c1 d2 d3 hpos (c5S c5)]
      refine a0h (σ' := ⟨[(6, .box 6 0), (7, .one (.dv [] (.bool (true))))], [(6, 77, [(.dv [] (.str ((x).1))), (.key 9001), (.dv [] (.int .i64 (k.2.1)))])], [(9001, some (a0b false (a0w (a1Z x.2.1 j (k, r)))))]⟩) (a0e ⟨rfl, rfl, trivial⟩ ⟨rfl, trivial⟩ ⟨rfl, trivial⟩ rfl) ?_
      refine z ?_
      refine a1u (a0E hT rfl rfl rfl rfl) (a0l rfl) rfl rfl ?_
      first | exact ⟨rfl, rfl⟩ | skip
     ·iterate 2 refine z ?_
      refine a0u ?_
      refine a0h (a2N (b := 8) (i := 1) (k := 65) (k' := 9001) rfl rfl rfl rfl (by decide) rfl rfl) ?_
      simp only [a0p, a0k, SV.kill, CV.kill, kk, Nat.reduceBEq]
      refine a0n ?_
      iterate 4 refine z ?_
      rw [b6k c1 d2 d3 hpos (c4A c5)]
      refine a0h (σ' := ⟨[(6, .box 6 0), (7, .one (.dv [] (.bool (true))))], [(6, 77, [(.dv [] (.str ((x).1))), (.key 9001), (.dv [] (.int .i64 ((x).2.2)))])], [(9001, some (a0b false (a0w (a1Z x.2.1 j (k, r)))))]⟩) (a0e ⟨rfl, rfl, trivial⟩ ⟨rfl, trivial⟩ ⟨rfl, trivial⟩ rfl) ?_
      refine z ?_
      refine a1u (a0E hT rfl rfl rfl rfl) (a0l rfl) rfl rfl ?_
      first | exact ⟨rfl, rfl⟩ | skip
def a2C (x : a0G) (k : a0K) (r : a0v) : a0G × Bool := if 0 ≤ a0S x k then (x, false) else a0N x k r
theorem b7R {x : a0G} {k : a0K} {r : a0v} (h : 0 ≤ a0S x k) : a2C x k r = (x, false) := if_pos h
theorem b7L {x : a0G} {k : a0K} {r : a0v} (h : ¬ 0 ≤ a0S x k) : a2C x k r = a0N x k r := if_neg h
theorem c1F {x : a0G} {k : a0K} {r : a0v} (hb : a1g x ≤ 1048576) (hb2 : r.length ≤ 1048576) : KFn Tryz.prog 108 [.agg [(.dv [] (.str (x.1))), (.dv [] (a0w (x.2.1))), (.dv [] (.int .i64 (x.2.2)))], .agg [(.dv [] (.int .i64 (k.1))), (.dv [] (.int .i64 (k.2.1))), (.dv [] (.str (k.2.2)))], .agg [(.dv [] (a0I (r)))]] (.tup [(true, [(.dv [] (.str ((a2C x k r).1.1))), (.key 9001), (.dv [] (.int .i64 ((a2C x k r).1.2.2)))]), (false, [(.dv [] (.bool ((a2C x k r).2)))])]) [(9001, some (a0b false (a0w ((a2C x k r).1.2.1))))] := by
 refine ⟨a0O Tryz.func108 rfl Tryz.ntmps108 Tryz.results108 rfl (fun C => ?_)⟩
 refine yF 0 0 rfl rfl fun f0_0 => ?_
 refine yF 0 1 rfl rfl fun f0_1 => ?_
 refine yF 0 2 rfl rfl fun f0_2 => ?_
 refine yF 1 0 rfl rfl fun f1_0 => ?_
 refine yF 1 1 rfl rfl fun f1_1 => ?_
 refine yF 1 2 rfl rfl fun f1_2 => ?_
 refine yF 2 0 rfl rfl fun f2_0 => ?_
 iterate 11 refine z ?_
 refine zC Tryz.call106 ?_ (hf := b1V)
 iterate 2 refine z ?_
 refine yQ rfl (fun c1 => ?_) fun c1 => ?_
 ·have d1 := c9f c1
  iterate 2 refine z ?_
  refine zK 8971 Tryz.call57 ?_ (hf := a6n (x := x) (by omega))
  iterate 3 refine z ?_
  rw [b7R d1]
  refine a0h (σ' := ⟨[(6, .box 6 0), (7, .one (.dv [] (.bool (false))))], [(6, 77, [(.dv [] (.str ((x).1))), (.key 9001), (.dv [] (.int .i64 ((x).2.2)))])], [(9001, some (a0b false (a0w (x.2.1))))]⟩) (a0e ⟨rfl, rfl, trivial⟩ ⟨rfl, trivial⟩ ⟨rfl, trivial⟩ rfl) ?_
  iterate 2 refine z ?_
  refine a1u (a0E hT rfl rfl rfl rfl) (a0l rfl) rfl rfl ?_
  first | exact ⟨rfl, rfl⟩ | skip
 ·have d1 := c9g c1
  iterate 6 refine z ?_
  refine zK 0 Tryz.call107 ?_ (hf := b1R (x := x) (k := k) (r := r) (by omega) (by omega))
  iterate 5 refine z ?_
  rw [b7L d1]
  refine a0h (σ' := ⟨[(6, .box 6 0), (7, .one (.dv [] (.bool ((a0N (x) (k) (r)).2))))], [(6, 77, [(.dv [] (.str ((a0N (x) (k) (r)).1.1))), (.key 9001), (.dv [] (.int .i64 ((a0N (x) (k) (r)).1.2.2)))])], [(9001, some (a0b false (a0w ((a0N x k r).1.2.1))))]⟩) (a0e ⟨rfl, rfl, trivial⟩ ⟨rfl, trivial⟩ ⟨rfl, trivial⟩ rfl) ?_
  refine z ?_
  refine a1u (a0E hT rfl rfl rfl rfl) (a0l rfl) rfl rfl ?_
  first | exact ⟨rfl, rfl⟩ | skip
theorem c6R {x : a0G} {k : a0K} {r : a0v} (hb : a1g x ≤ 1048576) (hb2 : r.length ≤ 1048576) : KFn Tryz.prog 90 [.agg [(.dv [] (.str (x.1))), (.dv [] (a0w (x.2.1))), (.dv [] (.int .i64 (x.2.2)))], .agg [(.dv [] (.int .i64 (k.1))), (.dv [] (.int .i64 (k.2.1))), (.dv [] (.str (k.2.2)))], .agg [(.dv [] (a0I (r)))]] (.tup [(true, [(.dv [] (.str ((a2C x k r).1.1))), (.key 9001), (.dv [] (.int .i64 ((a2C x k r).1.2.2)))]), (false, [(.dv [] (.bool ((a2C x k r).2)))])]) [(9001, some (a0b false (a0w ((a2C x k r).1.2.1))))] := by
 refine ⟨a0O Tryz.func90 rfl Tryz.ntmps90 Tryz.results90 rfl (fun C => ?_)⟩
 refine yF 0 0 rfl rfl fun f0_0 => ?_
 refine yF 0 1 rfl rfl fun f0_1 => ?_
 refine yF 0 2 rfl rfl fun f0_2 => ?_
 refine yF 1 0 rfl rfl fun f1_0 => ?_
 refine yF 1 1 rfl rfl fun f1_1 => ?_
 refine yF 1 2 rfl rfl fun f1_2 => ?_
 refine yF 2 0 rfl rfl fun f2_0 => ?_
 iterate 11 refine z ?_
 refine zC Tryz.call92 ?_ (hf := b0R)
 iterate 2 refine z ?_
 refine yQ rfl (fun c1 => ?_) fun c1 => ?_
 ·have d1 := c9f c1
  iterate 2 refine z ?_
  refine zK 8971 Tryz.call49 ?_ (hf := a7B (x := x) (by omega))
  iterate 3 refine z ?_
  rw [b7R d1]
  refine a0h (σ' := ⟨[(6, .box 6 0), (7, .one (.dv [] (.bool (false))))], [(6, 77, [(.dv [] (.str ((x).1))), (.key 9001), (.dv [] (.int .i64 ((x).2.2)))])], [(9001, some (a0b false (a0w (x.2.1))))]⟩) (a0e ⟨rfl, rfl, trivial⟩ ⟨rfl, trivial⟩ ⟨rfl, trivial⟩ rfl) ?_
  iterate 2 refine z ?_
  refine a1u (a0E hT rfl rfl rfl rfl) (a0l rfl) rfl rfl ?_
  first | exact ⟨rfl, rfl⟩ | skip
 ·have d1 := c9g c1
  iterate 6 refine z ?_
  refine zK 0 Tryz.call65 ?_ (hf := a8r (x := x) (k := k) (r := r) (by omega) (by omega))
  iterate 5 refine z ?_
  rw [b7L d1]
  refine a0h (σ' := ⟨[(6, .box 6 0), (7, .one (.dv [] (.bool ((a0N (x) (k) (r)).2))))], [(6, 77, [(.dv [] (.str ((a0N (x) (k) (r)).1.1))), (.key 9001), (.dv [] (.int .i64 ((a0N (x) (k) (r)).1.2.2)))])], [(9001, some (a0b false (a0w ((a0N x k r).1.2.1))))]⟩) (a0e ⟨rfl, rfl, trivial⟩ ⟨rfl, trivial⟩ ⟨rfl, trivial⟩ rfl) ?_
  refine z ?_
  refine a1u (a0E hT rfl rfl rfl rfl) (a0l rfl) rfl rfl ?_
  first | exact ⟨rfl, rfl⟩ | skip
theorem b0o {x : a0G} {k : a0K} {r : a0v} (h : (a0N x k r).2 = false) : (a0N x k r).1 = x := by
 unfold a0N at h ⊢
 split
 ·rfl
 ·rename_i h1
  rw [if_neg h1] at h
  split
  ·rename_i h2; rw [if_pos h2] at h; cases h
  ·rename_i h2
   rw [if_neg h2] at h
   split
   ·rfl
   ·rename_i h3; rw [if_neg h3] at h; cases h
def uvL (n : Nat) : List UInt8 := if h : n < 128 then [UInt8.ofNat n] else UInt8.ofNat (n % 128 + 128) :: uvL (n / 128)
termination_by n
decreasing_by omega
theorem a6o {n : Nat} (h : n < 128) : uvL n = [UInt8.ofNat n] := by rw [uvL, dif_pos h]
theorem a8y {n : Nat} (h : ¬ n < 128) : uvL n = UInt8.ofNat (n % 128 + 128) :: uvL (n / 128) := by rw [uvL, dif_neg h]
def a3g (b : List UInt8) (n : Int) : List UInt8 := if 0 ≤ n ∧ n ≤ 1000000000000 then b ++ uvL n.toNat else b
theorem c5q {n : Int} (h : (!(decide (0 ≤ n) && decide (n ≤ 1000000000000))) = false) : 0 ≤ n ∧ n ≤ 1000000000000 := by simpa using h
theorem c3Y {n : Int} (h : (!(decide (0 ≤ n) && decide (n ≤ 1000000000000))) = true) : ¬ (0 ≤ n ∧ n ≤ 1000000000000) := fun h2 => by
 rw [decide_eq_true h2.1, decide_eq_true h2.2] at h; cases h
theorem a7P {b : List UInt8} {n : Int} (h : 0 ≤ n ∧ n ≤ 1000000000000) : a3g b n = b ++ uvL n.toNat := if_pos h
theorem b8J {b : List UInt8} {n : Int} (h : ¬ (0 ≤ n ∧ n ≤ 1000000000000)) : a3g b n = b := if_neg h
theorem b2E : ∀ (k n : Nat), n < 128 ^ (k + 1) → (uvL n).length ≤ k + 1
 | 0, n, h => by rw [a6o (by simpa using h)]; simp
 | k + 1, n, h => by
  by_cases h1 : n < 128
  ·rw [a6o h1]; simp
  ·rw [a8y h1, List.length_cons]
   have := b2E k (n / 128) (by rw [Nat.pow_succ] at h; omega)
   omega
theorem a6u {n : Nat} (h : n ≤ 1000000000000) : (uvL n).length ≤ 6 := b2E 5 n (by omega)
theorem a6F (b : List UInt8) (n : Int) : (a3g b n).length ≤ b.length + 6 := by
 unfold a3g
 split
 ·rename_i h
  have := a6u (n := n.toNat) (by omega)
  rw [c9i]; omega
 ·omega
theorem c6M {o x : List UInt8} {m n : Nat} (ho : o ++ uvL m = x ++ uvL n) (h : (128 : Int) ≤ (m : Int)) : (o ++ [UInt8.ofNat (m % 128 + 128)]) ++ uvL (m / 128) = x ++ uvL n := by
 rw [← ho, a8y (n := m) (by omega)]; simp
theorem b5q {x o : List UInt8} {n : Int} {m : Nat} (hr : 0 ≤ n ∧ n ≤ 1000000000000) (ho : o ++ uvL m = x ++ uvL n.toNat) (h : ¬ (128 : Int) ≤ (m : Int)) : o ++ [UInt8.ofNat m] = a3g x n := by
 rw [a7P hr, ← ho, a6o (n := m) (by omega)]
theorem c3m {m : Nat} (z : Int) (hz : z = (m : Int)) : IntKind.u8.wrap z = ((UInt8.ofNat m).toNat : Int) := by
 subst hz
 simp [IntKind.wrap, IntKind.signed, IntKind.bits]
theorem b1L {o : List UInt8} {m : Nat} {z : Int} (hz : z = (m : Int)) : o.flatMap a1x ++ [DV.int .u8 (IntKind.u8.wrap z)] = (o ++ [UInt8.ofNat m]).flatMap a1x := by
 rw [List.flatMap_append, c3m z hz]; rfl
theorem b2U {x : List UInt8} (hb : x.length ≤ 4398046511104) : KFn Tryz.prog 40 [.one (.dv [] (a0m (x)))] (.one (.key 3)) [(3, some (a0b false (a0m (x))))] := by
 refine ⟨a0O Tryz.func40 rfl Tryz.ntmps40 Tryz.results40 rfl (fun C => ?_)⟩
 refine a1k (x := .tmp 0) (a0a rfl) fun f0 => ?_
 iterate 4 refine z ?_
 refine a2J (k := 3) hT rfl rfl rfl rfl rfl rfl rfl rfl ?_
 refine z ?_
 refine a9h (k := 3) (cs := (x).flatMap a1x) (n := (x).length) hT rfl rfl rfl rfl rfl rfl rfl (a0a rfl) rfl rfl rfl (a0a rfl) (a3v (fun _ => rfl) _) (by first | (dsimp only [a0b]; omega) | omega) (by first | (dsimp only [a0b]; omega) | omega) (Nat.zero_add _) (rfl) ?_
 simp only [a0p, a0k, SV.kill, CV.kill, kk, Nat.reduceBEq]
 iterate 2 refine z ?_
 refine a0h (σ' := ⟨[(2, .one (.key 3))], [], [(3, some (a0b false (a0m (x))))]⟩) (a0e ⟨rfl, trivial⟩ trivial ⟨rfl, trivial⟩ rfl) ?_
 refine z ?_
 refine a1r (a0l rfl) ?_
 exact ⟨rfl, rfl⟩
theorem b0s {x : List UInt8} {n : Int} (hb : x.length ≤ 2199023255552) : KFn Tryz.prog 44 [.one (.dv [] (a0m (x))), .one (.dv [] (.int .i64 (n)))] (.one (.key 30)) [(30, some (a0b false (a0m (a3g x n))))] := by
 refine ⟨a0O Tryz.func44 rfl Tryz.ntmps44 Tryz.results44 rfl (fun C => ?_)⟩
 refine a1k (x := .tmp 0) (a0a rfl) fun f0 => ?_
 refine a1k (x := .tmp 1) (a0a rfl) fun f1 => ?_
 iterate 5 refine z ?_
 refine zK 27 Tryz.call40 ?_ (hf := b2U (x := x) (by omega))
 iterate 5 refine z ?_
 refine zC Tryz.call73 ?_ (hf := a6I)
 iterate 2 refine z ?_
 refine yQ rfl (fun c1 => ?_) fun c1 => ?_
 ·have hno := c3Y c1
  iterate 4 refine z ?_
  refine a0h (σ' := ⟨[(4, .one (.key 30))], [], [(30, some (a0b false (a0m (a3g x n))))]⟩) (a0e ⟨rfl, trivial⟩ trivial ⟨(congrArg (fun l : List UInt8 => some (some (KC.mk false 5 1 l.length (l.flatMap a1x)))) (by first | exact (b8J hno).symm | exact (b5q hr ho d2))), trivial⟩ rfl) ?_
  iterate 2 refine z ?_
  refine a1r (a0l rfl) ?_
  exact ⟨rfl, rfl⟩
 ·have hr := c5q c1
  iterate 4 refine z ?_
  refine a1o (ι := Nat × List UInt8) (fun zz => ⟨[(1, .one (.dv [] (.int .i64 ((zz.1 : Int))))), (4, .one .nil), (5, .one (.key 30))], [], [(30, some (a0b false (.sl 5 1 (zz.2.length) (zz.2.flatMap a1x))))]⟩) (fun zz => zz.2 ++ uvL zz.1 = x ++ uvL n.toNat ∧ zz.1 ≤ 1000000000000) (fun zz => zz.1) ((n.toNat, x)) ?_ (a0e ⟨(congrArg (fun z : Int => some (SV.one (CV.dv [] (DV.int .i64 z)))) (show n = ((n.toNat : Nat) : Int) by omega)), rfl, rfl, trivial⟩ trivial ⟨rfl, trivial⟩ rfl) (fun zz hx => ?_)
  ·exact ⟨rfl, by dsimp only; omega⟩
  obtain ⟨m, o⟩ := zz
  replace hx : o ++ uvL m = x ++ uvL n.toNat ∧ m ≤ 1000000000000 := hx
  obtain ⟨ho, hm⟩ := hx
  have hl := congrArg List.length ho
  rw [c9i, c9i] at hl
  have hl2 := a6u (n := n.toNat) (by omega)
  show Ok _ _ _ _ _ (⟨[(1, .one (.dv [] (.int .i64 ((m : Int))))), (4, .one .nil), (5, .one (.key 30))], [], [(30, some (a0b false (.sl 5 1 (o.length) (o.flatMap a1x))))]⟩ : St)
  iterate 5 refine z ?_
  refine yQ rfl (fun c2 => ?_) fun c2 => ?_
  ·have d2 := c9f c2
   iterate 6 refine z ?_
   refine yO rfl rfl (b4X rfl (a0a rfl) (a0i (a0j rfl)) (by omega) (by omega)) rfl ?_
   refine z ?_
   refine yO rfl rfl (a6X hT rfl rfl rfl (a0a rfl)) rfl ?_
   refine a3H (k := 19) (js := []) hT rfl rfl rfl rfl rfl rfl rfl rfl rfl (a0a rfl) rfl rfl (a0o (a0R rfl) a1y rfl) (by decide) (by decide) rfl rfl ?_
   simp only [a0p, a0k, SV.kill, CV.kill, kk, Nat.reduceBEq]
   refine a3f (k := 30) (j := 19) (cs := (o ++ [UInt8.ofNat (m % 128 + 128)]).flatMap a1x) (n := (o ++ [UInt8.ofNat (m % 128 + 128)]).length) hT rfl rfl rfl rfl rfl rfl rfl (a0a rfl) rfl rfl rfl (a0a rfl) rfl rfl (by decide) (by dsimp only [a0b]; omega) (by dsimp only [a0b]; omega) (by simp) (b1L (by omega)) ?_
   simp only [a0p, a0k, SV.kill, CV.kill, kk, Nat.reduceBEq]
   iterate 2 refine z ?_
   refine a0n ?_
   refine z ?_
   refine yO rfl rfl (c4Y rfl (a0a rfl) (a0i (a0j rfl)) (by omega) (by omega)) rfl ?_
   refine z ?_
   refine a1H ?_
   iterate 2 refine z ?_
   refine ⟨(m / 128, o ++ [UInt8.ofNat (m % 128 + 128)]), ?_, ?_, a0e ⟨rfl, rfl, rfl, trivial⟩ trivial ⟨rfl, trivial⟩ rfl⟩
   ·exact ⟨c6M ho d2, by dsimp only; omega⟩
   ·dsimp only; omega
  ·have d2 := c9g c2
   iterate 8 refine z ?_
   refine yO rfl rfl (a6X hT rfl rfl rfl (a0a rfl)) rfl ?_
   refine a3H (k := 26) (js := []) hT rfl rfl rfl rfl rfl rfl rfl rfl rfl (a0a rfl) rfl rfl (a0o (a0R rfl) a1y rfl) (by decide) (by decide) rfl rfl ?_
   simp only [a0p, a0k, SV.kill, CV.kill, kk, Nat.reduceBEq]
   refine a3f (k := 30) (j := 26) (cs := (o ++ [UInt8.ofNat m]).flatMap a1x) (n := (o ++ [UInt8.ofNat m]).length) hT rfl rfl rfl rfl rfl rfl rfl (a0a rfl) rfl rfl rfl (a0a rfl) rfl rfl (by decide) (by dsimp only [a0b]; omega) (by dsimp only [a0b]; omega) (by simp) (b1L rfl) ?_
   simp only [a0p, a0k, SV.kill, CV.kill, kk, Nat.reduceBEq]
   iterate 2 refine z ?_
   refine a0h (σ' := ⟨[(4, .one (.key 30))], [], [(30, some (a0b false (a0m (a3g x n))))]⟩) (a0e ⟨rfl, trivial⟩ trivial ⟨(congrArg (fun l : List UInt8 => some (some (KC.mk false 5 1 l.length (l.flatMap a1x)))) (by first | exact (b8J hno).symm | exact (b5q hr ho d2))), trivial⟩ rfl) ?_
   refine z ?_
   refine a1r (a0l rfl) ?_
   exact ⟨rfl, rfl⟩
theorem c0r {x y : List UInt8} (hb : x.length ≤ 1099511627776) (hb2 : y.length ≤ 1099511627776) : KFn Tryz.prog 47 [.one (.dv [] (a0m (x))), .one (.dv [] (a0m (y)))] (.one (.key 8030)) [(8030, some (a0b false (a0m (a3g x (y.length : Int) ++ y))))] := by
 refine ⟨a0O Tryz.func47 rfl Tryz.ntmps47 Tryz.results47 rfl (fun C => ?_)⟩
 have hal := a6F x (y.length : Int)
 refine a1k (x := .tmp 0) (a0a rfl) fun f0 => ?_
 refine a1k (x := .tmp 1) (a0a rfl) fun f1 => ?_
 iterate 7 refine z ?_
 refine zK 8000 Tryz.call44 ?_ (hf := b0s (x := x) (n := (y.length : Int)) (by omega))
 refine z ?_
 refine a9h (k := 8030) (cs := (a3g x (y.length : Int) ++ y).flatMap a1x) (n := (a3g x (y.length : Int) ++ y).length) hT rfl rfl rfl rfl rfl rfl rfl (a0a rfl) rfl rfl rfl (a0a rfl) (a3v (fun _ => rfl) _) (by dsimp only [a0b, KC.old]; omega) (by dsimp only [a0b, KC.old]; omega) (by simp [a0b, KC.old]) (by rw [List.flatMap_append]; rfl) ?_
 simp only [a0p, a0k, SV.kill, CV.kill, kk, Nat.reduceBEq]
 iterate 2 refine z ?_
 refine a0h (σ' := ⟨[(4, .one (.key 8030))], [], [(8030, some (a0b false (a0m (a3g x (y.length : Int) ++ y))))]⟩) (a0e ⟨rfl, trivial⟩ trivial ⟨rfl, trivial⟩ rfl) ?_
 refine z ?_
 refine a1r (a0l rfl) ?_
 exact ⟨rfl, rfl⟩
def be6 (n : Nat) : List UInt8 := (List.range 6).map fun j => UInt8.ofNat (n / 2 ^ (8 * (5 - j)))
def keyN (k : a0K) : Nat := (k.2.1 + 1000000000000).toNat
def a1z (k : a0K) : List UInt8 := if a1a k then (UInt8.ofNat k.1.toNat :: (if k.1 = 2 then [] else be6 (keyN k))) ++ k.2.2.data.toList else []
theorem a8b (n : Nat) : (be6 n).length = 6 := by simp [be6]
theorem b9U {n j : Nat} (h : j < 6) : (be6 n).take (j + 1) = (be6 n).take j ++ [UInt8.ofNat (n / 2 ^ (8 * (5 - j)))] := by
 rw [List.take_add_one]
 congr 1
 simp [be6, h]
theorem a7o {k : a0K} (h : a1a k = true) : (1 ≤ k.1 ∧ k.1 ≤ 3) ∧ (-1000000000000 ≤ k.2.1 ∧ k.2.1 ≤ 1000000000000) ∧ k.2.2.size ≤ 12 := by
 simp only [a1a, a4p, Bool.and_eq_true, decide_eq_true_eq] at h
 omega
theorem a7j {k : a0K} (h : a1a k = false) : a1z k = [] := by rw [a1z, h]; rfl
theorem b4g {k : a0K} (h : a1a k = true) (h2 : k.1 = 2) : a1z k = [UInt8.ofNat k.1.toNat] ++ k.2.2.data.toList := by rw [a1z, if_pos h, if_pos h2]
theorem b2O {k : a0K} {j : Nat} (h : a1a k = true) (h2 : ¬ k.1 = 2) (hj : 6 ≤ j) : a1z k = (UInt8.ofNat k.1.toNat :: (be6 (keyN k)).take j) ++ k.2.2.data.toList := by
 rw [a1z, if_pos h, if_neg h2, List.take_of_length_le (by rw [a8b]; exact hj)]
theorem a9s (k : a0K) : (a1z k).length ≤ 19 := by
 unfold a1z
 split
 ·rename_i h
  have h1 := (a7o h).2.2
  have h2 : k.2.2.data.toList.length ≤ 12 := h1
  split
  ·simp only [c9i, List.length_cons, List.length_nil]; omega
  ·simp only [c9i, List.length_cons, a8b]; omega
 ·simp
theorem c3y (j : Nat) (hj : j < 6) : (2 ^ (8 * (5 - (j : Int))).toNat : Nat) = 2 ^ (8 * (5 - j)) := by
 rw [show (8 * (5 - (j : Int))).toNat = 8 * (5 - j) by omega]
theorem c6W {k : a0K} {j : Nat} (h : a1a k = true) (hj : j < 6) : (k.2.1 + 1000000000000) / ((2 ^ (8 * (5 - (j : Int))).toNat : Nat) : Int) = ((keyN k / 2 ^ (8 * (5 - j)) : Nat) : Int) := by
 have h1 := (a7o h).2.1
 rw [c3y j hj, show k.2.1 + 1000000000000 = ((keyN k : Nat) : Int) by unfold keyN; omega, Int.natCast_ediv]
theorem c7r {k : a0K} {j : Nat} {z : Int} (h : a1a k = true) (hj : j < 6) (hz : z = (k.2.1 + 1000000000000) / ((2 ^ (8 * (5 - (j : Int))).toNat : Nat) : Int)) :
  (UInt8.ofNat k.1.toNat :: (be6 (keyN k)).take j).flatMap a1x ++ [DV.int .u8 (IntKind.u8.wrap z)] = (UInt8.ofNat k.1.toNat :: (be6 (keyN k)).take (j + 1)).flatMap a1x := by
 rw [c6W h hj] at hz
 rw [b1L hz, b9U hj]; rfl
theorem b6a {k : a0K} (h : a1a k = true) : [DV.int .u8 (IntKind.u8.wrap k.1)] = (UInt8.ofNat k.1.toNat :: (be6 (keyN k)).take 0).flatMap a1x := by
 have h1 := (a7o h).1
 exact b1L (o := []) (m := k.1.toNat) (by omega)
def a3r (r : a0v) : Nat → List UInt8
 | 0 => a3g [] (r.length : Int)
 | k + 1 => a3g (a3g (a3r r k) ((r.getD (k : Int).toNat default).1.data.toList.length : Int) ++ (r.getD (k : Int).toNat default).1.data.toList) (r.getD (k : Int).toNat default).2
def a2k (r : a0v) : List UInt8 := if a1b r then a3r r r.length else []
theorem b3A {r : a0v} (h : a1b r = false) : a2k r = [] := by rw [a2k, h]; rfl
theorem a9E {r : a0v} {k : Nat} (h : a1b r = true) (hk : k = r.length) : a2k r = a3r r k := by rw [a2k, if_pos h, hk]
theorem a4Z {s : Str} (h : a2e s = true) : 1 ≤ s.size ∧ s.size ≤ 8 := by
 simp only [a2e, Bool.and_eq_true, decide_eq_true_eq] at h; omega
theorem b0i {r : a0v} {k : Nat} (h : a1b r = true) (hk : k < r.length) : a2e (r.getD (k : Int).toNat default).1 = true ∧ 0 ≤ (r.getD (k : Int).toNat default).2 ∧ (r.getD (k : Int).toNat default).2 ≤ 1000000000 := by
 simp only [a1b, Bool.and_eq_true, List.all_eq_true] at h
 have h1 := h.1 k (List.mem_range.2 hk)
 unfold a4N at h1
 simp only [Bool.not_or, Bool.not_not, Bool.and_eq_true, decide_eq_true_eq] at h1
 exact ⟨h1.1.1, h1.1.2.1, h1.1.2.2⟩
theorem a7w {r : a0v} (h : a1b r = true) : r.length ≤ 6 := by
 simp only [a1b, Bool.and_eq_true, decide_eq_true_eq] at h; omega
theorem b4w {r : a0v} (h : a1b r = true) : ∀ k, k ≤ r.length → (a3r r k).length ≤ 6 + 20 * k
 | 0, _ => by have := a6F [] (r.length : Int); simpa [a3r] using this
 | k + 1, hk => by
  have ih := b4w h k (by omega)
  have h1 := a4Z (b0i h (show k < r.length by omega)).1
  have h1 : (r.getD (k : Int).toNat default).1.data.toList.length ≤ 8 := h1.2
  have h2 := a6F (a3r r k) ((r.getD (k : Int).toNat default).1.data.toList.length : Int)
  have h3 := a6F (a3g (a3r r k) ((r.getD (k : Int).toNat default).1.data.toList.length : Int) ++ (r.getD (k : Int).toNat default).1.data.toList) (r.getD (k : Int).toNat default).2
  rw [c9i] at h3
  rw [a3r]
  omega
theorem b0q (r : a0v) : (a2k r).length ≤ 126 := by
 unfold a2k
 split
 ·rename_i h
  have h1 := b4w h r.length (Nat.le_refl _)
  have h2 := a7w h
  omega
 ·simp
def a6p (x : a0T) : Nat := (a1z x.1).length + (a2k x.2).length
def sizeS (s : a0G) : Nat := a0V a6p s.2.1
def sizeD (d : DbT) : Nat := a0V sizeS d.2.2.1
theorem b6n (x : a0T) : a6p x ≤ 145 := by have h1 := a9s x.1; have h2 := b0q x.2; unfold a6p; omega
theorem b4W {α : Type} {c : α → Nat} {B : Nat} (h : ∀ x, c x ≤ B) : ∀ xs : List α, a0V c xs ≤ B * xs.length
 | [] => by simp [a0V]
 | x :: xs => by
  have := b4W h xs
  have := h x
  simp only [a0V, List.map_cons, List.sum_cons, List.length_cons] at *
  rw [Nat.mul_add]; omega
theorem b2L {α : Type} {c w : α → Nat} {B : Nat} (h : ∀ x, c x ≤ B * w x) : ∀ xs : List α, a0V c xs ≤ B * a0V w xs
 | [] => by simp [a0V]
 | x :: xs => by
  have := b2L h xs
  have := h x
  simp only [a0V, List.map_cons, List.sum_cons] at *
  rw [Nat.mul_add]; omega
theorem b5W (s : a0G) : sizeS s ≤ 145 * a1g s := by
 have h1 := b4W b6n s.2.1
 have h2 : a1g s = s.1.size + (s.2.1.length + a0V a1P s.2.1) := rfl
 unfold sizeS
 have h3 : 145 * s.2.1.length ≤ 145 * a1g s := Nat.mul_le_mul_left _ (by omega)
 omega
theorem c3v (d : DbT) : sizeD d ≤ 145 * a1h d := by
 have h1 := b2L b5W d.2.2.1
 have h2 : a1h d = d.1.size + a2d a1g d.2.2.1 + a2d a3a d.2.2.2 := rfl
 have h3 : a2d a1g d.2.2.1 = d.2.2.1.length + a0V a1g d.2.2.1 := rfl
 unfold sizeD
 have h4 : 145 * a0V a1g d.2.2.1 ≤ 145 * a1h d := Nat.mul_le_mul_left _ (by omega)
 omega
theorem c6d (x : a0G) (h : a1g x ≤ 1048576) : x.2.1.length ≤ 1048576 := by
 have h3 : a1g x = x.1.size + (x.2.1.length + a0V a1P x.2.1) := rfl
 omega
theorem a6q {k : a0K}  : KFn Tryz.prog 45 [.agg [(.dv [] (.int .i64 (k.1))), (.dv [] (.int .i64 (k.2.1))), (.dv [] (.str (k.2.2)))]] (.one (.key 12)) [(12, some (a0b false (a0m (a1z k))))] := by
 refine ⟨a0O Tryz.func45 rfl Tryz.ntmps45 Tryz.results45 rfl (fun C => ?_)⟩
 refine yF 0 0 rfl rfl fun f0_0 => ?_
 refine yF 0 1 rfl rfl fun f0_1 => ?_
 refine yF 0 2 rfl rfl fun f0_2 => ?_
 iterate 7 refine z ?_
 refine zC Tryz.call80 ?_ (hf := a5N (k := k) )
 iterate 2 refine z ?_
 refine yQ rfl (fun c1 => ?_) fun c1 => ?_
 ·have hk0 : a1a k = false := by simpa using c1
  refine z ?_
  refine a2J (k := 12) hT rfl rfl rfl rfl rfl rfl rfl rfl ?_
  iterate 2 refine z ?_
  refine a0h (σ' := ⟨[(2, .one (.key 12))], [], [(12, some (a0b false (a0m (a1z k))))]⟩) (a0e ⟨rfl, trivial⟩ trivial ⟨(by first | exact congrArg (fun l : List UInt8 => some (some (KC.mk false 5 1 l.length (l.flatMap a1x)))) (show ([] : List UInt8) = a1z k from (a7j hk0).symm) | rfl), trivial⟩ rfl) ?_
  iterate 2 refine z ?_
  refine a1r (a0l rfl) ?_
  exact ⟨rfl, rfl⟩
 ·have hk : a1a k = true := by simpa using c1
  have hrg := a7o hk
  iterate 5 refine z ?_
  refine yO rfl rfl (a6X hT rfl rfl rfl (a0a rfl)) rfl ?_
  refine a3H (k := 12) (js := []) hT rfl rfl rfl rfl rfl rfl rfl rfl rfl (a0a rfl) rfl rfl (a0o (a0R rfl) a1y rfl) (by decide) (by decide) rfl rfl ?_
  simp only [a0p, a0k, SV.kill, CV.kill, kk, Nat.reduceBEq]
  iterate 8 refine z ?_
  refine yQ rfl (fun c2 => ?_) fun c2 => ?_
  ·have hn2 : ¬ k.1 = 2 := by simpa using c2
   have d2 := a5V c2
   iterate 4 refine z ?_
   refine a1o (ι := Nat) (fun zz => ⟨[(1, .box 1 0), (2, .one .nil), (3, .one (.key 12)), (4, .one (.dv [] (.int .i64 (5 - (zz : Int)))))], [(1, 60, [(.dv [] (.int .i64 (k.1))), (.dv [] (.int .i64 (k.2.1))), (.dv [] (.str (k.2.2)))])], [(12, some (a0b false (.sl 5 1 ((UInt8.ofNat k.1.toNat :: (be6 (keyN k)).take zz).length) ((UInt8.ofNat k.1.toNat :: (be6 (keyN k)).take zz).flatMap a1x))))]⟩) (fun zz => zz ≤ 6) (fun zz => 6 - zz) (0) ?_ (a0e ⟨rfl, rfl, rfl, rfl, trivial⟩ ⟨rfl, trivial⟩ ⟨(congrArg (fun cs => some (some (KC.mk false 5 1 1 cs))) (b6a hk)), trivial⟩ rfl) (fun zz hx => ?_)
   ·omega
   obtain ⟨j, rfl⟩ : ∃ v, v = zz := ⟨_, rfl⟩
   replace hx : j ≤ 6 := hx
   show Ok _ _ _ _ _ (⟨[(1, .box 1 0), (2, .one .nil), (3, .one (.key 12)), (4, .one (.dv [] (.int .i64 (5 - (j : Int)))))], [(1, 60, [(.dv [] (.int .i64 (k.1))), (.dv [] (.int .i64 (k.2.1))), (.dv [] (.str (k.2.2)))])], [(12, some (a0b false (.sl 5 1 ((UInt8.ofNat k.1.toNat :: (be6 (keyN k)).take j).length) ((UInt8.ofNat k.1.toNat :: (be6 (keyN k)).take j).flatMap a1x))))]⟩ : St)
   iterate 5 refine z ?_
   refine yQ rfl (fun c3 => ?_) fun c3 => ?_
   ·have d3 := c9f c3
    have hj6 : j < 6 := by omega
    iterate 4 refine z ?_
    refine a0n ?_
    iterate 5 refine z ?_
    refine yO rfl rfl (b2T rfl (a0i (a0j rfl)) (a0a rfl) (a2P (by omega) (by omega))) rfl ?_
    refine yO rfl rfl (c7O rfl (a0a rfl) (a0a rfl) (by omega) (by omega) (by show _ ≤ 64; omega)) rfl ?_
    refine yO rfl rfl (a6X hT rfl rfl rfl (a0a rfl)) rfl ?_
    refine a3H (k := 28) (js := []) hT rfl rfl rfl rfl rfl rfl rfl rfl rfl (a0a rfl) rfl rfl (a0o (a0R rfl) a1y rfl) (by decide) (by decide) rfl rfl ?_
    simp only [a0p, a0k, SV.kill, CV.kill, kk, Nat.reduceBEq]
    refine a3f (k := 12) (j := 28) (cs := (UInt8.ofNat k.1.toNat :: (be6 (keyN k)).take (j + 1)).flatMap a1x) (n := (UInt8.ofNat k.1.toNat :: (be6 (keyN k)).take (j + 1)).length) hT rfl rfl rfl rfl rfl rfl rfl (a0a rfl) rfl rfl rfl (a0a rfl) rfl rfl (by decide) (by dsimp only [a0b]; simp only [List.length_cons, c9j]; omega) (by dsimp only [a0b]; simp only [List.length_cons, c9j]; omega) (by rw [b9U hj6]; simp) (c7r hk hj6 rfl) ?_
    simp only [a0p, a0k, SV.kill, CV.kill, kk, Nat.reduceBEq]
    refine z ?_
    refine a1H ?_
    iterate 2 refine z ?_
    refine a0n ?_
    iterate 4 refine z ?_
    refine ⟨j + 1, ?_, ?_, a0e ⟨rfl, rfl, rfl, (a8p (by omega)), trivial⟩ ⟨rfl, trivial⟩ ⟨rfl, trivial⟩ rfl⟩
    ·omega
    ·omega
   ·have d3 := c9g c3
    iterate 9 refine z ?_
    refine b9K (k := 12) (cs := (a1z k).flatMap a1x) (n := (a1z k).length) hT rfl rfl rfl rfl rfl rfl (by kernel_rfl) rfl (a0a rfl) rfl rfl rfl (a0a rfl) (by dsimp only [a0b]; have := a8b (keyN k); have h12 := hrg.2.2; try simp only [List.length_cons, c9j]; omega) (by rw [b2O hk hn2 (show 6 ≤ j by omega), c9i] <;> rfl) (by rw [b2O hk hn2 (show 6 ≤ j by omega), List.flatMap_append] <;> rfl) ?_
    simp only [a0p, a0k, SV.kill, CV.kill, kk, Nat.reduceBEq]
    iterate 2 refine z ?_
    refine a0h (σ' := ⟨[(2, .one (.key 12))], [], [(12, some (a0b false (a0m (a1z k))))]⟩) (a0e ⟨rfl, trivial⟩ trivial ⟨(by first | exact congrArg (fun l : List UInt8 => some (some (KC.mk false 5 1 l.length (l.flatMap a1x)))) (show ([] : List UInt8) = a1z k from (a7j hk0).symm) | rfl), trivial⟩ rfl) ?_
    refine z ?_
    refine a1r (a0l rfl) ?_
    exact ⟨rfl, rfl⟩
  ·have hn2 : k.1 = 2 := by simpa using c2
   have d2 := a5T c2
   iterate 6 refine z ?_
   refine b9K (k := 12) (cs := (a1z k).flatMap a1x) (n := (a1z k).length) hT rfl rfl rfl rfl rfl rfl (by kernel_rfl) rfl (a0a rfl) rfl rfl rfl (a0a rfl) (by dsimp only [a0b]; have h12 := hrg.2.2; omega) (by rw [b4g hk hn2, c9i] <;> rfl) (by rw [b4g hk hn2, List.flatMap_append]; exact congrArg (fun z => z ++ _) (b6a hk)) ?_
   simp only [a0p, a0k, SV.kill, CV.kill, kk, Nat.reduceBEq]
   iterate 2 refine z ?_
   refine a0h (σ' := ⟨[(2, .one (.key 12))], [], [(12, some (a0b false (a0m (a1z k))))]⟩) (a0e ⟨rfl, trivial⟩ trivial ⟨(by first | exact congrArg (fun l : List UInt8 => some (some (KC.mk false 5 1 l.length (l.flatMap a1x)))) (show ([] : List UInt8) = a1z k from (a7j hk0).symm) | rfl), trivial⟩ rfl) ?_
   refine z ?_
   refine a1r (a0l rfl) ?_
   exact ⟨rfl, rfl⟩
theorem a4q {r : a0v}  : KFn Tryz.prog 46 [.agg [(.dv [] (a0I (r)))]] (.one (.key 500)) [(500, some (a0b false (a0m (a2k r))))] := by
 refine ⟨a0O Tryz.func46 rfl Tryz.ntmps46 Tryz.results46 rfl (fun C => ?_)⟩
 refine yF 0 0 rfl rfl fun f0_0 => ?_
 iterate 7 refine z ?_
 refine zC Tryz.call81 ?_ (hf := a7m (r := r) )
 iterate 2 refine z ?_
 refine yQ rfl (fun c1 => ?_) fun c1 => ?_
 ·have hk0 : a1b r = false := by simpa using c1
  refine z ?_
  refine a2J (k := 500) hT rfl rfl rfl rfl rfl rfl rfl rfl ?_
  iterate 2 refine z ?_
  refine a0h (σ' := ⟨[(2, .one (.key 500))], [], [(500, some (a0b false (a0m (a2k r))))]⟩) (a0e ⟨rfl, trivial⟩ trivial ⟨(by first | exact congrArg (fun l : List UInt8 => some (some (KC.mk false 5 1 l.length (l.flatMap a1x)))) (show ([] : List UInt8) = a2k r from (b3A hk0).symm) | exact congrArg (fun l : List UInt8 => some (some (KC.mk false 5 1 l.length (l.flatMap a1x)))) (a9E hk (by omega)).symm), trivial⟩ rfl) ?_
  iterate 2 refine z ?_
  refine a1r (a0l rfl) ?_
  exact ⟨rfl, rfl⟩
 ·have hk : a1b r = true := by simpa using c1
  have hrl := a7w hk
  iterate 6 refine z ?_
  refine a2H 470 rfl rfl rfl Tryz.call44 (b0s (x := []) (n := (r.length : Int)) (by simp)) (a0g a0L (a0C (a5u rfl rfl)) (a0g (a0a rfl) (a0C a0c) a0q)) rfl rfl rfl ?_
  iterate 10 refine z ?_
  refine a1o (ι := Nat) (fun zz => ⟨[(2, .one .nil), (3, .one (.key 500)), (15, .one (.dv [] (a0I (r)))), (16, .one (.dv [] (.int .i64 ((((r)).length : Int))))), (17, .one (.dv [] (.int .i64 ((zz : Int)))))], [], [(500, some (a0b false (.sl 5 1 ((a3r r zz).length) ((a3r r zz).flatMap a1x))))]⟩) (fun zz => zz ≤ r.length) (fun zz => r.length - zz) (0) ?_ (a0e ⟨rfl, rfl, rfl, rfl, rfl, trivial⟩ trivial ⟨rfl, trivial⟩ rfl) (fun zz hx => ?_)
  ·exact Nat.zero_le _
  obtain ⟨k, rfl⟩ : ∃ v, v = zz := ⟨_, rfl⟩
  replace hx : k ≤ r.length := hx
  show Ok _ _ _ _ _ (⟨[(2, .one .nil), (3, .one (.key 500)), (15, .one (.dv [] (a0I (r)))), (16, .one (.dv [] (.int .i64 ((((r)).length : Int))))), (17, .one (.dv [] (.int .i64 ((k : Int)))))], [], [(500, some (a0b false (.sl 5 1 ((a3r r k).length) ((a3r r k).flatMap a1x))))]⟩ : St)
  iterate 3 refine z ?_
  refine a0u ?_
  refine yQ rfl (fun c2 => ?_) fun c2 => ?_
  ·have d2 := c9f c2
   have hkl : k < r.length := by omega
   have hf := b0i hk hkl
   have hns := (a4Z hf.1).2
   have hns2 : (r.getD (k : Int).toNat default).1.data.toList.length ≤ 8 := hns
   have hel := b4w hk k (by omega)
   have hel2 := a6F (a3r r k) ((r.getD (k : Int).toNat default).1.data.toList.length : Int)
   iterate 10 refine z ?_
   refine a1K (oB := [5]) (oK := [500]) (by kernel_rfl) rfl rfl ?_
   refine zD 0 ?_
   refine zD 1 ?_
   refine zD 2 ?_
   refine zD 5 ?_
   refine zD 6 ?_
   refine a7J (k := 24) 3 hT rfl (by kernel_rfl) rfl rfl rfl rfl rfl rfl rfl (a0a rfl) rfl rfl rfl ?_
   refine a2G 25000 4 rfl (by kernel_rfl) rfl rfl rfl Tryz.call47 (c0r (x := (a3r r k)) (y := (r.getD (k : Int).toNat default).1.data.toList) (by omega) (by omega)) (a0g (a0a rfl) (a0C (a0X rfl rfl)) (a0g (a0a rfl) (a0C (a0X rfl rfl)) a0q)) rfl rfl rfl rfl rfl ?_
   refine a2G 472 7 rfl (by kernel_rfl) rfl rfl rfl Tryz.call44 (b0s (x := a3g (a3r r k) ((r.getD (k : Int).toNat default).1.data.toList.length : Int) ++ (r.getD (k : Int).toNat default).1.data.toList) (n := (r.getD (k : Int).toNat default).2) (by rw [c9i]; omega)) (a0g (a0a rfl) (a0C (a0X rfl rfl)) (a0g (a0a rfl) (a0C a0c) a0q)) rfl rfl rfl rfl rfl ?_
   refine zD 8 ?_
   refine a1Q (by kernel_rfl) ?_
   iterate 2 refine z ?_
   refine a0h (b0S (s := 3) (k := 502) (k' := 500) rfl rfl rfl (by decide) rfl) ?_
   simp only [a0p, a0k, SV.kill, CV.kill, kk, Nat.reduceBEq]
   refine a0n ?_
   iterate 3 refine z ?_
   refine ⟨k + 1, ?_, ?_, a0e ⟨rfl, rfl, rfl, rfl, rfl, trivial⟩ trivial ⟨rfl, trivial⟩ rfl⟩
   ·omega
   ·omega
  ·have d2 := c9g c2
   iterate 9 refine z ?_
   refine a0h (σ' := ⟨[(2, .one (.key 500))], [], [(500, some (a0b false (a0m (a2k r))))]⟩) (a0e ⟨rfl, trivial⟩ trivial ⟨(by first | exact congrArg (fun l : List UInt8 => some (some (KC.mk false 5 1 l.length (l.flatMap a1x)))) (show ([] : List UInt8) = a2k r from (b3A hk0).symm) | exact congrArg (fun l : List UInt8 => some (some (KC.mk false 5 1 l.length (l.flatMap a1x)))) (a9E hk (by omega)).symm), trivial⟩ rfl) ?_
   refine z ?_
   refine a1r (a0l rfl) ?_
   exact ⟨rfl, rfl⟩
theorem c8A {x : a0G} (hb : a1g x ≤ 1048576) : PFn Tryz.prog 33 [.agg [(.dv [] (.str (x.1))), (.dv [] (a0w (x.2.1))), (.dv [] (.int .i64 (x.2.2)))]] (.one (.dv [] (.int .i64 ((sizeS x : Int))))) := by
 refine ⟨a0O Tryz.func33 rfl Tryz.ntmps33 Tryz.results33 rfl (fun C => ?_)⟩
 have hlen := c6d x hb
 refine yF 0 0 rfl rfl fun f0_0 => ?_
 refine yF 0 1 rfl rfl fun f0_1 => ?_
 refine yF 0 2 rfl rfl fun f0_2 => ?_
 iterate 15 refine z ?_
 refine a1o (ι := Nat) (fun zz => ⟨[(2, .one (.dv [] (.int .i64 (0)))), (3, .one (.dv [] (.int .i64 ((a0V a6p (x.2.1.take zz) : Int))))), (7, .one (.dv [] (a0w (x.2.1)))), (8, .one (.dv [] (.int .i64 ((((x.2.1)).length : Int))))), (9, .one (.dv [] (.int .i64 ((zz : Int)))))], [], []⟩) (fun zz => zz ≤ x.2.1.length) (fun zz => x.2.1.length - zz) (0) ?_ (a0e ⟨rfl, (a8p (by simp [a0V])), rfl, rfl, rfl, trivial⟩ trivial trivial rfl) (fun zz hx => ?_)
 ·exact Nat.zero_le _
 obtain ⟨k, rfl⟩ : ∃ v, v = zz := ⟨_, rfl⟩
 replace hx : k ≤ x.2.1.length := hx
 have hw := fun h => (a5D a6p x.2.1 k h).1
 have hsz := b4W b6n (x.2.1.take k)
 rw [c9j] at hsz
 show Ok _ _ _ _ _ (⟨[(2, .one (.dv [] (.int .i64 (0)))), (3, .one (.dv [] (.int .i64 ((a0V a6p (x.2.1.take k) : Int))))), (7, .one (.dv [] (a0w (x.2.1)))), (8, .one (.dv [] (.int .i64 ((((x.2.1)).length : Int))))), (9, .one (.dv [] (.int .i64 ((k : Int)))))], [], []⟩ : St)
 iterate 3 refine z ?_
 refine a0u ?_
 refine yQ rfl (fun c1 => ?_) fun c1 => ?_
 ·have d1 := c9f c1
  have hkl : k < x.2.1.length := by omega
  have hw1 := hw hkl
  have hek := a9s (x.2.1.getD (k : Int).toNat default).1
  have her := b0q (x.2.1.getD (k : Int).toNat default).2
  have hsi : a6p (x.2.1.getD (k : Int).toNat default) = (a1z (x.2.1.getD (k : Int).toNat default).1).length + (a2k (x.2.1.getD (k : Int).toNat default).2).length := rfl
  have hmin : min k x.2.1.length ≤ 1048576 := by omega
  iterate 10 refine z ?_
  refine a1K (oB := [5]) (oK := []) (by kernel_rfl) rfl rfl ?_
  refine zD 0 ?_
  refine zD 1 ?_
  refine zD 2 ?_
  refine zD 5 ?_
  refine zD 6 ?_
  refine a2G 16000 3 rfl (by kernel_rfl) rfl rfl rfl Tryz.call45 (a6q (k := (((x.2.1)).getD ((k : Int)).toNat default).1) ) (a0g (a0a rfl) (a0t (a0d a0c (a0d a0c (a0d a0c a0r)))) a0q) rfl rfl rfl rfl rfl ?_
  refine a1q 4 rfl (by kernel_rfl) rfl rfl (a2I (n := ((a1z ((((x.2.1)).getD ((k : Int)).toNat default).1))).length) hT rfl rfl (a0a rfl) rfl rfl) rfl rfl rfl rfl ?_
  refine a2G 20000 7 rfl (by kernel_rfl) rfl rfl rfl Tryz.call46 (a4q (r := (((x.2.1)).getD ((k : Int)).toNat default).2) ) (a0g (a0a rfl) (a0t (a0d a0c a0r)) a0q) rfl rfl rfl rfl rfl ?_
  refine a1q 8 rfl (by kernel_rfl) rfl rfl (a2I (n := ((a2k ((((x.2.1)).getD ((k : Int)).toNat default).2))).length) hT rfl rfl (a0a rfl) rfl rfl) rfl rfl rfl rfl ?_
  refine zD 9 ?_
  refine zD 10 ?_
  refine zD 11 ?_
  refine a1Q (by kernel_rfl) ?_
  iterate 2 refine z ?_
  refine a0n ?_
  iterate 3 refine z ?_
  refine ⟨k + 1, ?_, ?_, a0e ⟨rfl, (a8p (by omega)), rfl, rfl, rfl, trivial⟩ trivial trivial rfl⟩
  ·omega
  ·omega
 ·have d1 := c9g c1
  iterate 11 refine z ?_
  have hq := b7z a6p x.2.1 k (by omega); rw [hq]; rfl
theorem b9V {x : DbT} (hb : a1h x ≤ 1048576) : PFn Tryz.prog 14 [.agg [(.dv [] (.str (x.1))), (.dv [] (.int .i64 (x.2.1))), (.dv [] (a0x (x.2.2.1))), (.dv [] (a0z (x.2.2.2)))]] (.one (.dv [] (.int .i64 ((sizeD x : Int))))) := by
 refine ⟨a0O Tryz.func14 rfl Tryz.ntmps14 Tryz.results14 rfl (fun C => ?_)⟩
 have hwd : a1h x = x.1.size + a2d a1g x.2.2.1 + a2d a3a x.2.2.2 := rfl
 have hwl : a2d a1g x.2.2.1 = x.2.2.1.length + a0V a1g x.2.2.1 := rfl
 have hbs := b2L b5W x.2.2.1
 refine yF 0 0 rfl rfl fun f0_0 => ?_
 refine yF 0 1 rfl rfl fun f0_1 => ?_
 refine yF 0 2 rfl rfl fun f0_2 => ?_
 refine yF 0 3 rfl rfl fun f0_3 => ?_
 iterate 15 refine z ?_
 refine a1o (ι := Nat) (fun zz => ⟨[(2, .one (.dv [] (.int .i64 (0)))), (3, .one (.dv [] (.int .i64 ((a0V sizeS (x.2.2.1.take zz) : Int))))), (7, .one (.dv [] (a0x (x.2.2.1)))), (8, .one (.dv [] (.int .i64 ((((x.2.2.1)).length : Int))))), (9, .one (.dv [] (.int .i64 ((zz : Int)))))], [], []⟩) (fun zz => zz ≤ x.2.2.1.length) (fun zz => x.2.2.1.length - zz) (0) ?_ (a0e ⟨rfl, (a8p (by simp [a0V])), rfl, rfl, rfl, trivial⟩ trivial trivial rfl) (fun zz hx => ?_)
 ·exact Nat.zero_le _
 obtain ⟨k, rfl⟩ : ∃ v, v = zz := ⟨_, rfl⟩
 replace hx : k ≤ x.2.2.1.length := hx
 have hw := fun h => a5D sizeS x.2.2.1 k h
 have hw2 := fun h => a5D a1g x.2.2.1 k h
 show Ok _ _ _ _ _ (⟨[(2, .one (.dv [] (.int .i64 (0)))), (3, .one (.dv [] (.int .i64 ((a0V sizeS (x.2.2.1.take k) : Int))))), (7, .one (.dv [] (a0x (x.2.2.1)))), (8, .one (.dv [] (.int .i64 ((((x.2.2.1)).length : Int))))), (9, .one (.dv [] (.int .i64 ((k : Int)))))], [], []⟩ : St)
 iterate 3 refine z ?_
 refine a0u ?_
 refine yQ rfl (fun c1 => ?_) fun c1 => ?_
 ·have d1 := c9f c1
  have hkl : k < x.2.2.1.length := by omega
  obtain ⟨hw3, hw4⟩ := hw hkl
  obtain ⟨hw5, hw6⟩ := hw2 hkl
  iterate 10 refine z ?_
  refine a0n ?_
  iterate 2 refine z ?_
  refine zC Tryz.call33 ?_ (hf := c8A (x := (((x.2.2.1)).getD ((k : Int)).toNat default)) (by omega))
  iterate 2 refine z ?_
  refine a1H ?_
  iterate 2 refine z ?_
  refine a0n ?_
  iterate 3 refine z ?_
  refine ⟨k + 1, ?_, ?_, a0e ⟨rfl, (a8p (by omega)), rfl, rfl, rfl, trivial⟩ trivial trivial rfl⟩
  ·omega
  ·omega
 ·have d1 := c9g c1
  iterate 11 refine z ?_
  have hq := b7z sizeS x.2.2.1 k (by omega); rw [hq]; rfl
theorem c4q {x : a2W} (hb : a2Y x ≤ 1048576) : PFn Tryz.prog 13 [.agg [(.dv [] (.str (x.1.1))), (.dv [] (.int .i64 (x.1.2.1))), (.dv [] (a0x (x.1.2.2.1))), (.dv [] (a0z (x.1.2.2.2))), (.dv [] (a0m (x.2.1))), (.dv [] (.int .i64 (x.2.2)))]] (.one (.dv [] (.int .i64 ((sizeD x.1 : Int) + (x.2.1.length : Int))))) := by
 refine ⟨a0O Tryz.func13 rfl Tryz.ntmps13 Tryz.results13 rfl (fun C => ?_)⟩
 have hwk : a2Y x = a1h x.1 + x.2.1.length := rfl
 have hsd := c3v x.1
 refine yF 0 0 rfl rfl fun f0_0 => ?_
 refine yF 0 1 rfl rfl fun f0_1 => ?_
 refine yF 0 2 rfl rfl fun f0_2 => ?_
 refine yF 0 3 rfl rfl fun f0_3 => ?_
 refine yF 0 4 rfl rfl fun f0_4 => ?_
 refine yF 0 5 rfl rfl fun f0_5 => ?_
 iterate 4 refine z ?_
 refine a0u ?_
 refine a1K (oB := [1]) (oK := []) (by kernel_rfl) rfl rfl ?_
 refine zD 0 ?_
 refine zD 1 ?_
 refine zD 3 ?_
 refine zD 4 ?_
 refine zD 5 ?_
 refine a5C 2 rfl (by kernel_rfl) rfl rfl rfl Tryz.call14 (b9V (x := x.1) (by omega)) (a0g (a0a rfl) (a0t (a0d a0c (a0d a0c (a0d a0c (a0d a0c a0r))))) a0q) rfl rfl rfl rfl ?_
 refine zD 6 ?_
 refine zD 7 ?_
 refine a1Q (by kernel_rfl) ?_
 iterate 3 refine z ?_
 rfl
@[reducible] def b3P (xs : List (List UInt8)) : DV := a2M 0 1 (fun x => [a0m x]) xs
def a2f (l : List OpT) : Bool := l.all a1s && decide ((l.length : Int) ≤ 6)
def a8W (b y : List UInt8) : List UInt8 := a3g b (y.length : Int) ++ y
def a4s (o : OpT) : List (List UInt8) := [o.2.1.data.toList, a1z o.2.2.1, a2k o.2.2.2.1, o.2.2.2.2.data.toList]
def a3q (b : List UInt8) (o : OpT) : Nat → List UInt8
 | 0 => a3g b o.1
 | j + 1 => a8W (a3q b o j) ((a4s o).getD (j : Int).toNat default)
def a2r (l : List OpT) : Nat → List UInt8
 | 0 => a3g [] (l.length : Int)
 | k + 1 => a3q (a2r l k) (l.getD (k : Int).toNat default) 4
def a1l (l : List OpT) : List UInt8 := if a2f l then a2r l l.length else []
theorem b2n {l : List OpT} (h : a2f l = false) : a1l l = [] := by rw [a1l, h]; rfl
theorem a8e {l : List OpT} {k : Nat} (h : a2f l = true) (hk : k = l.length) : a1l l = a2r l k := by rw [a1l, if_pos h, hk]
theorem c7U {l : List OpT} {k : Nat} (hk : k < l.length) (h : a1s (l.getD (k : Int).toNat default) = false) : a2f l = false := by
 unfold a2f
 have : l.all a1s = false := by
  rw [List.all_eq_false]
  refine ⟨l[k], List.getElem_mem hk, ?_⟩
  rw [a3N hk] at h
  simpa using h
 rw [this]; rfl
theorem c5P {l : List OpT} {k : Nat} (h : (l.take k).all a1s = true) (hk : l.length ≤ k) : a2f l = decide ((l.length : Int) ≤ 6) := by
 rw [List.take_of_length_le hk] at h
 unfold a2f
 rw [h, Bool.true_and]
theorem c6p {l : List OpT} {k : Nat} (h : (l.take k).all a1s = true) (hk : k < l.length) (h2 : a1s (l.getD (k : Int).toNat default) = true) : (l.take (k + 1)).all a1s = true := by
 rw [List.take_succ_eq_append_getElem hk, List.all_append, h]
 rw [a3N hk] at h2
 simpa using h2
theorem b4Q {o : OpT} (h : a1s o = true) : o.2.1.data.toList.length ≤ 8 ∧ o.2.2.2.2.data.toList.length ≤ 8 := by
 simp only [a1s, Bool.and_eq_true, Bool.or_eq_true] at h
 have h1 := a4Z h.1.1.1.2
 refine ⟨h1.2, ?_⟩
 rcases h.2 with h2 | h2
 ·exact (a4Z h2.2).2
 ·have h3 : o.2.2.2.2.data.toList = [] := by
   have := h2.2
   simpa [sEq, ByteArray.toList_eq] using this
  rw [h3]; simp
theorem c0p {l : List OpT} {k : Nat} (h : a2f l = true) (hk : k < l.length) : a1s (l.getD (k : Int).toNat default) = true := by
 simp only [a2f, Bool.and_eq_true, List.all_eq_true] at h
 rw [a3N hk]
 exact h.1 _ (List.getElem_mem hk)
theorem b0I {l : List OpT} (h : a2f l = true) : l.length ≤ 6 := by
 simp only [a2f, Bool.and_eq_true, decide_eq_true_eq] at h; omega
theorem c6E (b y : List UInt8) : (a8W b y).length ≤ b.length + 6 + y.length := by
 have := a6F b (y.length : Int)
 rw [a8W, c9i]; omega
theorem b7m {o : OpT} (h : a1s o = true) (j : Nat) : ((a4s o).getD (j : Int).toNat default).length ≤ 126 := by
 have h1 := b4Q h
 have h2 := a9s o.2.2.1
 have h3 := b0q o.2.2.2.1
 match j with
 | 0 => show o.2.1.data.toList.length ≤ 126; omega
 | 1 => show (a1z o.2.2.1).length ≤ 126; omega
 | 2 => exact h3
 | 3 => show o.2.2.2.2.data.toList.length ≤ 126; omega
 | n + 4 => rw [Int.toNat_natCast]; simp [a4s]; exact Nat.zero_le 126
theorem b3B {b : List UInt8} {o : OpT} (h : a1s o = true) : ∀ j, (a3q b o j).length ≤ b.length + 6 + 132 * j
 | 0 => by have := a6F b o.1; simpa [a3q] using this
 | j + 1 => by
  have ih := b3B (b := b) h j
  have h1 := c6E (a3q b o j) ((a4s o).getD (j : Int).toNat default)
  have h2 := b7m h j
  rw [a3q]; omega
theorem b8H {l : List OpT} : ∀ k, k ≤ l.length → (l.take k).all a1s = true → (a2r l k).length ≤ 6 + 534 * k
 | 0, _, _ => by have := a6F [] (l.length : Int); simpa [a2r] using this
 | k + 1, hk, h => by
  have h0 : (l.take k).all a1s = true ∧ a1s (l.getD (k : Int).toNat default) = true := by
   rw [List.take_succ_eq_append_getElem (by omega), List.all_append, Bool.and_eq_true] at h
   refine ⟨h.1, ?_⟩
   rw [a3N (by omega)]
   simpa using h.2
  have ih := b8H k (by omega) h0.1
  have h1 := b3B (b := a2r l k) h0.2 4
  have e : a2r l (k + 1) = a3q (a2r l k) (l.getD (k : Int).toNat default) 4 := rfl
  rw [e]
  refine Nat.le_trans h1 ?_
  clear h1 e
  omega
theorem b8x {l : List OpT} {k : Nat} (h : a2f l = true) (hk : k ≤ l.length) : (a2r l k).length ≤ 6 + 534 * k := by
 refine b8H k hk ?_
 simp only [a2f, Bool.and_eq_true] at h
 rw [List.all_eq_true] at h ⊢
 exact fun x hx => h.1 x (List.mem_of_mem_take hx)
theorem c1g (l : List OpT) : (a1l l).length ≤ 3210 := by
 unfold a1l
 split
 ·rename_i h
  have h1 := b8x h (Nat.le_refl _)
  have h2 := b0I h
  omega
 ·simp
theorem c6T {l : List OpT}  : PFn Tryz.prog 43 [.one (.dv [] (a2a (l)))] (.one (.dv [] (.bool (a2f l)))) := by
 refine ⟨a0O Tryz.func43 rfl Tryz.ntmps43 Tryz.results43 rfl (fun C => ?_)⟩
 refine a1k (x := .tmp 0) (a0a rfl) fun f0 => ?_
 iterate 10 refine z ?_
 refine a1o (ι := Nat) (fun zz => ⟨[(0, .one (.dv [] (a2a (l)))), (5, .one (.dv [] (a2a (l)))), (6, .one (.dv [] (.int .i64 ((((l)).length : Int))))), (7, .one (.dv [] (.int .i64 ((zz : Int)))))], [], []⟩) (fun zz => zz ≤ l.length ∧ (l.take zz).all a1s = true) (fun zz => l.length - zz) (0) ?_ (a0e ⟨rfl, rfl, rfl, rfl, trivial⟩ trivial trivial rfl) (fun zz hx => ?_)
 ·exact ⟨Nat.zero_le _, rfl⟩
 obtain ⟨k, rfl⟩ : ∃ v, v = zz := ⟨_, rfl⟩
 replace hx : k ≤ l.length ∧ (l.take k).all a1s = true := hx
 obtain ⟨hk, hall⟩ := hx
 show Ok _ _ _ _ _ (⟨[(0, .one (.dv [] (a2a (l)))), (5, .one (.dv [] (a2a (l)))), (6, .one (.dv [] (.int .i64 ((((l)).length : Int))))), (7, .one (.dv [] (.int .i64 ((k : Int)))))], [], []⟩ : St)
 iterate 3 refine z ?_
 refine a0u ?_
 refine yQ rfl (fun c1 => ?_) fun c1 => ?_
 ·have d1 := c9f c1
  iterate 12 refine z ?_
  refine zC Tryz.call78 ?_ (hf := b3N (x := (((l)).getD ((k : Int)).toNat default)) )
  iterate 2 refine z ?_
  refine yQ rfl (fun c2 => ?_) fun c2 => ?_
  ·iterate 10 refine z ?_
   exact (c7U (k := k) (by omega) (by simpa using c2)).symm
  ·iterate 3 refine z ?_
   refine a0n ?_
   iterate 3 refine z ?_
   refine ⟨k + 1, ?_, ?_, a0e ⟨rfl, rfl, rfl, rfl, trivial⟩ trivial trivial rfl⟩
   ·exact ⟨by omega, c6p hall (by omega) (by simpa using c2)⟩
   ·omega
 ·have d1 := c9g c1
  iterate 13 refine z ?_
  exact (c5P hall (by omega)).symm
theorem b9M {l : List OpT}  : KFn Tryz.prog 21 [.one (.dv [] (a2a (l)))] (.one (.key 900500)) [(900500, some (a0b false (a0m (a1l l))))] := by
 refine ⟨a0O Tryz.func21 rfl Tryz.ntmps21 Tryz.results21 rfl (fun C => ?_)⟩
 refine a1k (x := .tmp 0) (a0a rfl) fun f0 => ?_
 iterate 6 refine z ?_
 refine zC Tryz.call43 ?_ (hf := c6T (l := l) )
 iterate 2 refine z ?_
 refine yQ rfl (fun c1 => ?_) fun c1 => ?_
 ·have hk0 : a2f l = false := by simpa using c1
  refine z ?_
  refine a2J (k := 900500) hT rfl rfl rfl rfl rfl rfl rfl rfl ?_
  iterate 2 refine z ?_
  refine a0h (σ' := ⟨[(2, .one (.key 900500))], [], [(900500, some (a0b false (a0m (a1l l))))]⟩) (a0e ⟨rfl, trivial⟩ trivial ⟨(by first | exact congrArg (fun l : List UInt8 => some (some (KC.mk false 5 1 l.length (l.flatMap a1x)))) (show ([] : List UInt8) = a1l l from (b2n hk0).symm) | exact congrArg (fun l : List UInt8 => some (some (KC.mk false 5 1 l.length (l.flatMap a1x)))) (a8e hk1 (by omega)).symm), trivial⟩ rfl) ?_
  iterate 2 refine z ?_
  refine a1r (a0l rfl) ?_
  exact ⟨rfl, rfl⟩
 ·have hk1 : a2f l = true := by simpa using c1
  have hll := b0I hk1
  iterate 5 refine z ?_
  refine a2H 900470 rfl rfl rfl Tryz.call44 (b0s (x := []) (n := (l.length : Int)) (by simp)) (a0g a0L (a0C (a5u rfl rfl)) (a0g (a0a rfl) (a0C a0c) a0q)) rfl rfl rfl ?_
  iterate 9 refine z ?_
  refine a1o (ι := Nat) (fun zz => ⟨[(2, .one .nil), (3, .one (.key 900500)), (15, .one (.dv [] (a2a (l)))), (16, .one (.dv [] (.int .i64 ((((l)).length : Int))))), (17, .one (.dv [] (.int .i64 ((zz : Int)))))], [], [(900500, some (a0b false (.sl 5 1 ((a2r l zz).length) ((a2r l zz).flatMap a1x))))]⟩) (fun zz => zz ≤ l.length) (fun zz => l.length - zz) (0) ?_ (a0e ⟨rfl, rfl, rfl, rfl, rfl, trivial⟩ trivial ⟨rfl, trivial⟩ rfl) (fun zz hx => ?_)
  ·exact Nat.zero_le _
  obtain ⟨k, rfl⟩ : ∃ v, v = zz := ⟨_, rfl⟩
  replace hx : k ≤ l.length := hx
  have hk := hx
  show Ok _ _ _ _ _ (⟨[(2, .one .nil), (3, .one (.key 900500)), (15, .one (.dv [] (a2a (l)))), (16, .one (.dv [] (.int .i64 ((((l)).length : Int))))), (17, .one (.dv [] (.int .i64 ((k : Int)))))], [], [(900500, some (a0b false (.sl 5 1 ((a2r l k).length) ((a2r l k).flatMap a1x))))]⟩ : St)
  iterate 3 refine z ?_
  refine a0u ?_
  refine yQ rfl (fun c2 => ?_) fun c2 => ?_
  ·have d2 := c9f c2
   have hkl : k < l.length := by omega
   have hop := c0p hk1 hkl
   have hrg := b4Q hop
   have hek := a9s (l.getD (k : Int).toNat default).2.2.1
   have her := b0q (l.getD (k : Int).toNat default).2.2.2.1
   have hen := b8x hk1 hk
   iterate 14 refine z ?_
   refine a2H 900471 rfl rfl rfl Tryz.call44 (b0s (x := (a2r l k)) (n := (l.getD (k : Int).toNat default).1) (by omega)) (a0g (a0a rfl) (a0C (a0X rfl rfl)) (a0g (a0a rfl) (a0C a0c) a0q)) rfl rfl rfl ?_
   iterate 2 refine z ?_
   refine a7d (σ' := ⟨[(2, .one .nil), (3, .one (.key 900501)), (5, .box 5 0), (15, .one (.dv [] (a2a (l)))), (16, .one (.dv [] (.int .i64 ((((l)).length : Int))))), (17, .one (.dv [] (.int .i64 ((k : Int))))), (37, .one (.key 37)), (38, .one (.dv [] (.int .i64 (((4) : Int))))), (39, .one (.dv [] (.int .i64 (0))))], [(5, 65, [(.dv [] (.int .i64 ((((l)).getD ((k : Int)).toNat default).1))), (.dv [] (.str ((((l)).getD ((k : Int)).toNat default).2.1))), (.dv [] (.int .i64 ((((l)).getD ((k : Int)).toNat default).2.2.1.1))), (.dv [] (.int .i64 ((((l)).getD ((k : Int)).toNat default).2.2.1.2.1))), (.dv [] (.str ((((l)).getD ((k : Int)).toNat default).2.2.1.2.2))), (.dv [] (a0I ((((l)).getD ((k : Int)).toNat default).2.2.2.1))), (.dv [] (.str ((((l)).getD ((k : Int)).toNat default).2.2.2.2)))])], [(37, some (a0b false (.sl 22 1 (4) ([.sl 1000005 1 (((((l)).getD ((k : Int)).toNat default).2.1).data.toList.length) (((((l)).getD ((k : Int)).toNat default).2.1).data.toList.flatMap a1x), a0m (a1z ((((l)).getD ((k : Int)).toNat default).2.2.1)), a0m (a2k ((((l)).getD ((k : Int)).toNat default).2.2.2.1)), .sl 1000005 1 (((((l)).getD ((k : Int)).toNat default).2.2.2.2).data.toList.length) (((((l)).getD ((k : Int)).toNat default).2.2.2.2).data.toList.flatMap a1x)])))), (900500, some (a0b false (.sl 5 1 ((a2r l k).length) ((a2r l k).flatMap a1x)))), (900501, some (a0b false (a0m (a3q (a2r l k) (l.getD (k : Int).toNat default) 0))))]⟩) ?_ ?_
   ·refine a1K (oB := [5]) (oK := [900500, 900501]) (by kernel_rfl) rfl rfl ?_
    refine zD 0 ?_
    refine zD 1 ?_
    refine zD 3 ?_
    refine zD 4 ?_
    refine zD 6 ?_
    refine zD 7 ?_
    refine zD 9 ?_
    refine zD 10 ?_
    refine zD 14 ?_
    refine a5S 2 [5, 11] (by kernel_rfl) ⟨?_, ?_, ?_, trivial⟩
    ·refine a4K (k := 27) 2 hT rfl rfl rfl rfl rfl rfl rfl rfl (a0a rfl) rfl rfl rfl ?_
     refine a5S 5 [11] (by kernel_rfl) ⟨?_, ?_, trivial⟩
     ·refine a6J 900498 5 rfl rfl rfl rfl Tryz.call45 (a6q (k := (((l)).getD ((k : Int)).toNat default).2.2.1) ) (a0g (a0a rfl) (a0t (a0d a0c (a0d a0c (a0d a0c a0r)))) a0q) rfl rfl rfl rfl rfl ?_
      refine a5S 8 [11] (by kernel_rfl) ⟨?_, ?_, trivial⟩
      ·refine a6J 900011 8 rfl rfl rfl rfl Tryz.call46 (a4q (r := (((l)).getD ((k : Int)).toNat default).2.2.2.1) ) (a0g (a0a rfl) (a0t (a0d a0c a0r)) a0q) rfl rfl rfl rfl rfl ?_
       refine a7J (k := 36) 11 hT rfl (by kernel_rfl) rfl rfl rfl rfl rfl rfl rfl (a0a rfl) rfl rfl rfl ?_
       refine a4F (k := 37) (js := [27, 900510, 900511, 36]) 12 hT rfl (by kernel_rfl) rfl rfl rfl rfl rfl rfl rfl rfl rfl rfl rfl (a0Y (a0a rfl) rfl rfl rfl (a0Y (a0a rfl) rfl rfl rfl (a0Y (a0a rfl) rfl rfl rfl (a0Y (a0a rfl) rfl rfl rfl a2Z)))) (a0o (a1f rfl) (a0o (a1f rfl) (a0o (a1f rfl) (a0o (a1f rfl) a1y rfl) rfl) rfl) rfl) (by decide) (by decide) rfl rfl rfl rfl ?_
       simp only [a0p, a0k, SV.kill, CV.kill, kk, Nat.reduceBEq]
       refine a1q 13 rfl (by kernel_rfl) rfl rfl (a2I (n := (4)) hT rfl rfl (a0a rfl) rfl rfl) rfl rfl rfl rfl ?_
       refine a1Q (by kernel_rfl) ?_
       exact a2x (a0e ⟨rfl, rfl, rfl, rfl, rfl, rfl, rfl, rfl, rfl, trivial⟩ ⟨rfl, trivial⟩ ⟨rfl, rfl, rfl, trivial⟩ rfl)
      ·refine a4K (k := 36) 11 hT rfl rfl rfl rfl rfl rfl rfl rfl (a0a rfl) rfl rfl rfl ?_
       refine a2G 900011 8 rfl (by kernel_rfl) rfl rfl rfl Tryz.call46 (a4q (r := (((l)).getD ((k : Int)).toNat default).2.2.2.1) ) (a0g (a0a rfl) (a0t (a0d a0c a0r)) a0q) rfl rfl rfl rfl rfl ?_
       refine a4F (k := 37) (js := [27, 900510, 900511, 36]) 12 hT rfl (by kernel_rfl) rfl rfl rfl rfl rfl rfl rfl rfl rfl rfl rfl (a0Y (a0a rfl) rfl rfl rfl (a0Y (a0a rfl) rfl rfl rfl (a0Y (a0a rfl) rfl rfl rfl (a0Y (a0a rfl) rfl rfl rfl a2Z)))) (a0o (a1f rfl) (a0o (a1f rfl) (a0o (a1f rfl) (a0o (a1f rfl) a1y rfl) rfl) rfl) rfl) (by decide) (by decide) rfl rfl rfl rfl ?_
       simp only [a0p, a0k, SV.kill, CV.kill, kk, Nat.reduceBEq]
       refine a1q 13 rfl (by kernel_rfl) rfl rfl (a2I (n := (4)) hT rfl rfl (a0a rfl) rfl rfl) rfl rfl rfl rfl ?_
       refine a1Q (by kernel_rfl) ?_
       exact a2x (a0e ⟨rfl, rfl, rfl, rfl, rfl, rfl, rfl, rfl, rfl, trivial⟩ ⟨rfl, trivial⟩ ⟨rfl, rfl, rfl, trivial⟩ rfl)
     ·refine a4K (k := 36) 11 hT rfl rfl rfl rfl rfl rfl rfl rfl (a0a rfl) rfl rfl rfl ?_
      refine a2G 900498 5 rfl (by kernel_rfl) rfl rfl rfl Tryz.call45 (a6q (k := (((l)).getD ((k : Int)).toNat default).2.2.1) ) (a0g (a0a rfl) (a0t (a0d a0c (a0d a0c (a0d a0c a0r)))) a0q) rfl rfl rfl rfl rfl ?_
      refine a2G 900011 8 rfl (by kernel_rfl) rfl rfl rfl Tryz.call46 (a4q (r := (((l)).getD ((k : Int)).toNat default).2.2.2.1) ) (a0g (a0a rfl) (a0t (a0d a0c a0r)) a0q) rfl rfl rfl rfl rfl ?_
      refine a4F (k := 37) (js := [27, 900510, 900511, 36]) 12 hT rfl (by kernel_rfl) rfl rfl rfl rfl rfl rfl rfl rfl rfl rfl rfl (a0Y (a0a rfl) rfl rfl rfl (a0Y (a0a rfl) rfl rfl rfl (a0Y (a0a rfl) rfl rfl rfl (a0Y (a0a rfl) rfl rfl rfl a2Z)))) (a0o (a1f rfl) (a0o (a1f rfl) (a0o (a1f rfl) (a0o (a1f rfl) a1y rfl) rfl) rfl) rfl) (by decide) (by decide) rfl rfl rfl rfl ?_
      simp only [a0p, a0k, SV.kill, CV.kill, kk, Nat.reduceBEq]
      refine a1q 13 rfl (by kernel_rfl) rfl rfl (a2I (n := (4)) hT rfl rfl (a0a rfl) rfl rfl) rfl rfl rfl rfl ?_
      refine a1Q (by kernel_rfl) ?_
      exact a2x (a0e ⟨rfl, rfl, rfl, rfl, rfl, rfl, rfl, rfl, rfl, trivial⟩ ⟨rfl, trivial⟩ ⟨rfl, rfl, rfl, trivial⟩ rfl)
    ·refine a6J 900498 5 rfl rfl rfl rfl Tryz.call45 (a6q (k := (((l)).getD ((k : Int)).toNat default).2.2.1) ) (a0g (a0a rfl) (a0t (a0d a0c (a0d a0c (a0d a0c a0r)))) a0q) rfl rfl rfl rfl rfl ?_
     refine a5S 2 [8, 11] (by kernel_rfl) ⟨?_, ?_, ?_, trivial⟩
     ·refine a4K (k := 27) 2 hT rfl rfl rfl rfl rfl rfl rfl rfl (a0a rfl) rfl rfl rfl ?_
      refine a5S 8 [11] (by kernel_rfl) ⟨?_, ?_, trivial⟩
      ·refine a6J 900011 8 rfl rfl rfl rfl Tryz.call46 (a4q (r := (((l)).getD ((k : Int)).toNat default).2.2.2.1) ) (a0g (a0a rfl) (a0t (a0d a0c a0r)) a0q) rfl rfl rfl rfl rfl ?_
       refine a7J (k := 36) 11 hT rfl (by kernel_rfl) rfl rfl rfl rfl rfl rfl rfl (a0a rfl) rfl rfl rfl ?_
       refine a4F (k := 37) (js := [27, 900510, 900511, 36]) 12 hT rfl (by kernel_rfl) rfl rfl rfl rfl rfl rfl rfl rfl rfl rfl rfl (a0Y (a0a rfl) rfl rfl rfl (a0Y (a0a rfl) rfl rfl rfl (a0Y (a0a rfl) rfl rfl rfl (a0Y (a0a rfl) rfl rfl rfl a2Z)))) (a0o (a1f rfl) (a0o (a1f rfl) (a0o (a1f rfl) (a0o (a1f rfl) a1y rfl) rfl) rfl) rfl) (by decide) (by decide) rfl rfl rfl rfl ?_
       simp only [a0p, a0k, SV.kill, CV.kill, kk, Nat.reduceBEq]
       refine a1q 13 rfl (by kernel_rfl) rfl rfl (a2I (n := (4)) hT rfl rfl (a0a rfl) rfl rfl) rfl rfl rfl rfl ?_
       refine a1Q (by kernel_rfl) ?_
       exact a2x (a0e ⟨rfl, rfl, rfl, rfl, rfl, rfl, rfl, rfl, rfl, trivial⟩ ⟨rfl, trivial⟩ ⟨rfl, rfl, rfl, trivial⟩ rfl)
      ·refine a4K (k := 36) 11 hT rfl rfl rfl rfl rfl rfl rfl rfl (a0a rfl) rfl rfl rfl ?_
       refine a2G 900011 8 rfl (by kernel_rfl) rfl rfl rfl Tryz.call46 (a4q (r := (((l)).getD ((k : Int)).toNat default).2.2.2.1) ) (a0g (a0a rfl) (a0t (a0d a0c a0r)) a0q) rfl rfl rfl rfl rfl ?_
       refine a4F (k := 37) (js := [27, 900510, 900511, 36]) 12 hT rfl (by kernel_rfl) rfl rfl rfl rfl rfl rfl rfl rfl rfl rfl rfl (a0Y (a0a rfl) rfl rfl rfl (a0Y (a0a rfl) rfl rfl rfl (a0Y (a0a rfl) rfl rfl rfl (a0Y (a0a rfl) rfl rfl rfl a2Z)))) (a0o (a1f rfl) (a0o (a1f rfl) (a0o (a1f rfl) (a0o (a1f rfl) a1y rfl) rfl) rfl) rfl) (by decide) (by decide) rfl rfl rfl rfl ?_
       simp only [a0p, a0k, SV.kill, CV.kill, kk, Nat.reduceBEq]
       refine a1q 13 rfl (by kernel_rfl) rfl rfl (a2I (n := (4)) hT rfl rfl (a0a rfl) rfl rfl) rfl rfl rfl rfl ?_
       refine a1Q (by kernel_rfl) ?_
       exact a2x (a0e ⟨rfl, rfl, rfl, rfl, rfl, rfl, rfl, rfl, rfl, trivial⟩ ⟨rfl, trivial⟩ ⟨rfl, rfl, rfl, trivial⟩ rfl)
     ·refine a6J 900011 8 rfl rfl rfl rfl Tryz.call46 (a4q (r := (((l)).getD ((k : Int)).toNat default).2.2.2.1) ) (a0g (a0a rfl) (a0t (a0d a0c a0r)) a0q) rfl rfl rfl rfl rfl ?_
      refine a5S 2 [11] (by kernel_rfl) ⟨?_, ?_, trivial⟩
      ·refine a4K (k := 27) 2 hT rfl rfl rfl rfl rfl rfl rfl rfl (a0a rfl) rfl rfl rfl ?_
       refine a7J (k := 36) 11 hT rfl (by kernel_rfl) rfl rfl rfl rfl rfl rfl rfl (a0a rfl) rfl rfl rfl ?_
       refine a4F (k := 37) (js := [27, 900510, 900511, 36]) 12 hT rfl (by kernel_rfl) rfl rfl rfl rfl rfl rfl rfl rfl rfl rfl rfl (a0Y (a0a rfl) rfl rfl rfl (a0Y (a0a rfl) rfl rfl rfl (a0Y (a0a rfl) rfl rfl rfl (a0Y (a0a rfl) rfl rfl rfl a2Z)))) (a0o (a1f rfl) (a0o (a1f rfl) (a0o (a1f rfl) (a0o (a1f rfl) a1y rfl) rfl) rfl) rfl) (by decide) (by decide) rfl rfl rfl rfl ?_
       simp only [a0p, a0k, SV.kill, CV.kill, kk, Nat.reduceBEq]
       refine a1q 13 rfl (by kernel_rfl) rfl rfl (a2I (n := (4)) hT rfl rfl (a0a rfl) rfl rfl) rfl rfl rfl rfl ?_
       refine a1Q (by kernel_rfl) ?_
       exact a2x (a0e ⟨rfl, rfl, rfl, rfl, rfl, rfl, rfl, rfl, rfl, trivial⟩ ⟨rfl, trivial⟩ ⟨rfl, rfl, rfl, trivial⟩ rfl)
      ·refine a4K (k := 36) 11 hT rfl rfl rfl rfl rfl rfl rfl rfl (a0a rfl) rfl rfl rfl ?_
       refine a7J (k := 27) 2 hT rfl (by kernel_rfl) rfl rfl rfl rfl rfl rfl rfl (a0a rfl) rfl rfl rfl ?_
       refine a4F (k := 37) (js := [27, 900510, 900511, 36]) 12 hT rfl (by kernel_rfl) rfl rfl rfl rfl rfl rfl rfl rfl rfl rfl rfl (a0Y (a0a rfl) rfl rfl rfl (a0Y (a0a rfl) rfl rfl rfl (a0Y (a0a rfl) rfl rfl rfl (a0Y (a0a rfl) rfl rfl rfl a2Z)))) (a0o (a1f rfl) (a0o (a1f rfl) (a0o (a1f rfl) (a0o (a1f rfl) a1y rfl) rfl) rfl) rfl) (by decide) (by decide) rfl rfl rfl rfl ?_
       simp only [a0p, a0k, SV.kill, CV.kill, kk, Nat.reduceBEq]
       refine a1q 13 rfl (by kernel_rfl) rfl rfl (a2I (n := (4)) hT rfl rfl (a0a rfl) rfl rfl) rfl rfl rfl rfl ?_
       refine a1Q (by kernel_rfl) ?_
       exact a2x (a0e ⟨rfl, rfl, rfl, rfl, rfl, rfl, rfl, rfl, rfl, trivial⟩ ⟨rfl, trivial⟩ ⟨rfl, rfl, rfl, trivial⟩ rfl)
     ·refine a4K (k := 36) 11 hT rfl rfl rfl rfl rfl rfl rfl rfl (a0a rfl) rfl rfl rfl ?_
      refine a5S 2 [8] (by kernel_rfl) ⟨?_, ?_, trivial⟩
      ·refine a4K (k := 27) 2 hT rfl rfl rfl rfl rfl rfl rfl rfl (a0a rfl) rfl rfl rfl ?_
       refine a2G 900011 8 rfl (by kernel_rfl) rfl rfl rfl Tryz.call46 (a4q (r := (((l)).getD ((k : Int)).toNat default).2.2.2.1) ) (a0g (a0a rfl) (a0t (a0d a0c a0r)) a0q) rfl rfl rfl rfl rfl ?_
       refine a4F (k := 37) (js := [27, 900510, 900511, 36]) 12 hT rfl (by kernel_rfl) rfl rfl rfl rfl rfl rfl rfl rfl rfl rfl rfl (a0Y (a0a rfl) rfl rfl rfl (a0Y (a0a rfl) rfl rfl rfl (a0Y (a0a rfl) rfl rfl rfl (a0Y (a0a rfl) rfl rfl rfl a2Z)))) (a0o (a1f rfl) (a0o (a1f rfl) (a0o (a1f rfl) (a0o (a1f rfl) a1y rfl) rfl) rfl) rfl) (by decide) (by decide) rfl rfl rfl rfl ?_
       simp only [a0p, a0k, SV.kill, CV.kill, kk, Nat.reduceBEq]
       refine a1q 13 rfl (by kernel_rfl) rfl rfl (a2I (n := (4)) hT rfl rfl (a0a rfl) rfl rfl) rfl rfl rfl rfl ?_
       refine a1Q (by kernel_rfl) ?_
       exact a2x (a0e ⟨rfl, rfl, rfl, rfl, rfl, rfl, rfl, rfl, rfl, trivial⟩ ⟨rfl, trivial⟩ ⟨rfl, rfl, rfl, trivial⟩ rfl)
      ·refine a6J 900011 8 rfl rfl rfl rfl Tryz.call46 (a4q (r := (((l)).getD ((k : Int)).toNat default).2.2.2.1) ) (a0g (a0a rfl) (a0t (a0d a0c a0r)) a0q) rfl rfl rfl rfl rfl ?_
       refine a7J (k := 27) 2 hT rfl (by kernel_rfl) rfl rfl rfl rfl rfl rfl rfl (a0a rfl) rfl rfl rfl ?_
       refine a4F (k := 37) (js := [27, 900510, 900511, 36]) 12 hT rfl (by kernel_rfl) rfl rfl rfl rfl rfl rfl rfl rfl rfl rfl rfl (a0Y (a0a rfl) rfl rfl rfl (a0Y (a0a rfl) rfl rfl rfl (a0Y (a0a rfl) rfl rfl rfl (a0Y (a0a rfl) rfl rfl rfl a2Z)))) (a0o (a1f rfl) (a0o (a1f rfl) (a0o (a1f rfl) (a0o (a1f rfl) a1y rfl) rfl) rfl) rfl) (by decide) (by decide) rfl rfl rfl rfl ?_
       simp only [a0p, a0k, SV.kill, CV.kill, kk, Nat.reduceBEq]
       refine a1q 13 rfl (by kernel_rfl) rfl rfl (a2I (n := (4)) hT rfl rfl (a0a rfl) rfl rfl) rfl rfl rfl rfl ?_
       refine a1Q (by kernel_rfl) ?_
       exact a2x (a0e ⟨rfl, rfl, rfl, rfl, rfl, rfl, rfl, rfl, rfl, trivial⟩ ⟨rfl, trivial⟩ ⟨rfl, rfl, rfl, trivial⟩ rfl)
    ·refine a4K (k := 36) 11 hT rfl rfl rfl rfl rfl rfl rfl rfl (a0a rfl) rfl rfl rfl ?_
     refine a5S 2 [5] (by kernel_rfl) ⟨?_, ?_, trivial⟩
     ·refine a4K (k := 27) 2 hT rfl rfl rfl rfl rfl rfl rfl rfl (a0a rfl) rfl rfl rfl ?_
      refine a2G 900498 5 rfl (by kernel_rfl) rfl rfl rfl Tryz.call45 (a6q (k := (((l)).getD ((k : Int)).toNat default).2.2.1) ) (a0g (a0a rfl) (a0t (a0d a0c (a0d a0c (a0d a0c a0r)))) a0q) rfl rfl rfl rfl rfl ?_
      refine a2G 900011 8 rfl (by kernel_rfl) rfl rfl rfl Tryz.call46 (a4q (r := (((l)).getD ((k : Int)).toNat default).2.2.2.1) ) (a0g (a0a rfl) (a0t (a0d a0c a0r)) a0q) rfl rfl rfl rfl rfl ?_
      refine a4F (k := 37) (js := [27, 900510, 900511, 36]) 12 hT rfl (by kernel_rfl) rfl rfl rfl rfl rfl rfl rfl rfl rfl rfl rfl (a0Y (a0a rfl) rfl rfl rfl (a0Y (a0a rfl) rfl rfl rfl (a0Y (a0a rfl) rfl rfl rfl (a0Y (a0a rfl) rfl rfl rfl a2Z)))) (a0o (a1f rfl) (a0o (a1f rfl) (a0o (a1f rfl) (a0o (a1f rfl) a1y rfl) rfl) rfl) rfl) (by decide) (by decide) rfl rfl rfl rfl ?_
      simp only [a0p, a0k, SV.kill, CV.kill, kk, Nat.reduceBEq]
      refine a1q 13 rfl (by kernel_rfl) rfl rfl (a2I (n := (4)) hT rfl rfl (a0a rfl) rfl rfl) rfl rfl rfl rfl ?_
      refine a1Q (by kernel_rfl) ?_
      exact a2x (a0e ⟨rfl, rfl, rfl, rfl, rfl, rfl, rfl, rfl, rfl, trivial⟩ ⟨rfl, trivial⟩ ⟨rfl, rfl, rfl, trivial⟩ rfl)
     ·refine a6J 900498 5 rfl rfl rfl rfl Tryz.call45 (a6q (k := (((l)).getD ((k : Int)).toNat default).2.2.1) ) (a0g (a0a rfl) (a0t (a0d a0c (a0d a0c (a0d a0c a0r)))) a0q) rfl rfl rfl rfl rfl ?_
      refine a5S 2 [8] (by kernel_rfl) ⟨?_, ?_, trivial⟩
      ·refine a4K (k := 27) 2 hT rfl rfl rfl rfl rfl rfl rfl rfl (a0a rfl) rfl rfl rfl ?_
       refine a2G 900011 8 rfl (by kernel_rfl) rfl rfl rfl Tryz.call46 (a4q (r := (((l)).getD ((k : Int)).toNat default).2.2.2.1) ) (a0g (a0a rfl) (a0t (a0d a0c a0r)) a0q) rfl rfl rfl rfl rfl ?_
       refine a4F (k := 37) (js := [27, 900510, 900511, 36]) 12 hT rfl (by kernel_rfl) rfl rfl rfl rfl rfl rfl rfl rfl rfl rfl rfl (a0Y (a0a rfl) rfl rfl rfl (a0Y (a0a rfl) rfl rfl rfl (a0Y (a0a rfl) rfl rfl rfl (a0Y (a0a rfl) rfl rfl rfl a2Z)))) (a0o (a1f rfl) (a0o (a1f rfl) (a0o (a1f rfl) (a0o (a1f rfl) a1y rfl) rfl) rfl) rfl) (by decide) (by decide) rfl rfl rfl rfl ?_
       simp only [a0p, a0k, SV.kill, CV.kill, kk, Nat.reduceBEq]
       refine a1q 13 rfl (by kernel_rfl) rfl rfl (a2I (n := (4)) hT rfl rfl (a0a rfl) rfl rfl) rfl rfl rfl rfl ?_
       refine a1Q (by kernel_rfl) ?_
       exact a2x (a0e ⟨rfl, rfl, rfl, rfl, rfl, rfl, rfl, rfl, rfl, trivial⟩ ⟨rfl, trivial⟩ ⟨rfl, rfl, rfl, trivial⟩ rfl)
      ·refine a6J 900011 8 rfl rfl rfl rfl Tryz.call46 (a4q (r := (((l)).getD ((k : Int)).toNat default).2.2.2.1) ) (a0g (a0a rfl) (a0t (a0d a0c a0r)) a0q) rfl rfl rfl rfl rfl ?_
       refine a7J (k := 27) 2 hT rfl (by kernel_rfl) rfl rfl rfl rfl rfl rfl rfl (a0a rfl) rfl rfl rfl ?_
       refine a4F (k := 37) (js := [27, 900510, 900511, 36]) 12 hT rfl (by kernel_rfl) rfl rfl rfl rfl rfl rfl rfl rfl rfl rfl rfl (a0Y (a0a rfl) rfl rfl rfl (a0Y (a0a rfl) rfl rfl rfl (a0Y (a0a rfl) rfl rfl rfl (a0Y (a0a rfl) rfl rfl rfl a2Z)))) (a0o (a1f rfl) (a0o (a1f rfl) (a0o (a1f rfl) (a0o (a1f rfl) a1y rfl) rfl) rfl) rfl) (by decide) (by decide) rfl rfl rfl rfl ?_
       simp only [a0p, a0k, SV.kill, CV.kill, kk, Nat.reduceBEq]
       refine a1q 13 rfl (by kernel_rfl) rfl rfl (a2I (n := (4)) hT rfl rfl (a0a rfl) rfl rfl) rfl rfl rfl rfl ?_
       refine a1Q (by kernel_rfl) ?_
       exact a2x (a0e ⟨rfl, rfl, rfl, rfl, rfl, rfl, rfl, rfl, rfl, trivial⟩ ⟨rfl, trivial⟩ ⟨rfl, rfl, rfl, trivial⟩ rfl)
   refine z ?_
   refine a0h (c4J (d := 37) (dd := b3P (a4s (l.getD (k : Int).toNat default))) rfl rfl (c1h (b1d b1p (b1d b1p (b1d b1p (b1d b1p c5F)))))) ?_
   refine a1o (ι := Nat) (fun zz => ⟨[(2, .one .nil), (3, .one (.key 900501)), (15, .one (.dv [] (a2a (l)))), (16, .one (.dv [] (.int .i64 ((((l)).length : Int))))), (17, .one (.dv [] (.int .i64 ((k : Int))))), (37, .one (.dv [37] (b3P (a4s (l.getD (k : Int).toNat default))))), (38, .one (.dv [] (.int .i64 (((4) : Int))))), (39, .one (.dv [] (.int .i64 ((zz : Int)))))], [], [(37, some (a0b false (.sl 22 1 (4) ([.sl 1000005 1 (((((l)).getD ((k : Int)).toNat default).2.1).data.toList.length) (((((l)).getD ((k : Int)).toNat default).2.1).data.toList.flatMap a1x), a0m (a1z ((((l)).getD ((k : Int)).toNat default).2.2.1)), a0m (a2k ((((l)).getD ((k : Int)).toNat default).2.2.2.1)), .sl 1000005 1 (((((l)).getD ((k : Int)).toNat default).2.2.2.2).data.toList.length) (((((l)).getD ((k : Int)).toNat default).2.2.2.2).data.toList.flatMap a1x)])))), (900500, some (a0b false (.sl 5 1 ((a2r l k).length) ((a2r l k).flatMap a1x)))), (900501, some (a0b false (.sl 5 1 ((a3q (a2r l k) (l.getD (k : Int).toNat default) zz).length) ((a3q (a2r l k) (l.getD (k : Int).toNat default) zz).flatMap a1x))))]⟩) (fun zz => zz ≤ 4) (fun zz => 4 - zz) (0) ?_ (a0e ⟨rfl, rfl, rfl, rfl, rfl, rfl, rfl, rfl, trivial⟩ trivial ⟨rfl, rfl, rfl, trivial⟩ rfl) (fun zz hx => ?_)
   ·exact Nat.zero_le _
   obtain ⟨j, rfl⟩ : ∃ v, v = zz := ⟨_, rfl⟩
   replace hx : j ≤ 4 := hx
   have hj := hx
   show Ok _ _ _ _ _ (⟨[(2, .one .nil), (3, .one (.key 900501)), (15, .one (.dv [] (a2a (l)))), (16, .one (.dv [] (.int .i64 ((((l)).length : Int))))), (17, .one (.dv [] (.int .i64 ((k : Int))))), (37, .one (.dv [37] (b3P (a4s (l.getD (k : Int).toNat default))))), (38, .one (.dv [] (.int .i64 (((4) : Int))))), (39, .one (.dv [] (.int .i64 ((j : Int)))))], [], [(37, some (a0b false (.sl 22 1 (4) ([.sl 1000005 1 (((((l)).getD ((k : Int)).toNat default).2.1).data.toList.length) (((((l)).getD ((k : Int)).toNat default).2.1).data.toList.flatMap a1x), a0m (a1z ((((l)).getD ((k : Int)).toNat default).2.2.1)), a0m (a2k ((((l)).getD ((k : Int)).toNat default).2.2.2.1)), .sl 1000005 1 (((((l)).getD ((k : Int)).toNat default).2.2.2.2).data.toList.length) (((((l)).getD ((k : Int)).toNat default).2.2.2.2).data.toList.flatMap a1x)])))), (900500, some (a0b false (.sl 5 1 ((a2r l k).length) ((a2r l k).flatMap a1x)))), (900501, some (a0b false (.sl 5 1 ((a3q (a2r l k) (l.getD (k : Int).toNat default) j).length) ((a3q (a2r l k) (l.getD (k : Int).toNat default) j).flatMap a1x))))]⟩ : St)
   iterate 3 refine z ?_
   refine a0u ?_
   refine yQ rfl (fun c3 => ?_) fun c3 => ?_
   ·have d3 := c9f c3
    have hj4 : j < 4 := by omega
    have hpn : (a4s (l.getD (k : Int).toNat default)).length = 4 := rfl
    have hpl := b7m hop j
    have hol := b3B (b := (a2r l k)) hop j
    iterate 9 refine z ?_
    refine a0n ?_
    iterate 2 refine z ?_
    refine a2H 892472 rfl rfl rfl Tryz.call47 (c0r (x := (a3q (a2r l k) (l.getD (k : Int).toNat default) j)) (y := (a4s (l.getD (k : Int).toNat default)).getD (j : Int).toNat default) (by omega) (by omega)) (a0g (a0a rfl) (a0C (a0X rfl rfl)) (a0g (a0a rfl) (a0C a0c) a0q)) rfl rfl rfl ?_
    refine z ?_
    refine a1H ?_
    iterate 2 refine z ?_
    refine a0h (b0S (s := 3) (k := 900502) (k' := 900501) rfl rfl rfl (by decide) rfl) ?_
    simp only [a0p, a0k, SV.kill, CV.kill, kk, Nat.reduceBEq]
    refine a0n ?_
    iterate 3 refine z ?_
    refine ⟨j + 1, ?_, ?_, a0e ⟨rfl, rfl, rfl, rfl, rfl, rfl, rfl, rfl, trivial⟩ trivial ⟨rfl, rfl, rfl, trivial⟩ rfl⟩
    ·omega
    ·omega
   ·have d3 := c9g c3
    have hj4 : j = 4 := by omega
    iterate 6 refine z ?_
    refine a0h (b0S (s := 3) (k := 900501) (k' := 900500) rfl rfl rfl (by decide) rfl) ?_
    simp only [a0p, a0k, SV.kill, CV.kill, kk, Nat.reduceBEq]
    refine a0n ?_
    iterate 3 refine z ?_
    refine ⟨k + 1, ?_, ?_, a0e ⟨rfl, rfl, rfl, rfl, rfl, trivial⟩ trivial ⟨(by rw [hj4]; rfl), trivial⟩ rfl⟩
    ·omega
    ·omega
  ·have d2 := c9g c2
   iterate 9 refine z ?_
   refine a0h (σ' := ⟨[(2, .one (.key 900500))], [], [(900500, some (a0b false (a0m (a1l l))))]⟩) (a0e ⟨rfl, trivial⟩ trivial ⟨(by first | exact congrArg (fun l : List UInt8 => some (some (KC.mk false 5 1 l.length (l.flatMap a1x)))) (show ([] : List UInt8) = a1l l from (b2n hk0).symm) | exact congrArg (fun l : List UInt8 => some (some (KC.mk false 5 1 l.length (l.flatMap a1x)))) (a8e hk1 (by omega)).symm), trivial⟩ rfl) ?_
   refine z ?_
   refine a1r (a0l rfl) ?_
   exact ⟨rfl, rfl⟩
end Go.Proofs.YtkhldpbfkagdhaaGreat
