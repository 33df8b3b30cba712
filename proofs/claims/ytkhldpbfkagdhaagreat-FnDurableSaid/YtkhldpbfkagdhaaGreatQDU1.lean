/-
 Contracts of the program's functions for the statements Durable, by the rules of the logic. Conditions: none but those in the theorems.
-/
import Derived.Test.YtkhldpbfkagdhaaGreatU3
set_option maxHeartbeats 4000000
set_option maxRecDepth 100000
namespace Go.Proofs.YtkhldpbfkagdhaaGreat
open Go.RowKit
open Go.Proofs
set_option linter.unusedVariables false
set_option linter.unusedSimpArgs false
theorem a6w {n lo hi : Int}  : PFn Tryz.prog 73 [.one (.dv [] (.int .i64 (n))), .one (.dv [] (.int .i64 (lo))), .one (.dv [] (.int .i64 (hi)))] (.one (.dv [] (.bool (decide (lo ≤ n) && decide (n ≤ hi))))) := by
 refine ⟨a0Q Tryz.func73 rfl Tryz.ntmps73 Tryz.results73 rfl (fun C => ?_)⟩
 refine a1k (x := .tmp 0) (a0a rfl) fun f0 => ?_
 refine a1k (x := .tmp 1) (a0a rfl) fun f1 => ?_
 refine a1k (x := .tmp 2) (a0a rfl) fun f2 => ?_
 iterate 16 refine z ?_
 rfl
theorem a6Y {n lo hi : Int}  : PFn Tryz.prog 54 [.one (.dv [] (.int .i64 (n))), .one (.dv [] (.int .i64 (lo))), .one (.dv [] (.int .i64 (hi)))] (.one (.dv [] (.bool (decide (lo ≤ n) && decide (n ≤ hi))))) := by
 refine ⟨a0Q Tryz.func54 rfl Tryz.ntmps54 Tryz.results54 rfl (fun C => ?_)⟩
 refine a1k (x := .tmp 0) (a0a rfl) fun f0 => ?_
 refine a1k (x := .tmp 1) (a0a rfl) fun f1 => ?_
 refine a1k (x := .tmp 2) (a0a rfl) fun f2 => ?_
 iterate 16 refine z ?_
 rfl
theorem b1Q {α : Type} {p : α → Bool} {l : List α} {k : Nat} {d : α} (h : (l.take k).all p = true) (hk : k < l.length) (hp : p (l.getD k d) = true) : (l.take (k + 1)).all p = true := by
 rw [List.take_succ_eq_append_getElem hk, List.all_append, h]
 simp only [List.all_cons, List.all_nil, Bool.and_true, Bool.true_and]
 simpa [List.getD, List.getElem?_eq_getElem hk] using hp
theorem b0D {α : Type} {p : α → Bool} {l : List α} {k : Nat} {d : α} (hk : k < l.length) (hp : p (l.getD k d) = false) : l.all p = false := by
 rw [List.all_eq_false]
 refine ⟨l[k], List.getElem_mem hk, ?_⟩
 simpa [List.getD, List.getElem?_eq_getElem hk] using hp
theorem b0N {α : Type} {p : α → Bool} {l : List α} {k : Nat} (h : (l.take k).all p = true) (hk : l.length ≤ k) : l.all p = true := by rwa [List.take_of_length_le hk] at h
theorem a4I (s : ByteArray) : s.data.toList.length = s.size := rfl
def kch (b : UInt8) : Bool := (decide ((97 : Int) ≤ (b.toNat : Int)) && decide ((b.toNat : Int) ≤ 122)) || (decide ((48 : Int) ≤ (b.toNat : Int)) && decide ((b.toNat : Int) ≤ 57))
def a4r (s : Str) : Bool := s.data.toList.all kch && decide ((s.size : Int) ≤ 12)
def wch (sl : Bool) (b : UInt8) : Bool := (decide ((97 : Int) ≤ (b.toNat : Int)) && decide ((b.toNat : Int) ≤ 122)) || (sl && decide ((b.toNat : Int) = 47))
theorem b8m (b : UInt8) : ((decide ((b.toNat : Int) < 97) || decide ((122 : Int) < (b.toNat : Int))) && (decide ((b.toNat : Int) < 48) || decide ((57 : Int) < (b.toNat : Int)))) = !kch b := by
 unfold kch
 generalize (b.toNat : Int) = z
 by_cases h1 : z < 97 <;> by_cases h2 : 122 < z <;> by_cases h3 : z < 48 <;> by_cases h4 : 57 < z <;> simp [h1, h2, h3, h4] <;> omega
theorem c8O {s : Str}  : PFn Tryz.prog 111 [.one (.dv [] (.str (s)))] (.one (.dv [] (.bool (a4r s)))) := by
 refine ⟨a0Q Tryz.func111 rfl Tryz.ntmps111 Tryz.results111 rfl (fun C => ?_)⟩
 refine a1k (x := .tmp 0) (a0a rfl) fun f0 => ?_
 iterate 8 refine z ?_
 refine a1l (ι := Nat) (fun zz => ⟨[(0, .one (.dv [] (.str (s)))), (3, .one (.dv [] (.int .i64 ((zz : Int)))))], [], []⟩) (fun zz => zz ≤ s.size ∧ (s.data.toList.take zz).all kch = true) (fun zz => s.size - zz) (0) ?_ (a0e ⟨rfl, rfl, trivial⟩ trivial trivial rfl) (fun zz hx => ?_)
 ·exact ⟨Nat.zero_le _, rfl⟩
 obtain ⟨k, rfl⟩ : ∃ v, v = zz := ⟨_, rfl⟩
 replace hx : k ≤ s.size ∧ (s.data.toList.take k).all kch = true := hx
 obtain ⟨hk, hall⟩ := hx
 show Ok _ _ _ _ _ (⟨[(0, .one (.dv [] (.str (s)))), (3, .one (.dv [] (.int .i64 ((k : Int)))))], [], []⟩ : St)
 iterate 7 refine z ?_
 refine yQ rfl (fun c1 => ?_) fun c1 => ?_
 ·have d1 := of_decide_eq_true c1
 iterate 29 refine z ?_
 refine yQ rfl (fun c2 => ?_) fun c2 => ?_
 ·iterate 10 refine z ?_
  rw [a4r, b0D (k := k) (d := 0) (by rw [a4I]; omega) (by have h : (!kch (s.data.toList.getD k 0)) = true := c2; simpa using h)]; rfl
 ·iterate 3 refine z ?_
  refine a0n ?_
  iterate 4 refine z ?_
  refine ⟨k + 1, ?_, ?_, a0e ⟨rfl, rfl, trivial⟩ trivial trivial rfl⟩
  ·exact ⟨by omega, b1Q (d := 0) hall (by rw [a4I]; omega) (by have h : (!kch (s.data.toList.getD k 0)) = false := c2; simpa using h)⟩
  ·omega
 ·have d1 := of_decide_eq_false c1
 iterate 13 refine z ?_
 rw [a4r, b0N hall (by rw [a4I]; omega)]; rfl
theorem c3l {s : Str}  : PFn Tryz.prog 113 [.one (.dv [] (.str (s)))] (.one (.dv [] (.bool (a4r s)))) := by
 refine ⟨a0Q Tryz.func113 rfl Tryz.ntmps113 Tryz.results113 rfl (fun C => ?_)⟩
 refine a1k (x := .tmp 0) (a0a rfl) fun f0 => ?_
 iterate 8 refine z ?_
 refine a1l (ι := Nat) (fun zz => ⟨[(0, .one (.dv [] (.str (s)))), (3, .one (.dv [] (.int .i64 ((zz : Int)))))], [], []⟩) (fun zz => zz ≤ s.size ∧ (s.data.toList.take zz).all kch = true) (fun zz => s.size - zz) (0) ?_ (a0e ⟨rfl, rfl, trivial⟩ trivial trivial rfl) (fun zz hx => ?_)
 ·exact ⟨Nat.zero_le _, rfl⟩
 obtain ⟨k, rfl⟩ : ∃ v, v = zz := ⟨_, rfl⟩
 replace hx : k ≤ s.size ∧ (s.data.toList.take k).all kch = true := hx
 obtain ⟨hk, hall⟩ := hx
 show Ok _ _ _ _ _ (⟨[(0, .one (.dv [] (.str (s)))), (3, .one (.dv [] (.int .i64 ((k : Int)))))], [], []⟩ : St)
 iterate 7 refine z ?_
 refine yQ rfl (fun c1 => ?_) fun c1 => ?_
 ·have d1 := of_decide_eq_true c1
 iterate 28 refine z ?_
 refine yQ rfl (fun c2 => ?_) fun c2 => ?_
 ·iterate 10 refine z ?_
  rw [a4r, b0D (k := k) (d := 0) (by rw [a4I]; omega) (by have h := (b8m (s.data.toList.getD k 0)).symm.trans c2; simpa using h)]; rfl
 ·iterate 3 refine z ?_
  refine a0n ?_
  iterate 4 refine z ?_
  refine ⟨k + 1, ?_, ?_, a0e ⟨rfl, rfl, trivial⟩ trivial trivial rfl⟩
  ·exact ⟨by omega, b1Q (d := 0) hall (by rw [a4I]; omega) (by have h := (b8m (s.data.toList.getD k 0)).symm.trans c2; simpa using h)⟩
  ·omega
 ·have d1 := of_decide_eq_false c1
 iterate 13 refine z ?_
 rw [a4r, b0N hall (by rw [a4I]; omega)]; rfl
def a0Z (k : a0L) : Bool := (decide (1 ≤ k.1) && decide (k.1 ≤ 3)) && (decide (-1000000000000 ≤ k.2.1) && decide (k.2.1 ≤ 1000000000000)) && a4r k.2.2 && !(decide (k.1 = 2) && !decide (k.2.1 = 0)) && !(decide (k.1 = 1) && !sEq k.2.2 (ByteArray.mk #[]))
def a2g (s : Str) : Bool := s.data.toList.all (wch false) && (decide (1 ≤ (s.size : Int)) && decide ((s.size : Int) ≤ 8))
theorem b8r (b : UInt8) : (decide ((b.toNat : Int) < 97) || decide ((122 : Int) < (b.toNat : Int))) = !wch false b := by
 unfold wch
 generalize (b.toNat : Int) = z
 by_cases h1 : z < 97 <;> by_cases h2 : 122 < z <;> simp [h1, h2] <;> omega
theorem a5P {k : a0L}  : PFn Tryz.prog 80 [.agg [(.dv [] (.int .i64 (k.1))), (.dv [] (.int .i64 (k.2.1))), (.dv [] (.str (k.2.2)))]] (.one (.dv [] (.bool (a0Z k)))) := by
 refine ⟨a0Q Tryz.func80 rfl Tryz.ntmps80 Tryz.results80 rfl (fun C => ?_)⟩
 refine yF 0 0 rfl rfl fun f0_0 => ?_
 refine yF 0 1 rfl rfl fun f0_1 => ?_
 refine yF 0 2 rfl rfl fun f0_2 => ?_
 iterate 8 refine z ?_
 refine zC Tryz.call73 ?_ (hf := a6w)
 iterate 4 refine z ?_
 refine a1P (a1t rfl rfl rfl rfl rfl) rfl rfl Tryz.call73 a6w (fun hg => (a0g (a0z rfl hg) (a0D a0c) (a0g (a0j (a0i rfl)) (a0D a0c) (a0g (a0j (a0i rfl)) (a0D a0c) a0q)))) rfl rfl ?_
 iterate 5 refine z ?_
 refine a1P (a1t rfl rfl rfl rfl rfl) rfl rfl Tryz.call111 c8O (fun hg => (a0g (a0z rfl hg) (a0D a0c) a0q)) rfl rfl ?_
 iterate 3 refine z ?_
 refine yQ rfl (fun c1 => ?_) fun c1 => ?_
 ·iterate 6 refine z ?_
 grind [a0Z]
 ·iterate 27 refine z ?_
 grind [a0Z]
theorem a7b {k : a0L}  : PFn Tryz.prog 85 [.agg [(.dv [] (.int .i64 (k.1))), (.dv [] (.int .i64 (k.2.1))), (.dv [] (.str (k.2.2)))]] (.one (.dv [] (.bool (a0Z k)))) := by
 refine ⟨a0Q Tryz.func85 rfl Tryz.ntmps85 Tryz.results85 rfl (fun C => ?_)⟩
 refine yF 0 0 rfl rfl fun f0_0 => ?_
 refine yF 0 1 rfl rfl fun f0_1 => ?_
 refine yF 0 2 rfl rfl fun f0_2 => ?_
 iterate 7 refine z ?_
 refine zC Tryz.call54 ?_ (hf := a6Y)
 iterate 3 refine z ?_
 refine a1P (a1t rfl rfl rfl rfl rfl) rfl rfl Tryz.call54 a6Y (fun hg => (a0g (a0z rfl hg) (a0D a0c) (a0g (a0j (a0i rfl)) (a0D a0c) (a0g (a0j (a0i rfl)) (a0D a0c) a0q)))) rfl rfl ?_
 iterate 14 refine z ?_
 refine a1P (a1t rfl rfl rfl rfl rfl) rfl rfl Tryz.call113 c3l (fun hg => (a0g (a0z rfl hg) (a0D a0c) a0q)) rfl rfl ?_
 iterate 15 refine z ?_
 grind [a0Z]
theorem c1B {s : Str} {m : Int} {sl : Bool}  : PFn Tryz.prog 99 [.one (.dv [] (.str (s))), .one (.dv [] (.int .i64 (m))), .one (.dv [] (.bool (sl)))] (.one (.dv [] (.bool (s.data.toList.all (wch sl) && (decide (1 ≤ (s.size : Int)) && decide ((s.size : Int) ≤ m)))))) := by
 refine ⟨a0Q Tryz.func99 rfl Tryz.ntmps99 Tryz.results99 rfl (fun C => ?_)⟩
 refine a1k (x := .tmp 0) (a0a rfl) fun f0 => ?_
 refine a1k (x := .tmp 1) (a0a rfl) fun f1 => ?_
 iterate 8 refine z ?_
 refine a1l (ι := Nat) (fun zz => ⟨[(0, .one (.dv [] (.str (s)))), (1, .one (.dv [] (.int .i64 (m)))), (2, .one (.dv [] (.bool (sl)))), (7, .one (.dv [] (.int .i64 ((zz : Int)))))], [], []⟩) (fun zz => zz ≤ s.size ∧ (s.data.toList.take zz).all (wch sl) = true) (fun zz => s.size - zz) (0) ?_ (a0e ⟨rfl, rfl, rfl, rfl, trivial⟩ trivial trivial rfl) (fun zz hx => ?_)
 ·exact ⟨Nat.zero_le _, rfl⟩
 obtain ⟨k, rfl⟩ : ∃ v, v = zz := ⟨_, rfl⟩
 replace hx : k ≤ s.size ∧ (s.data.toList.take k).all (wch sl) = true := hx
 obtain ⟨hk, hall⟩ := hx
 show Ok _ _ _ _ _ (⟨[(0, .one (.dv [] (.str (s)))), (1, .one (.dv [] (.int .i64 (m)))), (2, .one (.dv [] (.bool (sl)))), (7, .one (.dv [] (.int .i64 ((k : Int)))))], [], []⟩ : St)
 iterate 7 refine z ?_
 refine yQ rfl (fun c1 => ?_) fun c1 => ?_
 ·have d1 := of_decide_eq_true c1
 iterate 26 refine z ?_
 refine yQ rfl (fun c2 => ?_) fun c2 => ?_
 ·iterate 10 refine z ?_
  rw [b0D (k := k) (d := 0) (by rw [a4I]; omega) (by have h : (!wch sl (s.data.toList.getD k 0)) = true := c2; simpa using h)]; rfl
 ·iterate 3 refine z ?_
  refine a0n ?_
  iterate 4 refine z ?_
  refine ⟨k + 1, ?_, ?_, a0e ⟨rfl, rfl, rfl, rfl, trivial⟩ trivial trivial rfl⟩
  ·exact ⟨by omega, b1Q (d := 0) hall (by rw [a4I]; omega) (by have h : (!wch sl (s.data.toList.getD k 0)) = false := c2; simpa using h)⟩
  ·omega
 ·have d1 := of_decide_eq_false c1
 iterate 9 refine z ?_
 refine zC Tryz.call73 ?_ (hf := a6w)
 iterate 4 refine z ?_
 rw [b0N hall (by rw [a4I]; omega)]; rfl
theorem a7W {s : Str}  : PFn Tryz.prog 72 [.one (.dv [] (.str (s)))] (.one (.dv [] (.bool (a2g s)))) := by
 refine ⟨a0Q Tryz.func72 rfl Tryz.ntmps72 Tryz.results72 rfl (fun C => ?_)⟩
 refine a1k (x := .tmp 0) (a0a rfl) fun f0 => ?_
 iterate 5 refine z ?_
 refine zC Tryz.call99 ?_ (hf := c1B)
 iterate 4 refine z ?_
 rfl
theorem a8j {s : Str}  : PFn Tryz.prog 52 [.one (.dv [] (.str (s)))] (.one (.dv [] (.bool (a2g s)))) := by
 refine ⟨a0Q Tryz.func52 rfl Tryz.ntmps52 Tryz.results52 rfl (fun C => ?_)⟩
 refine a1k (x := .tmp 0) (a0a rfl) fun f0 => ?_
 iterate 8 refine z ?_
 refine a1l (ι := Nat) (fun zz => ⟨[(0, .one (.dv [] (.str (s)))), (3, .one (.dv [] (.int .i64 ((zz : Int)))))], [], []⟩) (fun zz => zz ≤ s.size ∧ (s.data.toList.take zz).all (wch false) = true) (fun zz => s.size - zz) (0) ?_ (a0e ⟨rfl, rfl, trivial⟩ trivial trivial rfl) (fun zz hx => ?_)
 ·exact ⟨Nat.zero_le _, rfl⟩
 obtain ⟨k, rfl⟩ : ∃ v, v = zz := ⟨_, rfl⟩
 replace hx : k ≤ s.size ∧ (s.data.toList.take k).all (wch false) = true := hx
 obtain ⟨hk, hall⟩ := hx
 show Ok _ _ _ _ _ (⟨[(0, .one (.dv [] (.str (s)))), (3, .one (.dv [] (.int .i64 ((k : Int)))))], [], []⟩ : St)
 iterate 7 refine z ?_
 refine yQ rfl (fun c1 => ?_) fun c1 => ?_
 ·have d1 := of_decide_eq_true c1
 iterate 16 refine z ?_
 refine yQ rfl (fun c2 => ?_) fun c2 => ?_
 ·iterate 10 refine z ?_
  rw [a2g, b0D (k := k) (d := 0) (by rw [a4I]; omega) (by have h := (b8r (s.data.toList.getD k 0)).symm.trans c2; simpa using h)]; rfl
 ·iterate 3 refine z ?_
  refine a0n ?_
  iterate 4 refine z ?_
  refine ⟨k + 1, ?_, ?_, a0e ⟨rfl, rfl, trivial⟩ trivial trivial rfl⟩
  ·exact ⟨by omega, b1Q (d := 0) hall (by rw [a4I]; omega) (by have h := (b8r (s.data.toList.getD k 0)).symm.trans c2; simpa using h)⟩
  ·omega
 ·have d1 := of_decide_eq_false c1
 iterate 8 refine z ?_
 refine zC Tryz.call54 ?_ (hf := a6Y)
 iterate 4 refine z ?_
 rw [a2g, b0N hall (by rw [a4I]; omega)]; rfl
theorem b9O : ∀ (x y : List UInt8), (Op.bytesLess x y || (x == y)) = !Op.bytesLess y x
 | [], [] => rfl
 | [], _ :: _ => rfl
 | _ :: _, [] => rfl
 | a :: x, b :: y => by
 have ih := b9O x y
 simp only [Op.bytesLess]
 rcases Nat.lt_trichotomy a.toNat b.toNat with h | h | h
 ·have h1 : a < b := h
  have h2 : ¬ b < a := by intro h'; have : b.toNat < a.toNat := h'; omega
  have h3 : ¬ a = b := by rintro rfl; omega
  have h4 : ¬ b = a := fun e => h3 e.symm
  simp [h1, h2, h3, h4]
 ·have e : a = b := UInt8.toNat_inj.1 h
  subst e
  simpa using ih
 ·have h1 : b < a := h
  have h2 : ¬ a < b := by intro h'; have : a.toNat < b.toNat := h'; omega
  have h3 : ¬ a = b := by rintro rfl; omega
  have h4 : ¬ b = a := fun e => h3 e.symm
  simp [h1, h2, h3, h4]
theorem a7N (a b : Str) : (sLt a b || sEq a b) = !sLt b a := b9O _ _
theorem a4w {p : Nat → Bool} {k : Nat} (h : (List.range k).all p = true) (hp : p k = true) : (List.range (k + 1)).all p = true := by
 rw [List.range_succ, List.all_append, h]; simpa using hp
theorem a7B {p : Nat → Bool} {k n : Nat} (hk : k < n) (hp : p k = false) : (List.range n).all p = false := by
 rw [List.all_eq_false]; exact ⟨k, List.mem_range.2 hk, by simpa using hp⟩
def a4N (r : a0v) (i : Nat) : Bool := (!a2g (r.getD (i : Int).toNat default).1 || !(decide ((0 : Int) ≤ (r.getD (i : Int).toNat default).2) && decide ((r.getD (i : Int).toNat default).2 ≤ 1000000000))) ||
 (decide ((0 : Int) < (i : Int)) && (sLt (r.getD (i : Int).toNat default).1 (r.getD ((i : Int) - 1).toNat default).1 || sEq (r.getD (i : Int).toNat default).1 (r.getD ((i : Int) - 1).toNat default).1))
def a1b (r : a0v) : Bool := (List.range r.length).all (fun i => !a4N r i) && decide ((r.length : Int) ≤ 6)
def b0R (r : a0v) (i : Nat) : Bool := (!a2g (r.getD (i : Int).toNat default).1 || !(decide ((0 : Int) ≤ (r.getD (i : Int).toNat default).2) && decide ((r.getD (i : Int).toNat default).2 ≤ 1000000000))) ||
 (decide ((0 : Int) < (i : Int)) && !sLt (r.getD ((i : Int) - 1).toNat default).1 (r.getD (i : Int).toNat default).1)
theorem b6F (r : a0v) (i : Nat) : b0R r i = a4N r i := by unfold b0R a4N; rw [a7N]
theorem a7i {r : a0v}  : PFn Tryz.prog 81 [.agg [(.dv [] (a0J (r)))]] (.one (.dv [] (.bool (a1b r)))) := by
 refine ⟨a0Q Tryz.func81 rfl Tryz.ntmps81 Tryz.results81 rfl (fun C => ?_)⟩
 refine yF 0 0 rfl rfl fun f0_0 => ?_
 iterate 12 refine z ?_
 refine a1l (ι := Nat) (fun zz => ⟨[(1, .box 1 0), (6, .one (.dv [] (a0J (r)))), (7, .one (.dv [] (.int .i64 ((((r)).length : Int))))), (8, .one (.dv [] (.int .i64 ((zz : Int)))))], [(1, 63, [(.dv [] (a0J (r)))])], []⟩) (fun zz => zz ≤ r.length ∧ (List.range zz).all (fun i => !a4N r i) = true) (fun zz => r.length - zz) (0) ?_ (a0e ⟨rfl, rfl, rfl, rfl, trivial⟩ ⟨rfl, trivial⟩ trivial rfl) (fun zz hx => ?_)
 ·exact ⟨Nat.zero_le _, rfl⟩
 obtain ⟨k, rfl⟩ : ∃ v, v = zz := ⟨_, rfl⟩
 replace hx : k ≤ r.length ∧ (List.range k).all (fun i => !a4N r i) = true := hx
 obtain ⟨hk, hall⟩ := hx
 show Ok _ _ _ _ _ (⟨[(1, .box 1 0), (6, .one (.dv [] (a0J (r)))), (7, .one (.dv [] (.int .i64 ((((r)).length : Int))))), (8, .one (.dv [] (.int .i64 ((k : Int)))))], [(1, 63, [(.dv [] (a0J (r)))])], []⟩ : St)
 iterate 3 refine z ?_
 refine a0s ?_
 refine yQ rfl (fun c1 => ?_) fun c1 => ?_
 ·have d1 := of_decide_eq_true c1
 iterate 12 refine z ?_
 refine a0s ?_
 refine a1N (oB := [1, 4]) (oK := []) (by kernel_rfl) rfl rfl ?_
 refine zD 0 ?_
 refine zD 1 ?_
 refine a5A 2 rfl (by kernel_rfl) rfl rfl rfl Tryz.call72 a7W (a0g (a0a rfl) (a0D a0c) a0q) rfl rfl rfl rfl ?_
 refine zD 3 ?_
 refine zD 4 ?_
 refine zDG 5 ?_
 refine zDG 6 ?_
 refine a3Q 7 rfl (by kernel_rfl) (a1t rfl rfl rfl rfl rfl) rfl rfl Tryz.call73 a6w (fun hg => (a0g (a0z rfl hg) (a0D a0c) (a0g (a0j (a0i rfl)) (a0D a0c) (a0g (a0j (a0i rfl)) (a0D a0c) a0q)))) rfl rfl ?_
 refine zDG 8 ?_
 refine zD 9 ?_
 refine zD 10 ?_
 refine zDG 11 ?_
 refine zDG 12 ?_
 refine zDG 13 ?_
 refine zDG 14 ?_
 refine zDG 15 ?_
 refine zDG 16 ?_
 refine zDG 17 ?_
 refine zDG 18 ?_
 refine zDG 19 ?_
 refine zDG 20 ?_
 refine zDG 21 ?_
 refine zDG 22 ?_
 refine zDG 23 ?_
 refine zDG 24 ?_
 refine zD 25 ?_
 refine a1S (by kernel_rfl) ?_
 refine z ?_
 refine yQ rfl (fun c2 => ?_) fun c2 => ?_
 ·iterate 10 refine z ?_
  rw [a1b, a7B (k := k) (by omega) (by have h : a4N r k = true := c2; simpa using h)]; rfl
 ·iterate 3 refine z ?_
  refine a0n ?_
  iterate 3 refine z ?_
  refine ⟨k + 1, ?_, ?_, a0e ⟨rfl, rfl, rfl, rfl, trivial⟩ ⟨rfl, trivial⟩ trivial rfl⟩
  ·exact ⟨by omega, a4w hall (by have h : a4N r k = false := c2; simpa using h)⟩
  ·omega
 ·have d1 := of_decide_eq_false c1
 iterate 14 refine z ?_
 obtain rfl : k = r.length := by omega
 rw [a1b, hall]; rfl
theorem a7j {r : a0v}  : PFn Tryz.prog 86 [.agg [(.dv [] (a0J (r)))]] (.one (.dv [] (.bool (a1b r)))) := by
 refine ⟨a0Q Tryz.func86 rfl Tryz.ntmps86 Tryz.results86 rfl (fun C => ?_)⟩
 refine yF 0 0 rfl rfl fun f0_0 => ?_
 iterate 9 refine z ?_
 refine a1l (ι := Nat) (fun zz => ⟨[(1, .box 1 0), (3, .one (.dv [] (.int .i64 ((zz : Int)))))], [(1, 63, [(.dv [] (a0J (r)))])], []⟩) (fun zz => zz ≤ r.length ∧ (List.range zz).all (fun i => !a4N r i) = true) (fun zz => r.length - zz) (0) ?_ (a0e ⟨rfl, rfl, trivial⟩ ⟨rfl, trivial⟩ trivial rfl) (fun zz hx => ?_)
 ·exact ⟨Nat.zero_le _, rfl⟩
 obtain ⟨k, rfl⟩ : ∃ v, v = zz := ⟨_, rfl⟩
 replace hx : k ≤ r.length ∧ (List.range k).all (fun i => !a4N r i) = true := hx
 obtain ⟨hk, hall⟩ := hx
 show Ok _ _ _ _ _ (⟨[(1, .box 1 0), (3, .one (.dv [] (.int .i64 ((k : Int)))))], [(1, 63, [(.dv [] (a0J (r)))])], []⟩ : St)
 iterate 8 refine z ?_
 refine yQ rfl (fun c1 => ?_) fun c1 => ?_
 ·have d1 := of_decide_eq_true c1
 iterate 4 refine z ?_
 refine a0s ?_
 refine a1N (oB := [1]) (oK := []) (by kernel_rfl) rfl rfl ?_
 refine zD 0 ?_
 refine zD 1 ?_
 refine zD 2 ?_
 refine zD 3 ?_
 refine zD 4 ?_
 refine zD 5 ?_
 refine a5A 6 rfl (by kernel_rfl) rfl rfl rfl Tryz.call52 a8j (a0g (a0a rfl) (a0D a0c) a0q) rfl rfl rfl rfl ?_
 refine zD 7 ?_
 refine zD 8 ?_
 refine zDG 9 ?_
 refine zDG 10 ?_
 refine zDG 11 ?_
 refine zDG 12 ?_
 refine zDG 13 ?_
 refine zDG 14 ?_
 refine a3Q 15 rfl (by kernel_rfl) (a1t rfl rfl rfl rfl rfl) rfl rfl Tryz.call54 a6Y (fun hg => (a0g (a0z rfl hg) (a0D a0c) (a0g (a0j (a0i rfl)) (a0D a0c) (a0g (a0j (a0i rfl)) (a0D a0c) a0q)))) rfl rfl ?_
 refine zDG 16 ?_
 refine zD 17 ?_
 refine zD 18 ?_
 refine zDG 19 ?_
 refine zDG 20 ?_
 refine zDG 21 ?_
 refine zDG 22 ?_
 refine zDG 23 ?_
 refine zDG 24 ?_
 refine zDG 25 ?_
 refine zDG 26 ?_
 refine zDG 27 ?_
 refine zDG 28 ?_
 refine zDG 29 ?_
 refine zDG 30 ?_
 refine zDG 31 ?_
 refine zDG 32 ?_
 refine zDG 33 ?_
 refine zDG 34 ?_
 refine zDG 35 ?_
 refine zDG 36 ?_
 refine zD 37 ?_
 refine a1S (by kernel_rfl) ?_
 refine z ?_
 refine yQ rfl (fun c2 => ?_) fun c2 => ?_
 ·iterate 10 refine z ?_
  rw [a1b, a7B (k := k) (by omega) (by have h : b0R r k = true := c2; rw [b6F] at h; simpa using h)]; rfl
 ·iterate 3 refine z ?_
  refine a0n ?_
  iterate 4 refine z ?_
  refine ⟨k + 1, ?_, ?_, a0e ⟨rfl, rfl, trivial⟩ ⟨rfl, trivial⟩ trivial rfl⟩
  ·exact ⟨by omega, a4w hall (by have h : b0R r k = false := c2; rw [b6F] at h; simpa using h)⟩
  ·omega
 ·have d1 := of_decide_eq_false c1
 iterate 14 refine z ?_
 obtain rfl : k = r.length := by omega
 rw [a1b, hall]; rfl
def a0V {α : Type} (w : α → Nat) (xs : List α) : Nat := (xs.map w).sum
def a2e {α : Type} (w : α → Nat) (xs : List α) : Nat := xs.length + a0V w xs
theorem b7e {α : Type} (w : α → Nat) (xs ys : List α) : a0V w (xs ++ ys) = a0V w xs + a0V w ys := by simp [a0V]
theorem c7w {α : Type} (w : α → Nat) (xs : List α) (k : Nat) : a0V w (xs.take k) ≤ a0V w xs := by
 have h := b7e w (xs.take k) (xs.drop k)
 rw [List.take_append_drop] at h
 omega
theorem a5C {α : Type} [Inhabited α] (w : α → Nat) (xs : List α) (k : Nat) (h : k < xs.length) : a0V w (xs.take (k + 1)) = a0V w (xs.take k) + w (xs.getD (k : Int).toNat default) ∧ a0V w (xs.take (k + 1)) ≤ a0V w xs := by
 refine ⟨?_, c7w w xs _⟩
 have : xs.take (k + 1) = xs.take k ++ [xs.getD k default] := by
 rw [List.take_add_one, List.getElem?_eq_getElem h]; simp [List.getD, List.getElem?_eq_getElem h]
 rw [this, b7e]
 simp [a0V]
theorem b5w {α : Type} (w : α → Nat) (xs : List α) (k : Nat) (h : xs.length ≤ k) : a0V w (xs.take k) = a0V w xs := by rw [List.take_of_length_le h]
def c5o (x : a0L) : Nat := (x.2.2).size
def a5K (x : a4R) : Nat := (x.1).size
def a7L (x : a0v) : Nat := a2e a5K (x)
def a1Q (x : a0U) : Nat := c5o (x.1) + a7L (x.2)
def a1g (x : a0G) : Nat := (x.1).size + a2e a1Q (x.2.1)
def a2Y (x : a3T) : Nat := (x.1).size + (x.2).size
def a1h (x : DbT) : Nat := (x.1).size + a2e a1g (x.2.2.1) + a2e a2Y (x.2.2.2)
def a2X (x : a3q) : Nat := a1h (x.1) + (x.2.1).length
def a1s (o : OpT) : Bool := (decide (1 ≤ o.1) && decide (o.1 ≤ 6)) && a2g o.2.1 && (decide (o.1 = 5) || a0Z o.2.2.1) && a1b o.2.2.2.1 && ((decide (o.1 = 6) && a2g o.2.2.2.2) || (!decide (o.1 = 6) && sEq o.2.2.2.2 (ByteArray.mk #[])))
theorem c3Q {α : Type} {p : α → Bool} {l : List α} {k : Nat} {d : α} (h : (l.take k).any p = false) (hk : k < l.length) (hp : p (l.getD k d) = false) : (l.take (k + 1)).any p = false := by
 rw [List.take_succ_eq_append_getElem hk, List.any_append, h]
 simp only [List.any_cons, List.any_nil, Bool.or_false, Bool.false_or]
 simpa [List.getD, List.getElem?_eq_getElem hk] using hp
theorem c8P {α : Type} {p : α → Bool} {l : List α} {k : Nat} {d : α} (hk : k < l.length) (hp : p (l.getD k d) = true) : l.any p = true := by
 rw [List.any_eq_true]
 exact ⟨l[k], List.getElem_mem hk, by simpa [List.getD, List.getElem?_eq_getElem hk] using hp⟩
theorem b4Y {x : OpT}  : PFn Tryz.prog 78 [.agg [(.dv [] (.int .i64 (x.1))), (.dv [] (.str (x.2.1))), (.dv [] (.int .i64 (x.2.2.1.1))), (.dv [] (.int .i64 (x.2.2.1.2.1))), (.dv [] (.str (x.2.2.1.2.2))), (.dv [] (a0J (x.2.2.2.1))), (.dv [] (.str (x.2.2.2.2)))]] (.one (.dv [] (.bool (a1s x)))) := by
 refine ⟨a0Q Tryz.func78 rfl Tryz.ntmps78 Tryz.results78 rfl (fun C => ?_)⟩
 refine yF 0 0 rfl rfl fun f0_0 => ?_
 refine yF 0 1 rfl rfl fun f0_1 => ?_
 refine yF 0 2 rfl rfl fun f0_2 => ?_
 refine yF 0 3 rfl rfl fun f0_3 => ?_
 refine yF 0 4 rfl rfl fun f0_4 => ?_
 refine yF 0 5 rfl rfl fun f0_5 => ?_
 refine yF 0 6 rfl rfl fun f0_6 => ?_
 iterate 8 refine z ?_
 refine zC Tryz.call73 ?_ (hf := a6w)
 iterate 4 refine z ?_
 refine a1P (a1t rfl rfl rfl rfl rfl) rfl rfl Tryz.call72 a7W (fun hg => (a0g (a0z rfl hg) (a0D a0c) a0q)) rfl rfl ?_
 iterate 9 refine z ?_
 refine a1P (a3W rfl rfl rfl rfl rfl) rfl rfl Tryz.call80 a5P (fun hg => (a0g (a0z rfl hg) (a0u (a0d a0c (a0d a0c (a0d a0c a0t)))) a0q)) rfl rfl ?_
 iterate 6 refine z ?_
 refine a1P (a1t rfl rfl rfl rfl rfl) rfl rfl Tryz.call81 a7i (fun hg => (a0g (a0z rfl hg) (a0u (a0d a0c a0t)) a0q)) rfl rfl ?_
 iterate 3 refine z ?_
 refine yQ rfl (fun c1 => ?_) fun c1 => ?_
 ·iterate 6 refine z ?_
 grind [a1s]
 ·iterate 8 refine z ?_
 refine yQ rfl (fun c2 => ?_) fun c2 => ?_
 ·have d2 := of_decide_eq_true c2
  iterate 3 refine z ?_
  refine zC Tryz.call72 ?_ (hf := a7W)
  iterate 5 refine z ?_
  grind [a1s]
 ·have d2 := of_decide_eq_false c2
  iterate 10 refine z ?_
  grind [a1s]
theorem c3H {x : OpT}  : PFn Tryz.prog 55 [.agg [(.dv [] (.int .i64 (x.1))), (.dv [] (.str (x.2.1))), (.dv [] (.int .i64 (x.2.2.1.1))), (.dv [] (.int .i64 (x.2.2.1.2.1))), (.dv [] (.str (x.2.2.1.2.2))), (.dv [] (a0J (x.2.2.2.1))), (.dv [] (.str (x.2.2.2.2)))]] (.one (.dv [] (.bool (a1s x)))) := by
 refine ⟨a0Q Tryz.func55 rfl Tryz.ntmps55 Tryz.results55 rfl (fun C => ?_)⟩
 refine yF 0 0 rfl rfl fun f0_0 => ?_
 refine yF 0 1 rfl rfl fun f0_1 => ?_
 refine yF 0 2 rfl rfl fun f0_2 => ?_
 refine yF 0 3 rfl rfl fun f0_3 => ?_
 refine yF 0 4 rfl rfl fun f0_4 => ?_
 refine yF 0 5 rfl rfl fun f0_5 => ?_
 refine yF 0 6 rfl rfl fun f0_6 => ?_
 iterate 7 refine z ?_
 refine zC Tryz.call54 ?_ (hf := a6Y)
 iterate 3 refine z ?_
 refine a1P (a1t rfl rfl rfl rfl rfl) rfl rfl Tryz.call52 a8j (fun hg => (a0g (a0z rfl hg) (a0D a0c) a0q)) rfl rfl ?_
 iterate 8 refine z ?_
 refine a1P (a3W rfl rfl rfl rfl rfl) rfl rfl Tryz.call85 a7b (fun hg => (a0g (a0z rfl hg) (a0u (a0d a0c (a0d a0c (a0d a0c a0t)))) a0q)) rfl rfl ?_
 iterate 5 refine z ?_
 refine a1P (a1t rfl rfl rfl rfl rfl) rfl rfl Tryz.call86 a7j (fun hg => (a0g (a0z rfl hg) (a0u (a0d a0c a0t)) a0q)) rfl rfl ?_
 iterate 8 refine z ?_
 refine a1P (a3W rfl rfl rfl rfl rfl) rfl rfl Tryz.call52 a8j (fun hg => (a0g (a0z rfl hg) (a0D a0c) a0q)) rfl rfl ?_
 iterate 16 refine z ?_
 grind [a1s]
def eqL {α : Type} [Inhabited α] (p : α → α → Bool) (xs ys : List α) : Bool := decide ((xs.length : Int) = (ys.length : Int)) && (List.range xs.length).all (fun i => p (xs.getD (i : Int).toNat default) (ys.getD (i : Int).toNat default))
theorem b5z {α : Type} [Inhabited α] {p : α → α → Bool} {xs ys : List α} (h : ¬ (xs.length : Int) = (ys.length : Int)) : eqL p xs ys = false := by simp only [eqL, decide_eq_false h, Bool.false_and]
theorem a9M {α : Type} [Inhabited α] {p : α → α → Bool} {xs ys : List α} {k : Nat} (hk : k < xs.length) (h : p (xs.getD (k : Int).toNat default) (ys.getD (k : Int).toNat default) = false) : eqL p xs ys = false := by
 unfold eqL
 rw [a7B (p := fun i => p (xs.getD (i : Int).toNat default) (ys.getD (i : Int).toNat default)) hk h, Bool.and_false]
theorem a8U {α : Type} [Inhabited α] {p : α → α → Bool} {xs ys : List α} {k : Nat} (hl : (xs.length : Int) = (ys.length : Int)) (h : (List.range k).all (fun i => p (xs.getD (i : Int).toNat default) (ys.getD (i : Int).toNat default)) = true) (hk : k = xs.length) : eqL p xs ys = true := by
 subst hk
 unfold eqL
 rw [h, decide_eq_true hl]; rfl
def a7v (f g : a4R) : Bool := sEq f.1 g.1 && decide (f.2 = g.2)
def b2f (r s : a0v) : Bool := eqL a7v r s
def a9r (k l : a0L) : Bool := decide (k.1 = l.1) && (decide (k.2.1 = l.2.1) && sEq k.2.2 l.2.2)
def a6W (x y : a0U) : Bool := a9r x.1 y.1 && b2f x.2 y.2
def a5g (s t : a0G) : Bool := (sEq s.1 t.1 && decide (s.2.2 = t.2.2)) && eqL a6W s.2.1 t.2.1
def a1W (d e : a3T) : Bool := sEq d.1 e.1 && sEq d.2 e.2
def a5y (d e : DbT) : Bool := ((sEq d.1 e.1 && decide (d.2.1 = e.2.1)) && eqL a5g d.2.2.1 e.2.2.1) && eqL a1W d.2.2.2 e.2.2.2
def a4b (b c : UInt8) : Bool := decide ((b.toNat : Int) = (c.toNat : Int))
theorem c5I {x y : List (a4R)}  : PFn Tryz.prog 63 [.agg [(.dv [] (a0J (x)))], .agg [(.dv [] (a0J (y)))]] (.one (.dv [] (.bool (eqL a7v x y)))) := by
 refine ⟨a0Q Tryz.func63 rfl Tryz.ntmps63 Tryz.results63 rfl (fun C => ?_)⟩
 refine yF 0 0 rfl rfl fun f0_0 => ?_
 refine yF 1 0 rfl rfl fun f1_0 => ?_
 iterate 15 refine z ?_
 refine yQ rfl (fun c1 => ?_) fun c1 => ?_
 ·have d1 := a6g c1
 iterate 6 refine z ?_
 exact (b5z d1).symm
 ·have d1 := a6e c1
 iterate 7 refine z ?_
 refine a1l (ι := Nat) (fun zz => ⟨[(2, .box 2 0), (3, .box 3 0), (5, .one (.dv [] (.int .i64 ((zz : Int)))))], [(2, 63, [(.dv [] (a0J (x)))]), (3, 63, [(.dv [] (a0J (y)))])], []⟩) (fun zz => zz ≤ x.length ∧ (List.range zz).all (fun i => a7v (x.getD (i : Int).toNat default) (y.getD (i : Int).toNat default)) = true) (fun zz => x.length - zz) (0) ?_ (a0e ⟨rfl, rfl, rfl, trivial⟩ ⟨rfl, rfl, trivial⟩ trivial rfl) (fun zz hx => ?_)
 ·exact ⟨Nat.zero_le _, rfl⟩
 obtain ⟨k, rfl⟩ : ∃ v, v = zz := ⟨_, rfl⟩
 replace hx : k ≤ x.length ∧ (List.range k).all (fun i => a7v (x.getD (i : Int).toNat default) (y.getD (i : Int).toNat default)) = true := hx
 obtain ⟨hk, hall⟩ := hx
 show Ok _ _ _ _ _ (⟨[(2, .box 2 0), (3, .box 3 0), (5, .one (.dv [] (.int .i64 ((k : Int)))))], [(2, 63, [(.dv [] (a0J (x)))]), (3, 63, [(.dv [] (a0J (y)))])], []⟩ : St)
 iterate 8 refine z ?_
 refine yQ rfl (fun c2 => ?_) fun c2 => ?_
 ·have d2 := of_decide_eq_true c2
  iterate 4 refine z ?_
  refine a0s ?_
  refine a1N (oB := [2, 3]) (oK := []) (by kernel_rfl) rfl rfl ?_
  refine zD 0 ?_
  refine zD 1 ?_
  refine zD 2 ?_
  refine zD 3 ?_
  refine zD 4 ?_
  refine zD 5 ?_
  refine zD 6 ?_
  refine zD 7 ?_
  refine zD 8 ?_
  refine zD 9 ?_
  refine a1q 10 rfl (by kernel_rfl) rfl rfl (a7M rfl (a0a rfl) (a0a rfl) rfl rfl Tryz.eqGuardType135 (c6j _ _ _ _)) rfl rfl rfl rfl ?_
  refine a1S (by kernel_rfl) ?_
  refine z ?_
  refine yQ rfl (fun c3 => ?_) fun c3 => ?_
  ·iterate 10 refine z ?_
  exact (a9M (k := k) (by omega) (by have h := c3; grind [a7v])).symm
  ·iterate 3 refine z ?_
  refine a0n ?_
  iterate 4 refine z ?_
  refine ⟨k + 1, ?_, ?_, a0e ⟨rfl, rfl, rfl, trivial⟩ ⟨rfl, rfl, trivial⟩ trivial rfl⟩
  ·exact ⟨by omega, a4w hall (by have h := c3; grind [a7v])⟩
  ·omega
 ·have d2 := of_decide_eq_false c2
  iterate 10 refine z ?_
  exact (a8U d1 hall (by omega)).symm
def a0r {α : Type} (p : α → Bool) : List α → Int → Int
 | [], _ => -1
 | x :: xs, i => if p x then i else a0r p xs (i + 1)
theorem b3V {α : Type} {p : α → Bool} : ∀ {xs : List α} {k : Nat} {i : Int}, (xs.take k).any p = false → k ≤ xs.length → a0r p xs i = a0r p (xs.drop k) (i + k)
 | xs, 0, i, _, _ => by simp
 | [], k + 1, i, _, hk => by simp at hk
 | x :: xs, k + 1, i, h, hk => by
 simp only [List.take_succ_cons, List.any_cons, Bool.or_eq_false_iff] at h
 rw [a0r, h.1, List.drop_succ_cons]
 simp only [Bool.false_eq_true, if_false]
 rw [b3V h.2 (by simpa using hk)]
 congr 1; omega
theorem a5T {α : Type} {p : α → Bool} {xs : List α} {k : Nat} {d : α} (h : (xs.take k).any p = false) (hk : k < xs.length) (hp : p (xs.getD k d) = true) : a0r p xs 0 = (k : Int) := by
 rw [b3V h (by omega), List.drop_eq_getElem_cons hk, a0r]
 have : p xs[k] = true := by simpa [List.getD, List.getElem?_eq_getElem hk] using hp
 rw [if_pos this]; omega
theorem a6i {α : Type} {p : α → Bool} {xs : List α} {k : Nat} (h : (xs.take k).any p = false) (hk : k = xs.length) : a0r p xs 0 = -1 := by
 rw [b3V h (by omega), hk, List.drop_length]; rfl
theorem a5X {α : Type} {p : α → Bool} {l : List α} {k : Nat} {d : α} (h : (l.take k).any p = false) (hk : k < l.length) (hp : p (l.getD k d) = false) : (l.take (k + 1)).any p = false := by
 rw [List.take_succ_eq_append_getElem hk, List.any_append, h]
 simp only [List.any_cons, List.any_nil, Bool.or_false, Bool.false_or]
 simpa [List.getD, List.getElem?_eq_getElem hk] using hp
def a0E (n : Str) (s : a0G) : Bool := sEq s.1 n
theorem c2L {x : a0G} {n : Str}  : PFn Tryz.prog 102 [.agg [(.dv [] (.str (x.1))), (.dv [] (a0x (x.2.1))), (.dv [] (.int .i64 (x.2.2)))], .ref [] [.str (n)]] (.one (.dv [] (.bool (a0E n x)))) := by
 refine ⟨a0Q Tryz.func102 rfl Tryz.ntmps102 Tryz.results102 rfl (fun C => ?_)⟩
 refine yF 0 0 rfl rfl fun f0_0 => ?_
 refine yF 0 1 rfl rfl fun f0_1 => ?_
 refine yF 0 2 rfl rfl fun f0_2 => ?_
 iterate 13 refine z ?_
 rfl
theorem c5p {x : List a0G} {n : Str}  : PFn Tryz.prog 101 [.one (.dv [] (a0y (x))), .fn 102 [[.str (n)]]] (.one (.dv [] (.int .i64 (a0r (a0E n) x 0)))) := by
 refine ⟨a0Q Tryz.func101 rfl Tryz.ntmps101 Tryz.results101 rfl (fun C => ?_)⟩
 refine a1k (x := .tmp 0) (a0a rfl) fun f0 => ?_
 iterate 10 refine z ?_
 refine a1l (ι := Nat) (fun zz => ⟨[(0, .one (.dv [] (a0y (x)))), (1, .fn 102 [[.str (n)]]), (7, .one (.dv [] (.int .i64 ((((x)).length : Int))))), (8, .one (.dv [] (.int .i64 ((zz : Int)))))], [], []⟩) (fun zz => zz ≤ x.length ∧ (x.take zz).any (a0E n) = false) (fun zz => x.length - zz) (0) ?_ (a0e ⟨rfl, rfl, rfl, rfl, trivial⟩ trivial trivial rfl) (fun zz hx => ?_)
 ·exact ⟨Nat.zero_le _, rfl⟩
 obtain ⟨k, rfl⟩ : ∃ v, v = zz := ⟨_, rfl⟩
 replace hx : k ≤ x.length ∧ (x.take k).any (a0E n) = false := hx
 obtain ⟨hk, hall⟩ := hx
 show Ok _ _ _ _ _ (⟨[(0, .one (.dv [] (a0y (x)))), (1, .fn 102 [[.str (n)]]), (7, .one (.dv [] (.int .i64 ((((x)).length : Int))))), (8, .one (.dv [] (.int .i64 ((k : Int)))))], [], []⟩ : St)
 iterate 3 refine z ?_
 refine a0s ?_
 refine yQ rfl (fun c1 => ?_) fun c1 => ?_
 ·have d1 := of_decide_eq_true c1
 iterate 14 refine z ?_
 refine a9C rfl rfl rfl (a0a rfl) Tryz.call102 c2L (a0g (a0a rfl) (a0u (a0d a0c (a0d a0c (a0d a0c a0t)))) a0q) rfl rfl ?_
 refine z ?_
 refine yQ rfl (fun c2 => ?_) fun c2 => ?_
 ·iterate 11 refine z ?_
  exact (a5T (p := a0E n) (d := default) hall (by omega) c2).symm
 ·iterate 3 refine z ?_
  refine a0n ?_
  iterate 3 refine z ?_
  refine ⟨k + 1, ?_, ?_, a0e ⟨rfl, rfl, rfl, rfl, trivial⟩ trivial trivial rfl⟩
  ·exact ⟨by omega, a5X (d := default) hall (by omega) c2⟩
  ·omega
 ·have d1 := of_decide_eq_false c1
 iterate 10 refine z ?_
 exact (a6i (p := a0E n) hall (by omega)).symm
theorem b4y {x : DbT} {n : Str}  : PFn Tryz.prog 75 [.agg [(.dv [] (.str (x.1))), (.dv [] (.int .i64 (x.2.1))), (.dv [] (a0y (x.2.2.1))), (.dv [] (a0A (x.2.2.2)))], .one (.dv [] (.str (n)))] (.one (.dv [] (.int .i64 (a0r (a0E n) x.2.2.1 0)))) := by
 refine ⟨a0Q Tryz.func75 rfl Tryz.ntmps75 Tryz.results75 rfl (fun C => ?_)⟩
 refine yF 0 0 rfl rfl fun f0_0 => ?_
 refine yF 0 1 rfl rfl fun f0_1 => ?_
 refine yF 0 2 rfl rfl fun f0_2 => ?_
 refine yF 0 3 rfl rfl fun f0_3 => ?_
 refine a1k (x := .tmp 1) (a0a rfl) fun f1 => ?_
 iterate 8 refine z ?_
 refine yO rfl rfl (b1d rfl (a0a rfl)) rfl ?_
 refine a3S rfl rfl rfl Tryz.call101 c5p (a0g (a0a rfl) (a0D a0c) (a0g (a0a rfl) (b4P (b2o rfl rfl b1t)) a0q)) rfl rfl ?_
 iterate 4 refine z ?_
 rfl
theorem b4V {x : DbT} {n : Str}  : PFn Tryz.prog 51 [.agg [(.dv [] (.str (x.1))), (.dv [] (.int .i64 (x.2.1))), (.dv [] (a0y (x.2.2.1))), (.dv [] (a0A (x.2.2.2)))], .one (.dv [] (.str (n)))] (.one (.dv [] (.int .i64 (a0r (a0E n) x.2.2.1 0)))) := by
 refine ⟨a0Q Tryz.func51 rfl Tryz.ntmps51 Tryz.results51 rfl (fun C => ?_)⟩
 refine yF 0 0 rfl rfl fun f0_0 => ?_
 refine yF 0 1 rfl rfl fun f0_1 => ?_
 refine yF 0 2 rfl rfl fun f0_2 => ?_
 refine yF 0 3 rfl rfl fun f0_3 => ?_
 refine a1k (x := .tmp 1) (a0a rfl) fun f1 => ?_
 iterate 9 refine z ?_
 refine a1l (ι := Nat) (fun zz => ⟨[(1, .one (.dv [] (.str (n)))), (2, .box 2 0), (5, .one (.dv [] (.int .i64 ((zz : Int)))))], [(2, 27, [(.dv [] (.str (x.1))), (.dv [] (.int .i64 (x.2.1))), (.dv [] (a0y (x.2.2.1))), (.dv [] (a0A (x.2.2.2)))])], []⟩) (fun zz => zz ≤ x.2.2.1.length ∧ (x.2.2.1.take zz).any (a0E n) = false) (fun zz => x.2.2.1.length - zz) (0) ?_ (a0e ⟨rfl, rfl, rfl, trivial⟩ ⟨rfl, trivial⟩ trivial rfl) (fun zz hx => ?_)
 ·exact ⟨Nat.zero_le _, rfl⟩
 obtain ⟨k, rfl⟩ : ∃ v, v = zz := ⟨_, rfl⟩
 replace hx : k ≤ x.2.2.1.length ∧ (x.2.2.1.take k).any (a0E n) = false := hx
 obtain ⟨hk, hall⟩ := hx
 show Ok _ _ _ _ _ (⟨[(1, .one (.dv [] (.str (n)))), (2, .box 2 0), (5, .one (.dv [] (.int .i64 ((k : Int)))))], [(2, 27, [(.dv [] (.str (x.1))), (.dv [] (.int .i64 (x.2.1))), (.dv [] (a0y (x.2.2.1))), (.dv [] (a0A (x.2.2.2)))])], []⟩ : St)
 iterate 8 refine z ?_
 refine yQ rfl (fun c1 => ?_) fun c1 => ?_
 ·have d1 := of_decide_eq_true c1
 iterate 14 refine z ?_
 refine yQ rfl (fun c2 => ?_) fun c2 => ?_
 ·iterate 11 refine z ?_
  exact (a5T (p := a0E n) (d := default) hall (by omega) c2).symm
 ·iterate 3 refine z ?_
  refine a0n ?_
  iterate 4 refine z ?_
  refine ⟨k + 1, ?_, ?_, a0e ⟨rfl, rfl, rfl, trivial⟩ ⟨rfl, trivial⟩ trivial rfl⟩
  ·exact ⟨by omega, a5X (d := default) hall (by omega) c2⟩
  ·omega
 ·have d1 := of_decide_eq_false c1
 iterate 10 refine z ?_
 exact (a6i (p := a0E n) hall (by omega)).symm
theorem c7I {x y : a0G}  : PFn Tryz.prog 32 [.agg [(.dv [] (.str (x.1))), (.dv [] (a0x (x.2.1))), (.dv [] (.int .i64 (x.2.2)))], .agg [(.dv [] (.str (y.1))), (.dv [] (a0x (y.2.1))), (.dv [] (.int .i64 (y.2.2)))]] (.one (.dv [] (.bool (a5g x y)))) := by
 refine ⟨a0Q Tryz.func32 rfl Tryz.ntmps32 Tryz.results32 rfl (fun C => ?_)⟩
 refine yF 0 0 rfl rfl fun f0_0 => ?_
 refine yF 0 1 rfl rfl fun f0_1 => ?_
 refine yF 0 2 rfl rfl fun f0_2 => ?_
 refine yF 1 0 rfl rfl fun f1_0 => ?_
 refine yF 1 1 rfl rfl fun f1_1 => ?_
 refine yF 1 2 rfl rfl fun f1_2 => ?_
 iterate 29 refine z ?_
 refine yQ rfl (fun c1 => ?_) fun c1 => ?_
 ·iterate 6 refine z ?_
 have h := c1; grind [a5g, eqL]
 ·have e1 : (x.2.1.length : Int) = (y.2.1.length : Int) := by grind
 iterate 7 refine z ?_
 refine a1l (ι := Nat) (fun zz => ⟨[(2, .box 2 0), (3, .box 3 0), (5, .one (.dv [] (.int .i64 ((zz : Int)))))], [(2, 77, [(.dv [] (.str (x.1))), (.dv [] (a0x (x.2.1))), (.dv [] (.int .i64 (x.2.2)))]), (3, 77, [(.dv [] (.str (y.1))), (.dv [] (a0x (y.2.1))), (.dv [] (.int .i64 (y.2.2)))])], []⟩) (fun zz => zz ≤ x.2.1.length ∧ (List.range zz).all (fun i => a6W (x.2.1.getD (i : Int).toNat default) (y.2.1.getD (i : Int).toNat default)) = true) (fun zz => x.2.1.length - zz) (0) ?_ (a0e ⟨rfl, rfl, rfl, trivial⟩ ⟨rfl, rfl, trivial⟩ trivial rfl) (fun zz hx => ?_)
 ·exact ⟨Nat.zero_le _, rfl⟩
 obtain ⟨k, rfl⟩ : ∃ v, v = zz := ⟨_, rfl⟩
 replace hx : k ≤ x.2.1.length ∧ (List.range k).all (fun i => a6W (x.2.1.getD (i : Int).toNat default) (y.2.1.getD (i : Int).toNat default)) = true := hx
 obtain ⟨hk, hall⟩ := hx
 show Ok _ _ _ _ _ (⟨[(2, .box 2 0), (3, .box 3 0), (5, .one (.dv [] (.int .i64 ((k : Int)))))], [(2, 77, [(.dv [] (.str (x.1))), (.dv [] (a0x (x.2.1))), (.dv [] (.int .i64 (x.2.2)))]), (3, 77, [(.dv [] (.str (y.1))), (.dv [] (a0x (y.2.1))), (.dv [] (.int .i64 (y.2.2)))])], []⟩ : St)
 iterate 8 refine z ?_
 refine yQ rfl (fun c2 => ?_) fun c2 => ?_
 ·have d2 := of_decide_eq_true c2
  iterate 4 refine z ?_
  refine a0s ?_
  refine a1N (oB := [2, 3]) (oK := []) (by kernel_rfl) rfl rfl ?_
  refine zD 0 ?_
  refine zD 1 ?_
  refine zD 2 ?_
  refine zD 3 ?_
  refine zD 4 ?_
  refine zD 5 ?_
  refine zD 6 ?_
  refine zD 7 ?_
  refine zD 8 ?_
  refine zD 9 ?_
  refine zD 10 ?_
  refine zD 11 ?_
  refine a1q 12 rfl (by kernel_rfl) rfl rfl (a7M rfl (a0a rfl) (a0a rfl) rfl rfl Tryz.eqGuardType60 (c7Z _ _ _ _ _ _)) rfl rfl rfl rfl ?_
  refine zD 13 ?_
  refine zDG 14 ?_
  refine zDG 15 ?_
  refine zDG 16 ?_
  refine zDG 17 ?_
  refine zDG 18 ?_
  refine zDG 19 ?_
  refine zDG 20 ?_
  refine zDG 21 ?_
  refine zDG 22 ?_
  refine zDG 23 ?_
  refine zDG 24 ?_
  refine zDG 25 ?_
  refine a3Q 26 rfl (by kernel_rfl) (a1t rfl rfl rfl rfl rfl) rfl rfl Tryz.call63 c5I (fun hg => (a0g (a0z rfl hg) (a0u (a0d a0c a0t)) (a0g (a0z rfl hg) (a0u (a0d a0c a0t)) a0q))) rfl rfl ?_
  refine zDG 27 ?_
  refine zD 28 ?_
  refine a1S (by kernel_rfl) ?_
  refine z ?_
  refine yQ rfl (fun c3 => ?_) fun c3 => ?_
  ·iterate 10 refine z ?_
  rw [a5g, a9M (k := k) (by omega) (by have h := c3; clear hall; grind [a6W, a9r, b2f]), Bool.and_false]
  ·iterate 3 refine z ?_
  refine a0n ?_
  iterate 4 refine z ?_
  refine ⟨k + 1, ?_, ?_, a0e ⟨rfl, rfl, rfl, trivial⟩ ⟨rfl, rfl, trivial⟩ trivial rfl⟩
  ·exact ⟨by omega, a4w hall (by have h := c3; clear hall; grind [a6W, a9r, b2f])⟩
  ·omega
 ·have d2 := of_decide_eq_false c2
  iterate 10 refine z ?_
  have h2 := a8U (p := a6W) (k := k) e1 hall (by omega); have h := c1; clear hall; grind [a5g]
theorem b4Q {x y : DbT}  : PFn Tryz.prog 12 [.agg [(.dv [] (.str (x.1))), (.dv [] (.int .i64 (x.2.1))), (.dv [] (a0y (x.2.2.1))), (.dv [] (a0A (x.2.2.2)))], .agg [(.dv [] (.str (y.1))), (.dv [] (.int .i64 (y.2.1))), (.dv [] (a0y (y.2.2.1))), (.dv [] (a0A (y.2.2.2)))]] (.one (.dv [] (.bool (a5y x y)))) := by
 refine ⟨a0Q Tryz.func12 rfl Tryz.ntmps12 Tryz.results12 rfl (fun C => ?_)⟩
 refine yF 0 0 rfl rfl fun f0_0 => ?_
 refine yF 0 1 rfl rfl fun f0_1 => ?_
 refine yF 0 2 rfl rfl fun f0_2 => ?_
 refine yF 0 3 rfl rfl fun f0_3 => ?_
 refine yF 1 0 rfl rfl fun f1_0 => ?_
 refine yF 1 1 rfl rfl fun f1_1 => ?_
 refine yF 1 2 rfl rfl fun f1_2 => ?_
 refine yF 1 3 rfl rfl fun f1_3 => ?_
 iterate 38 refine z ?_
 refine yQ rfl (fun c1 => ?_) fun c1 => ?_
 ·iterate 6 refine z ?_
 have h := c1; grind [a5y, eqL]
 ·have e1 : (x.2.2.1.length : Int) = (y.2.2.1.length : Int) := by grind
 have e2 : (x.2.2.2.length : Int) = (y.2.2.2.length : Int) := by grind
 iterate 7 refine z ?_
 refine a1l (ι := Nat) (fun zz => ⟨[(2, .box 2 0), (3, .box 3 0), (5, .one (.dv [] (.int .i64 ((zz : Int)))))], [(2, 27, [(.dv [] (.str (x.1))), (.dv [] (.int .i64 (x.2.1))), (.dv [] (a0y (x.2.2.1))), (.dv [] (a0A (x.2.2.2)))]), (3, 27, [(.dv [] (.str (y.1))), (.dv [] (.int .i64 (y.2.1))), (.dv [] (a0y (y.2.2.1))), (.dv [] (a0A (y.2.2.2)))])], []⟩) (fun zz => zz ≤ x.2.2.1.length ∧ (List.range zz).all (fun i => a5g (x.2.2.1.getD (i : Int).toNat default) (y.2.2.1.getD (i : Int).toNat default)) = true) (fun zz => x.2.2.1.length - zz) (0) ?_ (a0e ⟨rfl, rfl, rfl, trivial⟩ ⟨rfl, rfl, trivial⟩ trivial rfl) (fun zz hx => ?_)
 ·exact ⟨Nat.zero_le _, rfl⟩
 obtain ⟨k, rfl⟩ : ∃ v, v = zz := ⟨_, rfl⟩
 replace hx : k ≤ x.2.2.1.length ∧ (List.range k).all (fun i => a5g (x.2.2.1.getD (i : Int).toNat default) (y.2.2.1.getD (i : Int).toNat default)) = true := hx
 obtain ⟨hk, hall⟩ := hx
 show Ok _ _ _ _ _ (⟨[(2, .box 2 0), (3, .box 3 0), (5, .one (.dv [] (.int .i64 ((k : Int)))))], [(2, 27, [(.dv [] (.str (x.1))), (.dv [] (.int .i64 (x.2.1))), (.dv [] (a0y (x.2.2.1))), (.dv [] (a0A (x.2.2.2)))]), (3, 27, [(.dv [] (.str (y.1))), (.dv [] (.int .i64 (y.2.1))), (.dv [] (a0y (y.2.2.1))), (.dv [] (a0A (y.2.2.2)))])], []⟩ : St)
 iterate 8 refine z ?_
 refine yQ rfl (fun c2 => ?_) fun c2 => ?_
 ·have d2 := of_decide_eq_true c2
  iterate 4 refine z ?_
  refine a0s ?_
  refine a1N (oB := [2, 3]) (oK := []) (by kernel_rfl) rfl rfl ?_
  refine zD 0 ?_
  refine zD 1 ?_
  refine zD 2 ?_
  refine zD 3 ?_
  refine zD 4 ?_
  refine zD 5 ?_
  refine zD 6 ?_
  refine zD 7 ?_
  refine zD 8 ?_
  refine zD 9 ?_
  refine a5A 10 rfl (by kernel_rfl) rfl rfl rfl Tryz.call32 c7I (a0g (a0a rfl) (a0u (a0d a0c (a0d a0c (a0d a0c a0t)))) (a0g (a0a rfl) (a0u (a0d a0c (a0d a0c (a0d a0c a0t)))) a0q)) rfl rfl rfl rfl ?_
  refine zD 11 ?_
  refine a1S (by kernel_rfl) ?_
  refine z ?_
  refine yQ rfl (fun c3 => ?_) fun c3 => ?_
  ·iterate 10 refine z ?_
  rw [a5y, a9M (p := a5g) (k := k) (by omega) (by have h := c3; simpa using h), Bool.and_false, Bool.false_and]
  ·iterate 3 refine z ?_
  refine a0n ?_
  iterate 4 refine z ?_
  refine ⟨k + 1, ?_, ?_, a0e ⟨rfl, rfl, rfl, trivial⟩ ⟨rfl, rfl, trivial⟩ trivial rfl⟩
  ·exact ⟨by omega, a4w hall (by have h := c3; simpa using h)⟩
  ·omega
 ·have d2 := of_decide_eq_false c2
  iterate 10 refine z ?_
  refine a1l (ι := Nat) (fun zz => ⟨[(2, .box 2 0), (3, .box 3 0), (6, .one (.dv [] (.int .i64 ((zz : Int)))))], [(2, 27, [(.dv [] (.str (x.1))), (.dv [] (.int .i64 (x.2.1))), (.dv [] (a0y (x.2.2.1))), (.dv [] (a0A (x.2.2.2)))]), (3, 27, [(.dv [] (.str (y.1))), (.dv [] (.int .i64 (y.2.1))), (.dv [] (a0y (y.2.2.1))), (.dv [] (a0A (y.2.2.2)))])], []⟩) (fun zz => zz ≤ x.2.2.2.length ∧ (List.range zz).all (fun i => a1W (x.2.2.2.getD (i : Int).toNat default) (y.2.2.2.getD (i : Int).toNat default)) = true) (fun zz => x.2.2.2.length - zz) (0) ?_ (a0e ⟨rfl, rfl, rfl, trivial⟩ ⟨rfl, rfl, trivial⟩ trivial rfl) (fun zz hx => ?_)
  ·exact ⟨Nat.zero_le _, rfl⟩
  obtain ⟨k2, rfl⟩ : ∃ v, v = zz := ⟨_, rfl⟩
  replace hx : k2 ≤ x.2.2.2.length ∧ (List.range k2).all (fun i => a1W (x.2.2.2.getD (i : Int).toNat default) (y.2.2.2.getD (i : Int).toNat default)) = true := hx
  obtain ⟨hk2, hall2⟩ := hx
  show Ok _ _ _ _ _ (⟨[(2, .box 2 0), (3, .box 3 0), (6, .one (.dv [] (.int .i64 ((k2 : Int)))))], [(2, 27, [(.dv [] (.str (x.1))), (.dv [] (.int .i64 (x.2.1))), (.dv [] (a0y (x.2.2.1))), (.dv [] (a0A (x.2.2.2)))]), (3, 27, [(.dv [] (.str (y.1))), (.dv [] (.int .i64 (y.2.1))), (.dv [] (a0y (y.2.2.1))), (.dv [] (a0A (y.2.2.2)))])], []⟩ : St)
  iterate 8 refine z ?_
  refine yQ rfl (fun c4 => ?_) fun c4 => ?_
  ·have d4 := of_decide_eq_true c4
  iterate 4 refine z ?_
  refine a0s ?_
  refine a1N (oB := [2, 3]) (oK := []) (by kernel_rfl) rfl rfl ?_
  refine zD 0 ?_
  refine zD 1 ?_
  refine zD 2 ?_
  refine zD 3 ?_
  refine zD 4 ?_
  refine zD 5 ?_
  refine zD 6 ?_
  refine zD 7 ?_
  refine zD 8 ?_
  refine zD 9 ?_
  refine a1q 10 rfl (by kernel_rfl) rfl rfl (a7M rfl (a0a rfl) (a0a rfl) rfl rfl Tryz.eqGuardType79 (c8F _ _ _ _)) rfl rfl rfl rfl ?_
  refine a1S (by kernel_rfl) ?_
  refine z ?_
  refine yQ rfl (fun c5 => ?_) fun c5 => ?_
  ·iterate 10 refine z ?_
   rw [a5y, a9M (p := a1W) (k := k2) (by omega) (by have h := c5; clear hall2 hall; grind [a1W]), Bool.and_false]
  ·iterate 3 refine z ?_
   refine a0n ?_
   iterate 4 refine z ?_
   refine ⟨k2 + 1, ?_, ?_, a0e ⟨rfl, rfl, rfl, trivial⟩ ⟨rfl, rfl, trivial⟩ trivial rfl⟩
   ·exact ⟨by omega, a4w hall2 (by have h := c5; clear hall2 hall; grind [a1W])⟩
   ·omega
  ·have d4 := of_decide_eq_false c4
  iterate 10 refine z ?_
  have h2 := a8U (p := a5g) (k := k) e1 hall (by omega); have h3 := a8U (p := a1W) (k := k2) e2 hall2 (by omega); have h := c1; clear hall hall2; grind [a5y]
theorem c6H {x y : List (UInt8)}  : PFn Tryz.prog 95 [.one (.dv [] (a0l (x))), .one (.dv [] (a0l (y)))] (.one (.dv [] (.bool (eqL a4b x y)))) := by
 refine ⟨a0Q Tryz.func95 rfl Tryz.ntmps95 Tryz.results95 rfl (fun C => ?_)⟩
 refine a1k (x := .tmp 0) (a0a rfl) fun f0 => ?_
 refine a1k (x := .tmp 1) (a0a rfl) fun f1 => ?_
 iterate 11 refine z ?_
 refine yQ rfl (fun c1 => ?_) fun c1 => ?_
 ·have d1 := a6g c1
 iterate 6 refine z ?_
 exact (b5z d1).symm
 ·have d1 := a6e c1
 iterate 9 refine z ?_
 refine a1l (ι := Nat) (fun zz => ⟨[(0, .one (.dv [] (a0l (x)))), (1, .one (.dv [] (a0l (y)))), (12, .one (.dv [] (.int .i64 ((((x)).length : Int))))), (13, .one (.dv [] (.int .i64 ((zz : Int)))))], [], []⟩) (fun zz => zz ≤ x.length ∧ (List.range zz).all (fun i => a4b (x.getD (i : Int).toNat default) (y.getD (i : Int).toNat default)) = true) (fun zz => x.length - zz) (0) ?_ (a0e ⟨rfl, rfl, rfl, rfl, trivial⟩ trivial trivial rfl) (fun zz hx => ?_)
 ·exact ⟨Nat.zero_le _, rfl⟩
 obtain ⟨k, rfl⟩ : ∃ v, v = zz := ⟨_, rfl⟩
 replace hx : k ≤ x.length ∧ (List.range k).all (fun i => a4b (x.getD (i : Int).toNat default) (y.getD (i : Int).toNat default)) = true := hx
 obtain ⟨hk, hall⟩ := hx
 show Ok _ _ _ _ _ (⟨[(0, .one (.dv [] (a0l (x)))), (1, .one (.dv [] (a0l (y)))), (12, .one (.dv [] (.int .i64 ((((x)).length : Int))))), (13, .one (.dv [] (.int .i64 ((k : Int)))))], [], []⟩ : St)
 iterate 3 refine z ?_
 refine a0s ?_
 refine yQ rfl (fun c2 => ?_) fun c2 => ?_
 ·have d2 := of_decide_eq_true c2
  iterate 8 refine z ?_
  refine a0s ?_
  refine a1N (oB := []) (oK := []) (by kernel_rfl) rfl rfl ?_
  refine zD 0 ?_
  refine zD 1 ?_
  refine zD 2 ?_
  refine zD 3 ?_
  refine zD 4 ?_
  refine zD 5 ?_
  refine zD 6 ?_
  refine zD 7 ?_
  refine zD 8 ?_
  refine a1S (by kernel_rfl) ?_
  refine z ?_
  refine yQ rfl (fun c3 => ?_) fun c3 => ?_
  ·have d3 := a6g c3
  iterate 10 refine z ?_
  exact (a9M (k := k) (by omega) (by have h := c3; simpa [a4b] using h)).symm
  ·have d3 := a6e c3
  iterate 3 refine z ?_
  refine a0n ?_
  iterate 3 refine z ?_
  refine ⟨k + 1, ?_, ?_, a0e ⟨rfl, rfl, rfl, rfl, trivial⟩ trivial trivial rfl⟩
  ·exact ⟨by omega, a4w hall (by have h := c3; simpa [a4b] using h)⟩
  ·omega
 ·have d2 := of_decide_eq_false c2
  iterate 10 refine z ?_
  exact (a8U d1 hall (by omega)).symm
theorem b1l {x y : List UInt8}  : PFn Tryz.prog 62 [.one (.dv [] (a0l (x))), .one (.dv [] (a0l (y)))] (.one (.dv [] (.bool (eqL a4b x y)))) := by
 refine ⟨a0Q Tryz.func62 rfl Tryz.ntmps62 Tryz.results62 rfl (fun C => ?_)⟩
 refine a1k (x := .tmp 0) (a0a rfl) fun f0 => ?_
 refine a1k (x := .tmp 1) (a0a rfl) fun f1 => ?_
 iterate 6 refine z ?_
 refine zC Tryz.call95 ?_ (hf := c6H)
 iterate 4 refine z ?_
 rfl
theorem c8J {α : Type} {q : List α} {n k : Nat} {d : α} (h : k < n) : (q.take n).getD k d = q.getD k d := by simp [List.getD, List.getElem?_take, h]
def a1Y (n : Str) (f : a4R) : Bool := sEq f.1 n
def a1a (r : a0v) (n : Str) : Int × Bool := if a0r (a1Y n) r 0 < 0 then (0, false) else ((r.getD (a0r (a1Y n) r 0).toNat default).2, true)
theorem a8u {α : Type} {p : α → Bool} : ∀ (xs : List α) (i : Int), 0 ≤ i → a0r p xs i < i + xs.length ∨ a0r p xs i = -1
 | [], i, h => .inr rfl
 | x :: xs, i, h => by
 rw [a0r]
 split
 ·left; simp; omega
 ·rcases a8u (p := p) xs (i + 1) (by omega) with h1 | h1
  ·left; simp only [List.length_cons]; omega
  ·exact .inr h1
theorem c1w {r : a0v} {n : Str} {k : Nat} (h : (r.take k).any (a1Y n) = false) (hk : k < r.length) (hp : a1Y n (r.getD k default) = true) : a1a r n = ((r.getD (k : Int).toNat default).2, true) := by
 have := a5T (p := a1Y n) (d := default) h hk hp
 rw [a1a, this, if_neg (by omega)]
theorem c1U {r : a0v} {n : Str} {k : Nat} (h : (r.take k).any (a1Y n) = false) (hk : k = r.length) : a1a r n = (0, false) := by
 rw [a1a, a6i (p := a1Y n) h hk]; rfl
theorem c0t {p : a0U → Bool} {xs : List a0U} {k : Nat} (hk : k < xs.length) : (xs.take (k + 1)).filter p = (xs.take k).filter p ++ (if p (xs.getD (k : Int).toNat default) then [xs.getD (k : Int).toNat default] else []) := by
 rw [List.take_add_one, List.getElem?_eq_getElem hk, List.filter_append]
 have : xs.getD (k : Int).toNat default = xs[k] := by simp [List.getD, List.getElem?_eq_getElem hk]
 rw [this]
 simp only [Option.toList_some, List.filter_cons, List.filter_nil]
theorem a6j (x : a0U) : x.2.length ≤ a1Q x := by unfold a1Q a7L a2e; omega
theorem c7d {x : a4R} {n : Str}  : PFn Tryz.prog 133 [.agg [(.dv [] (.str (x.1))), (.dv [] (.int .i64 (x.2)))], .ref [] [.str (n)]] (.one (.dv [] (.bool (a1Y n x)))) := by
 refine ⟨a0Q Tryz.func133 rfl Tryz.ntmps133 Tryz.results133 rfl (fun C => ?_)⟩
 refine yF 0 0 rfl rfl fun f0_0 => ?_
 refine yF 0 1 rfl rfl fun f0_1 => ?_
 iterate 13 refine z ?_
 rfl
theorem c8C {x : a0v} {n : Str}  : PFn Tryz.prog 132 [.one (.dv [] (a0J (x))), .fn 133 [[.str (n)]]] (.one (.dv [] (.int .i64 (a0r (a1Y n) x 0)))) := by
 refine ⟨a0Q Tryz.func132 rfl Tryz.ntmps132 Tryz.results132 rfl (fun C => ?_)⟩
 refine a1k (x := .tmp 0) (a0a rfl) fun f0 => ?_
 iterate 10 refine z ?_
 refine a1l (ι := Nat) (fun zz => ⟨[(0, .one (.dv [] (a0J (x)))), (1, .fn 133 [[.str (n)]]), (7, .one (.dv [] (.int .i64 ((((x)).length : Int))))), (8, .one (.dv [] (.int .i64 ((zz : Int)))))], [], []⟩) (fun zz => zz ≤ x.length ∧ (x.take zz).any (a1Y n) = false) (fun zz => x.length - zz) (0) ?_ (a0e ⟨rfl, rfl, rfl, rfl, trivial⟩ trivial trivial rfl) (fun zz hx => ?_)
 ·exact ⟨Nat.zero_le _, rfl⟩
 obtain ⟨k, rfl⟩ : ∃ v, v = zz := ⟨_, rfl⟩
 replace hx : k ≤ x.length ∧ (x.take k).any (a1Y n) = false := hx
 obtain ⟨hk, hall⟩ := hx
 show Ok _ _ _ _ _ (⟨[(0, .one (.dv [] (a0J (x)))), (1, .fn 133 [[.str (n)]]), (7, .one (.dv [] (.int .i64 ((((x)).length : Int))))), (8, .one (.dv [] (.int .i64 ((k : Int)))))], [], []⟩ : St)
 iterate 3 refine z ?_
 refine a0s ?_
 refine yQ rfl (fun c1 => ?_) fun c1 => ?_
 ·have d1 := of_decide_eq_true c1
 iterate 14 refine z ?_
 refine a9C rfl rfl rfl (a0a rfl) Tryz.call133 c7d (a0g (a0a rfl) (a0u (a0d a0c (a0d a0c a0t))) a0q) rfl rfl ?_
 refine z ?_
 refine yQ rfl (fun c2 => ?_) fun c2 => ?_
 ·iterate 11 refine z ?_
  exact (a5T (p := a1Y n) (d := default) hall (by omega) c2).symm
 ·iterate 3 refine z ?_
  refine a0n ?_
  iterate 3 refine z ?_
  refine ⟨k + 1, ?_, ?_, a0e ⟨rfl, rfl, rfl, rfl, trivial⟩ trivial trivial rfl⟩
  ·exact ⟨by omega, a5X (d := default) hall (by omega) c2⟩
  ·omega
 ·have d1 := of_decide_eq_false c1
 iterate 10 refine z ?_
 exact (a6i (p := a1Y n) hall (by omega)).symm
theorem c0h {x : a0v} {n : Str}  : PFn Tryz.prog 122 [.agg [(.dv [] (a0J (x)))], .one (.dv [] (.str (n)))] (.one (.dv [] (.int .i64 (a0r (a1Y n) x 0)))) := by
 refine ⟨a0Q Tryz.func122 rfl Tryz.ntmps122 Tryz.results122 rfl (fun C => ?_)⟩
 refine yF 0 0 rfl rfl fun f0_0 => ?_
 refine a1k (x := .tmp 1) (a0a rfl) fun f1 => ?_
 iterate 8 refine z ?_
 refine yO rfl rfl (b1d rfl (a0a rfl)) rfl ?_
 refine a3S rfl rfl rfl Tryz.call132 c8C (a0g (a0a rfl) (a0D a0c) (a0g (a0a rfl) (b4P (b2o rfl rfl b1t)) a0q)) rfl rfl ?_
 iterate 4 refine z ?_
 rfl
theorem a5Q {x : a0v} {n : Str}  : PFn Tryz.prog 105 [.agg [(.dv [] (a0J (x)))], .one (.dv [] (.str (n)))] (.tup [(false, [(.dv [] (.int .i64 ((a1a x n).1)))]), (false, [(.dv [] (.bool ((a1a x n).2)))])]) := by
 refine ⟨a0Q Tryz.func105 rfl Tryz.ntmps105 Tryz.results105 rfl (fun C => ?_)⟩
 refine yF 0 0 rfl rfl fun f0_0 => ?_
 refine a1k (x := .tmp 1) (a0a rfl) fun f1 => ?_
 iterate 8 refine z ?_
 refine zC Tryz.call122 ?_ (hf := c0h)
 iterate 7 refine z ?_
 refine yQ rfl (fun c1 => ?_) fun c1 => ?_
 ·have d1 := of_decide_eq_true c1
 iterate 6 refine z ?_
 refine a1u (a0m rfl) (a0m rfl) rfl rfl ?_
 have h : a1a x n = (0, false) := by rw [a1a, if_pos d1]
 rw [h] <;> rfl
 ·have d1 := of_decide_eq_false c1
 have hlt := a8u (p := a1Y n) x 0 (by omega)
 iterate 13 refine z ?_
 refine a1u (a0m rfl) (a0m rfl) rfl rfl ?_
 have h : a1a x n = ((x.getD (a0r (a1Y n) x 0).toNat default).2, true) := by rw [a1a, if_neg d1]
 rw [h] <;> rfl
theorem a7D {x : a0v} {n : Str}  : PFn Tryz.prog 89 [.agg [(.dv [] (a0J (x)))], .one (.dv [] (.str (n)))] (.tup [(false, [(.dv [] (.int .i64 ((a1a x n).1)))]), (false, [(.dv [] (.bool ((a1a x n).2)))])]) := by
 refine ⟨a0Q Tryz.func89 rfl Tryz.ntmps89 Tryz.results89 rfl (fun C => ?_)⟩
 refine yF 0 0 rfl rfl fun f0_0 => ?_
 refine a1k (x := .tmp 1) (a0a rfl) fun f1 => ?_
 iterate 10 refine z ?_
 refine a1l (ι := Nat) (fun zz => ⟨[(1, .one (.dv [] (.str (n)))), (2, .box 2 0), (6, .one (.dv [] (.int .i64 ((zz : Int)))))], [(2, 63, [(.dv [] (a0J (x)))])], []⟩) (fun zz => zz ≤ x.length ∧ (x.take zz).any (a1Y n) = false) (fun zz => x.length - zz) (0) ?_ (a0e ⟨rfl, rfl, rfl, trivial⟩ ⟨rfl, trivial⟩ trivial rfl) (fun zz hx => ?_)
 ·exact ⟨Nat.zero_le _, rfl⟩
 obtain ⟨k, rfl⟩ : ∃ v, v = zz := ⟨_, rfl⟩
 replace hx : k ≤ x.length ∧ (x.take k).any (a1Y n) = false := hx
 obtain ⟨hk, hall⟩ := hx
 show Ok _ _ _ _ _ (⟨[(1, .one (.dv [] (.str (n)))), (2, .box 2 0), (6, .one (.dv [] (.int .i64 ((k : Int)))))], [(2, 63, [(.dv [] (a0J (x)))])], []⟩ : St)
 iterate 8 refine z ?_
 refine yQ rfl (fun c1 => ?_) fun c1 => ?_
 ·have d1 := of_decide_eq_true c1
 iterate 14 refine z ?_
 refine yQ rfl (fun c2 => ?_) fun c2 => ?_
 ·iterate 16 refine z ?_
  refine a1u (a0m rfl) (a0m rfl) rfl rfl ?_
  rw [c1w hall (by omega) c2] <;> rfl
 ·iterate 3 refine z ?_
  refine a0n ?_
  iterate 4 refine z ?_
  refine ⟨k + 1, ?_, ?_, a0e ⟨rfl, rfl, rfl, trivial⟩ ⟨rfl, trivial⟩ trivial rfl⟩
  ·exact ⟨by omega, a5X (d := default) hall (by omega) c2⟩
  ·omega
 ·have d1 := of_decide_eq_false c1
 iterate 10 refine z ?_
 refine a1u (a0m rfl) (a0m rfl) rfl rfl ?_
 rw [c1U hall (by omega)] <;> rfl
theorem a8z {x : a0v} (hb : x.length ≤ 1099511627776) : KFn Tryz.prog 117 [.agg [(.dv [] (a0J (x)))]] (.agg [(.key 3)]) [(3, some (a0b false (a0J (x))))] := by
 refine ⟨a0Q Tryz.func117 rfl Tryz.ntmps117 Tryz.results117 rfl (fun C => ?_)⟩
 refine yF 0 0 rfl rfl fun f0_0 => ?_
 iterate 5 refine z ?_
 refine a2H (k := 3) hT rfl rfl rfl rfl rfl rfl rfl rfl ?_
 iterate 2 refine z ?_
 refine b0r (k := 3) (cs := (x).flatMap a1B) (n := (x).length) hT rfl rfl rfl rfl rfl rfl rfl (a0a rfl) rfl rfl rfl (a0a rfl) (a3y (fun _ => rfl) _) (by first | (dsimp only [a0b]; omega) | omega) (by first | (dsimp only [a0b]; omega) | omega) (Nat.zero_add _) (rfl) ?_
 simp only [a0p, a0k, SV.kill, CV.kill, kk, Nat.reduceBEq]
 refine yO rfl rfl (a1v hT hB rfl rfl rfl (a1c (a0a rfl) rfl rfl rfl rfl rfl a1w)) rfl ?_
 iterate 2 refine z ?_
 refine a0h (σ' := ⟨[(2, .box 2 0)], [(2, 63, [(.key 3)])], [(3, some (a0b false (a0J (x))))]⟩) (a0e ⟨rfl, trivial⟩ ⟨rfl, trivial⟩ ⟨rfl, trivial⟩ rfl) ?_
 refine z ?_
 refine a1r (a0F hT rfl rfl rfl rfl) ?_
 exact ⟨rfl, rfl⟩
theorem a7Y {x : a0v} (hb : x.length ≤ 1099511627776) : KFn Tryz.prog 96 [.agg [(.dv [] (a0J (x)))]] (.agg [(.key 3)]) [(3, some (a0b false (a0J (x))))] := by
 refine ⟨a0Q Tryz.func96 rfl Tryz.ntmps96 Tryz.results96 rfl (fun C => ?_)⟩
 refine yF 0 0 rfl rfl fun f0_0 => ?_
 iterate 5 refine z ?_
 refine a2H (k := 3) hT rfl rfl rfl rfl rfl rfl rfl rfl ?_
 iterate 2 refine z ?_
 refine b0r (k := 3) (cs := (x).flatMap a1B) (n := (x).length) hT rfl rfl rfl rfl rfl rfl rfl (a0a rfl) rfl rfl rfl (a0a rfl) (a3y (fun _ => rfl) _) (by first | (dsimp only [a0b]; omega) | omega) (by first | (dsimp only [a0b]; omega) | omega) (Nat.zero_add _) (rfl) ?_
 simp only [a0p, a0k, SV.kill, CV.kill, kk, Nat.reduceBEq]
 refine yO rfl rfl (a1v hT hB rfl rfl rfl (a1c (a0a rfl) rfl rfl rfl rfl rfl a1w)) rfl ?_
 iterate 2 refine z ?_
 refine a0h (σ' := ⟨[(2, .box 2 0)], [(2, 63, [(.key 3)])], [(3, some (a0b false (a0J (x))))]⟩) (a0e ⟨rfl, trivial⟩ ⟨rfl, trivial⟩ ⟨rfl, trivial⟩ rfl) ?_
 refine z ?_
 refine a1r (a0F hT rfl rfl rfl rfl) ?_
 exact ⟨rfl, rfl⟩
theorem b9a {x : a0U} (hb : x.2.length ≤ 1099511627776) : KFn Tryz.prog 94 [.agg [(.dv [] (.int .i64 (x.1.1))), (.dv [] (.int .i64 (x.1.2.1))), (.dv [] (.str (x.1.2.2))), (.dv [] (a0J (x.2)))]] (.agg [(.dv [] (.int .i64 (x.1.1))), (.dv [] (.int .i64 (x.1.2.1))), (.dv [] (.str (x.1.2.2))), (.key 7003)]) [(7003, some (a0b false (a0J (x.2))))] := by
 refine ⟨a0Q Tryz.func94 rfl Tryz.ntmps94 Tryz.results94 rfl (fun C => ?_)⟩
 refine yF 0 0 rfl rfl fun f0_0 => ?_
 refine yF 0 1 rfl rfl fun f0_1 => ?_
 refine yF 0 2 rfl rfl fun f0_2 => ?_
 refine yF 0 3 rfl rfl fun f0_3 => ?_
 iterate 4 refine z ?_
 refine a0s ?_
 refine a1N (oB := [1, 2]) (oK := []) (by kernel_rfl) rfl rfl ?_
 refine zD 0 ?_
 refine zD 1 ?_
 refine zD 2 ?_
 refine zD 3 ?_
 refine a2K 7000 4 rfl (by kernel_rfl) rfl rfl rfl Tryz.call117 (a8z (by omega)) (a0g (a0a rfl) (a0u (a0d a0c a0t)) a0q) rfl rfl rfl rfl rfl ?_
 refine a1q 5 rfl (by kernel_rfl) rfl rfl (a1v hT hB rfl rfl rfl (a1c (a0a rfl) rfl rfl rfl rfl rfl (a1c (a0a rfl) rfl rfl rfl rfl rfl a1w))) rfl rfl rfl rfl ?_
 refine b3l 6 rfl (by kernel_rfl) rfl (by kernel_rfl) (a4z hT rfl rfl rfl (a0a rfl) (a0a rfl) rfl rfl rfl rfl rfl rfl) (by kernel_rfl) ?_
 refine z ?_
 refine a0h (σ' := ⟨[(2, .box 2 0)], [(2, 119, [(.dv [] (.int .i64 (x.1.1))), (.dv [] (.int .i64 (x.1.2.1))), (.dv [] (.str (x.1.2.2))), (.key 7003)])], [(7003, some (a0b false (a0J (x.2))))]⟩) (a0e ⟨rfl, trivial⟩ ⟨rfl, trivial⟩ ⟨rfl, trivial⟩ rfl) ?_
 refine z ?_
 refine a1r (a0F hT rfl rfl rfl rfl) ?_
 exact ⟨rfl, rfl⟩
theorem b3q {x : a0U} (hb : x.2.length ≤ 1099511627776) : KFn Tryz.prog 84 [.agg [(.dv [] (.int .i64 (x.1.1))), (.dv [] (.int .i64 (x.1.2.1))), (.dv [] (.str (x.1.2.2))), (.dv [] (a0J (x.2)))]] (.agg [(.dv [] (.int .i64 (x.1.1))), (.dv [] (.int .i64 (x.1.2.1))), (.dv [] (.str (x.1.2.2))), (.key 7003)]) [(7003, some (a0b false (a0J (x.2))))] := by
 refine ⟨a0Q Tryz.func84 rfl Tryz.ntmps84 Tryz.results84 rfl (fun C => ?_)⟩
 refine yF 0 0 rfl rfl fun f0_0 => ?_
 refine yF 0 1 rfl rfl fun f0_1 => ?_
 refine yF 0 2 rfl rfl fun f0_2 => ?_
 refine yF 0 3 rfl rfl fun f0_3 => ?_
 iterate 4 refine z ?_
 refine a0s ?_
 refine a1N (oB := [1, 2]) (oK := []) (by kernel_rfl) rfl rfl ?_
 refine zD 0 ?_
 refine zD 1 ?_
 refine zD 2 ?_
 refine zD 3 ?_
 refine a2K 7000 4 rfl (by kernel_rfl) rfl rfl rfl Tryz.call96 (a7Y (by omega)) (a0g (a0a rfl) (a0u (a0d a0c a0t)) a0q) rfl rfl rfl rfl rfl ?_
 refine a1q 5 rfl (by kernel_rfl) rfl rfl (a1v hT hB rfl rfl rfl (a1c (a0a rfl) rfl rfl rfl rfl rfl (a1c (a0a rfl) rfl rfl rfl rfl rfl a1w))) rfl rfl rfl rfl ?_
 refine b3l 6 rfl (by kernel_rfl) rfl (by kernel_rfl) (a4z hT rfl rfl rfl (a0a rfl) (a0a rfl) rfl rfl rfl rfl rfl rfl) (by kernel_rfl) ?_
 refine z ?_
 refine a0h (σ' := ⟨[(2, .box 2 0)], [(2, 119, [(.dv [] (.int .i64 (x.1.1))), (.dv [] (.int .i64 (x.1.2.1))), (.dv [] (.str (x.1.2.2))), (.key 7003)])], [(7003, some (a0b false (a0J (x.2))))]⟩) (a0e ⟨rfl, trivial⟩ ⟨rfl, trivial⟩ ⟨rfl, trivial⟩ rfl) ?_
 refine z ?_
 refine a1r (a0F hT rfl rfl rfl rfl) ?_
 exact ⟨rfl, rfl⟩
theorem a8n {k : IntKind} {a b : Int} (h : a = b) : some (SV.one (CV.dv [] (DV.int k a))) = some (SV.one (CV.dv [] (DV.int k b))) := by rw [h]
theorem a3I {α : Type} [Inhabited α] {xs : List α} {j : Nat} (h : j < xs.length) : xs.getD (j : Int).toNat default = xs[j] := by simp [List.getD, List.getElem?_eq_getElem h]
def a3U (a b : Int) : Int := if a < b then -1 else if b < a then 1 else 0
def a2N (a b : a0L) : Int := if !a0Z a || !a0Z b then 0 else if ¬ a.1 = b.1 then a3U a.1 b.1 else if ¬ a.2.1 = b.2.1 then a3U a.2.1 b.2.1 else a4x a.2.2 b.2.2
def a7h (a b : Bool) : Int := if a then -1 else if b then 1 else 0
theorem a7C {a b : Int} : a3U a b = 0 ↔ a = b := by unfold a3U; split <;> (try split) <;> omega
theorem b2j {a b : a0L} (h : (!a0Z a || !a0Z b) = true) : a2N a b = 0 := by rw [a2N, if_pos h]
theorem b0b {a b : a0L} (h : (!a0Z a || !a0Z b) = false) (h1 : ¬ a.1 = b.1) : a2N a b = a3U a.1 b.1 := by rw [a2N, if_neg (by rw [h]; simp), if_pos h1]
theorem b0a {a b : a0L} (h : (!a0Z a || !a0Z b) = false) (h1 : a.1 = b.1) (h2 : ¬ a.2.1 = b.2.1) : a2N a b = a3U a.2.1 b.2.1 := by rw [a2N, if_neg (by rw [h]; simp), if_neg (by simp [h1]), if_pos h2]
theorem b0f {a b : a0L} (h : (!a0Z a || !a0Z b) = false) (h1 : a.1 = b.1) (h2 : a.2.1 = b.2.1) : a2N a b = a4x a.2.2 b.2.2 := by rw [a2N, if_neg (by rw [h]; simp), if_neg (by simp [h1]), if_neg (by simp [h2])]
theorem c2f (a b : Str) : (!(sLt a b || sEq a b)) = sLt b a := by rw [a7N, Bool.not_not]
def a6c (k : a0L) (r : a3L) : Bool := !((!a0Z k || (r.1 && !a0Z r.2.2.1)) || (r.2.1 && !a0Z r.2.2.2)) && ((!r.1 || decide (a2N r.2.2.1 k ≤ 0)) && (!r.2.1 || decide (a2N k r.2.2.2 ≤ 0)))
theorem b9G (a b : Int) : a3U a b = - a3U b a := by unfold a3U; split <;> split <;> (try split) <;> omega
theorem c1u (a b : Str) : a4x a b = - a4x b a := by
 unfold a4x
 cases h1 : sLt a b <;> cases h2 : sLt b a <;> simp
 have h := a7N a b
 rw [h1, h2] at h
 simp at h
theorem b0k (a b : a0L) : a2N a b = - a2N b a := by
 by_cases h : (!a0Z a || !a0Z b) = true
 ·rw [b2j h, b2j (by rw [Bool.or_comm]; exact h)]; rfl
 ·have h : (!a0Z a || !a0Z b) = false := by simpa using h
 have h' : (!a0Z b || !a0Z a) = false := by rw [Bool.or_comm]; exact h
 by_cases h1 : a.1 = b.1
 ·by_cases h2 : a.2.1 = b.2.1
  ·rw [b0f h h1 h2, b0f h' h1.symm h2.symm, c1u]
  ·rw [b0a h h1 h2, b0a h' h1.symm (fun e => h2 e.symm), b9G]
 ·rw [b0b h h1, b0b h' (fun e => h1 e.symm), b9G]
theorem b2Q {x y : Bool}  : PFn Tryz.prog 114 [.one (.dv [] (.bool (x))), .one (.dv [] (.bool (y)))] (.one (.dv [] (.int .i64 (a7h x y)))) := by
 refine ⟨a0Q Tryz.func114 rfl Tryz.ntmps114 Tryz.results114 rfl (fun C => ?_)⟩
 iterate 7 refine z ?_
 refine yQ rfl (fun c1 => ?_) fun c1 => ?_
 ·iterate 6 refine z ?_
 rw [a7h, if_pos c1]
 ·iterate 6 refine z ?_
 refine yQ rfl (fun c2 => ?_) fun c2 => ?_
 ·iterate 6 refine z ?_
  rw [a7h, if_neg (by rw [c1]; simp), if_pos c2]
 ·iterate 7 refine z ?_
  rw [a7h, if_neg (by rw [c1]; simp), if_neg (by rw [c2]; simp)]
theorem b6d {x y : Int}  : PFn Tryz.prog 118 [.one (.dv [] (.int .i64 (x))), .one (.dv [] (.int .i64 (y)))] (.one (.dv [] (.int .i64 (a3U x y)))) := by
 refine ⟨a0Q Tryz.func118 rfl Tryz.ntmps118 Tryz.results118 rfl (fun C => ?_)⟩
 refine a1k (x := .tmp 0) (a0a rfl) fun f0 => ?_
 refine a1k (x := .tmp 1) (a0a rfl) fun f1 => ?_
 iterate 11 refine z ?_
 refine yQ rfl (fun c1 => ?_) fun c1 => ?_
 ·have d1 := of_decide_eq_true c1
 iterate 7 refine z ?_
 rw [a3U, if_pos d1]
 ·have d1 := of_decide_eq_false c1
 iterate 6 refine z ?_
 refine yQ rfl (fun c2 => ?_) fun c2 => ?_
 ·have d2 := of_decide_eq_true c2
  iterate 7 refine z ?_
  rw [a3U, if_neg d1, if_pos d2]
 ·have d2 := of_decide_eq_false c2
  iterate 8 refine z ?_
  rw [a3U, if_neg d1, if_neg d2]
theorem b0g {x y : a0L}  : PFn Tryz.prog 100 [.agg [(.dv [] (.int .i64 (x.1))), (.dv [] (.int .i64 (x.2.1))), (.dv [] (.str (x.2.2)))], .agg [(.dv [] (.int .i64 (y.1))), (.dv [] (.int .i64 (y.2.1))), (.dv [] (.str (y.2.2)))]] (.one (.dv [] (.int .i64 (a2N x y)))) := by
 refine ⟨a0Q Tryz.func100 rfl Tryz.ntmps100 Tryz.results100 rfl (fun C => ?_)⟩
 refine yF 0 0 rfl rfl fun f0_0 => ?_
 refine yF 0 1 rfl rfl fun f0_1 => ?_
 refine yF 0 2 rfl rfl fun f0_2 => ?_
 refine yF 1 0 rfl rfl fun f1_0 => ?_
 refine yF 1 1 rfl rfl fun f1_1 => ?_
 refine yF 1 2 rfl rfl fun f1_2 => ?_
 iterate 8 refine z ?_
 refine zC Tryz.call80 ?_ (hf := a5P)
 iterate 3 refine z ?_
 refine a1P (a1t rfl rfl rfl rfl rfl) rfl rfl Tryz.call80 a5P (fun hg => (a0g (a0z rfl hg) (a0u (a0d a0c (a0d a0c (a0d a0c a0t)))) a0q)) rfl rfl ?_
 iterate 3 refine z ?_
 refine yQ rfl (fun c1 => ?_) fun c1 => ?_
 ·iterate 6 refine z ?_
 rw [b2j c1]
 ·iterate 8 refine z ?_
 refine zC Tryz.call118 ?_ (hf := b6d)
 iterate 6 refine z ?_
 refine yQ rfl (fun c2 => ?_) fun c2 => ?_
 ·have d2 := a6g c2
  iterate 7 refine z ?_
  rw [b0b c1 (fun e => d2 (a7C.2 e))]
 ·have d2 := a6e c2
  iterate 8 refine z ?_
  refine zC Tryz.call118 ?_ (hf := b6d)
  iterate 6 refine z ?_
  refine yQ rfl (fun c3 => ?_) fun c3 => ?_
  ·have d3 := a6g c3
  iterate 7 refine z ?_
  rw [b0a c1 (a7C.1 d2) (fun e => d3 (a7C.2 e))]
  ·have d3 := a6e c3
  iterate 7 refine z ?_
  refine zC Tryz.call119 ?_ (hf := c8U)
  iterate 4 refine z ?_
  rw [b0f c1 (a7C.1 d2) (a7C.1 d3)]
theorem a9v {x y : a0L}  : PFn Tryz.prog 87 [.agg [(.dv [] (.int .i64 (x.1))), (.dv [] (.int .i64 (x.2.1))), (.dv [] (.str (x.2.2)))], .agg [(.dv [] (.int .i64 (y.1))), (.dv [] (.int .i64 (y.2.1))), (.dv [] (.str (y.2.2)))]] (.one (.dv [] (.int .i64 (a2N x y)))) := by
 refine ⟨a0Q Tryz.func87 rfl Tryz.ntmps87 Tryz.results87 rfl (fun C => ?_)⟩
 refine yF 0 0 rfl rfl fun f0_0 => ?_
 refine yF 0 1 rfl rfl fun f0_1 => ?_
 refine yF 0 2 rfl rfl fun f0_2 => ?_
 refine yF 1 0 rfl rfl fun f1_0 => ?_
 refine yF 1 1 rfl rfl fun f1_1 => ?_
 refine yF 1 2 rfl rfl fun f1_2 => ?_
 iterate 8 refine z ?_
 refine zC Tryz.call85 ?_ (hf := a7b)
 iterate 3 refine z ?_
 refine a1P (a1t rfl rfl rfl rfl rfl) rfl rfl Tryz.call85 a7b (fun hg => (a0g (a0z rfl hg) (a0u (a0d a0c (a0d a0c (a0d a0c a0t)))) a0q)) rfl rfl ?_
 iterate 3 refine z ?_
 refine yQ rfl (fun c1 => ?_) fun c1 => ?_
 ·iterate 6 refine z ?_
 rw [b2j c1]
 ·iterate 10 refine z ?_
 refine yQ rfl (fun c2 => ?_) fun c2 => ?_
 ·have d2 := a6g c2
  iterate 6 refine z ?_
  refine zC Tryz.call114 ?_ (hf := b2Q)
  iterate 5 refine z ?_
  rw [b0b c1 d2]; unfold a7h a3U; split <;> split <;> simp_all <;> omega
 ·have d2 := a6e c2
  iterate 10 refine z ?_
  refine yQ rfl (fun c3 => ?_) fun c3 => ?_
  ·have d3 := a6g c3
  iterate 6 refine z ?_
  refine zC Tryz.call114 ?_ (hf := b2Q)
  iterate 5 refine z ?_
  rw [b0a c1 d2 d3]; unfold a7h a3U; split <;> split <;> simp_all <;> omega
  ·have d3 := a6e c3
  iterate 13 refine z ?_
  refine zC Tryz.call114 ?_ (hf := b2Q)
  iterate 4 refine z ?_
  rw [b0f c1 d2 d3, c2f]; unfold a7h a4x; rfl
theorem c5Y {x : a0L} {y : a3L}  : PFn Tryz.prog 127 [.agg [(.dv [] (.int .i64 (x.1))), (.dv [] (.int .i64 (x.2.1))), (.dv [] (.str (x.2.2)))], .agg [(.dv [] (.bool (y.1))), (.dv [] (.bool (y.2.1))), (.dv [] (.int .i64 (y.2.2.1.1))), (.dv [] (.int .i64 (y.2.2.1.2.1))), (.dv [] (.str (y.2.2.1.2.2))), (.dv [] (.int .i64 (y.2.2.2.1))), (.dv [] (.int .i64 (y.2.2.2.2.1))), (.dv [] (.str (y.2.2.2.2.2)))]] (.one (.dv [] (.bool (a6c x y)))) := by
 refine ⟨a0Q Tryz.func127 rfl Tryz.ntmps127 Tryz.results127 rfl (fun C => ?_)⟩
 refine yF 0 0 rfl rfl fun f0_0 => ?_
 refine yF 0 1 rfl rfl fun f0_1 => ?_
 refine yF 0 2 rfl rfl fun f0_2 => ?_
 refine yF 1 2 rfl rfl fun f1_2 => ?_
 refine yF 1 3 rfl rfl fun f1_3 => ?_
 refine yF 1 4 rfl rfl fun f1_4 => ?_
 refine yF 1 5 rfl rfl fun f1_5 => ?_
 refine yF 1 6 rfl rfl fun f1_6 => ?_
 refine yF 1 7 rfl rfl fun f1_7 => ?_
 iterate 8 refine z ?_
 refine zC Tryz.call80 ?_ (hf := a5P)
 iterate 7 refine z ?_
 refine a1P (a3W rfl rfl rfl rfl rfl) rfl rfl Tryz.call80 a5P (fun hg => (a0g (a0z rfl hg) (a0u (a0d a0c (a0d a0c (a0d a0c a0t)))) a0q)) rfl rfl ?_
 iterate 9 refine z ?_
 refine a1P (a3W rfl rfl rfl rfl rfl) rfl rfl Tryz.call80 a5P (fun hg => (a0g (a0z rfl hg) (a0u (a0d a0c (a0d a0c (a0d a0c a0t)))) a0q)) rfl rfl ?_
 iterate 4 refine z ?_
 refine yQ rfl (fun c1 => ?_) fun c1 => ?_
 ·iterate 6 refine z ?_
 unfold a6c; rw [c1]; rfl
 ·iterate 9 refine z ?_
 refine a1P (a1t rfl rfl rfl rfl rfl) rfl rfl Tryz.call100 b0g (fun hg => (a0g (a0z rfl hg) (a0u (a0d a0c (a0d a0c (a0d a0c a0t)))) (a0g (a0z rfl hg) (a0u (a0d a0c (a0d a0c (a0d a0c a0t)))) a0q))) rfl rfl ?_
 iterate 10 refine z ?_
 refine a1P (a3W rfl rfl rfl rfl rfl) rfl rfl Tryz.call100 b0g (fun hg => (a0g (a0z rfl hg) (a0u (a0d a0c (a0d a0c (a0d a0c a0t)))) (a0g (a0z rfl hg) (a0u (a0d a0c (a0d a0c (a0d a0c a0t)))) a0q))) rfl rfl ?_
 iterate 8 refine z ?_
 have h1 := b0k x y.2.2.1; have h2 := b0k x y.2.2.2; unfold a6c; rw [c1]; cases y.1 <;> cases y.2.1 <;> simp <;> grind
theorem c1g {x : a0L} {y : a3L}  : PFn Tryz.prog 116 [.agg [(.dv [] (.int .i64 (x.1))), (.dv [] (.int .i64 (x.2.1))), (.dv [] (.str (x.2.2)))], .agg [(.dv [] (.bool (y.1))), (.dv [] (.bool (y.2.1))), (.dv [] (.int .i64 (y.2.2.1.1))), (.dv [] (.int .i64 (y.2.2.1.2.1))), (.dv [] (.str (y.2.2.1.2.2))), (.dv [] (.int .i64 (y.2.2.2.1))), (.dv [] (.int .i64 (y.2.2.2.2.1))), (.dv [] (.str (y.2.2.2.2.2)))]] (.one (.dv [] (.bool (a6c x y)))) := by
 refine ⟨a0Q Tryz.func116 rfl Tryz.ntmps116 Tryz.results116 rfl (fun C => ?_)⟩
 refine yF 0 0 rfl rfl fun f0_0 => ?_
 refine yF 0 1 rfl rfl fun f0_1 => ?_
 refine yF 0 2 rfl rfl fun f0_2 => ?_
 refine yF 1 2 rfl rfl fun f1_2 => ?_
 refine yF 1 3 rfl rfl fun f1_3 => ?_
 refine yF 1 4 rfl rfl fun f1_4 => ?_
 refine yF 1 5 rfl rfl fun f1_5 => ?_
 refine yF 1 6 rfl rfl fun f1_6 => ?_
 refine yF 1 7 rfl rfl fun f1_7 => ?_
 iterate 8 refine z ?_
 refine zC Tryz.call85 ?_ (hf := a7b)
 iterate 7 refine z ?_
 refine a1P (a3W rfl rfl rfl rfl rfl) rfl rfl Tryz.call85 a7b (fun hg => (a0g (a0z rfl hg) (a0u (a0d a0c (a0d a0c (a0d a0c a0t)))) a0q)) rfl rfl ?_
 iterate 9 refine z ?_
 refine a1P (a3W rfl rfl rfl rfl rfl) rfl rfl Tryz.call85 a7b (fun hg => (a0g (a0z rfl hg) (a0u (a0d a0c (a0d a0c (a0d a0c a0t)))) a0q)) rfl rfl ?_
 iterate 4 refine z ?_
 refine yQ rfl (fun c1 => ?_) fun c1 => ?_
 ·iterate 6 refine z ?_
 unfold a6c; rw [c1]; rfl
 ·iterate 10 refine z ?_
 refine a1P (a1t rfl rfl rfl rfl rfl) rfl rfl Tryz.call87 a9v (fun hg => (a0g (a0z rfl hg) (a0u (a0d a0c (a0d a0c (a0d a0c a0t)))) (a0g (a0z rfl hg) (a0u (a0d a0c (a0d a0c (a0d a0c a0t)))) a0q))) rfl rfl ?_
 iterate 10 refine z ?_
 refine a1P (a3W rfl rfl rfl rfl rfl) rfl rfl Tryz.call87 a9v (fun hg => (a0g (a0z rfl hg) (a0u (a0d a0c (a0d a0c (a0d a0c a0t)))) (a0g (a0z rfl hg) (a0u (a0d a0c (a0d a0c (a0d a0c a0t)))) a0q))) rfl rfl ?_
 iterate 7 refine z ?_
 have h1 := b0k x y.2.2.1; have h2 := b0k x y.2.2.2; unfold a6c; rw [c1]; cases y.1 <;> cases y.2.1 <;> simp <;> grind
def bef (f : Str) (a b : a0U) : Bool := decide ((a1a a.2 f).1 < (a1a b.2 f).1) || (decide ((a1a a.2 f).1 = (a1a b.2 f).1) && decide (a2N a.1 b.1 < 0))
def a3R (f : Str) (x : a0U) (o : List a0U) : Nat → Nat
 | 0 => 0
 | k + 1 => if bef f x (o.getD k default) then a3R f x o k else k + 1
def a1Z (o : List a0U) (j : Nat) (y : a0U) : List a0U := o.take j ++ [y] ++ o.drop j
def a0I (f : Str) (its : List a0U) : Nat → List a0U
 | 0 => []
 | k + 1 => if (a1a (its.getD (k : Int).toNat default).2 f).2 then a1Z (a0I f its k) (a3R f (its.getD (k : Int).toNat default) (a0I f its k) (a0I f its k).length) (its.getD (k : Int).toNat default) else a0I f its k
theorem a8v {o : List a0U} {j : Nat} {y : a0U} : (a1Z o j y).length = o.length + 1 := by simp only [a1Z, List.length_append, List.length_take, List.length_drop, List.length_singleton]; omega
theorem b0u (f : Str) (its : List a0U) : ∀ k, (a0I f its k).length ≤ k
 | 0 => Nat.le_refl _
 | k + 1 => by have := b0u f its k; rw [a0I]; split <;> (try rw [a8v]) <;> omega
theorem b1F {f : Str} {its : List a0U} {k : Nat} (h : (a1a (its.getD (k : Int).toNat default).2 f).2 = true) : a0I f its (k + 1) = a1Z (a0I f its k) (a3R f (its.getD (k : Int).toNat default) (a0I f its k) (a0I f its k).length) (its.getD (k : Int).toNat default) := by rw [a0I, if_pos h]
theorem b8i {f : Str} {its : List a0U} {k : Nat} (h : (a1a (its.getD (k : Int).toNat default).2 f).2 = false) : a0I f its k = a0I f its (k + 1) := by rw [a0I, if_neg (by rw [h]; simp)]
theorem b6j {f : Str} {x : a0U} {o : List a0U} {j : Nat} (h : (decide (0 < (j : Int)) && bef f x (o.getD ((j : Int) - 1).toNat default)) = true) : 0 < j ∧ a3R f x o j = a3R f x o (j - 1) := by
 obtain ⟨h1, h2⟩ := (Bool.and_eq_true _ _ ▸ h : _ ∧ _)
 have h1 := of_decide_eq_true h1
 cases j with
 | zero => simp at h1
 | succ k =>
 have e : (((k + 1 : Nat) : Int) - 1).toNat = k := by omega
 rw [e] at h2
 exact ⟨by omega, by rw [a3R, if_pos h2]; rfl⟩
theorem b5k {f : Str} {x : a0U} {o : List a0U} {j : Nat} (h : (decide (0 < (j : Int)) && bef f x (o.getD ((j : Int) - 1).toNat default)) = false) : a3R f x o j = j := by
 cases j with
 | zero => rfl
 | succ k =>
 have e : (((k + 1 : Nat) : Int) - 1).toNat = k := by omega
 rw [e, decide_eq_true (by omega : (0 : Int) < ((k + 1 : Nat) : Int)), Bool.true_and] at h
 rw [a3R, if_neg (by rw [h]; simp)]
theorem a7k {α : Type} {enc : α → List DV} {sz : Nat} (hs : ∀ x, (enc x).length = sz) : ∀ (n : Nat) (xs : List α), (xs.flatMap enc).take (n * sz) = (xs.take n).flatMap enc ∧ (xs.flatMap enc).drop (n * sz) = (xs.drop n).flatMap enc
 | 0, xs => by simp
 | n + 1, [] => by simp
 | n + 1, x :: xs => by
 obtain ⟨h1, h2⟩ := a7k hs n xs
 rw [List.flatMap_cons, Nat.add_mul, Nat.one_mul, Nat.add_comm (n * sz) sz, ← hs x, List.take_length_add_append, List.take_succ_cons, List.flatMap_cons, hs x, h1, List.drop_succ_cons, ← h2]
 exact ⟨rfl, by rw [← hs x, List.drop_length_add_append]⟩
theorem c0A {o : List a0U} {j : Nat} {y : a0U} : a5r (o.flatMap a0H) (((j : Nat) : Int).toNat * 4) (a0H y) = (a1Z o j y).flatMap a0H := by
 obtain ⟨h1, h2⟩ := a7k (enc := a0H) (sz := 4) (fun _ => rfl) j o
 rw [a5r, Int.toNat_natCast, h1, h2, a1Z, List.flatMap_append, List.flatMap_append, List.flatMap_cons, List.flatMap_nil, List.append_nil]
theorem b9V {o : List a0U} {j : Nat} : ([] : List DV) ++ sub (0 * 4) ((((j : Nat) : Int).toNat - 0) * 4) (o.flatMap a0H) = (o.take j).flatMap a0H := by
 obtain ⟨h1, h2⟩ := a7k (enc := a0H) (sz := 4) (fun _ => rfl) j o
 rw [Int.toNat_natCast, Nat.sub_zero, Nat.zero_mul, sub, List.drop_zero, List.nil_append, h1]
theorem b9M {o : List a0U} {j : Nat} : a5q (o.flatMap a0H) (0 * 4) ((((j : Nat) : Int).toNat - 0) * 4) = List.replicate (j * 4) .hole ++ (o.drop j).flatMap a0H := by
 obtain ⟨h1, h2⟩ := a7k (enc := a0H) (sz := 4) (fun _ => rfl) j o
 rw [Int.toNat_natCast, Nat.sub_zero, Nat.zero_mul, a5q, List.drop_zero, h2]; rfl
theorem c0F {o : List a0U} {j : Nat} {el : a0U} (hj : j ≤ o.length) : (o.take j ++ [el]).flatMap a0H ++ sub (((j : Nat) : Int).toNat * 4) ((o.length - ((j : Nat) : Int).toNat) * 4) (List.replicate (j * 4) .hole ++ (o.drop j).flatMap a0H) = (a1Z o j el).flatMap a0H := by
 have hl : ((o.drop j).flatMap a0H).length = (o.length - j) * 4 := by
 have : ∀ l : List a0U, (l.flatMap a0H).length = l.length * 4 := fun l => by
  induction l with
  | nil => rfl
  | cons x l ih => rw [List.flatMap_cons, List.length_append, ih, List.length_cons]; show 4 + l.length * 4 = (l.length + 1) * 4; omega
 rw [this, List.length_drop]
 have e : (List.replicate (j * 4) DV.hole ++ (o.drop j).flatMap a0H).drop (j * 4) = (o.drop j).flatMap a0H := by
 have h := List.drop_left (l₁ := List.replicate (j * 4) DV.hole) (l₂ := (o.drop j).flatMap a0H)
 rwa [List.length_replicate] at h
 rw [Int.toNat_natCast, sub, e, List.take_of_length_le (l := (o.drop j).flatMap a0H) (by rw [hl]; exact Nat.le_refl _)]
 simp only [a1Z, List.flatMap_append]
theorem c4o {x y : a0U} {f : Str}  : PFn Tryz.prog 120 [.agg [(.dv [] (.int .i64 (x.1.1))), (.dv [] (.int .i64 (x.1.2.1))), (.dv [] (.str (x.1.2.2))), (.dv [] (a0J (x.2)))], .agg [(.dv [] (.int .i64 (y.1.1))), (.dv [] (.int .i64 (y.1.2.1))), (.dv [] (.str (y.1.2.2))), (.dv [] (a0J (y.2)))], .one (.dv [] (.str (f)))] (.one (.dv [] (.bool (bef f x y)))) := by
 refine ⟨a0Q Tryz.func120 rfl Tryz.ntmps120 Tryz.results120 rfl (fun C => ?_)⟩
 refine yF 0 0 rfl rfl fun f0_0 => ?_
 refine yF 0 1 rfl rfl fun f0_1 => ?_
 refine yF 0 2 rfl rfl fun f0_2 => ?_
 refine yF 0 3 rfl rfl fun f0_3 => ?_
 refine yF 1 0 rfl rfl fun f1_0 => ?_
 refine yF 1 1 rfl rfl fun f1_1 => ?_
 refine yF 1 2 rfl rfl fun f1_2 => ?_
 refine yF 1 3 rfl rfl fun f1_3 => ?_
 refine a1k (x := .tmp 2) (a0a rfl) fun f2 => ?_
 iterate 9 refine z ?_
 refine zC Tryz.call105 ?_ (hf := a5Q)
 iterate 10 refine z ?_
 refine zC Tryz.call105 ?_ (hf := a5Q)
 iterate 19 refine z ?_
 refine a1P (a3W rfl rfl rfl rfl rfl) rfl rfl Tryz.call100 b0g (fun hg => (a0g (a0z rfl hg) (a0u (a0d a0c (a0d a0c (a0d a0c a0t)))) (a0g (a0z rfl hg) (a0u (a0d a0c (a0d a0c (a0d a0c a0t)))) a0q))) rfl rfl ?_
 iterate 7 refine z ?_
 unfold bef; grind
theorem c6a {x : a0G} {f : Str} (hb : a1g x ≤ 1048576) : KFn Tryz.prog 104 [.agg [(.dv [] (.str (x.1))), (.dv [] (a0x (x.2.1))), (.dv [] (.int .i64 (x.2.2)))], .one (.dv [] (.str (f)))] (.one (.key 11)) [(11, some (a0b false (a0x (a0I f x.2.1 x.2.1.length))))] := by
 refine ⟨a0Q Tryz.func104 rfl Tryz.ntmps104 Tryz.results104 rfl (fun C => ?_)⟩
 refine yF 0 0 rfl rfl fun f0_0 => ?_
 refine yF 0 1 rfl rfl fun f0_1 => ?_
 refine yF 0 2 rfl rfl fun f0_2 => ?_
 refine a1k (x := .tmp 1) (a0a rfl) fun f1 => ?_
 iterate 5 refine z ?_
 refine a2H (k := 11) hT rfl rfl rfl rfl rfl rfl rfl rfl ?_
 iterate 10 refine z ?_
 refine a1l (ι := Nat) (fun zz => ⟨[(1, .one (.dv [] (.str (f)))), (4, .one .nil), (5, .one (.key 11)), (13, .one (.dv [] (a0x (x.2.1)))), (14, .one (.dv [] (.int .i64 ((((x.2.1)).length : Int))))), (15, .one (.dv [] (.int .i64 ((zz : Int)))))], [], [(11, some (a0b false (.sl 119 4 ((a0I f x.2.1 zz).length) ((a0I f x.2.1 zz).flatMap a0H))))]⟩) (fun zz => zz ≤ x.2.1.length) (fun zz => x.2.1.length - zz) (0) ?_ (a0e ⟨rfl, rfl, rfl, rfl, rfl, rfl, trivial⟩ trivial ⟨rfl, trivial⟩ rfl) (fun zz hx => ?_)
 ·exact Nat.zero_le _
 obtain ⟨k, rfl⟩ : ∃ v, v = zz := ⟨_, rfl⟩
 replace hx : k ≤ x.2.1.length := hx
 have hw := fun h => a5C a1Q x.2.1 k h
 have hol := b0u f x.2.1 k
 show Ok _ _ _ _ _ (⟨[(1, .one (.dv [] (.str (f)))), (4, .one .nil), (5, .one (.key 11)), (13, .one (.dv [] (a0x (x.2.1)))), (14, .one (.dv [] (.int .i64 ((((x.2.1)).length : Int))))), (15, .one (.dv [] (.int .i64 ((k : Int)))))], [], [(11, some (a0b false (.sl 119 4 ((a0I f x.2.1 k).length) ((a0I f x.2.1 k).flatMap a0H))))]⟩ : St)
 iterate 3 refine z ?_
 refine a0s ?_
 refine yQ rfl (fun c1 => ?_) fun c1 => ?_
 ·have d1 := of_decide_eq_true c1
 have hk2 : k < x.2.1.length := by omega
 have hlen : x.2.1.length ≤ 1048576 := by have h3 : a1g x = x.1.size + (x.2.1.length + a0V a1Q x.2.1) := rfl; omega
 have hrec : a1Q (x.2.1.getD (k : Int).toNat default) ≤ 1099511627776 := by have := hw hk2; have h3 : a1g x = x.1.size + (x.2.1.length + a0V a1Q x.2.1) := rfl; omega
 iterate 15 refine z ?_
 refine zC Tryz.call105 ?_ (hf := a5Q)
 iterate 10 refine z ?_
 refine yQ rfl (fun c2 => ?_) fun c2 => ?_
 ·iterate 4 refine z ?_
  refine a0n ?_
  iterate 3 refine z ?_
  refine ⟨k + 1, ?_, ?_, a0e ⟨rfl, rfl, rfl, rfl, rfl, rfl, trivial⟩ trivial ⟨(congrArg (fun l : List a0U => some (some (KC.mk false 119 4 l.length (l.flatMap a0H)))) (b8i (by simpa using c2))), trivial⟩ rfl⟩
  ·omega
  ·omega
 ·iterate 4 refine z ?_
  refine yO rfl rfl (a2J (n := ((a0I f x.2.1 k).length)) hT rfl rfl (a0a rfl) rfl rfl) rfl ?_
  iterate 4 refine z ?_
  refine a1l (ι := Nat) (fun zz => ⟨[(1, .one (.dv [] (.str (f)))), (4, .one .nil), (5, .one (.key 11)), (7, .box 7 0), (10, .one (.dv [] (.int .i64 ((zz : Int))))), (13, .one (.dv [] (a0x (x.2.1)))), (14, .one (.dv [] (.int .i64 ((((x.2.1)).length : Int))))), (15, .one (.dv [] (.int .i64 ((k : Int)))))], [(7, 119, [(.dv [] (.int .i64 ((((x.2.1)).getD ((k : Int)).toNat default).1.1))), (.dv [] (.int .i64 ((((x.2.1)).getD ((k : Int)).toNat default).1.2.1))), (.dv [] (.str ((((x.2.1)).getD ((k : Int)).toNat default).1.2.2))), (.dv [] (a0J ((((x.2.1)).getD ((k : Int)).toNat default).2)))])], [(11, some (a0b false (.sl 119 4 ((a0I f x.2.1 k).length) ((a0I f x.2.1 k).flatMap a0H))))]⟩) (fun zz => zz ≤ (a0I f x.2.1 k).length ∧ a3R f (x.2.1.getD (k : Int).toNat default) (a0I f x.2.1 k) (a0I f x.2.1 k).length = a3R f (x.2.1.getD (k : Int).toNat default) (a0I f x.2.1 k) zz) (fun zz => zz) ((a0I f x.2.1 k).length) ?_ (a0e ⟨rfl, rfl, rfl, rfl, rfl, rfl, rfl, rfl, trivial⟩ ⟨rfl, trivial⟩ ⟨rfl, trivial⟩ rfl) (fun zz hx => ?_)
  ·exact ⟨Nat.le_refl _, rfl⟩
  obtain ⟨j, rfl⟩ : ∃ v, v = zz := ⟨_, rfl⟩
  replace hx : j ≤ (a0I f x.2.1 k).length ∧ a3R f (x.2.1.getD (k : Int).toNat default) (a0I f x.2.1 k) (a0I f x.2.1 k).length = a3R f (x.2.1.getD (k : Int).toNat default) (a0I f x.2.1 k) j := hx
  obtain ⟨hj, hp⟩ := hx
  show Ok _ _ _ _ _ (⟨[(1, .one (.dv [] (.str (f)))), (4, .one .nil), (5, .one (.key 11)), (7, .box 7 0), (10, .one (.dv [] (.int .i64 ((j : Int))))), (13, .one (.dv [] (a0x (x.2.1)))), (14, .one (.dv [] (.int .i64 ((((x.2.1)).length : Int))))), (15, .one (.dv [] (.int .i64 ((k : Int)))))], [(7, 119, [(.dv [] (.int .i64 ((((x.2.1)).getD ((k : Int)).toNat default).1.1))), (.dv [] (.int .i64 ((((x.2.1)).getD ((k : Int)).toNat default).1.2.1))), (.dv [] (.str ((((x.2.1)).getD ((k : Int)).toNat default).1.2.2))), (.dv [] (a0J ((((x.2.1)).getD ((k : Int)).toNat default).2)))])], [(11, some (a0b false (.sl 119 4 ((a0I f x.2.1 k).length) ((a0I f x.2.1 k).flatMap a0H))))]⟩ : St)
  refine a0s ?_
  refine a0s ?_
  refine a1N (oB := [7]) (oK := [11]) (by kernel_rfl) rfl rfl ?_
  refine zD 0 ?_
  refine zD 1 ?_
  refine zD 2 ?_
  refine zDG 3 ?_
  refine a8a 4 rfl (by kernel_rfl) (a1t rfl rfl rfl rfl rfl) rfl (fun hg => a0N (v := .one (.dv [11] (a0x (a0I f x.2.1 k)))) (.inl rfl) (a2P (a0a rfl) rfl rfl)) rfl rfl rfl rfl ?_
  refine zDG 5 ?_
  refine zDG 6 ?_
  refine zDG 7 ?_
  refine zDG 8 ?_
  refine zDG 9 ?_
  refine a3Q 10 rfl (by kernel_rfl) (a1t rfl rfl rfl rfl rfl) rfl rfl Tryz.call120 c4o (fun hg => (a0g (a0z rfl hg) (a0u (a0d a0c (a0d a0c (a0d a0c (a0d a0c a0t))))) (a0g (a0z rfl hg) (a0u (a0d a0c (a0d a0c (a0d a0c (a0d a0c a0t))))) (a0g (a0z rfl hg) (a0D a0c) a0q)))) rfl rfl ?_
  refine zD 11 ?_
  refine a1S (by kernel_rfl) ?_
  refine z ?_
  refine yQ rfl (fun c3 => ?_) fun c3 => ?_
  ·have hst := b6j c3
  have hst1 := hst.1
  iterate 3 refine z ?_
  refine a0n ?_
  iterate 3 refine z ?_
  refine a1J ?_
  iterate 2 refine z ?_
  refine ⟨j - 1, ?_, ?_, a0e ⟨rfl, rfl, rfl, rfl, (congrArg (fun z : Int => some (SV.one (CV.dv [] (DV.int .i64 z)))) (show ((j : Int) - 1) = ((j - 1 : Nat) : Int) by omega)), rfl, rfl, rfl, trivial⟩ ⟨rfl, trivial⟩ ⟨rfl, trivial⟩ rfl⟩
  ·exact ⟨by omega, hp.trans hst.2⟩
  ·omega
  ·have hpos := hp.trans (b5k c3)
  iterate 5 refine z ?_
  refine a0n ?_
  iterate 3 refine z ?_
  refine zK 47000 Tryz.call94 ?_ (hf := b9a (by first | omega | exact Nat.le_trans (a6j _) hrec | exact Nat.le_trans (a6j _) (Nat.le_trans hrec (by decide))))
  refine a3D (k := 48) (js := [54003]) hT rfl rfl rfl rfl rfl rfl rfl rfl rfl (a0a rfl) rfl rfl (a0o (a0R rfl) (a0o (a0R rfl) (a0o (a0R rfl) (a0o (a1f rfl) a1z rfl) rfl) rfl) rfl) (by decide) (by decide) rfl rfl ?_
  simp only [a0p, a0k, SV.kill, CV.kill, kk, Nat.reduceBEq]
  refine b3r (k := 11) (j := 48) (cs := (a0I f x.2.1 (k + 1)).flatMap a0H) (n := (a0I f x.2.1 (k + 1)).length) (b7o rfl rfl (by decide)) rfl rfl Tryz.call121 rfl rfl (a0a rfl) rfl rfl rfl (a0a rfl) (by omega) (by dsimp only [a0b]; omega) (a0a rfl) rfl rfl rfl rfl (by decide) (by dsimp only [a0b]; omega) (by dsimp only [a0b]; omega) (by rw [b1F (by simpa using c2), a8v]) (by rw [b1F (by simpa using c2), hpos]; exact c0A) ?_
  simp only [a0p, a0k, SV.kill, CV.kill, kk, Nat.reduceBEq]
  refine z ?_
  refine a1J ?_
  iterate 2 refine z ?_
  refine a0n ?_
  iterate 3 refine z ?_
  refine ⟨k + 1, ?_, ?_, a0e ⟨rfl, rfl, rfl, rfl, rfl, rfl, trivial⟩ trivial ⟨rfl, trivial⟩ rfl⟩
  ·omega
  ·omega
 ·have d1 := of_decide_eq_false c1
 iterate 9 refine z ?_
 refine a0h (σ' := ⟨[(4, .one (.key 11))], [], [(11, some (a0b false (a0x (a0I f x.2.1 x.2.1.length))))]⟩) (a0e ⟨rfl, trivial⟩ trivial ⟨(congrArg (fun m : Nat => some (some (KC.mk false 119 4 (a0I f x.2.1 m).length ((a0I f x.2.1 m).flatMap a0H)))) (show k = x.2.1.length by omega)), trivial⟩ rfl) ?_
 refine z ?_
 refine a1r (a0m rfl) ?_
 exact ⟨rfl, rfl⟩
theorem c3U {x y : a0U} {f : Str}  : PFn Tryz.prog 115 [.agg [(.dv [] (.int .i64 (x.1.1))), (.dv [] (.int .i64 (x.1.2.1))), (.dv [] (.str (x.1.2.2))), (.dv [] (a0J (x.2)))], .agg [(.dv [] (.int .i64 (y.1.1))), (.dv [] (.int .i64 (y.1.2.1))), (.dv [] (.str (y.1.2.2))), (.dv [] (a0J (y.2)))], .one (.dv [] (.str (f)))] (.one (.dv [] (.bool (bef f x y)))) := by
 refine ⟨a0Q Tryz.func115 rfl Tryz.ntmps115 Tryz.results115 rfl (fun C => ?_)⟩
 refine yF 0 0 rfl rfl fun f0_0 => ?_
 refine yF 0 1 rfl rfl fun f0_1 => ?_
 refine yF 0 2 rfl rfl fun f0_2 => ?_
 refine yF 0 3 rfl rfl fun f0_3 => ?_
 refine yF 1 0 rfl rfl fun f1_0 => ?_
 refine yF 1 1 rfl rfl fun f1_1 => ?_
 refine yF 1 2 rfl rfl fun f1_2 => ?_
 refine yF 1 3 rfl rfl fun f1_3 => ?_
 refine a1k (x := .tmp 2) (a0a rfl) fun f2 => ?_
 iterate 9 refine z ?_
 refine zC Tryz.call89 ?_ (hf := a7D)
 iterate 10 refine z ?_
 refine zC Tryz.call89 ?_ (hf := a7D)
 iterate 19 refine z ?_
 refine a1P (a3W rfl rfl rfl rfl rfl) rfl rfl Tryz.call87 a9v (fun hg => (a0g (a0z rfl hg) (a0u (a0d a0c (a0d a0c (a0d a0c a0t)))) (a0g (a0z rfl hg) (a0u (a0d a0c (a0d a0c (a0d a0c a0t)))) a0q))) rfl rfl ?_
 iterate 7 refine z ?_
 unfold bef; grind
theorem c4r {x : a0G} {f : Str} (hb : a1g x ≤ 1048576) : KFn Tryz.prog 88 [.agg [(.dv [] (.str (x.1))), (.dv [] (a0x (x.2.1))), (.dv [] (.int .i64 (x.2.2)))], .one (.dv [] (.str (f)))] (.one (.key 11)) [(11, some (a0b false (a0x (a0I f x.2.1 x.2.1.length))))] := by
 refine ⟨a0Q Tryz.func88 rfl Tryz.ntmps88 Tryz.results88 rfl (fun C => ?_)⟩
 refine yF 0 0 rfl rfl fun f0_0 => ?_
 refine yF 0 1 rfl rfl fun f0_1 => ?_
 refine yF 0 2 rfl rfl fun f0_2 => ?_
 refine a1k (x := .tmp 1) (a0a rfl) fun f1 => ?_
 iterate 5 refine z ?_
 refine a2H (k := 11) hT rfl rfl rfl rfl rfl rfl rfl rfl ?_
 iterate 7 refine z ?_
 refine a1l (ι := Nat) (fun zz => ⟨[(1, .one (.dv [] (.str (f)))), (2, .box 2 0), (4, .one .nil), (5, .one (.key 11)), (6, .one (.dv [] (.int .i64 ((zz : Int)))))], [(2, 77, [(.dv [] (.str (x.1))), (.dv [] (a0x (x.2.1))), (.dv [] (.int .i64 (x.2.2)))])], [(11, some (a0b false (.sl 119 4 ((a0I f x.2.1 zz).length) ((a0I f x.2.1 zz).flatMap a0H))))]⟩) (fun zz => zz ≤ x.2.1.length) (fun zz => x.2.1.length - zz) (0) ?_ (a0e ⟨rfl, rfl, rfl, rfl, rfl, trivial⟩ ⟨rfl, trivial⟩ ⟨rfl, trivial⟩ rfl) (fun zz hx => ?_)
 ·exact Nat.zero_le _
 obtain ⟨k, rfl⟩ : ∃ v, v = zz := ⟨_, rfl⟩
 replace hx : k ≤ x.2.1.length := hx
 have hw := fun h => a5C a1Q x.2.1 k h
 have hol := b0u f x.2.1 k
 show Ok _ _ _ _ _ (⟨[(1, .one (.dv [] (.str (f)))), (2, .box 2 0), (4, .one .nil), (5, .one (.key 11)), (6, .one (.dv [] (.int .i64 ((k : Int)))))], [(2, 77, [(.dv [] (.str (x.1))), (.dv [] (a0x (x.2.1))), (.dv [] (.int .i64 (x.2.2)))])], [(11, some (a0b false (.sl 119 4 ((a0I f x.2.1 k).length) ((a0I f x.2.1 k).flatMap a0H))))]⟩ : St)
 iterate 8 refine z ?_
 refine yQ rfl (fun c1 => ?_) fun c1 => ?_
 ·have d1 := of_decide_eq_true c1
 have hk2 : k < x.2.1.length := by omega
 have hlen : x.2.1.length ≤ 1048576 := by have h3 : a1g x = x.1.size + (x.2.1.length + a0V a1Q x.2.1) := rfl; omega
 have hrec : a1Q (x.2.1.getD (k : Int).toNat default) ≤ 1099511627776 := by have := hw hk2; have h3 : a1g x = x.1.size + (x.2.1.length + a0V a1Q x.2.1) := rfl; omega
 iterate 13 refine z ?_
 refine zC Tryz.call89 ?_ (hf := a7D)
 iterate 10 refine z ?_
 refine yQ rfl (fun c2 => ?_) fun c2 => ?_
 ·iterate 4 refine z ?_
  refine a0n ?_
  iterate 4 refine z ?_
  refine ⟨k + 1, ?_, ?_, a0e ⟨rfl, rfl, rfl, rfl, rfl, trivial⟩ ⟨rfl, trivial⟩ ⟨(congrArg (fun l : List a0U => some (some (KC.mk false 119 4 l.length (l.flatMap a0H)))) (b8i (by simpa using c2))), trivial⟩ rfl⟩
  ·omega
  ·omega
 ·iterate 4 refine z ?_
  refine yO rfl rfl (a2J (n := ((a0I f x.2.1 k).length)) hT rfl rfl (a0a rfl) rfl rfl) rfl ?_
  iterate 4 refine z ?_
  refine a1l (ι := Nat) (fun zz => ⟨[(1, .one (.dv [] (.str (f)))), (2, .box 2 0), (4, .one .nil), (5, .one (.key 11)), (6, .one (.dv [] (.int .i64 ((k : Int))))), (9, .one (.dv [] (.int .i64 ((zz : Int)))))], [(2, 77, [(.dv [] (.str (x.1))), (.dv [] (a0x (x.2.1))), (.dv [] (.int .i64 (x.2.2)))])], [(11, some (a0b false (.sl 119 4 ((a0I f x.2.1 k).length) ((a0I f x.2.1 k).flatMap a0H))))]⟩) (fun zz => zz ≤ (a0I f x.2.1 k).length ∧ a3R f (x.2.1.getD (k : Int).toNat default) (a0I f x.2.1 k) (a0I f x.2.1 k).length = a3R f (x.2.1.getD (k : Int).toNat default) (a0I f x.2.1 k) zz) (fun zz => zz) ((a0I f x.2.1 k).length) ?_ (a0e ⟨rfl, rfl, rfl, rfl, rfl, rfl, trivial⟩ ⟨rfl, trivial⟩ ⟨rfl, trivial⟩ rfl) (fun zz hx => ?_)
  ·exact ⟨Nat.le_refl _, rfl⟩
  obtain ⟨j, rfl⟩ : ∃ v, v = zz := ⟨_, rfl⟩
  replace hx : j ≤ (a0I f x.2.1 k).length ∧ a3R f (x.2.1.getD (k : Int).toNat default) (a0I f x.2.1 k) (a0I f x.2.1 k).length = a3R f (x.2.1.getD (k : Int).toNat default) (a0I f x.2.1 k) j := hx
  obtain ⟨hj, hp⟩ := hx
  show Ok _ _ _ _ _ (⟨[(1, .one (.dv [] (.str (f)))), (2, .box 2 0), (4, .one .nil), (5, .one (.key 11)), (6, .one (.dv [] (.int .i64 ((k : Int))))), (9, .one (.dv [] (.int .i64 ((j : Int)))))], [(2, 77, [(.dv [] (.str (x.1))), (.dv [] (a0x (x.2.1))), (.dv [] (.int .i64 (x.2.2)))])], [(11, some (a0b false (.sl 119 4 ((a0I f x.2.1 k).length) ((a0I f x.2.1 k).flatMap a0H))))]⟩ : St)
  refine a0s ?_
  refine a0s ?_
  refine a1N (oB := [2]) (oK := [11]) (by kernel_rfl) rfl rfl ?_
  refine zD 0 ?_
  refine zD 1 ?_
  refine zD 2 ?_
  refine zDG 3 ?_
  refine zDG 4 ?_
  refine zDG 5 ?_
  refine zDG 6 ?_
  refine zDG 7 ?_
  refine a8a 8 rfl (by kernel_rfl) (a1t rfl rfl rfl rfl rfl) rfl (fun hg => a0N (v := .one (.dv [11] (a0x (a0I f x.2.1 k)))) (.inl rfl) (a2P (a0a rfl) rfl rfl)) rfl rfl rfl rfl ?_
  refine zDG 9 ?_
  refine zDG 10 ?_
  refine zDG 11 ?_
  refine zDG 12 ?_
  refine zDG 13 ?_
  refine a3Q 14 rfl (by kernel_rfl) (a1t rfl rfl rfl rfl rfl) rfl rfl Tryz.call115 c3U (fun hg => (a0g (a0z rfl hg) (a0u (a0d a0c (a0d a0c (a0d a0c (a0d a0c a0t))))) (a0g (a0z rfl hg) (a0u (a0d a0c (a0d a0c (a0d a0c (a0d a0c a0t))))) (a0g (a0z rfl hg) (a0D a0c) a0q)))) rfl rfl ?_
  refine zD 15 ?_
  refine a1S (by kernel_rfl) ?_
  refine z ?_
  refine yQ rfl (fun c3 => ?_) fun c3 => ?_
  ·have hst := b6j c3
  have hst1 := hst.1
  iterate 3 refine z ?_
  refine a0n ?_
  iterate 3 refine z ?_
  refine a1J ?_
  iterate 2 refine z ?_
  refine ⟨j - 1, ?_, ?_, a0e ⟨rfl, rfl, rfl, rfl, rfl, (congrArg (fun z : Int => some (SV.one (CV.dv [] (DV.int .i64 z)))) (show ((j : Int) - 1) = ((j - 1 : Nat) : Int) by omega)), trivial⟩ ⟨rfl, trivial⟩ ⟨rfl, trivial⟩ rfl⟩
  ·exact ⟨by omega, hp.trans hst.2⟩
  ·omega
  ·have hpos := hp.trans (b5k c3)
  iterate 6 refine z ?_
  refine a2H (k := 52) hT rfl rfl rfl rfl rfl rfl rfl rfl ?_
  iterate 2 refine z ?_
  refine b4c (k := 52) (j := 11) (s := 5) (n := ((a0I f x.2.1 k).take j).length) (cs := ((a0I f x.2.1 k).take j).flatMap a0H) (c2s := List.replicate (j * 4) .hole ++ ((a0I f x.2.1 k).drop j).flatMap a0H) hT rfl rfl rfl (b3v hT rfl rfl rfl (a0a rfl) rfl (a0a rfl) (by omega) (by dsimp only [a0b]; omega)) rfl rfl rfl rfl rfl rfl rfl (a0a rfl) rfl rfl rfl rfl rfl rfl (by decide) rfl rfl ⟨rfl, rfl⟩ (by omega) (by dsimp only [a0b]; omega) (by dsimp only [a0b]; omega) (by dsimp only [a0b]; omega) (by rw [List.length_take, Nat.min_eq_left (by omega)]; simp) (b9V) (b9M) ?_
  simp only [a0p, a0k, SV.kill, CV.kill, kk, Nat.reduceBEq]
  iterate 9 refine z ?_
  refine zK 63000 Tryz.call84 ?_ (hf := b3q (by first | omega | exact Nat.le_trans (a6j _) hrec | exact Nat.le_trans (a6j _) (Nat.le_trans hrec (by decide))))
  refine a3D (k := 64) (js := [70003]) hT rfl rfl rfl rfl rfl rfl rfl rfl rfl (a0a rfl) rfl rfl (a0o (a0R rfl) (a0o (a0R rfl) (a0o (a0R rfl) (a0o (a1f rfl) a1z rfl) rfl) rfl) rfl) (by decide) (by decide) rfl rfl ?_
  simp only [a0p, a0k, SV.kill, CV.kill, kk, Nat.reduceBEq]
  refine a3f (k := 52) (j := 64) (cs := ((a0I f x.2.1 k).take j ++ [(x.2.1.getD (k : Int).toNat default)]).flatMap a0H) (n := ((a0I f x.2.1 k).take j ++ [(x.2.1.getD (k : Int).toNat default)]).length) hT rfl rfl rfl rfl rfl rfl rfl (a0a rfl) rfl rfl rfl (a0a rfl) rfl rfl (by decide) (by dsimp only [a0b]; simp only [List.length_take]; omega) (by dsimp only [a0b]; simp only [List.length_take]; omega) (by simp) (by rw [List.flatMap_append]; rfl) ?_
  simp only [a0p, a0k, SV.kill, CV.kill, kk, Nat.reduceBEq]
  iterate 2 refine z ?_
  refine a0n ?_
  iterate 3 refine z ?_
  refine b4c (k := 52) (j := 11) (s := 5) (n := (a0I f x.2.1 (k + 1)).length) (cs := (a0I f x.2.1 (k + 1)).flatMap a0H) (c2s := _) hT rfl rfl rfl (b4a hT rfl rfl rfl (a0a rfl) rfl (a0a rfl) (by omega) (by dsimp only [a0b]; omega)) rfl rfl rfl rfl rfl rfl rfl (a0a rfl) rfl rfl rfl rfl rfl rfl (by decide) rfl rfl ⟨rfl, rfl⟩ (by dsimp only [a0b]; omega) (by dsimp only [a0b]; omega) (by dsimp only [a0b]; simp only [List.length_append, List.length_take, List.length_singleton]; omega) (by dsimp only [a0b]; simp only [List.length_append, List.length_take, List.length_singleton]; omega) (by rw [b1F (by simpa using c2), a8v]; simp; omega) (by rw [b1F (by simpa using c2), hpos]; exact c0F hj) (rfl) ?_
  simp only [a0p, a0k, SV.kill, CV.kill, kk, Nat.reduceBEq]
  refine z ?_
  refine a1J ?_
  iterate 2 refine z ?_
  refine a0h (b1J (s := 5) (k := 52) (k' := 11) rfl rfl rfl (by decide) rfl) ?_
  simp only [a0p, a0k, SV.kill, CV.kill, kk, Nat.reduceBEq]
  refine a0n ?_
  iterate 4 refine z ?_
  refine ⟨k + 1, ?_, ?_, a0e ⟨rfl, rfl, rfl, rfl, rfl, trivial⟩ ⟨rfl, trivial⟩ ⟨rfl, trivial⟩ rfl⟩
  ·omega
  ·omega
 ·have d1 := of_decide_eq_false c1
 iterate 9 refine z ?_
 refine a0h (σ' := ⟨[(4, .one (.key 11))], [], [(11, some (a0b false (a0x (a0I f x.2.1 x.2.1.length))))]⟩) (a0e ⟨rfl, trivial⟩ trivial ⟨(congrArg (fun m : Nat => some (some (KC.mk false 119 4 (a0I f x.2.1 m).length ((a0I f x.2.1 m).flatMap a0H)))) (show k = x.2.1.length by omega)), trivial⟩ rfl) ?_
 refine z ?_
 refine a1r (a0m rfl) ?_
 exact ⟨rfl, rfl⟩
def a8O (f : Str) (l : List a0U) (k : Nat) : Bool := decide ((a1a (l.getD (k - 1) default).2 f).1 = (a1a (l.getD k default).2 f).1)
def ufN (f : Str) (l : List a0U) : Nat → Option Nat
 | 0 => none
 | k + 1 => (ufN f l k).or (if 1 ≤ k ∧ a8O f l k = true then some k else none)
def a3u (f : Str) (l : List a0U) : a0L × a0L × Bool := match ufN f l l.length with
 | some m => ((l.getD (m - 1) default).1, (l.getD m default).1, true)
 | none => ((0, 0, ByteArray.empty), (0, 0, ByteArray.empty), false)
theorem b7R {f : Str} {l : List a0U} {k m : Nat} (h : ufN f l k = some m) : ∀ d, ufN f l (k + d) = some m
 | 0 => h
 | d + 1 => by rw [← Nat.add_assoc, ufN, b7R h d]; rfl
theorem b8X {f : Str} {l : List a0U} {k : Nat} (h : ufN f l k = none) (h1 : 1 ≤ k) (hk : k < l.length) (hs : a8O f l k = true) : a3u f l = ((l.getD (k - 1) default).1, (l.getD k default).1, true) := by
 have h2 : ufN f l (k + 1) = some k := by rw [ufN, h, if_pos ⟨h1, hs⟩]; rfl
 have h3 := b7R h2 (l.length - (k + 1))
 rw [show k + 1 + (l.length - (k + 1)) = l.length by omega] at h3
 rw [a3u, h3]
theorem b8V {f : Str} {l : List a0U} (h : ufN f l l.length = none) : a3u f l = ((0, 0, ByteArray.empty), (0, 0, ByteArray.empty), false) := by rw [a3u, h]
theorem c0g {f : Str} {l : List a0U} {k : Nat} (h : ufN f l k = none) (hs : a8O f l k = false) : ufN f l (k + 1) = none := by rw [ufN, h, if_neg (by rw [hs]; simp)]; rfl
theorem b4E {f : Str} {l : List a0U} {k : Nat} (h1 : 1 ≤ k) : (a1a (l.getD ((k : Int) - 1).toNat default).2 f).1 = (a1a (l.getD (k : Int).toNat default).2 f).1 ↔ a8O f l k = true := by
 rw [show ((k : Int) - 1).toNat = k - 1 by omega, Int.toNat_natCast, a8O, decide_eq_true_iff]
theorem b6z {f : Str} {l : List a0U} {k : Nat} (h1 : 1 ≤ k) (h : ¬ (a1a (l.getD ((k : Int) - 1).toNat default).2 f).1 = (a1a (l.getD (k : Int).toNat default).2 f).1) : a8O f l k = false := by
 rw [b4E h1] at h; simpa using h
theorem b7D {f : Str} {l : List a0U} {k : Nat} (hu : ufN f l k = none) (hk : k ≤ 1 ∨ k ≤ l.length) (h : ¬ (k : Int) < (l.length : Int)) : ufN f l l.length = none := by
 by_cases e : l.length = k
 ·rw [e]; exact hu
 ·have : l.length = 0 := by omega
 rw [this]; rfl
theorem c5x {x : a0G} {f : Str} (hb : a1g x ≤ 1048576) : PFn Tryz.prog 77 [.agg [(.dv [] (.str (x.1))), (.dv [] (a0x (x.2.1))), (.dv [] (.int .i64 (x.2.2)))], .one (.dv [] (.str (f)))] (.tup [(true, [(.dv [] (.int .i64 ((a3u f (a0I f x.2.1 x.2.1.length)).1.1))), (.dv [] (.int .i64 ((a3u f (a0I f x.2.1 x.2.1.length)).1.2.1))), (.dv [] (.str ((a3u f (a0I f x.2.1 x.2.1.length)).1.2.2)))]), (true, [(.dv [] (.int .i64 ((a3u f (a0I f x.2.1 x.2.1.length)).2.1.1))), (.dv [] (.int .i64 ((a3u f (a0I f x.2.1 x.2.1.length)).2.1.2.1))), (.dv [] (.str ((a3u f (a0I f x.2.1 x.2.1.length)).2.1.2.2)))]), (false, [(.dv [] (.bool ((a3u f (a0I f x.2.1 x.2.1.length)).2.2)))])]) := by
 refine ⟨a0Q Tryz.func77 rfl Tryz.ntmps77 Tryz.results77 rfl (fun C => ?_)⟩
 refine yF 0 0 rfl rfl fun f0_0 => ?_
 refine yF 0 1 rfl rfl fun f0_1 => ?_
 refine yF 0 2 rfl rfl fun f0_2 => ?_
 refine a1k (x := .tmp 1) (a0a rfl) fun f1 => ?_
 iterate 9 refine z ?_
 refine zK 0 Tryz.call104 ?_ (hf := c6a (by omega))
 iterate 7 refine z ?_
 refine a1l (ι := Nat) (fun zz => ⟨[(1, .one (.dv [] (.str (f)))), (4, .box 4 0), (5, .box 5 0), (7, .one (.key 11)), (8, .one (.dv [] (.int .i64 ((zz : Int)))))], [(4, 60, [(.dv [] (.int .i64 (0))), (.dv [] (.int .i64 (0))), (.dv [] (.str (ByteArray.empty)))]), (5, 60, [(.dv [] (.int .i64 (0))), (.dv [] (.int .i64 (0))), (.dv [] (.str (ByteArray.empty)))])], [(11, some (a0b false (.sl 119 4 ((a0I f x.2.1 x.2.1.length).length) ((a0I f x.2.1 x.2.1.length).flatMap a0H))))]⟩) (fun zz => 1 ≤ zz ∧ (zz ≤ 1 ∨ zz ≤ (a0I f x.2.1 x.2.1.length).length) ∧ ufN f (a0I f x.2.1 x.2.1.length) zz = none) (fun zz => (a0I f x.2.1 x.2.1.length).length - zz) (1) ?_ (a0e ⟨rfl, rfl, rfl, rfl, rfl, trivial⟩ ⟨rfl, rfl, trivial⟩ ⟨rfl, trivial⟩ rfl) (fun zz hx => ?_)
 ·exact ⟨Nat.le_refl _, .inl (Nat.le_refl _), rfl⟩
 obtain ⟨k, rfl⟩ : ∃ v, v = zz := ⟨_, rfl⟩
 replace hx : 1 ≤ k ∧ (k ≤ 1 ∨ k ≤ (a0I f x.2.1 x.2.1.length).length) ∧ ufN f (a0I f x.2.1 x.2.1.length) k = none := hx
 obtain ⟨h1, hk, hu⟩ := hx
 have hlw := b0u f x.2.1 x.2.1.length
 have hlen : x.2.1.length ≤ 1048576 := by have h3 : a1g x = x.1.size + (x.2.1.length + a0V a1Q x.2.1) := rfl; omega
 show Ok _ _ _ _ _ (⟨[(1, .one (.dv [] (.str (f)))), (4, .box 4 0), (5, .box 5 0), (7, .one (.key 11)), (8, .one (.dv [] (.int .i64 ((k : Int)))))], [(4, 60, [(.dv [] (.int .i64 (0))), (.dv [] (.int .i64 (0))), (.dv [] (.str (ByteArray.empty)))]), (5, 60, [(.dv [] (.int .i64 (0))), (.dv [] (.int .i64 (0))), (.dv [] (.str (ByteArray.empty)))])], [(11, some (a0b false (.sl 119 4 ((a0I f x.2.1 x.2.1.length).length) ((a0I f x.2.1 x.2.1.length).flatMap a0H))))]⟩ : St)
 iterate 3 refine z ?_
 refine yO rfl rfl (a0N (v := .one (.dv [11] (a0x (a0I f x.2.1 x.2.1.length)))) (.inl rfl) (a2P (a0a rfl) rfl rfl)) rfl ?_
 iterate 3 refine z ?_
 refine yQ rfl (fun c1 => ?_) fun c1 => ?_
 ·have d1 := of_decide_eq_true c1
 iterate 5 refine z ?_
 refine yO rfl rfl (a0N (v := .one (.dv [11] (a0x (a0I f x.2.1 x.2.1.length)))) (.inl rfl) (a2P (a0a rfl) rfl rfl)) rfl ?_
 iterate 6 refine z ?_
 refine zC Tryz.call105 ?_ (hf := a5Q)
 iterate 7 refine z ?_
 refine yO rfl rfl (a0N (v := .one (.dv [11] (a0x (a0I f x.2.1 x.2.1.length)))) (.inl rfl) (a2P (a0a rfl) rfl rfl)) rfl ?_
 iterate 5 refine z ?_
 refine zC Tryz.call105 ?_ (hf := a5Q)
 iterate 11 refine z ?_
 refine yQ rfl (fun c2 => ?_) fun c2 => ?_
 ·have d2 := of_decide_eq_true c2
  refine a0s ?_
  refine a9I 4 (oB := [5]) (oK := [11]) (by kernel_rfl) rfl rfl ?_
  refine a1I 0 rfl (by kernel_rfl) rfl rfl (a0N (v := .one (.dv [11] (a0x (a0I f x.2.1 x.2.1.length)))) (.inl rfl) (a2P (a0a rfl) rfl rfl)) rfl rfl rfl rfl rfl ?_
  refine a1I 1 rfl (by kernel_rfl) rfl rfl (a0N (.inl rfl) (a0a rfl)) rfl rfl rfl rfl rfl ?_
  refine a1I 2 rfl (by kernel_rfl) rfl rfl (b0l rfl (a0a rfl) (a0j (a0i rfl)) (a2L (by omega) (by omega))) rfl rfl rfl rfl rfl ?_
  refine a1I 3 rfl (by kernel_rfl) rfl rfl (a5f hT rfl rfl rfl (a0a rfl) (a0a rfl) (fun _ => rfl) (by omega) (by omega)) rfl rfl rfl rfl rfl ?_
  refine a1I 4 rfl (by kernel_rfl) rfl rfl (a6b hT rfl rfl rfl (a0a rfl)) rfl rfl rfl rfl rfl ?_
  refine a1I 5 rfl (by kernel_rfl) rfl rfl (b0t hT rfl rfl (a0a rfl) rfl) rfl rfl rfl rfl rfl ?_
  refine a1I 6 rfl (by kernel_rfl) rfl rfl (a0N (v := .one (.dv [11] (a0x (a0I f x.2.1 x.2.1.length)))) (.inl rfl) (a2P (a0a rfl) rfl rfl)) rfl rfl rfl rfl rfl ?_
  refine a1I 7 rfl (by kernel_rfl) rfl rfl (a0N (.inl rfl) (a0a rfl)) rfl rfl rfl rfl rfl ?_
  refine a1I 8 rfl (by kernel_rfl) rfl rfl (a5f hT rfl rfl rfl (a0a rfl) (a0a rfl) (fun _ => rfl) (by omega) (by omega)) rfl rfl rfl rfl rfl ?_
  refine a1I 9 rfl (by kernel_rfl) rfl rfl (a6b hT rfl rfl rfl (a0a rfl)) rfl rfl rfl rfl rfl ?_
  refine a1I 10 rfl (by kernel_rfl) rfl rfl (b0t hT rfl rfl (a0a rfl) rfl) rfl rfl rfl rfl rfl ?_
  refine a9f 11 rfl (by kernel_rfl) rfl hT rfl rfl rfl (a0a rfl) (a0a rfl) rfl rfl rfl rfl rfl rfl ?_
  refine a9x [12, 13] rfl rfl (by kernel_rfl) ?_
  iterate 9 refine z ?_
  refine a1U (a0F hT rfl rfl rfl rfl) (a0F hT rfl rfl rfl rfl) (a0m rfl) rfl rfl rfl ?_
  rw [b8X hu h1 (by omega) ((b4E h1).1 d2), show ((k : Int) - 1).toNat = k - 1 by omega] <;> rfl
 ·have d2 := of_decide_eq_false c2
  iterate 3 refine z ?_
  refine a0n ?_
  iterate 4 refine z ?_
  refine ⟨k + 1, ?_, ?_, a0e ⟨rfl, rfl, rfl, rfl, rfl, trivial⟩ ⟨rfl, rfl, trivial⟩ ⟨rfl, trivial⟩ rfl⟩
  ·exact ⟨by omega, .inr (by omega), c0g hu (b6z h1 d2)⟩
  ·omega
 ·have d1 := of_decide_eq_false c1
 iterate 6 refine z ?_
 refine yO rfl rfl (a1v hT hB rfl rfl rfl a1w) rfl ?_
 refine yO rfl rfl (a1v hT hB rfl rfl rfl a1w) rfl ?_
 iterate 5 refine z ?_
 refine a1U (a0F hT rfl rfl rfl rfl) (a0F hT rfl rfl rfl rfl) (a0m rfl) rfl rfl rfl ?_
 rw [b8V (b7D hu hk d1)] <;> rfl
theorem c5H {x : a0G} {f : Str} (hb : a1g x ≤ 1048576) : PFn Tryz.prog 53 [.agg [(.dv [] (.str (x.1))), (.dv [] (a0x (x.2.1))), (.dv [] (.int .i64 (x.2.2)))], .one (.dv [] (.str (f)))] (.tup [(true, [(.dv [] (.int .i64 ((a3u f (a0I f x.2.1 x.2.1.length)).1.1))), (.dv [] (.int .i64 ((a3u f (a0I f x.2.1 x.2.1.length)).1.2.1))), (.dv [] (.str ((a3u f (a0I f x.2.1 x.2.1.length)).1.2.2)))]), (true, [(.dv [] (.int .i64 ((a3u f (a0I f x.2.1 x.2.1.length)).2.1.1))), (.dv [] (.int .i64 ((a3u f (a0I f x.2.1 x.2.1.length)).2.1.2.1))), (.dv [] (.str ((a3u f (a0I f x.2.1 x.2.1.length)).2.1.2.2)))]), (false, [(.dv [] (.bool ((a3u f (a0I f x.2.1 x.2.1.length)).2.2)))])]) := by
 refine ⟨a0Q Tryz.func53 rfl Tryz.ntmps53 Tryz.results53 rfl (fun C => ?_)⟩
 refine yF 0 0 rfl rfl fun f0_0 => ?_
 refine yF 0 1 rfl rfl fun f0_1 => ?_
 refine yF 0 2 rfl rfl fun f0_2 => ?_
 refine a1k (x := .tmp 1) (a0a rfl) fun f1 => ?_
 iterate 9 refine z ?_
 refine zK 0 Tryz.call88 ?_ (hf := c4r (by omega))
 iterate 7 refine z ?_
 refine a1l (ι := Nat) (fun zz => ⟨[(1, .one (.dv [] (.str (f)))), (4, .box 4 0), (5, .box 5 0), (7, .one (.key 11)), (8, .one (.dv [] (.int .i64 ((zz : Int)))))], [(4, 60, [(.dv [] (.int .i64 (0))), (.dv [] (.int .i64 (0))), (.dv [] (.str (ByteArray.empty)))]), (5, 60, [(.dv [] (.int .i64 (0))), (.dv [] (.int .i64 (0))), (.dv [] (.str (ByteArray.empty)))])], [(11, some (a0b false (.sl 119 4 ((a0I f x.2.1 x.2.1.length).length) ((a0I f x.2.1 x.2.1.length).flatMap a0H))))]⟩) (fun zz => 1 ≤ zz ∧ (zz ≤ 1 ∨ zz ≤ (a0I f x.2.1 x.2.1.length).length) ∧ ufN f (a0I f x.2.1 x.2.1.length) zz = none) (fun zz => (a0I f x.2.1 x.2.1.length).length - zz) (1) ?_ (a0e ⟨rfl, rfl, rfl, rfl, rfl, trivial⟩ ⟨rfl, rfl, trivial⟩ ⟨rfl, trivial⟩ rfl) (fun zz hx => ?_)
 ·exact ⟨Nat.le_refl _, .inl (Nat.le_refl _), rfl⟩
 obtain ⟨k, rfl⟩ : ∃ v, v = zz := ⟨_, rfl⟩
 replace hx : 1 ≤ k ∧ (k ≤ 1 ∨ k ≤ (a0I f x.2.1 x.2.1.length).length) ∧ ufN f (a0I f x.2.1 x.2.1.length) k = none := hx
 obtain ⟨h1, hk, hu⟩ := hx
 have hlw := b0u f x.2.1 x.2.1.length
 have hlen : x.2.1.length ≤ 1048576 := by have h3 : a1g x = x.1.size + (x.2.1.length + a0V a1Q x.2.1) := rfl; omega
 show Ok _ _ _ _ _ (⟨[(1, .one (.dv [] (.str (f)))), (4, .box 4 0), (5, .box 5 0), (7, .one (.key 11)), (8, .one (.dv [] (.int .i64 ((k : Int)))))], [(4, 60, [(.dv [] (.int .i64 (0))), (.dv [] (.int .i64 (0))), (.dv [] (.str (ByteArray.empty)))]), (5, 60, [(.dv [] (.int .i64 (0))), (.dv [] (.int .i64 (0))), (.dv [] (.str (ByteArray.empty)))])], [(11, some (a0b false (.sl 119 4 ((a0I f x.2.1 x.2.1.length).length) ((a0I f x.2.1 x.2.1.length).flatMap a0H))))]⟩ : St)
 iterate 3 refine z ?_
 refine yO rfl rfl (a0N (v := .one (.dv [11] (a0x (a0I f x.2.1 x.2.1.length)))) (.inl rfl) (a2P (a0a rfl) rfl rfl)) rfl ?_
 iterate 3 refine z ?_
 refine yQ rfl (fun c1 => ?_) fun c1 => ?_
 ·have d1 := of_decide_eq_true c1
 iterate 5 refine z ?_
 refine yO rfl rfl (a0N (v := .one (.dv [11] (a0x (a0I f x.2.1 x.2.1.length)))) (.inl rfl) (a2P (a0a rfl) rfl rfl)) rfl ?_
 iterate 6 refine z ?_
 refine zC Tryz.call89 ?_ (hf := a7D)
 iterate 7 refine z ?_
 refine yO rfl rfl (a0N (v := .one (.dv [11] (a0x (a0I f x.2.1 x.2.1.length)))) (.inl rfl) (a2P (a0a rfl) rfl rfl)) rfl ?_
 iterate 5 refine z ?_
 refine zC Tryz.call89 ?_ (hf := a7D)
 iterate 11 refine z ?_
 refine yQ rfl (fun c2 => ?_) fun c2 => ?_
 ·have d2 := of_decide_eq_true c2
  refine a0s ?_
  refine a9I 4 (oB := [5]) (oK := [11]) (by kernel_rfl) rfl rfl ?_
  refine a1I 0 rfl (by kernel_rfl) rfl rfl (a0N (v := .one (.dv [11] (a0x (a0I f x.2.1 x.2.1.length)))) (.inl rfl) (a2P (a0a rfl) rfl rfl)) rfl rfl rfl rfl rfl ?_
  refine a1I 1 rfl (by kernel_rfl) rfl rfl (a0N (.inl rfl) (a0a rfl)) rfl rfl rfl rfl rfl ?_
  refine a1I 2 rfl (by kernel_rfl) rfl rfl (b0l rfl (a0a rfl) (a0j (a0i rfl)) (a2L (by omega) (by omega))) rfl rfl rfl rfl rfl ?_
  refine a1I 3 rfl (by kernel_rfl) rfl rfl (a5f hT rfl rfl rfl (a0a rfl) (a0a rfl) (fun _ => rfl) (by omega) (by omega)) rfl rfl rfl rfl rfl ?_
  refine a1I 4 rfl (by kernel_rfl) rfl rfl (a6b hT rfl rfl rfl (a0a rfl)) rfl rfl rfl rfl rfl ?_
  refine a1I 5 rfl (by kernel_rfl) rfl rfl (b0t hT rfl rfl (a0a rfl) rfl) rfl rfl rfl rfl rfl ?_
  refine a1I 6 rfl (by kernel_rfl) rfl rfl (a0N (v := .one (.dv [11] (a0x (a0I f x.2.1 x.2.1.length)))) (.inl rfl) (a2P (a0a rfl) rfl rfl)) rfl rfl rfl rfl rfl ?_
  refine a1I 7 rfl (by kernel_rfl) rfl rfl (a0N (.inl rfl) (a0a rfl)) rfl rfl rfl rfl rfl ?_
  refine a1I 8 rfl (by kernel_rfl) rfl rfl (a5f hT rfl rfl rfl (a0a rfl) (a0a rfl) (fun _ => rfl) (by omega) (by omega)) rfl rfl rfl rfl rfl ?_
  refine a1I 9 rfl (by kernel_rfl) rfl rfl (a6b hT rfl rfl rfl (a0a rfl)) rfl rfl rfl rfl rfl ?_
  refine a1I 10 rfl (by kernel_rfl) rfl rfl (b0t hT rfl rfl (a0a rfl) rfl) rfl rfl rfl rfl rfl ?_
  refine a9f 11 rfl (by kernel_rfl) rfl hT rfl rfl rfl (a0a rfl) (a0a rfl) rfl rfl rfl rfl rfl rfl ?_
  refine a9x [12, 13] rfl rfl (by kernel_rfl) ?_
  iterate 9 refine z ?_
  refine a1U (a0F hT rfl rfl rfl rfl) (a0F hT rfl rfl rfl rfl) (a0m rfl) rfl rfl rfl ?_
  rw [b8X hu h1 (by omega) ((b4E h1).1 d2), show ((k : Int) - 1).toNat = k - 1 by omega] <;> rfl
 ·have d2 := of_decide_eq_false c2
  iterate 3 refine z ?_
  refine a0n ?_
  iterate 4 refine z ?_
  refine ⟨k + 1, ?_, ?_, a0e ⟨rfl, rfl, rfl, rfl, rfl, trivial⟩ ⟨rfl, rfl, trivial⟩ ⟨rfl, trivial⟩ rfl⟩
  ·exact ⟨by omega, .inr (by omega), c0g hu (b6z h1 d2)⟩
  ·omega
 ·have d1 := of_decide_eq_false c1
 iterate 6 refine z ?_
 refine yO rfl rfl (a1v hT hB rfl rfl rfl a1w) rfl ?_
 refine yO rfl rfl (a1v hT hB rfl rfl rfl a1w) rfl ?_
 iterate 5 refine z ?_
 refine a1U (a0F hT rfl rfl rfl rfl) (a0F hT rfl rfl rfl rfl) (a0m rfl) rfl rfl rfl ?_
 rw [b8V (b7D hu hk d1)] <;> rfl
def a4o (s : a0G) (i : Nat) : Bool := (!a0Z (s.2.1.getD (i : Int).toNat default).1 || !a1b (s.2.1.getD (i : Int).toNat default).2) ||
 (decide ((0 : Int) < (i : Int)) && decide (0 ≤ a2N (s.2.1.getD ((i : Int) - 1).toNat default).1 (s.2.1.getD (i : Int).toNat default).1))
def a1i (s : a0G) : Bool := (List.range s.2.1.length).all (fun i => !a4o s i) && (a2g s.1 && decide ((s.2.1.length : Int) ≤ 16) && (decide ((0 : Int) ≤ s.2.2) && decide (s.2.2 ≤ 1000000)))
def kEq (a b : a0L) : Bool := decide (a.1 = b.1) && (decide (a.2.1 = b.2.1) && sEq a.2.2 b.2.2)
def a0T (x : a0G) (k : a0L) : Int := a0r (fun y : a0U => kEq y.1 k) x.2.1 0
theorem b0K {xs : List a0U} {k : Nat} (hk : k < xs.length) : (xs.take k).flatMap a0H ++ a0H (xs.getD (k : Int).toNat default) = (xs.take (k + 1)).flatMap a0H ∧ (xs.take k).length + 1 = (xs.take (k + 1)).length := by
 have e : xs.getD (k : Int).toNat default = xs[k] := by simp [List.getD, List.getElem?_eq_getElem hk]
 rw [List.take_add_one, List.getElem?_eq_getElem hk, e]
 simp only [Option.toList_some, List.flatMap_append, List.flatMap_cons, List.flatMap_nil, List.append_nil, List.length_append, List.length_singleton]
 exact ⟨trivial, trivial⟩
theorem a8k {s : a0G}  : PFn Tryz.prog 74 [.agg [(.dv [] (.str (s.1))), (.dv [] (a0x (s.2.1))), (.dv [] (.int .i64 (s.2.2)))]] (.one (.dv [] (.bool (a1i s)))) := by
 refine ⟨a0Q Tryz.func74 rfl Tryz.ntmps74 Tryz.results74 rfl (fun C => ?_)⟩
 refine yF 0 0 rfl rfl fun f0_0 => ?_
 refine yF 0 1 rfl rfl fun f0_1 => ?_
 refine yF 0 2 rfl rfl fun f0_2 => ?_
 iterate 12 refine z ?_
 refine a1l (ι := Nat) (fun zz => ⟨[(1, .box 1 0), (6, .one (.dv [] (a0x (s.2.1)))), (7, .one (.dv [] (.int .i64 ((((s.2.1)).length : Int))))), (8, .one (.dv [] (.int .i64 ((zz : Int)))))], [(1, 77, [(.dv [] (.str (s.1))), (.dv [] (a0x (s.2.1))), (.dv [] (.int .i64 (s.2.2)))])], []⟩) (fun zz => zz ≤ s.2.1.length ∧ (List.range zz).all (fun i => !a4o s i) = true) (fun zz => s.2.1.length - zz) (0) ?_ (a0e ⟨rfl, rfl, rfl, rfl, trivial⟩ ⟨rfl, trivial⟩ trivial rfl) (fun zz hx => ?_)
 ·exact ⟨Nat.zero_le _, rfl⟩
 obtain ⟨k, rfl⟩ : ∃ v, v = zz := ⟨_, rfl⟩
 replace hx : k ≤ s.2.1.length ∧ (List.range k).all (fun i => !a4o s i) = true := hx
 obtain ⟨hk, hall⟩ := hx
 show Ok _ _ _ _ _ (⟨[(1, .box 1 0), (6, .one (.dv [] (a0x (s.2.1)))), (7, .one (.dv [] (.int .i64 ((((s.2.1)).length : Int))))), (8, .one (.dv [] (.int .i64 ((k : Int)))))], [(1, 77, [(.dv [] (.str (s.1))), (.dv [] (a0x (s.2.1))), (.dv [] (.int .i64 (s.2.2)))])], []⟩ : St)
 iterate 3 refine z ?_
 refine a0s ?_
 refine yQ rfl (fun c1 => ?_) fun c1 => ?_
 ·have d1 := of_decide_eq_true c1
 iterate 12 refine z ?_
 refine a0s ?_
 refine a1N (oB := [1, 4]) (oK := []) (by kernel_rfl) rfl rfl ?_
 refine zD 0 ?_
 refine zD 1 ?_
 refine a5A 2 rfl (by kernel_rfl) rfl rfl rfl Tryz.call80 a5P (a0g (a0a rfl) (a0u (a0d a0c (a0d a0c (a0d a0c a0t)))) a0q) rfl rfl rfl rfl ?_
 refine zD 3 ?_
 refine zD 4 ?_
 refine zDG 5 ?_
 refine zDG 6 ?_
 refine a3Q 7 rfl (by kernel_rfl) (a1t rfl rfl rfl rfl rfl) rfl rfl Tryz.call81 a7i (fun hg => (a0g (a0z rfl hg) (a0u (a0d a0c a0t)) a0q)) rfl rfl ?_
 refine zDG 8 ?_
 refine zD 9 ?_
 refine zD 10 ?_
 refine zDG 11 ?_
 refine zDG 12 ?_
 refine zDG 13 ?_
 refine zDG 14 ?_
 refine zDG 15 ?_
 refine zDG 16 ?_
 refine zDG 17 ?_
 refine zDG 18 ?_
 refine zDG 19 ?_
 refine zDG 20 ?_
 refine zDG 21 ?_
 refine zDG 22 ?_
 refine a3Q 23 rfl (by kernel_rfl) (a3W rfl rfl rfl rfl rfl) rfl rfl Tryz.call100 b0g (fun hg => (a0g (a0z rfl hg) (a0u (a0d a0c (a0d a0c (a0d a0c a0t)))) (a0g (a0z rfl hg) (a0u (a0d a0c (a0d a0c (a0d a0c a0t)))) a0q))) rfl rfl ?_
 refine zDG 24 ?_
 refine zDG 25 ?_
 refine zD 26 ?_
 refine a1S (by kernel_rfl) ?_
 refine z ?_
 refine yQ rfl (fun c2 => ?_) fun c2 => ?_
 ·iterate 10 refine z ?_
  rw [a1i, a7B (k := k) (by omega) (by have h : a4o s k = true := c2; simpa using h)]; rfl
 ·iterate 3 refine z ?_
  refine a0n ?_
  iterate 3 refine z ?_
  refine ⟨k + 1, ?_, ?_, a0e ⟨rfl, rfl, rfl, rfl, trivial⟩ ⟨rfl, trivial⟩ trivial rfl⟩
  ·exact ⟨by omega, a4w hall (by have h : a4o s k = false := c2; simpa using h)⟩
  ·omega
 ·have d1 := of_decide_eq_false c1
 iterate 8 refine z ?_
 refine zC Tryz.call72 ?_ (hf := a7W)
 iterate 9 refine z ?_
 refine a1P (a1t rfl rfl rfl rfl rfl) rfl rfl Tryz.call73 a6w (fun hg => (a0g (a0z rfl hg) (a0D a0c) (a0g (a0j (a0i rfl)) (a0D a0c) (a0g (a0j (a0i rfl)) (a0D a0c) a0q)))) rfl rfl ?_
 iterate 5 refine z ?_
 obtain rfl : k = s.2.1.length := by omega
 rw [a1i, hall]; rfl
theorem b3H {s : a0G}  : PFn Tryz.prog 50 [.agg [(.dv [] (.str (s.1))), (.dv [] (a0x (s.2.1))), (.dv [] (.int .i64 (s.2.2)))]] (.one (.dv [] (.bool (a1i s)))) := by
 refine ⟨a0Q Tryz.func50 rfl Tryz.ntmps50 Tryz.results50 rfl (fun C => ?_)⟩
 refine yF 0 0 rfl rfl fun f0_0 => ?_
 refine yF 0 1 rfl rfl fun f0_1 => ?_
 refine yF 0 2 rfl rfl fun f0_2 => ?_
 iterate 9 refine z ?_
 refine a1l (ι := Nat) (fun zz => ⟨[(1, .box 1 0), (3, .one (.dv [] (.int .i64 ((zz : Int)))))], [(1, 77, [(.dv [] (.str (s.1))), (.dv [] (a0x (s.2.1))), (.dv [] (.int .i64 (s.2.2)))])], []⟩) (fun zz => zz ≤ s.2.1.length ∧ (List.range zz).all (fun i => !a4o s i) = true) (fun zz => s.2.1.length - zz) (0) ?_ (a0e ⟨rfl, rfl, trivial⟩ ⟨rfl, trivial⟩ trivial rfl) (fun zz hx => ?_)
 ·exact ⟨Nat.zero_le _, rfl⟩
 obtain ⟨k, rfl⟩ : ∃ v, v = zz := ⟨_, rfl⟩
 replace hx : k ≤ s.2.1.length ∧ (List.range k).all (fun i => !a4o s i) = true := hx
 obtain ⟨hk, hall⟩ := hx
 show Ok _ _ _ _ _ (⟨[(1, .box 1 0), (3, .one (.dv [] (.int .i64 ((k : Int)))))], [(1, 77, [(.dv [] (.str (s.1))), (.dv [] (a0x (s.2.1))), (.dv [] (.int .i64 (s.2.2)))])], []⟩ : St)
 iterate 8 refine z ?_
 refine yQ rfl (fun c1 => ?_) fun c1 => ?_
 ·have d1 := of_decide_eq_true c1
 iterate 4 refine z ?_
 refine a0s ?_
 refine a1N (oB := [1]) (oK := []) (by kernel_rfl) rfl rfl ?_
 refine zD 0 ?_
 refine zD 1 ?_
 refine zD 2 ?_
 refine zD 3 ?_
 refine zD 4 ?_
 refine zD 5 ?_
 refine a5A 6 rfl (by kernel_rfl) rfl rfl rfl Tryz.call85 a7b (a0g (a0a rfl) (a0u (a0d a0c (a0d a0c (a0d a0c a0t)))) a0q) rfl rfl rfl rfl ?_
 refine zD 7 ?_
 refine zD 8 ?_
 refine zDG 9 ?_
 refine zDG 10 ?_
 refine zDG 11 ?_
 refine zDG 12 ?_
 refine zDG 13 ?_
 refine zDG 14 ?_
 refine a3Q 15 rfl (by kernel_rfl) (a1t rfl rfl rfl rfl rfl) rfl rfl Tryz.call86 a7j (fun hg => (a0g (a0z rfl hg) (a0u (a0d a0c a0t)) a0q)) rfl rfl ?_
 refine zDG 16 ?_
 refine zD 17 ?_
 refine zD 18 ?_
 refine zDG 19 ?_
 refine zDG 20 ?_
 refine zDG 21 ?_
 refine zDG 22 ?_
 refine zDG 23 ?_
 refine zDG 24 ?_
 refine zDG 25 ?_
 refine zDG 26 ?_
 refine zDG 27 ?_
 refine zDG 28 ?_
 refine zDG 29 ?_
 refine zDG 30 ?_
 refine zDG 31 ?_
 refine zDG 32 ?_
 refine zDG 33 ?_
 refine zDG 34 ?_
 refine a3Q 35 rfl (by kernel_rfl) (a3W rfl rfl rfl rfl rfl) rfl rfl Tryz.call87 a9v (fun hg => (a0g (a0z rfl hg) (a0u (a0d a0c (a0d a0c (a0d a0c a0t)))) (a0g (a0z rfl hg) (a0u (a0d a0c (a0d a0c (a0d a0c a0t)))) a0q))) rfl rfl ?_
 refine zDG 36 ?_
 refine zDG 37 ?_
 refine zD 38 ?_
 refine a1S (by kernel_rfl) ?_
 refine z ?_
 refine yQ rfl (fun c2 => ?_) fun c2 => ?_
 ·iterate 10 refine z ?_
  rw [a1i, a7B (k := k) (by omega) (by have h : a4o s k = true := c2; simpa using h)]; rfl
 ·iterate 3 refine z ?_
  refine a0n ?_
  iterate 4 refine z ?_
  refine ⟨k + 1, ?_, ?_, a0e ⟨rfl, rfl, trivial⟩ ⟨rfl, trivial⟩ trivial rfl⟩
  ·exact ⟨by omega, a4w hall (by have h : a4o s k = false := c2; simpa using h)⟩
  ·omega
 ·have d1 := of_decide_eq_false c1
 iterate 8 refine z ?_
 refine zC Tryz.call52 ?_ (hf := a8j)
 iterate 9 refine z ?_
 refine a1P (a1t rfl rfl rfl rfl rfl) rfl rfl Tryz.call54 a6Y (fun hg => (a0g (a0z rfl hg) (a0D a0c) (a0g (a0j (a0i rfl)) (a0D a0c) (a0g (a0j (a0i rfl)) (a0D a0c) a0q)))) rfl rfl ?_
 iterate 5 refine z ?_
 obtain rfl : k = s.2.1.length := by omega
 rw [a1i, hall]; rfl
theorem c3L {y : a0U} {k : a0L}  : PFn Tryz.prog 124 [.agg [(.dv [] (.int .i64 (y.1.1))), (.dv [] (.int .i64 (y.1.2.1))), (.dv [] (.str (y.1.2.2))), (.dv [] (a0J (y.2)))], .ref [] [.int .i64 (k.1), .int .i64 (k.2.1), .str (k.2.2)]] (.one (.dv [] (.bool (kEq y.1 k)))) := by
 refine ⟨a0Q Tryz.func124 rfl Tryz.ntmps124 Tryz.results124 rfl (fun C => ?_)⟩
 refine yF 0 0 rfl rfl fun f0_0 => ?_
 refine yF 0 1 rfl rfl fun f0_1 => ?_
 refine yF 0 2 rfl rfl fun f0_2 => ?_
 refine yF 0 3 rfl rfl fun f0_3 => ?_
 iterate 8 refine z ?_
 refine yO rfl rfl (a7M rfl (a0a rfl) (a0a rfl) rfl rfl Tryz.eqGuardType60 (b7n _ _ _ _ _ _)) rfl ?_
 iterate 4 refine z ?_
 rfl
theorem c4m {x : List a0U} {k : a0L}  : PFn Tryz.prog 123 [.one (.dv [] (a0x (x))), .fn 124 [[.int .i64 (k.1), .int .i64 (k.2.1), .str (k.2.2)]]] (.one (.dv [] (.int .i64 (a0r (fun y : a0U => kEq y.1 k) x 0)))) := by
 refine ⟨a0Q Tryz.func123 rfl Tryz.ntmps123 Tryz.results123 rfl (fun C => ?_)⟩
 refine a1k (x := .tmp 0) (a0a rfl) fun f0 => ?_
 iterate 10 refine z ?_
 refine a1l (ι := Nat) (fun zz => ⟨[(0, .one (.dv [] (a0x (x)))), (1, .fn 124 [[.int .i64 (k.1), .int .i64 (k.2.1), .str (k.2.2)]]), (7, .one (.dv [] (.int .i64 ((((x)).length : Int))))), (8, .one (.dv [] (.int .i64 ((zz : Int)))))], [], []⟩) (fun zz => zz ≤ x.length ∧ (x.take zz).any (fun y : a0U => kEq y.1 k) = false) (fun zz => x.length - zz) (0) ?_ (a0e ⟨rfl, rfl, rfl, rfl, trivial⟩ trivial trivial rfl) (fun zz hx => ?_)
 ·exact ⟨Nat.zero_le _, rfl⟩
 obtain ⟨n, rfl⟩ : ∃ v, v = zz := ⟨_, rfl⟩
 replace hx : n ≤ x.length ∧ (x.take n).any (fun y : a0U => kEq y.1 k) = false := hx
 obtain ⟨hk, hall⟩ := hx
 show Ok _ _ _ _ _ (⟨[(0, .one (.dv [] (a0x (x)))), (1, .fn 124 [[.int .i64 (k.1), .int .i64 (k.2.1), .str (k.2.2)]]), (7, .one (.dv [] (.int .i64 ((((x)).length : Int))))), (8, .one (.dv [] (.int .i64 ((n : Int)))))], [], []⟩ : St)
 iterate 3 refine z ?_
 refine a0s ?_
 refine yQ rfl (fun c1 => ?_) fun c1 => ?_
 ·have d1 := of_decide_eq_true c1
 iterate 14 refine z ?_
 refine a9C rfl rfl rfl (a0a rfl) Tryz.call124 c3L (a0g (a0a rfl) (a0u (a0d a0c (a0d a0c (a0d a0c (a0d a0c a0t))))) a0q) rfl rfl ?_
 refine z ?_
 refine yQ rfl (fun c2 => ?_) fun c2 => ?_
 ·iterate 11 refine z ?_
  exact (a5T (p := fun y : a0U => kEq y.1 k) (d := default) hall (by omega) c2).symm
 ·iterate 3 refine z ?_
  refine a0n ?_
  iterate 3 refine z ?_
  refine ⟨n + 1, ?_, ?_, a0e ⟨rfl, rfl, rfl, rfl, trivial⟩ trivial trivial rfl⟩
  ·exact ⟨by omega, a5X (d := default) hall (by omega) c2⟩
  ·omega
 ·have d1 := of_decide_eq_false c1
 iterate 10 refine z ?_
 exact (a6i (p := fun y : a0U => kEq y.1 k) hall (by omega)).symm
theorem b2e {x : a0G} {k : a0L}  : PFn Tryz.prog 106 [.agg [(.dv [] (.str (x.1))), (.dv [] (a0x (x.2.1))), (.dv [] (.int .i64 (x.2.2)))], .agg [(.dv [] (.int .i64 (k.1))), (.dv [] (.int .i64 (k.2.1))), (.dv [] (.str (k.2.2)))]] (.one (.dv [] (.int .i64 (a0T x k)))) := by
 refine ⟨a0Q Tryz.func106 rfl Tryz.ntmps106 Tryz.results106 rfl (fun C => ?_)⟩
 refine yF 0 0 rfl rfl fun f0_0 => ?_
 refine yF 0 1 rfl rfl fun f0_1 => ?_
 refine yF 0 2 rfl rfl fun f0_2 => ?_
 refine yF 1 0 rfl rfl fun f1_0 => ?_
 refine yF 1 1 rfl rfl fun f1_1 => ?_
 refine yF 1 2 rfl rfl fun f1_2 => ?_
 iterate 8 refine z ?_
 refine yO rfl rfl (b1d rfl (a0a rfl)) rfl ?_
 refine a3S rfl rfl rfl Tryz.call123 c4m (a0g (a0a rfl) (a0D a0c) (a0g (a0a rfl) (b4P (b2o rfl rfl b1t)) a0q)) rfl rfl ?_
 iterate 4 refine z ?_
 rfl
theorem b1V {x : a0G} {k : a0L}  : PFn Tryz.prog 92 [.agg [(.dv [] (.str (x.1))), (.dv [] (a0x (x.2.1))), (.dv [] (.int .i64 (x.2.2)))], .agg [(.dv [] (.int .i64 (k.1))), (.dv [] (.int .i64 (k.2.1))), (.dv [] (.str (k.2.2)))]] (.one (.dv [] (.int .i64 (a0T x k)))) := by
 refine ⟨a0Q Tryz.func92 rfl Tryz.ntmps92 Tryz.results92 rfl (fun C => ?_)⟩
 refine yF 0 0 rfl rfl fun f0_0 => ?_
 refine yF 0 1 rfl rfl fun f0_1 => ?_
 refine yF 0 2 rfl rfl fun f0_2 => ?_
 refine yF 1 0 rfl rfl fun f1_0 => ?_
 refine yF 1 1 rfl rfl fun f1_1 => ?_
 refine yF 1 2 rfl rfl fun f1_2 => ?_
 iterate 10 refine z ?_
 refine a1l (ι := Nat) (fun zz => ⟨[(2, .box 2 0), (3, .box 3 0), (5, .one (.dv [] (.int .i64 ((zz : Int)))))], [(2, 77, [(.dv [] (.str (x.1))), (.dv [] (a0x (x.2.1))), (.dv [] (.int .i64 (x.2.2)))]), (3, 60, [(.dv [] (.int .i64 (k.1))), (.dv [] (.int .i64 (k.2.1))), (.dv [] (.str (k.2.2)))])], []⟩) (fun zz => zz ≤ x.2.1.length ∧ (x.2.1.take zz).any (fun y : a0U => kEq y.1 k) = false) (fun zz => x.2.1.length - zz) (0) ?_ (a0e ⟨rfl, rfl, rfl, trivial⟩ ⟨rfl, rfl, trivial⟩ trivial rfl) (fun zz hx => ?_)
 ·exact ⟨Nat.zero_le _, rfl⟩
 obtain ⟨n, rfl⟩ : ∃ v, v = zz := ⟨_, rfl⟩
 replace hx : n ≤ x.2.1.length ∧ (x.2.1.take n).any (fun y : a0U => kEq y.1 k) = false := hx
 obtain ⟨hk, hall⟩ := hx
 show Ok _ _ _ _ _ (⟨[(2, .box 2 0), (3, .box 3 0), (5, .one (.dv [] (.int .i64 ((n : Int)))))], [(2, 77, [(.dv [] (.str (x.1))), (.dv [] (a0x (x.2.1))), (.dv [] (.int .i64 (x.2.2)))]), (3, 60, [(.dv [] (.int .i64 (k.1))), (.dv [] (.int .i64 (k.2.1))), (.dv [] (.str (k.2.2)))])], []⟩ : St)
 iterate 8 refine z ?_
 refine yQ rfl (fun c1 => ?_) fun c1 => ?_
 ·have d1 := of_decide_eq_true c1
 iterate 4 refine z ?_
 refine a0s ?_
 refine a1N (oB := [2, 3]) (oK := []) (by kernel_rfl) rfl rfl ?_
 refine zD 0 ?_
 refine zD 1 ?_
 refine zD 2 ?_
 refine zD 3 ?_
 refine zD 4 ?_
 refine zD 5 ?_
 refine zD 6 ?_
 refine a1q 7 rfl (by kernel_rfl) rfl rfl (a7M rfl (a0a rfl) (a0a rfl) rfl rfl Tryz.eqGuardType60 (b7n _ _ _ _ _ _)) rfl rfl rfl rfl ?_
 refine a1S (by kernel_rfl) ?_
 refine z ?_
 refine yQ rfl (fun c2 => ?_) fun c2 => ?_
 ·iterate 11 refine z ?_
  exact (a5T (p := fun y : a0U => kEq y.1 k) (d := default) hall (by omega) c2).symm
 ·iterate 3 refine z ?_
  refine a0n ?_
  iterate 4 refine z ?_
  refine ⟨n + 1, ?_, ?_, a0e ⟨rfl, rfl, rfl, trivial⟩ ⟨rfl, rfl, trivial⟩ trivial rfl⟩
  ·exact ⟨by omega, a5X (d := default) hall (by omega) c2⟩
  ·omega
 ·have d1 := of_decide_eq_false c1
 iterate 10 refine z ?_
 exact (a6i (p := fun y : a0U => kEq y.1 k) hall (by omega)).symm
theorem a6R {x : a0G} (hb : a1g x ≤ 1099511627776) : KFn Tryz.prog 57 [.agg [(.dv [] (.str (x.1))), (.dv [] (a0x (x.2.1))), (.dv [] (.int .i64 (x.2.2)))]] (.agg [(.dv [] (.str (x.1))), (.key 30), (.dv [] (.int .i64 (x.2.2)))]) [(30, some (a0b false (a0x (x.2.1))))] := by
 refine ⟨a0Q Tryz.func57 rfl Tryz.ntmps57 Tryz.results57 rfl (fun C => ?_)⟩
 refine yF 0 0 rfl rfl fun f0_0 => ?_
 refine yF 0 1 rfl rfl fun f0_1 => ?_
 refine yF 0 2 rfl rfl fun f0_2 => ?_
 iterate 9 refine z ?_
 refine yO rfl rfl (a1v hT hB rfl rfl rfl (a1c (a0a rfl) rfl rfl rfl rfl rfl (a1c (a0a rfl) rfl rfl rfl rfl rfl a1w))) rfl ?_
 iterate 3 refine z ?_
 refine a0s ?_
 refine a0s ?_
 refine a0h (a3s 30 (b := 3) (i := 1) (e := 119) (sz := 4) rfl rfl rfl rfl rfl) ?_
 simp only [a0p, a0k, SV.kill, CV.kill, kk, Nat.reduceBEq]
 refine a0n ?_
 iterate 6 refine z ?_
 refine a1l (ι := Nat) (fun zz => ⟨[(2, .box 2 0), (3, .box 3 0), (12, .one (.dv [] (a0x (x.2.1)))), (13, .one (.dv [] (.int .i64 ((((x.2.1)).length : Int))))), (14, .one (.dv [] (.int .i64 ((zz : Int)))))], [(2, 77, [(.dv [] (.str (ByteArray.empty))), .nil, (.dv [] (.int .i64 (0)))]), (3, 77, [(.dv [] (.str (x.1))), (.key 30), (.dv [] (.int .i64 (x.2.2)))])], [(30, some (a0b false (.sl 119 4 ((x.2.1.take zz).length) ((x.2.1.take zz).flatMap a0H))))]⟩) (fun zz => zz ≤ x.2.1.length) (fun zz => x.2.1.length - zz) (0) ?_ (a0e ⟨rfl, rfl, rfl, rfl, rfl, trivial⟩ ⟨rfl, rfl, trivial⟩ ⟨rfl, trivial⟩ rfl) (fun zz hx => ?_)
 ·exact Nat.zero_le _
 obtain ⟨k, rfl⟩ : ∃ v, v = zz := ⟨_, rfl⟩
 replace hx : k ≤ x.2.1.length := hx
 have hw := fun h => a5C a1Q x.2.1 k h
 show Ok _ _ _ _ _ (⟨[(2, .box 2 0), (3, .box 3 0), (12, .one (.dv [] (a0x (x.2.1)))), (13, .one (.dv [] (.int .i64 ((((x.2.1)).length : Int))))), (14, .one (.dv [] (.int .i64 ((k : Int)))))], [(2, 77, [(.dv [] (.str (ByteArray.empty))), .nil, (.dv [] (.int .i64 (0)))]), (3, 77, [(.dv [] (.str (x.1))), (.key 30), (.dv [] (.int .i64 (x.2.2)))])], [(30, some (a0b false (.sl 119 4 ((x.2.1.take k).length) ((x.2.1.take k).flatMap a0H))))]⟩ : St)
 iterate 3 refine z ?_
 refine a0s ?_
 refine yQ rfl (fun c1 => ?_) fun c1 => ?_
 ·have d1 := of_decide_eq_true c1
 have hk2 : k < x.2.1.length := by omega
 have hlen : x.2.1.length ≤ 1099511627776 := by have h3 : a1g x = x.1.size + (x.2.1.length + a0V a1Q x.2.1) := rfl; omega
 have hrec : a1Q (x.2.1.getD (k : Int).toNat default) ≤ 1099511627776 := by have := hw hk2; have h3 : a1g x = x.1.size + (x.2.1.length + a0V a1Q x.2.1) := rfl; omega
 iterate 10 refine z ?_
 refine a5w [0, 1, 2, 3, 4] (oB := [2, 3, 5]) (oK := [30]) (by kernel_rfl) rfl rfl ?_
 refine zD 0 ?_
 refine zD 1 ?_
 refine zD 2 ?_
 refine a2K 21000 3 rfl (by kernel_rfl) rfl rfl rfl Tryz.call94 (b9a (by first | omega | exact Nat.le_trans (a6j _) hrec | exact Nat.le_trans (a6j _) (Nat.le_trans hrec (by decide)))) (a0g (a0a rfl) (a0u (a0d a0c (a0d a0c (a0d a0c (a0d a0c a0t))))) a0q) rfl rfl rfl rfl rfl ?_
 refine a7o (k := 22) (js := [28003]) 4 hT rfl (by kernel_rfl) rfl rfl rfl rfl rfl rfl rfl rfl rfl (a0a rfl) rfl rfl (a0o (a0R rfl) (a0o (a0R rfl) (a0o (a0R rfl) (a0o (a1f rfl) a1z rfl) rfl) rfl) rfl) (by decide) (by decide) rfl rfl (by decide) ?_
 simp only [a0p, a0k, SV.kill, CV.kill, kk, Nat.reduceBEq]
 refine a3C [5, 6, 7] rfl rfl (by kernel_rfl) ?_
 refine a3f (k := 30) (j := 22) (cs := (x.2.1.take (k + 1)).flatMap a0H) (n := (x.2.1.take (k + 1)).length) hT rfl rfl rfl rfl rfl rfl rfl (a0a rfl) rfl rfl rfl (a0a rfl) rfl rfl (by decide) (by dsimp only [a0b]; simp only [List.length_take]; omega) (by dsimp only [a0b]; simp only [List.length_take]; omega) ((b0K hk2).2) ((b0K hk2).1) ?_
 simp only [a0p, a0k, SV.kill, CV.kill, kk, Nat.reduceBEq]
 iterate 2 refine z ?_
 refine a1J ?_
 iterate 2 refine z ?_
 refine a0n ?_
 iterate 3 refine z ?_
 refine ⟨k + 1, ?_, ?_, a0e ⟨rfl, rfl, rfl, rfl, rfl, trivial⟩ ⟨rfl, rfl, trivial⟩ ⟨rfl, trivial⟩ rfl⟩
 ·omega
 ·omega
 ·have d1 := of_decide_eq_false c1
 iterate 9 refine z ?_
 refine a0h (σ' := ⟨[(2, .box 2 0)], [(2, 77, [(.dv [] (.str (x.1))), (.key 30), (.dv [] (.int .i64 (x.2.2)))])], [(30, some (a0b false (a0x (x.2.1))))]⟩) (a0e ⟨rfl, trivial⟩ ⟨rfl, trivial⟩ ⟨(congrArg (fun l : List a0U => some (some (KC.mk false 119 4 l.length (l.flatMap a0H)))) (List.take_of_length_le (by omega))), trivial⟩ rfl) ?_
 refine z ?_
 refine a1r (a0F hT rfl rfl rfl rfl) ?_
 exact ⟨rfl, rfl⟩
theorem a7q {x : a0G} (hb : a1g x ≤ 1099511627776) : KFn Tryz.prog 49 [.agg [(.dv [] (.str (x.1))), (.dv [] (a0x (x.2.1))), (.dv [] (.int .i64 (x.2.2)))]] (.agg [(.dv [] (.str (x.1))), (.key 30), (.dv [] (.int .i64 (x.2.2)))]) [(30, some (a0b false (a0x (x.2.1))))] := by
 refine ⟨a0Q Tryz.func49 rfl Tryz.ntmps49 Tryz.results49 rfl (fun C => ?_)⟩
 refine yF 0 0 rfl rfl fun f0_0 => ?_
 refine yF 0 1 rfl rfl fun f0_1 => ?_
 refine yF 0 2 rfl rfl fun f0_2 => ?_
 iterate 9 refine z ?_
 refine yO rfl rfl (a1v hT hB rfl rfl rfl (a1c (a0a rfl) rfl rfl rfl rfl rfl (a1c (a0a rfl) rfl rfl rfl rfl rfl a1w))) rfl ?_
 iterate 3 refine z ?_
 refine a0s ?_
 refine a0s ?_
 refine a0h (a3s 30 (b := 3) (i := 1) (e := 119) (sz := 4) rfl rfl rfl rfl rfl) ?_
 simp only [a0p, a0k, SV.kill, CV.kill, kk, Nat.reduceBEq]
 refine a0n ?_
 iterate 3 refine z ?_
 refine a1l (ι := Nat) (fun zz => ⟨[(1, .box 1 0), (2, .box 2 0), (3, .box 3 0), (4, .one (.dv [] (.int .i64 ((zz : Int)))))], [(1, 77, [(.dv [] (.str (x.1))), (.dv [] (a0x (x.2.1))), (.dv [] (.int .i64 (x.2.2)))]), (2, 77, [(.dv [] (.str (ByteArray.empty))), .nil, (.dv [] (.int .i64 (0)))]), (3, 77, [(.dv [] (.str (x.1))), (.key 30), (.dv [] (.int .i64 (x.2.2)))])], [(30, some (a0b false (.sl 119 4 ((x.2.1.take zz).length) ((x.2.1.take zz).flatMap a0H))))]⟩) (fun zz => zz ≤ x.2.1.length) (fun zz => x.2.1.length - zz) (0) ?_ (a0e ⟨rfl, rfl, rfl, rfl, trivial⟩ ⟨rfl, rfl, rfl, trivial⟩ ⟨rfl, trivial⟩ rfl) (fun zz hx => ?_)
 ·exact Nat.zero_le _
 obtain ⟨k, rfl⟩ : ∃ v, v = zz := ⟨_, rfl⟩
 replace hx : k ≤ x.2.1.length := hx
 have hw := fun h => a5C a1Q x.2.1 k h
 show Ok _ _ _ _ _ (⟨[(1, .box 1 0), (2, .box 2 0), (3, .box 3 0), (4, .one (.dv [] (.int .i64 ((k : Int)))))], [(1, 77, [(.dv [] (.str (x.1))), (.dv [] (a0x (x.2.1))), (.dv [] (.int .i64 (x.2.2)))]), (2, 77, [(.dv [] (.str (ByteArray.empty))), .nil, (.dv [] (.int .i64 (0)))]), (3, 77, [(.dv [] (.str (x.1))), (.key 30), (.dv [] (.int .i64 (x.2.2)))])], [(30, some (a0b false (.sl 119 4 ((x.2.1.take k).length) ((x.2.1.take k).flatMap a0H))))]⟩ : St)
 iterate 8 refine z ?_
 refine yQ rfl (fun c1 => ?_) fun c1 => ?_
 ·have d1 := of_decide_eq_true c1
 have hk2 : k < x.2.1.length := by omega
 have hlen : x.2.1.length ≤ 1099511627776 := by have h3 : a1g x = x.1.size + (x.2.1.length + a0V a1Q x.2.1) := rfl; omega
 have hrec : a1Q (x.2.1.getD (k : Int).toNat default) ≤ 1099511627776 := by have := hw hk2; have h3 : a1g x = x.1.size + (x.2.1.length + a0V a1Q x.2.1) := rfl; omega
 iterate 4 refine z ?_
 refine a5w [0, 1, 2, 3, 4, 5, 6, 7, 8] (oB := [1, 2, 3]) (oK := [30]) (by kernel_rfl) rfl rfl ?_
 refine zD 0 ?_
 refine zD 1 ?_
 refine zD 2 ?_
 refine zD 3 ?_
 refine zD 4 ?_
 refine zD 5 ?_
 refine zD 6 ?_
 refine a2K 24000 7 rfl (by kernel_rfl) rfl rfl rfl Tryz.call84 (b3q (by first | omega | exact Nat.le_trans (a6j _) hrec | exact Nat.le_trans (a6j _) (Nat.le_trans hrec (by decide)))) (a0g (a0a rfl) (a0u (a0d a0c (a0d a0c (a0d a0c (a0d a0c a0t))))) a0q) rfl rfl rfl rfl rfl ?_
 refine a7o (k := 25) (js := [31003]) 8 hT rfl (by kernel_rfl) rfl rfl rfl rfl rfl rfl rfl rfl rfl (a0a rfl) rfl rfl (a0o (a0R rfl) (a0o (a0R rfl) (a0o (a0R rfl) (a0o (a1f rfl) a1z rfl) rfl) rfl) rfl) (by decide) (by decide) rfl rfl (by decide) ?_
 simp only [a0p, a0k, SV.kill, CV.kill, kk, Nat.reduceBEq]
 refine a3C [9, 10, 11] rfl rfl (by kernel_rfl) ?_
 refine a3f (k := 30) (j := 25) (cs := (x.2.1.take (k + 1)).flatMap a0H) (n := (x.2.1.take (k + 1)).length) hT rfl rfl rfl rfl rfl rfl rfl (a0a rfl) rfl rfl rfl (a0a rfl) rfl rfl (by decide) (by dsimp only [a0b]; simp only [List.length_take]; omega) (by dsimp only [a0b]; simp only [List.length_take]; omega) ((b0K hk2).2) ((b0K hk2).1) ?_
 simp only [a0p, a0k, SV.kill, CV.kill, kk, Nat.reduceBEq]
 iterate 2 refine z ?_
 refine a1J ?_
 iterate 2 refine z ?_
 refine a0n ?_
 iterate 4 refine z ?_
 refine ⟨k + 1, ?_, ?_, a0e ⟨rfl, rfl, rfl, rfl, trivial⟩ ⟨rfl, rfl, rfl, trivial⟩ ⟨rfl, trivial⟩ rfl⟩
 ·omega
 ·omega
 ·have d1 := of_decide_eq_false c1
 iterate 9 refine z ?_
 refine a0h (σ' := ⟨[(2, .box 2 0)], [(2, 77, [(.dv [] (.str (x.1))), (.key 30), (.dv [] (.int .i64 (x.2.2)))])], [(30, some (a0b false (a0x (x.2.1))))]⟩) (a0e ⟨rfl, trivial⟩ ⟨rfl, trivial⟩ ⟨(congrArg (fun l : List a0U => some (some (KC.mk false 119 4 l.length (l.flatMap a0H)))) (List.take_of_length_le (by omega))), trivial⟩ rfl) ?_
 refine z ?_
 refine a1r (a0F hT rfl rfl rfl rfl) ?_
 exact ⟨rfl, rfl⟩
def a2l (k : a0L) : List a0U → Nat
 | [] => 0
 | y :: ys => if a2N y.1 k < 0 then a2l k ys + 1 else 0
def a2v (l : List a0U) (i : Nat) (r : a0v) : List a0U := l.set i ((l.getD i default).1, r)
def a3g (x : a0G) (k : a0L) : Int := if decide (k.1 = 1) && (decide (x.2.2 + 1 ≤ k.2.1) && decide (k.2.1 ≤ 1000000)) then k.2.1 else x.2.2
def a0O (x : a0G) (k : a0L) (r : a0v) : a0G × Bool :=
 if !a1i x || !a0Z k || !a1b r then (x, false)
 else if 0 ≤ a0T x k then ((x.1, a2v x.2.1 (a0T x k).toNat r, x.2.2), true)
 else if 16 ≤ x.2.1.length then (x, false)
 else ((x.1, a1Z x.2.1 (a2l k x.2.1) (k, r), a3g x k), true)
theorem a5d {x : a0G} {k : a0L} (h : 0 ≤ a0T x k) : a0T x k < x.2.1.length := by
 rcases a8u (p := fun y : a0U => kEq y.1 k) x.2.1 0 (by omega) with h1 | h1
 ·unfold a0T; omega
 ·unfold a0T at h; omega
theorem c6V {x : a0G} {k : a0L} {r : a0v} (h : (!a1i x || !a0Z k) = true) : a0O x k r = (x, false) := by
 rw [a0O, if_pos (by rw [h]; rfl)]
theorem b4m {l : List a0U} {i : Nat} {r : a0v} : (a2v l i r).length = l.length := by simp [a2v]
theorem b2r (l : List a0U) : (l.flatMap a0H).length = l.length * 4 := by
 induction l with
 | nil => rfl
 | cons x l ih => rw [List.flatMap_cons, List.length_append, ih, List.length_cons]; show 4 + l.length * 4 = (l.length + 1) * 4; omega
theorem b2R {l : List a0U} {j : Nat} (h : j < l.length) : l.drop j = l.getD j default :: l.drop (j + 1) := by
 rw [List.drop_eq_getElem_cons h]
 simp [List.getD, List.getElem?_eq_getElem h]
theorem b9o {k : a0L} {l : List a0U} {j : Nat} (hp : a2l k l = j + a2l k (l.drop j)) (h : (decide ((j : Int) < (l.length : Int)) && decide (a2N (l.getD (j : Int).toNat default).1 k < 0)) = true) : j < l.length ∧ a2l k l = (j + 1) + a2l k (l.drop (j + 1)) := by
 obtain ⟨h1, h2⟩ := (Bool.and_eq_true _ _ ▸ h : _ ∧ _)
 have h1 := of_decide_eq_true h1
 have h2 := of_decide_eq_true h2
 rw [Int.toNat_natCast] at h2
 have h3 : j < l.length := by omega
 refine ⟨h3, ?_⟩
 rw [hp, b2R h3, a2l, if_pos h2]
 omega
theorem b7F {k : a0L} {l : List a0U} {j : Nat} (hj : j ≤ l.length) (hp : a2l k l = j + a2l k (l.drop j)) (h : (decide ((j : Int) < (l.length : Int)) && decide (a2N (l.getD (j : Int).toNat default).1 k < 0)) = false) : a2l k l = j := by
 rcases Nat.lt_or_ge j l.length with h3 | h3
 ·rw [decide_eq_true (by omega : (j : Int) < (l.length : Int)), Bool.true_and] at h
 have h2 := of_decide_eq_false h
 rw [Int.toNat_natCast] at h2
 rw [hp, b2R h3, a2l, if_neg h2]
 omega
 ·rw [hp, List.drop_eq_nil_of_le h3, a2l]; omega
theorem b7I {l : List a0U} {i : Nat} {r : a0v} (hi : i < l.length) : a1d (i * 4 + 3) [a0J r] (l.flatMap a0H) = (a2v l i r).flatMap a0H := by
 obtain ⟨h1, h2⟩ := a7k (enc := a0H) (sz := 4) (fun _ => rfl) i l
 have e : l.flatMap a0H = (l.take i).flatMap a0H ++ (a0H (l.getD i default) ++ (l.drop (i + 1)).flatMap a0H) := by
 rw [← List.flatMap_cons, ← b2R hi, ← List.flatMap_append, List.take_append_drop]
 have e2 : (a2v l i r).flatMap a0H = (l.take i).flatMap a0H ++ (a0H ((l.getD i default).1, r) ++ (l.drop (i + 1)).flatMap a0H) := by
 rw [a2v, List.set_eq_take_append_cons_drop, if_pos hi, List.flatMap_append, List.flatMap_cons]
 have hl : ((l.take i).flatMap a0H).length = i * 4 := by rw [b2r, List.length_take]; omega
 rw [e, e2]
 exact c0Q (pre := (l.take i).flatMap a0H) (B := a0H (l.getD i default)) (B' := a0H ((l.getD i default).1, r)) (post := (l.drop (i + 1)).flatMap a0H) (m := i * 4) (off := i * 4 + 3) (j := 3) hl rfl rfl (Nat.le_refl _)
def a6p (p : Option a0L) (k : a0L) : Bool := match p with | none => true | some q => decide (a2N q k < 0)
def okL : Option a0L → List a0U → Bool
 | _, [] => true
 | p, y :: ys => a0Z y.1 && a1b y.2 && a6p p y.1 && okL (some y.1) ys
def a8l (p : Option a0L) (l : List a0U) (i : Nat) : Bool := (!a0Z (l.getD i default).1 || !a1b (l.getD i default).2) || !(a6p (if i = 0 then p else some (l.getD (i - 1) default).1) (l.getD i default).1)
theorem b7K : ∀ (l : List a0U) (p : Option a0L), okL p l = (List.range l.length).all (fun i => !a8l p l i)
 | [], _ => rfl
 | y :: ys, p => by
 rw [okL, b7K ys (some y.1), List.length_cons, List.range_succ_eq_map, List.all_cons, List.all_map]
 congr 1
 ·simp [a8l]
 ·congr 1
  funext i
  cases i with
  | zero => simp [a8l]
  | succ i => simp [a8l]
theorem b1p (s : a0G) : a1i s = (okL none s.2.1 && (a2g s.1 && decide ((s.2.1.length : Int) ≤ 16) && (decide ((0 : Int) ≤ s.2.2) && decide (s.2.2 ≤ 1000000)))) := by
 rw [a1i, b7K]
 congr 2
 funext i
 cases i with
 | zero => simp [a4o, a8l, a6p]
 | succ i =>
 have e : (((i + 1 : Nat) : Int) - 1).toNat = i := by omega
 have e2 : (((i + 1 : Nat) : Int)).toNat = i + 1 := by omega
 have e3 : decide ((0 : Int) < ((i + 1 : Nat) : Int)) = true := decide_eq_true (by omega)
 simp only [a4o, a8l, a6p, e, e2, e3, Bool.true_and, Nat.succ_ne_zero, if_false, Nat.add_sub_cancel]
 congr 2
 by_cases h : a2N (s.2.1.getD i default).1 (s.2.1.getD (i + 1) default).1 < 0
 ·rw [decide_eq_true h, decide_eq_false (by omega)]; rfl
 ·rw [decide_eq_false h, decide_eq_true (by omega)]; rfl
theorem c0T {a b : Str} (h : a4x a b = 0) : sEq a b = true := by
 have e := a7N a b
 unfold a4x at h
 cases h1 : sLt a b <;> cases h2 : sLt b a <;> simp_all
theorem c6r {a b : a0L} (ha : a0Z a = true) (hb : a0Z b = true) (h : a2N a b = 0) : kEq a b = true := by
 have hg : (!a0Z a || !a0Z b) = false := by rw [ha, hb]; rfl
 by_cases h1 : a.1 = b.1
 ·by_cases h2 : a.2.1 = b.2.1
 ·rw [b0f hg h1 h2] at h
  rw [kEq, decide_eq_true h1, decide_eq_true h2, c0T h]; rfl
 ·rw [b0a hg h1 h2] at h; exact absurd (a7C.1 h) h2
 ·rw [b0b hg h1] at h; exact absurd (a7C.1 h) h1
theorem b9l {k : a0L} {r : a0v} (hk : a0Z k = true) : ∀ (l : List a0U) (p : Option a0L), okL p l = true → l.any (fun y : a0U => kEq y.1 k) = false → a6p p k = true → okL p (a1Z l (a2l k l) (k, r)) = a1b r
 | [], p, _, _, hp => by simp [a1Z, a2l, okL, hk, hp]
 | y :: ys, p, hl, hn, hp => by
 simp only [okL, Bool.and_eq_true] at hl
 obtain ⟨⟨⟨h1, h2⟩, h3⟩, h4⟩ := hl
 simp only [List.any_cons, Bool.or_eq_false_iff] at hn
 by_cases hc : a2N y.1 k < 0
 ·have ih := b9l (r := r) hk ys (some y.1) h4 hn.2 (by simpa [a6p] using hc)
  rw [a2l, if_pos hc]
  have e : a1Z (y :: ys) (a2l k ys + 1) (k, r) = y :: a1Z ys (a2l k ys) (k, r) := by simp [a1Z]
  rw [e, okL, h1, h2, h3, ih]; rfl
 ·rw [a2l, if_neg hc]
  have e : a1Z (y :: ys) 0 (k, r) = (k, r) :: y :: ys := by simp [a1Z]
  have h0 : ¬ a2N y.1 k = 0 := fun h => by
  have := c6r h1 hk h
  rw [hn.1] at this; cases this
  have hs := b0k k y.1
  rw [e, okL, okL, hk, hp, h1, h2, h4]
  have : a6p (some k) y.1 = true := by simp only [a6p, decide_eq_true_eq]; omega
  rw [this]; simp
theorem b9E {r : a0v} : ∀ (l : List a0U) (p : Option a0L) (i : Nat), okL p l = true → i < l.length → okL p (a2v l i r) = a1b r
 | [], _, _, _, h => by simp at h
 | y :: ys, p, 0, hl, _ => by
 simp only [okL, Bool.and_eq_true] at hl
 obtain ⟨⟨⟨h1, h2⟩, h3⟩, h4⟩ := hl
 simp [a2v, okL, h1, h3, h4]
 | y :: ys, p, i + 1, hl, h => by
 simp only [okL, Bool.and_eq_true] at hl
 obtain ⟨⟨⟨h1, h2⟩, h3⟩, h4⟩ := hl
 have ih := b9E (r := r) ys (some y.1) i h4 (by simpa using h)
 have e : a2v (y :: ys) (i + 1) r = y :: a2v ys i r := by simp [a2v]
 rw [e, okL, h1, h2, h3, ih]; rfl
theorem b9A {α : Type} {p : α → Bool} : ∀ (xs : List α) (i : Int), 0 ≤ i → a0r p xs i < 0 → xs.any p = false
 | [], _, _, _ => rfl
 | x :: xs, i, hi, h => by
 rw [a0r] at h
 split at h
 ·omega
 ·rename_i hp
  rw [List.any_cons, b9A xs (i + 1) (by omega) h]
  simpa using hp
theorem b4h {x : a0G} {i : Nat} {r : a0v} (hs : a1i x = true) (hi : i < x.2.1.length) : a1i (x.1, a2v x.2.1 i r, x.2.2) = a1b r := by
 rw [b1p] at hs ⊢
 simp only [Bool.and_eq_true] at hs
 obtain ⟨h1, ⟨h2, h3⟩, h4, h5⟩ := hs
 simp only [b4m, b9E _ _ _ h1 hi, h2, h3, h4, h5, Bool.and_self, Bool.and_true]
theorem b5e {x : a0G} {k : a0L} {r : a0v} {a : Int} (hs : a1i x = true) (hk : a0Z k = true) (hf : a0T x k < 0) (ha : 0 ≤ a ∧ a ≤ 1000000) : a1i (x.1, a1Z x.2.1 (a2l k x.2.1) (k, r), a) = (a1b r && decide (x.2.1.length < 16)) := by
 rw [b1p] at hs ⊢
 simp only [Bool.and_eq_true] at hs
 obtain ⟨h1, ⟨h2, h3⟩, h4, h5⟩ := hs
 simp only [a8v, b9l hk _ _ h1 (b9A _ 0 (by omega) hf) rfl, h2, decide_eq_true ha.1, decide_eq_true ha.2, Bool.and_self, Bool.and_true, Bool.true_and]
 congr 1
 exact decide_eq_decide.2 (by omega)
theorem b2m {a b : Bool} (h : (!a || !b) = false) : a = true ∧ b = true := by cases a <;> cases b <;> simp_all
theorem c3u {x : a0G} {k : a0L} {r : a0v} (h : (!a1i x || !a0Z k) = false) (hf : 0 ≤ a0T x k) (ho : (!a1i (x.1, a2v x.2.1 (a0T x k).toNat r, x.2.2)) = true) : a0O x k r = (x, false) := by
 obtain ⟨h1, h2⟩ := b2m h
 have hl := a5d hf
 rw [b4h h1 (by omega)] at ho
 rw [a0O, if_pos (by rw [ho]; simp)]
theorem c2R {x : a0G} {k : a0L} {r : a0v} (h : (!a1i x || !a0Z k) = false) (hf : 0 ≤ a0T x k) (ho : (!a1i (x.1, a2v x.2.1 (a0T x k).toNat r, x.2.2)) = false) : a0O x k r = ((x.1, a2v x.2.1 (a0T x k).toNat r, x.2.2), true) := by
 obtain ⟨h1, h2⟩ := b2m h
 have hl := a5d hf
 rw [b4h h1 (by omega)] at ho
 rw [a0O, if_neg (by rw [h, ho]; simp), if_pos hf]
theorem b3S {x : a0G} {k : a0L} (hs : a1i x = true) : 0 ≤ a3g x k ∧ a3g x k ≤ 1000000 := by
 rw [b1p] at hs
 simp only [Bool.and_eq_true, decide_eq_true_eq] at hs
 unfold a3g
 split
 ·rename_i h
 simp only [Bool.and_eq_true, decide_eq_true_eq] at h
 omega
 ·omega
theorem b9e {x : a0G} {k : a0L} (h : (decide (k.1 = 1) && decide (x.2.2 < k.2.1) && decide (k.2.1 ≤ 1000000)) = true) : k.2.1 = a3g x k := by
 simp only [Bool.and_eq_true, decide_eq_true_eq] at h
 rw [a3g, if_pos (by simp only [Bool.and_eq_true, decide_eq_true_eq]; omega)]
theorem b9B {x : a0G} {k : a0L} (h : (decide (k.1 = 1) && decide (x.2.2 < k.2.1) && decide (k.2.1 ≤ 1000000)) = false) : x.2.2 = a3g x k := by
 rw [a3g, if_neg]
 intro h2
 simp only [Bool.and_eq_true, decide_eq_true_eq] at h2
 rw [decide_eq_true h2.1, decide_eq_true (by omega : x.2.2 < k.2.1), decide_eq_true h2.2.2] at h
 cases h
theorem b5r {x : a0G} {k : a0L} {r : a0v} {j : Nat} {a : Int} (h : (!a1i x || !a0Z k) = false) (hf : ¬ 0 ≤ a0T x k) (hj : a2l k x.2.1 = j) (ha : a = a3g x k) (ho : (!a1i (x.1, a1Z x.2.1 j (k, r), a)) = true) : a0O x k r = (x, false) := by
 obtain ⟨h1, h2⟩ := b2m h
 subst hj; subst ha
 rw [b5e h1 h2 (by omega) (b3S h1)] at ho
 rw [a0O]
 split
 ·rfl
 ·rename_i h3
 rw [if_pos]
 rw [h, Bool.false_or] at h3
 have h4 : a1b r = true := by simpa using h3
 rw [h4, Bool.true_and] at ho
 simpa using ho
theorem b6L {x : a0G} {k : a0L} {r : a0v} {j : Nat} {a : Int} (h : (!a1i x || !a0Z k) = false) (hf : ¬ 0 ≤ a0T x k) (hj : a2l k x.2.1 = j) (ha : a = a3g x k) (ho : (!a1i (x.1, a1Z x.2.1 j (k, r), a)) = false) : a0O x k r = ((x.1, a1Z x.2.1 j (k, r), a), true) := by
 obtain ⟨h1, h2⟩ := b2m h
 subst hj; subst ha
 rw [b5e h1 h2 (by omega) (b3S h1)] at ho
 have ho' : a1b r = true ∧ x.2.1.length < 16 := by
 simpa using ho
 rw [a0O, if_neg (by rw [h, ho'.1]; simp), if_neg hf, if_neg (by omega)]
theorem b0Q {x : a0G} {k : a0L} {r : a0v} (hb : a1g x ≤ 1048576) (hb2 : r.length ≤ 1048576) : KFn Tryz.prog 107 [.agg [(.dv [] (.str (x.1))), (.dv [] (a0x (x.2.1))), (.dv [] (.int .i64 (x.2.2)))], .agg [(.dv [] (.int .i64 (k.1))), (.dv [] (.int .i64 (k.2.1))), (.dv [] (.str (k.2.2)))], .agg [(.dv [] (a0J (r)))]] (.tup [(true, [(.dv [] (.str ((a0O x k r).1.1))), (.key 9001), (.dv [] (.int .i64 ((a0O x k r).1.2.2)))]), (false, [(.dv [] (.bool ((a0O x k r).2)))])]) [(9001, some (a0b false (a0x ((a0O x k r).1.2.1))))] := by
 refine ⟨a0Q Tryz.func107 rfl Tryz.ntmps107 Tryz.results107 rfl (fun C => ?_)⟩
 have hlen : x.2.1.length ≤ 1048576 := by have h3 : a1g x = x.1.size + (x.2.1.length + a0V a1Q x.2.1) := rfl; omega
 refine yF 0 0 rfl rfl fun f0_0 => ?_
 refine yF 0 1 rfl rfl fun f0_1 => ?_
 refine yF 0 2 rfl rfl fun f0_2 => ?_
 refine yF 1 0 rfl rfl fun f1_0 => ?_
 refine yF 1 1 rfl rfl fun f1_1 => ?_
 refine yF 1 2 rfl rfl fun f1_2 => ?_
 refine yF 2 0 rfl rfl fun f2_0 => ?_
 iterate 10 refine z ?_
 refine zC Tryz.call74 ?_ (hf := a8k (s := x))
 iterate 3 refine z ?_
 refine a1P (a1t rfl rfl rfl rfl rfl) rfl rfl Tryz.call80 a5P (fun hg => (a0g (a0z rfl hg) (a0u (a0d a0c (a0d a0c (a0d a0c a0t)))) a0q)) rfl rfl ?_
 iterate 3 refine z ?_
 refine yQ rfl (fun c1 => ?_) fun c1 => ?_
 ·iterate 2 refine z ?_
 refine zK 8971 Tryz.call57 ?_ (hf := a6R (x := x) (by omega))
 iterate 3 refine z ?_
 rw [c6V c1]
 refine a0h (σ' := ⟨[(6, .box 6 0), (7, .one (.dv [] (.bool (false))))], [(6, 77, [(.dv [] (.str ((x).1))), (.key 9001), (.dv [] (.int .i64 ((x).2.2)))])], [(9001, some (a0b false (a0x (x.2.1))))]⟩) (a0e ⟨rfl, rfl, trivial⟩ ⟨rfl, trivial⟩ ⟨rfl, trivial⟩ rfl) ?_
 iterate 2 refine z ?_
 refine a1u (a0F hT rfl rfl rfl rfl) (a0m rfl) rfl rfl ?_
 first | exact ⟨rfl, rfl⟩ | skip
 ·iterate 4 refine z ?_
 refine zK 8971 Tryz.call57 ?_ (hf := a6R (x := x) (by omega))
 iterate 7 refine z ?_
 refine zC Tryz.call106 ?_ (hf := b2e)
 iterate 6 refine z ?_
 refine yQ rfl (fun c2 => ?_) fun c2 => ?_
 ·have d2 := of_decide_eq_true c2
  have hlt := a5d d2
  refine a1N (oB := [3, 4, 5, 6, 8]) (oK := [9001]) (by kernel_rfl) rfl rfl ?_
  refine zD 0 ?_
  refine zD 1 ?_
  refine zD 2 ?_
  refine zD 3 ?_
  refine a2K 9000 4 rfl (by kernel_rfl) rfl rfl rfl Tryz.call117 (a8z (by omega)) (a0g (a0a rfl) (a0u (a0d a0c a0t)) a0q) rfl rfl rfl rfl rfl ?_
  refine a1q 5 rfl (by kernel_rfl) rfl rfl (a4U (i := (a0T (x) (k)).toNat) hT rfl rfl rfl (a0a rfl) rfl (a0a rfl) (by omega) (by show _ < ((x.2.1)).length; omega)) rfl rfl rfl rfl ?_
  refine zD 6 ?_
  refine a3C [7] rfl rfl (by kernel_rfl) ?_
  refine a8Q (js := [9003]) (cs := (a2v x.2.1 (a0T x k).toNat r).flatMap a0H) hT rfl rfl rfl rfl (a0a rfl) (a0a rfl) rfl rfl rfl rfl (a0o (a1f rfl) a1z rfl) (by decide) (by decide) rfl (by show _ ≤ List.length ((x.2.1).flatMap a0H); rw [b2r]; omega) (b7I (by omega)) ?_
  simp only [a0p, a0k, SV.kill, CV.kill, kk, Nat.reduceBEq]
  refine z ?_
  refine a0s ?_
  refine a0s ?_
  refine a0h (a4Z (k := 9001) (c' := a0b false (a0x (a2v x.2.1 (a0T x k).toNat r))) rfl (congrArg (fun n => KC.mk false 119 4 n ((a2v x.2.1 (a0T x k).toNat r).flatMap a0H)) b4m.symm) rfl) ?_
  refine a0n ?_
  refine z ?_
  refine a3S rfl rfl rfl Tryz.call74 (a8k (s := (x.1, a2v x.2.1 (a0T x k).toNat r, x.2.2))) (a0g (a0a rfl) (a0u (a0d a0c (a0d (a0X rfl rfl) (a0d a0c a0t)))) a0q) rfl rfl ?_
  iterate 2 refine z ?_
  refine yQ rfl (fun c3 => ?_) fun c3 => ?_
  ·refine a0s ?_
  refine a0h (σ' := ⟨[(3, .box 3 0), (6, .box 6 0), (7, .one (.dv [] (.bool (false))))], [(3, 77, [(.dv [] (.str (x.1))), (.dv [] (a0x (x.2.1))), (.dv [] (.int .i64 (x.2.2)))]), (6, 77, [(.dv [] (.str (ByteArray.empty))), .nil, (.dv [] (.int .i64 (0)))])], []⟩) (a0e ⟨rfl, rfl, rfl, trivial⟩ ⟨rfl, rfl, trivial⟩ trivial rfl) ?_
  refine a0n ?_
  refine z ?_
  refine zK 8971 Tryz.call57 ?_ (hf := a6R (x := x) (by omega))
  iterate 3 refine z ?_
  rw [c3u c1 d2 c3]
  refine a0h (σ' := ⟨[(6, .box 6 0), (7, .one (.dv [] (.bool (false))))], [(6, 77, [(.dv [] (.str ((x).1))), (.key 9001), (.dv [] (.int .i64 ((x).2.2)))])], [(9001, some (a0b false (a0x (x.2.1))))]⟩) (a0e ⟨rfl, rfl, trivial⟩ ⟨rfl, trivial⟩ ⟨rfl, trivial⟩ rfl) ?_
  iterate 2 refine z ?_
  refine a1u (a0F hT rfl rfl rfl rfl) (a0m rfl) rfl rfl ?_
  first | exact ⟨rfl, rfl⟩ | skip
  ·iterate 7 refine z ?_
  rw [c2R c1 d2 c3]
  refine a0h (σ' := ⟨[(6, .box 6 0), (7, .one (.dv [] (.bool (true))))], [(6, 77, [(.dv [] (.str ((x).1))), (.key 9001), (.dv [] (.int .i64 ((x).2.2)))])], [(9001, some (a0b false (a0x (a2v x.2.1 (a0T x k).toNat r))))]⟩) (a0e ⟨rfl, rfl, trivial⟩ ⟨rfl, trivial⟩ ⟨rfl, trivial⟩ rfl) ?_
  refine z ?_
  refine a1u (a0F hT rfl rfl rfl rfl) (a0m rfl) rfl rfl ?_
  first | exact ⟨rfl, rfl⟩ | skip
 ·have d2 := of_decide_eq_false c2
  iterate 5 refine z ?_
  refine a1l (ι := Nat) (fun zz => ⟨[(3, .box 3 0), (4, .box 4 0), (5, .box 5 0), (6, .box 6 0), (7, .one (.dv [] (.bool (false)))), (8, .box 8 0), (10, .one (.dv [] (.int .i64 ((zz : Int)))))], [(3, 77, [(.dv [] (.str (x.1))), (.dv [] (a0x (x.2.1))), (.dv [] (.int .i64 (x.2.2)))]), (4, 60, [(.dv [] (.int .i64 (k.1))), (.dv [] (.int .i64 (k.2.1))), (.dv [] (.str (k.2.2)))]), (5, 63, [(.dv [] (a0J (r)))]), (6, 77, [(.dv [] (.str (ByteArray.empty))), .nil, (.dv [] (.int .i64 (0)))]), (8, 77, [(.dv [] (.str ((x).1))), (.key 9001), (.dv [] (.int .i64 ((x).2.2)))])], [(9001, some (a0b false (.sl 119 4 (x.2.1.length) (x.2.1.flatMap a0H))))]⟩) (fun zz => zz ≤ x.2.1.length ∧ a2l k x.2.1 = zz + a2l k (x.2.1.drop zz)) (fun zz => x.2.1.length - zz) (0) ?_ (a0e ⟨rfl, rfl, rfl, rfl, rfl, rfl, rfl, trivial⟩ ⟨rfl, rfl, rfl, rfl, rfl, trivial⟩ ⟨rfl, trivial⟩ rfl) (fun zz hx => ?_)
  ·exact ⟨Nat.zero_le _, by simp⟩
  obtain ⟨j, rfl⟩ : ∃ v, v = zz := ⟨_, rfl⟩
  replace hx : j ≤ x.2.1.length ∧ a2l k x.2.1 = j + a2l k (x.2.1.drop j) := hx
  obtain ⟨hj, hp⟩ := hx
  show Ok _ _ _ _ _ (⟨[(3, .box 3 0), (4, .box 4 0), (5, .box 5 0), (6, .box 6 0), (7, .one (.dv [] (.bool (false)))), (8, .box 8 0), (10, .one (.dv [] (.int .i64 ((j : Int)))))], [(3, 77, [(.dv [] (.str (x.1))), (.dv [] (a0x (x.2.1))), (.dv [] (.int .i64 (x.2.2)))]), (4, 60, [(.dv [] (.int .i64 (k.1))), (.dv [] (.int .i64 (k.2.1))), (.dv [] (.str (k.2.2)))]), (5, 63, [(.dv [] (a0J (r)))]), (6, 77, [(.dv [] (.str (ByteArray.empty))), .nil, (.dv [] (.int .i64 (0)))]), (8, 77, [(.dv [] (.str ((x).1))), (.key 9001), (.dv [] (.int .i64 ((x).2.2)))])], [(9001, some (a0b false (.sl 119 4 (x.2.1.length) (x.2.1.flatMap a0H))))]⟩ : St)
  refine a0s ?_
  refine a0s ?_
  refine a1N (oB := [3, 4, 5, 6, 8]) (oK := [9001]) (by kernel_rfl) rfl rfl ?_
  refine zD 0 ?_
  refine zD 1 ?_
  refine a1q 2 rfl (by kernel_rfl) rfl rfl (b1k (dd := a0x x.2.1) (a4h hT rfl rfl (a0a rfl) rfl rfl) rfl rfl) rfl rfl rfl rfl ?_
  refine zD 3 ?_
  refine zD 4 ?_
  refine zD 5 ?_
  refine zDG 6 ?_
  refine a8a 7 rfl (by kernel_rfl) (a1t rfl rfl rfl rfl rfl) rfl (fun hg => b1k (dd := a0x x.2.1) (a4h hT rfl rfl (a0z rfl hg) rfl rfl) rfl rfl) rfl rfl rfl rfl ?_
  refine zDG 8 ?_
  refine zDG 9 ?_
  refine zDG 10 ?_
  refine zDG 11 ?_
  refine zDG 12 ?_
  refine a3Q 13 rfl (by kernel_rfl) (a1t rfl rfl rfl rfl rfl) rfl rfl Tryz.call100 b0g (fun hg => (a0g (a0z rfl hg) (a0u (a0d a0c (a0d a0c (a0d a0c a0t)))) (a0g (a0z rfl hg) (a0u (a0d a0c (a0d a0c (a0d a0c a0t)))) a0q))) rfl rfl ?_
  refine zDG 14 ?_
  refine zD 15 ?_
  refine a1S (by kernel_rfl) ?_
  refine z ?_
  refine yQ rfl (fun c4 => ?_) fun c4 => ?_
  ·have hst := b9o hp c4
  have hst1 := hst.1
  iterate 3 refine z ?_
  refine a0n ?_
  iterate 3 refine z ?_
  refine a1J ?_
  iterate 2 refine z ?_
  refine ⟨j + 1, ?_, ?_, a0e ⟨rfl, rfl, rfl, rfl, rfl, rfl, rfl, trivial⟩ ⟨rfl, rfl, rfl, rfl, rfl, trivial⟩ ⟨rfl, trivial⟩ rfl⟩
  ·exact ⟨by omega, hst.2⟩
  ·omega
  ·have hpos := b7F hj hp c4
  iterate 5 refine z ?_
  refine a0s ?_
  refine a5w [0, 1, 2, 3, 4, 5, 6, 7] (oB := [3, 4, 5, 6, 8]) (oK := [9001]) (by kernel_rfl) rfl rfl ?_
  refine zD 0 ?_
  refine zD 1 ?_
  refine zD 2 ?_
  refine zD 3 ?_
  refine zD 4 ?_
  refine a2K 9000 5 rfl (by kernel_rfl) rfl rfl rfl Tryz.call117 (a8z (by omega)) (a0g (a0a rfl) (a0u (a0d a0c a0t)) a0q) rfl rfl rfl rfl rfl ?_
  refine a1q 6 rfl (by kernel_rfl) rfl rfl (a1v hT hB rfl rfl rfl (a1c (a0a rfl) rfl rfl rfl rfl rfl (a1c (a0a rfl) rfl rfl rfl rfl rfl a1w))) rfl rfl rfl rfl ?_
  refine a7o (k := 60) (js := [9003]) 7 hT rfl (by kernel_rfl) rfl rfl rfl rfl rfl rfl rfl rfl rfl (a0a rfl) rfl rfl (a0o (a0R rfl) (a0o (a0R rfl) (a0o (a0R rfl) (a0o (a1f rfl) a1z rfl) rfl) rfl) rfl) (by decide) (by decide) rfl rfl (by decide) ?_
  simp only [a0p, a0k, SV.kill, CV.kill, kk, Nat.reduceBEq]
  refine a3C [8, 9, 10] rfl rfl (by kernel_rfl) ?_
  refine b3r (k := 9001) (j := 60) (cs := (a1Z x.2.1 j (k, r)).flatMap a0H) (n := (a1Z x.2.1 j (k, r)).length) (b7o rfl rfl (by decide)) rfl rfl Tryz.call121 rfl rfl (a0a rfl) rfl rfl rfl (a0a rfl) (by omega) (by dsimp only [a0b]; omega) (a0a rfl) rfl rfl rfl rfl (by decide) (by dsimp only [a0b]; omega) (by dsimp only [a0b]; omega) (by rw [a8v]) (c0A (o := x.2.1) (j := j) (y := (k, r))) ?_
  simp only [a0p, a0k, SV.kill, CV.kill, kk, Nat.reduceBEq]
  iterate 20 refine z ?_
  refine yQ rfl (fun c5 => ?_) fun c5 => ?_
  ·refine a0n ?_
   iterate 5 refine z ?_
   refine a0s ?_
   refine a0s ?_
   refine a0h (a4Z (k := 9001) (c' := a0b false (a0x (a1Z x.2.1 j (k, r)))) rfl (rfl) rfl) ?_
   refine a0n ?_
   refine z ?_
   refine a3S rfl rfl rfl Tryz.call74 (a8k (s := (x.1, a1Z x.2.1 j (k, r), k.2.1))) (a0g (a0a rfl) (a0u (a0d a0c (a0d (a0X rfl rfl) (a0d a0c a0t)))) a0q) rfl rfl ?_
   iterate 2 refine z ?_
   refine yQ rfl (fun c6 => ?_) fun c6 => ?_
   ·refine a0s ?_
   refine a0h (σ' := ⟨[(3, .box 3 0), (6, .box 6 0), (7, .one (.dv [] (.bool (false))))], [(3, 77, [(.dv [] (.str (x.1))), (.dv [] (a0x (x.2.1))), (.dv [] (.int .i64 (x.2.2)))]), (6, 77, [(.dv [] (.str (ByteArray.empty))), .nil, (.dv [] (.int .i64 (0)))])], []⟩) (a0e ⟨rfl, rfl, rfl, trivial⟩ ⟨rfl, rfl, trivial⟩ trivial rfl) ?_
   refine a0n ?_
   refine z ?_
   refine zK 8971 Tryz.call57 ?_ (hf := a6R (x := x) (by omega))
   iterate 3 refine z ?_
   rw [b5r c1 d2 hpos (b9e c5) c6]
   refine a0h (σ' := ⟨[(6, .box 6 0), (7, .one (.dv [] (.bool (false))))], [(6, 77, [(.dv [] (.str ((x).1))), (.key 9001), (.dv [] (.int .i64 ((x).2.2)))])], [(9001, some (a0b false (a0x (x.2.1))))]⟩) (a0e ⟨rfl, rfl, trivial⟩ ⟨rfl, trivial⟩ ⟨rfl, trivial⟩ rfl) ?_
   iterate 2 refine z ?_
   refine a1u (a0F hT rfl rfl rfl rfl) (a0m rfl) rfl rfl ?_
   first | exact ⟨rfl, rfl⟩ | skip
   ·iterate 7 refine z ?_
   rw [b6L c1 d2 hpos (b9e c5) c6]
   refine a0h (σ' := ⟨[(6, .box 6 0), (7, .one (.dv [] (.bool (true))))], [(6, 77, [(.dv [] (.str ((x).1))), (.key 9001), (.dv [] (.int .i64 (k.2.1)))])], [(9001, some (a0b false (a0x (a1Z x.2.1 j (k, r)))))]⟩) (a0e ⟨rfl, rfl, trivial⟩ ⟨rfl, trivial⟩ ⟨rfl, trivial⟩ rfl) ?_
   refine z ?_
   refine a1u (a0F hT rfl rfl rfl rfl) (a0m rfl) rfl rfl ?_
   first | exact ⟨rfl, rfl⟩ | skip
  ·iterate 2 refine z ?_
   refine a0s ?_
   refine a0s ?_
   refine a0h (a4Z (k := 9001) (c' := a0b false (a0x (a1Z x.2.1 j (k, r)))) rfl (rfl) rfl) ?_
   refine a0n ?_
   refine z ?_
   refine a3S rfl rfl rfl Tryz.call74 (a8k (s := (x.1, a1Z x.2.1 j (k, r), x.2.2))) (a0g (a0a rfl) (a0u (a0d a0c (a0d (a0X rfl rfl) (a0d a0c a0t)))) a0q) rfl rfl ?_
   iterate 2 refine z ?_
   refine yQ rfl (fun c7 => ?_) fun c7 => ?_
   ·refine a0s ?_
   refine a0h (σ' := ⟨[(3, .box 3 0), (6, .box 6 0), (7, .one (.dv [] (.bool (false))))], [(3, 77, [(.dv [] (.str (x.1))), (.dv [] (a0x (x.2.1))), (.dv [] (.int .i64 (x.2.2)))]), (6, 77, [(.dv [] (.str (ByteArray.empty))), .nil, (.dv [] (.int .i64 (0)))])], []⟩) (a0e ⟨rfl, rfl, rfl, trivial⟩ ⟨rfl, rfl, trivial⟩ trivial rfl) ?_
   refine a0n ?_
   refine z ?_
   refine zK 8971 Tryz.call57 ?_ (hf := a6R (x := x) (by omega))
   iterate 3 refine z ?_
   rw [b5r c1 d2 hpos (b9B c5) c7]
   refine a0h (σ' := ⟨[(6, .box 6 0), (7, .one (.dv [] (.bool (false))))], [(6, 77, [(.dv [] (.str ((x).1))), (.key 9001), (.dv [] (.int .i64 ((x).2.2)))])], [(9001, some (a0b false (a0x (x.2.1))))]⟩) (a0e ⟨rfl, rfl, trivial⟩ ⟨rfl, trivial⟩ ⟨rfl, trivial⟩ rfl) ?_
   iterate 2 refine z ?_
   refine a1u (a0F hT rfl rfl rfl rfl) (a0m rfl) rfl rfl ?_
   first | exact ⟨rfl, rfl⟩ | skip
   ·iterate 7 refine z ?_
   rw [b6L c1 d2 hpos (b9B c5) c7]
   refine a0h (σ' := ⟨[(6, .box 6 0), (7, .one (.dv [] (.bool (true))))], [(6, 77, [(.dv [] (.str ((x).1))), (.key 9001), (.dv [] (.int .i64 ((x).2.2)))])], [(9001, some (a0b false (a0x (a1Z x.2.1 j (k, r)))))]⟩) (a0e ⟨rfl, rfl, trivial⟩ ⟨rfl, trivial⟩ ⟨rfl, trivial⟩ rfl) ?_
   refine z ?_
   refine a1u (a0F hT rfl rfl rfl rfl) (a0m rfl) rfl rfl ?_
   first | exact ⟨rfl, rfl⟩ | skip
theorem c1E {x : a0G} {b c : Bool} (h : (!a1i x || b || c) = false) : 0 ≤ x.2.2 ∧ x.2.2 ≤ 1000000 := by
 have hs : a1i x = true := by cases hh : a1i x <;> simp_all
 rw [b1p] at hs
 simp only [Bool.and_eq_true, decide_eq_true_eq] at hs
 omega
theorem c5L {x : a0G} {k : a0L} {r : a0v} (h : (!a1i x || !a0Z k || !a1b r) = false) (hf : 0 ≤ a0T x k) : a0O x k r = ((x.1, a2v x.2.1 (a0T x k).toNat r, x.2.2), true) := by
 rw [a0O, if_neg (by rw [h]; simp), if_pos hf]
theorem c3z {x : a0G} {k : a0L} {r : a0v} (h : (!a1i x || !a0Z k || !a1b r) = false) (hf : ¬ 0 ≤ a0T x k) (hl : (16 : Int) ≤ (x.2.1.length : Int)) : a0O x k r = (x, false) := by
 rw [a0O, if_neg (by rw [h]; simp), if_neg hf, if_pos (by omega)]
theorem b5T {x : a0G} {k : a0L} {r : a0v} {j : Nat} {a : Int} (h : (!a1i x || !a0Z k || !a1b r) = false) (hf : ¬ 0 ≤ a0T x k) (hl : ¬ (16 : Int) ≤ (x.2.1.length : Int)) (hj : a2l k x.2.1 = j) (ha : a = a3g x k) : a0O x k r = ((x.1, a1Z x.2.1 j (k, r), a), true) := by
 subst hj; subst ha
 rw [a0O, if_neg (by rw [h]; simp), if_neg hf, if_neg (by omega)]
theorem c7N {x : a0G} {k : a0L} (h : (decide (k.1 = 1) && (decide (x.2.2 + 1 ≤ k.2.1) && decide (k.2.1 ≤ 1000000))) = true) : k.2.1 = a3g x k := by rw [a3g, if_pos h]
theorem c8B {x : a0G} {k : a0L} (h : (decide (k.1 = 1) && (decide (x.2.2 + 1 ≤ k.2.1) && decide (k.2.1 ≤ 1000000))) = false) : x.2.2 = a3g x k := by rw [a3g, if_neg (by rw [h]; simp)]
theorem a8L {x : a0G} {k : a0L} {r : a0v} (hb : a1g x ≤ 1048576) (hb2 : r.length ≤ 1048576) : KFn Tryz.prog 65 [.agg [(.dv [] (.str (x.1))), (.dv [] (a0x (x.2.1))), (.dv [] (.int .i64 (x.2.2)))], .agg [(.dv [] (.int .i64 (k.1))), (.dv [] (.int .i64 (k.2.1))), (.dv [] (.str (k.2.2)))], .agg [(.dv [] (a0J (r)))]] (.tup [(true, [(.dv [] (.str ((a0O x k r).1.1))), (.key 9001), (.dv [] (.int .i64 ((a0O x k r).1.2.2)))]), (false, [(.dv [] (.bool ((a0O x k r).2)))])]) [(9001, some (a0b false (a0x ((a0O x k r).1.2.1))))] := by
 refine ⟨a0Q Tryz.func65 rfl Tryz.ntmps65 Tryz.results65 rfl (fun C => ?_)⟩
 have hlen : x.2.1.length ≤ 1048576 := by have h3 : a1g x = x.1.size + (x.2.1.length + a0V a1Q x.2.1) := rfl; omega
 refine yF 0 0 rfl rfl fun f0_0 => ?_
 refine yF 0 1 rfl rfl fun f0_1 => ?_
 refine yF 0 2 rfl rfl fun f0_2 => ?_
 refine yF 1 0 rfl rfl fun f1_0 => ?_
 refine yF 1 1 rfl rfl fun f1_1 => ?_
 refine yF 1 2 rfl rfl fun f1_2 => ?_
 refine yF 2 0 rfl rfl fun f2_0 => ?_
 iterate 10 refine z ?_
 refine zC Tryz.call50 ?_ (hf := b3H (s := x))
 iterate 3 refine z ?_
 refine a1P (a1t rfl rfl rfl rfl rfl) rfl rfl Tryz.call85 a7b (fun hg => (a0g (a0z rfl hg) (a0u (a0d a0c (a0d a0c (a0d a0c a0t)))) a0q)) rfl rfl ?_
 iterate 4 refine z ?_
 refine a1P (a1t rfl rfl rfl rfl rfl) rfl rfl Tryz.call86 a7j (fun hg => (a0g (a0z rfl hg) (a0u (a0d a0c a0t)) a0q)) rfl rfl ?_
 iterate 3 refine z ?_
 refine yQ rfl (fun c1 => ?_) fun c1 => ?_
 ·iterate 2 refine z ?_
 refine zK 8971 Tryz.call49 ?_ (hf := a7q (x := x) (by omega))
 iterate 3 refine z ?_
 rw [a0O, if_pos c1]
 refine a0h (σ' := ⟨[(6, .box 6 0), (7, .one (.dv [] (.bool (false))))], [(6, 77, [(.dv [] (.str ((x).1))), (.key 9001), (.dv [] (.int .i64 ((x).2.2)))])], [(9001, some (a0b false (a0x (x.2.1))))]⟩) (a0e ⟨rfl, rfl, trivial⟩ ⟨rfl, trivial⟩ ⟨rfl, trivial⟩ rfl) ?_
 iterate 2 refine z ?_
 refine a1u (a0F hT rfl rfl rfl rfl) (a0m rfl) rfl rfl ?_
 first | exact ⟨rfl, rfl⟩ | skip
 ·have hau := c1E c1
 iterate 4 refine z ?_
 refine zK 8971 Tryz.call49 ?_ (hf := a7q (x := x) (by omega))
 iterate 7 refine z ?_
 refine zC Tryz.call92 ?_ (hf := b1V)
 iterate 6 refine z ?_
 refine yQ rfl (fun c2 => ?_) fun c2 => ?_
 ·have d2 := of_decide_eq_true c2
  have hlt := a5d d2
  refine a0s ?_
  refine a1N (oB := [3, 4, 5, 6, 8]) (oK := [9001]) (by kernel_rfl) rfl rfl ?_
  refine zD 0 ?_
  refine zD 1 ?_
  refine zD 2 ?_
  refine zD 3 ?_
  refine a2K 9000 4 rfl (by kernel_rfl) rfl rfl rfl Tryz.call96 (a7Y (by omega)) (a0g (a0a rfl) (a0u (a0d a0c a0t)) a0q) rfl rfl rfl rfl rfl ?_
  refine a1q 5 rfl (by kernel_rfl) rfl rfl (a4U (i := (a0T (x) (k)).toNat) hT rfl rfl rfl (a0a rfl) rfl (a0a rfl) (by omega) (by show _ < ((x.2.1)).length; omega)) rfl rfl rfl rfl ?_
  refine zD 6 ?_
  refine a3C [7] rfl rfl (by kernel_rfl) ?_
  refine a8Q (js := [9003]) (cs := (a2v x.2.1 (a0T x k).toNat r).flatMap a0H) hT rfl rfl rfl rfl (a0a rfl) (a0a rfl) rfl rfl rfl rfl (a0o (a1f rfl) a1z rfl) (by decide) (by decide) rfl (by show _ ≤ List.length ((x.2.1).flatMap a0H); rw [b2r]; omega) (b7I (by omega)) ?_
  simp only [a0p, a0k, SV.kill, CV.kill, kk, Nat.reduceBEq]
  refine z ?_
  refine a0s ?_
  refine a0h (a4Z (k := 9001) (c' := a0b false (a0x (a2v x.2.1 (a0T x k).toNat r))) rfl (congrArg (fun n => KC.mk false 119 4 n ((a2v x.2.1 (a0T x k).toNat r).flatMap a0H)) b4m.symm) rfl) ?_
  refine a0n ?_
  iterate 4 refine z ?_
  rw [c5L c1 d2]
  refine a0h (σ' := ⟨[(6, .box 6 0), (7, .one (.dv [] (.bool (true))))], [(6, 77, [(.dv [] (.str ((x).1))), (.key 9001), (.dv [] (.int .i64 ((x).2.2)))])], [(9001, some (a0b false (a0x (a2v x.2.1 (a0T x k).toNat r))))]⟩) (a0e ⟨rfl, rfl, trivial⟩ ⟨rfl, trivial⟩ ⟨rfl, trivial⟩ rfl) ?_
  iterate 2 refine z ?_
  refine a1u (a0F hT rfl rfl rfl rfl) (a0m rfl) rfl rfl ?_
  first | exact ⟨rfl, rfl⟩ | skip
 ·have d2 := of_decide_eq_false c2
  iterate 9 refine z ?_
  refine yQ rfl (fun c3 => ?_) fun c3 => ?_
  ·have d3 := of_decide_eq_true c3
  iterate 5 refine z ?_
  rw [c3z c1 d2 d3]
  refine a0h (σ' := ⟨[(6, .box 6 0), (7, .one (.dv [] (.bool (false))))], [(6, 77, [(.dv [] (.str ((x).1))), (.key 9001), (.dv [] (.int .i64 ((x).2.2)))])], [(9001, some (a0b false (a0x (x.2.1))))]⟩) (a0e ⟨rfl, rfl, trivial⟩ ⟨rfl, trivial⟩ ⟨rfl, trivial⟩ rfl) ?_
  iterate 2 refine z ?_
  refine a1u (a0F hT rfl rfl rfl rfl) (a0m rfl) rfl rfl ?_
  first | exact ⟨rfl, rfl⟩ | skip
  ·have d3 := of_decide_eq_false c3
  iterate 7 refine z ?_
  refine a1l (ι := Nat) (fun zz => ⟨[(3, .box 3 0), (4, .box 4 0), (5, .box 5 0), (6, .box 6 0), (7, .one (.dv [] (.bool (false)))), (8, .box 8 0), (10, .one (.dv [] (.int .i64 ((zz : Int)))))], [(3, 77, [(.dv [] (.str (x.1))), (.dv [] (a0x (x.2.1))), (.dv [] (.int .i64 (x.2.2)))]), (4, 60, [(.dv [] (.int .i64 (k.1))), (.dv [] (.int .i64 (k.2.1))), (.dv [] (.str (k.2.2)))]), (5, 63, [(.dv [] (a0J (r)))]), (6, 77, [(.dv [] (.str (ByteArray.empty))), .nil, (.dv [] (.int .i64 (0)))]), (8, 77, [(.dv [] (.str ((x).1))), (.key 9001), (.dv [] (.int .i64 ((x).2.2)))])], [(9001, some (a0b false (.sl 119 4 (x.2.1.length) (x.2.1.flatMap a0H))))]⟩) (fun zz => zz ≤ x.2.1.length ∧ a2l k x.2.1 = zz + a2l k (x.2.1.drop zz)) (fun zz => x.2.1.length - zz) (0) ?_ (a0e ⟨rfl, rfl, rfl, rfl, rfl, rfl, rfl, trivial⟩ ⟨rfl, rfl, rfl, rfl, rfl, trivial⟩ ⟨rfl, trivial⟩ rfl) (fun zz hx => ?_)
  ·exact ⟨Nat.zero_le _, by simp⟩
  obtain ⟨j, rfl⟩ : ∃ v, v = zz := ⟨_, rfl⟩
  replace hx : j ≤ x.2.1.length ∧ a2l k x.2.1 = j + a2l k (x.2.1.drop j) := hx
  obtain ⟨hj, hp⟩ := hx
  show Ok _ _ _ _ _ (⟨[(3, .box 3 0), (4, .box 4 0), (5, .box 5 0), (6, .box 6 0), (7, .one (.dv [] (.bool (false)))), (8, .box 8 0), (10, .one (.dv [] (.int .i64 ((j : Int)))))], [(3, 77, [(.dv [] (.str (x.1))), (.dv [] (a0x (x.2.1))), (.dv [] (.int .i64 (x.2.2)))]), (4, 60, [(.dv [] (.int .i64 (k.1))), (.dv [] (.int .i64 (k.2.1))), (.dv [] (.str (k.2.2)))]), (5, 63, [(.dv [] (a0J (r)))]), (6, 77, [(.dv [] (.str (ByteArray.empty))), .nil, (.dv [] (.int .i64 (0)))]), (8, 77, [(.dv [] (.str ((x).1))), (.key 9001), (.dv [] (.int .i64 ((x).2.2)))])], [(9001, some (a0b false (.sl 119 4 (x.2.1.length) (x.2.1.flatMap a0H))))]⟩ : St)
  refine a0s ?_
  refine a0s ?_
  refine a1N (oB := [3, 4, 5, 6, 8]) (oK := [9001]) (by kernel_rfl) rfl rfl ?_
  refine zD 0 ?_
  refine zD 1 ?_
  refine zD 2 ?_
  refine zD 3 ?_
  refine zD 4 ?_
  refine zD 5 ?_
  refine zDG 6 ?_
  refine zDG 7 ?_
  refine zDG 8 ?_
  refine zDG 9 ?_
  refine zDG 10 ?_
  refine zDG 11 ?_
  refine zDG 12 ?_
  refine a3Q 13 rfl (by kernel_rfl) (a1t rfl rfl rfl rfl rfl) rfl rfl Tryz.call87 a9v (fun hg => (a0g (a0z rfl hg) (a0u (a0d a0c (a0d a0c (a0d a0c a0t)))) (a0g (a0z rfl hg) (a0u (a0d a0c (a0d a0c (a0d a0c a0t)))) a0q))) rfl rfl ?_
  refine zDG 14 ?_
  refine zD 15 ?_
  refine a1S (by kernel_rfl) ?_
  refine z ?_
  refine yQ rfl (fun c4 => ?_) fun c4 => ?_
  ·have hst := b9o hp c4
   have hst1 := hst.1
   iterate 3 refine z ?_
   refine a0n ?_
   iterate 3 refine z ?_
   refine a1J ?_
   iterate 2 refine z ?_
   refine ⟨j + 1, ?_, ?_, a0e ⟨rfl, rfl, rfl, rfl, rfl, rfl, rfl, trivial⟩ ⟨rfl, rfl, rfl, rfl, rfl, trivial⟩ ⟨rfl, trivial⟩ rfl⟩
   ·exact ⟨by omega, hst.2⟩
   ·omega
  ·have hpos := b7F hj hp c4
   iterate 6 refine z ?_
   refine a2H (k := 65) hT rfl rfl rfl rfl rfl rfl rfl rfl ?_
   iterate 3 refine z ?_
   refine c3I (b8 := 8) (i8 := 1) (k := 65) (j := 9001) (s := 67) (n := (x.2.1.take j).length) (cs := (x.2.1.take j).flatMap a0H) (c2s := List.replicate (j * 4) .hole ++ (x.2.1.drop j).flatMap a0H) hT rfl rfl rfl (b3v hT rfl rfl rfl (a0a rfl) rfl (a0a rfl) (by omega) (by dsimp only [a0b]; omega)) rfl rfl rfl rfl rfl rfl rfl (a0a rfl) rfl rfl rfl rfl rfl rfl (by decide) rfl rfl ⟨rfl, rfl⟩ (by omega) (by dsimp only [a0b]; omega) (by dsimp only [a0b]; omega) (by dsimp only [a0b]; omega) (by rw [List.length_take, Nat.min_eq_left (by omega)]; simp) (b9V) (b9M) rfl rfl rfl ?_
   simp only [a0p, a0k, SV.kill, CV.kill, kk, Nat.reduceBEq]
   iterate 2 refine z ?_
   refine a0s ?_
   refine a5w [0, 1, 2, 3, 4, 5] (oB := [3, 4, 5, 6, 8]) (oK := [65, 9001]) (by kernel_rfl) rfl rfl ?_
   refine zD 0 ?_
   refine zD 1 ?_
   refine zD 2 ?_
   refine a2K 9000 3 rfl (by kernel_rfl) rfl rfl rfl Tryz.call96 (a7Y (by omega)) (a0g (a0a rfl) (a0u (a0d a0c a0t)) a0q) rfl rfl rfl rfl rfl ?_
   refine a1q 4 rfl (by kernel_rfl) rfl rfl (a1v hT hB rfl rfl rfl (a1c (a0a rfl) rfl rfl rfl rfl rfl (a1c (a0a rfl) rfl rfl rfl rfl rfl a1w))) rfl rfl rfl rfl ?_
   refine a7o (k := 76) (js := [9003]) 5 hT rfl (by kernel_rfl) rfl rfl rfl rfl rfl rfl rfl rfl rfl (a0a rfl) rfl rfl (a0o (a0R rfl) (a0o (a0R rfl) (a0o (a0R rfl) (a0o (a1f rfl) a1z rfl) rfl) rfl) rfl) (by decide) (by decide) rfl rfl (by decide) ?_
   simp only [a0p, a0k, SV.kill, CV.kill, kk, Nat.reduceBEq]
   refine a3C [6, 7] rfl rfl (by kernel_rfl) ?_
   refine a3f (k := 65) (j := 76) (cs := (x.2.1.take j ++ [(k, r)]).flatMap a0H) (n := (x.2.1.take j ++ [(k, r)]).length) hT rfl rfl rfl rfl rfl rfl rfl (a0a rfl) rfl rfl rfl (a0a rfl) rfl rfl (by decide) (by dsimp only [a0b]; simp only [List.length_take]; omega) (by dsimp only [a0b]; simp only [List.length_take]; omega) (by simp) (by rw [List.flatMap_append]; rfl) ?_
   simp only [a0p, a0k, SV.kill, CV.kill, kk, Nat.reduceBEq]
   iterate 7 refine z ?_
   refine b4c (k := 65) (j := 9001) (s := 80) (n := (a1Z x.2.1 j (k, r)).length) (cs := (a1Z x.2.1 j (k, r)).flatMap a0H) (c2s := _) hT rfl rfl rfl (b4a hT rfl rfl rfl (a0a rfl) rfl (a0a rfl) (by omega) (by dsimp only [a0b]; omega)) rfl rfl rfl rfl rfl rfl rfl (a0a rfl) rfl rfl rfl rfl rfl rfl (by decide) rfl rfl ⟨rfl, rfl⟩ (by dsimp only [a0b]; omega) (by dsimp only [a0b]; omega) (by dsimp only [a0b]; simp only [List.length_append, List.length_take, List.length_singleton]; omega) (by dsimp only [a0b]; simp only [List.length_append, List.length_take, List.length_singleton]; omega) (by rw [a8v]; simp; omega) (c0F hj) (rfl) ?_
   simp only [a0p, a0k, SV.kill, CV.kill, kk, Nat.reduceBEq]
   iterate 14 refine z ?_
   refine a1P (a1t rfl rfl rfl rfl rfl) rfl rfl Tryz.call54 a6Y (fun hg => (a0g (a0z rfl hg) (a0D a0c) (a0g (a0z rfl hg) (a0D a0c) (a0g (a0j (a0i rfl)) (a0D a0c) a0q)))) rfl rfl ?_
   iterate 2 refine z ?_
   refine yQ rfl (fun c5 => ?_) fun c5 => ?_
   ·refine a0n ?_
   iterate 5 refine z ?_
   refine a0s ?_
   refine a0h (a2R (b := 8) (i := 1) (k := 65) (k' := 9001) rfl rfl rfl rfl (by decide) rfl rfl) ?_
   simp only [a0p, a0k, SV.kill, CV.kill, kk, Nat.reduceBEq]
   refine a0n ?_
   iterate 4 refine z ?_
   rw [b5T c1 d2 d3 hpos (c7N c5)]
   refine a0h (σ' := ⟨[(6, .box 6 0), (7, .one (.dv [] (.bool (true))))], [(6, 77, [(.dv [] (.str ((x).1))), (.key 9001), (.dv [] (.int .i64 (k.2.1)))])], [(9001, some (a0b false (a0x (a1Z x.2.1 j (k, r)))))]⟩) (a0e ⟨rfl, rfl, trivial⟩ ⟨rfl, trivial⟩ ⟨rfl, trivial⟩ rfl) ?_
   refine z ?_
   refine a1u (a0F hT rfl rfl rfl rfl) (a0m rfl) rfl rfl ?_
   first | exact ⟨rfl, rfl⟩ | skip
   ·iterate 2 refine z ?_
   refine a0s ?_
   refine a0h (a2R (b := 8) (i := 1) (k := 65) (k' := 9001) rfl rfl rfl rfl (by decide) rfl rfl) ?_
   simp only [a0p, a0k, SV.kill, CV.kill, kk, Nat.reduceBEq]
   refine a0n ?_
   iterate 4 refine z ?_
   rw [b5T c1 d2 d3 hpos (c8B c5)]
   refine a0h (σ' := ⟨[(6, .box 6 0), (7, .one (.dv [] (.bool (true))))], [(6, 77, [(.dv [] (.str ((x).1))), (.key 9001), (.dv [] (.int .i64 ((x).2.2)))])], [(9001, some (a0b false (a0x (a1Z x.2.1 j (k, r)))))]⟩) (a0e ⟨rfl, rfl, trivial⟩ ⟨rfl, trivial⟩ ⟨rfl, trivial⟩ rfl) ?_
   refine z ?_
   refine a1u (a0F hT rfl rfl rfl rfl) (a0m rfl) rfl rfl ?_
   first | exact ⟨rfl, rfl⟩ | skip
def a2G (x : a0G) (k : a0L) (r : a0v) : a0G × Bool := if 0 ≤ a0T x k then (x, false) else a0O x k r
theorem b9g {x : a0G} {k : a0L} {r : a0v} (h : 0 ≤ a0T x k) : a2G x k r = (x, false) := if_pos h
theorem b7A {x : a0G} {k : a0L} {r : a0v} (h : ¬ 0 ≤ a0T x k) : a2G x k r = a0O x k r := if_neg h
theorem c5w {x : a0G} {k : a0L} {r : a0v} (hb : a1g x ≤ 1048576) (hb2 : r.length ≤ 1048576) : KFn Tryz.prog 108 [.agg [(.dv [] (.str (x.1))), (.dv [] (a0x (x.2.1))), (.dv [] (.int .i64 (x.2.2)))], .agg [(.dv [] (.int .i64 (k.1))), (.dv [] (.int .i64 (k.2.1))), (.dv [] (.str (k.2.2)))], .agg [(.dv [] (a0J (r)))]] (.tup [(true, [(.dv [] (.str ((a2G x k r).1.1))), (.key 9001), (.dv [] (.int .i64 ((a2G x k r).1.2.2)))]), (false, [(.dv [] (.bool ((a2G x k r).2)))])]) [(9001, some (a0b false (a0x ((a2G x k r).1.2.1))))] := by
 refine ⟨a0Q Tryz.func108 rfl Tryz.ntmps108 Tryz.results108 rfl (fun C => ?_)⟩
 refine yF 0 0 rfl rfl fun f0_0 => ?_
 refine yF 0 1 rfl rfl fun f0_1 => ?_
 refine yF 0 2 rfl rfl fun f0_2 => ?_
 refine yF 1 0 rfl rfl fun f1_0 => ?_
 refine yF 1 1 rfl rfl fun f1_1 => ?_
 refine yF 1 2 rfl rfl fun f1_2 => ?_
 refine yF 2 0 rfl rfl fun f2_0 => ?_
 iterate 11 refine z ?_
 refine zC Tryz.call106 ?_ (hf := b2e)
 iterate 2 refine z ?_
 refine yQ rfl (fun c1 => ?_) fun c1 => ?_
 ·have d1 := of_decide_eq_true c1
 iterate 2 refine z ?_
 refine zK 8971 Tryz.call57 ?_ (hf := a6R (x := x) (by omega))
 iterate 3 refine z ?_
 rw [b9g d1]
 refine a0h (σ' := ⟨[(6, .box 6 0), (7, .one (.dv [] (.bool (false))))], [(6, 77, [(.dv [] (.str ((x).1))), (.key 9001), (.dv [] (.int .i64 ((x).2.2)))])], [(9001, some (a0b false (a0x (x.2.1))))]⟩) (a0e ⟨rfl, rfl, trivial⟩ ⟨rfl, trivial⟩ ⟨rfl, trivial⟩ rfl) ?_
 iterate 2 refine z ?_
 refine a1u (a0F hT rfl rfl rfl rfl) (a0m rfl) rfl rfl ?_
 first | exact ⟨rfl, rfl⟩ | skip
 ·have d1 := of_decide_eq_false c1
 iterate 6 refine z ?_
 refine zK 0 Tryz.call107 ?_ (hf := b0Q (x := x) (k := k) (r := r) (by omega) (by omega))
 iterate 5 refine z ?_
 rw [b7A d1]
 refine a0h (σ' := ⟨[(6, .box 6 0), (7, .one (.dv [] (.bool ((a0O (x) (k) (r)).2))))], [(6, 77, [(.dv [] (.str ((a0O (x) (k) (r)).1.1))), (.key 9001), (.dv [] (.int .i64 ((a0O (x) (k) (r)).1.2.2)))])], [(9001, some (a0b false (a0x ((a0O x k r).1.2.1))))]⟩) (a0e ⟨rfl, rfl, trivial⟩ ⟨rfl, trivial⟩ ⟨rfl, trivial⟩ rfl) ?_
 refine z ?_
 refine a1u (a0F hT rfl rfl rfl rfl) (a0m rfl) rfl rfl ?_
 first | exact ⟨rfl, rfl⟩ | skip
theorem c4Q {x : a0G} {k : a0L} {r : a0v} (hb : a1g x ≤ 1048576) (hb2 : r.length ≤ 1048576) : KFn Tryz.prog 90 [.agg [(.dv [] (.str (x.1))), (.dv [] (a0x (x.2.1))), (.dv [] (.int .i64 (x.2.2)))], .agg [(.dv [] (.int .i64 (k.1))), (.dv [] (.int .i64 (k.2.1))), (.dv [] (.str (k.2.2)))], .agg [(.dv [] (a0J (r)))]] (.tup [(true, [(.dv [] (.str ((a2G x k r).1.1))), (.key 9001), (.dv [] (.int .i64 ((a2G x k r).1.2.2)))]), (false, [(.dv [] (.bool ((a2G x k r).2)))])]) [(9001, some (a0b false (a0x ((a2G x k r).1.2.1))))] := by
 refine ⟨a0Q Tryz.func90 rfl Tryz.ntmps90 Tryz.results90 rfl (fun C => ?_)⟩
 refine yF 0 0 rfl rfl fun f0_0 => ?_
 refine yF 0 1 rfl rfl fun f0_1 => ?_
 refine yF 0 2 rfl rfl fun f0_2 => ?_
 refine yF 1 0 rfl rfl fun f1_0 => ?_
 refine yF 1 1 rfl rfl fun f1_1 => ?_
 refine yF 1 2 rfl rfl fun f1_2 => ?_
 refine yF 2 0 rfl rfl fun f2_0 => ?_
 iterate 11 refine z ?_
 refine zC Tryz.call92 ?_ (hf := b1V)
 iterate 2 refine z ?_
 refine yQ rfl (fun c1 => ?_) fun c1 => ?_
 ·have d1 := of_decide_eq_true c1
 iterate 2 refine z ?_
 refine zK 8971 Tryz.call49 ?_ (hf := a7q (x := x) (by omega))
 iterate 3 refine z ?_
 rw [b9g d1]
 refine a0h (σ' := ⟨[(6, .box 6 0), (7, .one (.dv [] (.bool (false))))], [(6, 77, [(.dv [] (.str ((x).1))), (.key 9001), (.dv [] (.int .i64 ((x).2.2)))])], [(9001, some (a0b false (a0x (x.2.1))))]⟩) (a0e ⟨rfl, rfl, trivial⟩ ⟨rfl, trivial⟩ ⟨rfl, trivial⟩ rfl) ?_
 iterate 2 refine z ?_
 refine a1u (a0F hT rfl rfl rfl rfl) (a0m rfl) rfl rfl ?_
 first | exact ⟨rfl, rfl⟩ | skip
 ·have d1 := of_decide_eq_false c1
 iterate 6 refine z ?_
 refine zK 0 Tryz.call65 ?_ (hf := a8L (x := x) (k := k) (r := r) (by omega) (by omega))
 iterate 5 refine z ?_
 rw [b7A d1]
 refine a0h (σ' := ⟨[(6, .box 6 0), (7, .one (.dv [] (.bool ((a0O (x) (k) (r)).2))))], [(6, 77, [(.dv [] (.str ((a0O (x) (k) (r)).1.1))), (.key 9001), (.dv [] (.int .i64 ((a0O (x) (k) (r)).1.2.2)))])], [(9001, some (a0b false (a0x ((a0O x k r).1.2.1))))]⟩) (a0e ⟨rfl, rfl, trivial⟩ ⟨rfl, trivial⟩ ⟨rfl, trivial⟩ rfl) ?_
 refine z ?_
 refine a1u (a0F hT rfl rfl rfl rfl) (a0m rfl) rfl rfl ?_
 first | exact ⟨rfl, rfl⟩ | skip
theorem a9w {x : a0G} {k : a0L} {r : a0v} (h : (a0O x k r).2 = false) : (a0O x k r).1 = x := by
 unfold a0O at h ⊢
 split
 ·rfl
 ·rename_i h1
 rw [if_neg h1] at h
 split
 ·rename_i h2; rw [if_pos h2] at h; cases h
 ·rename_i h2
  rw [if_neg h2] at h
  split
  ·rfl
  ·rename_i h3; rw [if_neg h3] at h; cases h
def uvL (n : Nat) : List UInt8 := if h : n < 128 then [UInt8.ofNat n] else UInt8.ofNat (n % 128 + 128) :: uvL (n / 128)
termination_by n
decreasing_by omega
theorem a6O {n : Nat} (h : n < 128) : uvL n = [UInt8.ofNat n] := by rw [uvL, dif_pos h]
theorem a8B {n : Nat} (h : ¬ n < 128) : uvL n = UInt8.ofNat (n % 128 + 128) :: uvL (n / 128) := by rw [uvL, dif_neg h]
def a3h (b : List UInt8) (n : Int) : List UInt8 := if 0 ≤ n ∧ n ≤ 1000000000000 then b ++ uvL n.toNat else b
theorem c4T {n : Int} (h : (!(decide (0 ≤ n) && decide (n ≤ 1000000000000))) = false) : 0 ≤ n ∧ n ≤ 1000000000000 := by simpa using h
theorem c3s {n : Int} (h : (!(decide (0 ≤ n) && decide (n ≤ 1000000000000))) = true) : ¬ (0 ≤ n ∧ n ≤ 1000000000000) := fun h2 => by
 rw [decide_eq_true h2.1, decide_eq_true h2.2] at h; cases h
theorem a7s {b : List UInt8} {n : Int} (h : 0 ≤ n ∧ n ≤ 1000000000000) : a3h b n = b ++ uvL n.toNat := if_pos h
theorem b7V {b : List UInt8} {n : Int} (h : ¬ (0 ≤ n ∧ n ≤ 1000000000000)) : a3h b n = b := if_neg h
theorem b3Q : ∀ (k n : Nat), n < 128 ^ (k + 1) → (uvL n).length ≤ k + 1
 | 0, n, h => by rw [a6O (by simpa using h)]; simp
 | k + 1, n, h => by
 by_cases h1 : n < 128
 ·rw [a6O h1]; simp
 ·rw [a8B h1, List.length_cons]
  have := b3Q k (n / 128) (by rw [Nat.pow_succ] at h; omega)
  omega
theorem a6Z {n : Nat} (h : n ≤ 1000000000000) : (uvL n).length ≤ 6 := b3Q 5 n (by omega)
theorem a6I (b : List UInt8) (n : Int) : (a3h b n).length ≤ b.length + 6 := by
 unfold a3h
 split
 ·rename_i h
 have := a6Z (n := n.toNat) (by omega)
 rw [List.length_append]; omega
 ·omega
theorem c6B {o x : List UInt8} {m n : Nat} (ho : o ++ uvL m = x ++ uvL n) (h : (128 : Int) ≤ (m : Int)) : (o ++ [UInt8.ofNat (m % 128 + 128)]) ++ uvL (m / 128) = x ++ uvL n := by
 rw [← ho, a8B (n := m) (by omega)]; simp
theorem b7p {x o : List UInt8} {n : Int} {m : Nat} (hr : 0 ≤ n ∧ n ≤ 1000000000000) (ho : o ++ uvL m = x ++ uvL n.toNat) (h : ¬ (128 : Int) ≤ (m : Int)) : o ++ [UInt8.ofNat m] = a3h x n := by
 rw [a7s hr, ← ho, a6O (n := m) (by omega)]
theorem c3k {m : Nat} (z : Int) (hz : z = (m : Int)) : IntKind.u8.wrap z = ((UInt8.ofNat m).toNat : Int) := by
 subst hz
 simp [IntKind.wrap, IntKind.signed, IntKind.bits]
theorem b0O {o : List UInt8} {m : Nat} {z : Int} (hz : z = (m : Int)) : o.flatMap a1x ++ [DV.int .u8 (IntKind.u8.wrap z)] = (o ++ [UInt8.ofNat m]).flatMap a1x := by
 rw [List.flatMap_append, c3k z hz]; rfl
theorem b4o {x : List UInt8} (hb : x.length ≤ 4398046511104) : KFn Tryz.prog 40 [.one (.dv [] (a0l (x)))] (.one (.key 3)) [(3, some (a0b false (a0l (x))))] := by
 refine ⟨a0Q Tryz.func40 rfl Tryz.ntmps40 Tryz.results40 rfl (fun C => ?_)⟩
 refine a1k (x := .tmp 0) (a0a rfl) fun f0 => ?_
 iterate 4 refine z ?_
 refine a2H (k := 3) hT rfl rfl rfl rfl rfl rfl rfl rfl ?_
 refine z ?_
 refine b0r (k := 3) (cs := (x).flatMap a1x) (n := (x).length) hT rfl rfl rfl rfl rfl rfl rfl (a0a rfl) rfl rfl rfl (a0a rfl) (a3y (fun _ => rfl) _) (by first | (dsimp only [a0b]; omega) | omega) (by first | (dsimp only [a0b]; omega) | omega) (Nat.zero_add _) (rfl) ?_
 simp only [a0p, a0k, SV.kill, CV.kill, kk, Nat.reduceBEq]
 iterate 2 refine z ?_
 refine a0h (σ' := ⟨[(2, .one (.key 3))], [], [(3, some (a0b false (a0l (x))))]⟩) (a0e ⟨rfl, trivial⟩ trivial ⟨rfl, trivial⟩ rfl) ?_
 refine z ?_
 refine a1r (a0m rfl) ?_
 exact ⟨rfl, rfl⟩
theorem a8Z {x : List UInt8} {n : Int} (hb : x.length ≤ 2199023255552) : KFn Tryz.prog 44 [.one (.dv [] (a0l (x))), .one (.dv [] (.int .i64 (n)))] (.one (.key 30)) [(30, some (a0b false (a0l (a3h x n))))] := by
 refine ⟨a0Q Tryz.func44 rfl Tryz.ntmps44 Tryz.results44 rfl (fun C => ?_)⟩
 refine a1k (x := .tmp 0) (a0a rfl) fun f0 => ?_
 refine a1k (x := .tmp 1) (a0a rfl) fun f1 => ?_
 iterate 5 refine z ?_
 refine zK 27 Tryz.call40 ?_ (hf := b4o (x := x) (by omega))
 iterate 5 refine z ?_
 refine zC Tryz.call73 ?_ (hf := a6w)
 iterate 2 refine z ?_
 refine yQ rfl (fun c1 => ?_) fun c1 => ?_
 ·have hno := c3s c1
 iterate 4 refine z ?_
 refine a0h (σ' := ⟨[(4, .one (.key 30))], [], [(30, some (a0b false (a0l (a3h x n))))]⟩) (a0e ⟨rfl, trivial⟩ trivial ⟨(congrArg (fun l : List UInt8 => some (some (KC.mk false 5 1 l.length (l.flatMap a1x)))) (by first | exact (b7V hno).symm | exact (b7p hr ho d2))), trivial⟩ rfl) ?_
 iterate 2 refine z ?_
 refine a1r (a0m rfl) ?_
 exact ⟨rfl, rfl⟩
 ·have hr := c4T c1
 iterate 4 refine z ?_
 refine a1l (ι := Nat × List UInt8) (fun zz => ⟨[(1, .one (.dv [] (.int .i64 ((zz.1 : Int))))), (4, .one .nil), (5, .one (.key 30))], [], [(30, some (a0b false (.sl 5 1 (zz.2.length) (zz.2.flatMap a1x))))]⟩) (fun zz => zz.2 ++ uvL zz.1 = x ++ uvL n.toNat ∧ zz.1 ≤ 1000000000000) (fun zz => zz.1) ((n.toNat, x)) ?_ (a0e ⟨(congrArg (fun z : Int => some (SV.one (CV.dv [] (DV.int .i64 z)))) (show n = ((n.toNat : Nat) : Int) by omega)), rfl, rfl, trivial⟩ trivial ⟨rfl, trivial⟩ rfl) (fun zz hx => ?_)
 ·exact ⟨rfl, by dsimp only; omega⟩
 obtain ⟨m, o⟩ := zz
 replace hx : o ++ uvL m = x ++ uvL n.toNat ∧ m ≤ 1000000000000 := hx
 obtain ⟨ho, hm⟩ := hx
 have hl := congrArg List.length ho
 rw [List.length_append, List.length_append] at hl
 have hl2 := a6Z (n := n.toNat) (by omega)
 show Ok _ _ _ _ _ (⟨[(1, .one (.dv [] (.int .i64 ((m : Int))))), (4, .one .nil), (5, .one (.key 30))], [], [(30, some (a0b false (.sl 5 1 (o.length) (o.flatMap a1x))))]⟩ : St)
 iterate 5 refine z ?_
 refine yQ rfl (fun c2 => ?_) fun c2 => ?_
 ·have d2 := of_decide_eq_true c2
  iterate 6 refine z ?_
  refine yO rfl rfl (b2V rfl (a0a rfl) (a0j (a0i rfl)) (by omega) (by omega)) rfl ?_
  refine z ?_
  refine yO rfl rfl (a6M hT rfl rfl rfl (a0a rfl)) rfl ?_
  refine a3D (k := 19) (js := []) hT rfl rfl rfl rfl rfl rfl rfl rfl rfl (a0a rfl) rfl rfl (a0o (a0R rfl) a1z rfl) (by decide) (by decide) rfl rfl ?_
  simp only [a0p, a0k, SV.kill, CV.kill, kk, Nat.reduceBEq]
  refine a3f (k := 30) (j := 19) (cs := (o ++ [UInt8.ofNat (m % 128 + 128)]).flatMap a1x) (n := (o ++ [UInt8.ofNat (m % 128 + 128)]).length) hT rfl rfl rfl rfl rfl rfl rfl (a0a rfl) rfl rfl rfl (a0a rfl) rfl rfl (by decide) (by dsimp only [a0b]; omega) (by dsimp only [a0b]; omega) (by simp) (b0O (by omega)) ?_
  simp only [a0p, a0k, SV.kill, CV.kill, kk, Nat.reduceBEq]
  iterate 2 refine z ?_
  refine a0n ?_
  refine z ?_
  refine yO rfl rfl (c5q rfl (a0a rfl) (a0j (a0i rfl)) (by omega) (by omega)) rfl ?_
  refine z ?_
  refine a1J ?_
  iterate 2 refine z ?_
  refine ⟨(m / 128, o ++ [UInt8.ofNat (m % 128 + 128)]), ?_, ?_, a0e ⟨rfl, rfl, rfl, trivial⟩ trivial ⟨rfl, trivial⟩ rfl⟩
  ·exact ⟨c6B ho d2, by dsimp only; omega⟩
  ·dsimp only; omega
 ·have d2 := of_decide_eq_false c2
  iterate 8 refine z ?_
  refine yO rfl rfl (a6M hT rfl rfl rfl (a0a rfl)) rfl ?_
  refine a3D (k := 26) (js := []) hT rfl rfl rfl rfl rfl rfl rfl rfl rfl (a0a rfl) rfl rfl (a0o (a0R rfl) a1z rfl) (by decide) (by decide) rfl rfl ?_
  simp only [a0p, a0k, SV.kill, CV.kill, kk, Nat.reduceBEq]
  refine a3f (k := 30) (j := 26) (cs := (o ++ [UInt8.ofNat m]).flatMap a1x) (n := (o ++ [UInt8.ofNat m]).length) hT rfl rfl rfl rfl rfl rfl rfl (a0a rfl) rfl rfl rfl (a0a rfl) rfl rfl (by decide) (by dsimp only [a0b]; omega) (by dsimp only [a0b]; omega) (by simp) (b0O rfl) ?_
  simp only [a0p, a0k, SV.kill, CV.kill, kk, Nat.reduceBEq]
  iterate 2 refine z ?_
  refine a0h (σ' := ⟨[(4, .one (.key 30))], [], [(30, some (a0b false (a0l (a3h x n))))]⟩) (a0e ⟨rfl, trivial⟩ trivial ⟨(congrArg (fun l : List UInt8 => some (some (KC.mk false 5 1 l.length (l.flatMap a1x)))) (by first | exact (b7V hno).symm | exact (b7p hr ho d2))), trivial⟩ rfl) ?_
  refine z ?_
  refine a1r (a0m rfl) ?_
  exact ⟨rfl, rfl⟩
theorem b8K {x y : List UInt8} (hb : x.length ≤ 1099511627776) (hb2 : y.length ≤ 1099511627776) : KFn Tryz.prog 47 [.one (.dv [] (a0l (x))), .one (.dv [] (a0l (y)))] (.one (.key 8030)) [(8030, some (a0b false (a0l (a3h x (y.length : Int) ++ y))))] := by
 refine ⟨a0Q Tryz.func47 rfl Tryz.ntmps47 Tryz.results47 rfl (fun C => ?_)⟩
 have hal := a6I x (y.length : Int)
 refine a1k (x := .tmp 0) (a0a rfl) fun f0 => ?_
 refine a1k (x := .tmp 1) (a0a rfl) fun f1 => ?_
 iterate 7 refine z ?_
 refine zK 8000 Tryz.call44 ?_ (hf := a8Z (x := x) (n := (y.length : Int)) (by omega))
 refine z ?_
 refine b0r (k := 8030) (cs := (a3h x (y.length : Int) ++ y).flatMap a1x) (n := (a3h x (y.length : Int) ++ y).length) hT rfl rfl rfl rfl rfl rfl rfl (a0a rfl) rfl rfl rfl (a0a rfl) (a3y (fun _ => rfl) _) (by dsimp only [a0b, KC.old]; omega) (by dsimp only [a0b, KC.old]; omega) (by simp [a0b, KC.old]) (by rw [List.flatMap_append]; rfl) ?_
 simp only [a0p, a0k, SV.kill, CV.kill, kk, Nat.reduceBEq]
 iterate 2 refine z ?_
 refine a0h (σ' := ⟨[(4, .one (.key 8030))], [], [(8030, some (a0b false (a0l (a3h x (y.length : Int) ++ y))))]⟩) (a0e ⟨rfl, trivial⟩ trivial ⟨rfl, trivial⟩ rfl) ?_
 refine z ?_
 refine a1r (a0m rfl) ?_
 exact ⟨rfl, rfl⟩
def be6 (n : Nat) : List UInt8 := (List.range 6).map fun j => UInt8.ofNat (n / 2 ^ (8 * (5 - j)))
def keyN (k : a0L) : Nat := (k.2.1 + 1000000000000).toNat
def a1C (k : a0L) : List UInt8 := if a0Z k then (UInt8.ofNat k.1.toNat :: (if k.1 = 2 then [] else be6 (keyN k))) ++ k.2.2.data.toList else []
theorem a8P (n : Nat) : (be6 n).length = 6 := by simp [be6]
theorem b8D {n j : Nat} (h : j < 6) : (be6 n).take (j + 1) = (be6 n).take j ++ [UInt8.ofNat (n / 2 ^ (8 * (5 - j)))] := by
 rw [List.take_add_one]
 congr 1
 simp [be6, h]
theorem a7K {k : a0L} (h : a0Z k = true) : (1 ≤ k.1 ∧ k.1 ≤ 3) ∧ (-1000000000000 ≤ k.2.1 ∧ k.2.1 ≤ 1000000000000) ∧ k.2.2.size ≤ 12 := by
 simp only [a0Z, a4r, Bool.and_eq_true, decide_eq_true_eq] at h
 omega
theorem a7U {k : a0L} (h : a0Z k = false) : a1C k = [] := by rw [a1C, h]; rfl
theorem b2Y {k : a0L} (h : a0Z k = true) (h2 : k.1 = 2) : a1C k = [UInt8.ofNat k.1.toNat] ++ k.2.2.data.toList := by rw [a1C, if_pos h, if_pos h2]
theorem b2q {k : a0L} {j : Nat} (h : a0Z k = true) (h2 : ¬ k.1 = 2) (hj : 6 ≤ j) : a1C k = (UInt8.ofNat k.1.toNat :: (be6 (keyN k)).take j) ++ k.2.2.data.toList := by
 rw [a1C, if_pos h, if_neg h2, List.take_of_length_le (by rw [a8P]; exact hj)]
theorem a9F (k : a0L) : (a1C k).length ≤ 19 := by
 unfold a1C
 split
 ·rename_i h
 have h1 := (a7K h).2.2
 have h2 : k.2.2.data.toList.length ≤ 12 := h1
 split
 ·simp only [List.length_append, List.length_cons, List.length_nil]; omega
 ·simp only [List.length_append, List.length_cons, a8P]; omega
 ·simp
theorem c3e (j : Nat) (hj : j < 6) : (2 ^ (8 * (5 - (j : Int))).toNat : Nat) = 2 ^ (8 * (5 - j)) := by
 rw [show (8 * (5 - (j : Int))).toNat = 8 * (5 - j) by omega]
theorem c8s {k : a0L} {j : Nat} (h : a0Z k = true) (hj : j < 6) : (k.2.1 + 1000000000000) / ((2 ^ (8 * (5 - (j : Int))).toNat : Nat) : Int) = ((keyN k / 2 ^ (8 * (5 - j)) : Nat) : Int) := by
 have h1 := (a7K h).2.1
 rw [c3e j hj, show k.2.1 + 1000000000000 = ((keyN k : Nat) : Int) by unfold keyN; omega, Int.natCast_ediv]
theorem c4w {k : a0L} {j : Nat} {z : Int} (h : a0Z k = true) (hj : j < 6) (hz : z = (k.2.1 + 1000000000000) / ((2 ^ (8 * (5 - (j : Int))).toNat : Nat) : Int)) :
 (UInt8.ofNat k.1.toNat :: (be6 (keyN k)).take j).flatMap a1x ++ [DV.int .u8 (IntKind.u8.wrap z)] = (UInt8.ofNat k.1.toNat :: (be6 (keyN k)).take (j + 1)).flatMap a1x := by
 rw [c8s h hj] at hz
 rw [b0O hz, b8D hj]; rfl
theorem b6R {k : a0L} (h : a0Z k = true) : [DV.int .u8 (IntKind.u8.wrap k.1)] = (UInt8.ofNat k.1.toNat :: (be6 (keyN k)).take 0).flatMap a1x := by
 have h1 := (a7K h).1
 exact b0O (o := []) (m := k.1.toNat) (by omega)
def a3t (r : a0v) : Nat → List UInt8
 | 0 => a3h [] (r.length : Int)
 | k + 1 => a3h (a3h (a3t r k) ((r.getD (k : Int).toNat default).1.data.toList.length : Int) ++ (r.getD (k : Int).toNat default).1.data.toList) (r.getD (k : Int).toNat default).2
def a2o (r : a0v) : List UInt8 := if a1b r then a3t r r.length else []
theorem b2H {r : a0v} (h : a1b r = false) : a2o r = [] := by rw [a2o, h]; rfl
theorem a9K {r : a0v} {k : Nat} (h : a1b r = true) (hk : k = r.length) : a2o r = a3t r k := by rw [a2o, if_pos h, hk]
theorem a5h {s : Str} (h : a2g s = true) : 1 ≤ s.size ∧ s.size ≤ 8 := by
 simp only [a2g, Bool.and_eq_true, decide_eq_true_eq] at h; omega
theorem b0w {r : a0v} {k : Nat} (h : a1b r = true) (hk : k < r.length) : a2g (r.getD (k : Int).toNat default).1 = true ∧ 0 ≤ (r.getD (k : Int).toNat default).2 ∧ (r.getD (k : Int).toNat default).2 ≤ 1000000000 := by
 simp only [a1b, Bool.and_eq_true, List.all_eq_true] at h
 have h1 := h.1 k (List.mem_range.2 hk)
 unfold a4N at h1
 simp only [Bool.not_or, Bool.not_not, Bool.and_eq_true, decide_eq_true_eq] at h1
 exact ⟨h1.1.1, h1.1.2.1, h1.1.2.2⟩
theorem a7F {r : a0v} (h : a1b r = true) : r.length ≤ 6 := by
 simp only [a1b, Bool.and_eq_true, decide_eq_true_eq] at h; omega
theorem b4q {r : a0v} (h : a1b r = true) : ∀ k, k ≤ r.length → (a3t r k).length ≤ 6 + 20 * k
 | 0, _ => by have := a6I [] (r.length : Int); simpa [a3t] using this
 | k + 1, hk => by
 have ih := b4q h k (by omega)
 have h1 := a5h (b0w h (show k < r.length by omega)).1
 have h1 : (r.getD (k : Int).toNat default).1.data.toList.length ≤ 8 := h1.2
 have h2 := a6I (a3t r k) ((r.getD (k : Int).toNat default).1.data.toList.length : Int)
 have h3 := a6I (a3h (a3t r k) ((r.getD (k : Int).toNat default).1.data.toList.length : Int) ++ (r.getD (k : Int).toNat default).1.data.toList) (r.getD (k : Int).toNat default).2
 rw [List.length_append] at h3
 rw [a3t]
 omega
theorem a8Y (r : a0v) : (a2o r).length ≤ 126 := by
 unfold a2o
 split
 ·rename_i h
 have h1 := b4q h r.length (Nat.le_refl _)
 have h2 := a7F h
 omega
 ·simp
def a6J (x : a0U) : Nat := (a1C x.1).length + (a2o x.2).length
def sizeS (s : a0G) : Nat := a0V a6J s.2.1
def sizeD (d : DbT) : Nat := a0V sizeS d.2.2.1
theorem b7i (x : a0U) : a6J x ≤ 145 := by have h1 := a9F x.1; have h2 := a8Y x.2; unfold a6J; omega
theorem b4u {α : Type} {c : α → Nat} {B : Nat} (h : ∀ x, c x ≤ B) : ∀ xs : List α, a0V c xs ≤ B * xs.length
 | [] => by simp [a0V]
 | x :: xs => by
 have := b4u h xs
 have := h x
 simp only [a0V, List.map_cons, List.sum_cons, List.length_cons] at *
 rw [Nat.mul_add]; omega
theorem b3L {α : Type} {c w : α → Nat} {B : Nat} (h : ∀ x, c x ≤ B * w x) : ∀ xs : List α, a0V c xs ≤ B * a0V w xs
 | [] => by simp [a0V]
 | x :: xs => by
 have := b3L h xs
 have := h x
 simp only [a0V, List.map_cons, List.sum_cons] at *
 rw [Nat.mul_add]; omega
theorem b9W (s : a0G) : sizeS s ≤ 145 * a1g s := by
 have h1 := b4u b7i s.2.1
 have h2 : a1g s = s.1.size + (s.2.1.length + a0V a1Q s.2.1) := rfl
 unfold sizeS
 have h3 : 145 * s.2.1.length ≤ 145 * a1g s := Nat.mul_le_mul_left _ (by omega)
 omega
theorem c3F (d : DbT) : sizeD d ≤ 145 * a1h d := by
 have h1 := b3L b9W d.2.2.1
 have h2 : a1h d = d.1.size + a2e a1g d.2.2.1 + a2e a2Y d.2.2.2 := rfl
 have h3 : a2e a1g d.2.2.1 = d.2.2.1.length + a0V a1g d.2.2.1 := rfl
 unfold sizeD
 have h4 : 145 * a0V a1g d.2.2.1 ≤ 145 * a1h d := Nat.mul_le_mul_left _ (by omega)
 omega
theorem c5j (x : a0G) (h : a1g x ≤ 1048576) : x.2.1.length ≤ 1048576 := by
 have h3 : a1g x = x.1.size + (x.2.1.length + a0V a1Q x.2.1) := rfl
 omega
theorem a7d {k : a0L}  : KFn Tryz.prog 45 [.agg [(.dv [] (.int .i64 (k.1))), (.dv [] (.int .i64 (k.2.1))), (.dv [] (.str (k.2.2)))]] (.one (.key 12)) [(12, some (a0b false (a0l (a1C k))))] := by
 refine ⟨a0Q Tryz.func45 rfl Tryz.ntmps45 Tryz.results45 rfl (fun C => ?_)⟩
 refine yF 0 0 rfl rfl fun f0_0 => ?_
 refine yF 0 1 rfl rfl fun f0_1 => ?_
 refine yF 0 2 rfl rfl fun f0_2 => ?_
 iterate 7 refine z ?_
 refine zC Tryz.call80 ?_ (hf := a5P (k := k) )
 iterate 2 refine z ?_
 refine yQ rfl (fun c1 => ?_) fun c1 => ?_
 ·have hk0 : a0Z k = false := by simpa using c1
 refine z ?_
 refine a2H (k := 12) hT rfl rfl rfl rfl rfl rfl rfl rfl ?_
 iterate 2 refine z ?_
 refine a0h (σ' := ⟨[(2, .one (.key 12))], [], [(12, some (a0b false (a0l (a1C k))))]⟩) (a0e ⟨rfl, trivial⟩ trivial ⟨(by first | exact congrArg (fun l : List UInt8 => some (some (KC.mk false 5 1 l.length (l.flatMap a1x)))) (show ([] : List UInt8) = a1C k from (a7U hk0).symm) | rfl), trivial⟩ rfl) ?_
 iterate 2 refine z ?_
 refine a1r (a0m rfl) ?_
 exact ⟨rfl, rfl⟩
 ·have hk : a0Z k = true := by simpa using c1
 have hrg := a7K hk
 iterate 5 refine z ?_
 refine yO rfl rfl (a6M hT rfl rfl rfl (a0a rfl)) rfl ?_
 refine a3D (k := 12) (js := []) hT rfl rfl rfl rfl rfl rfl rfl rfl rfl (a0a rfl) rfl rfl (a0o (a0R rfl) a1z rfl) (by decide) (by decide) rfl rfl ?_
 simp only [a0p, a0k, SV.kill, CV.kill, kk, Nat.reduceBEq]
 iterate 8 refine z ?_
 refine yQ rfl (fun c2 => ?_) fun c2 => ?_
 ·have hn2 : ¬ k.1 = 2 := by simpa using c2
  have d2 := a6g c2
  iterate 4 refine z ?_
  refine a1l (ι := Nat) (fun zz => ⟨[(1, .box 1 0), (2, .one .nil), (3, .one (.key 12)), (4, .one (.dv [] (.int .i64 (5 - (zz : Int)))))], [(1, 60, [(.dv [] (.int .i64 (k.1))), (.dv [] (.int .i64 (k.2.1))), (.dv [] (.str (k.2.2)))])], [(12, some (a0b false (.sl 5 1 ((UInt8.ofNat k.1.toNat :: (be6 (keyN k)).take zz).length) ((UInt8.ofNat k.1.toNat :: (be6 (keyN k)).take zz).flatMap a1x))))]⟩) (fun zz => zz ≤ 6) (fun zz => 6 - zz) (0) ?_ (a0e ⟨rfl, rfl, rfl, rfl, trivial⟩ ⟨rfl, trivial⟩ ⟨(congrArg (fun cs => some (some (KC.mk false 5 1 1 cs))) (b6R hk)), trivial⟩ rfl) (fun zz hx => ?_)
  ·omega
  obtain ⟨j, rfl⟩ : ∃ v, v = zz := ⟨_, rfl⟩
  replace hx : j ≤ 6 := hx
  show Ok _ _ _ _ _ (⟨[(1, .box 1 0), (2, .one .nil), (3, .one (.key 12)), (4, .one (.dv [] (.int .i64 (5 - (j : Int)))))], [(1, 60, [(.dv [] (.int .i64 (k.1))), (.dv [] (.int .i64 (k.2.1))), (.dv [] (.str (k.2.2)))])], [(12, some (a0b false (.sl 5 1 ((UInt8.ofNat k.1.toNat :: (be6 (keyN k)).take j).length) ((UInt8.ofNat k.1.toNat :: (be6 (keyN k)).take j).flatMap a1x))))]⟩ : St)
  iterate 5 refine z ?_
  refine yQ rfl (fun c3 => ?_) fun c3 => ?_
  ·have d3 := of_decide_eq_true c3
  have hj6 : j < 6 := by omega
  iterate 4 refine z ?_
  refine a0n ?_
  iterate 5 refine z ?_
  refine yO rfl rfl (b2u rfl (a0j (a0i rfl)) (a0a rfl) (a2L (by omega) (by omega))) rfl ?_
  refine yO rfl rfl (c4K rfl (a0a rfl) (a0a rfl) (by omega) (by omega) (by show _ ≤ 64; omega)) rfl ?_
  refine yO rfl rfl (a6M hT rfl rfl rfl (a0a rfl)) rfl ?_
  refine a3D (k := 28) (js := []) hT rfl rfl rfl rfl rfl rfl rfl rfl rfl (a0a rfl) rfl rfl (a0o (a0R rfl) a1z rfl) (by decide) (by decide) rfl rfl ?_
  simp only [a0p, a0k, SV.kill, CV.kill, kk, Nat.reduceBEq]
  refine a3f (k := 12) (j := 28) (cs := (UInt8.ofNat k.1.toNat :: (be6 (keyN k)).take (j + 1)).flatMap a1x) (n := (UInt8.ofNat k.1.toNat :: (be6 (keyN k)).take (j + 1)).length) hT rfl rfl rfl rfl rfl rfl rfl (a0a rfl) rfl rfl rfl (a0a rfl) rfl rfl (by decide) (by dsimp only [a0b]; simp only [List.length_cons, List.length_take]; omega) (by dsimp only [a0b]; simp only [List.length_cons, List.length_take]; omega) (by rw [b8D hj6]; simp) (c4w hk hj6 rfl) ?_
  simp only [a0p, a0k, SV.kill, CV.kill, kk, Nat.reduceBEq]
  refine z ?_
  refine a1J ?_
  iterate 2 refine z ?_
  refine a0n ?_
  iterate 4 refine z ?_
  refine ⟨j + 1, ?_, ?_, a0e ⟨rfl, rfl, rfl, (a8n (by omega)), trivial⟩ ⟨rfl, trivial⟩ ⟨rfl, trivial⟩ rfl⟩
  ·omega
  ·omega
  ·have d3 := of_decide_eq_false c3
  iterate 9 refine z ?_
  refine c0f (k := 12) (cs := (a1C k).flatMap a1x) (n := (a1C k).length) hT rfl rfl rfl rfl rfl rfl (by kernel_rfl) rfl (a0a rfl) rfl rfl rfl (a0a rfl) (by dsimp only [a0b]; have := a8P (keyN k); have h12 := hrg.2.2; try simp only [List.length_cons, List.length_take]; omega) (by rw [b2q hk hn2 (show 6 ≤ j by omega), List.length_append] <;> rfl) (by rw [b2q hk hn2 (show 6 ≤ j by omega), List.flatMap_append] <;> rfl) ?_
  simp only [a0p, a0k, SV.kill, CV.kill, kk, Nat.reduceBEq]
  iterate 2 refine z ?_
  refine a0h (σ' := ⟨[(2, .one (.key 12))], [], [(12, some (a0b false (a0l (a1C k))))]⟩) (a0e ⟨rfl, trivial⟩ trivial ⟨(by first | exact congrArg (fun l : List UInt8 => some (some (KC.mk false 5 1 l.length (l.flatMap a1x)))) (show ([] : List UInt8) = a1C k from (a7U hk0).symm) | rfl), trivial⟩ rfl) ?_
  refine z ?_
  refine a1r (a0m rfl) ?_
  exact ⟨rfl, rfl⟩
 ·have hn2 : k.1 = 2 := by simpa using c2
  have d2 := a6e c2
  iterate 6 refine z ?_
  refine c0f (k := 12) (cs := (a1C k).flatMap a1x) (n := (a1C k).length) hT rfl rfl rfl rfl rfl rfl (by kernel_rfl) rfl (a0a rfl) rfl rfl rfl (a0a rfl) (by dsimp only [a0b]; have h12 := hrg.2.2; omega) (by rw [b2Y hk hn2, List.length_append] <;> rfl) (by rw [b2Y hk hn2, List.flatMap_append]; exact congrArg (fun z => z ++ _) (b6R hk)) ?_
  simp only [a0p, a0k, SV.kill, CV.kill, kk, Nat.reduceBEq]
  iterate 2 refine z ?_
  refine a0h (σ' := ⟨[(2, .one (.key 12))], [], [(12, some (a0b false (a0l (a1C k))))]⟩) (a0e ⟨rfl, trivial⟩ trivial ⟨(by first | exact congrArg (fun l : List UInt8 => some (some (KC.mk false 5 1 l.length (l.flatMap a1x)))) (show ([] : List UInt8) = a1C k from (a7U hk0).symm) | rfl), trivial⟩ rfl) ?_
  refine z ?_
  refine a1r (a0m rfl) ?_
  exact ⟨rfl, rfl⟩
theorem a4s {r : a0v}  : KFn Tryz.prog 46 [.agg [(.dv [] (a0J (r)))]] (.one (.key 500)) [(500, some (a0b false (a0l (a2o r))))] := by
 refine ⟨a0Q Tryz.func46 rfl Tryz.ntmps46 Tryz.results46 rfl (fun C => ?_)⟩
 refine yF 0 0 rfl rfl fun f0_0 => ?_
 iterate 7 refine z ?_
 refine zC Tryz.call81 ?_ (hf := a7i (r := r) )
 iterate 2 refine z ?_
 refine yQ rfl (fun c1 => ?_) fun c1 => ?_
 ·have hk0 : a1b r = false := by simpa using c1
 refine z ?_
 refine a2H (k := 500) hT rfl rfl rfl rfl rfl rfl rfl rfl ?_
 iterate 2 refine z ?_
 refine a0h (σ' := ⟨[(2, .one (.key 500))], [], [(500, some (a0b false (a0l (a2o r))))]⟩) (a0e ⟨rfl, trivial⟩ trivial ⟨(by first | exact congrArg (fun l : List UInt8 => some (some (KC.mk false 5 1 l.length (l.flatMap a1x)))) (show ([] : List UInt8) = a2o r from (b2H hk0).symm) | exact congrArg (fun l : List UInt8 => some (some (KC.mk false 5 1 l.length (l.flatMap a1x)))) (a9K hk (by omega)).symm), trivial⟩ rfl) ?_
 iterate 2 refine z ?_
 refine a1r (a0m rfl) ?_
 exact ⟨rfl, rfl⟩
 ·have hk : a1b r = true := by simpa using c1
 have hrl := a7F hk
 iterate 6 refine z ?_
 refine a2I 470 rfl rfl rfl Tryz.call44 (a8Z (x := []) (n := (r.length : Int)) (by simp)) (a0g a0M (a0D (a5o rfl rfl)) (a0g (a0a rfl) (a0D a0c) a0q)) rfl rfl rfl ?_
 iterate 10 refine z ?_
 refine a1l (ι := Nat) (fun zz => ⟨[(2, .one .nil), (3, .one (.key 500)), (15, .one (.dv [] (a0J (r)))), (16, .one (.dv [] (.int .i64 ((((r)).length : Int))))), (17, .one (.dv [] (.int .i64 ((zz : Int)))))], [], [(500, some (a0b false (.sl 5 1 ((a3t r zz).length) ((a3t r zz).flatMap a1x))))]⟩) (fun zz => zz ≤ r.length) (fun zz => r.length - zz) (0) ?_ (a0e ⟨rfl, rfl, rfl, rfl, rfl, trivial⟩ trivial ⟨rfl, trivial⟩ rfl) (fun zz hx => ?_)
 ·exact Nat.zero_le _
 obtain ⟨k, rfl⟩ : ∃ v, v = zz := ⟨_, rfl⟩
 replace hx : k ≤ r.length := hx
 show Ok _ _ _ _ _ (⟨[(2, .one .nil), (3, .one (.key 500)), (15, .one (.dv [] (a0J (r)))), (16, .one (.dv [] (.int .i64 ((((r)).length : Int))))), (17, .one (.dv [] (.int .i64 ((k : Int)))))], [], [(500, some (a0b false (.sl 5 1 ((a3t r k).length) ((a3t r k).flatMap a1x))))]⟩ : St)
 iterate 3 refine z ?_
 refine a0s ?_
 refine yQ rfl (fun c2 => ?_) fun c2 => ?_
 ·have d2 := of_decide_eq_true c2
  have hkl : k < r.length := by omega
  have hf := b0w hk hkl
  have hns := (a5h hf.1).2
  have hns2 : (r.getD (k : Int).toNat default).1.data.toList.length ≤ 8 := hns
  have hel := b4q hk k (by omega)
  have hel2 := a6I (a3t r k) ((r.getD (k : Int).toNat default).1.data.toList.length : Int)
  iterate 10 refine z ?_
  refine a1N (oB := [5]) (oK := [500]) (by kernel_rfl) rfl rfl ?_
  refine zD 0 ?_
  refine zD 1 ?_
  refine zD 2 ?_
  refine zD 5 ?_
  refine zD 6 ?_
  refine a7G (k := 24) 3 hT rfl (by kernel_rfl) rfl rfl rfl rfl rfl rfl rfl (a0a rfl) rfl rfl rfl ?_
  refine a2K 25000 4 rfl (by kernel_rfl) rfl rfl rfl Tryz.call47 (b8K (x := (a3t r k)) (y := (r.getD (k : Int).toNat default).1.data.toList) (by omega) (by omega)) (a0g (a0a rfl) (a0D (a0X rfl rfl)) (a0g (a0a rfl) (a0D (a0X rfl rfl)) a0q)) rfl rfl rfl rfl rfl ?_
  refine a2K 472 7 rfl (by kernel_rfl) rfl rfl rfl Tryz.call44 (a8Z (x := a3h (a3t r k) ((r.getD (k : Int).toNat default).1.data.toList.length : Int) ++ (r.getD (k : Int).toNat default).1.data.toList) (n := (r.getD (k : Int).toNat default).2) (by rw [List.length_append]; omega)) (a0g (a0a rfl) (a0D (a0X rfl rfl)) (a0g (a0a rfl) (a0D a0c) a0q)) rfl rfl rfl rfl rfl ?_
  refine zD 8 ?_
  refine a1S (by kernel_rfl) ?_
  iterate 2 refine z ?_
  refine a0h (b1J (s := 3) (k := 502) (k' := 500) rfl rfl rfl (by decide) rfl) ?_
  simp only [a0p, a0k, SV.kill, CV.kill, kk, Nat.reduceBEq]
  refine a0n ?_
  iterate 3 refine z ?_
  refine ⟨k + 1, ?_, ?_, a0e ⟨rfl, rfl, rfl, rfl, rfl, trivial⟩ trivial ⟨rfl, trivial⟩ rfl⟩
  ·omega
  ·omega
 ·have d2 := of_decide_eq_false c2
  iterate 9 refine z ?_
  refine a0h (σ' := ⟨[(2, .one (.key 500))], [], [(500, some (a0b false (a0l (a2o r))))]⟩) (a0e ⟨rfl, trivial⟩ trivial ⟨(by first | exact congrArg (fun l : List UInt8 => some (some (KC.mk false 5 1 l.length (l.flatMap a1x)))) (show ([] : List UInt8) = a2o r from (b2H hk0).symm) | exact congrArg (fun l : List UInt8 => some (some (KC.mk false 5 1 l.length (l.flatMap a1x)))) (a9K hk (by omega)).symm), trivial⟩ rfl) ?_
  refine z ?_
  refine a1r (a0m rfl) ?_
  exact ⟨rfl, rfl⟩
theorem c3A {x : a0G} (hb : a1g x ≤ 1048576) : PFn Tryz.prog 33 [.agg [(.dv [] (.str (x.1))), (.dv [] (a0x (x.2.1))), (.dv [] (.int .i64 (x.2.2)))]] (.one (.dv [] (.int .i64 ((sizeS x : Int))))) := by
 refine ⟨a0Q Tryz.func33 rfl Tryz.ntmps33 Tryz.results33 rfl (fun C => ?_)⟩
 have hlen := c5j x hb
 refine yF 0 0 rfl rfl fun f0_0 => ?_
 refine yF 0 1 rfl rfl fun f0_1 => ?_
 refine yF 0 2 rfl rfl fun f0_2 => ?_
 iterate 15 refine z ?_
 refine a1l (ι := Nat) (fun zz => ⟨[(2, .one (.dv [] (.int .i64 (0)))), (3, .one (.dv [] (.int .i64 ((a0V a6J (x.2.1.take zz) : Int))))), (7, .one (.dv [] (a0x (x.2.1)))), (8, .one (.dv [] (.int .i64 ((((x.2.1)).length : Int))))), (9, .one (.dv [] (.int .i64 ((zz : Int)))))], [], []⟩) (fun zz => zz ≤ x.2.1.length) (fun zz => x.2.1.length - zz) (0) ?_ (a0e ⟨rfl, (a8n (by simp [a0V])), rfl, rfl, rfl, trivial⟩ trivial trivial rfl) (fun zz hx => ?_)
 ·exact Nat.zero_le _
 obtain ⟨k, rfl⟩ : ∃ v, v = zz := ⟨_, rfl⟩
 replace hx : k ≤ x.2.1.length := hx
 have hw := fun h => (a5C a6J x.2.1 k h).1
 have hsz := b4u b7i (x.2.1.take k)
 rw [List.length_take] at hsz
 show Ok _ _ _ _ _ (⟨[(2, .one (.dv [] (.int .i64 (0)))), (3, .one (.dv [] (.int .i64 ((a0V a6J (x.2.1.take k) : Int))))), (7, .one (.dv [] (a0x (x.2.1)))), (8, .one (.dv [] (.int .i64 ((((x.2.1)).length : Int))))), (9, .one (.dv [] (.int .i64 ((k : Int)))))], [], []⟩ : St)
 iterate 3 refine z ?_
 refine a0s ?_
 refine yQ rfl (fun c1 => ?_) fun c1 => ?_
 ·have d1 := of_decide_eq_true c1
 have hkl : k < x.2.1.length := by omega
 have hw1 := hw hkl
 have hek := a9F (x.2.1.getD (k : Int).toNat default).1
 have her := a8Y (x.2.1.getD (k : Int).toNat default).2
 have hsi : a6J (x.2.1.getD (k : Int).toNat default) = (a1C (x.2.1.getD (k : Int).toNat default).1).length + (a2o (x.2.1.getD (k : Int).toNat default).2).length := rfl
 have hmin : min k x.2.1.length ≤ 1048576 := by omega
 iterate 10 refine z ?_
 refine a1N (oB := [5]) (oK := []) (by kernel_rfl) rfl rfl ?_
 refine zD 0 ?_
 refine zD 1 ?_
 refine zD 2 ?_
 refine zD 5 ?_
 refine zD 6 ?_
 refine a2K 16000 3 rfl (by kernel_rfl) rfl rfl rfl Tryz.call45 (a7d (k := (((x.2.1)).getD ((k : Int)).toNat default).1) ) (a0g (a0a rfl) (a0u (a0d a0c (a0d a0c (a0d a0c a0t)))) a0q) rfl rfl rfl rfl rfl ?_
 refine a1q 4 rfl (by kernel_rfl) rfl rfl (a2J (n := ((a1C ((((x.2.1)).getD ((k : Int)).toNat default).1))).length) hT rfl rfl (a0a rfl) rfl rfl) rfl rfl rfl rfl ?_
 refine a2K 20000 7 rfl (by kernel_rfl) rfl rfl rfl Tryz.call46 (a4s (r := (((x.2.1)).getD ((k : Int)).toNat default).2) ) (a0g (a0a rfl) (a0u (a0d a0c a0t)) a0q) rfl rfl rfl rfl rfl ?_
 refine a1q 8 rfl (by kernel_rfl) rfl rfl (a2J (n := ((a2o ((((x.2.1)).getD ((k : Int)).toNat default).2))).length) hT rfl rfl (a0a rfl) rfl rfl) rfl rfl rfl rfl ?_
 refine zD 9 ?_
 refine zD 10 ?_
 refine zD 11 ?_
 refine a1S (by kernel_rfl) ?_
 iterate 2 refine z ?_
 refine a0n ?_
 iterate 3 refine z ?_
 refine ⟨k + 1, ?_, ?_, a0e ⟨rfl, (a8n (by omega)), rfl, rfl, rfl, trivial⟩ trivial trivial rfl⟩
 ·omega
 ·omega
 ·have d1 := of_decide_eq_false c1
 iterate 11 refine z ?_
 have hq := b5w a6J x.2.1 k (by omega); rw [hq]; rfl
theorem b8Q {x : DbT} (hb : a1h x ≤ 1048576) : PFn Tryz.prog 14 [.agg [(.dv [] (.str (x.1))), (.dv [] (.int .i64 (x.2.1))), (.dv [] (a0y (x.2.2.1))), (.dv [] (a0A (x.2.2.2)))]] (.one (.dv [] (.int .i64 ((sizeD x : Int))))) := by
 refine ⟨a0Q Tryz.func14 rfl Tryz.ntmps14 Tryz.results14 rfl (fun C => ?_)⟩
 have hwd : a1h x = x.1.size + a2e a1g x.2.2.1 + a2e a2Y x.2.2.2 := rfl
 have hwl : a2e a1g x.2.2.1 = x.2.2.1.length + a0V a1g x.2.2.1 := rfl
 have hbs := b3L b9W x.2.2.1
 refine yF 0 0 rfl rfl fun f0_0 => ?_
 refine yF 0 1 rfl rfl fun f0_1 => ?_
 refine yF 0 2 rfl rfl fun f0_2 => ?_
 refine yF 0 3 rfl rfl fun f0_3 => ?_
 iterate 15 refine z ?_
 refine a1l (ι := Nat) (fun zz => ⟨[(2, .one (.dv [] (.int .i64 (0)))), (3, .one (.dv [] (.int .i64 ((a0V sizeS (x.2.2.1.take zz) : Int))))), (7, .one (.dv [] (a0y (x.2.2.1)))), (8, .one (.dv [] (.int .i64 ((((x.2.2.1)).length : Int))))), (9, .one (.dv [] (.int .i64 ((zz : Int)))))], [], []⟩) (fun zz => zz ≤ x.2.2.1.length) (fun zz => x.2.2.1.length - zz) (0) ?_ (a0e ⟨rfl, (a8n (by simp [a0V])), rfl, rfl, rfl, trivial⟩ trivial trivial rfl) (fun zz hx => ?_)
 ·exact Nat.zero_le _
 obtain ⟨k, rfl⟩ : ∃ v, v = zz := ⟨_, rfl⟩
 replace hx : k ≤ x.2.2.1.length := hx
 have hw := fun h => a5C sizeS x.2.2.1 k h
 have hw2 := fun h => a5C a1g x.2.2.1 k h
 show Ok _ _ _ _ _ (⟨[(2, .one (.dv [] (.int .i64 (0)))), (3, .one (.dv [] (.int .i64 ((a0V sizeS (x.2.2.1.take k) : Int))))), (7, .one (.dv [] (a0y (x.2.2.1)))), (8, .one (.dv [] (.int .i64 ((((x.2.2.1)).length : Int))))), (9, .one (.dv [] (.int .i64 ((k : Int)))))], [], []⟩ : St)
 iterate 3 refine z ?_
 refine a0s ?_
 refine yQ rfl (fun c1 => ?_) fun c1 => ?_
 ·have d1 := of_decide_eq_true c1
 have hkl : k < x.2.2.1.length := by omega
 obtain ⟨hw3, hw4⟩ := hw hkl
 obtain ⟨hw5, hw6⟩ := hw2 hkl
 iterate 10 refine z ?_
 refine a0n ?_
 iterate 2 refine z ?_
 refine zC Tryz.call33 ?_ (hf := c3A (x := (((x.2.2.1)).getD ((k : Int)).toNat default)) (by omega))
 iterate 2 refine z ?_
 refine a1J ?_
 iterate 2 refine z ?_
 refine a0n ?_
 iterate 3 refine z ?_
 refine ⟨k + 1, ?_, ?_, a0e ⟨rfl, (a8n (by omega)), rfl, rfl, rfl, trivial⟩ trivial trivial rfl⟩
 ·omega
 ·omega
 ·have d1 := of_decide_eq_false c1
 iterate 11 refine z ?_
 have hq := b5w sizeS x.2.2.1 k (by omega); rw [hq]; rfl
theorem c1l {x : a3q} (hb : a2X x ≤ 1048576) : PFn Tryz.prog 13 [.agg [(.dv [] (.str (x.1.1))), (.dv [] (.int .i64 (x.1.2.1))), (.dv [] (a0y (x.1.2.2.1))), (.dv [] (a0A (x.1.2.2.2))), (.dv [] (a0l (x.2.1))), (.dv [] (.int .i64 (x.2.2)))]] (.one (.dv [] (.int .i64 ((sizeD x.1 : Int) + (x.2.1.length : Int))))) := by
 refine ⟨a0Q Tryz.func13 rfl Tryz.ntmps13 Tryz.results13 rfl (fun C => ?_)⟩
 have hwk : a2X x = a1h x.1 + x.2.1.length := rfl
 have hsd := c3F x.1
 refine yF 0 0 rfl rfl fun f0_0 => ?_
 refine yF 0 1 rfl rfl fun f0_1 => ?_
 refine yF 0 2 rfl rfl fun f0_2 => ?_
 refine yF 0 3 rfl rfl fun f0_3 => ?_
 refine yF 0 4 rfl rfl fun f0_4 => ?_
 refine yF 0 5 rfl rfl fun f0_5 => ?_
 iterate 4 refine z ?_
 refine a0s ?_
 refine a1N (oB := [1]) (oK := []) (by kernel_rfl) rfl rfl ?_
 refine zD 0 ?_
 refine zD 1 ?_
 refine zD 3 ?_
 refine zD 4 ?_
 refine zD 5 ?_
 refine a5A 2 rfl (by kernel_rfl) rfl rfl rfl Tryz.call14 (b8Q (x := x.1) (by omega)) (a0g (a0a rfl) (a0u (a0d a0c (a0d a0c (a0d a0c (a0d a0c a0t))))) a0q) rfl rfl rfl rfl ?_
 refine zD 6 ?_
 refine zD 7 ?_
 refine a1S (by kernel_rfl) ?_
 iterate 3 refine z ?_
 rfl
@[reducible] def b5a (xs : List (List UInt8)) : DV := a2M 0 1 (fun x => [a0l x]) xs
def a2h (l : List OpT) : Bool := l.all a1s && decide ((l.length : Int) ≤ 6)
def b0m (b y : List UInt8) : List UInt8 := a3h b (y.length : Int) ++ y
def a4p (o : OpT) : List (List UInt8) := [o.2.1.data.toList, a1C o.2.2.1, a2o o.2.2.2.1, o.2.2.2.2.data.toList]
def a3r (b : List UInt8) (o : OpT) : Nat → List UInt8
 | 0 => a3h b o.1
 | j + 1 => b0m (a3r b o j) ((a4p o).getD (j : Int).toNat default)
def a2r (l : List OpT) : Nat → List UInt8
 | 0 => a3h [] (l.length : Int)
 | k + 1 => a3r (a2r l k) (l.getD (k : Int).toNat default) 4
def a1m (l : List OpT) : List UInt8 := if a2h l then a2r l l.length else []
theorem b4T {l : List OpT} (h : a2h l = false) : a1m l = [] := by rw [a1m, h]; rfl
theorem a8M {l : List OpT} {k : Nat} (h : a2h l = true) (hk : k = l.length) : a1m l = a2r l k := by rw [a1m, if_pos h, hk]
theorem c4U {l : List OpT} {k : Nat} (hk : k < l.length) (h : a1s (l.getD (k : Int).toNat default) = false) : a2h l = false := by
 unfold a2h
 have : l.all a1s = false := by
 rw [List.all_eq_false]
 refine ⟨l[k], List.getElem_mem hk, ?_⟩
 rw [a3I hk] at h
 simpa using h
 rw [this]; rfl
theorem c6k {l : List OpT} {k : Nat} (h : (l.take k).all a1s = true) (hk : l.length ≤ k) : a2h l = decide ((l.length : Int) ≤ 6) := by
 rw [List.take_of_length_le hk] at h
 unfold a2h
 rw [h, Bool.true_and]
theorem c8E {l : List OpT} {k : Nat} (h : (l.take k).all a1s = true) (hk : k < l.length) (h2 : a1s (l.getD (k : Int).toNat default) = true) : (l.take (k + 1)).all a1s = true := by
 rw [List.take_succ_eq_append_getElem hk, List.all_append, h]
 rw [a3I hk] at h2
 simpa using h2
theorem b4B {o : OpT} (h : a1s o = true) : o.2.1.data.toList.length ≤ 8 ∧ o.2.2.2.2.data.toList.length ≤ 8 := by
 simp only [a1s, Bool.and_eq_true, Bool.or_eq_true] at h
 have h1 := a5h h.1.1.1.2
 refine ⟨h1.2, ?_⟩
 rcases h.2 with h2 | h2
 ·exact (a5h h2.2).2
 ·have h3 : o.2.2.2.2.data.toList = [] := by
  have := h2.2
  simpa [sEq, ByteArray.toList_eq] using this
 rw [h3]; simp
theorem b5K {l : List OpT} {k : Nat} (h : a2h l = true) (hk : k < l.length) : a1s (l.getD (k : Int).toNat default) = true := by
 simp only [a2h, Bool.and_eq_true, List.all_eq_true] at h
 rw [a3I hk]
 exact h.1 _ (List.getElem_mem hk)
theorem b1w {l : List OpT} (h : a2h l = true) : l.length ≤ 6 := by
 simp only [a2h, Bool.and_eq_true, decide_eq_true_eq] at h; omega
theorem c6I (b y : List UInt8) : (b0m b y).length ≤ b.length + 6 + y.length := by
 have := a6I b (y.length : Int)
 rw [b0m, List.length_append]; omega
theorem b6p {o : OpT} (h : a1s o = true) (j : Nat) : ((a4p o).getD (j : Int).toNat default).length ≤ 126 := by
 have h1 := b4B h
 have h2 := a9F o.2.2.1
 have h3 := a8Y o.2.2.2.1
 match j with
 | 0 => show o.2.1.data.toList.length ≤ 126; omega
 | 1 => show (a1C o.2.2.1).length ≤ 126; omega
 | 2 => exact h3
 | 3 => show o.2.2.2.2.data.toList.length ≤ 126; omega
 | n + 4 => rw [Int.toNat_natCast]; simp [a4p]; exact Nat.zero_le 126
theorem b3s {b : List UInt8} {o : OpT} (h : a1s o = true) : ∀ j, (a3r b o j).length ≤ b.length + 6 + 132 * j
 | 0 => by have := a6I b o.1; simpa [a3r] using this
 | j + 1 => by
 have ih := b3s (b := b) h j
 have h1 := c6I (a3r b o j) ((a4p o).getD (j : Int).toNat default)
 have h2 := b6p h j
 rw [a3r]; omega
theorem b6a {l : List OpT} : ∀ k, k ≤ l.length → (l.take k).all a1s = true → (a2r l k).length ≤ 6 + 534 * k
 | 0, _, _ => by have := a6I [] (l.length : Int); simpa [a2r] using this
 | k + 1, hk, h => by
 have h0 : (l.take k).all a1s = true ∧ a1s (l.getD (k : Int).toNat default) = true := by
  rw [List.take_succ_eq_append_getElem (by omega), List.all_append, Bool.and_eq_true] at h
  refine ⟨h.1, ?_⟩
  rw [a3I (by omega)]
  simpa using h.2
 have ih := b6a k (by omega) h0.1
 have h1 := b3s (b := a2r l k) h0.2 4
 have e : a2r l (k + 1) = a3r (a2r l k) (l.getD (k : Int).toNat default) 4 := rfl
 rw [e]
 refine Nat.le_trans h1 ?_
 clear h1 e
 omega
theorem b8W {l : List OpT} {k : Nat} (h : a2h l = true) (hk : k ≤ l.length) : (a2r l k).length ≤ 6 + 534 * k := by
 refine b6a k hk ?_
 simp only [a2h, Bool.and_eq_true] at h
 rw [List.all_eq_true] at h ⊢
 exact fun x hx => h.1 x (List.mem_of_mem_take hx)
theorem c4N (l : List OpT) : (a1m l).length ≤ 3210 := by
 unfold a1m
 split
 ·rename_i h
 have h1 := b8W h (Nat.le_refl _)
 have h2 := b1w h
 omega
 ·simp
theorem c5Q {l : List OpT}  : PFn Tryz.prog 43 [.one (.dv [] (a2b (l)))] (.one (.dv [] (.bool (a2h l)))) := by
 refine ⟨a0Q Tryz.func43 rfl Tryz.ntmps43 Tryz.results43 rfl (fun C => ?_)⟩
 refine a1k (x := .tmp 0) (a0a rfl) fun f0 => ?_
 iterate 10 refine z ?_
 refine a1l (ι := Nat) (fun zz => ⟨[(0, .one (.dv [] (a2b (l)))), (5, .one (.dv [] (a2b (l)))), (6, .one (.dv [] (.int .i64 ((((l)).length : Int))))), (7, .one (.dv [] (.int .i64 ((zz : Int)))))], [], []⟩) (fun zz => zz ≤ l.length ∧ (l.take zz).all a1s = true) (fun zz => l.length - zz) (0) ?_ (a0e ⟨rfl, rfl, rfl, rfl, trivial⟩ trivial trivial rfl) (fun zz hx => ?_)
 ·exact ⟨Nat.zero_le _, rfl⟩
 obtain ⟨k, rfl⟩ : ∃ v, v = zz := ⟨_, rfl⟩
 replace hx : k ≤ l.length ∧ (l.take k).all a1s = true := hx
 obtain ⟨hk, hall⟩ := hx
 show Ok _ _ _ _ _ (⟨[(0, .one (.dv [] (a2b (l)))), (5, .one (.dv [] (a2b (l)))), (6, .one (.dv [] (.int .i64 ((((l)).length : Int))))), (7, .one (.dv [] (.int .i64 ((k : Int)))))], [], []⟩ : St)
 iterate 3 refine z ?_
 refine a0s ?_
 refine yQ rfl (fun c1 => ?_) fun c1 => ?_
 ·have d1 := of_decide_eq_true c1
 iterate 12 refine z ?_
 refine zC Tryz.call78 ?_ (hf := b4Y (x := (((l)).getD ((k : Int)).toNat default)) )
 iterate 2 refine z ?_
 refine yQ rfl (fun c2 => ?_) fun c2 => ?_
 ·iterate 10 refine z ?_
  exact (c4U (k := k) (by omega) (by simpa using c2)).symm
 ·iterate 3 refine z ?_
  refine a0n ?_
  iterate 3 refine z ?_
  refine ⟨k + 1, ?_, ?_, a0e ⟨rfl, rfl, rfl, rfl, trivial⟩ trivial trivial rfl⟩
  ·exact ⟨by omega, c8E hall (by omega) (by simpa using c2)⟩
  ·omega
 ·have d1 := of_decide_eq_false c1
 iterate 13 refine z ?_
 exact (c6k hall (by omega)).symm
theorem b6l {l : List OpT}  : KFn Tryz.prog 21 [.one (.dv [] (a2b (l)))] (.one (.key 900500)) [(900500, some (a0b false (a0l (a1m l))))] := by
 refine ⟨a0Q Tryz.func21 rfl Tryz.ntmps21 Tryz.results21 rfl (fun C => ?_)⟩
 refine a1k (x := .tmp 0) (a0a rfl) fun f0 => ?_
 iterate 6 refine z ?_
 refine zC Tryz.call43 ?_ (hf := c5Q (l := l) )
 iterate 2 refine z ?_
 refine yQ rfl (fun c1 => ?_) fun c1 => ?_
 ·have hk0 : a2h l = false := by simpa using c1
 refine z ?_
 refine a2H (k := 900500) hT rfl rfl rfl rfl rfl rfl rfl rfl ?_
 iterate 2 refine z ?_
 refine a0h (σ' := ⟨[(2, .one (.key 900500))], [], [(900500, some (a0b false (a0l (a1m l))))]⟩) (a0e ⟨rfl, trivial⟩ trivial ⟨(by first | exact congrArg (fun l : List UInt8 => some (some (KC.mk false 5 1 l.length (l.flatMap a1x)))) (show ([] : List UInt8) = a1m l from (b4T hk0).symm) | exact congrArg (fun l : List UInt8 => some (some (KC.mk false 5 1 l.length (l.flatMap a1x)))) (a8M hk1 (by omega)).symm), trivial⟩ rfl) ?_
 iterate 2 refine z ?_
 refine a1r (a0m rfl) ?_
 exact ⟨rfl, rfl⟩
 ·have hk1 : a2h l = true := by simpa using c1
 have hll := b1w hk1
 iterate 5 refine z ?_
 refine a2I 900470 rfl rfl rfl Tryz.call44 (a8Z (x := []) (n := (l.length : Int)) (by simp)) (a0g a0M (a0D (a5o rfl rfl)) (a0g (a0a rfl) (a0D a0c) a0q)) rfl rfl rfl ?_
 iterate 9 refine z ?_
 refine a1l (ι := Nat) (fun zz => ⟨[(2, .one .nil), (3, .one (.key 900500)), (15, .one (.dv [] (a2b (l)))), (16, .one (.dv [] (.int .i64 ((((l)).length : Int))))), (17, .one (.dv [] (.int .i64 ((zz : Int)))))], [], [(900500, some (a0b false (.sl 5 1 ((a2r l zz).length) ((a2r l zz).flatMap a1x))))]⟩) (fun zz => zz ≤ l.length) (fun zz => l.length - zz) (0) ?_ (a0e ⟨rfl, rfl, rfl, rfl, rfl, trivial⟩ trivial ⟨rfl, trivial⟩ rfl) (fun zz hx => ?_)
 ·exact Nat.zero_le _
 obtain ⟨k, rfl⟩ : ∃ v, v = zz := ⟨_, rfl⟩
 replace hx : k ≤ l.length := hx
 have hk := hx
 show Ok _ _ _ _ _ (⟨[(2, .one .nil), (3, .one (.key 900500)), (15, .one (.dv [] (a2b (l)))), (16, .one (.dv [] (.int .i64 ((((l)).length : Int))))), (17, .one (.dv [] (.int .i64 ((k : Int)))))], [], [(900500, some (a0b false (.sl 5 1 ((a2r l k).length) ((a2r l k).flatMap a1x))))]⟩ : St)
 iterate 3 refine z ?_
 refine a0s ?_
 refine yQ rfl (fun c2 => ?_) fun c2 => ?_
 ·have d2 := of_decide_eq_true c2
  have hkl : k < l.length := by omega
  have hop := b5K hk1 hkl
  have hrg := b4B hop
  have hek := a9F (l.getD (k : Int).toNat default).2.2.1
  have her := a8Y (l.getD (k : Int).toNat default).2.2.2.1
  have hen := b8W hk1 hk
  iterate 14 refine z ?_
  refine a2I 900471 rfl rfl rfl Tryz.call44 (a8Z (x := (a2r l k)) (n := (l.getD (k : Int).toNat default).1) (by omega)) (a0g (a0a rfl) (a0D (a0X rfl rfl)) (a0g (a0a rfl) (a0D a0c) a0q)) rfl rfl rfl ?_
  iterate 2 refine z ?_
  refine a7R (σ' := ⟨[(2, .one .nil), (3, .one (.key 900501)), (5, .box 5 0), (15, .one (.dv [] (a2b (l)))), (16, .one (.dv [] (.int .i64 ((((l)).length : Int))))), (17, .one (.dv [] (.int .i64 ((k : Int))))), (37, .one (.key 37)), (38, .one (.dv [] (.int .i64 (((4) : Int))))), (39, .one (.dv [] (.int .i64 (0))))], [(5, 65, [(.dv [] (.int .i64 ((((l)).getD ((k : Int)).toNat default).1))), (.dv [] (.str ((((l)).getD ((k : Int)).toNat default).2.1))), (.dv [] (.int .i64 ((((l)).getD ((k : Int)).toNat default).2.2.1.1))), (.dv [] (.int .i64 ((((l)).getD ((k : Int)).toNat default).2.2.1.2.1))), (.dv [] (.str ((((l)).getD ((k : Int)).toNat default).2.2.1.2.2))), (.dv [] (a0J ((((l)).getD ((k : Int)).toNat default).2.2.2.1))), (.dv [] (.str ((((l)).getD ((k : Int)).toNat default).2.2.2.2)))])], [(37, some (a0b false (.sl 22 1 (4) ([.sl 1000005 1 (((((l)).getD ((k : Int)).toNat default).2.1).data.toList.length) (((((l)).getD ((k : Int)).toNat default).2.1).data.toList.flatMap a1x), a0l (a1C ((((l)).getD ((k : Int)).toNat default).2.2.1)), a0l (a2o ((((l)).getD ((k : Int)).toNat default).2.2.2.1)), .sl 1000005 1 (((((l)).getD ((k : Int)).toNat default).2.2.2.2).data.toList.length) (((((l)).getD ((k : Int)).toNat default).2.2.2.2).data.toList.flatMap a1x)])))), (900500, some (a0b false (.sl 5 1 ((a2r l k).length) ((a2r l k).flatMap a1x)))), (900501, some (a0b false (a0l (a3r (a2r l k) (l.getD (k : Int).toNat default) 0))))]⟩) ?_ ?_
  ·refine a1N (oB := [5]) (oK := [900500, 900501]) (by kernel_rfl) rfl rfl ?_
  refine zD 0 ?_
  refine zD 1 ?_
  refine zD 3 ?_
  refine zD 4 ?_
  refine zD 6 ?_
  refine zD 7 ?_
  refine zD 9 ?_
  refine zD 10 ?_
  refine zD 14 ?_
  refine a5R 2 [5, 11] (by kernel_rfl) ⟨?_, ?_, ?_, trivial⟩
  ·refine a4S (k := 27) 2 hT rfl rfl rfl rfl rfl rfl rfl rfl (a0a rfl) rfl rfl rfl ?_
   refine a5R 5 [11] (by kernel_rfl) ⟨?_, ?_, trivial⟩
   ·refine a7a 900498 5 rfl rfl rfl rfl Tryz.call45 (a7d (k := (((l)).getD ((k : Int)).toNat default).2.2.1) ) (a0g (a0a rfl) (a0u (a0d a0c (a0d a0c (a0d a0c a0t)))) a0q) rfl rfl rfl rfl rfl ?_
   refine a5R 8 [11] (by kernel_rfl) ⟨?_, ?_, trivial⟩
   ·refine a7a 900011 8 rfl rfl rfl rfl Tryz.call46 (a4s (r := (((l)).getD ((k : Int)).toNat default).2.2.2.1) ) (a0g (a0a rfl) (a0u (a0d a0c a0t)) a0q) rfl rfl rfl rfl rfl ?_
    refine a7G (k := 36) 11 hT rfl (by kernel_rfl) rfl rfl rfl rfl rfl rfl rfl (a0a rfl) rfl rfl rfl ?_
    refine a4F (k := 37) (js := [27, 900510, 900511, 36]) 12 hT rfl (by kernel_rfl) rfl rfl rfl rfl rfl rfl rfl rfl rfl rfl rfl (a0Y (a0a rfl) rfl rfl rfl (a0Y (a0a rfl) rfl rfl rfl (a0Y (a0a rfl) rfl rfl rfl (a0Y (a0a rfl) rfl rfl rfl a3a)))) (a0o (a1f rfl) (a0o (a1f rfl) (a0o (a1f rfl) (a0o (a1f rfl) a1z rfl) rfl) rfl) rfl) (by decide) (by decide) rfl rfl rfl rfl ?_
    simp only [a0p, a0k, SV.kill, CV.kill, kk, Nat.reduceBEq]
    refine a1q 13 rfl (by kernel_rfl) rfl rfl (a2J (n := (4)) hT rfl rfl (a0a rfl) rfl rfl) rfl rfl rfl rfl ?_
    refine a1S (by kernel_rfl) ?_
    exact a2z (a0e ⟨rfl, rfl, rfl, rfl, rfl, rfl, rfl, rfl, rfl, trivial⟩ ⟨rfl, trivial⟩ ⟨rfl, rfl, rfl, trivial⟩ rfl)
   ·refine a4S (k := 36) 11 hT rfl rfl rfl rfl rfl rfl rfl rfl (a0a rfl) rfl rfl rfl ?_
    refine a2K 900011 8 rfl (by kernel_rfl) rfl rfl rfl Tryz.call46 (a4s (r := (((l)).getD ((k : Int)).toNat default).2.2.2.1) ) (a0g (a0a rfl) (a0u (a0d a0c a0t)) a0q) rfl rfl rfl rfl rfl ?_
    refine a4F (k := 37) (js := [27, 900510, 900511, 36]) 12 hT rfl (by kernel_rfl) rfl rfl rfl rfl rfl rfl rfl rfl rfl rfl rfl (a0Y (a0a rfl) rfl rfl rfl (a0Y (a0a rfl) rfl rfl rfl (a0Y (a0a rfl) rfl rfl rfl (a0Y (a0a rfl) rfl rfl rfl a3a)))) (a0o (a1f rfl) (a0o (a1f rfl) (a0o (a1f rfl) (a0o (a1f rfl) a1z rfl) rfl) rfl) rfl) (by decide) (by decide) rfl rfl rfl rfl ?_
    simp only [a0p, a0k, SV.kill, CV.kill, kk, Nat.reduceBEq]
    refine a1q 13 rfl (by kernel_rfl) rfl rfl (a2J (n := (4)) hT rfl rfl (a0a rfl) rfl rfl) rfl rfl rfl rfl ?_
    refine a1S (by kernel_rfl) ?_
    exact a2z (a0e ⟨rfl, rfl, rfl, rfl, rfl, rfl, rfl, rfl, rfl, trivial⟩ ⟨rfl, trivial⟩ ⟨rfl, rfl, rfl, trivial⟩ rfl)
   ·refine a4S (k := 36) 11 hT rfl rfl rfl rfl rfl rfl rfl rfl (a0a rfl) rfl rfl rfl ?_
   refine a2K 900498 5 rfl (by kernel_rfl) rfl rfl rfl Tryz.call45 (a7d (k := (((l)).getD ((k : Int)).toNat default).2.2.1) ) (a0g (a0a rfl) (a0u (a0d a0c (a0d a0c (a0d a0c a0t)))) a0q) rfl rfl rfl rfl rfl ?_
   refine a2K 900011 8 rfl (by kernel_rfl) rfl rfl rfl Tryz.call46 (a4s (r := (((l)).getD ((k : Int)).toNat default).2.2.2.1) ) (a0g (a0a rfl) (a0u (a0d a0c a0t)) a0q) rfl rfl rfl rfl rfl ?_
   refine a4F (k := 37) (js := [27, 900510, 900511, 36]) 12 hT rfl (by kernel_rfl) rfl rfl rfl rfl rfl rfl rfl rfl rfl rfl rfl (a0Y (a0a rfl) rfl rfl rfl (a0Y (a0a rfl) rfl rfl rfl (a0Y (a0a rfl) rfl rfl rfl (a0Y (a0a rfl) rfl rfl rfl a3a)))) (a0o (a1f rfl) (a0o (a1f rfl) (a0o (a1f rfl) (a0o (a1f rfl) a1z rfl) rfl) rfl) rfl) (by decide) (by decide) rfl rfl rfl rfl ?_
   simp only [a0p, a0k, SV.kill, CV.kill, kk, Nat.reduceBEq]
   refine a1q 13 rfl (by kernel_rfl) rfl rfl (a2J (n := (4)) hT rfl rfl (a0a rfl) rfl rfl) rfl rfl rfl rfl ?_
   refine a1S (by kernel_rfl) ?_
   exact a2z (a0e ⟨rfl, rfl, rfl, rfl, rfl, rfl, rfl, rfl, rfl, trivial⟩ ⟨rfl, trivial⟩ ⟨rfl, rfl, rfl, trivial⟩ rfl)
  ·refine a7a 900498 5 rfl rfl rfl rfl Tryz.call45 (a7d (k := (((l)).getD ((k : Int)).toNat default).2.2.1) ) (a0g (a0a rfl) (a0u (a0d a0c (a0d a0c (a0d a0c a0t)))) a0q) rfl rfl rfl rfl rfl ?_
   refine a5R 2 [8, 11] (by kernel_rfl) ⟨?_, ?_, ?_, trivial⟩
   ·refine a4S (k := 27) 2 hT rfl rfl rfl rfl rfl rfl rfl rfl (a0a rfl) rfl rfl rfl ?_
   refine a5R 8 [11] (by kernel_rfl) ⟨?_, ?_, trivial⟩
   ·refine a7a 900011 8 rfl rfl rfl rfl Tryz.call46 (a4s (r := (((l)).getD ((k : Int)).toNat default).2.2.2.1) ) (a0g (a0a rfl) (a0u (a0d a0c a0t)) a0q) rfl rfl rfl rfl rfl ?_
    refine a7G (k := 36) 11 hT rfl (by kernel_rfl) rfl rfl rfl rfl rfl rfl rfl (a0a rfl) rfl rfl rfl ?_
    refine a4F (k := 37) (js := [27, 900510, 900511, 36]) 12 hT rfl (by kernel_rfl) rfl rfl rfl rfl rfl rfl rfl rfl rfl rfl rfl (a0Y (a0a rfl) rfl rfl rfl (a0Y (a0a rfl) rfl rfl rfl (a0Y (a0a rfl) rfl rfl rfl (a0Y (a0a rfl) rfl rfl rfl a3a)))) (a0o (a1f rfl) (a0o (a1f rfl) (a0o (a1f rfl) (a0o (a1f rfl) a1z rfl) rfl) rfl) rfl) (by decide) (by decide) rfl rfl rfl rfl ?_
    simp only [a0p, a0k, SV.kill, CV.kill, kk, Nat.reduceBEq]
    refine a1q 13 rfl (by kernel_rfl) rfl rfl (a2J (n := (4)) hT rfl rfl (a0a rfl) rfl rfl) rfl rfl rfl rfl ?_
    refine a1S (by kernel_rfl) ?_
    exact a2z (a0e ⟨rfl, rfl, rfl, rfl, rfl, rfl, rfl, rfl, rfl, trivial⟩ ⟨rfl, trivial⟩ ⟨rfl, rfl, rfl, trivial⟩ rfl)
   ·refine a4S (k := 36) 11 hT rfl rfl rfl rfl rfl rfl rfl rfl (a0a rfl) rfl rfl rfl ?_
    refine a2K 900011 8 rfl (by kernel_rfl) rfl rfl rfl Tryz.call46 (a4s (r := (((l)).getD ((k : Int)).toNat default).2.2.2.1) ) (a0g (a0a rfl) (a0u (a0d a0c a0t)) a0q) rfl rfl rfl rfl rfl ?_
    refine a4F (k := 37) (js := [27, 900510, 900511, 36]) 12 hT rfl (by kernel_rfl) rfl rfl rfl rfl rfl rfl rfl rfl rfl rfl rfl (a0Y (a0a rfl) rfl rfl rfl (a0Y (a0a rfl) rfl rfl rfl (a0Y (a0a rfl) rfl rfl rfl (a0Y (a0a rfl) rfl rfl rfl a3a)))) (a0o (a1f rfl) (a0o (a1f rfl) (a0o (a1f rfl) (a0o (a1f rfl) a1z rfl) rfl) rfl) rfl) (by decide) (by decide) rfl rfl rfl rfl ?_
    simp only [a0p, a0k, SV.kill, CV.kill, kk, Nat.reduceBEq]
    refine a1q 13 rfl (by kernel_rfl) rfl rfl (a2J (n := (4)) hT rfl rfl (a0a rfl) rfl rfl) rfl rfl rfl rfl ?_
    refine a1S (by kernel_rfl) ?_
    exact a2z (a0e ⟨rfl, rfl, rfl, rfl, rfl, rfl, rfl, rfl, rfl, trivial⟩ ⟨rfl, trivial⟩ ⟨rfl, rfl, rfl, trivial⟩ rfl)
   ·refine a7a 900011 8 rfl rfl rfl rfl Tryz.call46 (a4s (r := (((l)).getD ((k : Int)).toNat default).2.2.2.1) ) (a0g (a0a rfl) (a0u (a0d a0c a0t)) a0q) rfl rfl rfl rfl rfl ?_
   refine a5R 2 [11] (by kernel_rfl) ⟨?_, ?_, trivial⟩
   ·refine a4S (k := 27) 2 hT rfl rfl rfl rfl rfl rfl rfl rfl (a0a rfl) rfl rfl rfl ?_
    refine a7G (k := 36) 11 hT rfl (by kernel_rfl) rfl rfl rfl rfl rfl rfl rfl (a0a rfl) rfl rfl rfl ?_
    refine a4F (k := 37) (js := [27, 900510, 900511, 36]) 12 hT rfl (by kernel_rfl) rfl rfl rfl rfl rfl rfl rfl rfl rfl rfl rfl (a0Y (a0a rfl) rfl rfl rfl (a0Y (a0a rfl) rfl rfl rfl (a0Y (a0a rfl) rfl rfl rfl (a0Y (a0a rfl) rfl rfl rfl a3a)))) (a0o (a1f rfl) (a0o (a1f rfl) (a0o (a1f rfl) (a0o (a1f rfl) a1z rfl) rfl) rfl) rfl) (by decide) (by decide) rfl rfl rfl rfl ?_
    simp only [a0p, a0k, SV.kill, CV.kill, kk, Nat.reduceBEq]
    refine a1q 13 rfl (by kernel_rfl) rfl rfl (a2J (n := (4)) hT rfl rfl (a0a rfl) rfl rfl) rfl rfl rfl rfl ?_
    refine a1S (by kernel_rfl) ?_
    exact a2z (a0e ⟨rfl, rfl, rfl, rfl, rfl, rfl, rfl, rfl, rfl, trivial⟩ ⟨rfl, trivial⟩ ⟨rfl, rfl, rfl, trivial⟩ rfl)
   ·refine a4S (k := 36) 11 hT rfl rfl rfl rfl rfl rfl rfl rfl (a0a rfl) rfl rfl rfl ?_
    refine a7G (k := 27) 2 hT rfl (by kernel_rfl) rfl rfl rfl rfl rfl rfl rfl (a0a rfl) rfl rfl rfl ?_
    refine a4F (k := 37) (js := [27, 900510, 900511, 36]) 12 hT rfl (by kernel_rfl) rfl rfl rfl rfl rfl rfl rfl rfl rfl rfl rfl (a0Y (a0a rfl) rfl rfl rfl (a0Y (a0a rfl) rfl rfl rfl (a0Y (a0a rfl) rfl rfl rfl (a0Y (a0a rfl) rfl rfl rfl a3a)))) (a0o (a1f rfl) (a0o (a1f rfl) (a0o (a1f rfl) (a0o (a1f rfl) a1z rfl) rfl) rfl) rfl) (by decide) (by decide) rfl rfl rfl rfl ?_
    simp only [a0p, a0k, SV.kill, CV.kill, kk, Nat.reduceBEq]
    refine a1q 13 rfl (by kernel_rfl) rfl rfl (a2J (n := (4)) hT rfl rfl (a0a rfl) rfl rfl) rfl rfl rfl rfl ?_
    refine a1S (by kernel_rfl) ?_
    exact a2z (a0e ⟨rfl, rfl, rfl, rfl, rfl, rfl, rfl, rfl, rfl, trivial⟩ ⟨rfl, trivial⟩ ⟨rfl, rfl, rfl, trivial⟩ rfl)
   ·refine a4S (k := 36) 11 hT rfl rfl rfl rfl rfl rfl rfl rfl (a0a rfl) rfl rfl rfl ?_
   refine a5R 2 [8] (by kernel_rfl) ⟨?_, ?_, trivial⟩
   ·refine a4S (k := 27) 2 hT rfl rfl rfl rfl rfl rfl rfl rfl (a0a rfl) rfl rfl rfl ?_
    refine a2K 900011 8 rfl (by kernel_rfl) rfl rfl rfl Tryz.call46 (a4s (r := (((l)).getD ((k : Int)).toNat default).2.2.2.1) ) (a0g (a0a rfl) (a0u (a0d a0c a0t)) a0q) rfl rfl rfl rfl rfl ?_
    refine a4F (k := 37) (js := [27, 900510, 900511, 36]) 12 hT rfl (by kernel_rfl) rfl rfl rfl rfl rfl rfl rfl rfl rfl rfl rfl (a0Y (a0a rfl) rfl rfl rfl (a0Y (a0a rfl) rfl rfl rfl (a0Y (a0a rfl) rfl rfl rfl (a0Y (a0a rfl) rfl rfl rfl a3a)))) (a0o (a1f rfl) (a0o (a1f rfl) (a0o (a1f rfl) (a0o (a1f rfl) a1z rfl) rfl) rfl) rfl) (by decide) (by decide) rfl rfl rfl rfl ?_
    simp only [a0p, a0k, SV.kill, CV.kill, kk, Nat.reduceBEq]
    refine a1q 13 rfl (by kernel_rfl) rfl rfl (a2J (n := (4)) hT rfl rfl (a0a rfl) rfl rfl) rfl rfl rfl rfl ?_
    refine a1S (by kernel_rfl) ?_
    exact a2z (a0e ⟨rfl, rfl, rfl, rfl, rfl, rfl, rfl, rfl, rfl, trivial⟩ ⟨rfl, trivial⟩ ⟨rfl, rfl, rfl, trivial⟩ rfl)
   ·refine a7a 900011 8 rfl rfl rfl rfl Tryz.call46 (a4s (r := (((l)).getD ((k : Int)).toNat default).2.2.2.1) ) (a0g (a0a rfl) (a0u (a0d a0c a0t)) a0q) rfl rfl rfl rfl rfl ?_
    refine a7G (k := 27) 2 hT rfl (by kernel_rfl) rfl rfl rfl rfl rfl rfl rfl (a0a rfl) rfl rfl rfl ?_
    refine a4F (k := 37) (js := [27, 900510, 900511, 36]) 12 hT rfl (by kernel_rfl) rfl rfl rfl rfl rfl rfl rfl rfl rfl rfl rfl (a0Y (a0a rfl) rfl rfl rfl (a0Y (a0a rfl) rfl rfl rfl (a0Y (a0a rfl) rfl rfl rfl (a0Y (a0a rfl) rfl rfl rfl a3a)))) (a0o (a1f rfl) (a0o (a1f rfl) (a0o (a1f rfl) (a0o (a1f rfl) a1z rfl) rfl) rfl) rfl) (by decide) (by decide) rfl rfl rfl rfl ?_
    simp only [a0p, a0k, SV.kill, CV.kill, kk, Nat.reduceBEq]
    refine a1q 13 rfl (by kernel_rfl) rfl rfl (a2J (n := (4)) hT rfl rfl (a0a rfl) rfl rfl) rfl rfl rfl rfl ?_
    refine a1S (by kernel_rfl) ?_
    exact a2z (a0e ⟨rfl, rfl, rfl, rfl, rfl, rfl, rfl, rfl, rfl, trivial⟩ ⟨rfl, trivial⟩ ⟨rfl, rfl, rfl, trivial⟩ rfl)
  ·refine a4S (k := 36) 11 hT rfl rfl rfl rfl rfl rfl rfl rfl (a0a rfl) rfl rfl rfl ?_
   refine a5R 2 [5] (by kernel_rfl) ⟨?_, ?_, trivial⟩
   ·refine a4S (k := 27) 2 hT rfl rfl rfl rfl rfl rfl rfl rfl (a0a rfl) rfl rfl rfl ?_
   refine a2K 900498 5 rfl (by kernel_rfl) rfl rfl rfl Tryz.call45 (a7d (k := (((l)).getD ((k : Int)).toNat default).2.2.1) ) (a0g (a0a rfl) (a0u (a0d a0c (a0d a0c (a0d a0c a0t)))) a0q) rfl rfl rfl rfl rfl ?_
   refine a2K 900011 8 rfl (by kernel_rfl) rfl rfl rfl Tryz.call46 (a4s (r := (((l)).getD ((k : Int)).toNat default).2.2.2.1) ) (a0g (a0a rfl) (a0u (a0d a0c a0t)) a0q) rfl rfl rfl rfl rfl ?_
   refine a4F (k := 37) (js := [27, 900510, 900511, 36]) 12 hT rfl (by kernel_rfl) rfl rfl rfl rfl rfl rfl rfl rfl rfl rfl rfl (a0Y (a0a rfl) rfl rfl rfl (a0Y (a0a rfl) rfl rfl rfl (a0Y (a0a rfl) rfl rfl rfl (a0Y (a0a rfl) rfl rfl rfl a3a)))) (a0o (a1f rfl) (a0o (a1f rfl) (a0o (a1f rfl) (a0o (a1f rfl) a1z rfl) rfl) rfl) rfl) (by decide) (by decide) rfl rfl rfl rfl ?_
   simp only [a0p, a0k, SV.kill, CV.kill, kk, Nat.reduceBEq]
   refine a1q 13 rfl (by kernel_rfl) rfl rfl (a2J (n := (4)) hT rfl rfl (a0a rfl) rfl rfl) rfl rfl rfl rfl ?_
   refine a1S (by kernel_rfl) ?_
   exact a2z (a0e ⟨rfl, rfl, rfl, rfl, rfl, rfl, rfl, rfl, rfl, trivial⟩ ⟨rfl, trivial⟩ ⟨rfl, rfl, rfl, trivial⟩ rfl)
   ·refine a7a 900498 5 rfl rfl rfl rfl Tryz.call45 (a7d (k := (((l)).getD ((k : Int)).toNat default).2.2.1) ) (a0g (a0a rfl) (a0u (a0d a0c (a0d a0c (a0d a0c a0t)))) a0q) rfl rfl rfl rfl rfl ?_
   refine a5R 2 [8] (by kernel_rfl) ⟨?_, ?_, trivial⟩
   ·refine a4S (k := 27) 2 hT rfl rfl rfl rfl rfl rfl rfl rfl (a0a rfl) rfl rfl rfl ?_
    refine a2K 900011 8 rfl (by kernel_rfl) rfl rfl rfl Tryz.call46 (a4s (r := (((l)).getD ((k : Int)).toNat default).2.2.2.1) ) (a0g (a0a rfl) (a0u (a0d a0c a0t)) a0q) rfl rfl rfl rfl rfl ?_
    refine a4F (k := 37) (js := [27, 900510, 900511, 36]) 12 hT rfl (by kernel_rfl) rfl rfl rfl rfl rfl rfl rfl rfl rfl rfl rfl (a0Y (a0a rfl) rfl rfl rfl (a0Y (a0a rfl) rfl rfl rfl (a0Y (a0a rfl) rfl rfl rfl (a0Y (a0a rfl) rfl rfl rfl a3a)))) (a0o (a1f rfl) (a0o (a1f rfl) (a0o (a1f rfl) (a0o (a1f rfl) a1z rfl) rfl) rfl) rfl) (by decide) (by decide) rfl rfl rfl rfl ?_
    simp only [a0p, a0k, SV.kill, CV.kill, kk, Nat.reduceBEq]
    refine a1q 13 rfl (by kernel_rfl) rfl rfl (a2J (n := (4)) hT rfl rfl (a0a rfl) rfl rfl) rfl rfl rfl rfl ?_
    refine a1S (by kernel_rfl) ?_
    exact a2z (a0e ⟨rfl, rfl, rfl, rfl, rfl, rfl, rfl, rfl, rfl, trivial⟩ ⟨rfl, trivial⟩ ⟨rfl, rfl, rfl, trivial⟩ rfl)
   ·refine a7a 900011 8 rfl rfl rfl rfl Tryz.call46 (a4s (r := (((l)).getD ((k : Int)).toNat default).2.2.2.1) ) (a0g (a0a rfl) (a0u (a0d a0c a0t)) a0q) rfl rfl rfl rfl rfl ?_
    refine a7G (k := 27) 2 hT rfl (by kernel_rfl) rfl rfl rfl rfl rfl rfl rfl (a0a rfl) rfl rfl rfl ?_
    refine a4F (k := 37) (js := [27, 900510, 900511, 36]) 12 hT rfl (by kernel_rfl) rfl rfl rfl rfl rfl rfl rfl rfl rfl rfl rfl (a0Y (a0a rfl) rfl rfl rfl (a0Y (a0a rfl) rfl rfl rfl (a0Y (a0a rfl) rfl rfl rfl (a0Y (a0a rfl) rfl rfl rfl a3a)))) (a0o (a1f rfl) (a0o (a1f rfl) (a0o (a1f rfl) (a0o (a1f rfl) a1z rfl) rfl) rfl) rfl) (by decide) (by decide) rfl rfl rfl rfl ?_
    simp only [a0p, a0k, SV.kill, CV.kill, kk, Nat.reduceBEq]
    refine a1q 13 rfl (by kernel_rfl) rfl rfl (a2J (n := (4)) hT rfl rfl (a0a rfl) rfl rfl) rfl rfl rfl rfl ?_
    refine a1S (by kernel_rfl) ?_
    exact a2z (a0e ⟨rfl, rfl, rfl, rfl, rfl, rfl, rfl, rfl, rfl, trivial⟩ ⟨rfl, trivial⟩ ⟨rfl, rfl, rfl, trivial⟩ rfl)
  refine z ?_
  refine a0h (c4z (d := 37) (dd := b5a (a4p (l.getD (k : Int).toNat default))) rfl rfl (c5t (b1X b0G (b1X b0G (b1X b0G (b1X b0G c2K)))))) ?_
  refine a1l (ι := Nat) (fun zz => ⟨[(2, .one .nil), (3, .one (.key 900501)), (15, .one (.dv [] (a2b (l)))), (16, .one (.dv [] (.int .i64 ((((l)).length : Int))))), (17, .one (.dv [] (.int .i64 ((k : Int))))), (37, .one (.dv [37] (b5a (a4p (l.getD (k : Int).toNat default))))), (38, .one (.dv [] (.int .i64 (((4) : Int))))), (39, .one (.dv [] (.int .i64 ((zz : Int)))))], [], [(37, some (a0b false (.sl 22 1 (4) ([.sl 1000005 1 (((((l)).getD ((k : Int)).toNat default).2.1).data.toList.length) (((((l)).getD ((k : Int)).toNat default).2.1).data.toList.flatMap a1x), a0l (a1C ((((l)).getD ((k : Int)).toNat default).2.2.1)), a0l (a2o ((((l)).getD ((k : Int)).toNat default).2.2.2.1)), .sl 1000005 1 (((((l)).getD ((k : Int)).toNat default).2.2.2.2).data.toList.length) (((((l)).getD ((k : Int)).toNat default).2.2.2.2).data.toList.flatMap a1x)])))), (900500, some (a0b false (.sl 5 1 ((a2r l k).length) ((a2r l k).flatMap a1x)))), (900501, some (a0b false (.sl 5 1 ((a3r (a2r l k) (l.getD (k : Int).toNat default) zz).length) ((a3r (a2r l k) (l.getD (k : Int).toNat default) zz).flatMap a1x))))]⟩) (fun zz => zz ≤ 4) (fun zz => 4 - zz) (0) ?_ (a0e ⟨rfl, rfl, rfl, rfl, rfl, rfl, rfl, rfl, trivial⟩ trivial ⟨rfl, rfl, rfl, trivial⟩ rfl) (fun zz hx => ?_)
  ·exact Nat.zero_le _
  obtain ⟨j, rfl⟩ : ∃ v, v = zz := ⟨_, rfl⟩
  replace hx : j ≤ 4 := hx
  have hj := hx
  show Ok _ _ _ _ _ (⟨[(2, .one .nil), (3, .one (.key 900501)), (15, .one (.dv [] (a2b (l)))), (16, .one (.dv [] (.int .i64 ((((l)).length : Int))))), (17, .one (.dv [] (.int .i64 ((k : Int))))), (37, .one (.dv [37] (b5a (a4p (l.getD (k : Int).toNat default))))), (38, .one (.dv [] (.int .i64 (((4) : Int))))), (39, .one (.dv [] (.int .i64 ((j : Int)))))], [], [(37, some (a0b false (.sl 22 1 (4) ([.sl 1000005 1 (((((l)).getD ((k : Int)).toNat default).2.1).data.toList.length) (((((l)).getD ((k : Int)).toNat default).2.1).data.toList.flatMap a1x), a0l (a1C ((((l)).getD ((k : Int)).toNat default).2.2.1)), a0l (a2o ((((l)).getD ((k : Int)).toNat default).2.2.2.1)), .sl 1000005 1 (((((l)).getD ((k : Int)).toNat default).2.2.2.2).data.toList.length) (((((l)).getD ((k : Int)).toNat default).2.2.2.2).data.toList.flatMap a1x)])))), (900500, some (a0b false (.sl 5 1 ((a2r l k).length) ((a2r l k).flatMap a1x)))), (900501, some (a0b false (.sl 5 1 ((a3r (a2r l k) (l.getD (k : Int).toNat default) j).length) ((a3r (a2r l k) (l.getD (k : Int).toNat default) j).flatMap a1x))))]⟩ : St)
  iterate 3 refine z ?_
  refine a0s ?_
  refine yQ rfl (fun c3 => ?_) fun c3 => ?_
  ·have d3 := of_decide_eq_true c3
  have hj4 : j < 4 := by omega
  have hpn : (a4p (l.getD (k : Int).toNat default)).length = 4 := rfl
  have hpl := b6p hop j
  have hol := b3s (b := (a2r l k)) hop j
  iterate 9 refine z ?_
  refine a0n ?_
  iterate 2 refine z ?_
  refine a2I 892472 rfl rfl rfl Tryz.call47 (b8K (x := (a3r (a2r l k) (l.getD (k : Int).toNat default) j)) (y := (a4p (l.getD (k : Int).toNat default)).getD (j : Int).toNat default) (by omega) (by omega)) (a0g (a0a rfl) (a0D (a0X rfl rfl)) (a0g (a0a rfl) (a0D a0c) a0q)) rfl rfl rfl ?_
  refine z ?_
  refine a1J ?_
  iterate 2 refine z ?_
  refine a0h (b1J (s := 3) (k := 900502) (k' := 900501) rfl rfl rfl (by decide) rfl) ?_
  simp only [a0p, a0k, SV.kill, CV.kill, kk, Nat.reduceBEq]
  refine a0n ?_
  iterate 3 refine z ?_
  refine ⟨j + 1, ?_, ?_, a0e ⟨rfl, rfl, rfl, rfl, rfl, rfl, rfl, rfl, trivial⟩ trivial ⟨rfl, rfl, rfl, trivial⟩ rfl⟩
  ·omega
  ·omega
  ·have d3 := of_decide_eq_false c3
  have hj4 : j = 4 := by omega
  iterate 6 refine z ?_
  refine a0h (b1J (s := 3) (k := 900501) (k' := 900500) rfl rfl rfl (by decide) rfl) ?_
  simp only [a0p, a0k, SV.kill, CV.kill, kk, Nat.reduceBEq]
  refine a0n ?_
  iterate 3 refine z ?_
  refine ⟨k + 1, ?_, ?_, a0e ⟨rfl, rfl, rfl, rfl, rfl, trivial⟩ trivial ⟨(by rw [hj4]; rfl), trivial⟩ rfl⟩
  ·omega
  ·omega
 ·have d2 := of_decide_eq_false c2
  iterate 9 refine z ?_
  refine a0h (σ' := ⟨[(2, .one (.key 900500))], [], [(900500, some (a0b false (a0l (a1m l))))]⟩) (a0e ⟨rfl, trivial⟩ trivial ⟨(by first | exact congrArg (fun l : List UInt8 => some (some (KC.mk false 5 1 l.length (l.flatMap a1x)))) (show ([] : List UInt8) = a1m l from (b4T hk0).symm) | exact congrArg (fun l : List UInt8 => some (some (KC.mk false 5 1 l.length (l.flatMap a1x)))) (a8M hk1 (by omega)).symm), trivial⟩ rfl) ?_
  refine z ?_
  refine a1r (a0m rfl) ?_
  exact ⟨rfl, rfl⟩
end Go.Proofs.YtkhldpbfkagdhaaGreat
