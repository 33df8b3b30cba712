/-
  Contracts of the program's functions for the statements OpenDisk, by the rules of the logic. Conditions: none but those in the theorems.
-/
import Derived.Test.YtfejjkndbpejbaaGreatU3
set_option maxHeartbeats 4000000
set_option maxRecDepth 100000
namespace Go.Proofs.YtfejjkndbpejbaaGreat
open Go.RowKit
open Go.Proofs
set_option linter.unusedVariables false
set_option linter.unusedSimpArgs false
theorem a6Q {n lo hi : Int}  : PFn Tryz.prog 92 [.one (.dv [] (.int .i64 (n))), .one (.dv [] (.int .i64 (lo))), .one (.dv [] (.int .i64 (hi)))] (.one (.dv [] (.bool (decide (lo ≤ n) && decide (n ≤ hi))))) := by
 refine ⟨a0v Tryz.func92 rfl Tryz.ntmps92 Tryz.results92 rfl (fun C => ?_)⟩
 refine a0E (x := .tmp 0) (a0a rfl) fun f0 => ?_
 refine a0E (x := .tmp 1) (a0a rfl) fun f1 => ?_
 refine a0E (x := .tmp 2) (a0a rfl) fun f2 => ?_
 iterate 16 refine z ?_
 rfl
theorem a5U {n lo hi : Int}  : PFn Tryz.prog 77 [.one (.dv [] (.int .i64 (n))), .one (.dv [] (.int .i64 (lo))), .one (.dv [] (.int .i64 (hi)))] (.one (.dv [] (.bool (decide (lo ≤ n) && decide (n ≤ hi))))) := by
 refine ⟨a0v Tryz.func77 rfl Tryz.ntmps77 Tryz.results77 rfl (fun C => ?_)⟩
 refine a0E (x := .tmp 0) (a0a rfl) fun f0 => ?_
 refine a0E (x := .tmp 1) (a0a rfl) fun f1 => ?_
 refine a0E (x := .tmp 2) (a0a rfl) fun f2 => ?_
 iterate 16 refine z ?_
 rfl
theorem b1S {α : Type} {p : α → Bool} {l : List α} {k : Nat} {d : α} (h : (l.take k).all p = true) (hk : k < l.length) (hp : p (l.getD k d) = true) : (l.take (k + 1)).all p = true := by
 rw [List.take_succ_eq_append_getElem hk, List.all_append, h]
 simp only [List.all_cons, List.all_nil, Bool.and_true, Bool.true_and]
 simpa [List.getD, List.getElem?_eq_getElem hk] using hp
theorem b1I {α : Type} {p : α → Bool} {l : List α} {k : Nat} {d : α} (hk : k < l.length) (hp : p (l.getD k d) = false) : l.all p = false := by
 rw [List.all_eq_false]
 refine ⟨l[k], List.getElem_mem hk, ?_⟩
 simpa [List.getD, List.getElem?_eq_getElem hk] using hp
theorem b2s {α : Type} {p : α → Bool} {l : List α} {k : Nat} (h : (l.take k).all p = true) (hk : l.length ≤ k) : l.all p = true := by rwa [List.take_of_length_le hk] at h
theorem a4K (s : ByteArray) : s.data.toList.length = s.size := rfl
def kch (b : UInt8) : Bool := (decide ((97 : Int) ≤ (b.toNat : Int)) && decide ((b.toNat : Int) ≤ 122)) || (decide ((48 : Int) ≤ (b.toNat : Int)) && decide ((b.toNat : Int) ≤ 57))
def a6F (s : Str) : Bool := s.data.toList.all kch && decide ((s.size : Int) ≤ 12)
def wch (sl : Bool) (b : UInt8) : Bool := (decide ((97 : Int) ≤ (b.toNat : Int)) && decide ((b.toNat : Int) ≤ 122)) || (sl && decide ((b.toNat : Int) = 47))
theorem b7n (b : UInt8) : ((decide ((b.toNat : Int) < 97) || decide ((122 : Int) < (b.toNat : Int))) && (decide ((b.toNat : Int) < 48) || decide ((57 : Int) < (b.toNat : Int)))) = !kch b := by
 unfold kch
 generalize (b.toNat : Int) = z
 by_cases h1 : z < 97 <;> by_cases h2 : 122 < z <;> by_cases h3 : z < 48 <;> by_cases h4 : 57 < z <;> simp [h1, h2, h3, h4] <;> omega
theorem c6Z {s : Str}  : PFn Tryz.prog 141 [.one (.dv [] (.str (s)))] (.one (.dv [] (.bool (a6F s)))) := by
 refine ⟨a0v Tryz.func141 rfl Tryz.ntmps141 Tryz.results141 rfl (fun C => ?_)⟩
 refine a0E (x := .tmp 0) (a0a rfl) fun f0 => ?_
 iterate 8 refine z ?_
 refine a0X (ι := Nat) (fun zz => ⟨[(0, .one (.dv [] (.str (s)))), (3, .one (.dv [] (.int .i64 ((zz : Int)))))], [], []⟩) (fun zz => zz ≤ s.size ∧ (s.data.toList.take zz).all kch = true) (fun zz => s.size - zz) (0) ?_ (a0e ⟨rfl, rfl, trivial⟩ trivial trivial rfl) (fun zz hx => ?_)
 ·exact ⟨Nat.zero_le _, rfl⟩
 obtain ⟨k, rfl⟩ : ∃ v, v = zz := ⟨_, rfl⟩
 replace hx : k ≤ s.size ∧ (s.data.toList.take k).all kch = true := hx
 obtain ⟨hk, hall⟩ := hx
 show Ok _ _ _ _ _ (⟨[(0, .one (.dv [] (.str (s)))), (3, .one (.dv [] (.int .i64 ((k : Int)))))], [], []⟩ : St)
 iterate 7 refine z ?_
 refine yQ rfl (fun c1 => ?_) fun c1 => ?_
 ·have d1 := of_decide_eq_true c1
  iterate 29 refine z ?_
  refine yQ rfl (fun c2 => ?_) fun c2 => ?_
  ·iterate 10 refine z ?_
   rw [a6F, b1I (k := k) (d := 0) (by rw [a4K]; omega) (by have h : (!kch (s.data.toList.getD k 0)) = true := c2; simpa using h)]; rfl
  ·iterate 3 refine z ?_
   refine a0k ?_
   iterate 4 refine z ?_
   refine ⟨k + 1, ?_, ?_, a0e ⟨rfl, rfl, trivial⟩ trivial trivial rfl⟩
   ·exact ⟨by omega, b1S (d := 0) hall (by rw [a4K]; omega) (by have h : (!kch (s.data.toList.getD k 0)) = false := c2; simpa using h)⟩
   ·omega
 ·have d1 := of_decide_eq_false c1
  iterate 13 refine z ?_
  rw [a6F, b2s hall (by rw [a4K]; omega)]; rfl
theorem c2f {s : Str}  : PFn Tryz.prog 135 [.one (.dv [] (.str (s)))] (.one (.dv [] (.bool (a6F s)))) := by
 refine ⟨a0v Tryz.func135 rfl Tryz.ntmps135 Tryz.results135 rfl (fun C => ?_)⟩
 refine a0E (x := .tmp 0) (a0a rfl) fun f0 => ?_
 iterate 8 refine z ?_
 refine a0X (ι := Nat) (fun zz => ⟨[(0, .one (.dv [] (.str (s)))), (3, .one (.dv [] (.int .i64 ((zz : Int)))))], [], []⟩) (fun zz => zz ≤ s.size ∧ (s.data.toList.take zz).all kch = true) (fun zz => s.size - zz) (0) ?_ (a0e ⟨rfl, rfl, trivial⟩ trivial trivial rfl) (fun zz hx => ?_)
 ·exact ⟨Nat.zero_le _, rfl⟩
 obtain ⟨k, rfl⟩ : ∃ v, v = zz := ⟨_, rfl⟩
 replace hx : k ≤ s.size ∧ (s.data.toList.take k).all kch = true := hx
 obtain ⟨hk, hall⟩ := hx
 show Ok _ _ _ _ _ (⟨[(0, .one (.dv [] (.str (s)))), (3, .one (.dv [] (.int .i64 ((k : Int)))))], [], []⟩ : St)
 iterate 7 refine z ?_
 refine yQ rfl (fun c1 => ?_) fun c1 => ?_
 ·have d1 := of_decide_eq_true c1
  iterate 28 refine z ?_
  refine yQ rfl (fun c2 => ?_) fun c2 => ?_
  ·iterate 10 refine z ?_
   rw [a6F, b1I (k := k) (d := 0) (by rw [a4K]; omega) (by have h := (b7n (s.data.toList.getD k 0)).symm.trans c2; simpa using h)]; rfl
  ·iterate 3 refine z ?_
   refine a0k ?_
   iterate 4 refine z ?_
   refine ⟨k + 1, ?_, ?_, a0e ⟨rfl, rfl, trivial⟩ trivial trivial rfl⟩
   ·exact ⟨by omega, b1S (d := 0) hall (by rw [a4K]; omega) (by have h := (b7n (s.data.toList.getD k 0)).symm.trans c2; simpa using h)⟩
   ·omega
 ·have d1 := of_decide_eq_false c1
  iterate 13 refine z ?_
  rw [a6F, b2s hall (by rw [a4K]; omega)]; rfl
def a1f (k : a0S) : Bool := (decide (1 ≤ k.1) && decide (k.1 ≤ 3)) && (decide (-1000000000000 ≤ k.2.1) && decide (k.2.1 ≤ 1000000000000)) && a6F k.2.2 && !(decide (k.1 = 2) && !decide (k.2.1 = 0)) && !(decide (k.1 = 1) && !sEq k.2.2 (ByteArray.mk #[]))
def a3b (s : Str) : Bool := s.data.toList.all (wch false) && (decide (1 ≤ (s.size : Int)) && decide ((s.size : Int) ≤ 8))
theorem b4Y (b : UInt8) : (decide ((b.toNat : Int) < 97) || decide ((122 : Int) < (b.toNat : Int))) = !wch false b := by
 unfold wch
 generalize (b.toNat : Int) = z
 by_cases h1 : z < 97 <;> by_cases h2 : 122 < z <;> simp [h1, h2] <;> omega
theorem a6p {k : a0S}  : PFn Tryz.prog 119 [.agg [(.dv [] (.int .i64 (k.1))), (.dv [] (.int .i64 (k.2.1))), (.dv [] (.str (k.2.2)))]] (.one (.dv [] (.bool (a1f k)))) := by
 refine ⟨a0v Tryz.func119 rfl Tryz.ntmps119 Tryz.results119 rfl (fun C => ?_)⟩
 refine yF 0 0 rfl rfl fun f0_0 => ?_
 refine yF 0 1 rfl rfl fun f0_1 => ?_
 refine yF 0 2 rfl rfl fun f0_2 => ?_
 iterate 8 refine z ?_
 refine zC Tryz.call92 ?_ (hf := a6Q)
 iterate 4 refine z ?_
 refine a1N (a1A rfl rfl rfl rfl rfl) rfl rfl Tryz.call92 a6Q (fun hg => (a0g (a0C rfl hg) (a0D a0c) (a0g (a0p (a0o rfl)) (a0D a0c) (a0g (a0p (a0o rfl)) (a0D a0c) a0m)))) rfl rfl ?_
 iterate 5 refine z ?_
 refine a1N (a1A rfl rfl rfl rfl rfl) rfl rfl Tryz.call141 c6Z (fun hg => (a0g (a0C rfl hg) (a0D a0c) a0m)) rfl rfl ?_
 iterate 3 refine z ?_
 refine yQ rfl (fun c1 => ?_) fun c1 => ?_
 ·iterate 6 refine z ?_
  grind [a1f]
 ·iterate 27 refine z ?_
  grind [a1f]
theorem a5g {k : a0S}  : PFn Tryz.prog 105 [.agg [(.dv [] (.int .i64 (k.1))), (.dv [] (.int .i64 (k.2.1))), (.dv [] (.str (k.2.2)))]] (.one (.dv [] (.bool (a1f k)))) := by
 refine ⟨a0v Tryz.func105 rfl Tryz.ntmps105 Tryz.results105 rfl (fun C => ?_)⟩
 refine yF 0 0 rfl rfl fun f0_0 => ?_
 refine yF 0 1 rfl rfl fun f0_1 => ?_
 refine yF 0 2 rfl rfl fun f0_2 => ?_
 iterate 7 refine z ?_
 refine zC Tryz.call77 ?_ (hf := a5U)
 iterate 3 refine z ?_
 refine a1N (a1A rfl rfl rfl rfl rfl) rfl rfl Tryz.call77 a5U (fun hg => (a0g (a0C rfl hg) (a0D a0c) (a0g (a0p (a0o rfl)) (a0D a0c) (a0g (a0p (a0o rfl)) (a0D a0c) a0m)))) rfl rfl ?_
 iterate 14 refine z ?_
 refine a1N (a1A rfl rfl rfl rfl rfl) rfl rfl Tryz.call135 c2f (fun hg => (a0g (a0C rfl hg) (a0D a0c) a0m)) rfl rfl ?_
 iterate 15 refine z ?_
 grind [a1f]
theorem c2I {s : Str} {m : Int} {sl : Bool}  : PFn Tryz.prog 121 [.one (.dv [] (.str (s))), .one (.dv [] (.int .i64 (m))), .one (.dv [] (.bool (sl)))] (.one (.dv [] (.bool (s.data.toList.all (wch sl) && (decide (1 ≤ (s.size : Int)) && decide ((s.size : Int) ≤ m)))))) := by
 refine ⟨a0v Tryz.func121 rfl Tryz.ntmps121 Tryz.results121 rfl (fun C => ?_)⟩
 refine a0E (x := .tmp 0) (a0a rfl) fun f0 => ?_
 refine a0E (x := .tmp 1) (a0a rfl) fun f1 => ?_
 iterate 8 refine z ?_
 refine a0X (ι := Nat) (fun zz => ⟨[(0, .one (.dv [] (.str (s)))), (1, .one (.dv [] (.int .i64 (m)))), (2, .one (.dv [] (.bool (sl)))), (7, .one (.dv [] (.int .i64 ((zz : Int)))))], [], []⟩) (fun zz => zz ≤ s.size ∧ (s.data.toList.take zz).all (wch sl) = true) (fun zz => s.size - zz) (0) ?_ (a0e ⟨rfl, rfl, rfl, rfl, trivial⟩ trivial trivial rfl) (fun zz hx => ?_)
 ·exact ⟨Nat.zero_le _, rfl⟩
 obtain ⟨k, rfl⟩ : ∃ v, v = zz := ⟨_, rfl⟩
 replace hx : k ≤ s.size ∧ (s.data.toList.take k).all (wch sl) = true := hx
 obtain ⟨hk, hall⟩ := hx
 show Ok _ _ _ _ _ (⟨[(0, .one (.dv [] (.str (s)))), (1, .one (.dv [] (.int .i64 (m)))), (2, .one (.dv [] (.bool (sl)))), (7, .one (.dv [] (.int .i64 ((k : Int)))))], [], []⟩ : St)
 iterate 7 refine z ?_
 refine yQ rfl (fun c1 => ?_) fun c1 => ?_
 ·have d1 := of_decide_eq_true c1
  iterate 26 refine z ?_
  refine yQ rfl (fun c2 => ?_) fun c2 => ?_
  ·iterate 10 refine z ?_
   rw [b1I (k := k) (d := 0) (by rw [a4K]; omega) (by have h : (!wch sl (s.data.toList.getD k 0)) = true := c2; simpa using h)]; rfl
  ·iterate 3 refine z ?_
   refine a0k ?_
   iterate 4 refine z ?_
   refine ⟨k + 1, ?_, ?_, a0e ⟨rfl, rfl, rfl, rfl, trivial⟩ trivial trivial rfl⟩
   ·exact ⟨by omega, b1S (d := 0) hall (by rw [a4K]; omega) (by have h : (!wch sl (s.data.toList.getD k 0)) = false := c2; simpa using h)⟩
   ·omega
 ·have d1 := of_decide_eq_false c1
  iterate 9 refine z ?_
  refine zC Tryz.call92 ?_ (hf := a6Q)
  iterate 4 refine z ?_
  rw [b2s hall (by rw [a4K]; omega)]; rfl
theorem a8p {s : Str}  : PFn Tryz.prog 91 [.one (.dv [] (.str (s)))] (.one (.dv [] (.bool (a3b s)))) := by
 refine ⟨a0v Tryz.func91 rfl Tryz.ntmps91 Tryz.results91 rfl (fun C => ?_)⟩
 refine a0E (x := .tmp 0) (a0a rfl) fun f0 => ?_
 iterate 5 refine z ?_
 refine zC Tryz.call121 ?_ (hf := c2I)
 iterate 4 refine z ?_
 rfl
theorem a8H {s : Str}  : PFn Tryz.prog 75 [.one (.dv [] (.str (s)))] (.one (.dv [] (.bool (a3b s)))) := by
 refine ⟨a0v Tryz.func75 rfl Tryz.ntmps75 Tryz.results75 rfl (fun C => ?_)⟩
 refine a0E (x := .tmp 0) (a0a rfl) fun f0 => ?_
 iterate 8 refine z ?_
 refine a0X (ι := Nat) (fun zz => ⟨[(0, .one (.dv [] (.str (s)))), (3, .one (.dv [] (.int .i64 ((zz : Int)))))], [], []⟩) (fun zz => zz ≤ s.size ∧ (s.data.toList.take zz).all (wch false) = true) (fun zz => s.size - zz) (0) ?_ (a0e ⟨rfl, rfl, trivial⟩ trivial trivial rfl) (fun zz hx => ?_)
 ·exact ⟨Nat.zero_le _, rfl⟩
 obtain ⟨k, rfl⟩ : ∃ v, v = zz := ⟨_, rfl⟩
 replace hx : k ≤ s.size ∧ (s.data.toList.take k).all (wch false) = true := hx
 obtain ⟨hk, hall⟩ := hx
 show Ok _ _ _ _ _ (⟨[(0, .one (.dv [] (.str (s)))), (3, .one (.dv [] (.int .i64 ((k : Int)))))], [], []⟩ : St)
 iterate 7 refine z ?_
 refine yQ rfl (fun c1 => ?_) fun c1 => ?_
 ·have d1 := of_decide_eq_true c1
  iterate 16 refine z ?_
  refine yQ rfl (fun c2 => ?_) fun c2 => ?_
  ·iterate 10 refine z ?_
   rw [a3b, b1I (k := k) (d := 0) (by rw [a4K]; omega) (by have h := (b4Y (s.data.toList.getD k 0)).symm.trans c2; simpa using h)]; rfl
  ·iterate 3 refine z ?_
   refine a0k ?_
   iterate 4 refine z ?_
   refine ⟨k + 1, ?_, ?_, a0e ⟨rfl, rfl, trivial⟩ trivial trivial rfl⟩
   ·exact ⟨by omega, b1S (d := 0) hall (by rw [a4K]; omega) (by have h := (b4Y (s.data.toList.getD k 0)).symm.trans c2; simpa using h)⟩
   ·omega
 ·have d1 := of_decide_eq_false c1
  iterate 8 refine z ?_
  refine zC Tryz.call77 ?_ (hf := a5U)
  iterate 4 refine z ?_
  rw [a3b, b2s hall (by rw [a4K]; omega)]; rfl
theorem b4J : ∀ (x y : List UInt8), (Op.bytesLess x y || (x == y)) = !Op.bytesLess y x
 | [], [] => rfl
 | [], _ :: _ => rfl
 | _ :: _, [] => rfl
 | a :: x, b :: y => by
  have ih := b4J x y
  simp only [Op.bytesLess]
  rcases Nat.lt_trichotomy a.toNat b.toNat with h | h | h
  ·have h1 : a < b := h
   have h2 : ¬ b < a := by intro h'; have : b.toNat < a.toNat := h'; omega
   have h3 : ¬ a = b := by rintro rfl; omega
   have h4 : ¬ b = a := fun e => h3 e.symm
   simp [h1, h2, h3, h4]
  ·have e : a = b := UInt8.toNat_inj.1 h
   subst e
   simpa using ih
  ·have h1 : b < a := h
   have h2 : ¬ a < b := by intro h'; have : a.toNat < b.toNat := h'; omega
   have h3 : ¬ a = b := by rintro rfl; omega
   have h4 : ¬ b = a := fun e => h3 e.symm
   simp [h1, h2, h3, h4]
theorem a8r (a b : Str) : (sLt a b || sEq a b) = !sLt b a := b4J _ _
theorem a6k {p : Nat → Bool} {k : Nat} (h : (List.range k).all p = true) (hp : p k = true) : (List.range (k + 1)).all p = true := by
 rw [List.range_succ, List.all_append, h]; simpa using hp
theorem a7q {p : Nat → Bool} {k n : Nat} (hk : k < n) (hp : p k = false) : (List.range n).all p = false := by
 rw [List.all_eq_false]; exact ⟨k, List.mem_range.2 hk, by simpa using hp⟩
def a4T (r : a0y) (i : Nat) : Bool := (!a3b (r.getD (i : Int).toNat default).1 || !(decide ((0 : Int) ≤ (r.getD (i : Int).toNat default).2) && decide ((r.getD (i : Int).toNat default).2 ≤ 1000000000))) ||
 (decide ((0 : Int) < (i : Int)) && (sLt (r.getD (i : Int).toNat default).1 (r.getD ((i : Int) - 1).toNat default).1 || sEq (r.getD (i : Int).toNat default).1 (r.getD ((i : Int) - 1).toNat default).1))
def a1j (r : a0y) : Bool := (List.range r.length).all (fun i => !a4T r i) && decide ((r.length : Int) ≤ 6)
def b2h (r : a0y) (i : Nat) : Bool := (!a3b (r.getD (i : Int).toNat default).1 || !(decide ((0 : Int) ≤ (r.getD (i : Int).toNat default).2) && decide ((r.getD (i : Int).toNat default).2 ≤ 1000000000))) ||
 (decide ((0 : Int) < (i : Int)) && !sLt (r.getD ((i : Int) - 1).toNat default).1 (r.getD (i : Int).toNat default).1)
theorem b8E (r : a0y) (i : Nat) : b2h r i = a4T r i := by unfold b2h a4T; rw [a8r]
theorem a7i {r : a0y}  : PFn Tryz.prog 120 [.agg [(.dv [] (a0w (r)))]] (.one (.dv [] (.bool (a1j r)))) := by
 refine ⟨a0v Tryz.func120 rfl Tryz.ntmps120 Tryz.results120 rfl (fun C => ?_)⟩
 refine yF 0 0 rfl rfl fun f0_0 => ?_
 iterate 12 refine z ?_
 refine a0X (ι := Nat) (fun zz => ⟨[(1, .box 1 0), (6, .one (.dv [] (a0w (r)))), (7, .one (.dv [] (.int .i64 ((((r)).length : Int))))), (8, .one (.dv [] (.int .i64 ((zz : Int)))))], [(1, 78, [(.dv [] (a0w (r)))])], []⟩) (fun zz => zz ≤ r.length ∧ (List.range zz).all (fun i => !a4T r i) = true) (fun zz => r.length - zz) (0) ?_ (a0e ⟨rfl, rfl, rfl, rfl, trivial⟩ ⟨rfl, trivial⟩ trivial rfl) (fun zz hx => ?_)
 ·exact ⟨Nat.zero_le _, rfl⟩
 obtain ⟨k, rfl⟩ : ∃ v, v = zz := ⟨_, rfl⟩
 replace hx : k ≤ r.length ∧ (List.range k).all (fun i => !a4T r i) = true := hx
 obtain ⟨hk, hall⟩ := hx
 show Ok _ _ _ _ _ (⟨[(1, .box 1 0), (6, .one (.dv [] (a0w (r)))), (7, .one (.dv [] (.int .i64 ((((r)).length : Int))))), (8, .one (.dv [] (.int .i64 ((k : Int)))))], [(1, 78, [(.dv [] (a0w (r)))])], []⟩ : St)
 iterate 3 refine z ?_
 refine a0q ?_
 refine yQ rfl (fun c1 => ?_) fun c1 => ?_
 ·have d1 := of_decide_eq_true c1
  iterate 12 refine z ?_
  refine a0q ?_
  refine a1M (oB := [1, 4]) (oK := []) (by kernel_rfl) rfl rfl ?_
  refine zD 0 ?_
  refine zD 1 ?_
  refine a3D 2 rfl (by kernel_rfl) rfl rfl rfl Tryz.call91 a8p (a0g (a0a rfl) (a0D a0c) a0m) rfl rfl rfl rfl ?_
  refine zD 3 ?_
  refine zD 4 ?_
  refine zDG 5 ?_
  refine zDG 6 ?_
  refine a4S 7 rfl (by kernel_rfl) (a1A rfl rfl rfl rfl rfl) rfl rfl Tryz.call92 a6Q (fun hg => (a0g (a0C rfl hg) (a0D a0c) (a0g (a0p (a0o rfl)) (a0D a0c) (a0g (a0p (a0o rfl)) (a0D a0c) a0m)))) rfl rfl ?_
  refine zDG 8 ?_
  refine zD 9 ?_
  refine zD 10 ?_
  refine zDG 11 ?_
  refine zDG 12 ?_
  refine zDG 13 ?_
  refine zDG 14 ?_
  refine zDG 15 ?_
  refine zDG 16 ?_
  refine zDG 17 ?_
  refine zDG 18 ?_
  refine zDG 19 ?_
  refine zDG 20 ?_
  refine zDG 21 ?_
  refine zDG 22 ?_
  refine zDG 23 ?_
  refine zDG 24 ?_
  refine zD 25 ?_
  refine a1J (by kernel_rfl) ?_
  refine z ?_
  refine yQ rfl (fun c2 => ?_) fun c2 => ?_
  ·iterate 10 refine z ?_
   rw [a1j, a7q (k := k) (by omega) (by have h : a4T r k = true := c2; simpa using h)]; rfl
  ·iterate 3 refine z ?_
   refine a0k ?_
   iterate 3 refine z ?_
   refine ⟨k + 1, ?_, ?_, a0e ⟨rfl, rfl, rfl, rfl, trivial⟩ ⟨rfl, trivial⟩ trivial rfl⟩
   ·exact ⟨by omega, a6k hall (by have h : a4T r k = false := c2; simpa using h)⟩
   ·omega
 ·have d1 := of_decide_eq_false c1
  iterate 14 refine z ?_
  obtain rfl : k = r.length := by omega
  rw [a1j, hall]; rfl
theorem a6g {r : a0y}  : PFn Tryz.prog 107 [.agg [(.dv [] (a0w (r)))]] (.one (.dv [] (.bool (a1j r)))) := by
 refine ⟨a0v Tryz.func107 rfl Tryz.ntmps107 Tryz.results107 rfl (fun C => ?_)⟩
 refine yF 0 0 rfl rfl fun f0_0 => ?_
 iterate 9 refine z ?_
 refine a0X (ι := Nat) (fun zz => ⟨[(1, .box 1 0), (3, .one (.dv [] (.int .i64 ((zz : Int)))))], [(1, 78, [(.dv [] (a0w (r)))])], []⟩) (fun zz => zz ≤ r.length ∧ (List.range zz).all (fun i => !a4T r i) = true) (fun zz => r.length - zz) (0) ?_ (a0e ⟨rfl, rfl, trivial⟩ ⟨rfl, trivial⟩ trivial rfl) (fun zz hx => ?_)
 ·exact ⟨Nat.zero_le _, rfl⟩
 obtain ⟨k, rfl⟩ : ∃ v, v = zz := ⟨_, rfl⟩
 replace hx : k ≤ r.length ∧ (List.range k).all (fun i => !a4T r i) = true := hx
 obtain ⟨hk, hall⟩ := hx
 show Ok _ _ _ _ _ (⟨[(1, .box 1 0), (3, .one (.dv [] (.int .i64 ((k : Int)))))], [(1, 78, [(.dv [] (a0w (r)))])], []⟩ : St)
 iterate 8 refine z ?_
 refine yQ rfl (fun c1 => ?_) fun c1 => ?_
 ·have d1 := of_decide_eq_true c1
  iterate 4 refine z ?_
  refine a0q ?_
  refine a1M (oB := [1]) (oK := []) (by kernel_rfl) rfl rfl ?_
  refine zD 0 ?_
  refine zD 1 ?_
  refine zD 2 ?_
  refine zD 3 ?_
  refine zD 4 ?_
  refine zD 5 ?_
  refine a3D 6 rfl (by kernel_rfl) rfl rfl rfl Tryz.call75 a8H (a0g (a0a rfl) (a0D a0c) a0m) rfl rfl rfl rfl ?_
  refine zD 7 ?_
  refine zD 8 ?_
  refine zDG 9 ?_
  refine zDG 10 ?_
  refine zDG 11 ?_
  refine zDG 12 ?_
  refine zDG 13 ?_
  refine zDG 14 ?_
  refine a4S 15 rfl (by kernel_rfl) (a1A rfl rfl rfl rfl rfl) rfl rfl Tryz.call77 a5U (fun hg => (a0g (a0C rfl hg) (a0D a0c) (a0g (a0p (a0o rfl)) (a0D a0c) (a0g (a0p (a0o rfl)) (a0D a0c) a0m)))) rfl rfl ?_
  refine zDG 16 ?_
  refine zD 17 ?_
  refine zD 18 ?_
  refine zDG 19 ?_
  refine zDG 20 ?_
  refine zDG 21 ?_
  refine zDG 22 ?_
  refine zDG 23 ?_
  refine zDG 24 ?_
  refine zDG 25 ?_
  refine zDG 26 ?_
  refine zDG 27 ?_
  refine zDG 28 ?_
  refine zDG 29 ?_
  refine zDG 30 ?_
  refine zDG 31 ?_
  refine zDG 32 ?_
  refine zDG 33 ?_
  refine zDG 34 ?_
  refine zDG 35 ?_
  refine zDG 36 ?_
  refine zD 37 ?_
  refine a1J (by kernel_rfl) ?_
  refine z ?_
  refine yQ rfl (fun c2 => ?_) fun c2 => ?_
  ·iterate 10 refine z ?_
   rw [a1j, a7q (k := k) (by omega) (by have h : b2h r k = true := c2; rw [b8E] at h; simpa using h)]; rfl
  ·iterate 3 refine z ?_
   refine a0k ?_
   iterate 4 refine z ?_
   refine ⟨k + 1, ?_, ?_, a0e ⟨rfl, rfl, trivial⟩ ⟨rfl, trivial⟩ trivial rfl⟩
   ·exact ⟨by omega, a6k hall (by have h : b2h r k = false := c2; rw [b8E] at h; simpa using h)⟩
   ·omega
 ·have d1 := of_decide_eq_false c1
  iterate 14 refine z ?_
  obtain rfl : k = r.length := by omega
  rw [a1j, hall]; rfl
def szR (left : Int) (w : Nat) : Int := if (w : Int) ≤ left then left - (w : Int) else -1
def wSum {α : Type} (w : α → Nat) (xs : List α) : Nat := (xs.map w).sum
def a1c {α : Type} (w : α → Nat) (xs : List α) : Nat := xs.length + wSum w xs
theorem b4X {α : Type} (w : α → Nat) (xs ys : List α) : wSum w (xs ++ ys) = wSum w xs + wSum w ys := by simp [wSum]
theorem a9j {α : Type} (w : α → Nat) (xs : List α) (k : Nat) : wSum w (xs.take k) ≤ wSum w xs := by
 have h := b4X w (xs.take k) (xs.drop k)
 rw [List.take_append_drop] at h
 omega
theorem a2T {α : Type} [Inhabited α] (w : α → Nat) (xs : List α) (k : Nat) (h : k < xs.length) : wSum w (xs.take (k + 1)) = wSum w (xs.take k) + w (xs.getD (k : Int).toNat default) ∧ wSum w (xs.take (k + 1)) ≤ wSum w xs := by
 refine ⟨?_, a9j w xs _⟩
 have : xs.take (k + 1) = xs.take k ++ [xs.getD k default] := by
  rw [List.take_add_one, List.getElem?_eq_getElem h]; simp [List.getD, List.getElem?_eq_getElem h]
 rw [this, b4X]
 simp [wSum]
theorem a4w {α : Type} (w : α → Nat) (xs : List α) (k : Nat) (h : xs.length ≤ k) : wSum w (xs.take k) = wSum w xs := by rw [List.take_of_length_le h]
theorem b1J {α : Type} (w : α → Nat) (xs : List α) : xs.length ≤ a1c w xs := by unfold a1c; omega
theorem a2q {l : Int} {w : Nat} (h : ¬ szR l w < 0) : (w : Int) ≤ l ∧ szR l w = l - w := by unfold szR at h ⊢; split at h <;> simp_all
theorem a2m {l : Int} {w : Nat} (h : szR l w < 0) (h0 : 0 ≤ l := by omega) : l < (w : Int) := by unfold szR at h; split at h <;> omega
theorem a1W (l : Int) (w : Nat) : ((w : Int) ≤ l ∧ szR l w = l - w) ∨ (l < w ∧ szR l w = -1) := by unfold szR; split <;> omega
def a3q (x : a0S) : Nat := (x.2.2).size
def a1S (x : a3c) : Nat := (x.1).size
def a2W (x : a0y) : Nat := a1c a1S (x)
def a1e (x : a0L) : Nat := a3q (x.1) + a2W (x.2)
def a0T (x : a0P) : Nat := (x.1).size + a1c a1e (x.2.1)
def a1s (x : a2V) : Nat := (x.1).size + (x.2).size
def a0Z (x : DbT) : Nat := (x.1).size + a1c a0T (x.2.2.1) + a1c a1s (x.2.2.2)
def wOp (x : OpT) : Nat := (x.2.1).size + a3q (x.2.2.1) + a2W (x.2.2.2.1) + (x.2.2.2.2).size
def wTx (x : TxT) : Nat := a1c wOp (x.2.1) + a1c a0T (x.2.2.2.2)
def a5o (x : List TxT) : Nat := a1c wTx (x)
theorem c3E {x : a0S} {left : Int} (h0 : 0 ≤ left) (h1 : left ≤ 1048576) : PFn Tryz.prog 155 [.agg [(.dv [] (.int .i64 (x.1))), (.dv [] (.int .i64 (x.2.1))), (.dv [] (.str (x.2.2)))], .one (.dv [] (.int .i64 (left)))] (.one (.dv [] (.int .i64 (szR (left) (a3q x))))) := by
 refine ⟨a0v Tryz.func155 rfl Tryz.ntmps155 Tryz.results155 rfl (fun C => ?_)⟩
 refine yF 0 0 rfl rfl fun f0_0 => ?_
 refine yF 0 1 rfl rfl fun f0_1 => ?_
 refine yF 0 2 rfl rfl fun f0_2 => ?_
 refine a0E (x := .tmp 1) (a0a rfl) fun f1 => ?_
 iterate 17 refine z ?_
 refine yQ rfl (fun c1 => ?_) fun c1 => ?_
 ·have d1 := of_decide_eq_true c1
  first | have q1 := a2m d1 | skip
  iterate 6 refine z ?_
  have hh := a1W left (a3q x); simp only [a3q] at hh ⊢ <;> omega
 ·have d1 := of_decide_eq_false c1
  first | have q1 := a2q d1 | skip
  iterate 8 refine z ?_
  have hh := a1W left (a3q x); simp only [a3q] at hh ⊢ <;> omega
theorem c7d {x : a3c} {left : Int} (h0 : 0 ≤ left) (h1 : left ≤ 1048576) : PFn Tryz.prog 173 [.agg [(.dv [] (.str (x.1))), (.dv [] (.int .i64 (x.2)))], .one (.dv [] (.int .i64 (left)))] (.one (.dv [] (.int .i64 (szR (left) (a1S x))))) := by
 refine ⟨a0v Tryz.func173 rfl Tryz.ntmps173 Tryz.results173 rfl (fun C => ?_)⟩
 refine yF 0 0 rfl rfl fun f0_0 => ?_
 refine yF 0 1 rfl rfl fun f0_1 => ?_
 refine a0E (x := .tmp 1) (a0a rfl) fun f1 => ?_
 iterate 17 refine z ?_
 refine yQ rfl (fun c1 => ?_) fun c1 => ?_
 ·have d1 := of_decide_eq_true c1
  first | have q1 := a2m d1 | skip
  iterate 6 refine z ?_
  have hh := a1W left (a1S x); simp only [a1S] at hh ⊢ <;> omega
 ·have d1 := of_decide_eq_false c1
  first | have q1 := a2q d1 | skip
  iterate 8 refine z ?_
  have hh := a1W left (a1S x); simp only [a1S] at hh ⊢ <;> omega
theorem c3A {x : List (a3c)} {left : Int} (h0 : 0 ≤ left) (h1 : left ≤ 1048576) : PFn Tryz.prog 167 [.one (.dv [] (a0w (x))), .one (.dv [] (.int .i64 (left)))] (.one (.dv [] (.int .i64 (szR (left) (a1c a1S x))))) := by
 refine ⟨a0v Tryz.func167 rfl Tryz.ntmps167 Tryz.results167 rfl (fun C => ?_)⟩
 refine a0E (x := .tmp 0) (a0a rfl) fun f0 => ?_
 refine a0E (x := .tmp 1) (a0a rfl) fun f1 => ?_
 iterate 15 refine z ?_
 refine yQ rfl (fun c1 => ?_) fun c1 => ?_
 ·have d1 := of_decide_eq_true c1
  first | have q1 := a2m d1 | skip
  iterate 6 refine z ?_
  have hh := a1W left (a1c a1S x); simp only [a1c] at hh ⊢ <;> omega
 ·have d1 := of_decide_eq_false c1
  first | have q1 := a2q d1 | skip
  iterate 7 refine z ?_
  refine a0X (ι := Nat × Int) (fun zz => ⟨[(0, .one (.dv [] (a0w (x)))), (1, .one (.dv [] (.int .i64 (zz.2)))), (5, .one (.dv [] (.int .i64 ((zz.1 : Int)))))], [], []⟩) (fun zz => zz.1 ≤ x.length ∧ 0 ≤ zz.2 ∧ zz.2 + (wSum a1S (x.take zz.1) : Int) = left - (x.length : Int)) (fun zz => x.length - zz.1) ((0, left - (x.length : Int))) ?_ (a0e ⟨rfl, rfl, rfl, trivial⟩ trivial trivial rfl) (fun zz hx => ?_)
  ·exact ⟨Nat.zero_le _, by omega, by simp [wSum]⟩
  obtain ⟨k, l⟩ := zz
  replace hx : k ≤ x.length ∧ 0 ≤ l ∧ l + (wSum a1S (x.take k) : Int) = left - (x.length : Int) := hx
  obtain ⟨hk, hl, he⟩ := hx
  have hw := fun h => a2T a1S x k h
  show Ok _ _ _ _ _ (⟨[(0, .one (.dv [] (a0w (x)))), (1, .one (.dv [] (.int .i64 (l)))), (5, .one (.dv [] (.int .i64 ((k : Int)))))], [], []⟩ : St)
  iterate 7 refine z ?_
  refine yQ rfl (fun c2 => ?_) fun c2 => ?_
  ·have d2 := of_decide_eq_true c2
   first | have q2 := a2m d2 | skip
   iterate 10 refine z ?_
   refine zC Tryz.call173 ?_ (hf := c7d (by omega) (by omega))
   iterate 6 refine z ?_
   refine yQ rfl (fun c3 => ?_) fun c3 => ?_
   ·have d3 := of_decide_eq_true c3
    first | have q3 := a2m d3 | skip
    iterate 10 refine z ?_
    have hw' := hw (by omega); have hh := a1W left (a1c a1S x); simp only [a1c] at hh ⊢ <;> omega
   ·have d3 := of_decide_eq_false c3
    first | have q3 := a2q d3 | skip
    iterate 3 refine z ?_
    refine a0k ?_
    iterate 4 refine z ?_
    refine ⟨(k + 1, szR l (a1S (x.getD (k : Int).toNat default))), ?_, ?_, a0e ⟨rfl, rfl, rfl, trivial⟩ trivial trivial rfl⟩
    ·have hw' := hw (by omega)
     dsimp only
     exact ⟨by omega, by omega, by omega⟩
    ·omega
  ·have d2 := of_decide_eq_false c2
   first | have q2 := a2q d2 | skip
   iterate 11 refine z ?_
   have hw' := a4w a1S x k (by omega); have hh := a1W left (a1c a1S x); simp only [a1c] at hh ⊢ <;> omega
theorem c2e {x : a0y} {left : Int} (h0 : 0 ≤ left) (h1 : left ≤ 1048576) : PFn Tryz.prog 156 [.agg [(.dv [] (a0w (x)))], .one (.dv [] (.int .i64 (left)))] (.one (.dv [] (.int .i64 (szR (left) (a2W x))))) := by
 refine ⟨a0v Tryz.func156 rfl Tryz.ntmps156 Tryz.results156 rfl (fun C => ?_)⟩
 refine yF 0 0 rfl rfl fun f0_0 => ?_
 refine a0E (x := .tmp 1) (a0a rfl) fun f1 => ?_
 iterate 8 refine z ?_
 refine zC Tryz.call167 ?_ (hf := c3A (by omega) (by omega))
 iterate 7 refine z ?_
 refine yQ rfl (fun c1 => ?_) fun c1 => ?_
 ·have d1 := of_decide_eq_true c1
  first | have q1 := a2m d1 | skip
  iterate 6 refine z ?_
  have hh := a1W left (a2W x); simp only [a2W] at hh ⊢ <;> omega
 ·have d1 := of_decide_eq_false c1
  first | have q1 := a2q d1 | skip
  iterate 8 refine z ?_
  have hh := a1W left (a2W x); simp only [a2W] at hh ⊢ <;> omega
theorem c0M {x : a0S}  : PFn Tryz.prog 157 [.agg [(.dv [] (.int .i64 (x.1))), (.dv [] (.int .i64 (x.2.1))), (.dv [] (.str (x.2.2)))]] (.agg [(.dv [] (.int .i64 (x.1))), (.dv [] (.int .i64 (x.2.1))), (.dv [] (.str (x.2.2)))]) := by
 refine ⟨a0v Tryz.func157 rfl Tryz.ntmps157 Tryz.results157 rfl (fun C => ?_)⟩
 refine yF 0 0 rfl rfl fun f0_0 => ?_
 refine yF 0 1 rfl rfl fun f0_1 => ?_
 refine yF 0 2 rfl rfl fun f0_2 => ?_
 iterate 30 refine z ?_
 refine a1p (a0F hT rfl rfl rfl rfl) ?_
 rfl
theorem c7z {x : a3c}  : PFn Tryz.prog 174 [.agg [(.dv [] (.str (x.1))), (.dv [] (.int .i64 (x.2)))]] (.agg [(.dv [] (.str (x.1))), (.dv [] (.int .i64 (x.2)))]) := by
 refine ⟨a0v Tryz.func174 rfl Tryz.ntmps174 Tryz.results174 rfl (fun C => ?_)⟩
 refine yF 0 0 rfl rfl fun f0_0 => ?_
 refine yF 0 1 rfl rfl fun f0_1 => ?_
 iterate 24 refine z ?_
 refine a1p (a0F hT rfl rfl rfl rfl) ?_
 rfl
theorem c2w {x : List (a3c)} (hb : a1c a1S x ≤ 1048576) : KFn Tryz.prog 168 [.one (.dv [] (a0w (x)))] (.one (.key 7)) [(7, some (a0b false (a0w (x))))] := by
 refine ⟨a0v Tryz.func168 rfl Tryz.ntmps168 Tryz.results168 rfl (fun C => ?_)⟩
 refine a0E (x := .tmp 0) (a0a rfl) fun f0 => ?_
 iterate 6 refine z ?_
 refine a9i (k := 7) (n := ((x)).length) (zd := [.str (ByteArray.empty), .int .i64 (0)]) (cs := a1Z a1d [.str (ByteArray.empty), .int .i64 (0)] x 0) hT rfl rfl rfl rfl rfl rfl (a0a rfl) (a0a rfl) rfl rfl rfl (by have := b1J a1S x; omega) rfl rfl a9L ?_
 iterate 7 refine z ?_
 refine a0X (ι := Nat) (fun zz => ⟨[(0, .one (.dv [] (a0w (x)))), (3, .one (.key 7)), (4, .one (.dv [] (.int .i64 ((zz : Int)))))], [], [(7, some (a0b false (.sl 128 2 ((x).length) (a1Z a1d [.str (ByteArray.empty), .int .i64 (0)] x zz))))]⟩) (fun zz => zz ≤ x.length) (fun zz => x.length - zz) (0) ?_ (a0e ⟨rfl, rfl, rfl, trivial⟩ trivial ⟨rfl, trivial⟩ rfl) (fun zz hx => ?_)
 ·exact Nat.zero_le _
 obtain ⟨k, rfl⟩ : ∃ v, v = zz := ⟨_, rfl⟩
 replace hx : k ≤ x.length := hx
 have hw := fun h => a2T a1S x k h
 have hw2 := a9j a1S x (k + 1)
 have hw3 : a1c a1S x = x.length + wSum a1S x := rfl
 show Ok _ _ _ _ _ (⟨[(0, .one (.dv [] (a0w (x)))), (3, .one (.key 7)), (4, .one (.dv [] (.int .i64 ((k : Int)))))], [], [(7, some (a0b false (.sl 128 2 ((x).length) (a1Z a1d [.str (ByteArray.empty), .int .i64 (0)] x k))))]⟩ : St)
 iterate 7 refine z ?_
 refine yQ rfl (fun c1 => ?_) fun c1 => ?_
 ·have d1 := of_decide_eq_true c1
  iterate 4 refine z ?_
  refine a0k ?_
  iterate 6 refine z ?_
  refine zC Tryz.call174 ?_ (hf := c7z)
  refine yO rfl rfl (a2v (i := k) hT rfl rfl rfl (a0a rfl) rfl (a0a rfl) rfl (by show _ < ((x).length); omega)) rfl ?_
  refine a3g (js := []) (cs := a1Z a1d [.str (ByteArray.empty), .int .i64 (0)] x (k + 1)) hT rfl rfl rfl rfl (a0a rfl) (a0a rfl) rfl rfl rfl rfl (a0t (a0W rfl) (a0t (a0W rfl) a1m rfl) rfl) (by decide) (by decide) rfl (by show _ ≤ List.length (a1Z a1d [.str (ByteArray.empty), .int .i64 (0)] x k); rw [b0t (sz := 2) (fun _ => rfl) rfl]; omega) (b0e (sz := 2) (fun _ => rfl) rfl (by omega) rfl) ?_
  simp only [a0l, a0j, SV.kill, CV.kill, kk, Nat.reduceBEq]
  refine a1t ?_
  iterate 2 refine z ?_
  refine a0k ?_
  iterate 4 refine z ?_
  refine ⟨k + 1, ?_, ?_, a0e ⟨rfl, rfl, rfl, trivial⟩ trivial ⟨rfl, trivial⟩ rfl⟩
  ·omega
  ·omega
 ·have d1 := of_decide_eq_false c1
  iterate 9 refine z ?_
  refine a0h (σ' := ⟨[(2, .one (.key 7))], [], [(7, some (a0b false (a0w (x))))]⟩) (a0e ⟨rfl, trivial⟩ trivial ⟨(congrArg (fun cs => some (some (KC.mk false 128 2 x.length cs))) (a9A (by omega))), trivial⟩ rfl) ?_
  refine z ?_
  refine a1p (a0i rfl) ?_
  exact ⟨rfl, rfl⟩
theorem c7j {x : a0y} (hb : a2W x ≤ 1048576) : KFn Tryz.prog 158 [.agg [(.dv [] (a0w (x)))]] (.agg [(.key 6007)]) [(6007, some (a0b false (a0w (x))))] := by
 refine ⟨a0v Tryz.func158 rfl Tryz.ntmps158 Tryz.results158 rfl (fun C => ?_)⟩
 refine yF 0 0 rfl rfl fun f0_0 => ?_
 iterate 10 refine z ?_
 refine zK 6000 Tryz.call168 ?_ (hf := c2w (by first | omega | (simp only [a3q, a1S, a2W, a1e, a0T, a1s, a0Z, wOp, wTx, a5o] at hb ⊢; omega) | (have hq := hw (by omega); omega)))
 iterate 7 refine z ?_
 refine a0h (σ' := ⟨[(2, .box 2 0)], [(2, 78, [(.key 6007)])], [(6007, some (a0b false (a0w (x))))]⟩) (a0e ⟨rfl, trivial⟩ ⟨rfl, trivial⟩ ⟨rfl, trivial⟩ rfl) ?_
 refine z ?_
 refine a1p (a0F hT rfl rfl rfl rfl) ?_
 exact ⟨rfl, rfl⟩
theorem c7X {x : a0S}  : PFn Tryz.prog 153 [.agg [(.dv [] (.int .i64 (x.1))), (.dv [] (.int .i64 (x.2.1))), (.dv [] (.str (x.2.2)))], .agg [(.dv [] (.int .i64 (x.1))), (.dv [] (.int .i64 (x.2.1))), (.dv [] (.str (x.2.2)))]] (.one (.dv [] (.bool (true)))) := by
 refine ⟨a0v Tryz.func153 rfl Tryz.ntmps153 Tryz.results153 rfl (fun C => ?_)⟩
 refine yF 0 0 rfl rfl fun f0_0 => ?_
 refine yF 0 1 rfl rfl fun f0_1 => ?_
 refine yF 0 2 rfl rfl fun f0_2 => ?_
 refine yF 1 0 rfl rfl fun f1_0 => ?_
 refine yF 1 1 rfl rfl fun f1_1 => ?_
 refine yF 1 2 rfl rfl fun f1_2 => ?_
 iterate 13 refine z ?_
 refine yQ rfl (fun c1 => ?_) fun c1 => ?_
 ·have d1 := a2D c1
  iterate 6 refine z ?_
  first | rfl | (exfalso; simp_all [sEq])
 ·have d1 := a2E c1
  iterate 10 refine z ?_
  refine yQ rfl (fun c2 => ?_) fun c2 => ?_
  ·have d2 := a2D c2
   iterate 6 refine z ?_
   first | rfl | (exfalso; simp_all [sEq])
  ·have d2 := a2E c2
   iterate 10 refine z ?_
   refine yQ rfl (fun c3 => ?_) fun c3 => ?_
   ·iterate 6 refine z ?_
    first | rfl | (exfalso; simp_all [sEq])
   ·iterate 7 refine z ?_
    first | rfl | (exfalso; simp_all [sEq])
theorem c0O {x : a3c}  : PFn Tryz.prog 172 [.agg [(.dv [] (.str (x.1))), (.dv [] (.int .i64 (x.2)))], .agg [(.dv [] (.str (x.1))), (.dv [] (.int .i64 (x.2)))]] (.one (.dv [] (.bool (true)))) := by
 refine ⟨a0v Tryz.func172 rfl Tryz.ntmps172 Tryz.results172 rfl (fun C => ?_)⟩
 refine yF 0 0 rfl rfl fun f0_0 => ?_
 refine yF 0 1 rfl rfl fun f0_1 => ?_
 refine yF 1 0 rfl rfl fun f1_0 => ?_
 refine yF 1 1 rfl rfl fun f1_1 => ?_
 iterate 13 refine z ?_
 refine yQ rfl (fun c1 => ?_) fun c1 => ?_
 ·iterate 6 refine z ?_
  first | rfl | (exfalso; simp_all [sEq])
 ·iterate 10 refine z ?_
  refine yQ rfl (fun c2 => ?_) fun c2 => ?_
  ·have d2 := a2D c2
   iterate 6 refine z ?_
   first | rfl | (exfalso; simp_all [sEq])
  ·have d2 := a2E c2
   iterate 7 refine z ?_
   first | rfl | (exfalso; simp_all [sEq])
theorem c7E {x : List (a3c)}  : PFn Tryz.prog 166 [.one (.dv [] (a0w (x))), .one (.dv [] (a0w (x)))] (.one (.dv [] (.bool (true)))) := by
 refine ⟨a0v Tryz.func166 rfl Tryz.ntmps166 Tryz.results166 rfl (fun C => ?_)⟩
 refine a0E (x := .tmp 0) (a0a rfl) fun f0 => ?_
 refine a0E (x := .tmp 1) (a0a rfl) fun f1 => ?_
 iterate 11 refine z ?_
 refine yQ rfl (fun c1 => ?_) fun c1 => ?_
 ·have d1 := a2D c1
  iterate 6 refine z ?_
  first | rfl | (exfalso; simp_all [sEq])
 ·have d1 := a2E c1
  iterate 7 refine z ?_
  refine a0X (ι := Nat) (fun zz => ⟨[(0, .one (.dv [] (a0w (x)))), (1, .one (.dv [] (a0w (x)))), (5, .one (.dv [] (.int .i64 ((zz : Int)))))], [], []⟩) (fun zz => zz ≤ x.length) (fun zz => x.length - zz) (0) ?_ (a0e ⟨rfl, rfl, rfl, trivial⟩ trivial trivial rfl) (fun zz hx => ?_)
  ·exact Nat.zero_le _
  obtain ⟨k, rfl⟩ : ∃ v, v = zz := ⟨_, rfl⟩
  replace hx : k ≤ x.length := hx
  show Ok _ _ _ _ _ (⟨[(0, .one (.dv [] (a0w (x)))), (1, .one (.dv [] (a0w (x)))), (5, .one (.dv [] (.int .i64 ((k : Int)))))], [], []⟩ : St)
  iterate 7 refine z ?_
  refine yQ rfl (fun c2 => ?_) fun c2 => ?_
  ·have d2 := of_decide_eq_true c2
   iterate 4 refine z ?_
   refine a0q ?_
   refine a1M (oB := []) (oK := []) (by kernel_rfl) rfl rfl ?_
   refine zD 0 ?_
   refine zD 1 ?_
   refine zD 2 ?_
   refine zD 3 ?_
   refine zD 4 ?_
   refine zD 5 ?_
   refine zD 6 ?_
   refine zD 7 ?_
   refine a3D 8 rfl (by kernel_rfl) rfl rfl rfl Tryz.call172 c0O (a0g (a0a rfl) (a0s (a0d a0c (a0d a0c a0r))) (a0g (a0a rfl) (a0s (a0d a0c (a0d a0c a0r))) a0m)) rfl rfl rfl rfl ?_
   refine zD 9 ?_
   refine a1J (by kernel_rfl) ?_
   refine z ?_
   refine yQ rfl (fun c3 => ?_) fun c3 => ?_
   ·iterate 10 refine z ?_
    first | rfl | (exfalso; simp_all [sEq])
   ·iterate 3 refine z ?_
    refine a0k ?_
    iterate 4 refine z ?_
    refine ⟨k + 1, ?_, ?_, a0e ⟨rfl, rfl, rfl, trivial⟩ trivial trivial rfl⟩
    ·omega
    ·omega
  ·have d2 := of_decide_eq_false c2
   iterate 10 refine z ?_
   first | rfl | (exfalso; simp_all [sEq])
theorem c4a {x : a0y}  : PFn Tryz.prog 154 [.agg [(.dv [] (a0w (x)))], .agg [(.dv [] (a0w (x)))]] (.one (.dv [] (.bool (true)))) := by
 refine ⟨a0v Tryz.func154 rfl Tryz.ntmps154 Tryz.results154 rfl (fun C => ?_)⟩
 refine yF 0 0 rfl rfl fun f0_0 => ?_
 refine yF 1 0 rfl rfl fun f1_0 => ?_
 iterate 11 refine z ?_
 refine zC Tryz.call166 ?_ (hf := c7E)
 iterate 2 refine z ?_
 refine yQ rfl (fun c1 => ?_) fun c1 => ?_
 ·iterate 6 refine z ?_
  first | rfl | (exfalso; simp_all [sEq])
 ·iterate 7 refine z ?_
  first | rfl | (exfalso; simp_all [sEq])
theorem c7m {x : a0L} {left : Int} (h0 : 0 ≤ left) (h1 : left ≤ 1048576) : PFn Tryz.prog 134 [.agg [(.dv [] (.int .i64 (x.1.1))), (.dv [] (.int .i64 (x.1.2.1))), (.dv [] (.str (x.1.2.2))), (.dv [] (a0w (x.2)))], .one (.dv [] (.int .i64 (left)))] (.one (.dv [] (.int .i64 (szR (left) (a1e x))))) := by
 refine ⟨a0v Tryz.func134 rfl Tryz.ntmps134 Tryz.results134 rfl (fun C => ?_)⟩
 refine yF 0 0 rfl rfl fun f0_0 => ?_
 refine yF 0 1 rfl rfl fun f0_1 => ?_
 refine yF 0 2 rfl rfl fun f0_2 => ?_
 refine yF 0 3 rfl rfl fun f0_3 => ?_
 refine a0E (x := .tmp 1) (a0a rfl) fun f1 => ?_
 iterate 8 refine z ?_
 refine zC Tryz.call155 ?_ (hf := c3E (by omega) (by omega))
 iterate 7 refine z ?_
 refine yQ rfl (fun c1 => ?_) fun c1 => ?_
 ·have d1 := of_decide_eq_true c1
  first | have q1 := a2m d1 | skip
  iterate 6 refine z ?_
  have hh := a1W left (a1e x); simp only [a1e] at hh ⊢ <;> omega
 ·have d1 := of_decide_eq_false c1
  first | have q1 := a2q d1 | skip
  iterate 6 refine z ?_
  refine zC Tryz.call156 ?_ (hf := c2e (by omega) (by omega))
  iterate 7 refine z ?_
  refine yQ rfl (fun c2 => ?_) fun c2 => ?_
  ·have d2 := of_decide_eq_true c2
   first | have q2 := a2m d2 | skip
   iterate 6 refine z ?_
   have hh := a1W left (a1e x); simp only [a1e] at hh ⊢ <;> omega
  ·have d2 := of_decide_eq_false c2
   first | have q2 := a2q d2 | skip
   iterate 8 refine z ?_
   have hh := a1W left (a1e x); simp only [a1e] at hh ⊢ <;> omega
theorem c1c {x : List (a0L)} {left : Int} (h0 : 0 ≤ left) (h1 : left ≤ 1048576) : PFn Tryz.prog 102 [.one (.dv [] (a0n (x))), .one (.dv [] (.int .i64 (left)))] (.one (.dv [] (.int .i64 (szR (left) (a1c a1e x))))) := by
 refine ⟨a0v Tryz.func102 rfl Tryz.ntmps102 Tryz.results102 rfl (fun C => ?_)⟩
 refine a0E (x := .tmp 0) (a0a rfl) fun f0 => ?_
 refine a0E (x := .tmp 1) (a0a rfl) fun f1 => ?_
 iterate 15 refine z ?_
 refine yQ rfl (fun c1 => ?_) fun c1 => ?_
 ·have d1 := of_decide_eq_true c1
  first | have q1 := a2m d1 | skip
  iterate 6 refine z ?_
  have hh := a1W left (a1c a1e x); simp only [a1c] at hh ⊢ <;> omega
 ·have d1 := of_decide_eq_false c1
  first | have q1 := a2q d1 | skip
  iterate 7 refine z ?_
  refine a0X (ι := Nat × Int) (fun zz => ⟨[(0, .one (.dv [] (a0n (x)))), (1, .one (.dv [] (.int .i64 (zz.2)))), (5, .one (.dv [] (.int .i64 ((zz.1 : Int)))))], [], []⟩) (fun zz => zz.1 ≤ x.length ∧ 0 ≤ zz.2 ∧ zz.2 + (wSum a1e (x.take zz.1) : Int) = left - (x.length : Int)) (fun zz => x.length - zz.1) ((0, left - (x.length : Int))) ?_ (a0e ⟨rfl, rfl, rfl, trivial⟩ trivial trivial rfl) (fun zz hx => ?_)
  ·exact ⟨Nat.zero_le _, by omega, by simp [wSum]⟩
  obtain ⟨k, l⟩ := zz
  replace hx : k ≤ x.length ∧ 0 ≤ l ∧ l + (wSum a1e (x.take k) : Int) = left - (x.length : Int) := hx
  obtain ⟨hk, hl, he⟩ := hx
  have hw := fun h => a2T a1e x k h
  show Ok _ _ _ _ _ (⟨[(0, .one (.dv [] (a0n (x)))), (1, .one (.dv [] (.int .i64 (l)))), (5, .one (.dv [] (.int .i64 ((k : Int)))))], [], []⟩ : St)
  iterate 7 refine z ?_
  refine yQ rfl (fun c2 => ?_) fun c2 => ?_
  ·have d2 := of_decide_eq_true c2
   first | have q2 := a2m d2 | skip
   iterate 10 refine z ?_
   refine zC Tryz.call134 ?_ (hf := c7m (by omega) (by omega))
   iterate 6 refine z ?_
   refine yQ rfl (fun c3 => ?_) fun c3 => ?_
   ·have d3 := of_decide_eq_true c3
    first | have q3 := a2m d3 | skip
    iterate 10 refine z ?_
    have hw' := hw (by omega); have hh := a1W left (a1c a1e x); simp only [a1c] at hh ⊢ <;> omega
   ·have d3 := of_decide_eq_false c3
    first | have q3 := a2q d3 | skip
    iterate 3 refine z ?_
    refine a0k ?_
    iterate 4 refine z ?_
    refine ⟨(k + 1, szR l (a1e (x.getD (k : Int).toNat default))), ?_, ?_, a0e ⟨rfl, rfl, rfl, trivial⟩ trivial trivial rfl⟩
    ·have hw' := hw (by omega)
     dsimp only
     exact ⟨by omega, by omega, by omega⟩
    ·omega
  ·have d2 := of_decide_eq_false c2
   first | have q2 := a2q d2 | skip
   iterate 11 refine z ?_
   have hw' := a4w a1e x k (by omega); have hh := a1W left (a1c a1e x); simp only [a1c] at hh ⊢ <;> omega
theorem c7U {x : a0P} {left : Int} (h0 : 0 ≤ left) (h1 : left ≤ 1048576) : PFn Tryz.prog 61 [.agg [(.dv [] (.str (x.1))), (.dv [] (a0n (x.2.1))), (.dv [] (.int .i64 (x.2.2)))], .one (.dv [] (.int .i64 (left)))] (.one (.dv [] (.int .i64 (szR (left) (a0T x))))) := by
 refine ⟨a0v Tryz.func61 rfl Tryz.ntmps61 Tryz.results61 rfl (fun C => ?_)⟩
 refine yF 0 0 rfl rfl fun f0_0 => ?_
 refine yF 0 1 rfl rfl fun f0_1 => ?_
 refine yF 0 2 rfl rfl fun f0_2 => ?_
 refine a0E (x := .tmp 1) (a0a rfl) fun f1 => ?_
 iterate 17 refine z ?_
 refine yQ rfl (fun c1 => ?_) fun c1 => ?_
 ·have d1 := of_decide_eq_true c1
  first | have q1 := a2m d1 | skip
  iterate 6 refine z ?_
  have hh := a1W left (a0T x); simp only [a0T] at hh ⊢ <;> omega
 ·have d1 := of_decide_eq_false c1
  first | have q1 := a2q d1 | skip
  iterate 6 refine z ?_
  refine zC Tryz.call102 ?_ (hf := c1c (by omega) (by omega))
  iterate 7 refine z ?_
  refine yQ rfl (fun c2 => ?_) fun c2 => ?_
  ·have d2 := of_decide_eq_true c2
   first | have q2 := a2m d2 | skip
   iterate 6 refine z ?_
   have hh := a1W left (a0T x); simp only [a0T] at hh ⊢ <;> omega
  ·have d2 := of_decide_eq_false c2
   first | have q2 := a2q d2 | skip
   iterate 8 refine z ?_
   have hh := a1W left (a0T x); simp only [a0T] at hh ⊢ <;> omega
theorem c2Z {x : a0L} (hb : a1e x ≤ 1048576) : KFn Tryz.prog 140 [.agg [(.dv [] (.int .i64 (x.1.1))), (.dv [] (.int .i64 (x.1.2.1))), (.dv [] (.str (x.1.2.2))), (.dv [] (a0w (x.2)))]] (.agg [(.dv [] (.int .i64 (x.1.1))), (.dv [] (.int .i64 (x.1.2.1))), (.dv [] (.str (x.1.2.2))), (.key 16007)]) [(16007, some (a0b false (a0w (x.2))))] := by
 refine ⟨a0v Tryz.func140 rfl Tryz.ntmps140 Tryz.results140 rfl (fun C => ?_)⟩
 refine yF 0 0 rfl rfl fun f0_0 => ?_
 refine yF 0 1 rfl rfl fun f0_1 => ?_
 refine yF 0 2 rfl rfl fun f0_2 => ?_
 refine yF 0 3 rfl rfl fun f0_3 => ?_
 iterate 10 refine z ?_
 refine zC Tryz.call157 ?_ (hf := c0M)
 iterate 6 refine z ?_
 refine zK 10000 Tryz.call158 ?_ (hf := c7j (by first | omega | (simp only [a3q, a1S, a2W, a1e, a0T, a1s, a0Z, wOp, wTx, a5o] at hb ⊢; omega) | (have hq := hw (by omega); omega)))
 iterate 7 refine z ?_
 refine a0h (σ' := ⟨[(2, .box 2 0)], [(2, 107, [(.dv [] (.int .i64 (x.1.1))), (.dv [] (.int .i64 (x.1.2.1))), (.dv [] (.str (x.1.2.2))), (.key 16007)])], [(16007, some (a0b false (a0w (x.2))))]⟩) (a0e ⟨rfl, trivial⟩ ⟨rfl, trivial⟩ ⟨rfl, trivial⟩ rfl) ?_
 refine z ?_
 refine a1p (a0F hT rfl rfl rfl rfl) ?_
 exact ⟨rfl, rfl⟩
theorem c7b {x : List (a0L)} (hb : a1c a1e x ≤ 1048576) : KFn Tryz.prog 116 [.one (.dv [] (a0n (x)))] (.one (.key 7)) [(7, some (a0b false (a0n (x))))] := by
 refine ⟨a0v Tryz.func116 rfl Tryz.ntmps116 Tryz.results116 rfl (fun C => ?_)⟩
 refine a0E (x := .tmp 0) (a0a rfl) fun f0 => ?_
 iterate 6 refine z ?_
 refine a9i (k := 7) (n := ((x)).length) (zd := [.int .i64 (0), .int .i64 (0), .str (ByteArray.empty), .sl 128 2 0 []]) (cs := a1Z a0A [.int .i64 (0), .int .i64 (0), .str (ByteArray.empty), .sl 128 2 0 []] x 0) hT rfl rfl rfl rfl rfl rfl (a0a rfl) (a0a rfl) rfl rfl rfl (by have := b1J a1e x; omega) rfl rfl a9L ?_
 iterate 7 refine z ?_
 refine a0X (ι := Nat) (fun zz => ⟨[(0, .one (.dv [] (a0n (x)))), (3, .one (.key 7)), (4, .one (.dv [] (.int .i64 ((zz : Int)))))], [], [(7, some (a0b false (.sl 107 4 ((x).length) (a1Z a0A [.int .i64 (0), .int .i64 (0), .str (ByteArray.empty), .sl 128 2 0 []] x zz))))]⟩) (fun zz => zz ≤ x.length) (fun zz => x.length - zz) (0) ?_ (a0e ⟨rfl, rfl, rfl, trivial⟩ trivial ⟨rfl, trivial⟩ rfl) (fun zz hx => ?_)
 ·exact Nat.zero_le _
 obtain ⟨k, rfl⟩ : ∃ v, v = zz := ⟨_, rfl⟩
 replace hx : k ≤ x.length := hx
 have hw := fun h => a2T a1e x k h
 have hw2 := a9j a1e x (k + 1)
 have hw3 : a1c a1e x = x.length + wSum a1e x := rfl
 show Ok _ _ _ _ _ (⟨[(0, .one (.dv [] (a0n (x)))), (3, .one (.key 7)), (4, .one (.dv [] (.int .i64 ((k : Int)))))], [], [(7, some (a0b false (.sl 107 4 ((x).length) (a1Z a0A [.int .i64 (0), .int .i64 (0), .str (ByteArray.empty), .sl 128 2 0 []] x k))))]⟩ : St)
 iterate 7 refine z ?_
 refine yQ rfl (fun c1 => ?_) fun c1 => ?_
 ·have d1 := of_decide_eq_true c1
  iterate 4 refine z ?_
  refine a0k ?_
  iterate 6 refine z ?_
  refine zK 20000 Tryz.call140 ?_ (hf := c2Z (by first | omega | (simp only [a3q, a1S, a2W, a1e, a0T, a1s, a0Z, wOp, wTx, a5o] at hb ⊢; omega) | (have hq := hw (by omega); omega)))
  refine yO rfl rfl (a2v (i := k) hT rfl rfl rfl (a0a rfl) rfl (a0a rfl) rfl (by show _ < ((x).length); omega)) rfl ?_
  refine a3g (js := [36007]) (cs := a1Z a0A [.int .i64 (0), .int .i64 (0), .str (ByteArray.empty), .sl 128 2 0 []] x (k + 1)) hT rfl rfl rfl rfl (a0a rfl) (a0a rfl) rfl rfl rfl rfl (a0t (a0W rfl) (a0t (a0W rfl) (a0t (a0W rfl) (a0t (a1i rfl) a1m rfl) rfl) rfl) rfl) (by decide) (by decide) rfl (by show _ ≤ List.length (a1Z a0A [.int .i64 (0), .int .i64 (0), .str (ByteArray.empty), .sl 128 2 0 []] x k); rw [b0t (sz := 4) (fun _ => rfl) rfl]; omega) (b0e (sz := 4) (fun _ => rfl) rfl (by omega) rfl) ?_
  simp only [a0l, a0j, SV.kill, CV.kill, kk, Nat.reduceBEq]
  refine a1t ?_
  iterate 2 refine z ?_
  refine a0k ?_
  iterate 4 refine z ?_
  refine ⟨k + 1, ?_, ?_, a0e ⟨rfl, rfl, rfl, trivial⟩ trivial ⟨rfl, trivial⟩ rfl⟩
  ·omega
  ·omega
 ·have d1 := of_decide_eq_false c1
  iterate 9 refine z ?_
  refine a0h (σ' := ⟨[(2, .one (.key 7))], [], [(7, some (a0b false (a0n (x))))]⟩) (a0e ⟨rfl, trivial⟩ trivial ⟨(congrArg (fun cs => some (some (KC.mk false 107 4 x.length cs))) (a9A (by omega))), trivial⟩ rfl) ?_
  refine z ?_
  refine a1p (a0i rfl) ?_
  exact ⟨rfl, rfl⟩
theorem c4f {x : a0P} (hb : a0T x ≤ 1048576) : KFn Tryz.prog 79 [.agg [(.dv [] (.str (x.1))), (.dv [] (a0n (x.2.1))), (.dv [] (.int .i64 (x.2.2)))]] (.agg [(.dv [] (.str (x.1))), (.key 9007), (.dv [] (.int .i64 (x.2.2)))]) [(9007, some (a0b false (a0n (x.2.1))))] := by
 refine ⟨a0v Tryz.func79 rfl Tryz.ntmps79 Tryz.results79 rfl (fun C => ?_)⟩
 refine yF 0 0 rfl rfl fun f0_0 => ?_
 refine yF 0 1 rfl rfl fun f0_1 => ?_
 refine yF 0 2 rfl rfl fun f0_2 => ?_
 iterate 16 refine z ?_
 refine zK 9000 Tryz.call116 ?_ (hf := c7b (by first | omega | (simp only [a3q, a1S, a2W, a1e, a0T, a1s, a0Z, wOp, wTx, a5o] at hb ⊢; omega) | (have hq := hw (by omega); omega)))
 iterate 13 refine z ?_
 refine a0h (σ' := ⟨[(2, .box 2 0)], [(2, 67, [(.dv [] (.str (x.1))), (.key 9007), (.dv [] (.int .i64 (x.2.2)))])], [(9007, some (a0b false (a0n (x.2.1))))]⟩) (a0e ⟨rfl, trivial⟩ ⟨rfl, trivial⟩ ⟨rfl, trivial⟩ rfl) ?_
 refine z ?_
 refine a1p (a0F hT rfl rfl rfl rfl) ?_
 exact ⟨rfl, rfl⟩
theorem c6D {x : a0L}  : PFn Tryz.prog 133 [.agg [(.dv [] (.int .i64 (x.1.1))), (.dv [] (.int .i64 (x.1.2.1))), (.dv [] (.str (x.1.2.2))), (.dv [] (a0w (x.2)))], .agg [(.dv [] (.int .i64 (x.1.1))), (.dv [] (.int .i64 (x.1.2.1))), (.dv [] (.str (x.1.2.2))), (.dv [] (a0w (x.2)))]] (.one (.dv [] (.bool (true)))) := by
 refine ⟨a0v Tryz.func133 rfl Tryz.ntmps133 Tryz.results133 rfl (fun C => ?_)⟩
 refine yF 0 0 rfl rfl fun f0_0 => ?_
 refine yF 0 1 rfl rfl fun f0_1 => ?_
 refine yF 0 2 rfl rfl fun f0_2 => ?_
 refine yF 0 3 rfl rfl fun f0_3 => ?_
 refine yF 1 0 rfl rfl fun f1_0 => ?_
 refine yF 1 1 rfl rfl fun f1_1 => ?_
 refine yF 1 2 rfl rfl fun f1_2 => ?_
 refine yF 1 3 rfl rfl fun f1_3 => ?_
 iterate 11 refine z ?_
 refine zC Tryz.call153 ?_ (hf := c7X)
 iterate 2 refine z ?_
 refine yQ rfl (fun c1 => ?_) fun c1 => ?_
 ·iterate 6 refine z ?_
  first | rfl | (exfalso; simp_all [sEq])
 ·iterate 8 refine z ?_
  refine zC Tryz.call154 ?_ (hf := c4a)
  iterate 2 refine z ?_
  refine yQ rfl (fun c2 => ?_) fun c2 => ?_
  ·iterate 6 refine z ?_
   first | rfl | (exfalso; simp_all [sEq])
  ·iterate 7 refine z ?_
   first | rfl | (exfalso; simp_all [sEq])
theorem c2v {x : List (a0L)}  : PFn Tryz.prog 99 [.one (.dv [] (a0n (x))), .one (.dv [] (a0n (x)))] (.one (.dv [] (.bool (true)))) := by
 refine ⟨a0v Tryz.func99 rfl Tryz.ntmps99 Tryz.results99 rfl (fun C => ?_)⟩
 refine a0E (x := .tmp 0) (a0a rfl) fun f0 => ?_
 refine a0E (x := .tmp 1) (a0a rfl) fun f1 => ?_
 iterate 11 refine z ?_
 refine yQ rfl (fun c1 => ?_) fun c1 => ?_
 ·have d1 := a2D c1
  iterate 6 refine z ?_
  first | rfl | (exfalso; simp_all [sEq])
 ·have d1 := a2E c1
  iterate 7 refine z ?_
  refine a0X (ι := Nat) (fun zz => ⟨[(0, .one (.dv [] (a0n (x)))), (1, .one (.dv [] (a0n (x)))), (5, .one (.dv [] (.int .i64 ((zz : Int)))))], [], []⟩) (fun zz => zz ≤ x.length) (fun zz => x.length - zz) (0) ?_ (a0e ⟨rfl, rfl, rfl, trivial⟩ trivial trivial rfl) (fun zz hx => ?_)
  ·exact Nat.zero_le _
  obtain ⟨k, rfl⟩ : ∃ v, v = zz := ⟨_, rfl⟩
  replace hx : k ≤ x.length := hx
  show Ok _ _ _ _ _ (⟨[(0, .one (.dv [] (a0n (x)))), (1, .one (.dv [] (a0n (x)))), (5, .one (.dv [] (.int .i64 ((k : Int)))))], [], []⟩ : St)
  iterate 7 refine z ?_
  refine yQ rfl (fun c2 => ?_) fun c2 => ?_
  ·have d2 := of_decide_eq_true c2
   iterate 4 refine z ?_
   refine a0q ?_
   refine a1M (oB := []) (oK := []) (by kernel_rfl) rfl rfl ?_
   refine zD 0 ?_
   refine zD 1 ?_
   refine zD 2 ?_
   refine zD 3 ?_
   refine zD 4 ?_
   refine zD 5 ?_
   refine zD 6 ?_
   refine zD 7 ?_
   refine a3D 8 rfl (by kernel_rfl) rfl rfl rfl Tryz.call133 c6D (a0g (a0a rfl) (a0s (a0d a0c (a0d a0c (a0d a0c (a0d a0c a0r))))) (a0g (a0a rfl) (a0s (a0d a0c (a0d a0c (a0d a0c (a0d a0c a0r))))) a0m)) rfl rfl rfl rfl ?_
   refine zD 9 ?_
   refine a1J (by kernel_rfl) ?_
   refine z ?_
   refine yQ rfl (fun c3 => ?_) fun c3 => ?_
   ·iterate 10 refine z ?_
    first | rfl | (exfalso; simp_all [sEq])
   ·iterate 3 refine z ?_
    refine a0k ?_
    iterate 4 refine z ?_
    refine ⟨k + 1, ?_, ?_, a0e ⟨rfl, rfl, rfl, trivial⟩ trivial trivial rfl⟩
    ·omega
    ·omega
  ·have d2 := of_decide_eq_false c2
   iterate 10 refine z ?_
   first | rfl | (exfalso; simp_all [sEq])
theorem c5P {x : a0P}  : PFn Tryz.prog 56 [.agg [(.dv [] (.str (x.1))), (.dv [] (a0n (x.2.1))), (.dv [] (.int .i64 (x.2.2)))], .agg [(.dv [] (.str (x.1))), (.dv [] (a0n (x.2.1))), (.dv [] (.int .i64 (x.2.2)))]] (.one (.dv [] (.bool (true)))) := by
 refine ⟨a0v Tryz.func56 rfl Tryz.ntmps56 Tryz.results56 rfl (fun C => ?_)⟩
 refine yF 0 0 rfl rfl fun f0_0 => ?_
 refine yF 0 1 rfl rfl fun f0_1 => ?_
 refine yF 0 2 rfl rfl fun f0_2 => ?_
 refine yF 1 0 rfl rfl fun f1_0 => ?_
 refine yF 1 1 rfl rfl fun f1_1 => ?_
 refine yF 1 2 rfl rfl fun f1_2 => ?_
 iterate 13 refine z ?_
 refine yQ rfl (fun c1 => ?_) fun c1 => ?_
 ·iterate 6 refine z ?_
  first | rfl | (exfalso; simp_all [sEq])
 ·iterate 8 refine z ?_
  refine zC Tryz.call99 ?_ (hf := c2v)
  iterate 2 refine z ?_
  refine yQ rfl (fun c2 => ?_) fun c2 => ?_
  ·iterate 6 refine z ?_
   first | rfl | (exfalso; simp_all [sEq])
  ·iterate 10 refine z ?_
   refine yQ rfl (fun c3 => ?_) fun c3 => ?_
   ·have d3 := a2D c3
    iterate 6 refine z ?_
    first | rfl | (exfalso; simp_all [sEq])
   ·have d3 := a2E c3
    iterate 7 refine z ?_
    first | rfl | (exfalso; simp_all [sEq])
theorem c2n {x : List (a0P)} {left : Int} (h0 : 0 ≤ left) (h1 : left ≤ 1048576) : PFn Tryz.prog 33 [.one (.dv [] (a0z (x))), .one (.dv [] (.int .i64 (left)))] (.one (.dv [] (.int .i64 (szR (left) (a1c a0T x))))) := by
 refine ⟨a0v Tryz.func33 rfl Tryz.ntmps33 Tryz.results33 rfl (fun C => ?_)⟩
 refine a0E (x := .tmp 0) (a0a rfl) fun f0 => ?_
 refine a0E (x := .tmp 1) (a0a rfl) fun f1 => ?_
 iterate 15 refine z ?_
 refine yQ rfl (fun c1 => ?_) fun c1 => ?_
 ·have d1 := of_decide_eq_true c1
  first | have q1 := a2m d1 | skip
  iterate 6 refine z ?_
  have hh := a1W left (a1c a0T x); simp only [a1c] at hh ⊢ <;> omega
 ·have d1 := of_decide_eq_false c1
  first | have q1 := a2q d1 | skip
  iterate 7 refine z ?_
  refine a0X (ι := Nat × Int) (fun zz => ⟨[(0, .one (.dv [] (a0z (x)))), (1, .one (.dv [] (.int .i64 (zz.2)))), (5, .one (.dv [] (.int .i64 ((zz.1 : Int)))))], [], []⟩) (fun zz => zz.1 ≤ x.length ∧ 0 ≤ zz.2 ∧ zz.2 + (wSum a0T (x.take zz.1) : Int) = left - (x.length : Int)) (fun zz => x.length - zz.1) ((0, left - (x.length : Int))) ?_ (a0e ⟨rfl, rfl, rfl, trivial⟩ trivial trivial rfl) (fun zz hx => ?_)
  ·exact ⟨Nat.zero_le _, by omega, by simp [wSum]⟩
  obtain ⟨k, l⟩ := zz
  replace hx : k ≤ x.length ∧ 0 ≤ l ∧ l + (wSum a0T (x.take k) : Int) = left - (x.length : Int) := hx
  obtain ⟨hk, hl, he⟩ := hx
  have hw := fun h => a2T a0T x k h
  show Ok _ _ _ _ _ (⟨[(0, .one (.dv [] (a0z (x)))), (1, .one (.dv [] (.int .i64 (l)))), (5, .one (.dv [] (.int .i64 ((k : Int)))))], [], []⟩ : St)
  iterate 7 refine z ?_
  refine yQ rfl (fun c2 => ?_) fun c2 => ?_
  ·have d2 := of_decide_eq_true c2
   first | have q2 := a2m d2 | skip
   iterate 10 refine z ?_
   refine zC Tryz.call61 ?_ (hf := c7U (by omega) (by omega))
   iterate 6 refine z ?_
   refine yQ rfl (fun c3 => ?_) fun c3 => ?_
   ·have d3 := of_decide_eq_true c3
    first | have q3 := a2m d3 | skip
    iterate 10 refine z ?_
    have hw' := hw (by omega); have hh := a1W left (a1c a0T x); simp only [a1c] at hh ⊢ <;> omega
   ·have d3 := of_decide_eq_false c3
    first | have q3 := a2q d3 | skip
    iterate 3 refine z ?_
    refine a0k ?_
    iterate 4 refine z ?_
    refine ⟨(k + 1, szR l (a0T (x.getD (k : Int).toNat default))), ?_, ?_, a0e ⟨rfl, rfl, rfl, trivial⟩ trivial trivial rfl⟩
    ·have hw' := hw (by omega)
     dsimp only
     exact ⟨by omega, by omega, by omega⟩
    ·omega
  ·have d2 := of_decide_eq_false c2
   first | have q2 := a2q d2 | skip
   iterate 11 refine z ?_
   have hw' := a4w a0T x k (by omega); have hh := a1W left (a1c a0T x); simp only [a1c] at hh ⊢ <;> omega
theorem c2E {x : List (a0P)} (hb : a1c a0T x ≤ 1048576) : KFn Tryz.prog 44 [.one (.dv [] (a0z (x)))] (.one (.key 7)) [(7, some (a0b false (a0z (x))))] := by
 refine ⟨a0v Tryz.func44 rfl Tryz.ntmps44 Tryz.results44 rfl (fun C => ?_)⟩
 refine a0E (x := .tmp 0) (a0a rfl) fun f0 => ?_
 iterate 6 refine z ?_
 refine a9i (k := 7) (n := ((x)).length) (zd := [.str (ByteArray.empty), .sl 107 4 0 [], .int .i64 (0)]) (cs := a1Z a1n [.str (ByteArray.empty), .sl 107 4 0 [], .int .i64 (0)] x 0) hT rfl rfl rfl rfl rfl rfl (a0a rfl) (a0a rfl) rfl rfl rfl (by have := b1J a0T x; omega) rfl rfl a9L ?_
 iterate 7 refine z ?_
 refine a0X (ι := Nat) (fun zz => ⟨[(0, .one (.dv [] (a0z (x)))), (3, .one (.key 7)), (4, .one (.dv [] (.int .i64 ((zz : Int)))))], [], [(7, some (a0b false (.sl 67 3 ((x).length) (a1Z a1n [.str (ByteArray.empty), .sl 107 4 0 [], .int .i64 (0)] x zz))))]⟩) (fun zz => zz ≤ x.length) (fun zz => x.length - zz) (0) ?_ (a0e ⟨rfl, rfl, rfl, trivial⟩ trivial ⟨rfl, trivial⟩ rfl) (fun zz hx => ?_)
 ·exact Nat.zero_le _
 obtain ⟨k, rfl⟩ : ∃ v, v = zz := ⟨_, rfl⟩
 replace hx : k ≤ x.length := hx
 have hw := fun h => a2T a0T x k h
 have hw2 := a9j a0T x (k + 1)
 have hw3 : a1c a0T x = x.length + wSum a0T x := rfl
 show Ok _ _ _ _ _ (⟨[(0, .one (.dv [] (a0z (x)))), (3, .one (.key 7)), (4, .one (.dv [] (.int .i64 ((k : Int)))))], [], [(7, some (a0b false (.sl 67 3 ((x).length) (a1Z a1n [.str (ByteArray.empty), .sl 107 4 0 [], .int .i64 (0)] x k))))]⟩ : St)
 iterate 7 refine z ?_
 refine yQ rfl (fun c1 => ?_) fun c1 => ?_
 ·have d1 := of_decide_eq_true c1
  iterate 4 refine z ?_
  refine a0k ?_
  iterate 6 refine z ?_
  refine zK 20000 Tryz.call79 ?_ (hf := c4f (by first | omega | (simp only [a3q, a1S, a2W, a1e, a0T, a1s, a0Z, wOp, wTx, a5o] at hb ⊢; omega) | (have hq := hw (by omega); omega)))
  refine yO rfl rfl (a2v (i := k) hT rfl rfl rfl (a0a rfl) rfl (a0a rfl) rfl (by show _ < ((x).length); omega)) rfl ?_
  refine a3g (js := [29007]) (cs := a1Z a1n [.str (ByteArray.empty), .sl 107 4 0 [], .int .i64 (0)] x (k + 1)) hT rfl rfl rfl rfl (a0a rfl) (a0a rfl) rfl rfl rfl rfl (a0t (a0W rfl) (a0t (a1i rfl) (a0t (a0W rfl) a1m rfl) rfl) rfl) (by decide) (by decide) rfl (by show _ ≤ List.length (a1Z a1n [.str (ByteArray.empty), .sl 107 4 0 [], .int .i64 (0)] x k); rw [b0t (sz := 3) (fun _ => rfl) rfl]; omega) (b0e (sz := 3) (fun _ => rfl) rfl (by omega) rfl) ?_
  simp only [a0l, a0j, SV.kill, CV.kill, kk, Nat.reduceBEq]
  refine a1t ?_
  iterate 2 refine z ?_
  refine a0k ?_
  iterate 4 refine z ?_
  refine ⟨k + 1, ?_, ?_, a0e ⟨rfl, rfl, rfl, trivial⟩ trivial ⟨rfl, trivial⟩ rfl⟩
  ·omega
  ·omega
 ·have d1 := of_decide_eq_false c1
  iterate 9 refine z ?_
  refine a0h (σ' := ⟨[(2, .one (.key 7))], [], [(7, some (a0b false (a0z (x))))]⟩) (a0e ⟨rfl, trivial⟩ trivial ⟨(congrArg (fun cs => some (some (KC.mk false 67 3 x.length cs))) (a9A (by omega))), trivial⟩ rfl) ?_
  refine z ?_
  refine a1p (a0i rfl) ?_
  exact ⟨rfl, rfl⟩
theorem c6V {x : List (a0P)}  : PFn Tryz.prog 25 [.one (.dv [] (a0z (x))), .one (.dv [] (a0z (x)))] (.one (.dv [] (.bool (true)))) := by
 refine ⟨a0v Tryz.func25 rfl Tryz.ntmps25 Tryz.results25 rfl (fun C => ?_)⟩
 refine a0E (x := .tmp 0) (a0a rfl) fun f0 => ?_
 refine a0E (x := .tmp 1) (a0a rfl) fun f1 => ?_
 iterate 11 refine z ?_
 refine yQ rfl (fun c1 => ?_) fun c1 => ?_
 ·have d1 := a2D c1
  iterate 6 refine z ?_
  first | rfl | (exfalso; simp_all [sEq])
 ·have d1 := a2E c1
  iterate 7 refine z ?_
  refine a0X (ι := Nat) (fun zz => ⟨[(0, .one (.dv [] (a0z (x)))), (1, .one (.dv [] (a0z (x)))), (5, .one (.dv [] (.int .i64 ((zz : Int)))))], [], []⟩) (fun zz => zz ≤ x.length) (fun zz => x.length - zz) (0) ?_ (a0e ⟨rfl, rfl, rfl, trivial⟩ trivial trivial rfl) (fun zz hx => ?_)
  ·exact Nat.zero_le _
  obtain ⟨k, rfl⟩ : ∃ v, v = zz := ⟨_, rfl⟩
  replace hx : k ≤ x.length := hx
  show Ok _ _ _ _ _ (⟨[(0, .one (.dv [] (a0z (x)))), (1, .one (.dv [] (a0z (x)))), (5, .one (.dv [] (.int .i64 ((k : Int)))))], [], []⟩ : St)
  iterate 7 refine z ?_
  refine yQ rfl (fun c2 => ?_) fun c2 => ?_
  ·have d2 := of_decide_eq_true c2
   iterate 4 refine z ?_
   refine a0q ?_
   refine a1M (oB := []) (oK := []) (by kernel_rfl) rfl rfl ?_
   refine zD 0 ?_
   refine zD 1 ?_
   refine zD 2 ?_
   refine zD 3 ?_
   refine zD 4 ?_
   refine zD 5 ?_
   refine zD 6 ?_
   refine zD 7 ?_
   refine a3D 8 rfl (by kernel_rfl) rfl rfl rfl Tryz.call56 c5P (a0g (a0a rfl) (a0s (a0d a0c (a0d a0c (a0d a0c a0r)))) (a0g (a0a rfl) (a0s (a0d a0c (a0d a0c (a0d a0c a0r)))) a0m)) rfl rfl rfl rfl ?_
   refine zD 9 ?_
   refine a1J (by kernel_rfl) ?_
   refine z ?_
   refine yQ rfl (fun c3 => ?_) fun c3 => ?_
   ·iterate 10 refine z ?_
    first | rfl | (exfalso; simp_all [sEq])
   ·iterate 3 refine z ?_
    refine a0k ?_
    iterate 4 refine z ?_
    refine ⟨k + 1, ?_, ?_, a0e ⟨rfl, rfl, rfl, trivial⟩ trivial trivial rfl⟩
    ·omega
    ·omega
  ·have d2 := of_decide_eq_false c2
   iterate 10 refine z ?_
   first | rfl | (exfalso; simp_all [sEq])
theorem c1o {x : a2V} {left : Int} (h0 : 0 ≤ left) (h1 : left ≤ 1048576) : PFn Tryz.prog 62 [.agg [(.dv [] (.str (x.1))), (.dv [] (.str (x.2)))], .one (.dv [] (.int .i64 (left)))] (.one (.dv [] (.int .i64 (szR (left) (a1s x))))) := by
 refine ⟨a0v Tryz.func62 rfl Tryz.ntmps62 Tryz.results62 rfl (fun C => ?_)⟩
 refine yF 0 0 rfl rfl fun f0_0 => ?_
 refine yF 0 1 rfl rfl fun f0_1 => ?_
 refine a0E (x := .tmp 1) (a0a rfl) fun f1 => ?_
 iterate 17 refine z ?_
 refine yQ rfl (fun c1 => ?_) fun c1 => ?_
 ·have d1 := of_decide_eq_true c1
  first | have q1 := a2m d1 | skip
  iterate 6 refine z ?_
  have hh := a1W left (a1s x); simp only [a1s] at hh ⊢ <;> omega
 ·have d1 := of_decide_eq_false c1
  first | have q1 := a2q d1 | skip
  iterate 15 refine z ?_
  refine yQ rfl (fun c2 => ?_) fun c2 => ?_
  ·have d2 := of_decide_eq_true c2
   first | have q2 := a2m d2 | skip
   iterate 6 refine z ?_
   have hh := a1W left (a1s x); simp only [a1s] at hh ⊢ <;> omega
  ·have d2 := of_decide_eq_false c2
   first | have q2 := a2q d2 | skip
   iterate 8 refine z ?_
   have hh := a1W left (a1s x); simp only [a1s] at hh ⊢ <;> omega
theorem c6x {x : List (a2V)} {left : Int} (h0 : 0 ≤ left) (h1 : left ≤ 1048576) : PFn Tryz.prog 34 [.one (.dv [] (a0B (x))), .one (.dv [] (.int .i64 (left)))] (.one (.dv [] (.int .i64 (szR (left) (a1c a1s x))))) := by
 refine ⟨a0v Tryz.func34 rfl Tryz.ntmps34 Tryz.results34 rfl (fun C => ?_)⟩
 refine a0E (x := .tmp 0) (a0a rfl) fun f0 => ?_
 refine a0E (x := .tmp 1) (a0a rfl) fun f1 => ?_
 iterate 15 refine z ?_
 refine yQ rfl (fun c1 => ?_) fun c1 => ?_
 ·have d1 := of_decide_eq_true c1
  first | have q1 := a2m d1 | skip
  iterate 6 refine z ?_
  have hh := a1W left (a1c a1s x); simp only [a1c] at hh ⊢ <;> omega
 ·have d1 := of_decide_eq_false c1
  first | have q1 := a2q d1 | skip
  iterate 7 refine z ?_
  refine a0X (ι := Nat × Int) (fun zz => ⟨[(0, .one (.dv [] (a0B (x)))), (1, .one (.dv [] (.int .i64 (zz.2)))), (5, .one (.dv [] (.int .i64 ((zz.1 : Int)))))], [], []⟩) (fun zz => zz.1 ≤ x.length ∧ 0 ≤ zz.2 ∧ zz.2 + (wSum a1s (x.take zz.1) : Int) = left - (x.length : Int)) (fun zz => x.length - zz.1) ((0, left - (x.length : Int))) ?_ (a0e ⟨rfl, rfl, rfl, trivial⟩ trivial trivial rfl) (fun zz hx => ?_)
  ·exact ⟨Nat.zero_le _, by omega, by simp [wSum]⟩
  obtain ⟨k, l⟩ := zz
  replace hx : k ≤ x.length ∧ 0 ≤ l ∧ l + (wSum a1s (x.take k) : Int) = left - (x.length : Int) := hx
  obtain ⟨hk, hl, he⟩ := hx
  have hw := fun h => a2T a1s x k h
  show Ok _ _ _ _ _ (⟨[(0, .one (.dv [] (a0B (x)))), (1, .one (.dv [] (.int .i64 (l)))), (5, .one (.dv [] (.int .i64 ((k : Int)))))], [], []⟩ : St)
  iterate 7 refine z ?_
  refine yQ rfl (fun c2 => ?_) fun c2 => ?_
  ·have d2 := of_decide_eq_true c2
   first | have q2 := a2m d2 | skip
   iterate 10 refine z ?_
   refine zC Tryz.call62 ?_ (hf := c1o (by omega) (by omega))
   iterate 6 refine z ?_
   refine yQ rfl (fun c3 => ?_) fun c3 => ?_
   ·have d3 := of_decide_eq_true c3
    first | have q3 := a2m d3 | skip
    iterate 10 refine z ?_
    have hw' := hw (by omega); have hh := a1W left (a1c a1s x); simp only [a1c] at hh ⊢ <;> omega
   ·have d3 := of_decide_eq_false c3
    first | have q3 := a2q d3 | skip
    iterate 3 refine z ?_
    refine a0k ?_
    iterate 4 refine z ?_
    refine ⟨(k + 1, szR l (a1s (x.getD (k : Int).toNat default))), ?_, ?_, a0e ⟨rfl, rfl, rfl, trivial⟩ trivial trivial rfl⟩
    ·have hw' := hw (by omega)
     dsimp only
     exact ⟨by omega, by omega, by omega⟩
    ·omega
  ·have d2 := of_decide_eq_false c2
   first | have q2 := a2q d2 | skip
   iterate 11 refine z ?_
   have hw' := a4w a1s x k (by omega); have hh := a1W left (a1c a1s x); simp only [a1c] at hh ⊢ <;> omega
theorem c3Q {x : a2V}  : PFn Tryz.prog 80 [.agg [(.dv [] (.str (x.1))), (.dv [] (.str (x.2)))]] (.agg [(.dv [] (.str (x.1))), (.dv [] (.str (x.2)))]) := by
 refine ⟨a0v Tryz.func80 rfl Tryz.ntmps80 Tryz.results80 rfl (fun C => ?_)⟩
 refine yF 0 0 rfl rfl fun f0_0 => ?_
 refine yF 0 1 rfl rfl fun f0_1 => ?_
 iterate 24 refine z ?_
 refine a1p (a0F hT rfl rfl rfl rfl) ?_
 rfl
theorem c5a {x : List (a2V)} (hb : a1c a1s x ≤ 1048576) : KFn Tryz.prog 45 [.one (.dv [] (a0B (x)))] (.one (.key 7)) [(7, some (a0b false (a0B (x))))] := by
 refine ⟨a0v Tryz.func45 rfl Tryz.ntmps45 Tryz.results45 rfl (fun C => ?_)⟩
 refine a0E (x := .tmp 0) (a0a rfl) fun f0 => ?_
 iterate 6 refine z ?_
 refine a9i (k := 7) (n := ((x)).length) (zd := [.str (ByteArray.empty), .str (ByteArray.empty)]) (cs := a1Z a1O [.str (ByteArray.empty), .str (ByteArray.empty)] x 0) hT rfl rfl rfl rfl rfl rfl (a0a rfl) (a0a rfl) rfl rfl rfl (by have := b1J a1s x; omega) rfl rfl a9L ?_
 iterate 7 refine z ?_
 refine a0X (ι := Nat) (fun zz => ⟨[(0, .one (.dv [] (a0B (x)))), (3, .one (.key 7)), (4, .one (.dv [] (.int .i64 ((zz : Int)))))], [], [(7, some (a0b false (.sl 97 2 ((x).length) (a1Z a1O [.str (ByteArray.empty), .str (ByteArray.empty)] x zz))))]⟩) (fun zz => zz ≤ x.length) (fun zz => x.length - zz) (0) ?_ (a0e ⟨rfl, rfl, rfl, trivial⟩ trivial ⟨rfl, trivial⟩ rfl) (fun zz hx => ?_)
 ·exact Nat.zero_le _
 obtain ⟨k, rfl⟩ : ∃ v, v = zz := ⟨_, rfl⟩
 replace hx : k ≤ x.length := hx
 have hw := fun h => a2T a1s x k h
 have hw2 := a9j a1s x (k + 1)
 have hw3 : a1c a1s x = x.length + wSum a1s x := rfl
 show Ok _ _ _ _ _ (⟨[(0, .one (.dv [] (a0B (x)))), (3, .one (.key 7)), (4, .one (.dv [] (.int .i64 ((k : Int)))))], [], [(7, some (a0b false (.sl 97 2 ((x).length) (a1Z a1O [.str (ByteArray.empty), .str (ByteArray.empty)] x k))))]⟩ : St)
 iterate 7 refine z ?_
 refine yQ rfl (fun c1 => ?_) fun c1 => ?_
 ·have d1 := of_decide_eq_true c1
  iterate 4 refine z ?_
  refine a0k ?_
  iterate 6 refine z ?_
  refine zC Tryz.call80 ?_ (hf := c3Q)
  refine yO rfl rfl (a2v (i := k) hT rfl rfl rfl (a0a rfl) rfl (a0a rfl) rfl (by show _ < ((x).length); omega)) rfl ?_
  refine a3g (js := []) (cs := a1Z a1O [.str (ByteArray.empty), .str (ByteArray.empty)] x (k + 1)) hT rfl rfl rfl rfl (a0a rfl) (a0a rfl) rfl rfl rfl rfl (a0t (a0W rfl) (a0t (a0W rfl) a1m rfl) rfl) (by decide) (by decide) rfl (by show _ ≤ List.length (a1Z a1O [.str (ByteArray.empty), .str (ByteArray.empty)] x k); rw [b0t (sz := 2) (fun _ => rfl) rfl]; omega) (b0e (sz := 2) (fun _ => rfl) rfl (by omega) rfl) ?_
  simp only [a0l, a0j, SV.kill, CV.kill, kk, Nat.reduceBEq]
  refine a1t ?_
  iterate 2 refine z ?_
  refine a0k ?_
  iterate 4 refine z ?_
  refine ⟨k + 1, ?_, ?_, a0e ⟨rfl, rfl, rfl, trivial⟩ trivial ⟨rfl, trivial⟩ rfl⟩
  ·omega
  ·omega
 ·have d1 := of_decide_eq_false c1
  iterate 9 refine z ?_
  refine a0h (σ' := ⟨[(2, .one (.key 7))], [], [(7, some (a0b false (a0B (x))))]⟩) (a0e ⟨rfl, trivial⟩ trivial ⟨(congrArg (fun cs => some (some (KC.mk false 97 2 x.length cs))) (a9A (by omega))), trivial⟩ rfl) ?_
  refine z ?_
  refine a1p (a0i rfl) ?_
  exact ⟨rfl, rfl⟩
theorem c2Y {x : a2V}  : PFn Tryz.prog 57 [.agg [(.dv [] (.str (x.1))), (.dv [] (.str (x.2)))], .agg [(.dv [] (.str (x.1))), (.dv [] (.str (x.2)))]] (.one (.dv [] (.bool (true)))) := by
 refine ⟨a0v Tryz.func57 rfl Tryz.ntmps57 Tryz.results57 rfl (fun C => ?_)⟩
 refine yF 0 0 rfl rfl fun f0_0 => ?_
 refine yF 0 1 rfl rfl fun f0_1 => ?_
 refine yF 1 0 rfl rfl fun f1_0 => ?_
 refine yF 1 1 rfl rfl fun f1_1 => ?_
 iterate 13 refine z ?_
 refine yQ rfl (fun c1 => ?_) fun c1 => ?_
 ·iterate 6 refine z ?_
  first | rfl | (exfalso; simp_all [sEq])
 ·iterate 10 refine z ?_
  refine yQ rfl (fun c2 => ?_) fun c2 => ?_
  ·iterate 6 refine z ?_
   first | rfl | (exfalso; simp_all [sEq])
  ·iterate 7 refine z ?_
   first | rfl | (exfalso; simp_all [sEq])
theorem c7S {x : List (a2V)}  : PFn Tryz.prog 26 [.one (.dv [] (a0B (x))), .one (.dv [] (a0B (x)))] (.one (.dv [] (.bool (true)))) := by
 refine ⟨a0v Tryz.func26 rfl Tryz.ntmps26 Tryz.results26 rfl (fun C => ?_)⟩
 refine a0E (x := .tmp 0) (a0a rfl) fun f0 => ?_
 refine a0E (x := .tmp 1) (a0a rfl) fun f1 => ?_
 iterate 11 refine z ?_
 refine yQ rfl (fun c1 => ?_) fun c1 => ?_
 ·have d1 := a2D c1
  iterate 6 refine z ?_
  first | rfl | (exfalso; simp_all [sEq])
 ·have d1 := a2E c1
  iterate 7 refine z ?_
  refine a0X (ι := Nat) (fun zz => ⟨[(0, .one (.dv [] (a0B (x)))), (1, .one (.dv [] (a0B (x)))), (5, .one (.dv [] (.int .i64 ((zz : Int)))))], [], []⟩) (fun zz => zz ≤ x.length) (fun zz => x.length - zz) (0) ?_ (a0e ⟨rfl, rfl, rfl, trivial⟩ trivial trivial rfl) (fun zz hx => ?_)
  ·exact Nat.zero_le _
  obtain ⟨k, rfl⟩ : ∃ v, v = zz := ⟨_, rfl⟩
  replace hx : k ≤ x.length := hx
  show Ok _ _ _ _ _ (⟨[(0, .one (.dv [] (a0B (x)))), (1, .one (.dv [] (a0B (x)))), (5, .one (.dv [] (.int .i64 ((k : Int)))))], [], []⟩ : St)
  iterate 7 refine z ?_
  refine yQ rfl (fun c2 => ?_) fun c2 => ?_
  ·have d2 := of_decide_eq_true c2
   iterate 4 refine z ?_
   refine a0q ?_
   refine a1M (oB := []) (oK := []) (by kernel_rfl) rfl rfl ?_
   refine zD 0 ?_
   refine zD 1 ?_
   refine zD 2 ?_
   refine zD 3 ?_
   refine zD 4 ?_
   refine zD 5 ?_
   refine zD 6 ?_
   refine zD 7 ?_
   refine a3D 8 rfl (by kernel_rfl) rfl rfl rfl Tryz.call57 c2Y (a0g (a0a rfl) (a0s (a0d a0c (a0d a0c a0r))) (a0g (a0a rfl) (a0s (a0d a0c (a0d a0c a0r))) a0m)) rfl rfl rfl rfl ?_
   refine zD 9 ?_
   refine a1J (by kernel_rfl) ?_
   refine z ?_
   refine yQ rfl (fun c3 => ?_) fun c3 => ?_
   ·iterate 10 refine z ?_
    first | rfl | (exfalso; simp_all [sEq])
   ·iterate 3 refine z ?_
    refine a0k ?_
    iterate 4 refine z ?_
    refine ⟨k + 1, ?_, ?_, a0e ⟨rfl, rfl, rfl, trivial⟩ trivial trivial rfl⟩
    ·omega
    ·omega
  ·have d2 := of_decide_eq_false c2
   iterate 10 refine z ?_
   first | rfl | (exfalso; simp_all [sEq])
theorem c7K {x : DbT} {left : Int} (h0 : 0 ≤ left) (h1 : left ≤ 1048576) : PFn Tryz.prog 13 [.agg [(.dv [] (.str (x.1))), (.dv [] (.int .i64 (x.2.1))), (.dv [] (a0z (x.2.2.1))), (.dv [] (a0B (x.2.2.2)))], .one (.dv [] (.int .i64 (left)))] (.one (.dv [] (.int .i64 (szR (left) (a0Z x))))) := by
 refine ⟨a0v Tryz.func13 rfl Tryz.ntmps13 Tryz.results13 rfl (fun C => ?_)⟩
 refine yF 0 0 rfl rfl fun f0_0 => ?_
 refine yF 0 1 rfl rfl fun f0_1 => ?_
 refine yF 0 2 rfl rfl fun f0_2 => ?_
 refine yF 0 3 rfl rfl fun f0_3 => ?_
 refine a0E (x := .tmp 1) (a0a rfl) fun f1 => ?_
 iterate 17 refine z ?_
 refine yQ rfl (fun c1 => ?_) fun c1 => ?_
 ·have d1 := of_decide_eq_true c1
  first | have q1 := a2m d1 | skip
  iterate 6 refine z ?_
  have hh := a1W left (a0Z x); simp only [a0Z] at hh ⊢ <;> omega
 ·have d1 := of_decide_eq_false c1
  first | have q1 := a2q d1 | skip
  iterate 6 refine z ?_
  refine zC Tryz.call33 ?_ (hf := c2n (by omega) (by omega))
  iterate 7 refine z ?_
  refine yQ rfl (fun c2 => ?_) fun c2 => ?_
  ·have d2 := of_decide_eq_true c2
   first | have q2 := a2m d2 | skip
   iterate 6 refine z ?_
   have hh := a1W left (a0Z x); simp only [a0Z] at hh ⊢ <;> omega
  ·have d2 := of_decide_eq_false c2
   first | have q2 := a2q d2 | skip
   iterate 6 refine z ?_
   refine zC Tryz.call34 ?_ (hf := c6x (by omega) (by omega))
   iterate 7 refine z ?_
   refine yQ rfl (fun c3 => ?_) fun c3 => ?_
   ·have d3 := of_decide_eq_true c3
    first | have q3 := a2m d3 | skip
    iterate 6 refine z ?_
    have hh := a1W left (a0Z x); simp only [a0Z] at hh ⊢ <;> omega
   ·have d3 := of_decide_eq_false c3
    first | have q3 := a2q d3 | skip
    iterate 8 refine z ?_
    have hh := a1W left (a0Z x); simp only [a0Z] at hh ⊢ <;> omega
theorem c6o {x : DbT} (hb : a0Z x ≤ 1048576) : KFn Tryz.prog 19 [.agg [(.dv [] (.str (x.1))), (.dv [] (.int .i64 (x.2.1))), (.dv [] (a0z (x.2.2.1))), (.dv [] (a0B (x.2.2.2)))]] (.agg [(.dv [] (.str (x.1))), (.dv [] (.int .i64 (x.2.1))), (.key 12007), (.key 16007)]) [(12007, some (a0b false (a0z (x.2.2.1)))), (16007, some (a0b false (a0B (x.2.2.2))))] := by
 refine ⟨a0v Tryz.func19 rfl Tryz.ntmps19 Tryz.results19 rfl (fun C => ?_)⟩
 refine yF 0 0 rfl rfl fun f0_0 => ?_
 refine yF 0 1 rfl rfl fun f0_1 => ?_
 refine yF 0 2 rfl rfl fun f0_2 => ?_
 refine yF 0 3 rfl rfl fun f0_3 => ?_
 iterate 22 refine z ?_
 refine zK 12000 Tryz.call44 ?_ (hf := c2E (by first | omega | (simp only [a3q, a1S, a2W, a1e, a0T, a1s, a0Z, wOp, wTx, a5o] at hb ⊢; omega) | (have hq := hw (by omega); omega)))
 iterate 6 refine z ?_
 refine zK 16000 Tryz.call45 ?_ (hf := c5a (by first | omega | (simp only [a3q, a1S, a2W, a1e, a0T, a1s, a0Z, wOp, wTx, a5o] at hb ⊢; omega) | (have hq := hw (by omega); omega)))
 iterate 7 refine z ?_
 refine a0h (σ' := ⟨[(2, .box 2 0)], [(2, 33, [(.dv [] (.str (x.1))), (.dv [] (.int .i64 (x.2.1))), (.key 12007), (.key 16007)])], [(12007, some (a0b false (a0z (x.2.2.1)))), (16007, some (a0b false (a0B (x.2.2.2))))]⟩) (a0e ⟨rfl, trivial⟩ ⟨rfl, trivial⟩ ⟨rfl, rfl, trivial⟩ rfl) ?_
 refine z ?_
 refine a1p (a0F hT rfl rfl rfl rfl) ?_
 exact ⟨rfl, rfl⟩
theorem b0S {x : DbT}  : PFn Tryz.prog 8 [.agg [(.dv [] (.str (x.1))), (.dv [] (.int .i64 (x.2.1))), (.dv [] (a0z (x.2.2.1))), (.dv [] (a0B (x.2.2.2)))], .agg [(.dv [] (.str (x.1))), (.dv [] (.int .i64 (x.2.1))), (.dv [] (a0z (x.2.2.1))), (.dv [] (a0B (x.2.2.2)))]] (.one (.dv [] (.bool (true)))) := by
 refine ⟨a0v Tryz.func8 rfl Tryz.ntmps8 Tryz.results8 rfl (fun C => ?_)⟩
 refine yF 0 0 rfl rfl fun f0_0 => ?_
 refine yF 0 1 rfl rfl fun f0_1 => ?_
 refine yF 0 2 rfl rfl fun f0_2 => ?_
 refine yF 0 3 rfl rfl fun f0_3 => ?_
 refine yF 1 0 rfl rfl fun f1_0 => ?_
 refine yF 1 1 rfl rfl fun f1_1 => ?_
 refine yF 1 2 rfl rfl fun f1_2 => ?_
 refine yF 1 3 rfl rfl fun f1_3 => ?_
 iterate 13 refine z ?_
 refine yQ rfl (fun c1 => ?_) fun c1 => ?_
 ·iterate 6 refine z ?_
  first | rfl | (exfalso; simp_all [sEq])
 ·iterate 10 refine z ?_
  refine yQ rfl (fun c2 => ?_) fun c2 => ?_
  ·have d2 := a2D c2
   iterate 6 refine z ?_
   first | rfl | (exfalso; simp_all [sEq])
  ·have d2 := a2E c2
   iterate 8 refine z ?_
   refine zC Tryz.call25 ?_ (hf := c6V)
   iterate 2 refine z ?_
   refine yQ rfl (fun c3 => ?_) fun c3 => ?_
   ·iterate 6 refine z ?_
    first | rfl | (exfalso; simp_all [sEq])
   ·iterate 8 refine z ?_
    refine zC Tryz.call26 ?_ (hf := c7S)
    iterate 2 refine z ?_
    refine yQ rfl (fun c4 => ?_) fun c4 => ?_
    ·iterate 6 refine z ?_
     first | rfl | (exfalso; simp_all [sEq])
    ·iterate 7 refine z ?_
     first | rfl | (exfalso; simp_all [sEq])
def a3R (x : a5n) : Nat := a0Z (x.1) + (x.2.1).length
theorem c6f {x : List UInt8} {left : Int} (h0 : 0 ≤ left) (h1 : left ≤ 1048576) : PFn Tryz.prog 14 [.one (.dv [] (a0x (x))), .one (.dv [] (.int .i64 (left)))] (.one (.dv [] (.int .i64 (szR (left) ((x).length))))) := by
 refine ⟨a0v Tryz.func14 rfl Tryz.ntmps14 Tryz.results14 rfl (fun C => ?_)⟩
 refine a0E (x := .tmp 0) (a0a rfl) fun f0 => ?_
 refine a0E (x := .tmp 1) (a0a rfl) fun f1 => ?_
 iterate 15 refine z ?_
 refine yQ rfl (fun c1 => ?_) fun c1 => ?_
 ·have d1 := of_decide_eq_true c1
  first | have q1 := a2m d1 | skip
  iterate 6 refine z ?_
  have hh := a1W left (x.length); omega
 ·have d1 := of_decide_eq_false c1
  first | have q1 := a2q d1 | skip
  iterate 8 refine z ?_
  have hh := a1W left (x.length); omega
theorem c5e {x : List UInt8} (hb : x.length ≤ 1048576) : KFn Tryz.prog 20 [.one (.dv [] (a0x (x)))] (.one (.key 7)) [(7, some (a0b false (a0x (x))))] := by
 refine ⟨a0v Tryz.func20 rfl Tryz.ntmps20 Tryz.results20 rfl (fun C => ?_)⟩
 refine a0E (x := .tmp 0) (a0a rfl) fun f0 => ?_
 iterate 6 refine z ?_
 refine a9i (k := 7) (n := ((x)).length) (zd := [.int .u8 (0)]) (cs := a1Z a0V [.int .u8 (0)] x 0) hT rfl rfl rfl rfl rfl rfl (a0a rfl) (a0a rfl) rfl rfl rfl (by omega) rfl rfl a9L ?_
 iterate 7 refine z ?_
 refine a0X (ι := Nat) (fun zz => ⟨[(0, .one (.dv [] (a0x (x)))), (3, .one (.key 7)), (4, .one (.dv [] (.int .i64 ((zz : Int)))))], [], [(7, some (a0b false (.sl 5 1 ((x).length) (a1Z a0V [.int .u8 (0)] x zz))))]⟩) (fun zz => zz ≤ x.length) (fun zz => x.length - zz) (0) ?_ (a0e ⟨rfl, rfl, rfl, trivial⟩ trivial ⟨rfl, trivial⟩ rfl) (fun zz hx => ?_)
 ·exact Nat.zero_le _
 obtain ⟨k, rfl⟩ : ∃ v, v = zz := ⟨_, rfl⟩
 replace hx : k ≤ x.length := hx
 show Ok _ _ _ _ _ (⟨[(0, .one (.dv [] (a0x (x)))), (3, .one (.key 7)), (4, .one (.dv [] (.int .i64 ((k : Int)))))], [], [(7, some (a0b false (.sl 5 1 ((x).length) (a1Z a0V [.int .u8 (0)] x k))))]⟩ : St)
 iterate 7 refine z ?_
 refine yQ rfl (fun c1 => ?_) fun c1 => ?_
 ·have d1 := of_decide_eq_true c1
  iterate 4 refine z ?_
  refine a0k ?_
  iterate 6 refine z ?_
  refine yO rfl rfl (a2v (i := k) hT rfl rfl rfl (a0a rfl) rfl (a0a rfl) rfl (by show _ < ((x).length); omega)) rfl ?_
  refine a3g (js := []) (cs := a1Z a0V [.int .u8 (0)] x (k + 1)) hT rfl rfl rfl rfl (a0a rfl) (a0a rfl) rfl rfl rfl rfl (a0t (a0W rfl) a1m rfl) (by decide) (by decide) rfl (by show _ ≤ List.length (a1Z a0V [.int .u8 (0)] x k); rw [b0t (sz := 1) (fun _ => rfl) rfl]; omega) (b0e (sz := 1) (fun _ => rfl) rfl (by omega) rfl) ?_
  simp only [a0l, a0j, SV.kill, CV.kill, kk, Nat.reduceBEq]
  refine a1t ?_
  iterate 2 refine z ?_
  refine a0k ?_
  iterate 4 refine z ?_
  refine ⟨k + 1, ?_, ?_, a0e ⟨rfl, rfl, rfl, trivial⟩ trivial ⟨rfl, trivial⟩ rfl⟩
  ·omega
  ·omega
 ·have d1 := of_decide_eq_false c1
  iterate 9 refine z ?_
  refine a0h (σ' := ⟨[(2, .one (.key 7))], [], [(7, some (a0b false (a0x (x))))]⟩) (a0e ⟨rfl, trivial⟩ trivial ⟨(congrArg (fun cs => some (some (KC.mk false 5 1 x.length cs))) (a9A (by omega))), trivial⟩ rfl) ?_
  refine z ?_
  refine a1p (a0i rfl) ?_
  exact ⟨rfl, rfl⟩
theorem c2a {x : List UInt8}  : PFn Tryz.prog 27 [.one (.dv [] (a0x (x))), .one (.dv [] (a0x (x)))] (.one (.dv [] (.bool (true)))) := by
 refine ⟨a0v Tryz.func27 rfl Tryz.ntmps27 Tryz.results27 rfl (fun C => ?_)⟩
 refine a0E (x := .tmp 0) (a0a rfl) fun f0 => ?_
 refine a0E (x := .tmp 1) (a0a rfl) fun f1 => ?_
 iterate 11 refine z ?_
 refine yQ rfl (fun c1 => ?_) fun c1 => ?_
 ·have d1 := a2D c1
  iterate 6 refine z ?_
  first | rfl | (exfalso; simp_all)
 ·have d1 := a2E c1
  iterate 7 refine z ?_
  refine a0X (ι := Nat) (fun zz => ⟨[(0, .one (.dv [] (a0x (x)))), (1, .one (.dv [] (a0x (x)))), (5, .one (.dv [] (.int .i64 ((zz : Int)))))], [], []⟩) (fun zz => zz ≤ x.length) (fun zz => x.length - zz) (0) ?_ (a0e ⟨rfl, rfl, rfl, trivial⟩ trivial trivial rfl) (fun zz hx => ?_)
  ·exact Nat.zero_le _
  obtain ⟨k, rfl⟩ : ∃ v, v = zz := ⟨_, rfl⟩
  replace hx : k ≤ x.length := hx
  show Ok _ _ _ _ _ (⟨[(0, .one (.dv [] (a0x (x)))), (1, .one (.dv [] (a0x (x)))), (5, .one (.dv [] (.int .i64 ((k : Int)))))], [], []⟩ : St)
  iterate 7 refine z ?_
  refine yQ rfl (fun c2 => ?_) fun c2 => ?_
  ·have d2 := of_decide_eq_true c2
   iterate 4 refine z ?_
   refine a0q ?_
   refine a1M (oB := []) (oK := []) (by kernel_rfl) rfl rfl ?_
   refine zD 0 ?_
   refine zD 1 ?_
   refine zD 2 ?_
   refine zD 3 ?_
   refine zD 4 ?_
   refine zD 5 ?_
   refine zD 6 ?_
   refine zD 7 ?_
   refine zD 8 ?_
   refine a1J (by kernel_rfl) ?_
   refine z ?_
   refine yQ rfl (fun c3 => ?_) fun c3 => ?_
   ·have d3 := a2D c3
    iterate 10 refine z ?_
    first | rfl | (exfalso; simp_all)
   ·have d3 := a2E c3
    iterate 3 refine z ?_
    refine a0k ?_
    iterate 4 refine z ?_
    refine ⟨k + 1, ?_, ?_, a0e ⟨rfl, rfl, rfl, trivial⟩ trivial trivial rfl⟩
    ·omega
    ·omega
  ·have d2 := of_decide_eq_false c2
   iterate 10 refine z ?_
   first | rfl | (exfalso; simp_all)
theorem c7p {x : a5n} {left : Int} (h0 : 0 ≤ left) (h1 : left ≤ 1048576) : PFn Tryz.prog 4 [.agg [(.dv [] (.str (x.1.1))), (.dv [] (.int .i64 (x.1.2.1))), (.dv [] (a0z (x.1.2.2.1))), (.dv [] (a0B (x.1.2.2.2))), (.dv [] (a0x (x.2.1))), (.dv [] (.int .i64 (x.2.2)))], .one (.dv [] (.int .i64 (left)))] (.one (.dv [] (.int .i64 (szR (left) (a3R x))))) := by
 refine ⟨a0v Tryz.func4 rfl Tryz.ntmps4 Tryz.results4 rfl (fun C => ?_)⟩
 refine yF 0 0 rfl rfl fun f0_0 => ?_
 refine yF 0 1 rfl rfl fun f0_1 => ?_
 refine yF 0 2 rfl rfl fun f0_2 => ?_
 refine yF 0 3 rfl rfl fun f0_3 => ?_
 refine yF 0 4 rfl rfl fun f0_4 => ?_
 refine yF 0 5 rfl rfl fun f0_5 => ?_
 refine a0E (x := .tmp 1) (a0a rfl) fun f1 => ?_
 iterate 8 refine z ?_
 refine zC Tryz.call13 ?_ (hf := c7K (by omega) (by omega))
 iterate 7 refine z ?_
 refine yQ rfl (fun c1 => ?_) fun c1 => ?_
 ·have d1 := of_decide_eq_true c1
  first | have q1 := a2m d1 | skip
  iterate 6 refine z ?_
  have hh := a1W left (a3R x); simp only [a3R] at hh ⊢ <;> omega
 ·have d1 := of_decide_eq_false c1
  first | have q1 := a2q d1 | skip
  iterate 6 refine z ?_
  refine zC Tryz.call14 ?_ (hf := c6f (by omega) (by omega))
  iterate 7 refine z ?_
  refine yQ rfl (fun c2 => ?_) fun c2 => ?_
  ·have d2 := of_decide_eq_true c2
   first | have q2 := a2m d2 | skip
   iterate 6 refine z ?_
   have hh := a1W left (a3R x); simp only [a3R] at hh ⊢ <;> omega
  ·have d2 := of_decide_eq_false c2
   first | have q2 := a2q d2 | skip
   iterate 8 refine z ?_
   have hh := a1W left (a3R x); simp only [a3R] at hh ⊢ <;> omega
theorem b1U {x : a5n} (hb : a3R x ≤ 1048576) : KFn Tryz.prog 6 [.agg [(.dv [] (.str (x.1.1))), (.dv [] (.int .i64 (x.1.2.1))), (.dv [] (a0z (x.1.2.2.1))), (.dv [] (a0B (x.1.2.2.2))), (.dv [] (a0x (x.2.1))), (.dv [] (.int .i64 (x.2.2)))]] (.agg [(.dv [] (.str (x.1.1))), (.dv [] (.int .i64 (x.1.2.1))), (.key 18007), (.key 22007), (.key 10007), (.dv [] (.int .i64 (x.2.2)))]) [(18007, some (a0b false (a0z (x.1.2.2.1)))), (22007, some (a0b false (a0B (x.1.2.2.2)))), (10007, some (a0b false (a0x (x.2.1))))] := by
 refine ⟨a0v Tryz.func6 rfl Tryz.ntmps6 Tryz.results6 rfl (fun C => ?_)⟩
 refine yF 0 0 rfl rfl fun f0_0 => ?_
 refine yF 0 1 rfl rfl fun f0_1 => ?_
 refine yF 0 2 rfl rfl fun f0_2 => ?_
 refine yF 0 3 rfl rfl fun f0_3 => ?_
 refine yF 0 4 rfl rfl fun f0_4 => ?_
 refine yF 0 5 rfl rfl fun f0_5 => ?_
 iterate 10 refine z ?_
 refine zK 6000 Tryz.call19 ?_ (hf := c6o (by simp only [a3R] at hb; omega))
 iterate 6 refine z ?_
 refine zK 10000 Tryz.call20 ?_ (hf := c5e (by simp only [a3R] at hb; omega))
 iterate 13 refine z ?_
 refine a0h (σ' := ⟨[(2, .box 2 0)], [(2, 37, [(.dv [] (.str (x.1.1))), (.dv [] (.int .i64 (x.1.2.1))), (.key 18007), (.key 22007), (.key 10007), (.dv [] (.int .i64 (x.2.2)))])], [(18007, some (a0b false (a0z (x.1.2.2.1)))), (22007, some (a0b false (a0B (x.1.2.2.2)))), (10007, some (a0b false (a0x (x.2.1))))]⟩) (a0e ⟨rfl, trivial⟩ ⟨rfl, trivial⟩ ⟨rfl, rfl, rfl, trivial⟩ rfl) ?_
 refine z ?_
 refine a1p (a0F hT rfl rfl rfl rfl) ?_
 exact ⟨rfl, rfl⟩
theorem c4G {x : a5n}  : PFn Tryz.prog 9 [.agg [(.dv [] (.str (x.1.1))), (.dv [] (.int .i64 (x.1.2.1))), (.dv [] (a0z (x.1.2.2.1))), (.dv [] (a0B (x.1.2.2.2))), (.dv [] (a0x (x.2.1))), (.dv [] (.int .i64 (x.2.2)))], .agg [(.dv [] (.str (x.1.1))), (.dv [] (.int .i64 (x.1.2.1))), (.dv [] (a0z (x.1.2.2.1))), (.dv [] (a0B (x.1.2.2.2))), (.dv [] (a0x (x.2.1))), (.dv [] (.int .i64 (x.2.2)))]] (.one (.dv [] (.bool (true)))) := by
 refine ⟨a0v Tryz.func9 rfl Tryz.ntmps9 Tryz.results9 rfl (fun C => ?_)⟩
 refine yF 0 0 rfl rfl fun f0_0 => ?_
 refine yF 0 1 rfl rfl fun f0_1 => ?_
 refine yF 0 2 rfl rfl fun f0_2 => ?_
 refine yF 0 3 rfl rfl fun f0_3 => ?_
 refine yF 0 4 rfl rfl fun f0_4 => ?_
 refine yF 0 5 rfl rfl fun f0_5 => ?_
 refine yF 1 0 rfl rfl fun f1_0 => ?_
 refine yF 1 1 rfl rfl fun f1_1 => ?_
 refine yF 1 2 rfl rfl fun f1_2 => ?_
 refine yF 1 3 rfl rfl fun f1_3 => ?_
 refine yF 1 4 rfl rfl fun f1_4 => ?_
 refine yF 1 5 rfl rfl fun f1_5 => ?_
 iterate 11 refine z ?_
 refine zC Tryz.call8 ?_ (hf := b0S)
 iterate 2 refine z ?_
 refine yQ rfl (fun c1 => ?_) fun c1 => ?_
 ·iterate 6 refine z ?_
  first | rfl | (exfalso; simp_all [sEq])
 ·iterate 8 refine z ?_
  refine zC Tryz.call27 ?_ (hf := c2a)
  iterate 2 refine z ?_
  refine yQ rfl (fun c2 => ?_) fun c2 => ?_
  ·iterate 6 refine z ?_
   first | rfl | (exfalso; simp_all [sEq])
  ·iterate 10 refine z ?_
   refine yQ rfl (fun c3 => ?_) fun c3 => ?_
   ·have d3 := a2D c3
    iterate 6 refine z ?_
    first | rfl | (exfalso; simp_all [sEq])
   ·have d3 := a2E c3
    iterate 7 refine z ?_
    first | rfl | (exfalso; simp_all [sEq])
def a1E (o : OpT) : Bool := (decide (1 ≤ o.1) && decide (o.1 ≤ 6)) && a3b o.2.1 && (decide (o.1 = 5) || a1f o.2.2.1) && a1j o.2.2.2.1 && ((decide (o.1 = 6) && a3b o.2.2.2.2) || (!decide (o.1 = 6) && sEq o.2.2.2.2 (ByteArray.mk #[])))
theorem c8i {α : Type} {p : α → Bool} {l : List α} {k : Nat} {d : α} (h : (l.take k).any p = false) (hk : k < l.length) (hp : p (l.getD k d) = false) : (l.take (k + 1)).any p = false := by
 rw [List.take_succ_eq_append_getElem hk, List.any_append, h]
 simp only [List.any_cons, List.any_nil, Bool.or_false, Bool.false_or]
 simpa [List.getD, List.getElem?_eq_getElem hk] using hp
theorem c4e {α : Type} {p : α → Bool} {l : List α} {k : Nat} {d : α} (hk : k < l.length) (hp : p (l.getD k d) = true) : l.any p = true := by
 rw [List.any_eq_true]
 exact ⟨l[k], List.getElem_mem hk, by simpa [List.getD, List.getElem?_eq_getElem hk] using hp⟩
theorem b4w {x : OpT}  : PFn Tryz.prog 97 [.agg [(.dv [] (.int .i64 (x.1))), (.dv [] (.str (x.2.1))), (.dv [] (.int .i64 (x.2.2.1.1))), (.dv [] (.int .i64 (x.2.2.1.2.1))), (.dv [] (.str (x.2.2.1.2.2))), (.dv [] (a0w (x.2.2.2.1))), (.dv [] (.str (x.2.2.2.2)))]] (.one (.dv [] (.bool (a1E x)))) := by
 refine ⟨a0v Tryz.func97 rfl Tryz.ntmps97 Tryz.results97 rfl (fun C => ?_)⟩
 refine yF 0 0 rfl rfl fun f0_0 => ?_
 refine yF 0 1 rfl rfl fun f0_1 => ?_
 refine yF 0 2 rfl rfl fun f0_2 => ?_
 refine yF 0 3 rfl rfl fun f0_3 => ?_
 refine yF 0 4 rfl rfl fun f0_4 => ?_
 refine yF 0 5 rfl rfl fun f0_5 => ?_
 refine yF 0 6 rfl rfl fun f0_6 => ?_
 iterate 8 refine z ?_
 refine zC Tryz.call92 ?_ (hf := a6Q)
 iterate 4 refine z ?_
 refine a1N (a1A rfl rfl rfl rfl rfl) rfl rfl Tryz.call91 a8p (fun hg => (a0g (a0C rfl hg) (a0D a0c) a0m)) rfl rfl ?_
 iterate 9 refine z ?_
 refine a1N (a4i rfl rfl rfl rfl rfl) rfl rfl Tryz.call119 a6p (fun hg => (a0g (a0C rfl hg) (a0s (a0d a0c (a0d a0c (a0d a0c a0r)))) a0m)) rfl rfl ?_
 iterate 6 refine z ?_
 refine a1N (a1A rfl rfl rfl rfl rfl) rfl rfl Tryz.call120 a7i (fun hg => (a0g (a0C rfl hg) (a0s (a0d a0c a0r)) a0m)) rfl rfl ?_
 iterate 3 refine z ?_
 refine yQ rfl (fun c1 => ?_) fun c1 => ?_
 ·iterate 6 refine z ?_
  grind [a1E]
 ·iterate 8 refine z ?_
  refine yQ rfl (fun c2 => ?_) fun c2 => ?_
  ·have d2 := of_decide_eq_true c2
   iterate 3 refine z ?_
   refine zC Tryz.call91 ?_ (hf := a8p)
   iterate 5 refine z ?_
   grind [a1E]
  ·have d2 := of_decide_eq_false c2
   iterate 10 refine z ?_
   grind [a1E]
theorem b7d {x : OpT}  : PFn Tryz.prog 69 [.agg [(.dv [] (.int .i64 (x.1))), (.dv [] (.str (x.2.1))), (.dv [] (.int .i64 (x.2.2.1.1))), (.dv [] (.int .i64 (x.2.2.1.2.1))), (.dv [] (.str (x.2.2.1.2.2))), (.dv [] (a0w (x.2.2.2.1))), (.dv [] (.str (x.2.2.2.2)))]] (.one (.dv [] (.bool (a1E x)))) := by
 refine ⟨a0v Tryz.func69 rfl Tryz.ntmps69 Tryz.results69 rfl (fun C => ?_)⟩
 refine yF 0 0 rfl rfl fun f0_0 => ?_
 refine yF 0 1 rfl rfl fun f0_1 => ?_
 refine yF 0 2 rfl rfl fun f0_2 => ?_
 refine yF 0 3 rfl rfl fun f0_3 => ?_
 refine yF 0 4 rfl rfl fun f0_4 => ?_
 refine yF 0 5 rfl rfl fun f0_5 => ?_
 refine yF 0 6 rfl rfl fun f0_6 => ?_
 iterate 7 refine z ?_
 refine zC Tryz.call77 ?_ (hf := a5U)
 iterate 3 refine z ?_
 refine a1N (a1A rfl rfl rfl rfl rfl) rfl rfl Tryz.call75 a8H (fun hg => (a0g (a0C rfl hg) (a0D a0c) a0m)) rfl rfl ?_
 iterate 8 refine z ?_
 refine a1N (a4i rfl rfl rfl rfl rfl) rfl rfl Tryz.call105 a5g (fun hg => (a0g (a0C rfl hg) (a0s (a0d a0c (a0d a0c (a0d a0c a0r)))) a0m)) rfl rfl ?_
 iterate 5 refine z ?_
 refine a1N (a1A rfl rfl rfl rfl rfl) rfl rfl Tryz.call107 a6g (fun hg => (a0g (a0C rfl hg) (a0s (a0d a0c a0r)) a0m)) rfl rfl ?_
 iterate 8 refine z ?_
 refine a1N (a4i rfl rfl rfl rfl rfl) rfl rfl Tryz.call75 a8H (fun hg => (a0g (a0C rfl hg) (a0D a0c) a0m)) rfl rfl ?_
 iterate 16 refine z ?_
 grind [a1E]
def eqL {α : Type} [Inhabited α] (p : α → α → Bool) (xs ys : List α) : Bool := decide ((xs.length : Int) = (ys.length : Int)) && (List.range xs.length).all (fun i => p (xs.getD (i : Int).toNat default) (ys.getD (i : Int).toNat default))
theorem c6U {α : Type} [Inhabited α] {p : α → α → Bool} {xs ys : List α} (h : ¬ (xs.length : Int) = (ys.length : Int)) : eqL p xs ys = false := by simp only [eqL, decide_eq_false h, Bool.false_and]
theorem c7B {α : Type} [Inhabited α] {p : α → α → Bool} {xs ys : List α} {k : Nat} (hk : k < xs.length) (h : p (xs.getD (k : Int).toNat default) (ys.getD (k : Int).toNat default) = false) : eqL p xs ys = false := by
 unfold eqL
 rw [a7q (p := fun i => p (xs.getD (i : Int).toNat default) (ys.getD (i : Int).toNat default)) hk h, Bool.and_false]
theorem b9O {α : Type} [Inhabited α] {p : α → α → Bool} {xs ys : List α} {k : Nat} (hl : (xs.length : Int) = (ys.length : Int)) (h : (List.range k).all (fun i => p (xs.getD (i : Int).toNat default) (ys.getD (i : Int).toNat default)) = true) (hk : k = xs.length) : eqL p xs ys = true := by
 subst hk
 unfold eqL
 rw [h, decide_eq_true hl]; rfl
def a3w (d e : a2V) : Bool := sEq d.1 e.1 && sEq d.2 e.2
def a3n (b c : UInt8) : Bool := decide ((b.toNat : Int) = (c.toNat : Int))
def a0u {α : Type} (p : α → Bool) : List α → Int → Int
 | [], _ => -1
 | x :: xs, i => if p x then i else a0u p xs (i + 1)
theorem b2V {α : Type} {p : α → Bool} : ∀ {xs : List α} {k : Nat} {i : Int}, (xs.take k).any p = false → k ≤ xs.length → a0u p xs i = a0u p (xs.drop k) (i + k)
 | xs, 0, i, _, _ => by simp
 | [], k + 1, i, _, hk => by simp at hk
 | x :: xs, k + 1, i, h, hk => by
  simp only [List.take_succ_cons, List.any_cons, Bool.or_eq_false_iff] at h
  rw [a0u, h.1, List.drop_succ_cons]
  simp only [Bool.false_eq_true, if_false]
  rw [b2V h.2 (by simpa using hk)]
  congr 1; omega
theorem a6A {α : Type} {p : α → Bool} {xs : List α} {k : Nat} {d : α} (h : (xs.take k).any p = false) (hk : k < xs.length) (hp : p (xs.getD k d) = true) : a0u p xs 0 = (k : Int) := by
 rw [b2V h (by omega), List.drop_eq_getElem_cons hk, a0u]
 have : p xs[k] = true := by simpa [List.getD, List.getElem?_eq_getElem hk] using hp
 rw [if_pos this]; omega
theorem a6G {α : Type} {p : α → Bool} {xs : List α} {k : Nat} (h : (xs.take k).any p = false) (hk : k = xs.length) : a0u p xs 0 = -1 := by
 rw [b2V h (by omega), hk, List.drop_length]; rfl
theorem a6H {α : Type} {p : α → Bool} {l : List α} {k : Nat} {d : α} (h : (l.take k).any p = false) (hk : k < l.length) (hp : p (l.getD k d) = false) : (l.take (k + 1)).any p = false := by
 rw [List.take_succ_eq_append_getElem hk, List.any_append, h]
 simp only [List.any_cons, List.any_nil, Bool.or_false, Bool.false_or]
 simpa [List.getD, List.getElem?_eq_getElem hk] using hp
def a0G (n : Str) (s : a0P) : Bool := sEq s.1 n
theorem c1W {x : a0P} {n : Str}  : PFn Tryz.prog 124 [.agg [(.dv [] (.str (x.1))), (.dv [] (a0n (x.2.1))), (.dv [] (.int .i64 (x.2.2)))], .ref [] [.str (n)]] (.one (.dv [] (.bool (a0G n x)))) := by
 refine ⟨a0v Tryz.func124 rfl Tryz.ntmps124 Tryz.results124 rfl (fun C => ?_)⟩
 refine yF 0 0 rfl rfl fun f0_0 => ?_
 refine yF 0 1 rfl rfl fun f0_1 => ?_
 refine yF 0 2 rfl rfl fun f0_2 => ?_
 iterate 13 refine z ?_
 rfl
theorem c5Y {x : List a0P} {n : Str}  : PFn Tryz.prog 123 [.one (.dv [] (a0z (x))), .fn 124 [[.str (n)]]] (.one (.dv [] (.int .i64 (a0u (a0G n) x 0)))) := by
 refine ⟨a0v Tryz.func123 rfl Tryz.ntmps123 Tryz.results123 rfl (fun C => ?_)⟩
 refine a0E (x := .tmp 0) (a0a rfl) fun f0 => ?_
 iterate 10 refine z ?_
 refine a0X (ι := Nat) (fun zz => ⟨[(0, .one (.dv [] (a0z (x)))), (1, .fn 124 [[.str (n)]]), (7, .one (.dv [] (.int .i64 ((((x)).length : Int))))), (8, .one (.dv [] (.int .i64 ((zz : Int)))))], [], []⟩) (fun zz => zz ≤ x.length ∧ (x.take zz).any (a0G n) = false) (fun zz => x.length - zz) (0) ?_ (a0e ⟨rfl, rfl, rfl, rfl, trivial⟩ trivial trivial rfl) (fun zz hx => ?_)
 ·exact ⟨Nat.zero_le _, rfl⟩
 obtain ⟨k, rfl⟩ : ∃ v, v = zz := ⟨_, rfl⟩
 replace hx : k ≤ x.length ∧ (x.take k).any (a0G n) = false := hx
 obtain ⟨hk, hall⟩ := hx
 show Ok _ _ _ _ _ (⟨[(0, .one (.dv [] (a0z (x)))), (1, .fn 124 [[.str (n)]]), (7, .one (.dv [] (.int .i64 ((((x)).length : Int))))), (8, .one (.dv [] (.int .i64 ((k : Int)))))], [], []⟩ : St)
 iterate 3 refine z ?_
 refine a0q ?_
 refine yQ rfl (fun c1 => ?_) fun c1 => ?_
 ·have d1 := of_decide_eq_true c1
  iterate 14 refine z ?_
  refine b0b rfl rfl rfl (a0a rfl) Tryz.call124 c1W (a0g (a0a rfl) (a0s (a0d a0c (a0d a0c (a0d a0c a0r)))) a0m) rfl rfl ?_
  refine z ?_
  refine yQ rfl (fun c2 => ?_) fun c2 => ?_
  ·iterate 11 refine z ?_
   exact (a6A (p := a0G n) (d := default) hall (by omega) c2).symm
  ·iterate 3 refine z ?_
   refine a0k ?_
   iterate 3 refine z ?_
   refine ⟨k + 1, ?_, ?_, a0e ⟨rfl, rfl, rfl, rfl, trivial⟩ trivial trivial rfl⟩
   ·exact ⟨by omega, a6H (d := default) hall (by omega) c2⟩
   ·omega
 ·have d1 := of_decide_eq_false c1
  iterate 10 refine z ?_
  exact (a6G (p := a0G n) hall (by omega)).symm
theorem b2y {x : DbT} {n : Str}  : PFn Tryz.prog 94 [.agg [(.dv [] (.str (x.1))), (.dv [] (.int .i64 (x.2.1))), (.dv [] (a0z (x.2.2.1))), (.dv [] (a0B (x.2.2.2)))], .one (.dv [] (.str (n)))] (.one (.dv [] (.int .i64 (a0u (a0G n) x.2.2.1 0)))) := by
 refine ⟨a0v Tryz.func94 rfl Tryz.ntmps94 Tryz.results94 rfl (fun C => ?_)⟩
 refine yF 0 0 rfl rfl fun f0_0 => ?_
 refine yF 0 1 rfl rfl fun f0_1 => ?_
 refine yF 0 2 rfl rfl fun f0_2 => ?_
 refine yF 0 3 rfl rfl fun f0_3 => ?_
 refine a0E (x := .tmp 1) (a0a rfl) fun f1 => ?_
 iterate 8 refine z ?_
 refine yO rfl rfl (b0P rfl (a0a rfl)) rfl ?_
 refine a3a rfl rfl rfl Tryz.call123 c5Y (a0g (a0a rfl) (a0D a0c) (a0g (a0a rfl) (b4o (b1o rfl rfl b2r)) a0m)) rfl rfl ?_
 iterate 4 refine z ?_
 rfl
theorem b5y {x : DbT} {n : Str}  : PFn Tryz.prog 74 [.agg [(.dv [] (.str (x.1))), (.dv [] (.int .i64 (x.2.1))), (.dv [] (a0z (x.2.2.1))), (.dv [] (a0B (x.2.2.2)))], .one (.dv [] (.str (n)))] (.one (.dv [] (.int .i64 (a0u (a0G n) x.2.2.1 0)))) := by
 refine ⟨a0v Tryz.func74 rfl Tryz.ntmps74 Tryz.results74 rfl (fun C => ?_)⟩
 refine yF 0 0 rfl rfl fun f0_0 => ?_
 refine yF 0 1 rfl rfl fun f0_1 => ?_
 refine yF 0 2 rfl rfl fun f0_2 => ?_
 refine yF 0 3 rfl rfl fun f0_3 => ?_
 refine a0E (x := .tmp 1) (a0a rfl) fun f1 => ?_
 iterate 9 refine z ?_
 refine a0X (ι := Nat) (fun zz => ⟨[(1, .one (.dv [] (.str (n)))), (2, .box 2 0), (5, .one (.dv [] (.int .i64 ((zz : Int)))))], [(2, 33, [(.dv [] (.str (x.1))), (.dv [] (.int .i64 (x.2.1))), (.dv [] (a0z (x.2.2.1))), (.dv [] (a0B (x.2.2.2)))])], []⟩) (fun zz => zz ≤ x.2.2.1.length ∧ (x.2.2.1.take zz).any (a0G n) = false) (fun zz => x.2.2.1.length - zz) (0) ?_ (a0e ⟨rfl, rfl, rfl, trivial⟩ ⟨rfl, trivial⟩ trivial rfl) (fun zz hx => ?_)
 ·exact ⟨Nat.zero_le _, rfl⟩
 obtain ⟨k, rfl⟩ : ∃ v, v = zz := ⟨_, rfl⟩
 replace hx : k ≤ x.2.2.1.length ∧ (x.2.2.1.take k).any (a0G n) = false := hx
 obtain ⟨hk, hall⟩ := hx
 show Ok _ _ _ _ _ (⟨[(1, .one (.dv [] (.str (n)))), (2, .box 2 0), (5, .one (.dv [] (.int .i64 ((k : Int)))))], [(2, 33, [(.dv [] (.str (x.1))), (.dv [] (.int .i64 (x.2.1))), (.dv [] (a0z (x.2.2.1))), (.dv [] (a0B (x.2.2.2)))])], []⟩ : St)
 iterate 8 refine z ?_
 refine yQ rfl (fun c1 => ?_) fun c1 => ?_
 ·have d1 := of_decide_eq_true c1
  iterate 14 refine z ?_
  refine yQ rfl (fun c2 => ?_) fun c2 => ?_
  ·iterate 11 refine z ?_
   exact (a6A (p := a0G n) (d := default) hall (by omega) c2).symm
  ·iterate 3 refine z ?_
   refine a0k ?_
   iterate 4 refine z ?_
   refine ⟨k + 1, ?_, ?_, a0e ⟨rfl, rfl, rfl, trivial⟩ ⟨rfl, trivial⟩ trivial rfl⟩
   ·exact ⟨by omega, a6H (d := default) hall (by omega) c2⟩
   ·omega
 ·have d1 := of_decide_eq_false c1
  iterate 10 refine z ?_
  exact (a6G (p := a0G n) hall (by omega)).symm
theorem c2y {x y : UInt8} : a3n x y = decide (x = y) := by
 unfold a3n
 by_cases h : x = y
 ·simp [h]
 ·have : ¬ ((x.toNat : Int) = (y.toNat : Int)) := fun e => h (UInt8.toNat_inj.1 (by omega))
  simp [h, this]
theorem c7n {α : Type} [Inhabited α] {p : α → α → Bool} {x y : α} {xs ys : List α} : eqL p (x :: xs) (y :: ys) = (p x y && eqL p xs ys) := by
 unfold eqL
 rw [List.length_cons, List.length_cons, List.range_succ_eq_map, List.all_cons, List.all_map]
 have e : decide (((xs.length + 1 : Nat) : Int) = ((ys.length + 1 : Nat) : Int)) = decide ((xs.length : Int) = (ys.length : Int)) := by
  by_cases h : xs.length = ys.length
  ·simp [h]
  ·have h1 : ¬ ((xs.length + 1 : Nat) : Int) = ((ys.length + 1 : Nat) : Int) := by omega
   have h2 : ¬ (xs.length : Int) = (ys.length : Int) := by omega
   simp only [h1, h2]
 rw [e]
 simp only [Function.comp_def, Int.toNat_natCast, List.getD_cons_zero, List.getD_cons_succ]
 cases p x y <;> cases decide ((xs.length : Int) = (ys.length : Int)) <;> simp
theorem c2l : ∀ (x y : List UInt8), eqL a3n x y = sEq (a1u x) (a1u y) := by
 have e : ∀ x y : List UInt8, sEq (a1u x) (a1u y) = (x == y) := fun x y => by
  unfold sEq
  rw [ByteArray.toList_eq, ByteArray.toList_eq, a8f, a8f]
 intro x
 induction x with
 | nil =>
  intro y
  rw [e]
  cases y with
  | nil => rfl
  | cons b y => simp [eqL]; omega
 | cons a x ih =>
  intro y
  cases y with
  | nil => rw [e]; simp [eqL]; omega
  | cons b y =>
   rw [c7n, ih, e, e, c2y]
   by_cases h : a = b <;> simp [h]
theorem c6t {x y : List (UInt8)}  : PFn Tryz.prog 87 [.one (.dv [] (a0x (x))), .one (.dv [] (a0x (y)))] (.one (.dv [] (.bool (eqL a3n x y)))) := by
 refine ⟨a0v Tryz.func87 rfl Tryz.ntmps87 Tryz.results87 rfl (fun C => ?_)⟩
 refine a0E (x := .tmp 0) (a0a rfl) fun f0 => ?_
 refine a0E (x := .tmp 1) (a0a rfl) fun f1 => ?_
 iterate 11 refine z ?_
 refine yQ rfl (fun c1 => ?_) fun c1 => ?_
 ·have d1 := a2D c1
  iterate 6 refine z ?_
  exact (c6U d1).symm
 ·have d1 := a2E c1
  iterate 9 refine z ?_
  refine a0X (ι := Nat) (fun zz => ⟨[(0, .one (.dv [] (a0x (x)))), (1, .one (.dv [] (a0x (y)))), (12, .one (.dv [] (.int .i64 ((((x)).length : Int))))), (13, .one (.dv [] (.int .i64 ((zz : Int)))))], [], []⟩) (fun zz => zz ≤ x.length ∧ (List.range zz).all (fun i => a3n (x.getD (i : Int).toNat default) (y.getD (i : Int).toNat default)) = true) (fun zz => x.length - zz) (0) ?_ (a0e ⟨rfl, rfl, rfl, rfl, trivial⟩ trivial trivial rfl) (fun zz hx => ?_)
  ·exact ⟨Nat.zero_le _, rfl⟩
  obtain ⟨k, rfl⟩ : ∃ v, v = zz := ⟨_, rfl⟩
  replace hx : k ≤ x.length ∧ (List.range k).all (fun i => a3n (x.getD (i : Int).toNat default) (y.getD (i : Int).toNat default)) = true := hx
  obtain ⟨hk, hall⟩ := hx
  show Ok _ _ _ _ _ (⟨[(0, .one (.dv [] (a0x (x)))), (1, .one (.dv [] (a0x (y)))), (12, .one (.dv [] (.int .i64 ((((x)).length : Int))))), (13, .one (.dv [] (.int .i64 ((k : Int)))))], [], []⟩ : St)
  iterate 3 refine z ?_
  refine a0q ?_
  refine yQ rfl (fun c2 => ?_) fun c2 => ?_
  ·have d2 := of_decide_eq_true c2
   iterate 8 refine z ?_
   refine a0q ?_
   refine a1M (oB := []) (oK := []) (by kernel_rfl) rfl rfl ?_
   refine zD 0 ?_
   refine zD 1 ?_
   refine zD 2 ?_
   refine zD 3 ?_
   refine zD 4 ?_
   refine zD 5 ?_
   refine zD 6 ?_
   refine zD 7 ?_
   refine zD 8 ?_
   refine a1J (by kernel_rfl) ?_
   refine z ?_
   refine yQ rfl (fun c3 => ?_) fun c3 => ?_
   ·have d3 := a2D c3
    iterate 10 refine z ?_
    exact (c7B (k := k) (by omega) (by have h := c3; simpa [a3n] using h)).symm
   ·have d3 := a2E c3
    iterate 3 refine z ?_
    refine a0k ?_
    iterate 3 refine z ?_
    refine ⟨k + 1, ?_, ?_, a0e ⟨rfl, rfl, rfl, rfl, trivial⟩ trivial trivial rfl⟩
    ·exact ⟨by omega, a6k hall (by have h := c3; simpa [a3n] using h)⟩
    ·omega
  ·have d2 := of_decide_eq_false c2
   iterate 10 refine z ?_
   exact (b9O d1 hall (by omega)).symm
theorem b1g {x y : List UInt8}  : PFn Tryz.prog 52 [.one (.dv [] (a0x (x))), .one (.dv [] (a0x (y)))] (.one (.dv [] (.bool (eqL a3n x y)))) := by
 refine ⟨a0v Tryz.func52 rfl Tryz.ntmps52 Tryz.results52 rfl (fun C => ?_)⟩
 refine a0E (x := .tmp 0) (a0a rfl) fun f0 => ?_
 refine a0E (x := .tmp 1) (a0a rfl) fun f1 => ?_
 iterate 6 refine z ?_
 refine zC Tryz.call87 ?_ (hf := c6t)
 iterate 4 refine z ?_
 rfl
theorem c2D {x y : List UInt8}  : PFn Tryz.prog 40 [.one (.dv [] (a0x (x))), .one (.dv [] (a0x (y)))] (.one (.dv [] (.bool (eqL a3n x y)))) := by
 refine ⟨a0v Tryz.func40 rfl Tryz.ntmps40 Tryz.results40 rfl (fun C => ?_)⟩
 refine a0E (x := .tmp 0) (a0a rfl) fun f0 => ?_
 refine a0E (x := .tmp 1) (a0a rfl) fun f1 => ?_
 iterate 5 refine z ?_
 refine yO rfl rfl (a4G hT rfl rfl rfl rfl (a0a rfl)) rfl ?_
 refine z ?_
 refine yO rfl rfl (a4G hT rfl rfl rfl rfl (a0a rfl)) rfl ?_
 iterate 5 refine z ?_
 exact (c2l x y).symm
theorem c7Q {α : Type} {q : List α} {n k : Nat} {d : α} (h : k < n) : (q.take n).getD k d = q.getD k d := by simp [List.getD, List.getElem?_take, h]
def a1Q (n : Str) (f : a3c) : Bool := sEq f.1 n
def a0Y (r : a0y) (n : Str) : Int × Bool := if a0u (a1Q n) r 0 < 0 then (0, false) else ((r.getD (a0u (a1Q n) r 0).toNat default).2, true)
theorem a7S {α : Type} {p : α → Bool} : ∀ (xs : List α) (i : Int), 0 ≤ i → a0u p xs i < i + xs.length ∨ a0u p xs i = -1
 | [], i, h => .inr rfl
 | x :: xs, i, h => by
  rw [a0u]
  split
  ·left; simp; omega
  ·rcases a7S (p := p) xs (i + 1) (by omega) with h1 | h1
   ·left; simp only [List.length_cons]; omega
   ·exact .inr h1
theorem c6z {r : a0y} {n : Str} {k : Nat} (h : (r.take k).any (a1Q n) = false) (hk : k < r.length) (hp : a1Q n (r.getD k default) = true) : a0Y r n = ((r.getD (k : Int).toNat default).2, true) := by
 have := a6A (p := a1Q n) (d := default) h hk hp
 rw [a0Y, this, if_neg (by omega)]
theorem c7L {r : a0y} {n : Str} {k : Nat} (h : (r.take k).any (a1Q n) = false) (hk : k = r.length) : a0Y r n = (0, false) := by
 rw [a0Y, a6G (p := a1Q n) h hk]; rfl
theorem b8P {p : a0L → Bool} {xs : List a0L} {k : Nat} (hk : k < xs.length) : (xs.take (k + 1)).filter p = (xs.take k).filter p ++ (if p (xs.getD (k : Int).toNat default) then [xs.getD (k : Int).toNat default] else []) := by
 rw [List.take_add_one, List.getElem?_eq_getElem hk, List.filter_append]
 have : xs.getD (k : Int).toNat default = xs[k] := by simp [List.getD, List.getElem?_eq_getElem hk]
 rw [this]
 simp only [Option.toList_some, List.filter_cons, List.filter_nil]
theorem a5Q (x : a0L) : x.2.length ≤ a1e x := by unfold a1e a2W a1c; omega
theorem c4U {x : a3c} {n : Str}  : PFn Tryz.prog 163 [.agg [(.dv [] (.str (x.1))), (.dv [] (.int .i64 (x.2)))], .ref [] [.str (n)]] (.one (.dv [] (.bool (a1Q n x)))) := by
 refine ⟨a0v Tryz.func163 rfl Tryz.ntmps163 Tryz.results163 rfl (fun C => ?_)⟩
 refine yF 0 0 rfl rfl fun f0_0 => ?_
 refine yF 0 1 rfl rfl fun f0_1 => ?_
 iterate 13 refine z ?_
 rfl
theorem c1L {x : a0y} {n : Str}  : PFn Tryz.prog 162 [.one (.dv [] (a0w (x))), .fn 163 [[.str (n)]]] (.one (.dv [] (.int .i64 (a0u (a1Q n) x 0)))) := by
 refine ⟨a0v Tryz.func162 rfl Tryz.ntmps162 Tryz.results162 rfl (fun C => ?_)⟩
 refine a0E (x := .tmp 0) (a0a rfl) fun f0 => ?_
 iterate 10 refine z ?_
 refine a0X (ι := Nat) (fun zz => ⟨[(0, .one (.dv [] (a0w (x)))), (1, .fn 163 [[.str (n)]]), (7, .one (.dv [] (.int .i64 ((((x)).length : Int))))), (8, .one (.dv [] (.int .i64 ((zz : Int)))))], [], []⟩) (fun zz => zz ≤ x.length ∧ (x.take zz).any (a1Q n) = false) (fun zz => x.length - zz) (0) ?_ (a0e ⟨rfl, rfl, rfl, rfl, trivial⟩ trivial trivial rfl) (fun zz hx => ?_)
 ·exact ⟨Nat.zero_le _, rfl⟩
 obtain ⟨k, rfl⟩ : ∃ v, v = zz := ⟨_, rfl⟩
 replace hx : k ≤ x.length ∧ (x.take k).any (a1Q n) = false := hx
 obtain ⟨hk, hall⟩ := hx
 show Ok _ _ _ _ _ (⟨[(0, .one (.dv [] (a0w (x)))), (1, .fn 163 [[.str (n)]]), (7, .one (.dv [] (.int .i64 ((((x)).length : Int))))), (8, .one (.dv [] (.int .i64 ((k : Int)))))], [], []⟩ : St)
 iterate 3 refine z ?_
 refine a0q ?_
 refine yQ rfl (fun c1 => ?_) fun c1 => ?_
 ·have d1 := of_decide_eq_true c1
  iterate 14 refine z ?_
  refine b0b rfl rfl rfl (a0a rfl) Tryz.call163 c4U (a0g (a0a rfl) (a0s (a0d a0c (a0d a0c a0r))) a0m) rfl rfl ?_
  refine z ?_
  refine yQ rfl (fun c2 => ?_) fun c2 => ?_
  ·iterate 11 refine z ?_
   exact (a6A (p := a1Q n) (d := default) hall (by omega) c2).symm
  ·iterate 3 refine z ?_
   refine a0k ?_
   iterate 3 refine z ?_
   refine ⟨k + 1, ?_, ?_, a0e ⟨rfl, rfl, rfl, rfl, trivial⟩ trivial trivial rfl⟩
   ·exact ⟨by omega, a6H (d := default) hall (by omega) c2⟩
   ·omega
 ·have d1 := of_decide_eq_false c1
  iterate 10 refine z ?_
  exact (a6G (p := a1Q n) hall (by omega)).symm
theorem b9x {x : a0y} {n : Str}  : PFn Tryz.prog 146 [.agg [(.dv [] (a0w (x)))], .one (.dv [] (.str (n)))] (.one (.dv [] (.int .i64 (a0u (a1Q n) x 0)))) := by
 refine ⟨a0v Tryz.func146 rfl Tryz.ntmps146 Tryz.results146 rfl (fun C => ?_)⟩
 refine yF 0 0 rfl rfl fun f0_0 => ?_
 refine a0E (x := .tmp 1) (a0a rfl) fun f1 => ?_
 iterate 8 refine z ?_
 refine yO rfl rfl (b0P rfl (a0a rfl)) rfl ?_
 refine a3a rfl rfl rfl Tryz.call162 c1L (a0g (a0a rfl) (a0D a0c) (a0g (a0a rfl) (b4o (b1o rfl rfl b2r)) a0m)) rfl rfl ?_
 iterate 4 refine z ?_
 rfl
theorem a6m {x : a0y} {n : Str}  : PFn Tryz.prog 127 [.agg [(.dv [] (a0w (x)))], .one (.dv [] (.str (n)))] (.tup [(false, [(.dv [] (.int .i64 ((a0Y x n).1)))]), (false, [(.dv [] (.bool ((a0Y x n).2)))])]) := by
 refine ⟨a0v Tryz.func127 rfl Tryz.ntmps127 Tryz.results127 rfl (fun C => ?_)⟩
 refine yF 0 0 rfl rfl fun f0_0 => ?_
 refine a0E (x := .tmp 1) (a0a rfl) fun f1 => ?_
 iterate 8 refine z ?_
 refine zC Tryz.call146 ?_ (hf := b9x)
 iterate 7 refine z ?_
 refine yQ rfl (fun c1 => ?_) fun c1 => ?_
 ·have d1 := of_decide_eq_true c1
  iterate 6 refine z ?_
  refine a1h (a0i rfl) (a0i rfl) rfl rfl ?_
  have h : a0Y x n = (0, false) := by rw [a0Y, if_pos d1]
  rw [h] <;> rfl
 ·have d1 := of_decide_eq_false c1
  have hlt := a7S (p := a1Q n) x 0 (by omega)
  iterate 13 refine z ?_
  refine a1h (a0i rfl) (a0i rfl) rfl rfl ?_
  have h : a0Y x n = ((x.getD (a0u (a1Q n) x 0).toNat default).2, true) := by rw [a0Y, if_neg d1]
  rw [h] <;> rfl
theorem a7o {x : a0y} {n : Str}  : PFn Tryz.prog 110 [.agg [(.dv [] (a0w (x)))], .one (.dv [] (.str (n)))] (.tup [(false, [(.dv [] (.int .i64 ((a0Y x n).1)))]), (false, [(.dv [] (.bool ((a0Y x n).2)))])]) := by
 refine ⟨a0v Tryz.func110 rfl Tryz.ntmps110 Tryz.results110 rfl (fun C => ?_)⟩
 refine yF 0 0 rfl rfl fun f0_0 => ?_
 refine a0E (x := .tmp 1) (a0a rfl) fun f1 => ?_
 iterate 10 refine z ?_
 refine a0X (ι := Nat) (fun zz => ⟨[(1, .one (.dv [] (.str (n)))), (2, .box 2 0), (6, .one (.dv [] (.int .i64 ((zz : Int)))))], [(2, 78, [(.dv [] (a0w (x)))])], []⟩) (fun zz => zz ≤ x.length ∧ (x.take zz).any (a1Q n) = false) (fun zz => x.length - zz) (0) ?_ (a0e ⟨rfl, rfl, rfl, trivial⟩ ⟨rfl, trivial⟩ trivial rfl) (fun zz hx => ?_)
 ·exact ⟨Nat.zero_le _, rfl⟩
 obtain ⟨k, rfl⟩ : ∃ v, v = zz := ⟨_, rfl⟩
 replace hx : k ≤ x.length ∧ (x.take k).any (a1Q n) = false := hx
 obtain ⟨hk, hall⟩ := hx
 show Ok _ _ _ _ _ (⟨[(1, .one (.dv [] (.str (n)))), (2, .box 2 0), (6, .one (.dv [] (.int .i64 ((k : Int)))))], [(2, 78, [(.dv [] (a0w (x)))])], []⟩ : St)
 iterate 8 refine z ?_
 refine yQ rfl (fun c1 => ?_) fun c1 => ?_
 ·have d1 := of_decide_eq_true c1
  iterate 14 refine z ?_
  refine yQ rfl (fun c2 => ?_) fun c2 => ?_
  ·iterate 16 refine z ?_
   refine a1h (a0i rfl) (a0i rfl) rfl rfl ?_
   rw [c6z hall (by omega) c2] <;> rfl
  ·iterate 3 refine z ?_
   refine a0k ?_
   iterate 4 refine z ?_
   refine ⟨k + 1, ?_, ?_, a0e ⟨rfl, rfl, rfl, trivial⟩ ⟨rfl, trivial⟩ trivial rfl⟩
   ·exact ⟨by omega, a6H (d := default) hall (by omega) c2⟩
   ·omega
 ·have d1 := of_decide_eq_false c1
  iterate 10 refine z ?_
  refine a1h (a0i rfl) (a0i rfl) rfl rfl ?_
  rw [c7L hall (by omega)] <;> rfl
theorem a7V {x : a0y} (hb : x.length ≤ 1099511627776) : KFn Tryz.prog 117 [.agg [(.dv [] (a0w (x)))]] (.agg [(.key 3)]) [(3, some (a0b false (a0w (x))))] := by
 refine ⟨a0v Tryz.func117 rfl Tryz.ntmps117 Tryz.results117 rfl (fun C => ?_)⟩
 refine yF 0 0 rfl rfl fun f0_0 => ?_
 iterate 5 refine z ?_
 refine a2f (k := 3) hT rfl rfl rfl rfl rfl rfl rfl rfl ?_
 iterate 2 refine z ?_
 refine a8y (k := 3) (cs := (x).flatMap a1d) (n := (x).length) hT rfl rfl rfl rfl rfl rfl rfl (a0a rfl) rfl rfl rfl (a0a rfl) (a3r (fun _ => rfl) _) (by first | (dsimp only [a0b]; omega) | omega) (by first | (dsimp only [a0b]; omega) | omega) (Nat.zero_add _) (rfl) ?_
 simp only [a0l, a0j, SV.kill, CV.kill, kk, Nat.reduceBEq]
 refine yO rfl rfl (a1x hT hB rfl rfl rfl (a1r (a0a rfl) rfl rfl rfl rfl rfl a1w)) rfl ?_
 iterate 2 refine z ?_
 refine a0h (σ' := ⟨[(2, .box 2 0)], [(2, 78, [(.key 3)])], [(3, some (a0b false (a0w (x))))]⟩) (a0e ⟨rfl, trivial⟩ ⟨rfl, trivial⟩ ⟨rfl, trivial⟩ rfl) ?_
 refine z ?_
 refine a1p (a0F hT rfl rfl rfl rfl) ?_
 exact ⟨rfl, rfl⟩
theorem a8d {x : a0y} (hb : x.length ≤ 1099511627776) : KFn Tryz.prog 103 [.agg [(.dv [] (a0w (x)))]] (.agg [(.key 3)]) [(3, some (a0b false (a0w (x))))] := by
 refine ⟨a0v Tryz.func103 rfl Tryz.ntmps103 Tryz.results103 rfl (fun C => ?_)⟩
 refine yF 0 0 rfl rfl fun f0_0 => ?_
 iterate 5 refine z ?_
 refine a2f (k := 3) hT rfl rfl rfl rfl rfl rfl rfl rfl ?_
 iterate 2 refine z ?_
 refine a8y (k := 3) (cs := (x).flatMap a1d) (n := (x).length) hT rfl rfl rfl rfl rfl rfl rfl (a0a rfl) rfl rfl rfl (a0a rfl) (a3r (fun _ => rfl) _) (by first | (dsimp only [a0b]; omega) | omega) (by first | (dsimp only [a0b]; omega) | omega) (Nat.zero_add _) (rfl) ?_
 simp only [a0l, a0j, SV.kill, CV.kill, kk, Nat.reduceBEq]
 refine yO rfl rfl (a1x hT hB rfl rfl rfl (a1r (a0a rfl) rfl rfl rfl rfl rfl a1w)) rfl ?_
 iterate 2 refine z ?_
 refine a0h (σ' := ⟨[(2, .box 2 0)], [(2, 78, [(.key 3)])], [(3, some (a0b false (a0w (x))))]⟩) (a0e ⟨rfl, trivial⟩ ⟨rfl, trivial⟩ ⟨rfl, trivial⟩ rfl) ?_
 refine z ?_
 refine a1p (a0F hT rfl rfl rfl rfl) ?_
 exact ⟨rfl, rfl⟩
theorem b7D {x : a0L} (hb : x.2.length ≤ 1099511627776) : KFn Tryz.prog 81 [.agg [(.dv [] (.int .i64 (x.1.1))), (.dv [] (.int .i64 (x.1.2.1))), (.dv [] (.str (x.1.2.2))), (.dv [] (a0w (x.2)))]] (.agg [(.dv [] (.int .i64 (x.1.1))), (.dv [] (.int .i64 (x.1.2.1))), (.dv [] (.str (x.1.2.2))), (.key 7003)]) [(7003, some (a0b false (a0w (x.2))))] := by
 refine ⟨a0v Tryz.func81 rfl Tryz.ntmps81 Tryz.results81 rfl (fun C => ?_)⟩
 refine yF 0 0 rfl rfl fun f0_0 => ?_
 refine yF 0 1 rfl rfl fun f0_1 => ?_
 refine yF 0 2 rfl rfl fun f0_2 => ?_
 refine yF 0 3 rfl rfl fun f0_3 => ?_
 iterate 4 refine z ?_
 refine a0q ?_
 refine a1M (oB := [1, 2]) (oK := []) (by kernel_rfl) rfl rfl ?_
 refine zD 0 ?_
 refine zD 1 ?_
 refine zD 2 ?_
 refine zD 3 ?_
 refine a2j 7000 4 rfl (by kernel_rfl) rfl rfl rfl Tryz.call117 (a7V (by omega)) (a0g (a0a rfl) (a0s (a0d a0c a0r)) a0m) rfl rfl rfl rfl rfl ?_
 refine a2F 5 rfl (by kernel_rfl) rfl rfl (a1x hT hB rfl rfl rfl (a1r (a0a rfl) rfl rfl rfl rfl rfl (a1r (a0a rfl) rfl rfl rfl rfl rfl a1w))) rfl rfl rfl rfl ?_
 refine b5S 6 rfl (by kernel_rfl) rfl (by kernel_rfl) (a4V hT rfl rfl rfl (a0a rfl) (a0a rfl) rfl rfl rfl rfl rfl rfl) (by kernel_rfl) ?_
 refine z ?_
 refine a0h (σ' := ⟨[(2, .box 2 0)], [(2, 107, [(.dv [] (.int .i64 (x.1.1))), (.dv [] (.int .i64 (x.1.2.1))), (.dv [] (.str (x.1.2.2))), (.key 7003)])], [(7003, some (a0b false (a0w (x.2))))]⟩) (a0e ⟨rfl, trivial⟩ ⟨rfl, trivial⟩ ⟨rfl, trivial⟩ rfl) ?_
 refine z ?_
 refine a1p (a0F hT rfl rfl rfl rfl) ?_
 exact ⟨rfl, rfl⟩
theorem b4C {x : a0L} (hb : x.2.length ≤ 1099511627776) : KFn Tryz.prog 63 [.agg [(.dv [] (.int .i64 (x.1.1))), (.dv [] (.int .i64 (x.1.2.1))), (.dv [] (.str (x.1.2.2))), (.dv [] (a0w (x.2)))]] (.agg [(.dv [] (.int .i64 (x.1.1))), (.dv [] (.int .i64 (x.1.2.1))), (.dv [] (.str (x.1.2.2))), (.key 7003)]) [(7003, some (a0b false (a0w (x.2))))] := by
 refine ⟨a0v Tryz.func63 rfl Tryz.ntmps63 Tryz.results63 rfl (fun C => ?_)⟩
 refine yF 0 0 rfl rfl fun f0_0 => ?_
 refine yF 0 1 rfl rfl fun f0_1 => ?_
 refine yF 0 2 rfl rfl fun f0_2 => ?_
 refine yF 0 3 rfl rfl fun f0_3 => ?_
 iterate 4 refine z ?_
 refine a0q ?_
 refine a1M (oB := [1, 2]) (oK := []) (by kernel_rfl) rfl rfl ?_
 refine zD 0 ?_
 refine zD 1 ?_
 refine zD 2 ?_
 refine zD 3 ?_
 refine a2j 7000 4 rfl (by kernel_rfl) rfl rfl rfl Tryz.call103 (a8d (by omega)) (a0g (a0a rfl) (a0s (a0d a0c a0r)) a0m) rfl rfl rfl rfl rfl ?_
 refine a2F 5 rfl (by kernel_rfl) rfl rfl (a1x hT hB rfl rfl rfl (a1r (a0a rfl) rfl rfl rfl rfl rfl (a1r (a0a rfl) rfl rfl rfl rfl rfl a1w))) rfl rfl rfl rfl ?_
 refine b5S 6 rfl (by kernel_rfl) rfl (by kernel_rfl) (a4V hT rfl rfl rfl (a0a rfl) (a0a rfl) rfl rfl rfl rfl rfl rfl) (by kernel_rfl) ?_
 refine z ?_
 refine a0h (σ' := ⟨[(2, .box 2 0)], [(2, 107, [(.dv [] (.int .i64 (x.1.1))), (.dv [] (.int .i64 (x.1.2.1))), (.dv [] (.str (x.1.2.2))), (.key 7003)])], [(7003, some (a0b false (a0w (x.2))))]⟩) (a0e ⟨rfl, trivial⟩ ⟨rfl, trivial⟩ ⟨rfl, trivial⟩ rfl) ?_
 refine z ?_
 refine a1p (a0F hT rfl rfl rfl rfl) ?_
 exact ⟨rfl, rfl⟩
theorem a2O {k : IntKind} {a b : Int} (h : a = b) : some (SV.one (CV.dv [] (DV.int k a))) = some (SV.one (CV.dv [] (DV.int k b))) := by rw [h]
def mkL {α : Type} (m : α → Int → α) (c : α → Nat) : List α → Int → List α
 | [], _ => []
 | x :: xs, k => m x k :: mkL m c xs (k + (c x : Int))
theorem a6M {α : Type} {m : α → Int → α} {c : α → Nat} : ∀ (xs : List α) (k : Int), (mkL m c xs k).length = xs.length
 | [], _ => rfl
 | x :: xs, k => by rw [mkL, List.length_cons, a6M xs, List.length_cons]
theorem b4h {α : Type} {m : α → Int → α} {c : α → Nat} : ∀ (xs ys : List α) (k : Int), mkL m c (xs ++ ys) k = mkL m c xs k ++ mkL m c ys (k + (wSum c xs : Int))
 | [], ys, k => by simp [mkL, wSum]
 | x :: xs, ys, k => by
  rw [List.cons_append, mkL, b4h xs ys, mkL, List.cons_append]
  congr 3
  have : wSum c (x :: xs) = c x + wSum c xs := by simp [wSum]
  omega
theorem a4e {α : Type} [Inhabited α] {xs : List α} {j : Nat} (h : j < xs.length) : xs.getD (j : Int).toNat default = xs[j] := by simp [List.getD, List.getElem?_eq_getElem h]
theorem c0e {α : Type} [Inhabited α] {m : α → Int → α} {c : α → Nat} {xs : List α} {j : Nat} {k : Int} (h : j < xs.length) : mkL m c (xs.take (j + 1)) k = mkL m c (xs.take j) k ++ [m (xs.getD (j : Int).toNat default) (k + (wSum c (xs.take j) : Int))] := by
 rw [List.take_add_one, List.getElem?_eq_getElem h, b4h, a4e h]; rfl
theorem b1L {α : Type} [Inhabited α] {m : α → Int → α} {c : α → Nat} {xs : List α} {j : Nat} {k : Int} (h : j < xs.length) : (mkL m c xs k).getD (j : Int).toNat default = m (xs.getD (j : Int).toNat default) (k + (wSum c (xs.take j) : Int)) := by
 have e : mkL m c xs k = mkL m c (xs.take (j + 1)) k ++ mkL m c (xs.drop (j + 1)) (k + (wSum c (xs.take (j + 1)) : Int)) := by rw [← b4h, List.take_append_drop]
 rw [e, c0e h]
 have hl : (mkL m c (xs.take j) k).length = j := by rw [a6M, List.length_take]; omega
 have : (j : Int).toNat = j := by omega
 rw [List.getD, List.append_assoc, List.getElem?_append_right (by omega), show (j : Int).toNat - (mkL m c (xs.take j) k).length = 0 by omega]
 rfl
theorem c3z {α : Type} [Inhabited α] {enc : α → List DV} {xs : List α} {j : Nat} (h : j < xs.length) : (xs.drop j).flatMap enc = enc (xs.getD (j : Int).toNat default) ++ (xs.drop (j + 1)).flatMap enc := by
 rw [List.drop_eq_getElem_cons h, List.flatMap_cons, a4e h]
theorem a9f {α : Type} [Inhabited α] {enc : α → List DV} {A : List DV} {xs : List α} {j : Nat} (h : j < xs.length) : A ++ (xs.drop j).flatMap enc = mid A (enc (xs.getD (j : Int).toNat default)) ((xs.drop (j + 1)).flatMap enc) := by rw [c3z h]; rfl
theorem a8Y {α : Type} [Inhabited α] {m : α → Int → α} {c : α → Nat} {enc : α → List DV} {B C : List DV} {xs : List α} {j : Nat} {k : Int} (h : j < xs.length) (hB : B = enc (m (xs.getD (j : Int).toNat default) (k + (wSum c (xs.take j) : Int)))) : mid ((mkL m c (xs.take j) k).flatMap enc) B C = (mkL m c (xs.take (j + 1)) k).flatMap enc ++ C := by
 unfold mid
 rw [c0e h, List.flatMap_append, hB]; simp
theorem b0l {α : Type} {m : α → Int → α} {c : α → Nat} {enc : α → List DV} {e sz : Nat} {xs : List α} {j : Nat} {k : Int} (h : xs.length ≤ j) : some (some (KC.mk true e sz xs.length ((mkL m c (xs.take j) k).flatMap enc ++ (xs.drop j).flatMap enc))) = some (some (a0b true (a2H e sz enc (mkL m c xs k)))) := by
 rw [List.take_of_length_le h, List.drop_eq_nil_of_le h]
 simp only [a2H, a0b, a6M, List.flatMap_nil, List.append_nil]
theorem a2M {α : Type} {m : α → Int → α} {c : α → Nat} {enc : α → List DV} {sz : Nat} (hs : ∀ x, (enc x).length = sz) {xs : List α} {j : Nat} {k : Int} (h : j ≤ xs.length) : ((mkL m c (xs.take j) k).flatMap enc).length = j * sz := by
 rw [a6W hs, a6M, List.length_take, Nat.min_eq_left h]
theorem a7u {α : Type} {c w : α → Nat} (h : ∀ x, c x ≤ 8 * (1 + w x)) : ∀ xs : List α, wSum c xs ≤ 8 * a1c w xs
 | [] => by simp [wSum, a1c]
 | x :: xs => by
  have := a7u h xs
  have := h x
  simp only [wSum, a1c, List.map_cons, List.sum_cons, List.length_cons] at *
  omega
theorem a8X {α : Type} {c : α → Nat} (h : ∀ x, 1 ≤ c x) : ∀ xs : List α, xs.length ≤ wSum c xs
 | [] => by simp [wSum]
 | x :: xs => by
  have := a8X h xs
  have := h x
  simp only [wSum, List.map_cons, List.sum_cons, List.length_cons] at *
  omega
theorem b8Q {α : Type} {n : Nat} : ∀ xs : List α, wSum (fun _ => n) xs = n * xs.length
 | [] => by simp [wSum]
 | x :: xs => by
  have := b8Q (n := n) xs
  simp only [wSum, List.map_cons, List.sum_cons, List.length_cons] at *
  rw [Nat.mul_add]; omega
def a5l (k : Nat) (out : Str) : Str := if k = 0 then out else a5l (k / 10) (a1u [UInt8.ofNat (IntKind.u8.wrap (48 + (k : Int) % 10)).toNat] ++ out)
termination_by k
theorem c3D {k : Nat} {out : Str} (h : 0 < (k : Int)) : a5l (k / 10) (a1u [UInt8.ofNat (IntKind.u8.wrap (48 + (k : Int) % 10)).toNat] ++ out) = a5l k out := by rw [a5l.eq_def k out, if_neg (by omega)]
theorem c6J {k : Nat} {out : Str} (h : ¬ 0 < (k : Int)) : a5l k out = out := by rw [a5l.eq_def k out, if_pos (by omega)]
def a3H (k : Int) : Str := if k ≤ 0 then ByteArray.mk #[109, 48] else ByteArray.mk #[109] ++ a5l k.toNat (ByteArray.mk #[])
def a6t (_ : UInt8) (k : Int) : UInt8 := UInt8.ofNat (k % 256).toNat
def a2X (_ : UInt8) : Nat := 1
def a4C (x : a3c) (k : Int) : a3c := (a3H (k), (k) + (1))
def a1U (x : a3c) : Nat := 2
theorem c0V (x : a3c) : a1U x ≤ 8 * (1 + a1S x) := by
 simp only [a1U]
 omega
def a3O (x : a0L) (k : Int) : a0L := ((k, (k) + (1), a3H (((k) + (1)) + (1))), mkL a4C a1U (x.2) ((((k) + (1)) + (1)) + (1)))
def a1C (x : a0L) : Nat := 3 + wSum a1U (x.2)
theorem c2M (x : a0L) : a1C x ≤ 8 * (1 + a1e x) := by
 have h3 := a7u c0V (x.2)
 simp only [a1C, a1e, a3q, a2W]
 omega
theorem a5w {k : Int} (hk : k ≤ 9000000000000000000) : PFn Tryz.prog 58 [.one (.dv [] (.int .i64 (k)))] (.one (.dv [] (.str (a3H k)))) := by
 refine ⟨a0v Tryz.func58 rfl Tryz.ntmps58 Tryz.results58 rfl (fun C => ?_)⟩
 refine a0E (x := .tmp 0) (a0a rfl) fun f0 => ?_
 iterate 8 refine z ?_
 refine yQ rfl (fun c1 => ?_) fun c1 => ?_
 ·have d1 := of_decide_eq_true c1
  iterate 6 refine z ?_
  rw [a3H, if_pos d1]
 ·have d1 := of_decide_eq_false c1
  iterate 7 refine z ?_
  refine a0X (ι := Nat × Str) (fun zz => ⟨[(0, .one (.dv [] (.int .i64 ((zz.1 : Int))))), (2, .one (.dv [] (.str (ByteArray.mk #[])))), (3, .one (.dv [] (.str (zz.2))))], [], []⟩) (fun zz => a5l zz.1 zz.2 = a5l k.toNat (ByteArray.mk #[]) ∧ zz.2.size + zz.1 ≤ k.toNat) (fun zz => zz.1) ((k.toNat, ByteArray.mk #[])) ?_ (a0e ⟨(a2O (by show k = ((k.toNat : Nat) : Int); omega)), rfl, rfl, trivial⟩ trivial trivial rfl) (fun zz hx => ?_)
  ·exact ⟨rfl, by show 0 + _ ≤ _; omega⟩
  obtain ⟨n, out⟩ := zz
  replace hx : a5l n out = a5l k.toNat (ByteArray.mk #[]) ∧ out.size + n ≤ k.toNat := hx
  obtain ⟨hd, hs⟩ := hx
  show Ok _ _ _ _ _ (⟨[(0, .one (.dv [] (.int .i64 ((n : Int))))), (2, .one (.dv [] (.str (ByteArray.mk #[])))), (3, .one (.dv [] (.str (out))))], [], []⟩ : St)
  iterate 5 refine z ?_
  refine yQ rfl (fun c2 => ?_) fun c2 => ?_
  ·have d2 := of_decide_eq_true c2
   have hs1 : (a1u [UInt8.ofNat (IntKind.u8.wrap (48 + (n : Int) % 10)).toNat]).size = 1 := rfl
   iterate 5 refine z ?_
   refine yO rfl rfl (b6D rfl (a0a rfl) (a0p (a0o rfl)) (by omega) (by omega)) rfl ?_
   refine z ?_
   refine yO rfl rfl (a4r hT rfl rfl rfl (a0a rfl)) rfl ?_
   refine a3B (k := 12) (js := []) hT rfl rfl rfl rfl rfl rfl rfl rfl rfl (a0a rfl) rfl rfl (a0t (a0W rfl) a1m rfl) (by decide) (by decide) rfl rfl ?_
   simp only [a0l, a0j, SV.kill, CV.kill, kk, Nat.reduceBEq]
   refine yO rfl rfl (c2h (b := UInt8.ofNat (IntKind.u8.wrap ((48) + (((n : Int)) % (10)))).toNat) hT rfl rfl rfl rfl (a6e (c := ⟨false, 5, 1, 1, [.int .u8 (IntKind.u8.wrap ((48) + (((n : Int)) % (10))))]⟩) (a0a rfl) rfl) (c2W _)) rfl ?_
   refine z ?_
   refine yO rfl rfl (c0q rfl (a0a rfl) (a0a rfl) (by omega)) rfl ?_
   iterate 2 refine z ?_
   refine a0k ?_
   refine z ?_
   refine yO rfl rfl (b4U rfl (a0a rfl) (a0p (a0o rfl)) (by omega) (by omega)) rfl ?_
   refine z ?_
   refine a1t ?_
   iterate 2 refine z ?_
   refine ⟨(n / 10, a1u [UInt8.ofNat (IntKind.u8.wrap (48 + (n : Int) % 10)).toNat] ++ out), ?_, ?_, a0e ⟨rfl, rfl, rfl, trivial⟩ trivial trivial rfl⟩
   ·exact ⟨(c3D d2).trans hd, by rw [ByteArray.size_append, hs1]; dsimp only; omega⟩
   ·dsimp only; omega
  ·have d2 := of_decide_eq_false c2
   have hs9 : (ByteArray.mk #[109]).size = 1 := rfl
   iterate 7 refine z ?_
   refine yO rfl rfl (c0q rfl (a0M (a0N rfl)) (a0a rfl) (by omega)) rfl ?_
   iterate 4 refine z ?_
   rw [a3H, if_neg d1, ← hd, c6J d2]
theorem c1l {x : List (a3c)} {k : Int} (h0 : 0 ≤ k) (h1 : k + (wSum a1U x : Int) ≤ 4611686018427387904) : WFn Tryz.prog 100 [.one (.key 0), .one (.dv [] (.int .i64 (k)))] (.one (.dv [] (.int .i64 (k + (wSum a1U x : Int))))) [(0, a0b true (.sl 128 2 (x.length) (x.flatMap a1d)))] [(0, a0b true (a0w (mkL a4C a1U x k)))] := by
 refine ⟨a0v Tryz.func100 rfl Tryz.ntmps100 Tryz.results100 rfl (fun C => ?_)⟩
 have hln : x.length ≤ wSum a1U x := a8X (fun _ => by simp only [a1U]; omega) x
 refine a0E (x := .tmp 1) (a0a rfl) fun f1 => ?_
 iterate 8 refine z ?_
 refine a0X (ι := Nat) (fun zz => ⟨[(0, .one (.key 0)), (1, .one (.dv [] (.int .i64 (k + (wSum a1U (x.take zz) : Int))))), (4, .one (.dv [] (.int .i64 (0)))), (5, .one (.dv [] (.int .i64 ((zz : Int)))))], [], [(0, some ⟨true, 128, 2, x.length, (mkL a4C a1U (x.take zz) k).flatMap a1d ++ (x.drop zz).flatMap a1d⟩)]⟩) (fun zz => zz ≤ x.length) (fun zz => x.length - zz) (0) ?_ (a0e ⟨rfl, (a2O (by simp [wSum])), rfl, rfl, trivial⟩ trivial ⟨rfl, trivial⟩ rfl) (fun zz hx => ?_)
 ·exact Nat.zero_le _
 obtain ⟨j, rfl⟩ : ∃ v, v = zz := ⟨_, rfl⟩
 replace hx : j ≤ x.length := hx
 have hw := fun h => a2T a1U x j h
 show Ok _ _ _ _ _ (⟨[(0, .one (.key 0)), (1, .one (.dv [] (.int .i64 (k + (wSum a1U (x.take j) : Int))))), (4, .one (.dv [] (.int .i64 (0)))), (5, .one (.dv [] (.int .i64 ((j : Int)))))], [], [(0, some ⟨true, 128, 2, x.length, (mkL a4C a1U (x.take j) k).flatMap a1d ++ (x.drop j).flatMap a1d⟩)]⟩ : St)
 iterate 4 refine z ?_
 refine yO rfl rfl (a2S (n := (x.length)) hT rfl rfl (a0a rfl) rfl rfl) rfl ?_
 iterate 2 refine z ?_
 refine yQ rfl (fun c1 => ?_) fun c1 => ?_
 ·have d1 := of_decide_eq_true c1
  have hj : j < x.length := by omega
  obtain ⟨hw1, hw2⟩ := hw hj
  have hc : a1U (x.getD (j : Int).toNat default) = 2 := rfl
  refine b0j (k := 0) (cs' := mid ((mkL a4C a1U (x.take j) k).flatMap a1d) [.str ((x.getD (j : Int).toNat default).1), .int .i64 ((x.getD (j : Int).toNat default).2)] ((x.drop (j + 1)).flatMap a1d)) rfl (a9f hj) ?_
  iterate 8 refine z ?_
  refine zC Tryz.call58 ?_ (hf := a5w (by omega))
  refine yO rfl rfl (a2v (i := j) hT rfl rfl rfl (a0a rfl) rfl (a0a rfl) rfl (by show _ < (x.length); omega)) rfl ?_
  refine z ?_
  refine a3g (js := []) (cs := mid ((mkL a4C a1U (x.take j) k).flatMap a1d) [.str (a3H (k + (wSum a1U (x.take j) : Int))), .int .i64 ((x.getD (j : Int).toNat default).2)] ((x.drop (j + 1)).flatMap a1d)) hT rfl rfl rfl rfl (a0a rfl) (a0a rfl) rfl rfl rfl rfl (a0t (a0W rfl) a1m rfl) (by decide) (by decide) rfl (a5y (off := (j * 2 + 0)) (n := 1) (j := 0) (a2M (sz := 2) (fun _ => rfl) (Nat.le_of_lt hj)) (by omega) (Nat.le_of_ble_eq_true rfl)) (a4I (off := (j * 2 + 0)) (j := 0) (a2M (sz := 2) (fun _ => rfl) (Nat.le_of_lt hj)) (by omega) rfl (Nat.le_of_ble_eq_true rfl)) ?_
  simp only [a0l, a0j, SV.kill, CV.kill, kk, Nat.reduceBEq]
  iterate 10 refine z ?_
  refine yO rfl rfl (a2v (i := j) hT rfl rfl rfl (a0a rfl) rfl (a0a rfl) rfl (by show _ < (x.length); omega)) rfl ?_
  refine z ?_
  refine a3g (js := []) (cs := mid ((mkL a4C a1U (x.take j) k).flatMap a1d) [.str (a3H (k + (wSum a1U (x.take j) : Int))), .int .i64 ((k + (wSum a1U (x.take j) : Int)) + (1))] ((x.drop (j + 1)).flatMap a1d)) hT rfl rfl rfl rfl (a0a rfl) (a0a rfl) rfl rfl rfl rfl (a0t (a0W rfl) a1m rfl) (by decide) (by decide) rfl (a5y (off := (j * 2 + 1)) (n := 1) (j := 1) (a2M (sz := 2) (fun _ => rfl) (Nat.le_of_lt hj)) (by omega) (Nat.le_of_ble_eq_true rfl)) (a4I (off := (j * 2 + 1)) (j := 1) (a2M (sz := 2) (fun _ => rfl) (Nat.le_of_lt hj)) (by omega) rfl (Nat.le_of_ble_eq_true rfl)) ?_
  simp only [a0l, a0j, SV.kill, CV.kill, kk, Nat.reduceBEq]
  refine z ?_
  refine a0k ?_
  iterate 3 refine z ?_
  refine a1t ?_
  iterate 2 refine z ?_
  refine a0k ?_
  iterate 4 refine z ?_
  refine ⟨j + 1, ?_, ?_, a0e ⟨rfl, (a2O (by omega)), rfl, rfl, trivial⟩ trivial ⟨(congrArg (fun cs => some (some (KC.mk true 128 2 x.length cs))) (a8Y (by omega) (by rfl))), trivial⟩ rfl⟩
  ·omega
  ·omega
 ·have d1 := of_decide_eq_false c1
  iterate 9 refine z ?_
  refine a0h (σ' := ⟨[(4, .one (.dv [] (.int .i64 (k + (wSum a1U (x.take j) : Int)))))], [], [(0, some (a0b true (a0w (mkL a4C a1U x k))))]⟩) (a0e ⟨rfl, trivial⟩ trivial ⟨(b0l (by omega)), trivial⟩ rfl) ?_
  refine z ?_
  refine a1p (a0i rfl) ⟨eqI ?_, b0k rfl⟩
  have hq := a4w a1U x j (by omega); omega
theorem c6I {x y : List (a3c)} {k : Int} (hy : y = mkL a4C a1U x k) (h0 : 0 ≤ k) (h1 : k + (wSum a1U x : Int) ≤ 4611686018427387904) : PFn Tryz.prog 101 [.one (.dv [] (a0w (y))), .one (.dv [] (.int .i64 (k)))] (.one (.dv [] (.int .i64 (k + (wSum a1U x : Int))))) := by
 refine ⟨a0v Tryz.func101 rfl Tryz.ntmps101 Tryz.results101 rfl (fun C => ?_)⟩
 refine a0E (x := .tmp 0) (a0a rfl) fun f0 => ?_
 refine a0E (x := .tmp 1) (a0a rfl) fun f1 => ?_
 iterate 8 refine z ?_
 refine a0X (ι := Nat) (fun zz => ⟨[(0, .one (.dv [] (a0w (y)))), (1, .one (.dv [] (.int .i64 (k + (wSum a1U (x.take zz) : Int))))), (5, .one (.dv [] (.int .i64 ((zz : Int)))))], [], []⟩) (fun zz => zz ≤ x.length) (fun zz => x.length - zz) (0) ?_ (a0e ⟨rfl, (a2O (by simp [wSum])), rfl, trivial⟩ trivial trivial rfl) (fun zz hx => ?_)
 ·exact Nat.zero_le _
 obtain ⟨j, rfl⟩ : ∃ v, v = zz := ⟨_, rfl⟩
 replace hx : j ≤ x.length := hx
 have hw := fun h => a2T a1U x j h
 have hyl : y.length = x.length := by rw [hy, a6M]
 show Ok _ _ _ _ _ (⟨[(0, .one (.dv [] (a0w (y)))), (1, .one (.dv [] (.int .i64 (k + (wSum a1U (x.take j) : Int))))), (5, .one (.dv [] (.int .i64 ((j : Int)))))], [], []⟩ : St)
 iterate 7 refine z ?_
 refine yQ rfl (fun c1 => ?_) fun c1 => ?_
 ·have d1 := of_decide_eq_true c1
  have hj : j < x.length := by omega
  obtain ⟨hw1, hw2⟩ := hw hj
  have hc : a1U (x.getD (j : Int).toNat default) = 2 := rfl
  have he : y.getD (j : Int).toNat default = a4C (x.getD (j : Int).toNat default) (k + (wSum a1U (x.take j) : Int)) := by rw [hy]; exact b1L hj
  iterate 4 refine z ?_
  refine a0q ?_
  refine a0q ?_
  refine a1M (oB := []) (oK := []) (by kernel_rfl) rfl rfl ?_
  refine zD 0 ?_
  refine zD 1 ?_
  refine zD 2 ?_
  refine zD 3 ?_
  refine zD 4 ?_
  refine zD 5 ?_
  refine a3D 6 rfl (by kernel_rfl) rfl rfl rfl Tryz.call58 (a5w (by omega)) (a0g (a0a rfl) (a0D a0c) a0m) rfl rfl rfl rfl ?_
  refine zD 7 ?_
  refine a1J (by kernel_rfl) ?_
  refine z ?_
  refine yQ rfl (fun c2 => ?_) fun c2 => ?_
  ·iterate 11 refine z ?_
   exfalso; rw [he] at c2; simp [a4C, sEq] at c2
  ·iterate 17 refine z ?_
   refine yQ rfl (fun c3 => ?_) fun c3 => ?_
   ·have d3 := a2D c3
    iterate 11 refine z ?_
    exfalso; rw [he] at c3; simp [a4C, sEq] at c3
   ·have d3 := a2E c3
    iterate 2 refine z ?_
    refine a0k ?_
    iterate 3 refine z ?_
    refine a1t ?_
    iterate 2 refine z ?_
    refine a0k ?_
    iterate 4 refine z ?_
    refine ⟨j + 1, ?_, ?_, a0e ⟨rfl, (a2O (by omega)), rfl, trivial⟩ trivial trivial rfl⟩
    ·omega
    ·omega
 ·have d1 := of_decide_eq_false c1
  iterate 11 refine z ?_
  have hq := a4w a1U x j (by omega); omega
theorem c2b {x : List (a0L)} {k : Int} (h0 : 0 ≤ k) (h1 : k + (wSum a1C x : Int) ≤ 4611686018427387904) : WFn Tryz.prog 59 [.one (.key 0), .one (.dv [] (.int .i64 (k)))] (.one (.dv [] (.int .i64 (k + (wSum a1C x : Int))))) [(0, a0b true (.sl 107 4 (x.length) (x.flatMap a0A)))] [(0, a0b true (a0n (mkL a3O a1C x k)))] := by
 refine ⟨a0v Tryz.func59 rfl Tryz.ntmps59 Tryz.results59 rfl (fun C => ?_)⟩
 have hln : x.length ≤ wSum a1C x := a8X (fun _ => by simp only [a1C]; omega) x
 refine a0E (x := .tmp 1) (a0a rfl) fun f1 => ?_
 iterate 8 refine z ?_
 refine a0X (ι := Nat) (fun zz => ⟨[(0, .one (.key 0)), (1, .one (.dv [] (.int .i64 (k + (wSum a1C (x.take zz) : Int))))), (4, .one (.dv [] (.int .i64 (0)))), (5, .one (.dv [] (.int .i64 ((zz : Int)))))], [], [(0, some ⟨true, 107, 4, x.length, (mkL a3O a1C (x.take zz) k).flatMap a0A ++ (x.drop zz).flatMap a0A⟩)]⟩) (fun zz => zz ≤ x.length) (fun zz => x.length - zz) (0) ?_ (a0e ⟨rfl, (a2O (by simp [wSum])), rfl, rfl, trivial⟩ trivial ⟨rfl, trivial⟩ rfl) (fun zz hx => ?_)
 ·exact Nat.zero_le _
 obtain ⟨j, rfl⟩ : ∃ v, v = zz := ⟨_, rfl⟩
 replace hx : j ≤ x.length := hx
 have hw := fun h => a2T a1C x j h
 show Ok _ _ _ _ _ (⟨[(0, .one (.key 0)), (1, .one (.dv [] (.int .i64 (k + (wSum a1C (x.take j) : Int))))), (4, .one (.dv [] (.int .i64 (0)))), (5, .one (.dv [] (.int .i64 ((j : Int)))))], [], [(0, some ⟨true, 107, 4, x.length, (mkL a3O a1C (x.take j) k).flatMap a0A ++ (x.drop j).flatMap a0A⟩)]⟩ : St)
 iterate 4 refine z ?_
 refine yO rfl rfl (a2S (n := (x.length)) hT rfl rfl (a0a rfl) rfl rfl) rfl ?_
 iterate 2 refine z ?_
 refine yQ rfl (fun c1 => ?_) fun c1 => ?_
 ·have d1 := of_decide_eq_true c1
  have hj : j < x.length := by omega
  obtain ⟨hw1, hw2⟩ := hw hj
  have hc : a1C (x.getD (j : Int).toNat default) = 3 + wSum a1U ((x.getD (j : Int).toNat default).2) := rfl
  refine b0j (k := 0) (cs' := mid ((mkL a3O a1C (x.take j) k).flatMap a0A) [.int .i64 ((x.getD (j : Int).toNat default).1.1), .int .i64 ((x.getD (j : Int).toNat default).1.2.1), .str ((x.getD (j : Int).toNat default).1.2.2), a0w ((x.getD (j : Int).toNat default).2)] ((x.drop (j + 1)).flatMap a0A)) rfl (a9f hj) ?_
  iterate 8 refine z ?_
  refine yO rfl rfl (a2v (i := j) hT rfl rfl rfl (a0a rfl) rfl (a0a rfl) rfl (by show _ < (x.length); omega)) rfl ?_
  iterate 2 refine z ?_
  refine a3g (js := []) (cs := mid ((mkL a3O a1C (x.take j) k).flatMap a0A) [.int .i64 (k + (wSum a1C (x.take j) : Int)), .int .i64 ((x.getD (j : Int).toNat default).1.2.1), .str ((x.getD (j : Int).toNat default).1.2.2), a0w ((x.getD (j : Int).toNat default).2)] ((x.drop (j + 1)).flatMap a0A)) hT rfl rfl rfl rfl (a0a rfl) (a0a rfl) rfl rfl rfl rfl (a0t (a0W rfl) a1m rfl) (by decide) (by decide) rfl (a5y (off := ((j * 4 + 0) + 0)) (n := 1) (j := 0) (a2M (sz := 4) (fun _ => rfl) (Nat.le_of_lt hj)) (by omega) (Nat.le_of_ble_eq_true rfl)) (a4I (off := ((j * 4 + 0) + 0)) (j := 0) (a2M (sz := 4) (fun _ => rfl) (Nat.le_of_lt hj)) (by omega) rfl (Nat.le_of_ble_eq_true rfl)) ?_
  simp only [a0l, a0j, SV.kill, CV.kill, kk, Nat.reduceBEq]
  iterate 10 refine z ?_
  refine yO rfl rfl (a2v (i := j) hT rfl rfl rfl (a0a rfl) rfl (a0a rfl) rfl (by show _ < (x.length); omega)) rfl ?_
  iterate 2 refine z ?_
  refine a3g (js := []) (cs := mid ((mkL a3O a1C (x.take j) k).flatMap a0A) [.int .i64 (k + (wSum a1C (x.take j) : Int)), .int .i64 ((k + (wSum a1C (x.take j) : Int)) + (1)), .str ((x.getD (j : Int).toNat default).1.2.2), a0w ((x.getD (j : Int).toNat default).2)] ((x.drop (j + 1)).flatMap a0A)) hT rfl rfl rfl rfl (a0a rfl) (a0a rfl) rfl rfl rfl rfl (a0t (a0W rfl) a1m rfl) (by decide) (by decide) rfl (a5y (off := ((j * 4 + 0) + 1)) (n := 1) (j := 1) (a2M (sz := 4) (fun _ => rfl) (Nat.le_of_lt hj)) (by omega) (Nat.le_of_ble_eq_true rfl)) (a4I (off := ((j * 4 + 0) + 1)) (j := 1) (a2M (sz := 4) (fun _ => rfl) (Nat.le_of_lt hj)) (by omega) rfl (Nat.le_of_ble_eq_true rfl)) ?_
  simp only [a0l, a0j, SV.kill, CV.kill, kk, Nat.reduceBEq]
  iterate 10 refine z ?_
  refine zC Tryz.call58 ?_ (hf := a5w (by omega))
  refine yO rfl rfl (a2v (i := j) hT rfl rfl rfl (a0a rfl) rfl (a0a rfl) rfl (by show _ < (x.length); omega)) rfl ?_
  iterate 2 refine z ?_
  refine a3g (js := []) (cs := mid ((mkL a3O a1C (x.take j) k).flatMap a0A) [.int .i64 (k + (wSum a1C (x.take j) : Int)), .int .i64 ((k + (wSum a1C (x.take j) : Int)) + (1)), .str (a3H (((k + (wSum a1C (x.take j) : Int)) + (1)) + (1))), a0w ((x.getD (j : Int).toNat default).2)] ((x.drop (j + 1)).flatMap a0A)) hT rfl rfl rfl rfl (a0a rfl) (a0a rfl) rfl rfl rfl rfl (a0t (a0W rfl) a1m rfl) (by decide) (by decide) rfl (a5y (off := ((j * 4 + 0) + 2)) (n := 1) (j := 2) (a2M (sz := 4) (fun _ => rfl) (Nat.le_of_lt hj)) (by omega) (Nat.le_of_ble_eq_true rfl)) (a4I (off := ((j * 4 + 0) + 2)) (j := 2) (a2M (sz := 4) (fun _ => rfl) (Nat.le_of_lt hj)) (by omega) rfl (Nat.le_of_ble_eq_true rfl)) ?_
  simp only [a0l, a0j, SV.kill, CV.kill, kk, Nat.reduceBEq]
  iterate 6 refine z ?_
  refine a0k ?_
  iterate 2 refine z ?_
  refine yO rfl rfl (a2v (i := j) hT rfl rfl rfl (a0a rfl) rfl (a0a rfl) rfl (by show _ < (x.length); omega)) rfl ?_
  iterate 2 refine z ?_
  refine yO rfl rfl (b5d hT rfl rfl (a0a rfl) rfl (b1P (off := ((j * 4 + 3) + 0)) (j := 3) (a2M (sz := 4) (fun _ => rfl) (Nat.le_of_lt hj)) (by omega) rfl)) rfl ?_
  refine z ?_
  refine b7N (t := 42) (ccs := mid ((mkL a3O a1C (x.take j) k).flatMap a0A) [.int .i64 (k + (wSum a1C (x.take j) : Int)), .int .i64 ((k + (wSum a1C (x.take j) : Int)) + (1)), .str (a3H (((k + (wSum a1C (x.take j) : Int)) + (1)) + (1))), a0w (mkL a4C a1U ((x.getD (j : Int).toNat default).2) ((((k + (wSum a1C (x.take j) : Int)) + (1)) + (1)) + (1)))] ((x.drop (j + 1)).flatMap a0A)) 5044 rfl rfl rfl Tryz.call100 (c1l (by omega) (by omega)) rfl rfl (b1P (off := ((j * 4 + 3) + 0)) (j := 3) (a2M (sz := 4) (fun _ => rfl) (Nat.le_of_lt hj)) (by omega) rfl) rfl (a3X (a0a rfl) (a4D (a4M rfl)) (a3X (a0a rfl) (a4D (a4l rfl)) a6s)) rfl rfl (b7m (off := ((j * 4 + 3) + 0)) (j := 3) (a2M (sz := 4) (fun _ => rfl) (Nat.le_of_lt hj)) (by omega) rfl (Nat.lt_of_lt_of_le (Nat.lt_succ_self _) (Nat.le_of_ble_eq_true rfl))) ?_
  simp only [a0l, a0j, SV.kill, CV.kill, kk, Nat.reduceBEq]
  refine z ?_
  refine a1t ?_
  iterate 2 refine z ?_
  refine a0k ?_
  iterate 4 refine z ?_
  refine ⟨j + 1, ?_, ?_, a0e ⟨rfl, (a2O (by omega)), rfl, rfl, trivial⟩ trivial ⟨(congrArg (fun cs => some (some (KC.mk true 107 4 x.length cs))) (a8Y (by omega) (by rfl))), trivial⟩ rfl⟩
  ·omega
  ·omega
 ·have d1 := of_decide_eq_false c1
  iterate 9 refine z ?_
  refine a0h (σ' := ⟨[(4, .one (.dv [] (.int .i64 (k + (wSum a1C (x.take j) : Int)))))], [], [(0, some (a0b true (a0n (mkL a3O a1C x k))))]⟩) (a0e ⟨rfl, trivial⟩ trivial ⟨(b0l (by omega)), trivial⟩ rfl) ?_
  refine z ?_
  refine a1p (a0i rfl) ⟨eqI ?_, b0k rfl⟩
  have hq := a4w a1C x j (by omega); omega
theorem c3i {x y : List (a0L)} {k : Int} (hy : y = mkL a3O a1C x k) (h0 : 0 ≤ k) (h1 : k + (wSum a1C x : Int) ≤ 4611686018427387904) : PFn Tryz.prog 60 [.one (.dv [] (a0n (y))), .one (.dv [] (.int .i64 (k)))] (.one (.dv [] (.int .i64 (k + (wSum a1C x : Int))))) := by
 refine ⟨a0v Tryz.func60 rfl Tryz.ntmps60 Tryz.results60 rfl (fun C => ?_)⟩
 refine a0E (x := .tmp 0) (a0a rfl) fun f0 => ?_
 refine a0E (x := .tmp 1) (a0a rfl) fun f1 => ?_
 iterate 8 refine z ?_
 refine a0X (ι := Nat) (fun zz => ⟨[(0, .one (.dv [] (a0n (y)))), (1, .one (.dv [] (.int .i64 (k + (wSum a1C (x.take zz) : Int))))), (5, .one (.dv [] (.int .i64 ((zz : Int)))))], [], []⟩) (fun zz => zz ≤ x.length) (fun zz => x.length - zz) (0) ?_ (a0e ⟨rfl, (a2O (by simp [wSum])), rfl, trivial⟩ trivial trivial rfl) (fun zz hx => ?_)
 ·exact Nat.zero_le _
 obtain ⟨j, rfl⟩ : ∃ v, v = zz := ⟨_, rfl⟩
 replace hx : j ≤ x.length := hx
 have hw := fun h => a2T a1C x j h
 have hyl : y.length = x.length := by rw [hy, a6M]
 show Ok _ _ _ _ _ (⟨[(0, .one (.dv [] (a0n (y)))), (1, .one (.dv [] (.int .i64 (k + (wSum a1C (x.take j) : Int))))), (5, .one (.dv [] (.int .i64 ((j : Int)))))], [], []⟩ : St)
 iterate 7 refine z ?_
 refine yQ rfl (fun c1 => ?_) fun c1 => ?_
 ·have d1 := of_decide_eq_true c1
  have hj : j < x.length := by omega
  obtain ⟨hw1, hw2⟩ := hw hj
  have hc : a1C (x.getD (j : Int).toNat default) = 3 + wSum a1U ((x.getD (j : Int).toNat default).2) := rfl
  have he : y.getD (j : Int).toNat default = a3O (x.getD (j : Int).toNat default) (k + (wSum a1C (x.take j) : Int)) := by rw [hy]; exact b1L hj
  iterate 15 refine z ?_
  refine yQ rfl (fun c2 => ?_) fun c2 => ?_
  ·have d2 := a2D c2
   iterate 11 refine z ?_
   exfalso; rw [he] at c2; simp [a3O, sEq] at c2
  ·have d2 := a2E c2
   iterate 18 refine z ?_
   refine yQ rfl (fun c3 => ?_) fun c3 => ?_
   ·have d3 := a2D c3
    iterate 11 refine z ?_
    exfalso; rw [he] at c3; simp [a3O, sEq] at c3
   ·have d3 := a2E c3
    iterate 7 refine z ?_
    refine a0q ?_
    refine a0q ?_
    refine a1M (oB := []) (oK := []) (by kernel_rfl) rfl rfl ?_
    refine zD 0 ?_
    refine zD 1 ?_
    refine zD 2 ?_
    refine zD 3 ?_
    refine zD 4 ?_
    refine zD 5 ?_
    refine zD 6 ?_
    refine a3D 7 rfl (by kernel_rfl) rfl rfl rfl Tryz.call58 (a5w (by omega)) (a0g (a0a rfl) (a0D a0c) a0m) rfl rfl rfl rfl ?_
    refine zD 8 ?_
    refine a1J (by kernel_rfl) ?_
    refine z ?_
    refine yQ rfl (fun c4 => ?_) fun c4 => ?_
    ·iterate 11 refine z ?_
     exfalso; rw [he] at c4; simp [a3O, sEq] at c4
    ·iterate 15 refine z ?_
     refine zC Tryz.call101 ?_ (hf := c6I (x := (x.getD (j : Int).toNat default).2) (by rw [he]; rfl) (by omega) (by omega))
     iterate 6 refine z ?_
     refine yQ rfl (fun c5 => ?_) fun c5 => ?_
     ·have d5 := of_decide_eq_true c5
      iterate 10 refine z ?_
      exfalso; omega
     ·have d5 := of_decide_eq_false c5
      iterate 3 refine z ?_
      refine a0k ?_
      iterate 4 refine z ?_
      refine ⟨j + 1, ?_, ?_, a0e ⟨rfl, (a2O (by omega)), rfl, trivial⟩ trivial trivial rfl⟩
      ·omega
      ·omega
 ·have d1 := of_decide_eq_false c1
  iterate 11 refine z ?_
  have hq := a4w a1C x j (by omega); omega
def a3P (x : a0P) (k : Int) : a0P := (a3H (k), mkL a3O a1C (x.2.1) ((k) + (1)), ((k) + (1)) + (wSum a1C (x.2.1) : Int))
def a1q (x : a0P) : Nat := 2 + wSum a1C (x.2.1)
theorem b7h (x : a0P) : a1q x ≤ 8 * (1 + a0T x) := by
 have h1 := a7u c2M (x.2.1)
 simp only [a1q, a0T]
 omega
theorem c6N {x : List (a0P)} {k : Int} (h0 : 0 ≤ k) (h1 : k + (wSum a1q x : Int) ≤ 4611686018427387904) : WFn Tryz.prog 29 [.one (.key 0), .one (.dv [] (.int .i64 (k)))] (.one (.dv [] (.int .i64 (k + (wSum a1q x : Int))))) [(0, a0b true (.sl 67 3 (x.length) (x.flatMap a1n)))] [(0, a0b true (a0z (mkL a3P a1q x k)))] := by
 refine ⟨a0v Tryz.func29 rfl Tryz.ntmps29 Tryz.results29 rfl (fun C => ?_)⟩
 have hln : x.length ≤ wSum a1q x := a8X (fun _ => by simp only [a1q]; omega) x
 refine a0E (x := .tmp 1) (a0a rfl) fun f1 => ?_
 iterate 8 refine z ?_
 refine a0X (ι := Nat) (fun zz => ⟨[(0, .one (.key 0)), (1, .one (.dv [] (.int .i64 (k + (wSum a1q (x.take zz) : Int))))), (4, .one (.dv [] (.int .i64 (0)))), (5, .one (.dv [] (.int .i64 ((zz : Int)))))], [], [(0, some ⟨true, 67, 3, x.length, (mkL a3P a1q (x.take zz) k).flatMap a1n ++ (x.drop zz).flatMap a1n⟩)]⟩) (fun zz => zz ≤ x.length) (fun zz => x.length - zz) (0) ?_ (a0e ⟨rfl, (a2O (by simp [wSum])), rfl, rfl, trivial⟩ trivial ⟨rfl, trivial⟩ rfl) (fun zz hx => ?_)
 ·exact Nat.zero_le _
 obtain ⟨j, rfl⟩ : ∃ v, v = zz := ⟨_, rfl⟩
 replace hx : j ≤ x.length := hx
 have hw := fun h => a2T a1q x j h
 show Ok _ _ _ _ _ (⟨[(0, .one (.key 0)), (1, .one (.dv [] (.int .i64 (k + (wSum a1q (x.take j) : Int))))), (4, .one (.dv [] (.int .i64 (0)))), (5, .one (.dv [] (.int .i64 ((j : Int)))))], [], [(0, some ⟨true, 67, 3, x.length, (mkL a3P a1q (x.take j) k).flatMap a1n ++ (x.drop j).flatMap a1n⟩)]⟩ : St)
 iterate 4 refine z ?_
 refine yO rfl rfl (a2S (n := (x.length)) hT rfl rfl (a0a rfl) rfl rfl) rfl ?_
 iterate 2 refine z ?_
 refine yQ rfl (fun c1 => ?_) fun c1 => ?_
 ·have d1 := of_decide_eq_true c1
  have hj : j < x.length := by omega
  obtain ⟨hw1, hw2⟩ := hw hj
  have hc : a1q (x.getD (j : Int).toNat default) = 2 + wSum a1C ((x.getD (j : Int).toNat default).2.1) := rfl
  refine b0j (k := 0) (cs' := mid ((mkL a3P a1q (x.take j) k).flatMap a1n) [.str ((x.getD (j : Int).toNat default).1), a0n ((x.getD (j : Int).toNat default).2.1), .int .i64 ((x.getD (j : Int).toNat default).2.2)] ((x.drop (j + 1)).flatMap a1n)) rfl (a9f hj) ?_
  iterate 8 refine z ?_
  refine zC Tryz.call58 ?_ (hf := a5w (by omega))
  refine yO rfl rfl (a2v (i := j) hT rfl rfl rfl (a0a rfl) rfl (a0a rfl) rfl (by show _ < (x.length); omega)) rfl ?_
  refine z ?_
  refine a3g (js := []) (cs := mid ((mkL a3P a1q (x.take j) k).flatMap a1n) [.str (a3H (k + (wSum a1q (x.take j) : Int))), a0n ((x.getD (j : Int).toNat default).2.1), .int .i64 ((x.getD (j : Int).toNat default).2.2)] ((x.drop (j + 1)).flatMap a1n)) hT rfl rfl rfl rfl (a0a rfl) (a0a rfl) rfl rfl rfl rfl (a0t (a0W rfl) a1m rfl) (by decide) (by decide) rfl (a5y (off := (j * 3 + 0)) (n := 1) (j := 0) (a2M (sz := 3) (fun _ => rfl) (Nat.le_of_lt hj)) (by omega) (Nat.le_of_ble_eq_true rfl)) (a4I (off := (j * 3 + 0)) (j := 0) (a2M (sz := 3) (fun _ => rfl) (Nat.le_of_lt hj)) (by omega) rfl (Nat.le_of_ble_eq_true rfl)) ?_
  simp only [a0l, a0j, SV.kill, CV.kill, kk, Nat.reduceBEq]
  iterate 9 refine z ?_
  refine yO rfl rfl (a2v (i := j) hT rfl rfl rfl (a0a rfl) rfl (a0a rfl) rfl (by show _ < (x.length); omega)) rfl ?_
  refine z ?_
  refine yO rfl rfl (b5d hT rfl rfl (a0a rfl) rfl (b1P (off := (j * 3 + 1)) (j := 1) (a2M (sz := 3) (fun _ => rfl) (Nat.le_of_lt hj)) (by omega) rfl)) rfl ?_
  refine z ?_
  refine b7N (t := 24) (ccs := mid ((mkL a3P a1q (x.take j) k).flatMap a1n) [.str (a3H (k + (wSum a1q (x.take j) : Int))), a0n (mkL a3O a1C ((x.getD (j : Int).toNat default).2.1) ((k + (wSum a1q (x.take j) : Int)) + (1))), .int .i64 ((x.getD (j : Int).toNat default).2.2)] ((x.drop (j + 1)).flatMap a1n)) 5026 rfl rfl rfl Tryz.call59 (c2b (by omega) (by omega)) rfl rfl (b1P (off := (j * 3 + 1)) (j := 1) (a2M (sz := 3) (fun _ => rfl) (Nat.le_of_lt hj)) (by omega) rfl) rfl (a3X (a0a rfl) (a4D (a4M rfl)) (a3X (a0a rfl) (a4D (a4l rfl)) a6s)) rfl rfl (b7m (off := (j * 3 + 1)) (j := 1) (a2M (sz := 3) (fun _ => rfl) (Nat.le_of_lt hj)) (by omega) rfl (Nat.lt_of_lt_of_le (Nat.lt_succ_self _) (Nat.le_of_ble_eq_true rfl))) ?_
  simp only [a0l, a0j, SV.kill, CV.kill, kk, Nat.reduceBEq]
  iterate 6 refine z ?_
  refine yO rfl rfl (a2v (i := j) hT rfl rfl rfl (a0a rfl) rfl (a0a rfl) rfl (by show _ < (x.length); omega)) rfl ?_
  refine z ?_
  refine a3g (js := []) (cs := mid ((mkL a3P a1q (x.take j) k).flatMap a1n) [.str (a3H (k + (wSum a1q (x.take j) : Int))), a0n (mkL a3O a1C ((x.getD (j : Int).toNat default).2.1) ((k + (wSum a1q (x.take j) : Int)) + (1))), .int .i64 (((k + (wSum a1q (x.take j) : Int)) + (1)) + (wSum a1C ((x.getD (j : Int).toNat default).2.1) : Int))] ((x.drop (j + 1)).flatMap a1n)) hT rfl rfl rfl rfl (a0a rfl) (a0a rfl) rfl rfl rfl rfl (a0t (a0W rfl) a1m rfl) (by decide) (by decide) rfl (a5y (off := (j * 3 + 2)) (n := 1) (j := 2) (a2M (sz := 3) (fun _ => rfl) (Nat.le_of_lt hj)) (by omega) (Nat.le_of_ble_eq_true rfl)) (a4I (off := (j * 3 + 2)) (j := 2) (a2M (sz := 3) (fun _ => rfl) (Nat.le_of_lt hj)) (by omega) rfl (Nat.le_of_ble_eq_true rfl)) ?_
  simp only [a0l, a0j, SV.kill, CV.kill, kk, Nat.reduceBEq]
  refine z ?_
  refine a0k ?_
  iterate 3 refine z ?_
  refine a1t ?_
  iterate 2 refine z ?_
  refine a0k ?_
  iterate 4 refine z ?_
  refine ⟨j + 1, ?_, ?_, a0e ⟨rfl, (a2O (by omega)), rfl, rfl, trivial⟩ trivial ⟨(congrArg (fun cs => some (some (KC.mk true 67 3 x.length cs))) (a8Y (by omega) (by rfl))), trivial⟩ rfl⟩
  ·omega
  ·omega
 ·have d1 := of_decide_eq_false c1
  iterate 9 refine z ?_
  refine a0h (σ' := ⟨[(4, .one (.dv [] (.int .i64 (k + (wSum a1q (x.take j) : Int)))))], [], [(0, some (a0b true (a0z (mkL a3P a1q x k))))]⟩) (a0e ⟨rfl, trivial⟩ trivial ⟨(b0l (by omega)), trivial⟩ rfl) ?_
  refine z ?_
  refine a1p (a0i rfl) ⟨eqI ?_, b0k rfl⟩
  have hq := a4w a1q x j (by omega); omega
theorem c1Q {x y : List (a0P)} {k : Int} (hy : y = mkL a3P a1q x k) (h0 : 0 ≤ k) (h1 : k + (wSum a1q x : Int) ≤ 4611686018427387904) : PFn Tryz.prog 31 [.one (.dv [] (a0z (y))), .one (.dv [] (.int .i64 (k)))] (.one (.dv [] (.int .i64 (k + (wSum a1q x : Int))))) := by
 refine ⟨a0v Tryz.func31 rfl Tryz.ntmps31 Tryz.results31 rfl (fun C => ?_)⟩
 refine a0E (x := .tmp 0) (a0a rfl) fun f0 => ?_
 refine a0E (x := .tmp 1) (a0a rfl) fun f1 => ?_
 iterate 8 refine z ?_
 refine a0X (ι := Nat) (fun zz => ⟨[(0, .one (.dv [] (a0z (y)))), (1, .one (.dv [] (.int .i64 (k + (wSum a1q (x.take zz) : Int))))), (5, .one (.dv [] (.int .i64 ((zz : Int)))))], [], []⟩) (fun zz => zz ≤ x.length) (fun zz => x.length - zz) (0) ?_ (a0e ⟨rfl, (a2O (by simp [wSum])), rfl, trivial⟩ trivial trivial rfl) (fun zz hx => ?_)
 ·exact Nat.zero_le _
 obtain ⟨j, rfl⟩ : ∃ v, v = zz := ⟨_, rfl⟩
 replace hx : j ≤ x.length := hx
 have hw := fun h => a2T a1q x j h
 have hyl : y.length = x.length := by rw [hy, a6M]
 show Ok _ _ _ _ _ (⟨[(0, .one (.dv [] (a0z (y)))), (1, .one (.dv [] (.int .i64 (k + (wSum a1q (x.take j) : Int))))), (5, .one (.dv [] (.int .i64 ((j : Int)))))], [], []⟩ : St)
 iterate 7 refine z ?_
 refine yQ rfl (fun c1 => ?_) fun c1 => ?_
 ·have d1 := of_decide_eq_true c1
  have hj : j < x.length := by omega
  obtain ⟨hw1, hw2⟩ := hw hj
  have hc : a1q (x.getD (j : Int).toNat default) = 2 + wSum a1C ((x.getD (j : Int).toNat default).2.1) := rfl
  have he : y.getD (j : Int).toNat default = a3P (x.getD (j : Int).toNat default) (k + (wSum a1q (x.take j) : Int)) := by rw [hy]; exact b1L hj
  iterate 4 refine z ?_
  refine a0q ?_
  refine a0q ?_
  refine a1M (oB := []) (oK := []) (by kernel_rfl) rfl rfl ?_
  refine zD 0 ?_
  refine zD 1 ?_
  refine zD 2 ?_
  refine zD 3 ?_
  refine zD 4 ?_
  refine zD 5 ?_
  refine a3D 6 rfl (by kernel_rfl) rfl rfl rfl Tryz.call58 (a5w (by omega)) (a0g (a0a rfl) (a0D a0c) a0m) rfl rfl rfl rfl ?_
  refine zD 7 ?_
  refine a1J (by kernel_rfl) ?_
  refine z ?_
  refine yQ rfl (fun c2 => ?_) fun c2 => ?_
  ·iterate 11 refine z ?_
   exfalso; rw [he] at c2; simp [a3P, sEq] at c2
  ·iterate 14 refine z ?_
   refine zC Tryz.call60 ?_ (hf := c3i (x := (x.getD (j : Int).toNat default).2.1) (by rw [he]; rfl) (by omega) (by omega))
   iterate 7 refine z ?_
   refine yQ rfl (fun c3 => ?_) fun c3 => ?_
   ·have d3 := of_decide_eq_true c3
    iterate 11 refine z ?_
    exfalso; omega
   ·have d3 := of_decide_eq_false c3
    iterate 12 refine z ?_
    refine yQ rfl (fun c4 => ?_) fun c4 => ?_
    ·have d4 := a2D c4
     iterate 11 refine z ?_
     exfalso; rw [he] at c4; simp [a3P, sEq] at c4
    ·have d4 := a2E c4
     iterate 2 refine z ?_
     refine a0k ?_
     iterate 3 refine z ?_
     refine a1t ?_
     iterate 2 refine z ?_
     refine a0k ?_
     iterate 4 refine z ?_
     refine ⟨j + 1, ?_, ?_, a0e ⟨rfl, (a2O (by omega)), rfl, trivial⟩ trivial trivial rfl⟩
     ·omega
     ·omega
 ·have d1 := of_decide_eq_false c1
  iterate 11 refine z ?_
  have hq := a4w a1q x j (by omega); omega
def a4g (a b : Int) : Int := if a < b then -1 else if b < a then 1 else 0
def a2U (a b : a0S) : Int := if !a1f a || !a1f b then 0 else if ¬ a.1 = b.1 then a4g a.1 b.1 else if ¬ a.2.1 = b.2.1 then a4g a.2.1 b.2.1 else a4x a.2.2 b.2.2
def a7D (a b : Bool) : Int := if a then -1 else if b then 1 else 0
theorem a7z {a b : Int} : a4g a b = 0 ↔ a = b := by unfold a4g; split <;> (try split) <;> omega
theorem b0V {a b : a0S} (h : (!a1f a || !a1f b) = true) : a2U a b = 0 := by rw [a2U, if_pos h]
theorem a9g {a b : a0S} (h : (!a1f a || !a1f b) = false) (h1 : ¬ a.1 = b.1) : a2U a b = a4g a.1 b.1 := by rw [a2U, if_neg (by rw [h]; simp), if_pos h1]
theorem a9a {a b : a0S} (h : (!a1f a || !a1f b) = false) (h1 : a.1 = b.1) (h2 : ¬ a.2.1 = b.2.1) : a2U a b = a4g a.2.1 b.2.1 := by rw [a2U, if_neg (by rw [h]; simp), if_neg (by simp [h1]), if_pos h2]
theorem a9B {a b : a0S} (h : (!a1f a || !a1f b) = false) (h1 : a.1 = b.1) (h2 : a.2.1 = b.2.1) : a2U a b = a4x a.2.2 b.2.2 := by rw [a2U, if_neg (by rw [h]; simp), if_neg (by simp [h1]), if_neg (by simp [h2])]
theorem c7J (a b : Str) : (!(sLt a b || sEq a b)) = sLt b a := by rw [a8r, Bool.not_not]
def a5S (k : a0S) (r : a3S) : Bool := !((!a1f k || (r.1 && !a1f r.2.2.1)) || (r.2.1 && !a1f r.2.2.2)) && ((!r.1 || decide (a2U r.2.2.1 k ≤ 0)) && (!r.2.1 || decide (a2U k r.2.2.2 ≤ 0)))
theorem b5v (a b : Int) : a4g a b = - a4g b a := by unfold a4g; split <;> split <;> (try split) <;> omega
theorem c7D (a b : Str) : a4x a b = - a4x b a := by
 unfold a4x
 cases h1 : sLt a b <;> cases h2 : sLt b a <;> simp
 have h := a8r a b
 rw [h1, h2] at h
 simp at h
theorem a9x (a b : a0S) : a2U a b = - a2U b a := by
 by_cases h : (!a1f a || !a1f b) = true
 ·rw [b0V h, b0V (by rw [Bool.or_comm]; exact h)]; rfl
 ·have h : (!a1f a || !a1f b) = false := by simpa using h
  have h' : (!a1f b || !a1f a) = false := by rw [Bool.or_comm]; exact h
  by_cases h1 : a.1 = b.1
  ·by_cases h2 : a.2.1 = b.2.1
   ·rw [a9B h h1 h2, a9B h' h1.symm h2.symm, c7D]
   ·rw [a9a h h1 h2, a9a h' h1.symm (fun e => h2 e.symm), b5v]
  ·rw [a9g h h1, a9g h' (fun e => h1 e.symm), b5v]
theorem b2J {x y : Bool}  : PFn Tryz.prog 136 [.one (.dv [] (.bool (x))), .one (.dv [] (.bool (y)))] (.one (.dv [] (.int .i64 (a7D x y)))) := by
 refine ⟨a0v Tryz.func136 rfl Tryz.ntmps136 Tryz.results136 rfl (fun C => ?_)⟩
 iterate 7 refine z ?_
 refine yQ rfl (fun c1 => ?_) fun c1 => ?_
 ·iterate 6 refine z ?_
  rw [a7D, if_pos c1]
 ·iterate 6 refine z ?_
  refine yQ rfl (fun c2 => ?_) fun c2 => ?_
  ·iterate 6 refine z ?_
   rw [a7D, if_neg (by rw [c1]; simp), if_pos c2]
  ·iterate 7 refine z ?_
   rw [a7D, if_neg (by rw [c1]; simp), if_neg (by rw [c2]; simp)]
theorem b7t {x y : Int}  : PFn Tryz.prog 142 [.one (.dv [] (.int .i64 (x))), .one (.dv [] (.int .i64 (y)))] (.one (.dv [] (.int .i64 (a4g x y)))) := by
 refine ⟨a0v Tryz.func142 rfl Tryz.ntmps142 Tryz.results142 rfl (fun C => ?_)⟩
 refine a0E (x := .tmp 0) (a0a rfl) fun f0 => ?_
 refine a0E (x := .tmp 1) (a0a rfl) fun f1 => ?_
 iterate 11 refine z ?_
 refine yQ rfl (fun c1 => ?_) fun c1 => ?_
 ·have d1 := of_decide_eq_true c1
  iterate 7 refine z ?_
  rw [a4g, if_pos d1]
 ·have d1 := of_decide_eq_false c1
  iterate 6 refine z ?_
  refine yQ rfl (fun c2 => ?_) fun c2 => ?_
  ·have d2 := of_decide_eq_true c2
   iterate 7 refine z ?_
   rw [a4g, if_neg d1, if_pos d2]
  ·have d2 := of_decide_eq_false c2
   iterate 8 refine z ?_
   rw [a4g, if_neg d1, if_neg d2]
theorem a9K {x y : a0S}  : PFn Tryz.prog 122 [.agg [(.dv [] (.int .i64 (x.1))), (.dv [] (.int .i64 (x.2.1))), (.dv [] (.str (x.2.2)))], .agg [(.dv [] (.int .i64 (y.1))), (.dv [] (.int .i64 (y.2.1))), (.dv [] (.str (y.2.2)))]] (.one (.dv [] (.int .i64 (a2U x y)))) := by
 refine ⟨a0v Tryz.func122 rfl Tryz.ntmps122 Tryz.results122 rfl (fun C => ?_)⟩
 refine yF 0 0 rfl rfl fun f0_0 => ?_
 refine yF 0 1 rfl rfl fun f0_1 => ?_
 refine yF 0 2 rfl rfl fun f0_2 => ?_
 refine yF 1 0 rfl rfl fun f1_0 => ?_
 refine yF 1 1 rfl rfl fun f1_1 => ?_
 refine yF 1 2 rfl rfl fun f1_2 => ?_
 iterate 8 refine z ?_
 refine zC Tryz.call119 ?_ (hf := a6p)
 iterate 3 refine z ?_
 refine a1N (a1A rfl rfl rfl rfl rfl) rfl rfl Tryz.call119 a6p (fun hg => (a0g (a0C rfl hg) (a0s (a0d a0c (a0d a0c (a0d a0c a0r)))) a0m)) rfl rfl ?_
 iterate 3 refine z ?_
 refine yQ rfl (fun c1 => ?_) fun c1 => ?_
 ·iterate 6 refine z ?_
  rw [b0V c1]
 ·iterate 8 refine z ?_
  refine zC Tryz.call142 ?_ (hf := b7t)
  iterate 6 refine z ?_
  refine yQ rfl (fun c2 => ?_) fun c2 => ?_
  ·have d2 := a2D c2
   iterate 7 refine z ?_
   rw [a9g c1 (fun e => d2 (a7z.2 e))]
  ·have d2 := a2E c2
   iterate 8 refine z ?_
   refine zC Tryz.call142 ?_ (hf := b7t)
   iterate 6 refine z ?_
   refine yQ rfl (fun c3 => ?_) fun c3 => ?_
   ·have d3 := a2D c3
    iterate 7 refine z ?_
    rw [a9a c1 (a7z.1 d2) (fun e => d3 (a7z.2 e))]
   ·have d3 := a2E c3
    iterate 7 refine z ?_
    refine zC Tryz.call143 ?_ (hf := c4Z)
    iterate 4 refine z ?_
    rw [a9B c1 (a7z.1 d2) (a7z.1 d3)]
theorem a9u {x y : a0S}  : PFn Tryz.prog 108 [.agg [(.dv [] (.int .i64 (x.1))), (.dv [] (.int .i64 (x.2.1))), (.dv [] (.str (x.2.2)))], .agg [(.dv [] (.int .i64 (y.1))), (.dv [] (.int .i64 (y.2.1))), (.dv [] (.str (y.2.2)))]] (.one (.dv [] (.int .i64 (a2U x y)))) := by
 refine ⟨a0v Tryz.func108 rfl Tryz.ntmps108 Tryz.results108 rfl (fun C => ?_)⟩
 refine yF 0 0 rfl rfl fun f0_0 => ?_
 refine yF 0 1 rfl rfl fun f0_1 => ?_
 refine yF 0 2 rfl rfl fun f0_2 => ?_
 refine yF 1 0 rfl rfl fun f1_0 => ?_
 refine yF 1 1 rfl rfl fun f1_1 => ?_
 refine yF 1 2 rfl rfl fun f1_2 => ?_
 iterate 8 refine z ?_
 refine zC Tryz.call105 ?_ (hf := a5g)
 iterate 3 refine z ?_
 refine a1N (a1A rfl rfl rfl rfl rfl) rfl rfl Tryz.call105 a5g (fun hg => (a0g (a0C rfl hg) (a0s (a0d a0c (a0d a0c (a0d a0c a0r)))) a0m)) rfl rfl ?_
 iterate 3 refine z ?_
 refine yQ rfl (fun c1 => ?_) fun c1 => ?_
 ·iterate 6 refine z ?_
  rw [b0V c1]
 ·iterate 10 refine z ?_
  refine yQ rfl (fun c2 => ?_) fun c2 => ?_
  ·have d2 := a2D c2
   iterate 6 refine z ?_
   refine zC Tryz.call136 ?_ (hf := b2J)
   iterate 5 refine z ?_
   rw [a9g c1 d2]; unfold a7D a4g; split <;> split <;> simp_all <;> omega
  ·have d2 := a2E c2
   iterate 10 refine z ?_
   refine yQ rfl (fun c3 => ?_) fun c3 => ?_
   ·have d3 := a2D c3
    iterate 6 refine z ?_
    refine zC Tryz.call136 ?_ (hf := b2J)
    iterate 5 refine z ?_
    rw [a9a c1 d2 d3]; unfold a7D a4g; split <;> split <;> simp_all <;> omega
   ·have d3 := a2E c3
    iterate 13 refine z ?_
    refine zC Tryz.call136 ?_ (hf := b2J)
    iterate 4 refine z ?_
    rw [a9B c1 d2 d3, c7J]; unfold a7D a4x; rfl
theorem c3u {x : a0S} {y : a3S}  : PFn Tryz.prog 151 [.agg [(.dv [] (.int .i64 (x.1))), (.dv [] (.int .i64 (x.2.1))), (.dv [] (.str (x.2.2)))], .agg [(.dv [] (.bool (y.1))), (.dv [] (.bool (y.2.1))), (.dv [] (.int .i64 (y.2.2.1.1))), (.dv [] (.int .i64 (y.2.2.1.2.1))), (.dv [] (.str (y.2.2.1.2.2))), (.dv [] (.int .i64 (y.2.2.2.1))), (.dv [] (.int .i64 (y.2.2.2.2.1))), (.dv [] (.str (y.2.2.2.2.2)))]] (.one (.dv [] (.bool (a5S x y)))) := by
 refine ⟨a0v Tryz.func151 rfl Tryz.ntmps151 Tryz.results151 rfl (fun C => ?_)⟩
 refine yF 0 0 rfl rfl fun f0_0 => ?_
 refine yF 0 1 rfl rfl fun f0_1 => ?_
 refine yF 0 2 rfl rfl fun f0_2 => ?_
 refine yF 1 2 rfl rfl fun f1_2 => ?_
 refine yF 1 3 rfl rfl fun f1_3 => ?_
 refine yF 1 4 rfl rfl fun f1_4 => ?_
 refine yF 1 5 rfl rfl fun f1_5 => ?_
 refine yF 1 6 rfl rfl fun f1_6 => ?_
 refine yF 1 7 rfl rfl fun f1_7 => ?_
 iterate 8 refine z ?_
 refine zC Tryz.call119 ?_ (hf := a6p)
 iterate 7 refine z ?_
 refine a1N (a4i rfl rfl rfl rfl rfl) rfl rfl Tryz.call119 a6p (fun hg => (a0g (a0C rfl hg) (a0s (a0d a0c (a0d a0c (a0d a0c a0r)))) a0m)) rfl rfl ?_
 iterate 9 refine z ?_
 refine a1N (a4i rfl rfl rfl rfl rfl) rfl rfl Tryz.call119 a6p (fun hg => (a0g (a0C rfl hg) (a0s (a0d a0c (a0d a0c (a0d a0c a0r)))) a0m)) rfl rfl ?_
 iterate 4 refine z ?_
 refine yQ rfl (fun c1 => ?_) fun c1 => ?_
 ·iterate 6 refine z ?_
  unfold a5S; rw [c1]; rfl
 ·iterate 9 refine z ?_
  refine a1N (a1A rfl rfl rfl rfl rfl) rfl rfl Tryz.call122 a9K (fun hg => (a0g (a0C rfl hg) (a0s (a0d a0c (a0d a0c (a0d a0c a0r)))) (a0g (a0C rfl hg) (a0s (a0d a0c (a0d a0c (a0d a0c a0r)))) a0m))) rfl rfl ?_
  iterate 10 refine z ?_
  refine a1N (a4i rfl rfl rfl rfl rfl) rfl rfl Tryz.call122 a9K (fun hg => (a0g (a0C rfl hg) (a0s (a0d a0c (a0d a0c (a0d a0c a0r)))) (a0g (a0C rfl hg) (a0s (a0d a0c (a0d a0c (a0d a0c a0r)))) a0m))) rfl rfl ?_
  iterate 8 refine z ?_
  have h1 := a9x x y.2.2.1; have h2 := a9x x y.2.2.2; unfold a5S; rw [c1]; cases y.1 <;> cases y.2.1 <;> simp <;> grind
theorem c7Z {x : a0S} {y : a3S}  : PFn Tryz.prog 138 [.agg [(.dv [] (.int .i64 (x.1))), (.dv [] (.int .i64 (x.2.1))), (.dv [] (.str (x.2.2)))], .agg [(.dv [] (.bool (y.1))), (.dv [] (.bool (y.2.1))), (.dv [] (.int .i64 (y.2.2.1.1))), (.dv [] (.int .i64 (y.2.2.1.2.1))), (.dv [] (.str (y.2.2.1.2.2))), (.dv [] (.int .i64 (y.2.2.2.1))), (.dv [] (.int .i64 (y.2.2.2.2.1))), (.dv [] (.str (y.2.2.2.2.2)))]] (.one (.dv [] (.bool (a5S x y)))) := by
 refine ⟨a0v Tryz.func138 rfl Tryz.ntmps138 Tryz.results138 rfl (fun C => ?_)⟩
 refine yF 0 0 rfl rfl fun f0_0 => ?_
 refine yF 0 1 rfl rfl fun f0_1 => ?_
 refine yF 0 2 rfl rfl fun f0_2 => ?_
 refine yF 1 2 rfl rfl fun f1_2 => ?_
 refine yF 1 3 rfl rfl fun f1_3 => ?_
 refine yF 1 4 rfl rfl fun f1_4 => ?_
 refine yF 1 5 rfl rfl fun f1_5 => ?_
 refine yF 1 6 rfl rfl fun f1_6 => ?_
 refine yF 1 7 rfl rfl fun f1_7 => ?_
 iterate 8 refine z ?_
 refine zC Tryz.call105 ?_ (hf := a5g)
 iterate 7 refine z ?_
 refine a1N (a4i rfl rfl rfl rfl rfl) rfl rfl Tryz.call105 a5g (fun hg => (a0g (a0C rfl hg) (a0s (a0d a0c (a0d a0c (a0d a0c a0r)))) a0m)) rfl rfl ?_
 iterate 9 refine z ?_
 refine a1N (a4i rfl rfl rfl rfl rfl) rfl rfl Tryz.call105 a5g (fun hg => (a0g (a0C rfl hg) (a0s (a0d a0c (a0d a0c (a0d a0c a0r)))) a0m)) rfl rfl ?_
 iterate 4 refine z ?_
 refine yQ rfl (fun c1 => ?_) fun c1 => ?_
 ·iterate 6 refine z ?_
  unfold a5S; rw [c1]; rfl
 ·iterate 10 refine z ?_
  refine a1N (a1A rfl rfl rfl rfl rfl) rfl rfl Tryz.call108 a9u (fun hg => (a0g (a0C rfl hg) (a0s (a0d a0c (a0d a0c (a0d a0c a0r)))) (a0g (a0C rfl hg) (a0s (a0d a0c (a0d a0c (a0d a0c a0r)))) a0m))) rfl rfl ?_
  iterate 10 refine z ?_
  refine a1N (a4i rfl rfl rfl rfl rfl) rfl rfl Tryz.call108 a9u (fun hg => (a0g (a0C rfl hg) (a0s (a0d a0c (a0d a0c (a0d a0c a0r)))) (a0g (a0C rfl hg) (a0s (a0d a0c (a0d a0c (a0d a0c a0r)))) a0m))) rfl rfl ?_
  iterate 7 refine z ?_
  have h1 := a9x x y.2.2.1; have h2 := a9x x y.2.2.2; unfold a5S; rw [c1]; cases y.1 <;> cases y.2.1 <;> simp <;> grind
def bef (f : Str) (a b : a0L) : Bool := decide ((a0Y a.2 f).1 < (a0Y b.2 f).1) || (decide ((a0Y a.2 f).1 = (a0Y b.2 f).1) && decide (a2U a.1 b.1 < 0))
def a3W (f : Str) (x : a0L) (o : List a0L) : Nat → Nat
 | 0 => 0
 | k + 1 => if bef f x (o.getD k default) then a3W f x o k else k + 1
def a2a (o : List a0L) (j : Nat) (y : a0L) : List a0L := o.take j ++ [y] ++ o.drop j
def a0H (f : Str) (its : List a0L) : Nat → List a0L
 | 0 => []
 | k + 1 => if (a0Y (its.getD (k : Int).toNat default).2 f).2 then a2a (a0H f its k) (a3W f (its.getD (k : Int).toNat default) (a0H f its k) (a0H f its k).length) (its.getD (k : Int).toNat default) else a0H f its k
theorem a8L {o : List a0L} {j : Nat} {y : a0L} : (a2a o j y).length = o.length + 1 := by simp only [a2a, List.length_append, List.length_take, List.length_drop, List.length_singleton]; omega
theorem a9t (f : Str) (its : List a0L) : ∀ k, (a0H f its k).length ≤ k
 | 0 => Nat.le_refl _
 | k + 1 => by have := a9t f its k; rw [a0H]; split <;> (try rw [a8L]) <;> omega
theorem b0Q {f : Str} {its : List a0L} {k : Nat} (h : (a0Y (its.getD (k : Int).toNat default).2 f).2 = true) : a0H f its (k + 1) = a2a (a0H f its k) (a3W f (its.getD (k : Int).toNat default) (a0H f its k) (a0H f its k).length) (its.getD (k : Int).toNat default) := by rw [a0H, if_pos h]
theorem b6K {f : Str} {its : List a0L} {k : Nat} (h : (a0Y (its.getD (k : Int).toNat default).2 f).2 = false) : a0H f its k = a0H f its (k + 1) := by rw [a0H, if_neg (by rw [h]; simp)]
theorem b8D {f : Str} {x : a0L} {o : List a0L} {j : Nat} (h : (decide (0 < (j : Int)) && bef f x (o.getD ((j : Int) - 1).toNat default)) = true) : 0 < j ∧ a3W f x o j = a3W f x o (j - 1) := by
 obtain ⟨h1, h2⟩ := (Bool.and_eq_true _ _ ▸ h : _ ∧ _)
 have h1 := of_decide_eq_true h1
 cases j with
 | zero => simp at h1
 | succ k =>
  have e : (((k + 1 : Nat) : Int) - 1).toNat = k := by omega
  rw [e] at h2
  exact ⟨by omega, by rw [a3W, if_pos h2]; rfl⟩
theorem b8c {f : Str} {x : a0L} {o : List a0L} {j : Nat} (h : (decide (0 < (j : Int)) && bef f x (o.getD ((j : Int) - 1).toNat default)) = false) : a3W f x o j = j := by
 cases j with
 | zero => rfl
 | succ k =>
  have e : (((k + 1 : Nat) : Int) - 1).toNat = k := by omega
  rw [e, decide_eq_true (by omega : (0 : Int) < ((k + 1 : Nat) : Int)), Bool.true_and] at h
  rw [a3W, if_neg (by rw [h]; simp)]
theorem a7I {α : Type} {enc : α → List DV} {sz : Nat} (hs : ∀ x, (enc x).length = sz) : ∀ (n : Nat) (xs : List α), (xs.flatMap enc).take (n * sz) = (xs.take n).flatMap enc ∧ (xs.flatMap enc).drop (n * sz) = (xs.drop n).flatMap enc
 | 0, xs => by simp
 | n + 1, [] => by simp
 | n + 1, x :: xs => by
  obtain ⟨h1, h2⟩ := a7I hs n xs
  rw [List.flatMap_cons, Nat.add_mul, Nat.one_mul, Nat.add_comm (n * sz) sz, ← hs x, List.take_length_add_append, List.take_succ_cons, List.flatMap_cons, hs x, h1, List.drop_succ_cons, ← h2]
  exact ⟨rfl, by rw [← hs x, List.drop_length_add_append]⟩
theorem b4M {o : List a0L} {j : Nat} {y : a0L} : a5A (o.flatMap a0A) (((j : Nat) : Int).toNat * 4) (a0A y) = (a2a o j y).flatMap a0A := by
 obtain ⟨h1, h2⟩ := a7I (enc := a0A) (sz := 4) (fun _ => rfl) j o
 rw [a5A, Int.toNat_natCast, h1, h2, a2a, List.flatMap_append, List.flatMap_append, List.flatMap_cons, List.flatMap_nil, List.append_nil]
theorem b5t {o : List a0L} {j : Nat} : ([] : List DV) ++ sub (0 * 4) ((((j : Nat) : Int).toNat - 0) * 4) (o.flatMap a0A) = (o.take j).flatMap a0A := by
 obtain ⟨h1, h2⟩ := a7I (enc := a0A) (sz := 4) (fun _ => rfl) j o
 rw [Int.toNat_natCast, Nat.sub_zero, Nat.zero_mul, sub, List.drop_zero, List.nil_append, h1]
theorem b6v {o : List a0L} {j : Nat} : a5H (o.flatMap a0A) (0 * 4) ((((j : Nat) : Int).toNat - 0) * 4) = List.replicate (j * 4) .hole ++ (o.drop j).flatMap a0A := by
 obtain ⟨h1, h2⟩ := a7I (enc := a0A) (sz := 4) (fun _ => rfl) j o
 rw [Int.toNat_natCast, Nat.sub_zero, Nat.zero_mul, a5H, List.drop_zero, h2]; rfl
theorem b9o {o : List a0L} {j : Nat} {el : a0L} (hj : j ≤ o.length) : (o.take j ++ [el]).flatMap a0A ++ sub (((j : Nat) : Int).toNat * 4) ((o.length - ((j : Nat) : Int).toNat) * 4) (List.replicate (j * 4) .hole ++ (o.drop j).flatMap a0A) = (a2a o j el).flatMap a0A := by
 have hl : ((o.drop j).flatMap a0A).length = (o.length - j) * 4 := by
  have : ∀ l : List a0L, (l.flatMap a0A).length = l.length * 4 := fun l => by
   induction l with
   | nil => rfl
   | cons x l ih => rw [List.flatMap_cons, List.length_append, ih, List.length_cons]; show 4 + l.length * 4 = (l.length + 1) * 4; omega
  rw [this, List.length_drop]
 have e : (List.replicate (j * 4) DV.hole ++ (o.drop j).flatMap a0A).drop (j * 4) = (o.drop j).flatMap a0A := by
  have h := List.drop_left (l₁ := List.replicate (j * 4) DV.hole) (l₂ := (o.drop j).flatMap a0A)
  rwa [List.length_replicate] at h
 rw [Int.toNat_natCast, sub, e, List.take_of_length_le (l := (o.drop j).flatMap a0A) (by rw [hl]; exact Nat.le_refl _)]
 simp only [a2a, List.flatMap_append]
theorem c2X {x y : a0L} {f : Str}  : PFn Tryz.prog 144 [.agg [(.dv [] (.int .i64 (x.1.1))), (.dv [] (.int .i64 (x.1.2.1))), (.dv [] (.str (x.1.2.2))), (.dv [] (a0w (x.2)))], .agg [(.dv [] (.int .i64 (y.1.1))), (.dv [] (.int .i64 (y.1.2.1))), (.dv [] (.str (y.1.2.2))), (.dv [] (a0w (y.2)))], .one (.dv [] (.str (f)))] (.one (.dv [] (.bool (bef f x y)))) := by
 refine ⟨a0v Tryz.func144 rfl Tryz.ntmps144 Tryz.results144 rfl (fun C => ?_)⟩
 refine yF 0 0 rfl rfl fun f0_0 => ?_
 refine yF 0 1 rfl rfl fun f0_1 => ?_
 refine yF 0 2 rfl rfl fun f0_2 => ?_
 refine yF 0 3 rfl rfl fun f0_3 => ?_
 refine yF 1 0 rfl rfl fun f1_0 => ?_
 refine yF 1 1 rfl rfl fun f1_1 => ?_
 refine yF 1 2 rfl rfl fun f1_2 => ?_
 refine yF 1 3 rfl rfl fun f1_3 => ?_
 refine a0E (x := .tmp 2) (a0a rfl) fun f2 => ?_
 iterate 9 refine z ?_
 refine zC Tryz.call127 ?_ (hf := a6m)
 iterate 10 refine z ?_
 refine zC Tryz.call127 ?_ (hf := a6m)
 iterate 19 refine z ?_
 refine a1N (a4i rfl rfl rfl rfl rfl) rfl rfl Tryz.call122 a9K (fun hg => (a0g (a0C rfl hg) (a0s (a0d a0c (a0d a0c (a0d a0c a0r)))) (a0g (a0C rfl hg) (a0s (a0d a0c (a0d a0c (a0d a0c a0r)))) a0m))) rfl rfl ?_
 iterate 7 refine z ?_
 unfold bef; grind
theorem c8d {x : a0P} {f : Str} (hb : a0T x ≤ 1048576) : KFn Tryz.prog 126 [.agg [(.dv [] (.str (x.1))), (.dv [] (a0n (x.2.1))), (.dv [] (.int .i64 (x.2.2)))], .one (.dv [] (.str (f)))] (.one (.key 11)) [(11, some (a0b false (a0n (a0H f x.2.1 x.2.1.length))))] := by
 refine ⟨a0v Tryz.func126 rfl Tryz.ntmps126 Tryz.results126 rfl (fun C => ?_)⟩
 refine yF 0 0 rfl rfl fun f0_0 => ?_
 refine yF 0 1 rfl rfl fun f0_1 => ?_
 refine yF 0 2 rfl rfl fun f0_2 => ?_
 refine a0E (x := .tmp 1) (a0a rfl) fun f1 => ?_
 iterate 5 refine z ?_
 refine a2f (k := 11) hT rfl rfl rfl rfl rfl rfl rfl rfl ?_
 iterate 10 refine z ?_
 refine a0X (ι := Nat) (fun zz => ⟨[(1, .one (.dv [] (.str (f)))), (4, .one .nil), (5, .one (.key 11)), (13, .one (.dv [] (a0n (x.2.1)))), (14, .one (.dv [] (.int .i64 ((((x.2.1)).length : Int))))), (15, .one (.dv [] (.int .i64 ((zz : Int)))))], [], [(11, some (a0b false (.sl 107 4 ((a0H f x.2.1 zz).length) ((a0H f x.2.1 zz).flatMap a0A))))]⟩) (fun zz => zz ≤ x.2.1.length) (fun zz => x.2.1.length - zz) (0) ?_ (a0e ⟨rfl, rfl, rfl, rfl, rfl, rfl, trivial⟩ trivial ⟨rfl, trivial⟩ rfl) (fun zz hx => ?_)
 ·exact Nat.zero_le _
 obtain ⟨k, rfl⟩ : ∃ v, v = zz := ⟨_, rfl⟩
 replace hx : k ≤ x.2.1.length := hx
 have hw := fun h => a2T a1e x.2.1 k h
 have hol := a9t f x.2.1 k
 show Ok _ _ _ _ _ (⟨[(1, .one (.dv [] (.str (f)))), (4, .one .nil), (5, .one (.key 11)), (13, .one (.dv [] (a0n (x.2.1)))), (14, .one (.dv [] (.int .i64 ((((x.2.1)).length : Int))))), (15, .one (.dv [] (.int .i64 ((k : Int)))))], [], [(11, some (a0b false (.sl 107 4 ((a0H f x.2.1 k).length) ((a0H f x.2.1 k).flatMap a0A))))]⟩ : St)
 iterate 3 refine z ?_
 refine a0q ?_
 refine yQ rfl (fun c1 => ?_) fun c1 => ?_
 ·have d1 := of_decide_eq_true c1
  have hk2 : k < x.2.1.length := by omega
  have hlen : x.2.1.length ≤ 1048576 := by have h3 : a0T x = x.1.size + (x.2.1.length + wSum a1e x.2.1) := rfl; omega
  have hrec : a1e (x.2.1.getD (k : Int).toNat default) ≤ 1099511627776 := by have := hw hk2; have h3 : a0T x = x.1.size + (x.2.1.length + wSum a1e x.2.1) := rfl; omega
  iterate 15 refine z ?_
  refine zC Tryz.call127 ?_ (hf := a6m)
  iterate 10 refine z ?_
  refine yQ rfl (fun c2 => ?_) fun c2 => ?_
  ·iterate 4 refine z ?_
   refine a0k ?_
   iterate 3 refine z ?_
   refine ⟨k + 1, ?_, ?_, a0e ⟨rfl, rfl, rfl, rfl, rfl, rfl, trivial⟩ trivial ⟨(congrArg (fun l : List a0L => some (some (KC.mk false 107 4 l.length (l.flatMap a0A)))) (b6K (by simpa using c2))), trivial⟩ rfl⟩
   ·omega
   ·omega
  ·iterate 4 refine z ?_
   refine yO rfl rfl (a2S (n := ((a0H f x.2.1 k).length)) hT rfl rfl (a0a rfl) rfl rfl) rfl ?_
   iterate 4 refine z ?_
   refine a0X (ι := Nat) (fun zz => ⟨[(1, .one (.dv [] (.str (f)))), (4, .one .nil), (5, .one (.key 11)), (7, .box 7 0), (10, .one (.dv [] (.int .i64 ((zz : Int))))), (13, .one (.dv [] (a0n (x.2.1)))), (14, .one (.dv [] (.int .i64 ((((x.2.1)).length : Int))))), (15, .one (.dv [] (.int .i64 ((k : Int)))))], [(7, 107, [(.dv [] (.int .i64 ((((x.2.1)).getD ((k : Int)).toNat default).1.1))), (.dv [] (.int .i64 ((((x.2.1)).getD ((k : Int)).toNat default).1.2.1))), (.dv [] (.str ((((x.2.1)).getD ((k : Int)).toNat default).1.2.2))), (.dv [] (a0w ((((x.2.1)).getD ((k : Int)).toNat default).2)))])], [(11, some (a0b false (.sl 107 4 ((a0H f x.2.1 k).length) ((a0H f x.2.1 k).flatMap a0A))))]⟩) (fun zz => zz ≤ (a0H f x.2.1 k).length ∧ a3W f (x.2.1.getD (k : Int).toNat default) (a0H f x.2.1 k) (a0H f x.2.1 k).length = a3W f (x.2.1.getD (k : Int).toNat default) (a0H f x.2.1 k) zz) (fun zz => zz) ((a0H f x.2.1 k).length) ?_ (a0e ⟨rfl, rfl, rfl, rfl, rfl, rfl, rfl, rfl, trivial⟩ ⟨rfl, trivial⟩ ⟨rfl, trivial⟩ rfl) (fun zz hx => ?_)
   ·exact ⟨Nat.le_refl _, rfl⟩
   obtain ⟨j, rfl⟩ : ∃ v, v = zz := ⟨_, rfl⟩
   replace hx : j ≤ (a0H f x.2.1 k).length ∧ a3W f (x.2.1.getD (k : Int).toNat default) (a0H f x.2.1 k) (a0H f x.2.1 k).length = a3W f (x.2.1.getD (k : Int).toNat default) (a0H f x.2.1 k) j := hx
   obtain ⟨hj, hp⟩ := hx
   show Ok _ _ _ _ _ (⟨[(1, .one (.dv [] (.str (f)))), (4, .one .nil), (5, .one (.key 11)), (7, .box 7 0), (10, .one (.dv [] (.int .i64 ((j : Int))))), (13, .one (.dv [] (a0n (x.2.1)))), (14, .one (.dv [] (.int .i64 ((((x.2.1)).length : Int))))), (15, .one (.dv [] (.int .i64 ((k : Int)))))], [(7, 107, [(.dv [] (.int .i64 ((((x.2.1)).getD ((k : Int)).toNat default).1.1))), (.dv [] (.int .i64 ((((x.2.1)).getD ((k : Int)).toNat default).1.2.1))), (.dv [] (.str ((((x.2.1)).getD ((k : Int)).toNat default).1.2.2))), (.dv [] (a0w ((((x.2.1)).getD ((k : Int)).toNat default).2)))])], [(11, some (a0b false (.sl 107 4 ((a0H f x.2.1 k).length) ((a0H f x.2.1 k).flatMap a0A))))]⟩ : St)
   refine a0q ?_
   refine a0q ?_
   refine a1M (oB := [7]) (oK := [11]) (by kernel_rfl) rfl rfl ?_
   refine zD 0 ?_
   refine zD 1 ?_
   refine zD 2 ?_
   refine zDG 3 ?_
   refine b0g 4 rfl (by kernel_rfl) (a1A rfl rfl rfl rfl rfl) rfl (fun hg => a2c (v := .one (.dv [11] (a0n (a0H f x.2.1 k)))) (.inl rfl) (a3I (a0a rfl) rfl rfl)) rfl rfl rfl rfl ?_
   refine zDG 5 ?_
   refine zDG 6 ?_
   refine zDG 7 ?_
   refine zDG 8 ?_
   refine zDG 9 ?_
   refine a4S 10 rfl (by kernel_rfl) (a1A rfl rfl rfl rfl rfl) rfl rfl Tryz.call144 c2X (fun hg => (a0g (a0C rfl hg) (a0s (a0d a0c (a0d a0c (a0d a0c (a0d a0c a0r))))) (a0g (a0C rfl hg) (a0s (a0d a0c (a0d a0c (a0d a0c (a0d a0c a0r))))) (a0g (a0C rfl hg) (a0D a0c) a0m)))) rfl rfl ?_
   refine zD 11 ?_
   refine a1J (by kernel_rfl) ?_
   refine z ?_
   refine yQ rfl (fun c3 => ?_) fun c3 => ?_
   ·have hst := b8D c3
    have hst1 := hst.1
    iterate 3 refine z ?_
    refine a0k ?_
    iterate 3 refine z ?_
    refine a1t ?_
    iterate 2 refine z ?_
    refine ⟨j - 1, ?_, ?_, a0e ⟨rfl, rfl, rfl, rfl, (congrArg (fun z : Int => some (SV.one (CV.dv [] (DV.int .i64 z)))) (show ((j : Int) - 1) = ((j - 1 : Nat) : Int) by omega)), rfl, rfl, rfl, trivial⟩ ⟨rfl, trivial⟩ ⟨rfl, trivial⟩ rfl⟩
    ·exact ⟨by omega, hp.trans hst.2⟩
    ·omega
   ·have hpos := hp.trans (b8c c3)
    iterate 5 refine z ?_
    refine a0k ?_
    iterate 3 refine z ?_
    refine zK 47000 Tryz.call81 ?_ (hf := b7D (by first | omega | exact Nat.le_trans (a5Q _) hrec | exact Nat.le_trans (a5Q _) (Nat.le_trans hrec (by decide))))
    refine a3B (k := 48) (js := [54003]) hT rfl rfl rfl rfl rfl rfl rfl rfl rfl (a0a rfl) rfl rfl (a0t (a0W rfl) (a0t (a0W rfl) (a0t (a0W rfl) (a0t (a1i rfl) a1m rfl) rfl) rfl) rfl) (by decide) (by decide) rfl rfl ?_
    simp only [a0l, a0j, SV.kill, CV.kill, kk, Nat.reduceBEq]
    refine b2T (k := 11) (j := 48) (cs := (a0H f x.2.1 (k + 1)).flatMap a0A) (n := (a0H f x.2.1 (k + 1)).length) (b6Y rfl rfl (by decide)) rfl rfl Tryz.call145 rfl rfl (a0a rfl) rfl rfl rfl (a0a rfl) (by omega) (by dsimp only [a0b]; omega) (a0a rfl) rfl rfl rfl rfl (by decide) (by dsimp only [a0b]; omega) (by dsimp only [a0b]; omega) (by rw [b0Q (by simpa using c2), a8L]) (by rw [b0Q (by simpa using c2), hpos]; exact b4M) ?_
    simp only [a0l, a0j, SV.kill, CV.kill, kk, Nat.reduceBEq]
    refine z ?_
    refine a1t ?_
    iterate 2 refine z ?_
    refine a0k ?_
    iterate 3 refine z ?_
    refine ⟨k + 1, ?_, ?_, a0e ⟨rfl, rfl, rfl, rfl, rfl, rfl, trivial⟩ trivial ⟨rfl, trivial⟩ rfl⟩
    ·omega
    ·omega
 ·have d1 := of_decide_eq_false c1
  iterate 9 refine z ?_
  refine a0h (σ' := ⟨[(4, .one (.key 11))], [], [(11, some (a0b false (a0n (a0H f x.2.1 x.2.1.length))))]⟩) (a0e ⟨rfl, trivial⟩ trivial ⟨(congrArg (fun m : Nat => some (some (KC.mk false 107 4 (a0H f x.2.1 m).length ((a0H f x.2.1 m).flatMap a0A)))) (show k = x.2.1.length by omega)), trivial⟩ rfl) ?_
  refine z ?_
  refine a1p (a0i rfl) ?_
  exact ⟨rfl, rfl⟩
theorem c7k {x y : a0L} {f : Str}  : PFn Tryz.prog 137 [.agg [(.dv [] (.int .i64 (x.1.1))), (.dv [] (.int .i64 (x.1.2.1))), (.dv [] (.str (x.1.2.2))), (.dv [] (a0w (x.2)))], .agg [(.dv [] (.int .i64 (y.1.1))), (.dv [] (.int .i64 (y.1.2.1))), (.dv [] (.str (y.1.2.2))), (.dv [] (a0w (y.2)))], .one (.dv [] (.str (f)))] (.one (.dv [] (.bool (bef f x y)))) := by
 refine ⟨a0v Tryz.func137 rfl Tryz.ntmps137 Tryz.results137 rfl (fun C => ?_)⟩
 refine yF 0 0 rfl rfl fun f0_0 => ?_
 refine yF 0 1 rfl rfl fun f0_1 => ?_
 refine yF 0 2 rfl rfl fun f0_2 => ?_
 refine yF 0 3 rfl rfl fun f0_3 => ?_
 refine yF 1 0 rfl rfl fun f1_0 => ?_
 refine yF 1 1 rfl rfl fun f1_1 => ?_
 refine yF 1 2 rfl rfl fun f1_2 => ?_
 refine yF 1 3 rfl rfl fun f1_3 => ?_
 refine a0E (x := .tmp 2) (a0a rfl) fun f2 => ?_
 iterate 9 refine z ?_
 refine zC Tryz.call110 ?_ (hf := a7o)
 iterate 10 refine z ?_
 refine zC Tryz.call110 ?_ (hf := a7o)
 iterate 19 refine z ?_
 refine a1N (a4i rfl rfl rfl rfl rfl) rfl rfl Tryz.call108 a9u (fun hg => (a0g (a0C rfl hg) (a0s (a0d a0c (a0d a0c (a0d a0c a0r)))) (a0g (a0C rfl hg) (a0s (a0d a0c (a0d a0c (a0d a0c a0r)))) a0m))) rfl rfl ?_
 iterate 7 refine z ?_
 unfold bef; grind
theorem c4Q {x : a0P} {f : Str} (hb : a0T x ≤ 1048576) : KFn Tryz.prog 109 [.agg [(.dv [] (.str (x.1))), (.dv [] (a0n (x.2.1))), (.dv [] (.int .i64 (x.2.2)))], .one (.dv [] (.str (f)))] (.one (.key 11)) [(11, some (a0b false (a0n (a0H f x.2.1 x.2.1.length))))] := by
 refine ⟨a0v Tryz.func109 rfl Tryz.ntmps109 Tryz.results109 rfl (fun C => ?_)⟩
 refine yF 0 0 rfl rfl fun f0_0 => ?_
 refine yF 0 1 rfl rfl fun f0_1 => ?_
 refine yF 0 2 rfl rfl fun f0_2 => ?_
 refine a0E (x := .tmp 1) (a0a rfl) fun f1 => ?_
 iterate 5 refine z ?_
 refine a2f (k := 11) hT rfl rfl rfl rfl rfl rfl rfl rfl ?_
 iterate 7 refine z ?_
 refine a0X (ι := Nat) (fun zz => ⟨[(1, .one (.dv [] (.str (f)))), (2, .box 2 0), (4, .one .nil), (5, .one (.key 11)), (6, .one (.dv [] (.int .i64 ((zz : Int)))))], [(2, 67, [(.dv [] (.str (x.1))), (.dv [] (a0n (x.2.1))), (.dv [] (.int .i64 (x.2.2)))])], [(11, some (a0b false (.sl 107 4 ((a0H f x.2.1 zz).length) ((a0H f x.2.1 zz).flatMap a0A))))]⟩) (fun zz => zz ≤ x.2.1.length) (fun zz => x.2.1.length - zz) (0) ?_ (a0e ⟨rfl, rfl, rfl, rfl, rfl, trivial⟩ ⟨rfl, trivial⟩ ⟨rfl, trivial⟩ rfl) (fun zz hx => ?_)
 ·exact Nat.zero_le _
 obtain ⟨k, rfl⟩ : ∃ v, v = zz := ⟨_, rfl⟩
 replace hx : k ≤ x.2.1.length := hx
 have hw := fun h => a2T a1e x.2.1 k h
 have hol := a9t f x.2.1 k
 show Ok _ _ _ _ _ (⟨[(1, .one (.dv [] (.str (f)))), (2, .box 2 0), (4, .one .nil), (5, .one (.key 11)), (6, .one (.dv [] (.int .i64 ((k : Int)))))], [(2, 67, [(.dv [] (.str (x.1))), (.dv [] (a0n (x.2.1))), (.dv [] (.int .i64 (x.2.2)))])], [(11, some (a0b false (.sl 107 4 ((a0H f x.2.1 k).length) ((a0H f x.2.1 k).flatMap a0A))))]⟩ : St)
 iterate 8 refine z ?_
 refine yQ rfl (fun c1 => ?_) fun c1 => ?_
 ·have d1 := of_decide_eq_true c1
  have hk2 : k < x.2.1.length := by omega
  have hlen : x.2.1.length ≤ 1048576 := by have h3 : a0T x = x.1.size + (x.2.1.length + wSum a1e x.2.1) := rfl; omega
  have hrec : a1e (x.2.1.getD (k : Int).toNat default) ≤ 1099511627776 := by have := hw hk2; have h3 : a0T x = x.1.size + (x.2.1.length + wSum a1e x.2.1) := rfl; omega
  iterate 13 refine z ?_
  refine zC Tryz.call110 ?_ (hf := a7o)
  iterate 10 refine z ?_
  refine yQ rfl (fun c2 => ?_) fun c2 => ?_
  ·iterate 4 refine z ?_
   refine a0k ?_
   iterate 4 refine z ?_
   refine ⟨k + 1, ?_, ?_, a0e ⟨rfl, rfl, rfl, rfl, rfl, trivial⟩ ⟨rfl, trivial⟩ ⟨(congrArg (fun l : List a0L => some (some (KC.mk false 107 4 l.length (l.flatMap a0A)))) (b6K (by simpa using c2))), trivial⟩ rfl⟩
   ·omega
   ·omega
  ·iterate 4 refine z ?_
   refine yO rfl rfl (a2S (n := ((a0H f x.2.1 k).length)) hT rfl rfl (a0a rfl) rfl rfl) rfl ?_
   iterate 4 refine z ?_
   refine a0X (ι := Nat) (fun zz => ⟨[(1, .one (.dv [] (.str (f)))), (2, .box 2 0), (4, .one .nil), (5, .one (.key 11)), (6, .one (.dv [] (.int .i64 ((k : Int))))), (9, .one (.dv [] (.int .i64 ((zz : Int)))))], [(2, 67, [(.dv [] (.str (x.1))), (.dv [] (a0n (x.2.1))), (.dv [] (.int .i64 (x.2.2)))])], [(11, some (a0b false (.sl 107 4 ((a0H f x.2.1 k).length) ((a0H f x.2.1 k).flatMap a0A))))]⟩) (fun zz => zz ≤ (a0H f x.2.1 k).length ∧ a3W f (x.2.1.getD (k : Int).toNat default) (a0H f x.2.1 k) (a0H f x.2.1 k).length = a3W f (x.2.1.getD (k : Int).toNat default) (a0H f x.2.1 k) zz) (fun zz => zz) ((a0H f x.2.1 k).length) ?_ (a0e ⟨rfl, rfl, rfl, rfl, rfl, rfl, trivial⟩ ⟨rfl, trivial⟩ ⟨rfl, trivial⟩ rfl) (fun zz hx => ?_)
   ·exact ⟨Nat.le_refl _, rfl⟩
   obtain ⟨j, rfl⟩ : ∃ v, v = zz := ⟨_, rfl⟩
   replace hx : j ≤ (a0H f x.2.1 k).length ∧ a3W f (x.2.1.getD (k : Int).toNat default) (a0H f x.2.1 k) (a0H f x.2.1 k).length = a3W f (x.2.1.getD (k : Int).toNat default) (a0H f x.2.1 k) j := hx
   obtain ⟨hj, hp⟩ := hx
   show Ok _ _ _ _ _ (⟨[(1, .one (.dv [] (.str (f)))), (2, .box 2 0), (4, .one .nil), (5, .one (.key 11)), (6, .one (.dv [] (.int .i64 ((k : Int))))), (9, .one (.dv [] (.int .i64 ((j : Int)))))], [(2, 67, [(.dv [] (.str (x.1))), (.dv [] (a0n (x.2.1))), (.dv [] (.int .i64 (x.2.2)))])], [(11, some (a0b false (.sl 107 4 ((a0H f x.2.1 k).length) ((a0H f x.2.1 k).flatMap a0A))))]⟩ : St)
   refine a0q ?_
   refine a0q ?_
   refine a1M (oB := [2]) (oK := [11]) (by kernel_rfl) rfl rfl ?_
   refine zD 0 ?_
   refine zD 1 ?_
   refine zD 2 ?_
   refine zDG 3 ?_
   refine zDG 4 ?_
   refine zDG 5 ?_
   refine zDG 6 ?_
   refine zDG 7 ?_
   refine b0g 8 rfl (by kernel_rfl) (a1A rfl rfl rfl rfl rfl) rfl (fun hg => a2c (v := .one (.dv [11] (a0n (a0H f x.2.1 k)))) (.inl rfl) (a3I (a0a rfl) rfl rfl)) rfl rfl rfl rfl ?_
   refine zDG 9 ?_
   refine zDG 10 ?_
   refine zDG 11 ?_
   refine zDG 12 ?_
   refine zDG 13 ?_
   refine a4S 14 rfl (by kernel_rfl) (a1A rfl rfl rfl rfl rfl) rfl rfl Tryz.call137 c7k (fun hg => (a0g (a0C rfl hg) (a0s (a0d a0c (a0d a0c (a0d a0c (a0d a0c a0r))))) (a0g (a0C rfl hg) (a0s (a0d a0c (a0d a0c (a0d a0c (a0d a0c a0r))))) (a0g (a0C rfl hg) (a0D a0c) a0m)))) rfl rfl ?_
   refine zD 15 ?_
   refine a1J (by kernel_rfl) ?_
   refine z ?_
   refine yQ rfl (fun c3 => ?_) fun c3 => ?_
   ·have hst := b8D c3
    have hst1 := hst.1
    iterate 3 refine z ?_
    refine a0k ?_
    iterate 3 refine z ?_
    refine a1t ?_
    iterate 2 refine z ?_
    refine ⟨j - 1, ?_, ?_, a0e ⟨rfl, rfl, rfl, rfl, rfl, (congrArg (fun z : Int => some (SV.one (CV.dv [] (DV.int .i64 z)))) (show ((j : Int) - 1) = ((j - 1 : Nat) : Int) by omega)), trivial⟩ ⟨rfl, trivial⟩ ⟨rfl, trivial⟩ rfl⟩
    ·exact ⟨by omega, hp.trans hst.2⟩
    ·omega
   ·have hpos := hp.trans (b8c c3)
    iterate 6 refine z ?_
    refine a2f (k := 52) hT rfl rfl rfl rfl rfl rfl rfl rfl ?_
    iterate 2 refine z ?_
    refine b4m (k := 52) (j := 11) (s := 5) (n := ((a0H f x.2.1 k).take j).length) (cs := ((a0H f x.2.1 k).take j).flatMap a0A) (c2s := List.replicate (j * 4) .hole ++ ((a0H f x.2.1 k).drop j).flatMap a0A) hT rfl rfl rfl (b3H hT rfl rfl rfl (a0a rfl) rfl (a0a rfl) (by omega) (by dsimp only [a0b]; omega)) rfl rfl rfl rfl rfl rfl rfl (a0a rfl) rfl rfl rfl rfl rfl rfl (by decide) rfl rfl ⟨rfl, rfl⟩ (by omega) (by dsimp only [a0b]; omega) (by dsimp only [a0b]; omega) (by dsimp only [a0b]; omega) (by rw [List.length_take, Nat.min_eq_left (by omega)]; simp) (b5t) (b6v) ?_
    simp only [a0l, a0j, SV.kill, CV.kill, kk, Nat.reduceBEq]
    iterate 9 refine z ?_
    refine zK 63000 Tryz.call63 ?_ (hf := b4C (by first | omega | exact Nat.le_trans (a5Q _) hrec | exact Nat.le_trans (a5Q _) (Nat.le_trans hrec (by decide))))
    refine a3B (k := 64) (js := [70003]) hT rfl rfl rfl rfl rfl rfl rfl rfl rfl (a0a rfl) rfl rfl (a0t (a0W rfl) (a0t (a0W rfl) (a0t (a0W rfl) (a0t (a1i rfl) a1m rfl) rfl) rfl) rfl) (by decide) (by decide) rfl rfl ?_
    simp only [a0l, a0j, SV.kill, CV.kill, kk, Nat.reduceBEq]
    refine a3l (k := 52) (j := 64) (cs := ((a0H f x.2.1 k).take j ++ [(x.2.1.getD (k : Int).toNat default)]).flatMap a0A) (n := ((a0H f x.2.1 k).take j ++ [(x.2.1.getD (k : Int).toNat default)]).length) hT rfl rfl rfl rfl rfl rfl rfl (a0a rfl) rfl rfl rfl (a0a rfl) rfl rfl (by decide) (by dsimp only [a0b]; simp only [List.length_take]; omega) (by dsimp only [a0b]; simp only [List.length_take]; omega) (by simp) (by rw [List.flatMap_append]; rfl) ?_
    simp only [a0l, a0j, SV.kill, CV.kill, kk, Nat.reduceBEq]
    iterate 2 refine z ?_
    refine a0k ?_
    iterate 3 refine z ?_
    refine b4m (k := 52) (j := 11) (s := 5) (n := (a0H f x.2.1 (k + 1)).length) (cs := (a0H f x.2.1 (k + 1)).flatMap a0A) (c2s := _) hT rfl rfl rfl (b2Z hT rfl rfl rfl (a0a rfl) rfl (a0a rfl) (by omega) (by dsimp only [a0b]; omega)) rfl rfl rfl rfl rfl rfl rfl (a0a rfl) rfl rfl rfl rfl rfl rfl (by decide) rfl rfl ⟨rfl, rfl⟩ (by dsimp only [a0b]; omega) (by dsimp only [a0b]; omega) (by dsimp only [a0b]; simp only [List.length_append, List.length_take, List.length_singleton]; omega) (by dsimp only [a0b]; simp only [List.length_append, List.length_take, List.length_singleton]; omega) (by rw [b0Q (by simpa using c2), a8L]; simp; omega) (by rw [b0Q (by simpa using c2), hpos]; exact b9o hj) (rfl) ?_
    simp only [a0l, a0j, SV.kill, CV.kill, kk, Nat.reduceBEq]
    refine z ?_
    refine a1t ?_
    iterate 2 refine z ?_
    refine a0h (a8j (s := 5) (k := 52) (k' := 11) rfl rfl rfl (by decide) rfl) ?_
    simp only [a0l, a0j, SV.kill, CV.kill, kk, Nat.reduceBEq]
    refine a0k ?_
    iterate 4 refine z ?_
    refine ⟨k + 1, ?_, ?_, a0e ⟨rfl, rfl, rfl, rfl, rfl, trivial⟩ ⟨rfl, trivial⟩ ⟨rfl, trivial⟩ rfl⟩
    ·omega
    ·omega
 ·have d1 := of_decide_eq_false c1
  iterate 9 refine z ?_
  refine a0h (σ' := ⟨[(4, .one (.key 11))], [], [(11, some (a0b false (a0n (a0H f x.2.1 x.2.1.length))))]⟩) (a0e ⟨rfl, trivial⟩ trivial ⟨(congrArg (fun m : Nat => some (some (KC.mk false 107 4 (a0H f x.2.1 m).length ((a0H f x.2.1 m).flatMap a0A)))) (show k = x.2.1.length by omega)), trivial⟩ rfl) ?_
  refine z ?_
  refine a1p (a0i rfl) ?_
  exact ⟨rfl, rfl⟩
def a8x (f : Str) (l : List a0L) (k : Nat) : Bool := decide ((a0Y (l.getD (k - 1) default).2 f).1 = (a0Y (l.getD k default).2 f).1)
def ufN (f : Str) (l : List a0L) : Nat → Option Nat
 | 0 => none
 | k + 1 => (ufN f l k).or (if 1 ≤ k ∧ a8x f l k = true then some k else none)
def a3u (f : Str) (l : List a0L) : a0S × a0S × Bool := match ufN f l l.length with
 | some m => ((l.getD (m - 1) default).1, (l.getD m default).1, true)
 | none => ((0, 0, ByteArray.empty), (0, 0, ByteArray.empty), false)
theorem b7P {f : Str} {l : List a0L} {k m : Nat} (h : ufN f l k = some m) : ∀ d, ufN f l (k + d) = some m
 | 0 => h
 | d + 1 => by rw [← Nat.add_assoc, ufN, b7P h d]; rfl
theorem b9k {f : Str} {l : List a0L} {k : Nat} (h : ufN f l k = none) (h1 : 1 ≤ k) (hk : k < l.length) (hs : a8x f l k = true) : a3u f l = ((l.getD (k - 1) default).1, (l.getD k default).1, true) := by
 have h2 : ufN f l (k + 1) = some k := by rw [ufN, h, if_pos ⟨h1, hs⟩]; rfl
 have h3 := b7P h2 (l.length - (k + 1))
 rw [show k + 1 + (l.length - (k + 1)) = l.length by omega] at h3
 rw [a3u, h3]
theorem b9K {f : Str} {l : List a0L} (h : ufN f l l.length = none) : a3u f l = ((0, 0, ByteArray.empty), (0, 0, ByteArray.empty), false) := by rw [a3u, h]
theorem c0w {f : Str} {l : List a0L} {k : Nat} (h : ufN f l k = none) (hs : a8x f l k = false) : ufN f l (k + 1) = none := by rw [ufN, h, if_neg (by rw [hs]; simp)]; rfl
theorem b2w {f : Str} {l : List a0L} {k : Nat} (h1 : 1 ≤ k) : (a0Y (l.getD ((k : Int) - 1).toNat default).2 f).1 = (a0Y (l.getD (k : Int).toNat default).2 f).1 ↔ a8x f l k = true := by
 rw [show ((k : Int) - 1).toNat = k - 1 by omega, Int.toNat_natCast, a8x, decide_eq_true_iff]
theorem b6u {f : Str} {l : List a0L} {k : Nat} (h1 : 1 ≤ k) (h : ¬ (a0Y (l.getD ((k : Int) - 1).toNat default).2 f).1 = (a0Y (l.getD (k : Int).toNat default).2 f).1) : a8x f l k = false := by
 rw [b2w h1] at h; simpa using h
theorem b7A {f : Str} {l : List a0L} {k : Nat} (hu : ufN f l k = none) (hk : k ≤ 1 ∨ k ≤ l.length) (h : ¬ (k : Int) < (l.length : Int)) : ufN f l l.length = none := by
 by_cases e : l.length = k
 ·rw [e]; exact hu
 ·have : l.length = 0 := by omega
  rw [this]; rfl
theorem c4I {x : a0P} {f : Str} (hb : a0T x ≤ 1048576) : PFn Tryz.prog 96 [.agg [(.dv [] (.str (x.1))), (.dv [] (a0n (x.2.1))), (.dv [] (.int .i64 (x.2.2)))], .one (.dv [] (.str (f)))] (.tup [(true, [(.dv [] (.int .i64 ((a3u f (a0H f x.2.1 x.2.1.length)).1.1))), (.dv [] (.int .i64 ((a3u f (a0H f x.2.1 x.2.1.length)).1.2.1))), (.dv [] (.str ((a3u f (a0H f x.2.1 x.2.1.length)).1.2.2)))]), (true, [(.dv [] (.int .i64 ((a3u f (a0H f x.2.1 x.2.1.length)).2.1.1))), (.dv [] (.int .i64 ((a3u f (a0H f x.2.1 x.2.1.length)).2.1.2.1))), (.dv [] (.str ((a3u f (a0H f x.2.1 x.2.1.length)).2.1.2.2)))]), (false, [(.dv [] (.bool ((a3u f (a0H f x.2.1 x.2.1.length)).2.2)))])]) := by
 refine ⟨a0v Tryz.func96 rfl Tryz.ntmps96 Tryz.results96 rfl (fun C => ?_)⟩
 refine yF 0 0 rfl rfl fun f0_0 => ?_
 refine yF 0 1 rfl rfl fun f0_1 => ?_
 refine yF 0 2 rfl rfl fun f0_2 => ?_
 refine a0E (x := .tmp 1) (a0a rfl) fun f1 => ?_
 iterate 9 refine z ?_
 refine zK 0 Tryz.call126 ?_ (hf := c8d (by omega))
 iterate 7 refine z ?_
 refine a0X (ι := Nat) (fun zz => ⟨[(1, .one (.dv [] (.str (f)))), (4, .box 4 0), (5, .box 5 0), (7, .one (.key 11)), (8, .one (.dv [] (.int .i64 ((zz : Int)))))], [(4, 75, [(.dv [] (.int .i64 (0))), (.dv [] (.int .i64 (0))), (.dv [] (.str (ByteArray.empty)))]), (5, 75, [(.dv [] (.int .i64 (0))), (.dv [] (.int .i64 (0))), (.dv [] (.str (ByteArray.empty)))])], [(11, some (a0b false (.sl 107 4 ((a0H f x.2.1 x.2.1.length).length) ((a0H f x.2.1 x.2.1.length).flatMap a0A))))]⟩) (fun zz => 1 ≤ zz ∧ (zz ≤ 1 ∨ zz ≤ (a0H f x.2.1 x.2.1.length).length) ∧ ufN f (a0H f x.2.1 x.2.1.length) zz = none) (fun zz => (a0H f x.2.1 x.2.1.length).length - zz) (1) ?_ (a0e ⟨rfl, rfl, rfl, rfl, rfl, trivial⟩ ⟨rfl, rfl, trivial⟩ ⟨rfl, trivial⟩ rfl) (fun zz hx => ?_)
 ·exact ⟨Nat.le_refl _, .inl (Nat.le_refl _), rfl⟩
 obtain ⟨k, rfl⟩ : ∃ v, v = zz := ⟨_, rfl⟩
 replace hx : 1 ≤ k ∧ (k ≤ 1 ∨ k ≤ (a0H f x.2.1 x.2.1.length).length) ∧ ufN f (a0H f x.2.1 x.2.1.length) k = none := hx
 obtain ⟨h1, hk, hu⟩ := hx
 have hlw := a9t f x.2.1 x.2.1.length
 have hlen : x.2.1.length ≤ 1048576 := by have h3 : a0T x = x.1.size + (x.2.1.length + wSum a1e x.2.1) := rfl; omega
 show Ok _ _ _ _ _ (⟨[(1, .one (.dv [] (.str (f)))), (4, .box 4 0), (5, .box 5 0), (7, .one (.key 11)), (8, .one (.dv [] (.int .i64 ((k : Int)))))], [(4, 75, [(.dv [] (.int .i64 (0))), (.dv [] (.int .i64 (0))), (.dv [] (.str (ByteArray.empty)))]), (5, 75, [(.dv [] (.int .i64 (0))), (.dv [] (.int .i64 (0))), (.dv [] (.str (ByteArray.empty)))])], [(11, some (a0b false (.sl 107 4 ((a0H f x.2.1 x.2.1.length).length) ((a0H f x.2.1 x.2.1.length).flatMap a0A))))]⟩ : St)
 iterate 3 refine z ?_
 refine yO rfl rfl (a2c (v := .one (.dv [11] (a0n (a0H f x.2.1 x.2.1.length)))) (.inl rfl) (a3I (a0a rfl) rfl rfl)) rfl ?_
 iterate 3 refine z ?_
 refine yQ rfl (fun c1 => ?_) fun c1 => ?_
 ·have d1 := of_decide_eq_true c1
  iterate 5 refine z ?_
  refine yO rfl rfl (a2c (v := .one (.dv [11] (a0n (a0H f x.2.1 x.2.1.length)))) (.inl rfl) (a3I (a0a rfl) rfl rfl)) rfl ?_
  iterate 6 refine z ?_
  refine zC Tryz.call127 ?_ (hf := a6m)
  iterate 7 refine z ?_
  refine yO rfl rfl (a2c (v := .one (.dv [11] (a0n (a0H f x.2.1 x.2.1.length)))) (.inl rfl) (a3I (a0a rfl) rfl rfl)) rfl ?_
  iterate 5 refine z ?_
  refine zC Tryz.call127 ?_ (hf := a6m)
  iterate 11 refine z ?_
  refine yQ rfl (fun c2 => ?_) fun c2 => ?_
  ·have d2 := of_decide_eq_true c2
   refine a0q ?_
   refine b0s 4 (oB := [5]) (oK := [11]) (by kernel_rfl) rfl rfl ?_
   refine a1F 0 rfl (by kernel_rfl) rfl rfl (a2c (v := .one (.dv [11] (a0n (a0H f x.2.1 x.2.1.length)))) (.inl rfl) (a3I (a0a rfl) rfl rfl)) rfl rfl rfl rfl rfl ?_
   refine a1F 1 rfl (by kernel_rfl) rfl rfl (a2c (.inl rfl) (a0a rfl)) rfl rfl rfl rfl rfl ?_
   refine a1F 2 rfl (by kernel_rfl) rfl rfl (a9y rfl (a0a rfl) (a0p (a0o rfl)) (a2y (by omega) (by omega))) rfl rfl rfl rfl rfl ?_
   refine a1F 3 rfl (by kernel_rfl) rfl rfl (a6o hT rfl rfl rfl (a0a rfl) (a0a rfl) (fun _ => rfl) (by omega) (by omega)) rfl rfl rfl rfl rfl ?_
   refine a1F 4 rfl (by kernel_rfl) rfl rfl (a6f hT rfl rfl rfl (a0a rfl)) rfl rfl rfl rfl rfl ?_
   refine a1F 5 rfl (by kernel_rfl) rfl rfl (b0q hT rfl rfl (a0a rfl) rfl) rfl rfl rfl rfl rfl ?_
   refine a1F 6 rfl (by kernel_rfl) rfl rfl (a2c (v := .one (.dv [11] (a0n (a0H f x.2.1 x.2.1.length)))) (.inl rfl) (a3I (a0a rfl) rfl rfl)) rfl rfl rfl rfl rfl ?_
   refine a1F 7 rfl (by kernel_rfl) rfl rfl (a2c (.inl rfl) (a0a rfl)) rfl rfl rfl rfl rfl ?_
   refine a1F 8 rfl (by kernel_rfl) rfl rfl (a6o hT rfl rfl rfl (a0a rfl) (a0a rfl) (fun _ => rfl) (by omega) (by omega)) rfl rfl rfl rfl rfl ?_
   refine a1F 9 rfl (by kernel_rfl) rfl rfl (a6f hT rfl rfl rfl (a0a rfl)) rfl rfl rfl rfl rfl ?_
   refine a1F 10 rfl (by kernel_rfl) rfl rfl (b0q hT rfl rfl (a0a rfl) rfl) rfl rfl rfl rfl rfl ?_
   refine a9n 11 rfl (by kernel_rfl) rfl hT rfl rfl rfl (a0a rfl) (a0a rfl) rfl rfl rfl rfl rfl rfl ?_
   refine a9o [12, 13] rfl rfl (by kernel_rfl) ?_
   iterate 9 refine z ?_
   refine a1K (a0F hT rfl rfl rfl rfl) (a0F hT rfl rfl rfl rfl) (a0i rfl) rfl rfl rfl ?_
   rw [b9k hu h1 (by omega) ((b2w h1).1 d2), show ((k : Int) - 1).toNat = k - 1 by omega] <;> rfl
  ·have d2 := of_decide_eq_false c2
   iterate 3 refine z ?_
   refine a0k ?_
   iterate 4 refine z ?_
   refine ⟨k + 1, ?_, ?_, a0e ⟨rfl, rfl, rfl, rfl, rfl, trivial⟩ ⟨rfl, rfl, trivial⟩ ⟨rfl, trivial⟩ rfl⟩
   ·exact ⟨by omega, .inr (by omega), c0w hu (b6u h1 d2)⟩
   ·omega
 ·have d1 := of_decide_eq_false c1
  iterate 6 refine z ?_
  refine yO rfl rfl (a1x hT hB rfl rfl rfl a1w) rfl ?_
  refine yO rfl rfl (a1x hT hB rfl rfl rfl a1w) rfl ?_
  iterate 5 refine z ?_
  refine a1K (a0F hT rfl rfl rfl rfl) (a0F hT rfl rfl rfl rfl) (a0i rfl) rfl rfl rfl ?_
  rw [b9K (b7A hu hk d1)] <;> rfl
theorem c3I {x : a0P} {f : Str} (hb : a0T x ≤ 1048576) : PFn Tryz.prog 76 [.agg [(.dv [] (.str (x.1))), (.dv [] (a0n (x.2.1))), (.dv [] (.int .i64 (x.2.2)))], .one (.dv [] (.str (f)))] (.tup [(true, [(.dv [] (.int .i64 ((a3u f (a0H f x.2.1 x.2.1.length)).1.1))), (.dv [] (.int .i64 ((a3u f (a0H f x.2.1 x.2.1.length)).1.2.1))), (.dv [] (.str ((a3u f (a0H f x.2.1 x.2.1.length)).1.2.2)))]), (true, [(.dv [] (.int .i64 ((a3u f (a0H f x.2.1 x.2.1.length)).2.1.1))), (.dv [] (.int .i64 ((a3u f (a0H f x.2.1 x.2.1.length)).2.1.2.1))), (.dv [] (.str ((a3u f (a0H f x.2.1 x.2.1.length)).2.1.2.2)))]), (false, [(.dv [] (.bool ((a3u f (a0H f x.2.1 x.2.1.length)).2.2)))])]) := by
 refine ⟨a0v Tryz.func76 rfl Tryz.ntmps76 Tryz.results76 rfl (fun C => ?_)⟩
 refine yF 0 0 rfl rfl fun f0_0 => ?_
 refine yF 0 1 rfl rfl fun f0_1 => ?_
 refine yF 0 2 rfl rfl fun f0_2 => ?_
 refine a0E (x := .tmp 1) (a0a rfl) fun f1 => ?_
 iterate 9 refine z ?_
 refine zK 0 Tryz.call109 ?_ (hf := c4Q (by omega))
 iterate 7 refine z ?_
 refine a0X (ι := Nat) (fun zz => ⟨[(1, .one (.dv [] (.str (f)))), (4, .box 4 0), (5, .box 5 0), (7, .one (.key 11)), (8, .one (.dv [] (.int .i64 ((zz : Int)))))], [(4, 75, [(.dv [] (.int .i64 (0))), (.dv [] (.int .i64 (0))), (.dv [] (.str (ByteArray.empty)))]), (5, 75, [(.dv [] (.int .i64 (0))), (.dv [] (.int .i64 (0))), (.dv [] (.str (ByteArray.empty)))])], [(11, some (a0b false (.sl 107 4 ((a0H f x.2.1 x.2.1.length).length) ((a0H f x.2.1 x.2.1.length).flatMap a0A))))]⟩) (fun zz => 1 ≤ zz ∧ (zz ≤ 1 ∨ zz ≤ (a0H f x.2.1 x.2.1.length).length) ∧ ufN f (a0H f x.2.1 x.2.1.length) zz = none) (fun zz => (a0H f x.2.1 x.2.1.length).length - zz) (1) ?_ (a0e ⟨rfl, rfl, rfl, rfl, rfl, trivial⟩ ⟨rfl, rfl, trivial⟩ ⟨rfl, trivial⟩ rfl) (fun zz hx => ?_)
 ·exact ⟨Nat.le_refl _, .inl (Nat.le_refl _), rfl⟩
 obtain ⟨k, rfl⟩ : ∃ v, v = zz := ⟨_, rfl⟩
 replace hx : 1 ≤ k ∧ (k ≤ 1 ∨ k ≤ (a0H f x.2.1 x.2.1.length).length) ∧ ufN f (a0H f x.2.1 x.2.1.length) k = none := hx
 obtain ⟨h1, hk, hu⟩ := hx
 have hlw := a9t f x.2.1 x.2.1.length
 have hlen : x.2.1.length ≤ 1048576 := by have h3 : a0T x = x.1.size + (x.2.1.length + wSum a1e x.2.1) := rfl; omega
 show Ok _ _ _ _ _ (⟨[(1, .one (.dv [] (.str (f)))), (4, .box 4 0), (5, .box 5 0), (7, .one (.key 11)), (8, .one (.dv [] (.int .i64 ((k : Int)))))], [(4, 75, [(.dv [] (.int .i64 (0))), (.dv [] (.int .i64 (0))), (.dv [] (.str (ByteArray.empty)))]), (5, 75, [(.dv [] (.int .i64 (0))), (.dv [] (.int .i64 (0))), (.dv [] (.str (ByteArray.empty)))])], [(11, some (a0b false (.sl 107 4 ((a0H f x.2.1 x.2.1.length).length) ((a0H f x.2.1 x.2.1.length).flatMap a0A))))]⟩ : St)
 iterate 3 refine z ?_
 refine yO rfl rfl (a2c (v := .one (.dv [11] (a0n (a0H f x.2.1 x.2.1.length)))) (.inl rfl) (a3I (a0a rfl) rfl rfl)) rfl ?_
 iterate 3 refine z ?_
 refine yQ rfl (fun c1 => ?_) fun c1 => ?_
 ·have d1 := of_decide_eq_true c1
  iterate 5 refine z ?_
  refine yO rfl rfl (a2c (v := .one (.dv [11] (a0n (a0H f x.2.1 x.2.1.length)))) (.inl rfl) (a3I (a0a rfl) rfl rfl)) rfl ?_
  iterate 6 refine z ?_
  refine zC Tryz.call110 ?_ (hf := a7o)
  iterate 7 refine z ?_
  refine yO rfl rfl (a2c (v := .one (.dv [11] (a0n (a0H f x.2.1 x.2.1.length)))) (.inl rfl) (a3I (a0a rfl) rfl rfl)) rfl ?_
  iterate 5 refine z ?_
  refine zC Tryz.call110 ?_ (hf := a7o)
  iterate 11 refine z ?_
  refine yQ rfl (fun c2 => ?_) fun c2 => ?_
  ·have d2 := of_decide_eq_true c2
   refine a0q ?_
   refine b0s 4 (oB := [5]) (oK := [11]) (by kernel_rfl) rfl rfl ?_
   refine a1F 0 rfl (by kernel_rfl) rfl rfl (a2c (v := .one (.dv [11] (a0n (a0H f x.2.1 x.2.1.length)))) (.inl rfl) (a3I (a0a rfl) rfl rfl)) rfl rfl rfl rfl rfl ?_
   refine a1F 1 rfl (by kernel_rfl) rfl rfl (a2c (.inl rfl) (a0a rfl)) rfl rfl rfl rfl rfl ?_
   refine a1F 2 rfl (by kernel_rfl) rfl rfl (a9y rfl (a0a rfl) (a0p (a0o rfl)) (a2y (by omega) (by omega))) rfl rfl rfl rfl rfl ?_
   refine a1F 3 rfl (by kernel_rfl) rfl rfl (a6o hT rfl rfl rfl (a0a rfl) (a0a rfl) (fun _ => rfl) (by omega) (by omega)) rfl rfl rfl rfl rfl ?_
   refine a1F 4 rfl (by kernel_rfl) rfl rfl (a6f hT rfl rfl rfl (a0a rfl)) rfl rfl rfl rfl rfl ?_
   refine a1F 5 rfl (by kernel_rfl) rfl rfl (b0q hT rfl rfl (a0a rfl) rfl) rfl rfl rfl rfl rfl ?_
   refine a1F 6 rfl (by kernel_rfl) rfl rfl (a2c (v := .one (.dv [11] (a0n (a0H f x.2.1 x.2.1.length)))) (.inl rfl) (a3I (a0a rfl) rfl rfl)) rfl rfl rfl rfl rfl ?_
   refine a1F 7 rfl (by kernel_rfl) rfl rfl (a2c (.inl rfl) (a0a rfl)) rfl rfl rfl rfl rfl ?_
   refine a1F 8 rfl (by kernel_rfl) rfl rfl (a6o hT rfl rfl rfl (a0a rfl) (a0a rfl) (fun _ => rfl) (by omega) (by omega)) rfl rfl rfl rfl rfl ?_
   refine a1F 9 rfl (by kernel_rfl) rfl rfl (a6f hT rfl rfl rfl (a0a rfl)) rfl rfl rfl rfl rfl ?_
   refine a1F 10 rfl (by kernel_rfl) rfl rfl (b0q hT rfl rfl (a0a rfl) rfl) rfl rfl rfl rfl rfl ?_
   refine a9n 11 rfl (by kernel_rfl) rfl hT rfl rfl rfl (a0a rfl) (a0a rfl) rfl rfl rfl rfl rfl rfl ?_
   refine a9o [12, 13] rfl rfl (by kernel_rfl) ?_
   iterate 9 refine z ?_
   refine a1K (a0F hT rfl rfl rfl rfl) (a0F hT rfl rfl rfl rfl) (a0i rfl) rfl rfl rfl ?_
   rw [b9k hu h1 (by omega) ((b2w h1).1 d2), show ((k : Int) - 1).toNat = k - 1 by omega] <;> rfl
  ·have d2 := of_decide_eq_false c2
   iterate 3 refine z ?_
   refine a0k ?_
   iterate 4 refine z ?_
   refine ⟨k + 1, ?_, ?_, a0e ⟨rfl, rfl, rfl, rfl, rfl, trivial⟩ ⟨rfl, rfl, trivial⟩ ⟨rfl, trivial⟩ rfl⟩
   ·exact ⟨by omega, .inr (by omega), c0w hu (b6u h1 d2)⟩
   ·omega
 ·have d1 := of_decide_eq_false c1
  iterate 6 refine z ?_
  refine yO rfl rfl (a1x hT hB rfl rfl rfl a1w) rfl ?_
  refine yO rfl rfl (a1x hT hB rfl rfl rfl a1w) rfl ?_
  iterate 5 refine z ?_
  refine a1K (a0F hT rfl rfl rfl rfl) (a0F hT rfl rfl rfl rfl) (a0i rfl) rfl rfl rfl ?_
  rw [b9K (b7A hu hk d1)] <;> rfl
def a4y (s : a0P) (i : Nat) : Bool := (!a1f (s.2.1.getD (i : Int).toNat default).1 || !a1j (s.2.1.getD (i : Int).toNat default).2) ||
 (decide ((0 : Int) < (i : Int)) && decide (0 ≤ a2U (s.2.1.getD ((i : Int) - 1).toNat default).1 (s.2.1.getD (i : Int).toNat default).1))
def a1D (s : a0P) : Bool := (List.range s.2.1.length).all (fun i => !a4y s i) && (a3b s.1 && decide ((s.2.1.length : Int) ≤ 16) && (decide ((0 : Int) ≤ s.2.2) && decide (s.2.2 ≤ 1000000)))
def kEq (a b : a0S) : Bool := decide (a.1 = b.1) && (decide (a.2.1 = b.2.1) && sEq a.2.2 b.2.2)
def a0R (x : a0P) (k : a0S) : Int := a0u (fun y : a0L => kEq y.1 k) x.2.1 0
theorem b2b {xs : List a0L} {k : Nat} (hk : k < xs.length) : (xs.take k).flatMap a0A ++ a0A (xs.getD (k : Int).toNat default) = (xs.take (k + 1)).flatMap a0A ∧ (xs.take k).length + 1 = (xs.take (k + 1)).length := by
 have e : xs.getD (k : Int).toNat default = xs[k] := by simp [List.getD, List.getElem?_eq_getElem hk]
 rw [List.take_add_one, List.getElem?_eq_getElem hk, e]
 simp only [Option.toList_some, List.flatMap_append, List.flatMap_cons, List.flatMap_nil, List.append_nil, List.length_append, List.length_singleton]
 exact ⟨trivial, trivial⟩
theorem a7Y {s : a0P}  : PFn Tryz.prog 93 [.agg [(.dv [] (.str (s.1))), (.dv [] (a0n (s.2.1))), (.dv [] (.int .i64 (s.2.2)))]] (.one (.dv [] (.bool (a1D s)))) := by
 refine ⟨a0v Tryz.func93 rfl Tryz.ntmps93 Tryz.results93 rfl (fun C => ?_)⟩
 refine yF 0 0 rfl rfl fun f0_0 => ?_
 refine yF 0 1 rfl rfl fun f0_1 => ?_
 refine yF 0 2 rfl rfl fun f0_2 => ?_
 iterate 12 refine z ?_
 refine a0X (ι := Nat) (fun zz => ⟨[(1, .box 1 0), (6, .one (.dv [] (a0n (s.2.1)))), (7, .one (.dv [] (.int .i64 ((((s.2.1)).length : Int))))), (8, .one (.dv [] (.int .i64 ((zz : Int)))))], [(1, 67, [(.dv [] (.str (s.1))), (.dv [] (a0n (s.2.1))), (.dv [] (.int .i64 (s.2.2)))])], []⟩) (fun zz => zz ≤ s.2.1.length ∧ (List.range zz).all (fun i => !a4y s i) = true) (fun zz => s.2.1.length - zz) (0) ?_ (a0e ⟨rfl, rfl, rfl, rfl, trivial⟩ ⟨rfl, trivial⟩ trivial rfl) (fun zz hx => ?_)
 ·exact ⟨Nat.zero_le _, rfl⟩
 obtain ⟨k, rfl⟩ : ∃ v, v = zz := ⟨_, rfl⟩
 replace hx : k ≤ s.2.1.length ∧ (List.range k).all (fun i => !a4y s i) = true := hx
 obtain ⟨hk, hall⟩ := hx
 show Ok _ _ _ _ _ (⟨[(1, .box 1 0), (6, .one (.dv [] (a0n (s.2.1)))), (7, .one (.dv [] (.int .i64 ((((s.2.1)).length : Int))))), (8, .one (.dv [] (.int .i64 ((k : Int)))))], [(1, 67, [(.dv [] (.str (s.1))), (.dv [] (a0n (s.2.1))), (.dv [] (.int .i64 (s.2.2)))])], []⟩ : St)
 iterate 3 refine z ?_
 refine a0q ?_
 refine yQ rfl (fun c1 => ?_) fun c1 => ?_
 ·have d1 := of_decide_eq_true c1
  iterate 12 refine z ?_
  refine a0q ?_
  refine a1M (oB := [1, 4]) (oK := []) (by kernel_rfl) rfl rfl ?_
  refine zD 0 ?_
  refine zD 1 ?_
  refine a3D 2 rfl (by kernel_rfl) rfl rfl rfl Tryz.call119 a6p (a0g (a0a rfl) (a0s (a0d a0c (a0d a0c (a0d a0c a0r)))) a0m) rfl rfl rfl rfl ?_
  refine zD 3 ?_
  refine zD 4 ?_
  refine zDG 5 ?_
  refine zDG 6 ?_
  refine a4S 7 rfl (by kernel_rfl) (a1A rfl rfl rfl rfl rfl) rfl rfl Tryz.call120 a7i (fun hg => (a0g (a0C rfl hg) (a0s (a0d a0c a0r)) a0m)) rfl rfl ?_
  refine zDG 8 ?_
  refine zD 9 ?_
  refine zD 10 ?_
  refine zDG 11 ?_
  refine zDG 12 ?_
  refine zDG 13 ?_
  refine zDG 14 ?_
  refine zDG 15 ?_
  refine zDG 16 ?_
  refine zDG 17 ?_
  refine zDG 18 ?_
  refine zDG 19 ?_
  refine zDG 20 ?_
  refine zDG 21 ?_
  refine zDG 22 ?_
  refine a4S 23 rfl (by kernel_rfl) (a4i rfl rfl rfl rfl rfl) rfl rfl Tryz.call122 a9K (fun hg => (a0g (a0C rfl hg) (a0s (a0d a0c (a0d a0c (a0d a0c a0r)))) (a0g (a0C rfl hg) (a0s (a0d a0c (a0d a0c (a0d a0c a0r)))) a0m))) rfl rfl ?_
  refine zDG 24 ?_
  refine zDG 25 ?_
  refine zD 26 ?_
  refine a1J (by kernel_rfl) ?_
  refine z ?_
  refine yQ rfl (fun c2 => ?_) fun c2 => ?_
  ·iterate 10 refine z ?_
   rw [a1D, a7q (k := k) (by omega) (by have h : a4y s k = true := c2; simpa using h)]; rfl
  ·iterate 3 refine z ?_
   refine a0k ?_
   iterate 3 refine z ?_
   refine ⟨k + 1, ?_, ?_, a0e ⟨rfl, rfl, rfl, rfl, trivial⟩ ⟨rfl, trivial⟩ trivial rfl⟩
   ·exact ⟨by omega, a6k hall (by have h : a4y s k = false := c2; simpa using h)⟩
   ·omega
 ·have d1 := of_decide_eq_false c1
  iterate 8 refine z ?_
  refine zC Tryz.call91 ?_ (hf := a8p)
  iterate 9 refine z ?_
  refine a1N (a1A rfl rfl rfl rfl rfl) rfl rfl Tryz.call92 a6Q (fun hg => (a0g (a0C rfl hg) (a0D a0c) (a0g (a0p (a0o rfl)) (a0D a0c) (a0g (a0p (a0o rfl)) (a0D a0c) a0m)))) rfl rfl ?_
  iterate 5 refine z ?_
  obtain rfl : k = s.2.1.length := by omega
  rw [a1D, hall]; rfl
theorem b2z {s : a0P}  : PFn Tryz.prog 73 [.agg [(.dv [] (.str (s.1))), (.dv [] (a0n (s.2.1))), (.dv [] (.int .i64 (s.2.2)))]] (.one (.dv [] (.bool (a1D s)))) := by
 refine ⟨a0v Tryz.func73 rfl Tryz.ntmps73 Tryz.results73 rfl (fun C => ?_)⟩
 refine yF 0 0 rfl rfl fun f0_0 => ?_
 refine yF 0 1 rfl rfl fun f0_1 => ?_
 refine yF 0 2 rfl rfl fun f0_2 => ?_
 iterate 9 refine z ?_
 refine a0X (ι := Nat) (fun zz => ⟨[(1, .box 1 0), (3, .one (.dv [] (.int .i64 ((zz : Int)))))], [(1, 67, [(.dv [] (.str (s.1))), (.dv [] (a0n (s.2.1))), (.dv [] (.int .i64 (s.2.2)))])], []⟩) (fun zz => zz ≤ s.2.1.length ∧ (List.range zz).all (fun i => !a4y s i) = true) (fun zz => s.2.1.length - zz) (0) ?_ (a0e ⟨rfl, rfl, trivial⟩ ⟨rfl, trivial⟩ trivial rfl) (fun zz hx => ?_)
 ·exact ⟨Nat.zero_le _, rfl⟩
 obtain ⟨k, rfl⟩ : ∃ v, v = zz := ⟨_, rfl⟩
 replace hx : k ≤ s.2.1.length ∧ (List.range k).all (fun i => !a4y s i) = true := hx
 obtain ⟨hk, hall⟩ := hx
 show Ok _ _ _ _ _ (⟨[(1, .box 1 0), (3, .one (.dv [] (.int .i64 ((k : Int)))))], [(1, 67, [(.dv [] (.str (s.1))), (.dv [] (a0n (s.2.1))), (.dv [] (.int .i64 (s.2.2)))])], []⟩ : St)
 iterate 8 refine z ?_
 refine yQ rfl (fun c1 => ?_) fun c1 => ?_
 ·have d1 := of_decide_eq_true c1
  iterate 4 refine z ?_
  refine a0q ?_
  refine a1M (oB := [1]) (oK := []) (by kernel_rfl) rfl rfl ?_
  refine zD 0 ?_
  refine zD 1 ?_
  refine zD 2 ?_
  refine zD 3 ?_
  refine zD 4 ?_
  refine zD 5 ?_
  refine a3D 6 rfl (by kernel_rfl) rfl rfl rfl Tryz.call105 a5g (a0g (a0a rfl) (a0s (a0d a0c (a0d a0c (a0d a0c a0r)))) a0m) rfl rfl rfl rfl ?_
  refine zD 7 ?_
  refine zD 8 ?_
  refine zDG 9 ?_
  refine zDG 10 ?_
  refine zDG 11 ?_
  refine zDG 12 ?_
  refine zDG 13 ?_
  refine zDG 14 ?_
  refine a4S 15 rfl (by kernel_rfl) (a1A rfl rfl rfl rfl rfl) rfl rfl Tryz.call107 a6g (fun hg => (a0g (a0C rfl hg) (a0s (a0d a0c a0r)) a0m)) rfl rfl ?_
  refine zDG 16 ?_
  refine zD 17 ?_
  refine zD 18 ?_
  refine zDG 19 ?_
  refine zDG 20 ?_
  refine zDG 21 ?_
  refine zDG 22 ?_
  refine zDG 23 ?_
  refine zDG 24 ?_
  refine zDG 25 ?_
  refine zDG 26 ?_
  refine zDG 27 ?_
  refine zDG 28 ?_
  refine zDG 29 ?_
  refine zDG 30 ?_
  refine zDG 31 ?_
  refine zDG 32 ?_
  refine zDG 33 ?_
  refine zDG 34 ?_
  refine a4S 35 rfl (by kernel_rfl) (a4i rfl rfl rfl rfl rfl) rfl rfl Tryz.call108 a9u (fun hg => (a0g (a0C rfl hg) (a0s (a0d a0c (a0d a0c (a0d a0c a0r)))) (a0g (a0C rfl hg) (a0s (a0d a0c (a0d a0c (a0d a0c a0r)))) a0m))) rfl rfl ?_
  refine zDG 36 ?_
  refine zDG 37 ?_
  refine zD 38 ?_
  refine a1J (by kernel_rfl) ?_
  refine z ?_
  refine yQ rfl (fun c2 => ?_) fun c2 => ?_
  ·iterate 10 refine z ?_
   rw [a1D, a7q (k := k) (by omega) (by have h : a4y s k = true := c2; simpa using h)]; rfl
  ·iterate 3 refine z ?_
   refine a0k ?_
   iterate 4 refine z ?_
   refine ⟨k + 1, ?_, ?_, a0e ⟨rfl, rfl, trivial⟩ ⟨rfl, trivial⟩ trivial rfl⟩
   ·exact ⟨by omega, a6k hall (by have h : a4y s k = false := c2; simpa using h)⟩
   ·omega
 ·have d1 := of_decide_eq_false c1
  iterate 8 refine z ?_
  refine zC Tryz.call75 ?_ (hf := a8H)
  iterate 9 refine z ?_
  refine a1N (a1A rfl rfl rfl rfl rfl) rfl rfl Tryz.call77 a5U (fun hg => (a0g (a0C rfl hg) (a0D a0c) (a0g (a0p (a0o rfl)) (a0D a0c) (a0g (a0p (a0o rfl)) (a0D a0c) a0m)))) rfl rfl ?_
  iterate 5 refine z ?_
  obtain rfl : k = s.2.1.length := by omega
  rw [a1D, hall]; rfl
theorem c2j {y : a0L} {k : a0S}  : PFn Tryz.prog 148 [.agg [(.dv [] (.int .i64 (y.1.1))), (.dv [] (.int .i64 (y.1.2.1))), (.dv [] (.str (y.1.2.2))), (.dv [] (a0w (y.2)))], .ref [] [.int .i64 (k.1), .int .i64 (k.2.1), .str (k.2.2)]] (.one (.dv [] (.bool (kEq y.1 k)))) := by
 refine ⟨a0v Tryz.func148 rfl Tryz.ntmps148 Tryz.results148 rfl (fun C => ?_)⟩
 refine yF 0 0 rfl rfl fun f0_0 => ?_
 refine yF 0 1 rfl rfl fun f0_1 => ?_
 refine yF 0 2 rfl rfl fun f0_2 => ?_
 refine yF 0 3 rfl rfl fun f0_3 => ?_
 iterate 8 refine z ?_
 refine yO rfl rfl (b0x rfl (a0a rfl) (a0a rfl) rfl rfl Tryz.eqGuardType75 (b6H _ _ _ _ _ _)) rfl ?_
 iterate 4 refine z ?_
 rfl
theorem c1S {x : List a0L} {k : a0S}  : PFn Tryz.prog 147 [.one (.dv [] (a0n (x))), .fn 148 [[.int .i64 (k.1), .int .i64 (k.2.1), .str (k.2.2)]]] (.one (.dv [] (.int .i64 (a0u (fun y : a0L => kEq y.1 k) x 0)))) := by
 refine ⟨a0v Tryz.func147 rfl Tryz.ntmps147 Tryz.results147 rfl (fun C => ?_)⟩
 refine a0E (x := .tmp 0) (a0a rfl) fun f0 => ?_
 iterate 10 refine z ?_
 refine a0X (ι := Nat) (fun zz => ⟨[(0, .one (.dv [] (a0n (x)))), (1, .fn 148 [[.int .i64 (k.1), .int .i64 (k.2.1), .str (k.2.2)]]), (7, .one (.dv [] (.int .i64 ((((x)).length : Int))))), (8, .one (.dv [] (.int .i64 ((zz : Int)))))], [], []⟩) (fun zz => zz ≤ x.length ∧ (x.take zz).any (fun y : a0L => kEq y.1 k) = false) (fun zz => x.length - zz) (0) ?_ (a0e ⟨rfl, rfl, rfl, rfl, trivial⟩ trivial trivial rfl) (fun zz hx => ?_)
 ·exact ⟨Nat.zero_le _, rfl⟩
 obtain ⟨n, rfl⟩ : ∃ v, v = zz := ⟨_, rfl⟩
 replace hx : n ≤ x.length ∧ (x.take n).any (fun y : a0L => kEq y.1 k) = false := hx
 obtain ⟨hk, hall⟩ := hx
 show Ok _ _ _ _ _ (⟨[(0, .one (.dv [] (a0n (x)))), (1, .fn 148 [[.int .i64 (k.1), .int .i64 (k.2.1), .str (k.2.2)]]), (7, .one (.dv [] (.int .i64 ((((x)).length : Int))))), (8, .one (.dv [] (.int .i64 ((n : Int)))))], [], []⟩ : St)
 iterate 3 refine z ?_
 refine a0q ?_
 refine yQ rfl (fun c1 => ?_) fun c1 => ?_
 ·have d1 := of_decide_eq_true c1
  iterate 14 refine z ?_
  refine b0b rfl rfl rfl (a0a rfl) Tryz.call148 c2j (a0g (a0a rfl) (a0s (a0d a0c (a0d a0c (a0d a0c (a0d a0c a0r))))) a0m) rfl rfl ?_
  refine z ?_
  refine yQ rfl (fun c2 => ?_) fun c2 => ?_
  ·iterate 11 refine z ?_
   exact (a6A (p := fun y : a0L => kEq y.1 k) (d := default) hall (by omega) c2).symm
  ·iterate 3 refine z ?_
   refine a0k ?_
   iterate 3 refine z ?_
   refine ⟨n + 1, ?_, ?_, a0e ⟨rfl, rfl, rfl, rfl, trivial⟩ trivial trivial rfl⟩
   ·exact ⟨by omega, a6H (d := default) hall (by omega) c2⟩
   ·omega
 ·have d1 := of_decide_eq_false c1
  iterate 10 refine z ?_
  exact (a6G (p := fun y : a0L => kEq y.1 k) hall (by omega)).symm
theorem b2o {x : a0P} {k : a0S}  : PFn Tryz.prog 128 [.agg [(.dv [] (.str (x.1))), (.dv [] (a0n (x.2.1))), (.dv [] (.int .i64 (x.2.2)))], .agg [(.dv [] (.int .i64 (k.1))), (.dv [] (.int .i64 (k.2.1))), (.dv [] (.str (k.2.2)))]] (.one (.dv [] (.int .i64 (a0R x k)))) := by
 refine ⟨a0v Tryz.func128 rfl Tryz.ntmps128 Tryz.results128 rfl (fun C => ?_)⟩
 refine yF 0 0 rfl rfl fun f0_0 => ?_
 refine yF 0 1 rfl rfl fun f0_1 => ?_
 refine yF 0 2 rfl rfl fun f0_2 => ?_
 refine yF 1 0 rfl rfl fun f1_0 => ?_
 refine yF 1 1 rfl rfl fun f1_1 => ?_
 refine yF 1 2 rfl rfl fun f1_2 => ?_
 iterate 8 refine z ?_
 refine yO rfl rfl (b0P rfl (a0a rfl)) rfl ?_
 refine a3a rfl rfl rfl Tryz.call147 c1S (a0g (a0a rfl) (a0D a0c) (a0g (a0a rfl) (b4o (b1o rfl rfl b2r)) a0m)) rfl rfl ?_
 iterate 4 refine z ?_
 rfl
theorem b0E {x : a0P} {k : a0S}  : PFn Tryz.prog 114 [.agg [(.dv [] (.str (x.1))), (.dv [] (a0n (x.2.1))), (.dv [] (.int .i64 (x.2.2)))], .agg [(.dv [] (.int .i64 (k.1))), (.dv [] (.int .i64 (k.2.1))), (.dv [] (.str (k.2.2)))]] (.one (.dv [] (.int .i64 (a0R x k)))) := by
 refine ⟨a0v Tryz.func114 rfl Tryz.ntmps114 Tryz.results114 rfl (fun C => ?_)⟩
 refine yF 0 0 rfl rfl fun f0_0 => ?_
 refine yF 0 1 rfl rfl fun f0_1 => ?_
 refine yF 0 2 rfl rfl fun f0_2 => ?_
 refine yF 1 0 rfl rfl fun f1_0 => ?_
 refine yF 1 1 rfl rfl fun f1_1 => ?_
 refine yF 1 2 rfl rfl fun f1_2 => ?_
 iterate 10 refine z ?_
 refine a0X (ι := Nat) (fun zz => ⟨[(2, .box 2 0), (3, .box 3 0), (5, .one (.dv [] (.int .i64 ((zz : Int)))))], [(2, 67, [(.dv [] (.str (x.1))), (.dv [] (a0n (x.2.1))), (.dv [] (.int .i64 (x.2.2)))]), (3, 75, [(.dv [] (.int .i64 (k.1))), (.dv [] (.int .i64 (k.2.1))), (.dv [] (.str (k.2.2)))])], []⟩) (fun zz => zz ≤ x.2.1.length ∧ (x.2.1.take zz).any (fun y : a0L => kEq y.1 k) = false) (fun zz => x.2.1.length - zz) (0) ?_ (a0e ⟨rfl, rfl, rfl, trivial⟩ ⟨rfl, rfl, trivial⟩ trivial rfl) (fun zz hx => ?_)
 ·exact ⟨Nat.zero_le _, rfl⟩
 obtain ⟨n, rfl⟩ : ∃ v, v = zz := ⟨_, rfl⟩
 replace hx : n ≤ x.2.1.length ∧ (x.2.1.take n).any (fun y : a0L => kEq y.1 k) = false := hx
 obtain ⟨hk, hall⟩ := hx
 show Ok _ _ _ _ _ (⟨[(2, .box 2 0), (3, .box 3 0), (5, .one (.dv [] (.int .i64 ((n : Int)))))], [(2, 67, [(.dv [] (.str (x.1))), (.dv [] (a0n (x.2.1))), (.dv [] (.int .i64 (x.2.2)))]), (3, 75, [(.dv [] (.int .i64 (k.1))), (.dv [] (.int .i64 (k.2.1))), (.dv [] (.str (k.2.2)))])], []⟩ : St)
 iterate 8 refine z ?_
 refine yQ rfl (fun c1 => ?_) fun c1 => ?_
 ·have d1 := of_decide_eq_true c1
  iterate 4 refine z ?_
  refine a0q ?_
  refine a1M (oB := [2, 3]) (oK := []) (by kernel_rfl) rfl rfl ?_
  refine zD 0 ?_
  refine zD 1 ?_
  refine zD 2 ?_
  refine zD 3 ?_
  refine zD 4 ?_
  refine zD 5 ?_
  refine zD 6 ?_
  refine a2F 7 rfl (by kernel_rfl) rfl rfl (b0x rfl (a0a rfl) (a0a rfl) rfl rfl Tryz.eqGuardType75 (b6H _ _ _ _ _ _)) rfl rfl rfl rfl ?_
  refine a1J (by kernel_rfl) ?_
  refine z ?_
  refine yQ rfl (fun c2 => ?_) fun c2 => ?_
  ·iterate 11 refine z ?_
   exact (a6A (p := fun y : a0L => kEq y.1 k) (d := default) hall (by omega) c2).symm
  ·iterate 3 refine z ?_
   refine a0k ?_
   iterate 4 refine z ?_
   refine ⟨n + 1, ?_, ?_, a0e ⟨rfl, rfl, rfl, trivial⟩ ⟨rfl, rfl, trivial⟩ trivial rfl⟩
   ·exact ⟨by omega, a6H (d := default) hall (by omega) c2⟩
   ·omega
 ·have d1 := of_decide_eq_false c1
  iterate 10 refine z ?_
  exact (a6G (p := fun y : a0L => kEq y.1 k) hall (by omega)).symm
theorem a6x {x : a0P} (hb : a0T x ≤ 1099511627776) : KFn Tryz.prog 46 [.agg [(.dv [] (.str (x.1))), (.dv [] (a0n (x.2.1))), (.dv [] (.int .i64 (x.2.2)))]] (.agg [(.dv [] (.str (x.1))), (.key 30), (.dv [] (.int .i64 (x.2.2)))]) [(30, some (a0b false (a0n (x.2.1))))] := by
 refine ⟨a0v Tryz.func46 rfl Tryz.ntmps46 Tryz.results46 rfl (fun C => ?_)⟩
 refine yF 0 0 rfl rfl fun f0_0 => ?_
 refine yF 0 1 rfl rfl fun f0_1 => ?_
 refine yF 0 2 rfl rfl fun f0_2 => ?_
 iterate 9 refine z ?_
 refine yO rfl rfl (a1x hT hB rfl rfl rfl (a1r (a0a rfl) rfl rfl rfl rfl rfl (a1r (a0a rfl) rfl rfl rfl rfl rfl a1w))) rfl ?_
 iterate 3 refine z ?_
 refine a0q ?_
 refine a0q ?_
 refine a0h (a4h 30 (b := 3) (i := 1) (e := 107) (sz := 4) rfl rfl rfl rfl rfl) ?_
 simp only [a0l, a0j, SV.kill, CV.kill, kk, Nat.reduceBEq]
 refine a0k ?_
 iterate 6 refine z ?_
 refine a0X (ι := Nat) (fun zz => ⟨[(2, .box 2 0), (3, .box 3 0), (12, .one (.dv [] (a0n (x.2.1)))), (13, .one (.dv [] (.int .i64 ((((x.2.1)).length : Int))))), (14, .one (.dv [] (.int .i64 ((zz : Int)))))], [(2, 67, [(.dv [] (.str (ByteArray.empty))), .nil, (.dv [] (.int .i64 (0)))]), (3, 67, [(.dv [] (.str (x.1))), (.key 30), (.dv [] (.int .i64 (x.2.2)))])], [(30, some (a0b false (.sl 107 4 ((x.2.1.take zz).length) ((x.2.1.take zz).flatMap a0A))))]⟩) (fun zz => zz ≤ x.2.1.length) (fun zz => x.2.1.length - zz) (0) ?_ (a0e ⟨rfl, rfl, rfl, rfl, rfl, trivial⟩ ⟨rfl, rfl, trivial⟩ ⟨rfl, trivial⟩ rfl) (fun zz hx => ?_)
 ·exact Nat.zero_le _
 obtain ⟨k, rfl⟩ : ∃ v, v = zz := ⟨_, rfl⟩
 replace hx : k ≤ x.2.1.length := hx
 have hw := fun h => a2T a1e x.2.1 k h
 show Ok _ _ _ _ _ (⟨[(2, .box 2 0), (3, .box 3 0), (12, .one (.dv [] (a0n (x.2.1)))), (13, .one (.dv [] (.int .i64 ((((x.2.1)).length : Int))))), (14, .one (.dv [] (.int .i64 ((k : Int)))))], [(2, 67, [(.dv [] (.str (ByteArray.empty))), .nil, (.dv [] (.int .i64 (0)))]), (3, 67, [(.dv [] (.str (x.1))), (.key 30), (.dv [] (.int .i64 (x.2.2)))])], [(30, some (a0b false (.sl 107 4 ((x.2.1.take k).length) ((x.2.1.take k).flatMap a0A))))]⟩ : St)
 iterate 3 refine z ?_
 refine a0q ?_
 refine yQ rfl (fun c1 => ?_) fun c1 => ?_
 ·have d1 := of_decide_eq_true c1
  have hk2 : k < x.2.1.length := by omega
  have hlen : x.2.1.length ≤ 1099511627776 := by have h3 : a0T x = x.1.size + (x.2.1.length + wSum a1e x.2.1) := rfl; omega
  have hrec : a1e (x.2.1.getD (k : Int).toNat default) ≤ 1099511627776 := by have := hw hk2; have h3 : a0T x = x.1.size + (x.2.1.length + wSum a1e x.2.1) := rfl; omega
  iterate 10 refine z ?_
  refine a5I [0, 1, 2, 3, 4] (oB := [2, 3, 5]) (oK := [30]) (by kernel_rfl) rfl rfl ?_
  refine zD 0 ?_
  refine zD 1 ?_
  refine zD 2 ?_
  refine a2j 21000 3 rfl (by kernel_rfl) rfl rfl rfl Tryz.call81 (b7D (by first | omega | exact Nat.le_trans (a5Q _) hrec | exact Nat.le_trans (a5Q _) (Nat.le_trans hrec (by decide)))) (a0g (a0a rfl) (a0s (a0d a0c (a0d a0c (a0d a0c (a0d a0c a0r))))) a0m) rfl rfl rfl rfl rfl ?_
  refine a7c (k := 22) (js := [28003]) 4 hT rfl (by kernel_rfl) rfl rfl rfl rfl rfl rfl rfl rfl rfl (a0a rfl) rfl rfl (a0t (a0W rfl) (a0t (a0W rfl) (a0t (a0W rfl) (a0t (a1i rfl) a1m rfl) rfl) rfl) rfl) (by decide) (by decide) rfl rfl (by decide) ?_
  simp only [a0l, a0j, SV.kill, CV.kill, kk, Nat.reduceBEq]
  refine a4d [5, 6, 7] rfl rfl (by kernel_rfl) ?_
  refine a3l (k := 30) (j := 22) (cs := (x.2.1.take (k + 1)).flatMap a0A) (n := (x.2.1.take (k + 1)).length) hT rfl rfl rfl rfl rfl rfl rfl (a0a rfl) rfl rfl rfl (a0a rfl) rfl rfl (by decide) (by dsimp only [a0b]; simp only [List.length_take]; omega) (by dsimp only [a0b]; simp only [List.length_take]; omega) ((b2b hk2).2) ((b2b hk2).1) ?_
  simp only [a0l, a0j, SV.kill, CV.kill, kk, Nat.reduceBEq]
  iterate 2 refine z ?_
  refine a1t ?_
  iterate 2 refine z ?_
  refine a0k ?_
  iterate 3 refine z ?_
  refine ⟨k + 1, ?_, ?_, a0e ⟨rfl, rfl, rfl, rfl, rfl, trivial⟩ ⟨rfl, rfl, trivial⟩ ⟨rfl, trivial⟩ rfl⟩
  ·omega
  ·omega
 ·have d1 := of_decide_eq_false c1
  iterate 9 refine z ?_
  refine a0h (σ' := ⟨[(2, .box 2 0)], [(2, 67, [(.dv [] (.str (x.1))), (.key 30), (.dv [] (.int .i64 (x.2.2)))])], [(30, some (a0b false (a0n (x.2.1))))]⟩) (a0e ⟨rfl, trivial⟩ ⟨rfl, trivial⟩ ⟨(congrArg (fun l : List a0L => some (some (KC.mk false 107 4 l.length (l.flatMap a0A)))) (List.take_of_length_le (by omega))), trivial⟩ rfl) ?_
  refine z ?_
  refine a1p (a0F hT rfl rfl rfl rfl) ?_
  exact ⟨rfl, rfl⟩
theorem a7F {x : a0P} (hb : a0T x ≤ 1099511627776) : KFn Tryz.prog 35 [.agg [(.dv [] (.str (x.1))), (.dv [] (a0n (x.2.1))), (.dv [] (.int .i64 (x.2.2)))]] (.agg [(.dv [] (.str (x.1))), (.key 30), (.dv [] (.int .i64 (x.2.2)))]) [(30, some (a0b false (a0n (x.2.1))))] := by
 refine ⟨a0v Tryz.func35 rfl Tryz.ntmps35 Tryz.results35 rfl (fun C => ?_)⟩
 refine yF 0 0 rfl rfl fun f0_0 => ?_
 refine yF 0 1 rfl rfl fun f0_1 => ?_
 refine yF 0 2 rfl rfl fun f0_2 => ?_
 iterate 9 refine z ?_
 refine yO rfl rfl (a1x hT hB rfl rfl rfl (a1r (a0a rfl) rfl rfl rfl rfl rfl (a1r (a0a rfl) rfl rfl rfl rfl rfl a1w))) rfl ?_
 iterate 3 refine z ?_
 refine a0q ?_
 refine a0q ?_
 refine a0h (a4h 30 (b := 3) (i := 1) (e := 107) (sz := 4) rfl rfl rfl rfl rfl) ?_
 simp only [a0l, a0j, SV.kill, CV.kill, kk, Nat.reduceBEq]
 refine a0k ?_
 iterate 3 refine z ?_
 refine a0X (ι := Nat) (fun zz => ⟨[(1, .box 1 0), (2, .box 2 0), (3, .box 3 0), (4, .one (.dv [] (.int .i64 ((zz : Int)))))], [(1, 67, [(.dv [] (.str (x.1))), (.dv [] (a0n (x.2.1))), (.dv [] (.int .i64 (x.2.2)))]), (2, 67, [(.dv [] (.str (ByteArray.empty))), .nil, (.dv [] (.int .i64 (0)))]), (3, 67, [(.dv [] (.str (x.1))), (.key 30), (.dv [] (.int .i64 (x.2.2)))])], [(30, some (a0b false (.sl 107 4 ((x.2.1.take zz).length) ((x.2.1.take zz).flatMap a0A))))]⟩) (fun zz => zz ≤ x.2.1.length) (fun zz => x.2.1.length - zz) (0) ?_ (a0e ⟨rfl, rfl, rfl, rfl, trivial⟩ ⟨rfl, rfl, rfl, trivial⟩ ⟨rfl, trivial⟩ rfl) (fun zz hx => ?_)
 ·exact Nat.zero_le _
 obtain ⟨k, rfl⟩ : ∃ v, v = zz := ⟨_, rfl⟩
 replace hx : k ≤ x.2.1.length := hx
 have hw := fun h => a2T a1e x.2.1 k h
 show Ok _ _ _ _ _ (⟨[(1, .box 1 0), (2, .box 2 0), (3, .box 3 0), (4, .one (.dv [] (.int .i64 ((k : Int)))))], [(1, 67, [(.dv [] (.str (x.1))), (.dv [] (a0n (x.2.1))), (.dv [] (.int .i64 (x.2.2)))]), (2, 67, [(.dv [] (.str (ByteArray.empty))), .nil, (.dv [] (.int .i64 (0)))]), (3, 67, [(.dv [] (.str (x.1))), (.key 30), (.dv [] (.int .i64 (x.2.2)))])], [(30, some (a0b false (.sl 107 4 ((x.2.1.take k).length) ((x.2.1.take k).flatMap a0A))))]⟩ : St)
 iterate 8 refine z ?_
 refine yQ rfl (fun c1 => ?_) fun c1 => ?_
 ·have d1 := of_decide_eq_true c1
  have hk2 : k < x.2.1.length := by omega
  have hlen : x.2.1.length ≤ 1099511627776 := by have h3 : a0T x = x.1.size + (x.2.1.length + wSum a1e x.2.1) := rfl; omega
  have hrec : a1e (x.2.1.getD (k : Int).toNat default) ≤ 1099511627776 := by have := hw hk2; have h3 : a0T x = x.1.size + (x.2.1.length + wSum a1e x.2.1) := rfl; omega
  iterate 4 refine z ?_
  refine a5I [0, 1, 2, 3, 4, 5, 6, 7, 8] (oB := [1, 2, 3]) (oK := [30]) (by kernel_rfl) rfl rfl ?_
  refine zD 0 ?_
  refine zD 1 ?_
  refine zD 2 ?_
  refine zD 3 ?_
  refine zD 4 ?_
  refine zD 5 ?_
  refine zD 6 ?_
  refine a2j 24000 7 rfl (by kernel_rfl) rfl rfl rfl Tryz.call63 (b4C (by first | omega | exact Nat.le_trans (a5Q _) hrec | exact Nat.le_trans (a5Q _) (Nat.le_trans hrec (by decide)))) (a0g (a0a rfl) (a0s (a0d a0c (a0d a0c (a0d a0c (a0d a0c a0r))))) a0m) rfl rfl rfl rfl rfl ?_
  refine a7c (k := 25) (js := [31003]) 8 hT rfl (by kernel_rfl) rfl rfl rfl rfl rfl rfl rfl rfl rfl (a0a rfl) rfl rfl (a0t (a0W rfl) (a0t (a0W rfl) (a0t (a0W rfl) (a0t (a1i rfl) a1m rfl) rfl) rfl) rfl) (by decide) (by decide) rfl rfl (by decide) ?_
  simp only [a0l, a0j, SV.kill, CV.kill, kk, Nat.reduceBEq]
  refine a4d [9, 10, 11] rfl rfl (by kernel_rfl) ?_
  refine a3l (k := 30) (j := 25) (cs := (x.2.1.take (k + 1)).flatMap a0A) (n := (x.2.1.take (k + 1)).length) hT rfl rfl rfl rfl rfl rfl rfl (a0a rfl) rfl rfl rfl (a0a rfl) rfl rfl (by decide) (by dsimp only [a0b]; simp only [List.length_take]; omega) (by dsimp only [a0b]; simp only [List.length_take]; omega) ((b2b hk2).2) ((b2b hk2).1) ?_
  simp only [a0l, a0j, SV.kill, CV.kill, kk, Nat.reduceBEq]
  iterate 2 refine z ?_
  refine a1t ?_
  iterate 2 refine z ?_
  refine a0k ?_
  iterate 4 refine z ?_
  refine ⟨k + 1, ?_, ?_, a0e ⟨rfl, rfl, rfl, rfl, trivial⟩ ⟨rfl, rfl, rfl, trivial⟩ ⟨rfl, trivial⟩ rfl⟩
  ·omega
  ·omega
 ·have d1 := of_decide_eq_false c1
  iterate 9 refine z ?_
  refine a0h (σ' := ⟨[(2, .box 2 0)], [(2, 67, [(.dv [] (.str (x.1))), (.key 30), (.dv [] (.int .i64 (x.2.2)))])], [(30, some (a0b false (a0n (x.2.1))))]⟩) (a0e ⟨rfl, trivial⟩ ⟨rfl, trivial⟩ ⟨(congrArg (fun l : List a0L => some (some (KC.mk false 107 4 l.length (l.flatMap a0A)))) (List.take_of_length_le (by omega))), trivial⟩ rfl) ?_
  refine z ?_
  refine a1p (a0F hT rfl rfl rfl rfl) ?_
  exact ⟨rfl, rfl⟩
def a2r (k : a0S) : List a0L → Nat
 | [] => 0
 | y :: ys => if a2U y.1 k < 0 then a2r k ys + 1 else 0
def a2R (l : List a0L) (i : Nat) (r : a0y) : List a0L := l.set i ((l.getD i default).1, r)
def a4k (x : a0P) (k : a0S) : Int := if decide (k.1 = 1) && (decide (x.2.2 + 1 ≤ k.2.1) && decide (k.2.1 ≤ 1000000)) then k.2.1 else x.2.2
def a1b (x : a0P) (k : a0S) (r : a0y) : a0P × Bool :=
 if !a1D x || !a1f k || !a1j r then (x, false)
 else if 0 ≤ a0R x k then ((x.1, a2R x.2.1 (a0R x k).toNat r, x.2.2), true)
 else if 16 ≤ x.2.1.length then (x, false)
 else ((x.1, a2a x.2.1 (a2r k x.2.1) (k, r), a4k x k), true)
theorem a5J {x : a0P} {k : a0S} (h : 0 ≤ a0R x k) : a0R x k < x.2.1.length := by
 rcases a7S (p := fun y : a0L => kEq y.1 k) x.2.1 0 (by omega) with h1 | h1
 ·unfold a0R; omega
 ·unfold a0R at h; omega
theorem c5c {x : a0P} {k : a0S} {r : a0y} (h : (!a1D x || !a1f k) = true) : a1b x k r = (x, false) := by
 rw [a1b, if_pos (by rw [h]; rfl)]
theorem b4a {l : List a0L} {i : Nat} {r : a0y} : (a2R l i r).length = l.length := by simp [a2R]
theorem b2X (l : List a0L) : (l.flatMap a0A).length = l.length * 4 := by
 induction l with
 | nil => rfl
 | cons x l ih => rw [List.flatMap_cons, List.length_append, ih, List.length_cons]; show 4 + l.length * 4 = (l.length + 1) * 4; omega
theorem b4r {l : List a0L} {j : Nat} (h : j < l.length) : l.drop j = l.getD j default :: l.drop (j + 1) := by
 rw [List.drop_eq_getElem_cons h]
 simp [List.getD, List.getElem?_eq_getElem h]
theorem b5K {k : a0S} {l : List a0L} {j : Nat} (hp : a2r k l = j + a2r k (l.drop j)) (h : (decide ((j : Int) < (l.length : Int)) && decide (a2U (l.getD (j : Int).toNat default).1 k < 0)) = true) : j < l.length ∧ a2r k l = (j + 1) + a2r k (l.drop (j + 1)) := by
 obtain ⟨h1, h2⟩ := (Bool.and_eq_true _ _ ▸ h : _ ∧ _)
 have h1 := of_decide_eq_true h1
 have h2 := of_decide_eq_true h2
 rw [Int.toNat_natCast] at h2
 have h3 : j < l.length := by omega
 refine ⟨h3, ?_⟩
 rw [hp, b4r h3, a2r, if_pos h2]
 omega
theorem b9W {k : a0S} {l : List a0L} {j : Nat} (hj : j ≤ l.length) (hp : a2r k l = j + a2r k (l.drop j)) (h : (decide ((j : Int) < (l.length : Int)) && decide (a2U (l.getD (j : Int).toNat default).1 k < 0)) = false) : a2r k l = j := by
 rcases Nat.lt_or_ge j l.length with h3 | h3
 ·rw [decide_eq_true (by omega : (j : Int) < (l.length : Int)), Bool.true_and] at h
  have h2 := of_decide_eq_false h
  rw [Int.toNat_natCast] at h2
  rw [hp, b4r h3, a2r, if_neg h2]
  omega
 ·rw [hp, List.drop_eq_nil_of_le h3, a2r]; omega
theorem b9Y {l : List a0L} {i : Nat} {r : a0y} (hi : i < l.length) : a1a (i * 4 + 3) [a0w r] (l.flatMap a0A) = (a2R l i r).flatMap a0A := by
 obtain ⟨h1, h2⟩ := a7I (enc := a0A) (sz := 4) (fun _ => rfl) i l
 have e : l.flatMap a0A = (l.take i).flatMap a0A ++ (a0A (l.getD i default) ++ (l.drop (i + 1)).flatMap a0A) := by
  rw [← List.flatMap_cons, ← b4r hi, ← List.flatMap_append, List.take_append_drop]
 have e2 : (a2R l i r).flatMap a0A = (l.take i).flatMap a0A ++ (a0A ((l.getD i default).1, r) ++ (l.drop (i + 1)).flatMap a0A) := by
  rw [a2R, List.set_eq_take_append_cons_drop, if_pos hi, List.flatMap_append, List.flatMap_cons]
 have hl : ((l.take i).flatMap a0A).length = i * 4 := by rw [b2X, List.length_take]; omega
 rw [e, e2]
 exact a4I (pre := (l.take i).flatMap a0A) (B := a0A (l.getD i default)) (B' := a0A ((l.getD i default).1, r)) (post := (l.drop (i + 1)).flatMap a0A) (m := i * 4) (off := i * 4 + 3) (j := 3) hl rfl rfl (Nat.le_refl _)
def a6P (p : Option a0S) (k : a0S) : Bool := match p with | none => true | some q => decide (a2U q k < 0)
def okL : Option a0S → List a0L → Bool
 | _, [] => true
 | p, y :: ys => a1f y.1 && a1j y.2 && a6P p y.1 && okL (some y.1) ys
def a8Q (p : Option a0S) (l : List a0L) (i : Nat) : Bool := (!a1f (l.getD i default).1 || !a1j (l.getD i default).2) || !(a6P (if i = 0 then p else some (l.getD (i - 1) default).1) (l.getD i default).1)
theorem b7O : ∀ (l : List a0L) (p : Option a0S), okL p l = (List.range l.length).all (fun i => !a8Q p l i)
 | [], _ => rfl
 | y :: ys, p => by
  rw [okL, b7O ys (some y.1), List.length_cons, List.range_succ_eq_map, List.all_cons, List.all_map]
  congr 1
  ·simp [a8Q]
  ·congr 1
   funext i
   cases i with
   | zero => simp [a8Q]
   | succ i => simp [a8Q]
theorem b1M (s : a0P) : a1D s = (okL none s.2.1 && (a3b s.1 && decide ((s.2.1.length : Int) ≤ 16) && (decide ((0 : Int) ≤ s.2.2) && decide (s.2.2 ≤ 1000000)))) := by
 rw [a1D, b7O]
 congr 2
 funext i
 cases i with
 | zero => simp [a4y, a8Q, a6P]
 | succ i =>
  have e : (((i + 1 : Nat) : Int) - 1).toNat = i := by omega
  have e2 : (((i + 1 : Nat) : Int)).toNat = i + 1 := by omega
  have e3 : decide ((0 : Int) < ((i + 1 : Nat) : Int)) = true := decide_eq_true (by omega)
  simp only [a4y, a8Q, a6P, e, e2, e3, Bool.true_and, Nat.succ_ne_zero, if_false, Nat.add_sub_cancel]
  congr 2
  by_cases h : a2U (s.2.1.getD i default).1 (s.2.1.getD (i + 1) default).1 < 0
  ·rw [decide_eq_true h, decide_eq_false (by omega)]; rfl
  ·rw [decide_eq_false h, decide_eq_true (by omega)]; rfl
theorem c2G {a b : Str} (h : a4x a b = 0) : sEq a b = true := by
 have e := a8r a b
 unfold a4x at h
 cases h1 : sLt a b <;> cases h2 : sLt b a <;> simp_all
theorem c3g {a b : a0S} (ha : a1f a = true) (hb : a1f b = true) (h : a2U a b = 0) : kEq a b = true := by
 have hg : (!a1f a || !a1f b) = false := by rw [ha, hb]; rfl
 by_cases h1 : a.1 = b.1
 ·by_cases h2 : a.2.1 = b.2.1
  ·rw [a9B hg h1 h2] at h
   rw [kEq, decide_eq_true h1, decide_eq_true h2, c2G h]; rfl
  ·rw [a9a hg h1 h2] at h; exact absurd (a7z.1 h) h2
 ·rw [a9g hg h1] at h; exact absurd (a7z.1 h) h1
theorem b6c {k : a0S} {r : a0y} (hk : a1f k = true) : ∀ (l : List a0L) (p : Option a0S), okL p l = true → l.any (fun y : a0L => kEq y.1 k) = false → a6P p k = true → okL p (a2a l (a2r k l) (k, r)) = a1j r
 | [], p, _, _, hp => by simp [a2a, a2r, okL, hk, hp]
 | y :: ys, p, hl, hn, hp => by
  simp only [okL, Bool.and_eq_true] at hl
  obtain ⟨⟨⟨h1, h2⟩, h3⟩, h4⟩ := hl
  simp only [List.any_cons, Bool.or_eq_false_iff] at hn
  by_cases hc : a2U y.1 k < 0
  ·have ih := b6c (r := r) hk ys (some y.1) h4 hn.2 (by simpa [a6P] using hc)
   rw [a2r, if_pos hc]
   have e : a2a (y :: ys) (a2r k ys + 1) (k, r) = y :: a2a ys (a2r k ys) (k, r) := by simp [a2a]
   rw [e, okL, h1, h2, h3, ih]; rfl
  ·rw [a2r, if_neg hc]
   have e : a2a (y :: ys) 0 (k, r) = (k, r) :: y :: ys := by simp [a2a]
   have h0 : ¬ a2U y.1 k = 0 := fun h => by
    have := c3g h1 hk h
    rw [hn.1] at this; cases this
   have hs := a9x k y.1
   rw [e, okL, okL, hk, hp, h1, h2, h4]
   have : a6P (some k) y.1 = true := by simp only [a6P, decide_eq_true_eq]; omega
   rw [this]; simp
theorem b9R {r : a0y} : ∀ (l : List a0L) (p : Option a0S) (i : Nat), okL p l = true → i < l.length → okL p (a2R l i r) = a1j r
 | [], _, _, _, h => by simp at h
 | y :: ys, p, 0, hl, _ => by
  simp only [okL, Bool.and_eq_true] at hl
  obtain ⟨⟨⟨h1, h2⟩, h3⟩, h4⟩ := hl
  simp [a2R, okL, h1, h3, h4]
 | y :: ys, p, i + 1, hl, h => by
  simp only [okL, Bool.and_eq_true] at hl
  obtain ⟨⟨⟨h1, h2⟩, h3⟩, h4⟩ := hl
  have ih := b9R (r := r) ys (some y.1) i h4 (by simpa using h)
  have e : a2R (y :: ys) (i + 1) r = y :: a2R ys i r := by simp [a2R]
  rw [e, okL, h1, h2, h3, ih]; rfl
theorem b7Q {α : Type} {p : α → Bool} : ∀ (xs : List α) (i : Int), 0 ≤ i → a0u p xs i < 0 → xs.any p = false
 | [], _, _, _ => rfl
 | x :: xs, i, hi, h => by
  rw [a0u] at h
  split at h
  ·omega
  ·rename_i hp
   rw [List.any_cons, b7Q xs (i + 1) (by omega) h]
   simpa using hp
theorem b5H {x : a0P} {i : Nat} {r : a0y} (hs : a1D x = true) (hi : i < x.2.1.length) : a1D (x.1, a2R x.2.1 i r, x.2.2) = a1j r := by
 rw [b1M] at hs ⊢
 simp only [Bool.and_eq_true] at hs
 obtain ⟨h1, ⟨h2, h3⟩, h4, h5⟩ := hs
 simp only [b4a, b9R _ _ _ h1 hi, h2, h3, h4, h5, Bool.and_self, Bool.and_true]
theorem b7j {x : a0P} {k : a0S} {r : a0y} {a : Int} (hs : a1D x = true) (hk : a1f k = true) (hf : a0R x k < 0) (ha : 0 ≤ a ∧ a ≤ 1000000) : a1D (x.1, a2a x.2.1 (a2r k x.2.1) (k, r), a) = (a1j r && decide (x.2.1.length < 16)) := by
 rw [b1M] at hs ⊢
 simp only [Bool.and_eq_true] at hs
 obtain ⟨h1, ⟨h2, h3⟩, h4, h5⟩ := hs
 simp only [a8L, b6c hk _ _ h1 (b7Q _ 0 (by omega) hf) rfl, h2, decide_eq_true ha.1, decide_eq_true ha.2, Bool.and_self, Bool.and_true, Bool.true_and]
 congr 1
 exact decide_eq_decide.2 (by omega)
theorem b1V {a b : Bool} (h : (!a || !b) = false) : a = true ∧ b = true := by cases a <;> cases b <;> simp_all
theorem c7q {x : a0P} {k : a0S} {r : a0y} (h : (!a1D x || !a1f k) = false) (hf : 0 ≤ a0R x k) (ho : (!a1D (x.1, a2R x.2.1 (a0R x k).toNat r, x.2.2)) = true) : a1b x k r = (x, false) := by
 obtain ⟨h1, h2⟩ := b1V h
 have hl := a5J hf
 rw [b5H h1 (by omega)] at ho
 rw [a1b, if_pos (by rw [ho]; simp)]
theorem c7M {x : a0P} {k : a0S} {r : a0y} (h : (!a1D x || !a1f k) = false) (hf : 0 ≤ a0R x k) (ho : (!a1D (x.1, a2R x.2.1 (a0R x k).toNat r, x.2.2)) = false) : a1b x k r = ((x.1, a2R x.2.1 (a0R x k).toNat r, x.2.2), true) := by
 obtain ⟨h1, h2⟩ := b1V h
 have hl := a5J hf
 rw [b5H h1 (by omega)] at ho
 rw [a1b, if_neg (by rw [h, ho]; simp), if_pos hf]
theorem b9g {x : a0P} {k : a0S} (hs : a1D x = true) : 0 ≤ a4k x k ∧ a4k x k ≤ 1000000 := by
 rw [b1M] at hs
 simp only [Bool.and_eq_true, decide_eq_true_eq] at hs
 unfold a4k
 split
 ·rename_i h
  simp only [Bool.and_eq_true, decide_eq_true_eq] at h
  omega
 ·omega
theorem b7M {x : a0P} {k : a0S} (h : (decide (k.1 = 1) && decide (x.2.2 < k.2.1) && decide (k.2.1 ≤ 1000000)) = true) : k.2.1 = a4k x k := by
 simp only [Bool.and_eq_true, decide_eq_true_eq] at h
 rw [a4k, if_pos (by simp only [Bool.and_eq_true, decide_eq_true_eq]; omega)]
theorem b6T {x : a0P} {k : a0S} (h : (decide (k.1 = 1) && decide (x.2.2 < k.2.1) && decide (k.2.1 ≤ 1000000)) = false) : x.2.2 = a4k x k := by
 rw [a4k, if_neg]
 intro h2
 simp only [Bool.and_eq_true, decide_eq_true_eq] at h2
 rw [decide_eq_true h2.1, decide_eq_true (by omega : x.2.2 < k.2.1), decide_eq_true h2.2.2] at h
 cases h
theorem b8i {x : a0P} {k : a0S} {r : a0y} {j : Nat} {a : Int} (h : (!a1D x || !a1f k) = false) (hf : ¬ 0 ≤ a0R x k) (hj : a2r k x.2.1 = j) (ha : a = a4k x k) (ho : (!a1D (x.1, a2a x.2.1 j (k, r), a)) = true) : a1b x k r = (x, false) := by
 obtain ⟨h1, h2⟩ := b1V h
 subst hj; subst ha
 rw [b7j h1 h2 (by omega) (b9g h1)] at ho
 rw [a1b]
 split
 ·rfl
 ·rename_i h3
  rw [if_pos]
  rw [h, Bool.false_or] at h3
  have h4 : a1j r = true := by simpa using h3
  rw [h4, Bool.true_and] at ho
  simpa using ho
theorem b8T {x : a0P} {k : a0S} {r : a0y} {j : Nat} {a : Int} (h : (!a1D x || !a1f k) = false) (hf : ¬ 0 ≤ a0R x k) (hj : a2r k x.2.1 = j) (ha : a = a4k x k) (ho : (!a1D (x.1, a2a x.2.1 j (k, r), a)) = false) : a1b x k r = ((x.1, a2a x.2.1 j (k, r), a), true) := by
 obtain ⟨h1, h2⟩ := b1V h
 subst hj; subst ha
 rw [b7j h1 h2 (by omega) (b9g h1)] at ho
 have ho' : a1j r = true ∧ x.2.1.length < 16 := by
  simpa using ho
 rw [a1b, if_neg (by rw [h, ho'.1]; simp), if_neg hf, if_neg (by omega)]
theorem b1e {x : a0P} {k : a0S} {r : a0y} (hb : a0T x ≤ 1048576) (hb2 : r.length ≤ 1048576) : KFn Tryz.prog 129 [.agg [(.dv [] (.str (x.1))), (.dv [] (a0n (x.2.1))), (.dv [] (.int .i64 (x.2.2)))], .agg [(.dv [] (.int .i64 (k.1))), (.dv [] (.int .i64 (k.2.1))), (.dv [] (.str (k.2.2)))], .agg [(.dv [] (a0w (r)))]] (.tup [(true, [(.dv [] (.str ((a1b x k r).1.1))), (.key 9001), (.dv [] (.int .i64 ((a1b x k r).1.2.2)))]), (false, [(.dv [] (.bool ((a1b x k r).2)))])]) [(9001, some (a0b false (a0n ((a1b x k r).1.2.1))))] := by
 refine ⟨a0v Tryz.func129 rfl Tryz.ntmps129 Tryz.results129 rfl (fun C => ?_)⟩
 have hlen : x.2.1.length ≤ 1048576 := by have h3 : a0T x = x.1.size + (x.2.1.length + wSum a1e x.2.1) := rfl; omega
 refine yF 0 0 rfl rfl fun f0_0 => ?_
 refine yF 0 1 rfl rfl fun f0_1 => ?_
 refine yF 0 2 rfl rfl fun f0_2 => ?_
 refine yF 1 0 rfl rfl fun f1_0 => ?_
 refine yF 1 1 rfl rfl fun f1_1 => ?_
 refine yF 1 2 rfl rfl fun f1_2 => ?_
 refine yF 2 0 rfl rfl fun f2_0 => ?_
 iterate 10 refine z ?_
 refine zC Tryz.call93 ?_ (hf := a7Y (s := x))
 iterate 3 refine z ?_
 refine a1N (a1A rfl rfl rfl rfl rfl) rfl rfl Tryz.call119 a6p (fun hg => (a0g (a0C rfl hg) (a0s (a0d a0c (a0d a0c (a0d a0c a0r)))) a0m)) rfl rfl ?_
 iterate 3 refine z ?_
 refine yQ rfl (fun c1 => ?_) fun c1 => ?_
 ·iterate 2 refine z ?_
  refine zK 8971 Tryz.call46 ?_ (hf := a6x (x := x) (by omega))
  iterate 3 refine z ?_
  rw [c5c c1]
  refine a0h (σ' := ⟨[(6, .box 6 0), (7, .one (.dv [] (.bool (false))))], [(6, 67, [(.dv [] (.str ((x).1))), (.key 9001), (.dv [] (.int .i64 ((x).2.2)))])], [(9001, some (a0b false (a0n (x.2.1))))]⟩) (a0e ⟨rfl, rfl, trivial⟩ ⟨rfl, trivial⟩ ⟨rfl, trivial⟩ rfl) ?_
  iterate 2 refine z ?_
  refine a1h (a0F hT rfl rfl rfl rfl) (a0i rfl) rfl rfl ?_
  first | exact ⟨rfl, rfl⟩ | skip
 ·iterate 4 refine z ?_
  refine zK 8971 Tryz.call46 ?_ (hf := a6x (x := x) (by omega))
  iterate 7 refine z ?_
  refine zC Tryz.call128 ?_ (hf := b2o)
  iterate 6 refine z ?_
  refine yQ rfl (fun c2 => ?_) fun c2 => ?_
  ·have d2 := of_decide_eq_true c2
   have hlt := a5J d2
   refine a1M (oB := [3, 4, 5, 6, 8]) (oK := [9001]) (by kernel_rfl) rfl rfl ?_
   refine zD 0 ?_
   refine zD 1 ?_
   refine zD 2 ?_
   refine zD 3 ?_
   refine a2j 9000 4 rfl (by kernel_rfl) rfl rfl rfl Tryz.call117 (a7V (by omega)) (a0g (a0a rfl) (a0s (a0d a0c a0r)) a0m) rfl rfl rfl rfl rfl ?_
   refine a2F 5 rfl (by kernel_rfl) rfl rfl (a2v (i := (a0R (x) (k)).toNat) hT rfl rfl rfl (a0a rfl) rfl (a0a rfl) (by omega) (by show _ < ((x.2.1)).length; omega)) rfl rfl rfl rfl ?_
   refine zD 6 ?_
   refine a4d [7] rfl rfl (by kernel_rfl) ?_
   refine a3g (js := [9003]) (cs := (a2R x.2.1 (a0R x k).toNat r).flatMap a0A) hT rfl rfl rfl rfl (a0a rfl) (a0a rfl) rfl rfl rfl rfl (a0t (a1i rfl) a1m rfl) (by decide) (by decide) rfl (by show _ ≤ List.length ((x.2.1).flatMap a0A); rw [b2X]; omega) (b9Y (by omega)) ?_
   simp only [a0l, a0j, SV.kill, CV.kill, kk, Nat.reduceBEq]
   refine z ?_
   refine a0q ?_
   refine a0q ?_
   refine a0h (a5L (k := 9001) (c' := a0b false (a0n (a2R x.2.1 (a0R x k).toNat r))) rfl (congrArg (fun n => KC.mk false 107 4 n ((a2R x.2.1 (a0R x k).toNat r).flatMap a0A)) b4a.symm) rfl) ?_
   refine a0k ?_
   refine z ?_
   refine a3a rfl rfl rfl Tryz.call93 (a7Y (s := (x.1, a2R x.2.1 (a0R x k).toNat r, x.2.2))) (a0g (a0a rfl) (a0s (a0d a0c (a0d (a0Q rfl rfl) (a0d a0c a0r)))) a0m) rfl rfl ?_
   iterate 2 refine z ?_
   refine yQ rfl (fun c3 => ?_) fun c3 => ?_
   ·refine a0q ?_
    refine a0h (σ' := ⟨[(3, .box 3 0), (6, .box 6 0), (7, .one (.dv [] (.bool (false))))], [(3, 67, [(.dv [] (.str (x.1))), (.dv [] (a0n (x.2.1))), (.dv [] (.int .i64 (x.2.2)))]), (6, 67, [(.dv [] (.str (ByteArray.empty))), .nil, (.dv [] (.int .i64 (0)))])], []⟩) (a0e ⟨rfl, rfl, rfl, trivial⟩ ⟨rfl, rfl, trivial⟩ trivial rfl) ?_
    refine a0k ?_
    refine z ?_
    refine zK 8971 Tryz.call46 ?_ (hf := a6x (x := x) (by omega))
    iterate 3 refine z ?_
    rw [c7q c1 d2 c3]
    refine a0h (σ' := ⟨[(6, .box 6 0), (7, .one (.dv [] (.bool (false))))], [(6, 67, [(.dv [] (.str ((x).1))), (.key 9001), (.dv [] (.int .i64 ((x).2.2)))])], [(9001, some (a0b false (a0n (x.2.1))))]⟩) (a0e ⟨rfl, rfl, trivial⟩ ⟨rfl, trivial⟩ ⟨rfl, trivial⟩ rfl) ?_
    iterate 2 refine z ?_
    refine a1h (a0F hT rfl rfl rfl rfl) (a0i rfl) rfl rfl ?_
    first | exact ⟨rfl, rfl⟩ | skip
   ·iterate 7 refine z ?_
    rw [c7M c1 d2 c3]
    refine a0h (σ' := ⟨[(6, .box 6 0), (7, .one (.dv [] (.bool (true))))], [(6, 67, [(.dv [] (.str ((x).1))), (.key 9001), (.dv [] (.int .i64 ((x).2.2)))])], [(9001, some (a0b false (a0n (a2R x.2.1 (a0R x k).toNat r))))]⟩) (a0e ⟨rfl, rfl, trivial⟩ ⟨rfl, trivial⟩ ⟨rfl, trivial⟩ rfl) ?_
    refine z ?_
    refine a1h (a0F hT rfl rfl rfl rfl) (a0i rfl) rfl rfl ?_
    first | exact ⟨rfl, rfl⟩ | skip
  ·have d2 := of_decide_eq_false c2
   iterate 5 refine z ?_
   refine a0X (ι := Nat) (fun zz => ⟨[(3, .box 3 0), (4, .box 4 0), (5, .box 5 0), (6, .box 6 0), (7, .one (.dv [] (.bool (false)))), (8, .box 8 0), (10, .one (.dv [] (.int .i64 ((zz : Int)))))], [(3, 67, [(.dv [] (.str (x.1))), (.dv [] (a0n (x.2.1))), (.dv [] (.int .i64 (x.2.2)))]), (4, 75, [(.dv [] (.int .i64 (k.1))), (.dv [] (.int .i64 (k.2.1))), (.dv [] (.str (k.2.2)))]), (5, 78, [(.dv [] (a0w (r)))]), (6, 67, [(.dv [] (.str (ByteArray.empty))), .nil, (.dv [] (.int .i64 (0)))]), (8, 67, [(.dv [] (.str ((x).1))), (.key 9001), (.dv [] (.int .i64 ((x).2.2)))])], [(9001, some (a0b false (.sl 107 4 (x.2.1.length) (x.2.1.flatMap a0A))))]⟩) (fun zz => zz ≤ x.2.1.length ∧ a2r k x.2.1 = zz + a2r k (x.2.1.drop zz)) (fun zz => x.2.1.length - zz) (0) ?_ (a0e ⟨rfl, rfl, rfl, rfl, rfl, rfl, rfl, trivial⟩ ⟨rfl, rfl, rfl, rfl, rfl, trivial⟩ ⟨rfl, trivial⟩ rfl) (fun zz hx => ?_)
   ·exact ⟨Nat.zero_le _, by simp⟩
   obtain ⟨j, rfl⟩ : ∃ v, v = zz := ⟨_, rfl⟩
   replace hx : j ≤ x.2.1.length ∧ a2r k x.2.1 = j + a2r k (x.2.1.drop j) := hx
   obtain ⟨hj, hp⟩ := hx
   show Ok _ _ _ _ _ (⟨[(3, .box 3 0), (4, .box 4 0), (5, .box 5 0), (6, .box 6 0), (7, .one (.dv [] (.bool (false)))), (8, .box 8 0), (10, .one (.dv [] (.int .i64 ((j : Int)))))], [(3, 67, [(.dv [] (.str (x.1))), (.dv [] (a0n (x.2.1))), (.dv [] (.int .i64 (x.2.2)))]), (4, 75, [(.dv [] (.int .i64 (k.1))), (.dv [] (.int .i64 (k.2.1))), (.dv [] (.str (k.2.2)))]), (5, 78, [(.dv [] (a0w (r)))]), (6, 67, [(.dv [] (.str (ByteArray.empty))), .nil, (.dv [] (.int .i64 (0)))]), (8, 67, [(.dv [] (.str ((x).1))), (.key 9001), (.dv [] (.int .i64 ((x).2.2)))])], [(9001, some (a0b false (.sl 107 4 (x.2.1.length) (x.2.1.flatMap a0A))))]⟩ : St)
   refine a0q ?_
   refine a0q ?_
   refine a1M (oB := [3, 4, 5, 6, 8]) (oK := [9001]) (by kernel_rfl) rfl rfl ?_
   refine zD 0 ?_
   refine zD 1 ?_
   refine a2F 2 rfl (by kernel_rfl) rfl rfl (b1C (dd := a0n x.2.1) (a4N hT rfl rfl (a0a rfl) rfl rfl) rfl rfl) rfl rfl rfl rfl ?_
   refine zD 3 ?_
   refine zD 4 ?_
   refine zD 5 ?_
   refine zDG 6 ?_
   refine b0g 7 rfl (by kernel_rfl) (a1A rfl rfl rfl rfl rfl) rfl (fun hg => b1C (dd := a0n x.2.1) (a4N hT rfl rfl (a0C rfl hg) rfl rfl) rfl rfl) rfl rfl rfl rfl ?_
   refine zDG 8 ?_
   refine zDG 9 ?_
   refine zDG 10 ?_
   refine zDG 11 ?_
   refine zDG 12 ?_
   refine a4S 13 rfl (by kernel_rfl) (a1A rfl rfl rfl rfl rfl) rfl rfl Tryz.call122 a9K (fun hg => (a0g (a0C rfl hg) (a0s (a0d a0c (a0d a0c (a0d a0c a0r)))) (a0g (a0C rfl hg) (a0s (a0d a0c (a0d a0c (a0d a0c a0r)))) a0m))) rfl rfl ?_
   refine zDG 14 ?_
   refine zD 15 ?_
   refine a1J (by kernel_rfl) ?_
   refine z ?_
   refine yQ rfl (fun c4 => ?_) fun c4 => ?_
   ·have hst := b5K hp c4
    have hst1 := hst.1
    iterate 3 refine z ?_
    refine a0k ?_
    iterate 3 refine z ?_
    refine a1t ?_
    iterate 2 refine z ?_
    refine ⟨j + 1, ?_, ?_, a0e ⟨rfl, rfl, rfl, rfl, rfl, rfl, rfl, trivial⟩ ⟨rfl, rfl, rfl, rfl, rfl, trivial⟩ ⟨rfl, trivial⟩ rfl⟩
    ·exact ⟨by omega, hst.2⟩
    ·omega
   ·have hpos := b9W hj hp c4
    iterate 5 refine z ?_
    refine a0q ?_
    refine a5I [0, 1, 2, 3, 4, 5, 6, 7] (oB := [3, 4, 5, 6, 8]) (oK := [9001]) (by kernel_rfl) rfl rfl ?_
    refine zD 0 ?_
    refine zD 1 ?_
    refine zD 2 ?_
    refine zD 3 ?_
    refine zD 4 ?_
    refine a2j 9000 5 rfl (by kernel_rfl) rfl rfl rfl Tryz.call117 (a7V (by omega)) (a0g (a0a rfl) (a0s (a0d a0c a0r)) a0m) rfl rfl rfl rfl rfl ?_
    refine a2F 6 rfl (by kernel_rfl) rfl rfl (a1x hT hB rfl rfl rfl (a1r (a0a rfl) rfl rfl rfl rfl rfl (a1r (a0a rfl) rfl rfl rfl rfl rfl a1w))) rfl rfl rfl rfl ?_
    refine a7c (k := 60) (js := [9003]) 7 hT rfl (by kernel_rfl) rfl rfl rfl rfl rfl rfl rfl rfl rfl (a0a rfl) rfl rfl (a0t (a0W rfl) (a0t (a0W rfl) (a0t (a0W rfl) (a0t (a1i rfl) a1m rfl) rfl) rfl) rfl) (by decide) (by decide) rfl rfl (by decide) ?_
    simp only [a0l, a0j, SV.kill, CV.kill, kk, Nat.reduceBEq]
    refine a4d [8, 9, 10] rfl rfl (by kernel_rfl) ?_
    refine b2T (k := 9001) (j := 60) (cs := (a2a x.2.1 j (k, r)).flatMap a0A) (n := (a2a x.2.1 j (k, r)).length) (b6Y rfl rfl (by decide)) rfl rfl Tryz.call145 rfl rfl (a0a rfl) rfl rfl rfl (a0a rfl) (by omega) (by dsimp only [a0b]; omega) (a0a rfl) rfl rfl rfl rfl (by decide) (by dsimp only [a0b]; omega) (by dsimp only [a0b]; omega) (by rw [a8L]) (b4M (o := x.2.1) (j := j) (y := (k, r))) ?_
    simp only [a0l, a0j, SV.kill, CV.kill, kk, Nat.reduceBEq]
    iterate 20 refine z ?_
    refine yQ rfl (fun c5 => ?_) fun c5 => ?_
    ·refine a0k ?_
     iterate 5 refine z ?_
     refine a0q ?_
     refine a0q ?_
     refine a0h (a5L (k := 9001) (c' := a0b false (a0n (a2a x.2.1 j (k, r)))) rfl (rfl) rfl) ?_
     refine a0k ?_
     refine z ?_
     refine a3a rfl rfl rfl Tryz.call93 (a7Y (s := (x.1, a2a x.2.1 j (k, r), k.2.1))) (a0g (a0a rfl) (a0s (a0d a0c (a0d (a0Q rfl rfl) (a0d a0c a0r)))) a0m) rfl rfl ?_
     iterate 2 refine z ?_
     refine yQ rfl (fun c6 => ?_) fun c6 => ?_
     ·refine a0q ?_
      refine a0h (σ' := ⟨[(3, .box 3 0), (6, .box 6 0), (7, .one (.dv [] (.bool (false))))], [(3, 67, [(.dv [] (.str (x.1))), (.dv [] (a0n (x.2.1))), (.dv [] (.int .i64 (x.2.2)))]), (6, 67, [(.dv [] (.str (ByteArray.empty))), .nil, (.dv [] (.int .i64 (0)))])], []⟩) (a0e ⟨rfl, rfl, rfl, trivial⟩ ⟨rfl, rfl, trivial⟩ trivial rfl) ?_
      refine a0k ?_
      refine z ?_
      refine zK 8971 Tryz.call46 ?_ (hf := a6x (x := x) (by omega))
      iterate 3 refine z ?_
      rw [b8i c1 d2 hpos (b7M c5) c6]
      refine a0h (σ' := ⟨[(6, .box 6 0), (7, .one (.dv [] (.bool (false))))], [(6, 67, [(.dv [] (.str ((x).1))), (.key 9001), (.dv [] (.int .i64 ((x).2.2)))])], [(9001, some (a0b false (a0n (x.2.1))))]⟩) (a0e ⟨rfl, rfl, trivial⟩ ⟨rfl, trivial⟩ ⟨rfl, trivial⟩ rfl) ?_
      iterate 2 refine z ?_
      refine a1h (a0F hT rfl rfl rfl rfl) (a0i rfl) rfl rfl ?_
      first | exact ⟨rfl, rfl⟩ | skip
     ·iterate 7 refine z ?_
      rw [b8T c1 d2 hpos (b7M c5) c6]
      refine a0h (σ' := ⟨[(6, .box 6 0), (7, .one (.dv [] (.bool (true))))], [(6, 67, [(.dv [] (.str ((x).1))), (.key 9001), (.dv [] (.int .i64 (k.2.1)))])], [(9001, some (a0b false (a0n (a2a x.2.1 j (k, r)))))]⟩) (a0e ⟨rfl, rfl, trivial⟩ ⟨rfl, trivial⟩ ⟨rfl, trivial⟩ rfl) ?_
      refine z ?_
      refine a1h (a0F hT rfl rfl rfl rfl) (a0i rfl) rfl rfl ?_
      first | exact ⟨rfl, rfl⟩ | skip
    ·iterate 2 refine z ?_
     refine a0q ?_
     refine a0q ?_
     refine a0h (a5L (k := 9001) (c' := a0b false (a0n (a2a x.2.1 j (k, r)))) rfl (rfl) rfl) ?_
     refine a0k ?_
     refine z ?_
     refine a3a rfl rfl rfl Tryz.call93 (a7Y (s := (x.1, a2a x.2.1 j (k, r), x.2.2))) (a0g (a0a rfl) (a0s (a0d a0c (a0d (a0Q rfl rfl) (a0d a0c a0r)))) a0m) rfl rfl ?_
     iterate 2 refine z ?_
     refine yQ rfl (fun c7 => ?_) fun c7 => ?_
     ·refine a0q ?_
      refine a0h (σ' := ⟨[(3, .box 3 0), (6, .box 6 0), (7, .one (.dv [] (.bool (false))))], [(3, 67, [(.dv [] (.str (x.1))), (.dv [] (a0n (x.2.1))), (.dv [] (.int .i64 (x.2.2)))]), (6, 67, [(.dv [] (.str (ByteArray.empty))), .nil, (.dv [] (.int .i64 (0)))])], []⟩) (a0e ⟨rfl, rfl, rfl, trivial⟩ ⟨rfl, rfl, trivial⟩ trivial rfl) ?_
      refine a0k ?_
      refine z ?_
      refine zK 8971 Tryz.call46 ?_ (hf := a6x (x := x) (by omega))
      iterate 3 refine z ?_
      rw [b8i c1 d2 hpos (b6T c5) c7]
      refine a0h (σ' := ⟨[(6, .box 6 0), (7, .one (.dv [] (.bool (false))))], [(6, 67, [(.dv [] (.str ((x).1))), (.key 9001), (.dv [] (.int .i64 ((x).2.2)))])], [(9001, some (a0b false (a0n (x.2.1))))]⟩) (a0e ⟨rfl, rfl, trivial⟩ ⟨rfl, trivial⟩ ⟨rfl, trivial⟩ rfl) ?_
      iterate 2 refine z ?_
      refine a1h (a0F hT rfl rfl rfl rfl) (a0i rfl) rfl rfl ?_
      first | exact ⟨rfl, rfl⟩ | skip
     ·iterate 7 refine z ?_
      rw [b8T c1 d2 hpos (b6T c5) c7]
      refine a0h (σ' := ⟨[(6, .box 6 0), (7, .one (.dv [] (.bool (true))))], [(6, 67, [(.dv [] (.str ((x).1))), (.key 9001), (.dv [] (.int .i64 ((x).2.2)))])], [(9001, some (a0b false (a0n (a2a x.2.1 j (k, r)))))]⟩) (a0e ⟨rfl, rfl, trivial⟩ ⟨rfl, trivial⟩ ⟨rfl, trivial⟩ rfl) ?_
      refine z ?_
      refine a1h (a0F hT rfl rfl rfl rfl) (a0i rfl) rfl rfl ?_
      first | exact ⟨rfl, rfl⟩ | skip
end Go.Proofs.YtfejjkndbpejbaaGreat
