/-
  Contracts of the program's functions for the statements Serial, by the rules of the logic. Conditions: none but those in the theorems.
-/
import Derived.Test.YtjkpoekgnmgofaaGreatU3
set_option maxHeartbeats 4000000
set_option maxRecDepth 100000
namespace Go.Proofs.YtjkpoekgnmgofaaGreat
open Go.RowKit
open Go.Proofs
set_option linter.unusedVariables false
set_option linter.unusedSimpArgs false
theorem a5h {n lo hi : Int}  : PFn Tryz.prog 25 [.one (.dv [] (.int .i64 (n))), .one (.dv [] (.int .i64 (lo))), .one (.dv [] (.int .i64 (hi)))] (.one (.dv [] (.bool (decide (lo ≤ n) && decide (n ≤ hi))))) := by
 refine ⟨a0R Tryz.func25 rfl Tryz.ntmps25 Tryz.results25 rfl (fun C => ?_)⟩
 refine a1i (x := .tmp 0) (a0a rfl) fun f0 => ?_
 refine a1i (x := .tmp 1) (a0a rfl) fun f1 => ?_
 refine a1i (x := .tmp 2) (a0a rfl) fun f2 => ?_
 iterate 16 refine z ?_
 rfl
theorem a6V {n lo hi : Int}  : PFn Tryz.prog 59 [.one (.dv [] (.int .i64 (n))), .one (.dv [] (.int .i64 (lo))), .one (.dv [] (.int .i64 (hi)))] (.one (.dv [] (.bool (decide (lo ≤ n) && decide (n ≤ hi))))) := by
 refine ⟨a0R Tryz.func59 rfl Tryz.ntmps59 Tryz.results59 rfl (fun C => ?_)⟩
 refine a1i (x := .tmp 0) (a0a rfl) fun f0 => ?_
 refine a1i (x := .tmp 1) (a0a rfl) fun f1 => ?_
 refine a1i (x := .tmp 2) (a0a rfl) fun f2 => ?_
 iterate 16 refine z ?_
 rfl

theorem b0F {α : Type} {p : α → Bool} {l : List α} {k : Nat} {d : α} (h : (l.take k).all p = true) (hk : k < l.length) (hp : p (l.getD k d) = true) : (l.take (k + 1)).all p = true := by
 rw [List.take_succ_eq_append_getElem hk, List.all_append, h]
 simp only [List.all_cons, List.all_nil, Bool.and_true, Bool.true_and]
 simpa [List.getD, List.getElem?_eq_getElem hk] using hp
theorem b0z {α : Type} {p : α → Bool} {l : List α} {k : Nat} {d : α} (hk : k < l.length) (hp : p (l.getD k d) = false) : l.all p = false := by
 rw [List.all_eq_false]
 refine ⟨l[k], List.getElem_mem hk, ?_⟩
 simpa [List.getD, List.getElem?_eq_getElem hk] using hp
theorem a9F {α : Type} {p : α → Bool} {l : List α} {k : Nat} (h : (l.take k).all p = true) (hk : l.length ≤ k) : l.all p = true := by rwa [List.take_of_length_le hk] at h
theorem a4L (s : ByteArray) : s.data.toList.length = s.size := rfl
def kch (b : UInt8) : Bool := (decide ((97 : Int) ≤ (b.toNat : Int)) && decide ((b.toNat : Int) ≤ 122)) || (decide ((48 : Int) ≤ (b.toNat : Int)) && decide ((b.toNat : Int) ≤ 57))
def a4n (s : Str) : Bool := s.data.toList.all kch && decide ((s.size : Int) ≤ 12)
def wch (sl : Bool) (b : UInt8) : Bool := (decide ((97 : Int) ≤ (b.toNat : Int)) && decide ((b.toNat : Int) ≤ 122)) || (sl && decide ((b.toNat : Int) = 47))
theorem b7C (b : UInt8) : ((decide ((b.toNat : Int) < 97) || decide ((122 : Int) < (b.toNat : Int))) && (decide ((b.toNat : Int) < 48) || decide ((57 : Int) < (b.toNat : Int)))) = !kch b := by
 unfold kch
 generalize (b.toNat : Int) = z
 by_cases h1 : z < 97 <;> by_cases h2 : 122 < z <;> by_cases h3 : z < 48 <;> by_cases h4 : 57 < z <;> simp [h1, h2, h3, h4] <;> omega

theorem c0V {s : Str}  : PFn Tryz.prog 119 [.one (.dv [] (.str (s)))] (.one (.dv [] (.bool (a4n s)))) := by
 refine ⟨a0R Tryz.func119 rfl Tryz.ntmps119 Tryz.results119 rfl (fun C => ?_)⟩
 refine a1i (x := .tmp 0) (a0a rfl) fun f0 => ?_
 iterate 8 refine z ?_
 refine a1f (ι := Nat) (fun zz => ⟨[(0, .one (.dv [] (.str (s)))), (3, .one (.dv [] (.int .i64 ((zz : Int)))))], [], []⟩) (fun zz => zz ≤ s.size ∧ (s.data.toList.take zz).all kch = true) (fun zz => s.size - zz) (0) ?_ (a0e ⟨rfl, rfl, trivial⟩ trivial trivial rfl) (fun zz hx => ?_)
 ·exact ⟨Nat.zero_le _, rfl⟩
 obtain ⟨k, rfl⟩ : ∃ v, v = zz := ⟨_, rfl⟩
 replace hx : k ≤ s.size ∧ (s.data.toList.take k).all kch = true := hx
 obtain ⟨hk, hall⟩ := hx
 show Ok _ _ _ _ _ (⟨[(0, .one (.dv [] (.str (s)))), (3, .one (.dv [] (.int .i64 ((k : Int)))))], [], []⟩ : St)
 iterate 7 refine z ?_
 refine yQ rfl (fun c1 => ?_) fun c1 => ?_
 ·have d1 := of_decide_eq_true c1
  iterate 29 refine z ?_
  refine yQ rfl (fun c2 => ?_) fun c2 => ?_
  ·iterate 10 refine z ?_
   rw [a4n, b0z (k := k) (d := 0) (by rw [a4L]; omega) (by have h : (!kch (s.data.toList.getD k 0)) = true := c2; simpa using h)]; rfl
  ·iterate 3 refine z ?_
   refine a0o ?_
   iterate 4 refine z ?_
   refine ⟨k + 1, ?_, ?_, a0e ⟨rfl, rfl, trivial⟩ trivial trivial rfl⟩
   ·exact ⟨by omega, b0F (d := 0) hall (by rw [a4L]; omega) (by have h : (!kch (s.data.toList.getD k 0)) = false := c2; simpa using h)⟩
   ·omega
 ·have d1 := of_decide_eq_false c1
  iterate 13 refine z ?_
  rw [a4n, a9F hall (by rw [a4L]; omega)]; rfl
theorem c2q {s : Str}  : PFn Tryz.prog 132 [.one (.dv [] (.str (s)))] (.one (.dv [] (.bool (a4n s)))) := by
 refine ⟨a0R Tryz.func132 rfl Tryz.ntmps132 Tryz.results132 rfl (fun C => ?_)⟩
 refine a1i (x := .tmp 0) (a0a rfl) fun f0 => ?_
 iterate 8 refine z ?_
 refine a1f (ι := Nat) (fun zz => ⟨[(0, .one (.dv [] (.str (s)))), (3, .one (.dv [] (.int .i64 ((zz : Int)))))], [], []⟩) (fun zz => zz ≤ s.size ∧ (s.data.toList.take zz).all kch = true) (fun zz => s.size - zz) (0) ?_ (a0e ⟨rfl, rfl, trivial⟩ trivial trivial rfl) (fun zz hx => ?_)
 ·exact ⟨Nat.zero_le _, rfl⟩
 obtain ⟨k, rfl⟩ : ∃ v, v = zz := ⟨_, rfl⟩
 replace hx : k ≤ s.size ∧ (s.data.toList.take k).all kch = true := hx
 obtain ⟨hk, hall⟩ := hx
 show Ok _ _ _ _ _ (⟨[(0, .one (.dv [] (.str (s)))), (3, .one (.dv [] (.int .i64 ((k : Int)))))], [], []⟩ : St)
 iterate 7 refine z ?_
 refine yQ rfl (fun c1 => ?_) fun c1 => ?_
 ·have d1 := of_decide_eq_true c1
  iterate 28 refine z ?_
  refine yQ rfl (fun c2 => ?_) fun c2 => ?_
  ·iterate 10 refine z ?_
   rw [a4n, b0z (k := k) (d := 0) (by rw [a4L]; omega) (by have h := (b7C (s.data.toList.getD k 0)).symm.trans c2; simpa using h)]; rfl
  ·iterate 3 refine z ?_
   refine a0o ?_
   iterate 4 refine z ?_
   refine ⟨k + 1, ?_, ?_, a0e ⟨rfl, rfl, trivial⟩ trivial trivial rfl⟩
   ·exact ⟨by omega, b0F (d := 0) hall (by rw [a4L]; omega) (by have h := (b7C (s.data.toList.getD k 0)).symm.trans c2; simpa using h)⟩
   ·omega
 ·have d1 := of_decide_eq_false c1
  iterate 13 refine z ?_
  rw [a4n, a9F hall (by rw [a4L]; omega)]; rfl
end Go.Proofs.YtjkpoekgnmgofaaGreat

namespace Go.Proofs.YtjkpoekgnmgofaaGreat
open Go.RowKit
open Go.Proofs
set_option linter.unusedVariables false
set_option linter.unusedSimpArgs false

def a1n (k : a0Y) : Bool := (decide (1 ≤ k.1) && decide (k.1 ≤ 3)) && (decide (-1000000000000 ≤ k.2.1) && decide (k.2.1 ≤ 1000000000000)) && a4n k.2.2 && !(decide (k.1 = 2) && !decide (k.2.1 = 0)) && !(decide (k.1 = 1) && !sEq k.2.2 (ByteArray.mk #[]))
def a2h (s : Str) : Bool := s.data.toList.all (wch false) && (decide (1 ≤ (s.size : Int)) && decide ((s.size : Int) ≤ 8))
theorem b4P (b : UInt8) : (decide ((b.toNat : Int) < 97) || decide ((122 : Int) < (b.toNat : Int))) = !wch false b := by
 unfold wch
 generalize (b.toNat : Int) = z
 by_cases h1 : z < 97 <;> by_cases h2 : 122 < z <;> simp [h1, h2] <;> omega

theorem a6C {k : a0Y}  : PFn Tryz.prog 75 [.agg [(.dv [] (.int .i64 (k.1))), (.dv [] (.int .i64 (k.2.1))), (.dv [] (.str (k.2.2)))]] (.one (.dv [] (.bool (a1n k)))) := by
 refine ⟨a0R Tryz.func75 rfl Tryz.ntmps75 Tryz.results75 rfl (fun C => ?_)⟩
 refine yF 0 0 rfl rfl fun f0_0 => ?_
 refine yF 0 1 rfl rfl fun f0_1 => ?_
 refine yF 0 2 rfl rfl fun f0_2 => ?_
 iterate 8 refine z ?_
 refine zC Tryz.call25 ?_ (hf := a5h)
 iterate 4 refine z ?_
 refine a1A (a1p rfl rfl rfl rfl rfl) rfl rfl Tryz.call25 a5h (fun hg => (a0g (a0z rfl hg) (a0I a0c) (a0g (a0n (a0m rfl)) (a0I a0c) (a0g (a0n (a0m rfl)) (a0I a0c) a0w)))) rfl rfl ?_
 iterate 5 refine z ?_
 refine a1A (a1p rfl rfl rfl rfl rfl) rfl rfl Tryz.call119 c0V (fun hg => (a0g (a0z rfl hg) (a0I a0c) a0w)) rfl rfl ?_
 iterate 3 refine z ?_
 refine yQ rfl (fun c1 => ?_) fun c1 => ?_
 ·iterate 6 refine z ?_
  grind [a1n]
 ·iterate 27 refine z ?_
  grind [a1n]
theorem a6H {k : a0Y}  : PFn Tryz.prog 89 [.agg [(.dv [] (.int .i64 (k.1))), (.dv [] (.int .i64 (k.2.1))), (.dv [] (.str (k.2.2)))]] (.one (.dv [] (.bool (a1n k)))) := by
 refine ⟨a0R Tryz.func89 rfl Tryz.ntmps89 Tryz.results89 rfl (fun C => ?_)⟩
 refine yF 0 0 rfl rfl fun f0_0 => ?_
 refine yF 0 1 rfl rfl fun f0_1 => ?_
 refine yF 0 2 rfl rfl fun f0_2 => ?_
 iterate 7 refine z ?_
 refine zC Tryz.call59 ?_ (hf := a6V)
 iterate 3 refine z ?_
 refine a1A (a1p rfl rfl rfl rfl rfl) rfl rfl Tryz.call59 a6V (fun hg => (a0g (a0z rfl hg) (a0I a0c) (a0g (a0n (a0m rfl)) (a0I a0c) (a0g (a0n (a0m rfl)) (a0I a0c) a0w)))) rfl rfl ?_
 iterate 14 refine z ?_
 refine a1A (a1p rfl rfl rfl rfl rfl) rfl rfl Tryz.call132 c2q (fun hg => (a0g (a0z rfl hg) (a0I a0c) a0w)) rfl rfl ?_
 iterate 15 refine z ?_
 grind [a1n]
theorem b9r {s : Str} {m : Int} {sl : Bool}  : PFn Tryz.prog 84 [.one (.dv [] (.str (s))), .one (.dv [] (.int .i64 (m))), .one (.dv [] (.bool (sl)))] (.one (.dv [] (.bool (s.data.toList.all (wch sl) && (decide (1 ≤ (s.size : Int)) && decide ((s.size : Int) ≤ m)))))) := by
 refine ⟨a0R Tryz.func84 rfl Tryz.ntmps84 Tryz.results84 rfl (fun C => ?_)⟩
 refine a1i (x := .tmp 0) (a0a rfl) fun f0 => ?_
 refine a1i (x := .tmp 1) (a0a rfl) fun f1 => ?_
 iterate 8 refine z ?_
 refine a1f (ι := Nat) (fun zz => ⟨[(0, .one (.dv [] (.str (s)))), (1, .one (.dv [] (.int .i64 (m)))), (2, .one (.dv [] (.bool (sl)))), (7, .one (.dv [] (.int .i64 ((zz : Int)))))], [], []⟩) (fun zz => zz ≤ s.size ∧ (s.data.toList.take zz).all (wch sl) = true) (fun zz => s.size - zz) (0) ?_ (a0e ⟨rfl, rfl, rfl, rfl, trivial⟩ trivial trivial rfl) (fun zz hx => ?_)
 ·exact ⟨Nat.zero_le _, rfl⟩
 obtain ⟨k, rfl⟩ : ∃ v, v = zz := ⟨_, rfl⟩
 replace hx : k ≤ s.size ∧ (s.data.toList.take k).all (wch sl) = true := hx
 obtain ⟨hk, hall⟩ := hx
 show Ok _ _ _ _ _ (⟨[(0, .one (.dv [] (.str (s)))), (1, .one (.dv [] (.int .i64 (m)))), (2, .one (.dv [] (.bool (sl)))), (7, .one (.dv [] (.int .i64 ((k : Int)))))], [], []⟩ : St)
 iterate 7 refine z ?_
 refine yQ rfl (fun c1 => ?_) fun c1 => ?_
 ·have d1 := of_decide_eq_true c1
  iterate 26 refine z ?_
  refine yQ rfl (fun c2 => ?_) fun c2 => ?_
  ·iterate 10 refine z ?_
   rw [b0z (k := k) (d := 0) (by rw [a4L]; omega) (by have h : (!wch sl (s.data.toList.getD k 0)) = true := c2; simpa using h)]; rfl
  ·iterate 3 refine z ?_
   refine a0o ?_
   iterate 4 refine z ?_
   refine ⟨k + 1, ?_, ?_, a0e ⟨rfl, rfl, rfl, rfl, trivial⟩ trivial trivial rfl⟩
   ·exact ⟨by omega, b0F (d := 0) hall (by rw [a4L]; omega) (by have h : (!wch sl (s.data.toList.getD k 0)) = false := c2; simpa using h)⟩
   ·omega
 ·have d1 := of_decide_eq_false c1
  iterate 9 refine z ?_
  refine zC Tryz.call25 ?_ (hf := a5h)
  iterate 4 refine z ?_
  rw [a9F hall (by rw [a4L]; omega)]; rfl
theorem a8s {s : Str}  : PFn Tryz.prog 50 [.one (.dv [] (.str (s)))] (.one (.dv [] (.bool (a2h s)))) := by
 refine ⟨a0R Tryz.func50 rfl Tryz.ntmps50 Tryz.results50 rfl (fun C => ?_)⟩
 refine a1i (x := .tmp 0) (a0a rfl) fun f0 => ?_
 iterate 5 refine z ?_
 refine zC Tryz.call84 ?_ (hf := b9r)
 iterate 4 refine z ?_
 rfl
theorem a8g {s : Str}  : PFn Tryz.prog 57 [.one (.dv [] (.str (s)))] (.one (.dv [] (.bool (a2h s)))) := by
 refine ⟨a0R Tryz.func57 rfl Tryz.ntmps57 Tryz.results57 rfl (fun C => ?_)⟩
 refine a1i (x := .tmp 0) (a0a rfl) fun f0 => ?_
 iterate 8 refine z ?_
 refine a1f (ι := Nat) (fun zz => ⟨[(0, .one (.dv [] (.str (s)))), (3, .one (.dv [] (.int .i64 ((zz : Int)))))], [], []⟩) (fun zz => zz ≤ s.size ∧ (s.data.toList.take zz).all (wch false) = true) (fun zz => s.size - zz) (0) ?_ (a0e ⟨rfl, rfl, trivial⟩ trivial trivial rfl) (fun zz hx => ?_)
 ·exact ⟨Nat.zero_le _, rfl⟩
 obtain ⟨k, rfl⟩ : ∃ v, v = zz := ⟨_, rfl⟩
 replace hx : k ≤ s.size ∧ (s.data.toList.take k).all (wch false) = true := hx
 obtain ⟨hk, hall⟩ := hx
 show Ok _ _ _ _ _ (⟨[(0, .one (.dv [] (.str (s)))), (3, .one (.dv [] (.int .i64 ((k : Int)))))], [], []⟩ : St)
 iterate 7 refine z ?_
 refine yQ rfl (fun c1 => ?_) fun c1 => ?_
 ·have d1 := of_decide_eq_true c1
  iterate 16 refine z ?_
  refine yQ rfl (fun c2 => ?_) fun c2 => ?_
  ·iterate 10 refine z ?_
   rw [a2h, b0z (k := k) (d := 0) (by rw [a4L]; omega) (by have h := (b4P (s.data.toList.getD k 0)).symm.trans c2; simpa using h)]; rfl
  ·iterate 3 refine z ?_
   refine a0o ?_
   iterate 4 refine z ?_
   refine ⟨k + 1, ?_, ?_, a0e ⟨rfl, rfl, trivial⟩ trivial trivial rfl⟩
   ·exact ⟨by omega, b0F (d := 0) hall (by rw [a4L]; omega) (by have h := (b4P (s.data.toList.getD k 0)).symm.trans c2; simpa using h)⟩
   ·omega
 ·have d1 := of_decide_eq_false c1
  iterate 8 refine z ?_
  refine zC Tryz.call59 ?_ (hf := a6V)
  iterate 4 refine z ?_
  rw [a2h, a9F hall (by rw [a4L]; omega)]; rfl
end Go.Proofs.YtjkpoekgnmgofaaGreat

namespace Go.Proofs.YtjkpoekgnmgofaaGreat
open Go.RowKit
open Go.Proofs
set_option linter.unusedVariables false
set_option linter.unusedSimpArgs false

theorem b3E : ∀ (x y : List UInt8), (Op.bytesLess x y || (x == y)) = !Op.bytesLess y x
 | [], [] => rfl
 | [], _ :: _ => rfl
 | _ :: _, [] => rfl
 | a :: x, b :: y => by
  have ih := b3E x y
  simp only [Op.bytesLess]
  rcases Nat.lt_trichotomy a.toNat b.toNat with h | h | h
  ·have h1 : a < b := h
   have h2 : ¬ b < a := by intro h'; have : b.toNat < a.toNat := h'; omega
   have h3 : ¬ a = b := by rintro rfl; omega
   have h4 : ¬ b = a := fun e => h3 e.symm
   simp [h1, h2, h3, h4]
  ·have e : a = b := UInt8.toNat_inj.1 h
   subst e
   simpa using ih
  ·have h1 : b < a := h
   have h2 : ¬ a < b := by intro h'; have : a.toNat < b.toNat := h'; omega
   have h3 : ¬ a = b := by rintro rfl; omega
   have h4 : ¬ b = a := fun e => h3 e.symm
   simp [h1, h2, h3, h4]
theorem a6K (a b : Str) : (sLt a b || sEq a b) = !sLt b a := b3E _ _
theorem a3F {p : Nat → Bool} {k : Nat} (h : (List.range k).all p = true) (hp : p k = true) : (List.range (k + 1)).all p = true := by
 rw [List.range_succ, List.all_append, h]; simpa using hp
theorem a7C {p : Nat → Bool} {k n : Nat} (hk : k < n) (hp : p k = false) : (List.range n).all p = false := by
 rw [List.all_eq_false]; exact ⟨k, List.mem_range.2 hk, by simpa using hp⟩
def a4E (r : a0A) (i : Nat) : Bool := (!a2h (r.getD (i : Int).toNat default).1 || !(decide ((0 : Int) ≤ (r.getD (i : Int).toNat default).2) && decide ((r.getD (i : Int).toNat default).2 ≤ 1000000000))) ||
 (decide ((0 : Int) < (i : Int)) && (sLt (r.getD (i : Int).toNat default).1 (r.getD ((i : Int) - 1).toNat default).1 || sEq (r.getD (i : Int).toNat default).1 (r.getD ((i : Int) - 1).toNat default).1))
def a1l (r : a0A) : Bool := (List.range r.length).all (fun i => !a4E r i) && decide ((r.length : Int) ≤ 6)
def a9W (r : a0A) (i : Nat) : Bool := (!a2h (r.getD (i : Int).toNat default).1 || !(decide ((0 : Int) ≤ (r.getD (i : Int).toNat default).2) && decide ((r.getD (i : Int).toNat default).2 ≤ 1000000000))) ||
 (decide ((0 : Int) < (i : Int)) && !sLt (r.getD ((i : Int) - 1).toNat default).1 (r.getD (i : Int).toNat default).1)
theorem b6K (r : a0A) (i : Nat) : a9W r i = a4E r i := by unfold a9W a4E; rw [a6K]

theorem a8y {r : a0A}  : PFn Tryz.prog 76 [.agg [(.dv [] (a0L (r)))]] (.one (.dv [] (.bool (a1l r)))) := by
 refine ⟨a0R Tryz.func76 rfl Tryz.ntmps76 Tryz.results76 rfl (fun C => ?_)⟩
 refine yF 0 0 rfl rfl fun f0_0 => ?_
 iterate 12 refine z ?_
 refine a1f (ι := Nat) (fun zz => ⟨[(1, .box 1 0), (6, .one (.dv [] (a0L (r)))), (7, .one (.dv [] (.int .i64 ((((r)).length : Int))))), (8, .one (.dv [] (.int .i64 ((zz : Int)))))], [(1, 66, [(.dv [] (a0L (r)))])], []⟩) (fun zz => zz ≤ r.length ∧ (List.range zz).all (fun i => !a4E r i) = true) (fun zz => r.length - zz) (0) ?_ (a0e ⟨rfl, rfl, rfl, rfl, trivial⟩ ⟨rfl, trivial⟩ trivial rfl) (fun zz hx => ?_)
 ·exact ⟨Nat.zero_le _, rfl⟩
 obtain ⟨k, rfl⟩ : ∃ v, v = zz := ⟨_, rfl⟩
 replace hx : k ≤ r.length ∧ (List.range k).all (fun i => !a4E r i) = true := hx
 obtain ⟨hk, hall⟩ := hx
 show Ok _ _ _ _ _ (⟨[(1, .box 1 0), (6, .one (.dv [] (a0L (r)))), (7, .one (.dv [] (.int .i64 ((((r)).length : Int))))), (8, .one (.dv [] (.int .i64 ((k : Int)))))], [(1, 66, [(.dv [] (a0L (r)))])], []⟩ : St)
 iterate 3 refine z ?_
 refine a0p ?_
 refine yQ rfl (fun c1 => ?_) fun c1 => ?_
 ·have d1 := of_decide_eq_true c1
  iterate 12 refine z ?_
  refine a0p ?_
  refine a1L (oB := [1, 4]) (oK := []) (by kernel_rfl) rfl rfl ?_
  refine zD 0 ?_
  refine zD 1 ?_
  refine a4u 2 rfl (by kernel_rfl) rfl rfl rfl Tryz.call50 a8s (a0g (a0a rfl) (a0I a0c) a0w) rfl rfl rfl rfl ?_
  refine zD 3 ?_
  refine zD 4 ?_
  refine zDG 5 ?_
  refine zDG 6 ?_
  refine a4k 7 rfl (by kernel_rfl) (a1p rfl rfl rfl rfl rfl) rfl rfl Tryz.call25 a5h (fun hg => (a0g (a0z rfl hg) (a0I a0c) (a0g (a0n (a0m rfl)) (a0I a0c) (a0g (a0n (a0m rfl)) (a0I a0c) a0w)))) rfl rfl ?_
  refine zDG 8 ?_
  refine zD 9 ?_
  refine zD 10 ?_
  refine zDG 11 ?_
  refine zDG 12 ?_
  refine zDG 13 ?_
  refine zDG 14 ?_
  refine zDG 15 ?_
  refine zDG 16 ?_
  refine zDG 17 ?_
  refine zDG 18 ?_
  refine zDG 19 ?_
  refine zDG 20 ?_
  refine zDG 21 ?_
  refine zDG 22 ?_
  refine zDG 23 ?_
  refine zDG 24 ?_
  refine zD 25 ?_
  refine a2l (by kernel_rfl) ?_
  refine z ?_
  refine yQ rfl (fun c2 => ?_) fun c2 => ?_
  ·iterate 10 refine z ?_
   rw [a1l, a7C (k := k) (by omega) (by have h : a4E r k = true := c2; simpa using h)]; rfl
  ·iterate 3 refine z ?_
   refine a0o ?_
   iterate 3 refine z ?_
   refine ⟨k + 1, ?_, ?_, a0e ⟨rfl, rfl, rfl, rfl, trivial⟩ ⟨rfl, trivial⟩ trivial rfl⟩
   ·exact ⟨by omega, a3F hall (by have h : a4E r k = false := c2; simpa using h)⟩
   ·omega
 ·have d1 := of_decide_eq_false c1
  iterate 14 refine z ?_
  obtain rfl : k = r.length := by omega
  rw [a1l, hall]; rfl
theorem a7H {r : a0A}  : PFn Tryz.prog 90 [.agg [(.dv [] (a0L (r)))]] (.one (.dv [] (.bool (a1l r)))) := by
 refine ⟨a0R Tryz.func90 rfl Tryz.ntmps90 Tryz.results90 rfl (fun C => ?_)⟩
 refine yF 0 0 rfl rfl fun f0_0 => ?_
 iterate 9 refine z ?_
 refine a1f (ι := Nat) (fun zz => ⟨[(1, .box 1 0), (3, .one (.dv [] (.int .i64 ((zz : Int)))))], [(1, 66, [(.dv [] (a0L (r)))])], []⟩) (fun zz => zz ≤ r.length ∧ (List.range zz).all (fun i => !a4E r i) = true) (fun zz => r.length - zz) (0) ?_ (a0e ⟨rfl, rfl, trivial⟩ ⟨rfl, trivial⟩ trivial rfl) (fun zz hx => ?_)
 ·exact ⟨Nat.zero_le _, rfl⟩
 obtain ⟨k, rfl⟩ : ∃ v, v = zz := ⟨_, rfl⟩
 replace hx : k ≤ r.length ∧ (List.range k).all (fun i => !a4E r i) = true := hx
 obtain ⟨hk, hall⟩ := hx
 show Ok _ _ _ _ _ (⟨[(1, .box 1 0), (3, .one (.dv [] (.int .i64 ((k : Int)))))], [(1, 66, [(.dv [] (a0L (r)))])], []⟩ : St)
 iterate 8 refine z ?_
 refine yQ rfl (fun c1 => ?_) fun c1 => ?_
 ·have d1 := of_decide_eq_true c1
  iterate 4 refine z ?_
  refine a0p ?_
  refine a1L (oB := [1]) (oK := []) (by kernel_rfl) rfl rfl ?_
  refine zD 0 ?_
  refine zD 1 ?_
  refine zD 2 ?_
  refine zD 3 ?_
  refine zD 4 ?_
  refine zD 5 ?_
  refine a4u 6 rfl (by kernel_rfl) rfl rfl rfl Tryz.call57 a8g (a0g (a0a rfl) (a0I a0c) a0w) rfl rfl rfl rfl ?_
  refine zD 7 ?_
  refine zD 8 ?_
  refine zDG 9 ?_
  refine zDG 10 ?_
  refine zDG 11 ?_
  refine zDG 12 ?_
  refine zDG 13 ?_
  refine zDG 14 ?_
  refine a4k 15 rfl (by kernel_rfl) (a1p rfl rfl rfl rfl rfl) rfl rfl Tryz.call59 a6V (fun hg => (a0g (a0z rfl hg) (a0I a0c) (a0g (a0n (a0m rfl)) (a0I a0c) (a0g (a0n (a0m rfl)) (a0I a0c) a0w)))) rfl rfl ?_
  refine zDG 16 ?_
  refine zD 17 ?_
  refine zD 18 ?_
  refine zDG 19 ?_
  refine zDG 20 ?_
  refine zDG 21 ?_
  refine zDG 22 ?_
  refine zDG 23 ?_
  refine zDG 24 ?_
  refine zDG 25 ?_
  refine zDG 26 ?_
  refine zDG 27 ?_
  refine zDG 28 ?_
  refine zDG 29 ?_
  refine zDG 30 ?_
  refine zDG 31 ?_
  refine zDG 32 ?_
  refine zDG 33 ?_
  refine zDG 34 ?_
  refine zDG 35 ?_
  refine zDG 36 ?_
  refine zD 37 ?_
  refine a2l (by kernel_rfl) ?_
  refine z ?_
  refine yQ rfl (fun c2 => ?_) fun c2 => ?_
  ·iterate 10 refine z ?_
   rw [a1l, a7C (k := k) (by omega) (by have h : a9W r k = true := c2; rw [b6K] at h; simpa using h)]; rfl
  ·iterate 3 refine z ?_
   refine a0o ?_
   iterate 4 refine z ?_
   refine ⟨k + 1, ?_, ?_, a0e ⟨rfl, rfl, trivial⟩ ⟨rfl, trivial⟩ trivial rfl⟩
   ·exact ⟨by omega, a3F hall (by have h : a9W r k = false := c2; rw [b6K] at h; simpa using h)⟩
   ·omega
 ·have d1 := of_decide_eq_false c1
  iterate 14 refine z ?_
  obtain rfl : k = r.length := by omega
  rw [a1l, hall]; rfl
end Go.Proofs.YtjkpoekgnmgofaaGreat

namespace Go.Proofs.YtjkpoekgnmgofaaGreat
open Go.RowKit
open Go.Proofs
set_option linter.unusedVariables false
set_option linter.unusedSimpArgs false

def a0D {α : Type} (w : α → Nat) (xs : List α) : Nat := (xs.map w).sum
def a1a {α : Type} (w : α → Nat) (xs : List α) : Nat := xs.length + a0D w xs
theorem b5B {α : Type} (w : α → Nat) (xs ys : List α) : a0D w (xs ++ ys) = a0D w xs + a0D w ys := by simp [a0D]
theorem b3I {α : Type} (w : α → Nat) (xs : List α) (k : Nat) : a0D w (xs.take k) ≤ a0D w xs := by
 have h := b5B w (xs.take k) (xs.drop k)
 rw [List.take_append_drop] at h
 omega
theorem a3j {α : Type} [Inhabited α] (w : α → Nat) (xs : List α) (k : Nat) (h : k < xs.length) : a0D w (xs.take (k + 1)) = a0D w (xs.take k) + w (xs.getD (k : Int).toNat default) ∧ a0D w (xs.take (k + 1)) ≤ a0D w xs := by
 refine ⟨?_, b3I w xs _⟩
 have : xs.take (k + 1) = xs.take k ++ [xs.getD k default] := by
  rw [List.take_add_one, List.getElem?_eq_getElem h]; simp [List.getD, List.getElem?_eq_getElem h]
 rw [this, b5B]
 simp [a0D]
def b0Q (x : a0Y) : Nat := (x.2.2).size
def a5G (x : a5f) : Nat := (x.1).size
def a5E (x : a0A) : Nat := a1a a5G (x)
def a1S (x : a0O) : Nat := b0Q (x.1) + a5E (x.2)
def a0X (x : a0u) : Nat := (x.1).size + a1a a1S (x.2.1)
def a2x (x : a3d) : Nat := (x.1).size + (x.2).size
def a1B (x : DbT) : Nat := (x.1).size + a1a a0X (x.2.2.1) + a1a a2x (x.2.2.2)
def wOp (x : OpT) : Nat := (x.2.1).size + b0Q (x.2.2.1) + a5E (x.2.2.2.1) + (x.2.2.2.2).size
def wTx (x : TxT) : Nat := a1a wOp (x.2.1) + a1a a0X (x.2.2.2.2)
def a2y (x : List TxT) : Nat := a1a wTx (x)
end Go.Proofs.YtjkpoekgnmgofaaGreat

namespace Go.Proofs.YtjkpoekgnmgofaaGreat
open Go.RowKit
open Go.Proofs
set_option linter.unusedVariables false
set_option linter.unusedSimpArgs false
def a4m (o : OpT) : Bool := (decide (1 ≤ o.1) && decide (o.1 ≤ 6)) && !decide (o.1 = 4)
theorem b8U {x : OpT}  : PFn Tryz.prog 23 [.agg [(.dv [] (.int .i64 (x.1))), (.dv [] (.str (x.2.1))), (.dv [] (.int .i64 (x.2.2.1.1))), (.dv [] (.int .i64 (x.2.2.1.2.1))), (.dv [] (.str (x.2.2.1.2.2))), (.dv [] (a0L (x.2.2.2.1))), (.dv [] (.str (x.2.2.2.2)))]] (.one (.dv [] (.bool (a4m x)))) := by
 refine ⟨a0R Tryz.func23 rfl Tryz.ntmps23 Tryz.results23 rfl (fun C => ?_)⟩
 refine yF 0 0 rfl rfl fun f0_0 => ?_
 refine yF 0 1 rfl rfl fun f0_1 => ?_
 refine yF 0 2 rfl rfl fun f0_2 => ?_
 refine yF 0 3 rfl rfl fun f0_3 => ?_
 refine yF 0 4 rfl rfl fun f0_4 => ?_
 refine yF 0 5 rfl rfl fun f0_5 => ?_
 refine yF 0 6 rfl rfl fun f0_6 => ?_
 iterate 7 refine z ?_
 refine zC Tryz.call25 ?_ (hf := a5h)
 iterate 9 refine z ?_
 first | rfl | grind [a4m]
end Go.Proofs.YtjkpoekgnmgofaaGreat

namespace Go.Proofs.YtjkpoekgnmgofaaGreat
open Go.RowKit
open Go.Proofs
set_option linter.unusedVariables false
set_option linter.unusedSimpArgs false

def a1X (o : OpT) : Bool := (decide (1 ≤ o.1) && decide (o.1 ≤ 6)) && a2h o.2.1 && (decide (o.1 = 5) || a1n o.2.2.1) && a1l o.2.2.2.1 && ((decide (o.1 = 6) && a2h o.2.2.2.2) || (!decide (o.1 = 6) && sEq o.2.2.2.2 (ByteArray.mk #[])))
theorem b0U {α : Type} {p : α → Bool} {l : List α} {k : Nat} {d : α} (h : (l.take k).any p = false) (hk : k < l.length) (hp : p (l.getD k d) = false) : (l.take (k + 1)).any p = false := by
 rw [List.take_succ_eq_append_getElem hk, List.any_append, h]
 simp only [List.any_cons, List.any_nil, Bool.or_false, Bool.false_or]
 simpa [List.getD, List.getElem?_eq_getElem hk] using hp
theorem b1a {α : Type} {p : α → Bool} {l : List α} {k : Nat} {d : α} (hk : k < l.length) (hp : p (l.getD k d) = true) : l.any p = true := by
 rw [List.any_eq_true]
 exact ⟨l[k], List.getElem_mem hk, by simpa [List.getD, List.getElem?_eq_getElem hk] using hp⟩
theorem b2e {α : Type} {p : α → Bool} {l : List α} {k : Nat} (h : (l.take k).any p = false) (hk : l.length ≤ k) : l.any p = false := by
 rwa [List.take_of_length_le hk] at h
def a7b (x y : OpT) : Bool := sEq x.2.1 y.2.1 && (a4m x || a4m y)
def a6u (a b : List OpT) : Bool := a.any fun x => b.any (a7b x)

theorem b8e {x : OpT}  : PFn Tryz.prog 46 [.agg [(.dv [] (.int .i64 (x.1))), (.dv [] (.str (x.2.1))), (.dv [] (.int .i64 (x.2.2.1.1))), (.dv [] (.int .i64 (x.2.2.1.2.1))), (.dv [] (.str (x.2.2.1.2.2))), (.dv [] (a0L (x.2.2.2.1))), (.dv [] (.str (x.2.2.2.2)))]] (.one (.dv [] (.bool (a1X x)))) := by
 refine ⟨a0R Tryz.func46 rfl Tryz.ntmps46 Tryz.results46 rfl (fun C => ?_)⟩
 refine yF 0 0 rfl rfl fun f0_0 => ?_
 refine yF 0 1 rfl rfl fun f0_1 => ?_
 refine yF 0 2 rfl rfl fun f0_2 => ?_
 refine yF 0 3 rfl rfl fun f0_3 => ?_
 refine yF 0 4 rfl rfl fun f0_4 => ?_
 refine yF 0 5 rfl rfl fun f0_5 => ?_
 refine yF 0 6 rfl rfl fun f0_6 => ?_
 iterate 8 refine z ?_
 refine zC Tryz.call25 ?_ (hf := a5h)
 iterate 4 refine z ?_
 refine a1A (a1p rfl rfl rfl rfl rfl) rfl rfl Tryz.call50 a8s (fun hg => (a0g (a0z rfl hg) (a0I a0c) a0w)) rfl rfl ?_
 iterate 9 refine z ?_
 refine a1A (a3s rfl rfl rfl rfl rfl) rfl rfl Tryz.call75 a6C (fun hg => (a0g (a0z rfl hg) (a0t (a0d a0c (a0d a0c (a0d a0c a0s)))) a0w)) rfl rfl ?_
 iterate 6 refine z ?_
 refine a1A (a1p rfl rfl rfl rfl rfl) rfl rfl Tryz.call76 a8y (fun hg => (a0g (a0z rfl hg) (a0t (a0d a0c a0s)) a0w)) rfl rfl ?_
 iterate 3 refine z ?_
 refine yQ rfl (fun c1 => ?_) fun c1 => ?_
 ·iterate 6 refine z ?_
  grind [a1X]
 ·iterate 8 refine z ?_
  refine yQ rfl (fun c2 => ?_) fun c2 => ?_
  ·have d2 := of_decide_eq_true c2
   iterate 3 refine z ?_
   refine zC Tryz.call50 ?_ (hf := a8s)
   iterate 5 refine z ?_
   grind [a1X]
  ·have d2 := of_decide_eq_false c2
   iterate 10 refine z ?_
   grind [a1X]
theorem b6t {x : OpT}  : PFn Tryz.prog 60 [.agg [(.dv [] (.int .i64 (x.1))), (.dv [] (.str (x.2.1))), (.dv [] (.int .i64 (x.2.2.1.1))), (.dv [] (.int .i64 (x.2.2.1.2.1))), (.dv [] (.str (x.2.2.1.2.2))), (.dv [] (a0L (x.2.2.2.1))), (.dv [] (.str (x.2.2.2.2)))]] (.one (.dv [] (.bool (a1X x)))) := by
 refine ⟨a0R Tryz.func60 rfl Tryz.ntmps60 Tryz.results60 rfl (fun C => ?_)⟩
 refine yF 0 0 rfl rfl fun f0_0 => ?_
 refine yF 0 1 rfl rfl fun f0_1 => ?_
 refine yF 0 2 rfl rfl fun f0_2 => ?_
 refine yF 0 3 rfl rfl fun f0_3 => ?_
 refine yF 0 4 rfl rfl fun f0_4 => ?_
 refine yF 0 5 rfl rfl fun f0_5 => ?_
 refine yF 0 6 rfl rfl fun f0_6 => ?_
 iterate 7 refine z ?_
 refine zC Tryz.call59 ?_ (hf := a6V)
 iterate 3 refine z ?_
 refine a1A (a1p rfl rfl rfl rfl rfl) rfl rfl Tryz.call57 a8g (fun hg => (a0g (a0z rfl hg) (a0I a0c) a0w)) rfl rfl ?_
 iterate 8 refine z ?_
 refine a1A (a3s rfl rfl rfl rfl rfl) rfl rfl Tryz.call89 a6H (fun hg => (a0g (a0z rfl hg) (a0t (a0d a0c (a0d a0c (a0d a0c a0s)))) a0w)) rfl rfl ?_
 iterate 5 refine z ?_
 refine a1A (a1p rfl rfl rfl rfl rfl) rfl rfl Tryz.call90 a7H (fun hg => (a0g (a0z rfl hg) (a0t (a0d a0c a0s)) a0w)) rfl rfl ?_
 iterate 8 refine z ?_
 refine a1A (a3s rfl rfl rfl rfl rfl) rfl rfl Tryz.call57 a8g (fun hg => (a0g (a0z rfl hg) (a0I a0c) a0w)) rfl rfl ?_
 iterate 16 refine z ?_
 grind [a1X]
theorem b9k {a b : List OpT}  : PFn Tryz.prog 9 [.one (.dv [] (a1m (a))), .one (.dv [] (a1m (b)))] (.one (.dv [] (.bool (a6u a b)))) := by
 refine ⟨a0R Tryz.func9 rfl Tryz.ntmps9 Tryz.results9 rfl (fun C => ?_)⟩
 refine a1i (x := .tmp 0) (a0a rfl) fun f0 => ?_
 refine a1i (x := .tmp 1) (a0a rfl) fun f1 => ?_
 iterate 10 refine z ?_
 refine a1f (ι := Nat) (fun zz => ⟨[(1, .one (.dv [] (a1m (b)))), (9, .one (.dv [] (a1m (a)))), (10, .one (.dv [] (.int .i64 ((((a)).length : Int))))), (11, .one (.dv [] (.int .i64 ((zz : Int)))))], [], []⟩) (fun zz => zz ≤ a.length ∧ (a.take zz).any (fun x => b.any (a7b x)) = false) (fun zz => a.length - zz) (0) ?_ (a0e ⟨rfl, rfl, rfl, rfl, trivial⟩ trivial trivial rfl) (fun zz hx => ?_)
 ·exact ⟨Nat.zero_le _, rfl⟩
 obtain ⟨i, rfl⟩ : ∃ v, v = zz := ⟨_, rfl⟩
 replace hx : i ≤ a.length ∧ (a.take i).any (fun x => b.any (a7b x)) = false := hx
 obtain ⟨hi, hall⟩ := hx
 show Ok _ _ _ _ _ (⟨[(1, .one (.dv [] (a1m (b)))), (9, .one (.dv [] (a1m (a)))), (10, .one (.dv [] (.int .i64 ((((a)).length : Int))))), (11, .one (.dv [] (.int .i64 ((i : Int)))))], [], []⟩ : St)
 iterate 3 refine z ?_
 refine a0p ?_
 refine yQ rfl (fun c1 => ?_) fun c1 => ?_
 ·have d1 := of_decide_eq_true c1
  iterate 16 refine z ?_
  refine a1f (ι := Nat) (fun zz => ⟨[(1, .one (.dv [] (a1m (b)))), (6, .box 6 0), (9, .one (.dv [] (a1m (a)))), (10, .one (.dv [] (.int .i64 ((((a)).length : Int))))), (11, .one (.dv [] (.int .i64 ((i : Int))))), (15, .one (.dv [] (a1m (b)))), (16, .one (.dv [] (.int .i64 ((((b)).length : Int))))), (17, .one (.dv [] (.int .i64 ((zz : Int)))))], [(6, 68, [(.dv [] (.int .i64 ((((a)).getD ((i : Int)).toNat default).1))), (.dv [] (.str ((((a)).getD ((i : Int)).toNat default).2.1))), (.dv [] (.int .i64 ((((a)).getD ((i : Int)).toNat default).2.2.1.1))), (.dv [] (.int .i64 ((((a)).getD ((i : Int)).toNat default).2.2.1.2.1))), (.dv [] (.str ((((a)).getD ((i : Int)).toNat default).2.2.1.2.2))), (.dv [] (a0L ((((a)).getD ((i : Int)).toNat default).2.2.2.1))), (.dv [] (.str ((((a)).getD ((i : Int)).toNat default).2.2.2.2)))])], []⟩) (fun zz => zz ≤ b.length ∧ (b.take zz).any (a7b (a.getD (i : Int).toNat default)) = false) (fun zz => b.length - zz) (0) ?_ (a0e ⟨rfl, rfl, rfl, rfl, rfl, rfl, rfl, rfl, trivial⟩ ⟨rfl, trivial⟩ trivial rfl) (fun zz hx => ?_)
  ·exact ⟨Nat.zero_le _, rfl⟩
  obtain ⟨j, rfl⟩ : ∃ v, v = zz := ⟨_, rfl⟩
  replace hx : j ≤ b.length ∧ (b.take j).any (a7b (a.getD (i : Int).toNat default)) = false := hx
  obtain ⟨hj, hall2⟩ := hx
  show Ok _ _ _ _ _ (⟨[(1, .one (.dv [] (a1m (b)))), (6, .box 6 0), (9, .one (.dv [] (a1m (a)))), (10, .one (.dv [] (.int .i64 ((((a)).length : Int))))), (11, .one (.dv [] (.int .i64 ((i : Int))))), (15, .one (.dv [] (a1m (b)))), (16, .one (.dv [] (.int .i64 ((((b)).length : Int))))), (17, .one (.dv [] (.int .i64 ((j : Int)))))], [(6, 68, [(.dv [] (.int .i64 ((((a)).getD ((i : Int)).toNat default).1))), (.dv [] (.str ((((a)).getD ((i : Int)).toNat default).2.1))), (.dv [] (.int .i64 ((((a)).getD ((i : Int)).toNat default).2.2.1.1))), (.dv [] (.int .i64 ((((a)).getD ((i : Int)).toNat default).2.2.1.2.1))), (.dv [] (.str ((((a)).getD ((i : Int)).toNat default).2.2.1.2.2))), (.dv [] (a0L ((((a)).getD ((i : Int)).toNat default).2.2.2.1))), (.dv [] (.str ((((a)).getD ((i : Int)).toNat default).2.2.2.2)))])], []⟩ : St)
  iterate 3 refine z ?_
  refine a0p ?_
  refine yQ rfl (fun c2 => ?_) fun c2 => ?_
  ·have d2 := of_decide_eq_true c2
   iterate 18 refine z ?_
   refine a1A (a1p rfl rfl rfl rfl rfl) rfl rfl Tryz.call23 b8U (fun hg => (a0g (a0z rfl hg) (a0t (a0d a0c (a0d a0c (a0d a0c (a0d a0c (a0d a0c (a0d a0c (a0d a0c a0s)))))))) a0w)) rfl rfl ?_
   iterate 2 refine z ?_
   refine a1A (a3s rfl rfl rfl rfl rfl) rfl rfl Tryz.call23 b8U (fun hg => (a0g (a0z rfl hg) (a0t (a0d a0c (a0d a0c (a0d a0c (a0d a0c (a0d a0c (a0d a0c (a0d a0c a0s)))))))) a0w)) rfl rfl ?_
   iterate 3 refine z ?_
   refine yQ rfl (fun c3 => ?_) fun c3 => ?_
   ·iterate 14 refine z ?_
    have h1 : b.any (a7b (a.getD i default)) = true := b1a (k := j) (d := default) (by omega) c3
    have h2 : a.any (fun x => b.any (a7b x)) = true := b1a (k := i) (d := default) (by omega) h1
    exact h2.symm
   ·iterate 3 refine z ?_
    refine a0o ?_
    iterate 3 refine z ?_
    refine ⟨j + 1, ?_, ?_, a0e ⟨rfl, rfl, rfl, rfl, rfl, rfl, rfl, rfl, trivial⟩ ⟨rfl, trivial⟩ trivial rfl⟩
    ·exact ⟨by omega, b0U (d := default) hall2 (by omega) (by first | exact c3 | exact c4 | exact c2)⟩
    ·omega
  ·have d2 := of_decide_eq_false c2
   iterate 6 refine z ?_
   refine a0o ?_
   iterate 3 refine z ?_
   refine ⟨i + 1, ?_, ?_, a0e ⟨rfl, rfl, rfl, rfl, trivial⟩ trivial trivial rfl⟩
   ·exact ⟨by omega, b0U (d := default) hall (by omega) (b2e hall2 (by omega))⟩
   ·omega
 ·have d1 := of_decide_eq_false c1
  iterate 10 refine z ?_
  exact (b2e (k := i) hall (by omega)).symm
end Go.Proofs.YtjkpoekgnmgofaaGreat

namespace Go.Proofs.YtjkpoekgnmgofaaGreat
open Go.RowKit
open Go.Proofs
set_option linter.unusedVariables false
set_option linter.unusedSimpArgs false

def eqL {α : Type} [Inhabited α] (p : α → α → Bool) (xs ys : List α) : Bool := decide ((xs.length : Int) = (ys.length : Int)) && (List.range xs.length).all (fun i => p (xs.getD (i : Int).toNat default) (ys.getD (i : Int).toNat default))
theorem a8R {α : Type} [Inhabited α] {p : α → α → Bool} {xs ys : List α} (h : ¬ (xs.length : Int) = (ys.length : Int)) : eqL p xs ys = false := by simp only [eqL, decide_eq_false h, Bool.false_and]
theorem a6X {α : Type} [Inhabited α] {p : α → α → Bool} {xs ys : List α} {k : Nat} (hk : k < xs.length) (h : p (xs.getD (k : Int).toNat default) (ys.getD (k : Int).toNat default) = false) : eqL p xs ys = false := by
 unfold eqL
 rw [a7C (p := fun i => p (xs.getD (i : Int).toNat default) (ys.getD (i : Int).toNat default)) hk h, Bool.and_false]
theorem a6Z {α : Type} [Inhabited α] {p : α → α → Bool} {xs ys : List α} {k : Nat} (hl : (xs.length : Int) = (ys.length : Int)) (h : (List.range k).all (fun i => p (xs.getD (i : Int).toNat default) (ys.getD (i : Int).toNat default)) = true) (hk : k = xs.length) : eqL p xs ys = true := by
 subst hk
 unfold eqL
 rw [h, decide_eq_true hl]; rfl
def a4V (f g : a5f) : Bool := sEq f.1 g.1 && decide (f.2 = g.2)
def a8S (r s : a0A) : Bool := eqL a4V r s
def a9r (k l : a0Y) : Bool := decide (k.1 = l.1) && (decide (k.2.1 = l.2.1) && sEq k.2.2 l.2.2)
def a4N (x y : a0O) : Bool := a9r x.1 y.1 && a8S x.2 y.2
def a3J (s t : a0u) : Bool := (sEq s.1 t.1 && decide (s.2.2 = t.2.2)) && eqL a4N s.2.1 t.2.1
def a1v (d e : a3d) : Bool := sEq d.1 e.1 && sEq d.2 e.2
def a6M (d e : DbT) : Bool := ((sEq d.1 e.1 && decide (d.2.1 = e.2.1)) && eqL a3J d.2.2.1 e.2.2.1) && eqL a1v d.2.2.2 e.2.2.2
theorem c4u {x y : List (a5f)}  : PFn Tryz.prog 128 [.one (.dv [] (a0L (x))), .one (.dv [] (a0L (y)))] (.one (.dv [] (.bool (eqL a4V x y)))) := by
 refine ⟨a0R Tryz.func128 rfl Tryz.ntmps128 Tryz.results128 rfl (fun C => ?_)⟩
 refine a1i (x := .tmp 0) (a0a rfl) fun f0 => ?_
 refine a1i (x := .tmp 1) (a0a rfl) fun f1 => ?_
 iterate 11 refine z ?_
 refine yQ rfl (fun c1 => ?_) fun c1 => ?_
 ·have d1 := a5P c1
  iterate 6 refine z ?_
  exact (a8R d1).symm
 ·have d1 := a5R c1
  iterate 9 refine z ?_
  refine a1f (ι := Nat) (fun zz => ⟨[(0, .one (.dv [] (a0L (x)))), (1, .one (.dv [] (a0L (y)))), (12, .one (.dv [] (.int .i64 ((((x)).length : Int))))), (13, .one (.dv [] (.int .i64 ((zz : Int)))))], [], []⟩) (fun zz => zz ≤ x.length ∧ (List.range zz).all (fun i => a4V (x.getD (i : Int).toNat default) (y.getD (i : Int).toNat default)) = true) (fun zz => x.length - zz) (0) ?_ (a0e ⟨rfl, rfl, rfl, rfl, trivial⟩ trivial trivial rfl) (fun zz hx => ?_)
  ·exact ⟨Nat.zero_le _, rfl⟩
  obtain ⟨k, rfl⟩ : ∃ v, v = zz := ⟨_, rfl⟩
  replace hx : k ≤ x.length ∧ (List.range k).all (fun i => a4V (x.getD (i : Int).toNat default) (y.getD (i : Int).toNat default)) = true := hx
  obtain ⟨hk, hall⟩ := hx
  show Ok _ _ _ _ _ (⟨[(0, .one (.dv [] (a0L (x)))), (1, .one (.dv [] (a0L (y)))), (12, .one (.dv [] (.int .i64 ((((x)).length : Int))))), (13, .one (.dv [] (.int .i64 ((k : Int)))))], [], []⟩ : St)
  iterate 3 refine z ?_
  refine a0p ?_
  refine yQ rfl (fun c2 => ?_) fun c2 => ?_
  ·have d2 := of_decide_eq_true c2
   iterate 8 refine z ?_
   refine a0p ?_
   refine a1L (oB := []) (oK := []) (by kernel_rfl) rfl rfl ?_
   refine zD 0 ?_
   refine zD 1 ?_
   refine zD 2 ?_
   refine zD 3 ?_
   refine zD 4 ?_
   refine zD 5 ?_
   refine zD 6 ?_
   refine zD 7 ?_
   refine a1k 8 rfl (by kernel_rfl) rfl rfl (a5A rfl (a0a rfl) (a0a rfl) rfl rfl Tryz.eqGuardType137 (b5G _ _ _ _)) rfl rfl rfl rfl ?_
   refine a2l (by kernel_rfl) ?_
   refine z ?_
   refine yQ rfl (fun c3 => ?_) fun c3 => ?_
   ·iterate 10 refine z ?_
    exact (a6X (k := k) (by omega) (by have h := c3; grind [a4V])).symm
   ·iterate 3 refine z ?_
    refine a0o ?_
    iterate 3 refine z ?_
    refine ⟨k + 1, ?_, ?_, a0e ⟨rfl, rfl, rfl, rfl, trivial⟩ trivial trivial rfl⟩
    ·exact ⟨by omega, a3F hall (by have h := c3; grind [a4V])⟩
    ·omega
  ·have d2 := of_decide_eq_false c2
   iterate 10 refine z ?_
   exact (a6Z d1 hall (by omega)).symm
theorem c3x {x y : a0A}  : PFn Tryz.prog 83 [.agg [(.dv [] (a0L (x)))], .agg [(.dv [] (a0L (y)))]] (.one (.dv [] (.bool (a8S x y)))) := by
 refine ⟨a0R Tryz.func83 rfl Tryz.ntmps83 Tryz.results83 rfl (fun C => ?_)⟩
 refine yF 0 0 rfl rfl fun f0_0 => ?_
 refine yF 1 0 rfl rfl fun f1_0 => ?_
 iterate 10 refine z ?_
 refine zC Tryz.call128 ?_ (hf := c4u)
 iterate 4 refine z ?_
 rfl
theorem c4W {x y : List (a5f)}  : PFn Tryz.prog 62 [.agg [(.dv [] (a0L (x)))], .agg [(.dv [] (a0L (y)))]] (.one (.dv [] (.bool (eqL a4V x y)))) := by
 refine ⟨a0R Tryz.func62 rfl Tryz.ntmps62 Tryz.results62 rfl (fun C => ?_)⟩
 refine yF 0 0 rfl rfl fun f0_0 => ?_
 refine yF 1 0 rfl rfl fun f1_0 => ?_
 iterate 15 refine z ?_
 refine yQ rfl (fun c1 => ?_) fun c1 => ?_
 ·have d1 := a5P c1
  iterate 6 refine z ?_
  exact (a8R d1).symm
 ·have d1 := a5R c1
  iterate 7 refine z ?_
  refine a1f (ι := Nat) (fun zz => ⟨[(2, .box 2 0), (3, .box 3 0), (5, .one (.dv [] (.int .i64 ((zz : Int)))))], [(2, 66, [(.dv [] (a0L (x)))]), (3, 66, [(.dv [] (a0L (y)))])], []⟩) (fun zz => zz ≤ x.length ∧ (List.range zz).all (fun i => a4V (x.getD (i : Int).toNat default) (y.getD (i : Int).toNat default)) = true) (fun zz => x.length - zz) (0) ?_ (a0e ⟨rfl, rfl, rfl, trivial⟩ ⟨rfl, rfl, trivial⟩ trivial rfl) (fun zz hx => ?_)
  ·exact ⟨Nat.zero_le _, rfl⟩
  obtain ⟨k, rfl⟩ : ∃ v, v = zz := ⟨_, rfl⟩
  replace hx : k ≤ x.length ∧ (List.range k).all (fun i => a4V (x.getD (i : Int).toNat default) (y.getD (i : Int).toNat default)) = true := hx
  obtain ⟨hk, hall⟩ := hx
  show Ok _ _ _ _ _ (⟨[(2, .box 2 0), (3, .box 3 0), (5, .one (.dv [] (.int .i64 ((k : Int)))))], [(2, 66, [(.dv [] (a0L (x)))]), (3, 66, [(.dv [] (a0L (y)))])], []⟩ : St)
  iterate 8 refine z ?_
  refine yQ rfl (fun c2 => ?_) fun c2 => ?_
  ·have d2 := of_decide_eq_true c2
   iterate 4 refine z ?_
   refine a0p ?_
   refine a1L (oB := [2, 3]) (oK := []) (by kernel_rfl) rfl rfl ?_
   refine zD 0 ?_
   refine zD 1 ?_
   refine zD 2 ?_
   refine zD 3 ?_
   refine zD 4 ?_
   refine zD 5 ?_
   refine zD 6 ?_
   refine zD 7 ?_
   refine zD 8 ?_
   refine zD 9 ?_
   refine a1k 10 rfl (by kernel_rfl) rfl rfl (a5A rfl (a0a rfl) (a0a rfl) rfl rfl Tryz.eqGuardType137 (b5G _ _ _ _)) rfl rfl rfl rfl ?_
   refine a2l (by kernel_rfl) ?_
   refine z ?_
   refine yQ rfl (fun c3 => ?_) fun c3 => ?_
   ·iterate 10 refine z ?_
    exact (a6X (k := k) (by omega) (by have h := c3; grind [a4V])).symm
   ·iterate 3 refine z ?_
    refine a0o ?_
    iterate 4 refine z ?_
    refine ⟨k + 1, ?_, ?_, a0e ⟨rfl, rfl, rfl, trivial⟩ ⟨rfl, rfl, trivial⟩ trivial rfl⟩
    ·exact ⟨by omega, a3F hall (by have h := c3; grind [a4V])⟩
    ·omega
  ·have d2 := of_decide_eq_false c2
   iterate 10 refine z ?_
   exact (a6Z d1 hall (by omega)).symm
end Go.Proofs.YtjkpoekgnmgofaaGreat

namespace Go.Proofs.YtjkpoekgnmgofaaGreat
open Go.RowKit
open Go.Proofs
set_option linter.unusedVariables false
set_option linter.unusedSimpArgs false

def a0j {α : Type} (p : α → Bool) : List α → Int → Int
 | [], _ => -1
 | x :: xs, i => if p x then i else a0j p xs (i + 1)
theorem b2U {α : Type} {p : α → Bool} : ∀ {xs : List α} {k : Nat} {i : Int}, (xs.take k).any p = false → k ≤ xs.length → a0j p xs i = a0j p (xs.drop k) (i + k)
 | xs, 0, i, _, _ => by simp
 | [], k + 1, i, _, hk => by simp at hk
 | x :: xs, k + 1, i, h, hk => by
  simp only [List.take_succ_cons, List.any_cons, Bool.or_eq_false_iff] at h
  rw [a0j, h.1, List.drop_succ_cons]
  simp only [Bool.false_eq_true, if_false]
  rw [b2U h.2 (by simpa using hk)]
  congr 1; omega
theorem a6h {α : Type} {p : α → Bool} {xs : List α} {k : Nat} {d : α} (h : (xs.take k).any p = false) (hk : k < xs.length) (hp : p (xs.getD k d) = true) : a0j p xs 0 = (k : Int) := by
 rw [b2U h (by omega), List.drop_eq_getElem_cons hk, a0j]
 have : p xs[k] = true := by simpa [List.getD, List.getElem?_eq_getElem hk] using hp
 rw [if_pos this]; omega
theorem a5V {α : Type} {p : α → Bool} {xs : List α} {k : Nat} (h : (xs.take k).any p = false) (hk : k = xs.length) : a0j p xs 0 = -1 := by
 rw [b2U h (by omega), hk, List.drop_length]; rfl
theorem a6e {α : Type} {p : α → Bool} {l : List α} {k : Nat} {d : α} (h : (l.take k).any p = false) (hk : k < l.length) (hp : p (l.getD k d) = false) : (l.take (k + 1)).any p = false := by
 rw [List.take_succ_eq_append_getElem hk, List.any_append, h]
 simp only [List.any_cons, List.any_nil, Bool.or_false, Bool.false_or]
 simpa [List.getD, List.getElem?_eq_getElem hk] using hp
def a0y (n : Str) (s : a0u) : Bool := sEq s.1 n

theorem c5G {x : a0u} {n : Str}  : PFn Tryz.prog 44 [.agg [(.dv [] (.str (x.1))), (.dv [] (a0x (x.2.1))), (.dv [] (.int .i64 (x.2.2)))], .ref [] [.str (n)]] (.one (.dv [] (.bool (a0y n x)))) := by
 refine ⟨a0R Tryz.func44 rfl Tryz.ntmps44 Tryz.results44 rfl (fun C => ?_)⟩
 refine yF 0 0 rfl rfl fun f0_0 => ?_
 refine yF 0 1 rfl rfl fun f0_1 => ?_
 refine yF 0 2 rfl rfl fun f0_2 => ?_
 iterate 13 refine z ?_
 rfl
theorem c0A {x : List a0u} {n : Str}  : PFn Tryz.prog 43 [.one (.dv [] (a0k (x))), .fn 44 [[.str (n)]]] (.one (.dv [] (.int .i64 (a0j (a0y n) x 0)))) := by
 refine ⟨a0R Tryz.func43 rfl Tryz.ntmps43 Tryz.results43 rfl (fun C => ?_)⟩
 refine a1i (x := .tmp 0) (a0a rfl) fun f0 => ?_
 iterate 10 refine z ?_
 refine a1f (ι := Nat) (fun zz => ⟨[(0, .one (.dv [] (a0k (x)))), (1, .fn 44 [[.str (n)]]), (7, .one (.dv [] (.int .i64 ((((x)).length : Int))))), (8, .one (.dv [] (.int .i64 ((zz : Int)))))], [], []⟩) (fun zz => zz ≤ x.length ∧ (x.take zz).any (a0y n) = false) (fun zz => x.length - zz) (0) ?_ (a0e ⟨rfl, rfl, rfl, rfl, trivial⟩ trivial trivial rfl) (fun zz hx => ?_)
 ·exact ⟨Nat.zero_le _, rfl⟩
 obtain ⟨k, rfl⟩ : ∃ v, v = zz := ⟨_, rfl⟩
 replace hx : k ≤ x.length ∧ (x.take k).any (a0y n) = false := hx
 obtain ⟨hk, hall⟩ := hx
 show Ok _ _ _ _ _ (⟨[(0, .one (.dv [] (a0k (x)))), (1, .fn 44 [[.str (n)]]), (7, .one (.dv [] (.int .i64 ((((x)).length : Int))))), (8, .one (.dv [] (.int .i64 ((k : Int)))))], [], []⟩ : St)
 iterate 3 refine z ?_
 refine a0p ?_
 refine yQ rfl (fun c1 => ?_) fun c1 => ?_
 ·have d1 := of_decide_eq_true c1
  iterate 14 refine z ?_
  refine a7u rfl rfl rfl (a0a rfl) Tryz.call44 c5G (a0g (a0a rfl) (a0t (a0d a0c (a0d a0c (a0d a0c a0s)))) a0w) rfl rfl ?_
  refine z ?_
  refine yQ rfl (fun c2 => ?_) fun c2 => ?_
  ·iterate 11 refine z ?_
   exact (a6h (p := a0y n) (d := default) hall (by omega) c2).symm
  ·iterate 3 refine z ?_
   refine a0o ?_
   iterate 3 refine z ?_
   refine ⟨k + 1, ?_, ?_, a0e ⟨rfl, rfl, rfl, rfl, trivial⟩ trivial trivial rfl⟩
   ·exact ⟨by omega, a6e (d := default) hall (by omega) c2⟩
   ·omega
 ·have d1 := of_decide_eq_false c1
  iterate 10 refine z ?_
  exact (a5V (p := a0y n) hall (by omega)).symm
theorem a8F {x : DbT} {n : Str}  : PFn Tryz.prog 21 [.agg [(.dv [] (.str (x.1))), (.dv [] (.int .i64 (x.2.1))), (.dv [] (a0k (x.2.2.1))), (.dv [] (a0r (x.2.2.2)))], .one (.dv [] (.str (n)))] (.one (.dv [] (.int .i64 (a0j (a0y n) x.2.2.1 0)))) := by
 refine ⟨a0R Tryz.func21 rfl Tryz.ntmps21 Tryz.results21 rfl (fun C => ?_)⟩
 refine yF 0 0 rfl rfl fun f0_0 => ?_
 refine yF 0 1 rfl rfl fun f0_1 => ?_
 refine yF 0 2 rfl rfl fun f0_2 => ?_
 refine yF 0 3 rfl rfl fun f0_3 => ?_
 refine a1i (x := .tmp 1) (a0a rfl) fun f1 => ?_
 iterate 8 refine z ?_
 refine yO rfl rfl (b0t rfl (a0a rfl)) rfl ?_
 refine a4i rfl rfl rfl Tryz.call43 c0A (a0g (a0a rfl) (a0I a0c) (a0g (a0a rfl) (b3d (a9P rfl rfl b0C)) a0w)) rfl rfl ?_
 iterate 4 refine z ?_
 rfl
theorem b2H {x : DbT} {n : Str}  : PFn Tryz.prog 56 [.agg [(.dv [] (.str (x.1))), (.dv [] (.int .i64 (x.2.1))), (.dv [] (a0k (x.2.2.1))), (.dv [] (a0r (x.2.2.2)))], .one (.dv [] (.str (n)))] (.one (.dv [] (.int .i64 (a0j (a0y n) x.2.2.1 0)))) := by
 refine ⟨a0R Tryz.func56 rfl Tryz.ntmps56 Tryz.results56 rfl (fun C => ?_)⟩
 refine yF 0 0 rfl rfl fun f0_0 => ?_
 refine yF 0 1 rfl rfl fun f0_1 => ?_
 refine yF 0 2 rfl rfl fun f0_2 => ?_
 refine yF 0 3 rfl rfl fun f0_3 => ?_
 refine a1i (x := .tmp 1) (a0a rfl) fun f1 => ?_
 iterate 9 refine z ?_
 refine a1f (ι := Nat) (fun zz => ⟨[(1, .one (.dv [] (.str (n)))), (2, .box 2 0), (5, .one (.dv [] (.int .i64 ((zz : Int)))))], [(2, 27, [(.dv [] (.str (x.1))), (.dv [] (.int .i64 (x.2.1))), (.dv [] (a0k (x.2.2.1))), (.dv [] (a0r (x.2.2.2)))])], []⟩) (fun zz => zz ≤ x.2.2.1.length ∧ (x.2.2.1.take zz).any (a0y n) = false) (fun zz => x.2.2.1.length - zz) (0) ?_ (a0e ⟨rfl, rfl, rfl, trivial⟩ ⟨rfl, trivial⟩ trivial rfl) (fun zz hx => ?_)
 ·exact ⟨Nat.zero_le _, rfl⟩
 obtain ⟨k, rfl⟩ : ∃ v, v = zz := ⟨_, rfl⟩
 replace hx : k ≤ x.2.2.1.length ∧ (x.2.2.1.take k).any (a0y n) = false := hx
 obtain ⟨hk, hall⟩ := hx
 show Ok _ _ _ _ _ (⟨[(1, .one (.dv [] (.str (n)))), (2, .box 2 0), (5, .one (.dv [] (.int .i64 ((k : Int)))))], [(2, 27, [(.dv [] (.str (x.1))), (.dv [] (.int .i64 (x.2.1))), (.dv [] (a0k (x.2.2.1))), (.dv [] (a0r (x.2.2.2)))])], []⟩ : St)
 iterate 8 refine z ?_
 refine yQ rfl (fun c1 => ?_) fun c1 => ?_
 ·have d1 := of_decide_eq_true c1
  iterate 14 refine z ?_
  refine yQ rfl (fun c2 => ?_) fun c2 => ?_
  ·iterate 11 refine z ?_
   exact (a6h (p := a0y n) (d := default) hall (by omega) c2).symm
  ·iterate 3 refine z ?_
   refine a0o ?_
   iterate 4 refine z ?_
   refine ⟨k + 1, ?_, ?_, a0e ⟨rfl, rfl, rfl, trivial⟩ ⟨rfl, trivial⟩ trivial rfl⟩
   ·exact ⟨by omega, a6e (d := default) hall (by omega) c2⟩
   ·omega
 ·have d1 := of_decide_eq_false c1
  iterate 10 refine z ?_
  exact (a5V (p := a0y n) hall (by omega)).symm
end Go.Proofs.YtjkpoekgnmgofaaGreat

namespace Go.Proofs.YtjkpoekgnmgofaaGreat
open Go.RowKit
open Go.Proofs
set_option linter.unusedVariables false
set_option linter.unusedSimpArgs false
theorem c5j {x y : a0O}  : PFn Tryz.prog 49 [.agg [(.dv [] (.int .i64 (x.1.1))), (.dv [] (.int .i64 (x.1.2.1))), (.dv [] (.str (x.1.2.2))), (.dv [] (a0L (x.2)))], .agg [(.dv [] (.int .i64 (y.1.1))), (.dv [] (.int .i64 (y.1.2.1))), (.dv [] (.str (y.1.2.2))), (.dv [] (a0L (y.2)))]] (.one (.dv [] (.bool (a4N x y)))) := by
 refine ⟨a0R Tryz.func49 rfl Tryz.ntmps49 Tryz.results49 rfl (fun C => ?_)⟩
 refine yF 0 0 rfl rfl fun f0_0 => ?_
 refine yF 0 1 rfl rfl fun f0_1 => ?_
 refine yF 0 2 rfl rfl fun f0_2 => ?_
 refine yF 0 3 rfl rfl fun f0_3 => ?_
 refine yF 1 0 rfl rfl fun f1_0 => ?_
 refine yF 1 1 rfl rfl fun f1_1 => ?_
 refine yF 1 2 rfl rfl fun f1_2 => ?_
 refine yF 1 3 rfl rfl fun f1_3 => ?_
 iterate 10 refine z ?_
 refine yO rfl rfl (a5A rfl (a0a rfl) (a0a rfl) rfl rfl Tryz.eqGuardType63 (b1V _ _ _ _ _ _)) rfl ?_
 iterate 5 refine z ?_
 refine a1A (a1p rfl rfl rfl rfl rfl) rfl rfl Tryz.call83 c3x (fun hg => (a0g (a0z rfl hg) (a0t (a0d a0c a0s)) (a0g (a0z rfl hg) (a0t (a0d a0c a0s)) a0w))) rfl rfl ?_
 iterate 5 refine z ?_
 rfl
theorem c2E {x y : List (a0O)}  : PFn Tryz.prog 48 [.one (.dv [] (a0x (x))), .one (.dv [] (a0x (y))), .fn 49 []] (.one (.dv [] (.bool (eqL a4N x y)))) := by
 refine ⟨a0R Tryz.func48 rfl Tryz.ntmps48 Tryz.results48 rfl (fun C => ?_)⟩
 refine a1i (x := .tmp 0) (a0a rfl) fun f0 => ?_
 refine a1i (x := .tmp 1) (a0a rfl) fun f1 => ?_
 iterate 11 refine z ?_
 refine yQ rfl (fun c1 => ?_) fun c1 => ?_
 ·have d1 := a5P c1
  iterate 6 refine z ?_
  exact (a8R d1).symm
 ·have d1 := a5R c1
  iterate 9 refine z ?_
  refine a1f (ι := Nat) (fun zz => ⟨[(1, .one (.dv [] (a0x (y)))), (2, .fn 49 []), (15, .one (.dv [] (a0x (x)))), (16, .one (.dv [] (.int .i64 ((((x)).length : Int))))), (17, .one (.dv [] (.int .i64 ((zz : Int)))))], [], []⟩) (fun zz => zz ≤ x.length ∧ (List.range zz).all (fun i => a4N (x.getD (i : Int).toNat default) (y.getD (i : Int).toNat default)) = true) (fun zz => x.length - zz) (0) ?_ (a0e ⟨rfl, rfl, rfl, rfl, rfl, trivial⟩ trivial trivial rfl) (fun zz hx => ?_)
  ·exact ⟨Nat.zero_le _, rfl⟩
  obtain ⟨k, rfl⟩ : ∃ v, v = zz := ⟨_, rfl⟩
  replace hx : k ≤ x.length ∧ (List.range k).all (fun i => a4N (x.getD (i : Int).toNat default) (y.getD (i : Int).toNat default)) = true := hx
  obtain ⟨hk, hall⟩ := hx
  show Ok _ _ _ _ _ (⟨[(1, .one (.dv [] (a0x (y)))), (2, .fn 49 []), (15, .one (.dv [] (a0x (x)))), (16, .one (.dv [] (.int .i64 ((((x)).length : Int))))), (17, .one (.dv [] (.int .i64 ((k : Int)))))], [], []⟩ : St)
  iterate 3 refine z ?_
  refine a0p ?_
  refine yQ rfl (fun c2 => ?_) fun c2 => ?_
  ·have d2 := of_decide_eq_true c2
   iterate 24 refine z ?_
   refine a7u rfl rfl rfl (a0a rfl) Tryz.call49 c5j (a0g (a0a rfl) (a0t (a0d a0c (a0d a0c (a0d a0c (a0d a0c a0s))))) (a0g (a0a rfl) (a0t (a0d a0c (a0d a0c (a0d a0c (a0d a0c a0s))))) a0w)) rfl rfl ?_
   iterate 2 refine z ?_
   refine yQ rfl (fun c3 => ?_) fun c3 => ?_
   ·iterate 10 refine z ?_
    exact (a6X (k := k) (by omega) (by have h := c3; simpa using h)).symm
   ·iterate 3 refine z ?_
    refine a0o ?_
    iterate 3 refine z ?_
    refine ⟨k + 1, ?_, ?_, a0e ⟨rfl, rfl, rfl, rfl, rfl, trivial⟩ trivial trivial rfl⟩
    ·exact ⟨by omega, a3F hall (by have h := c3; simpa using h)⟩
    ·omega
  ·have d2 := of_decide_eq_false c2
   iterate 10 refine z ?_
   exact (a6Z d1 hall (by omega)).symm
theorem c3G {x y : a0u}  : PFn Tryz.prog 28 [.agg [(.dv [] (.str (x.1))), (.dv [] (a0x (x.2.1))), (.dv [] (.int .i64 (x.2.2)))], .agg [(.dv [] (.str (y.1))), (.dv [] (a0x (y.2.1))), (.dv [] (.int .i64 (y.2.2)))]] (.one (.dv [] (.bool (a3J x y)))) := by
 refine ⟨a0R Tryz.func28 rfl Tryz.ntmps28 Tryz.results28 rfl (fun C => ?_)⟩
 refine yF 0 0 rfl rfl fun f0_0 => ?_
 refine yF 0 1 rfl rfl fun f0_1 => ?_
 refine yF 0 2 rfl rfl fun f0_2 => ?_
 refine yF 1 0 rfl rfl fun f1_0 => ?_
 refine yF 1 1 rfl rfl fun f1_1 => ?_
 refine yF 1 2 rfl rfl fun f1_2 => ?_
 iterate 23 refine z ?_
 refine a1A (a1p rfl rfl rfl rfl rfl) rfl rfl Tryz.call48 c2E (fun hg => (a0g (a0z rfl hg) (a0I a0c) (a0g (a0z rfl hg) (a0I a0c) (a0g a0Q b1J a0w)))) rfl rfl ?_
 iterate 5 refine z ?_
 rfl
theorem c2A {x y : List (a0u)}  : PFn Tryz.prog 27 [.one (.dv [] (a0k (x))), .one (.dv [] (a0k (y))), .fn 28 []] (.one (.dv [] (.bool (eqL a3J x y)))) := by
 refine ⟨a0R Tryz.func27 rfl Tryz.ntmps27 Tryz.results27 rfl (fun C => ?_)⟩
 refine a1i (x := .tmp 0) (a0a rfl) fun f0 => ?_
 refine a1i (x := .tmp 1) (a0a rfl) fun f1 => ?_
 iterate 11 refine z ?_
 refine yQ rfl (fun c1 => ?_) fun c1 => ?_
 ·have d1 := a5P c1
  iterate 6 refine z ?_
  exact (a8R d1).symm
 ·have d1 := a5R c1
  iterate 9 refine z ?_
  refine a1f (ι := Nat) (fun zz => ⟨[(1, .one (.dv [] (a0k (y)))), (2, .fn 28 []), (15, .one (.dv [] (a0k (x)))), (16, .one (.dv [] (.int .i64 ((((x)).length : Int))))), (17, .one (.dv [] (.int .i64 ((zz : Int)))))], [], []⟩) (fun zz => zz ≤ x.length ∧ (List.range zz).all (fun i => a3J (x.getD (i : Int).toNat default) (y.getD (i : Int).toNat default)) = true) (fun zz => x.length - zz) (0) ?_ (a0e ⟨rfl, rfl, rfl, rfl, rfl, trivial⟩ trivial trivial rfl) (fun zz hx => ?_)
  ·exact ⟨Nat.zero_le _, rfl⟩
  obtain ⟨k, rfl⟩ : ∃ v, v = zz := ⟨_, rfl⟩
  replace hx : k ≤ x.length ∧ (List.range k).all (fun i => a3J (x.getD (i : Int).toNat default) (y.getD (i : Int).toNat default)) = true := hx
  obtain ⟨hk, hall⟩ := hx
  show Ok _ _ _ _ _ (⟨[(1, .one (.dv [] (a0k (y)))), (2, .fn 28 []), (15, .one (.dv [] (a0k (x)))), (16, .one (.dv [] (.int .i64 ((((x)).length : Int))))), (17, .one (.dv [] (.int .i64 ((k : Int)))))], [], []⟩ : St)
  iterate 3 refine z ?_
  refine a0p ?_
  refine yQ rfl (fun c2 => ?_) fun c2 => ?_
  ·have d2 := of_decide_eq_true c2
   iterate 24 refine z ?_
   refine a7u rfl rfl rfl (a0a rfl) Tryz.call28 c3G (a0g (a0a rfl) (a0t (a0d a0c (a0d a0c (a0d a0c a0s)))) (a0g (a0a rfl) (a0t (a0d a0c (a0d a0c (a0d a0c a0s)))) a0w)) rfl rfl ?_
   iterate 2 refine z ?_
   refine yQ rfl (fun c3 => ?_) fun c3 => ?_
   ·iterate 10 refine z ?_
    exact (a6X (k := k) (by omega) (by have h := c3; simpa using h)).symm
   ·iterate 3 refine z ?_
    refine a0o ?_
    iterate 3 refine z ?_
    refine ⟨k + 1, ?_, ?_, a0e ⟨rfl, rfl, rfl, rfl, rfl, trivial⟩ trivial trivial rfl⟩
    ·exact ⟨by omega, a3F hall (by have h := c3; simpa using h)⟩
    ·omega
  ·have d2 := of_decide_eq_false c2
   iterate 10 refine z ?_
   exact (a6Z d1 hall (by omega)).symm
theorem c5O {x y : List (a3d)}  : PFn Tryz.prog 29 [.one (.dv [] (a0r (x))), .one (.dv [] (a0r (y)))] (.one (.dv [] (.bool (eqL a1v x y)))) := by
 refine ⟨a0R Tryz.func29 rfl Tryz.ntmps29 Tryz.results29 rfl (fun C => ?_)⟩
 refine a1i (x := .tmp 0) (a0a rfl) fun f0 => ?_
 refine a1i (x := .tmp 1) (a0a rfl) fun f1 => ?_
 iterate 11 refine z ?_
 refine yQ rfl (fun c1 => ?_) fun c1 => ?_
 ·have d1 := a5P c1
  iterate 6 refine z ?_
  exact (a8R d1).symm
 ·have d1 := a5R c1
  iterate 9 refine z ?_
  refine a1f (ι := Nat) (fun zz => ⟨[(0, .one (.dv [] (a0r (x)))), (1, .one (.dv [] (a0r (y)))), (12, .one (.dv [] (.int .i64 ((((x)).length : Int))))), (13, .one (.dv [] (.int .i64 ((zz : Int)))))], [], []⟩) (fun zz => zz ≤ x.length ∧ (List.range zz).all (fun i => a1v (x.getD (i : Int).toNat default) (y.getD (i : Int).toNat default)) = true) (fun zz => x.length - zz) (0) ?_ (a0e ⟨rfl, rfl, rfl, rfl, trivial⟩ trivial trivial rfl) (fun zz hx => ?_)
  ·exact ⟨Nat.zero_le _, rfl⟩
  obtain ⟨k, rfl⟩ : ∃ v, v = zz := ⟨_, rfl⟩
  replace hx : k ≤ x.length ∧ (List.range k).all (fun i => a1v (x.getD (i : Int).toNat default) (y.getD (i : Int).toNat default)) = true := hx
  obtain ⟨hk, hall⟩ := hx
  show Ok _ _ _ _ _ (⟨[(0, .one (.dv [] (a0r (x)))), (1, .one (.dv [] (a0r (y)))), (12, .one (.dv [] (.int .i64 ((((x)).length : Int))))), (13, .one (.dv [] (.int .i64 ((k : Int)))))], [], []⟩ : St)
  iterate 3 refine z ?_
  refine a0p ?_
  refine yQ rfl (fun c2 => ?_) fun c2 => ?_
  ·have d2 := of_decide_eq_true c2
   iterate 8 refine z ?_
   refine a0p ?_
   refine a1L (oB := []) (oK := []) (by kernel_rfl) rfl rfl ?_
   refine zD 0 ?_
   refine zD 1 ?_
   refine zD 2 ?_
   refine zD 3 ?_
   refine zD 4 ?_
   refine zD 5 ?_
   refine zD 6 ?_
   refine zD 7 ?_
   refine a1k 8 rfl (by kernel_rfl) rfl rfl (a5A rfl (a0a rfl) (a0a rfl) rfl rfl Tryz.eqGuardType78 (b4a _ _ _ _)) rfl rfl rfl rfl ?_
   refine a2l (by kernel_rfl) ?_
   refine z ?_
   refine yQ rfl (fun c3 => ?_) fun c3 => ?_
   ·iterate 10 refine z ?_
    exact (a6X (k := k) (by omega) (by have h := c3; grind [a1v])).symm
   ·iterate 3 refine z ?_
    refine a0o ?_
    iterate 3 refine z ?_
    refine ⟨k + 1, ?_, ?_, a0e ⟨rfl, rfl, rfl, rfl, trivial⟩ trivial trivial rfl⟩
    ·exact ⟨by omega, a3F hall (by have h := c3; grind [a1v])⟩
    ·omega
  ·have d2 := of_decide_eq_false c2
   iterate 10 refine z ?_
   exact (a6Z d1 hall (by omega)).symm
theorem c3b {x y : DbT}  : PFn Tryz.prog 11 [.agg [(.dv [] (.str (x.1))), (.dv [] (.int .i64 (x.2.1))), (.dv [] (a0k (x.2.2.1))), (.dv [] (a0r (x.2.2.2)))], .agg [(.dv [] (.str (y.1))), (.dv [] (.int .i64 (y.2.1))), (.dv [] (a0k (y.2.2.1))), (.dv [] (a0r (y.2.2.2)))]] (.one (.dv [] (.bool (a6M x y)))) := by
 refine ⟨a0R Tryz.func11 rfl Tryz.ntmps11 Tryz.results11 rfl (fun C => ?_)⟩
 refine yF 0 0 rfl rfl fun f0_0 => ?_
 refine yF 0 1 rfl rfl fun f0_1 => ?_
 refine yF 0 2 rfl rfl fun f0_2 => ?_
 refine yF 0 3 rfl rfl fun f0_3 => ?_
 refine yF 1 0 rfl rfl fun f1_0 => ?_
 refine yF 1 1 rfl rfl fun f1_1 => ?_
 refine yF 1 2 rfl rfl fun f1_2 => ?_
 refine yF 1 3 rfl rfl fun f1_3 => ?_
 iterate 23 refine z ?_
 refine a1A (a1p rfl rfl rfl rfl rfl) rfl rfl Tryz.call27 c2A (fun hg => (a0g (a0z rfl hg) (a0I a0c) (a0g (a0z rfl hg) (a0I a0c) (a0g a0Q b1J a0w)))) rfl rfl ?_
 iterate 6 refine z ?_
 refine a1A (a1p rfl rfl rfl rfl rfl) rfl rfl Tryz.call29 c5O (fun hg => (a0g (a0z rfl hg) (a0I a0c) (a0g (a0z rfl hg) (a0I a0c) a0w))) rfl rfl ?_
 iterate 5 refine z ?_
 rfl
theorem c6d {x y : a0u}  : PFn Tryz.prog 35 [.agg [(.dv [] (.str (x.1))), (.dv [] (a0x (x.2.1))), (.dv [] (.int .i64 (x.2.2)))], .agg [(.dv [] (.str (y.1))), (.dv [] (a0x (y.2.1))), (.dv [] (.int .i64 (y.2.2)))]] (.one (.dv [] (.bool (a3J x y)))) := by
 refine ⟨a0R Tryz.func35 rfl Tryz.ntmps35 Tryz.results35 rfl (fun C => ?_)⟩
 refine yF 0 0 rfl rfl fun f0_0 => ?_
 refine yF 0 1 rfl rfl fun f0_1 => ?_
 refine yF 0 2 rfl rfl fun f0_2 => ?_
 refine yF 1 0 rfl rfl fun f1_0 => ?_
 refine yF 1 1 rfl rfl fun f1_1 => ?_
 refine yF 1 2 rfl rfl fun f1_2 => ?_
 iterate 29 refine z ?_
 refine yQ rfl (fun c1 => ?_) fun c1 => ?_
 ·iterate 6 refine z ?_
  have h := c1; grind [a3J, eqL]
 ·have e1 : (x.2.1.length : Int) = (y.2.1.length : Int) := by grind
  iterate 7 refine z ?_
  refine a1f (ι := Nat) (fun zz => ⟨[(2, .box 2 0), (3, .box 3 0), (5, .one (.dv [] (.int .i64 ((zz : Int)))))], [(2, 60, [(.dv [] (.str (x.1))), (.dv [] (a0x (x.2.1))), (.dv [] (.int .i64 (x.2.2)))]), (3, 60, [(.dv [] (.str (y.1))), (.dv [] (a0x (y.2.1))), (.dv [] (.int .i64 (y.2.2)))])], []⟩) (fun zz => zz ≤ x.2.1.length ∧ (List.range zz).all (fun i => a4N (x.2.1.getD (i : Int).toNat default) (y.2.1.getD (i : Int).toNat default)) = true) (fun zz => x.2.1.length - zz) (0) ?_ (a0e ⟨rfl, rfl, rfl, trivial⟩ ⟨rfl, rfl, trivial⟩ trivial rfl) (fun zz hx => ?_)
  ·exact ⟨Nat.zero_le _, rfl⟩
  obtain ⟨k, rfl⟩ : ∃ v, v = zz := ⟨_, rfl⟩
  replace hx : k ≤ x.2.1.length ∧ (List.range k).all (fun i => a4N (x.2.1.getD (i : Int).toNat default) (y.2.1.getD (i : Int).toNat default)) = true := hx
  obtain ⟨hk, hall⟩ := hx
  show Ok _ _ _ _ _ (⟨[(2, .box 2 0), (3, .box 3 0), (5, .one (.dv [] (.int .i64 ((k : Int)))))], [(2, 60, [(.dv [] (.str (x.1))), (.dv [] (a0x (x.2.1))), (.dv [] (.int .i64 (x.2.2)))]), (3, 60, [(.dv [] (.str (y.1))), (.dv [] (a0x (y.2.1))), (.dv [] (.int .i64 (y.2.2)))])], []⟩ : St)
  iterate 8 refine z ?_
  refine yQ rfl (fun c2 => ?_) fun c2 => ?_
  ·have d2 := of_decide_eq_true c2
   iterate 4 refine z ?_
   refine a0p ?_
   refine a1L (oB := [2, 3]) (oK := []) (by kernel_rfl) rfl rfl ?_
   refine zD 0 ?_
   refine zD 1 ?_
   refine zD 2 ?_
   refine zD 3 ?_
   refine zD 4 ?_
   refine zD 5 ?_
   refine zD 6 ?_
   refine zD 7 ?_
   refine zD 8 ?_
   refine zD 9 ?_
   refine zD 10 ?_
   refine zD 11 ?_
   refine a1k 12 rfl (by kernel_rfl) rfl rfl (a5A rfl (a0a rfl) (a0a rfl) rfl rfl Tryz.eqGuardType63 (c6k _ _ _ _ _ _)) rfl rfl rfl rfl ?_
   refine zD 13 ?_
   refine zDG 14 ?_
   refine zDG 15 ?_
   refine zDG 16 ?_
   refine zDG 17 ?_
   refine zDG 18 ?_
   refine zDG 19 ?_
   refine zDG 20 ?_
   refine zDG 21 ?_
   refine zDG 22 ?_
   refine zDG 23 ?_
   refine zDG 24 ?_
   refine zDG 25 ?_
   refine a4k 26 rfl (by kernel_rfl) (a1p rfl rfl rfl rfl rfl) rfl rfl Tryz.call62 c4W (fun hg => (a0g (a0z rfl hg) (a0t (a0d a0c a0s)) (a0g (a0z rfl hg) (a0t (a0d a0c a0s)) a0w))) rfl rfl ?_
   refine zDG 27 ?_
   refine zD 28 ?_
   refine a2l (by kernel_rfl) ?_
   refine z ?_
   refine yQ rfl (fun c3 => ?_) fun c3 => ?_
   ·iterate 10 refine z ?_
    rw [a3J, a6X (k := k) (by omega) (by have h := c3; clear hall; grind [a4N, a9r, a8S]), Bool.and_false]
   ·iterate 3 refine z ?_
    refine a0o ?_
    iterate 4 refine z ?_
    refine ⟨k + 1, ?_, ?_, a0e ⟨rfl, rfl, rfl, trivial⟩ ⟨rfl, rfl, trivial⟩ trivial rfl⟩
    ·exact ⟨by omega, a3F hall (by have h := c3; clear hall; grind [a4N, a9r, a8S])⟩
    ·omega
  ·have d2 := of_decide_eq_false c2
   iterate 10 refine z ?_
   have h2 := a6Z (p := a4N) (k := k) e1 hall (by omega); have h := c1; clear hall; grind [a3J]
theorem c5q {x y : DbT}  : PFn Tryz.prog 15 [.agg [(.dv [] (.str (x.1))), (.dv [] (.int .i64 (x.2.1))), (.dv [] (a0k (x.2.2.1))), (.dv [] (a0r (x.2.2.2)))], .agg [(.dv [] (.str (y.1))), (.dv [] (.int .i64 (y.2.1))), (.dv [] (a0k (y.2.2.1))), (.dv [] (a0r (y.2.2.2)))]] (.one (.dv [] (.bool (a6M x y)))) := by
 refine ⟨a0R Tryz.func15 rfl Tryz.ntmps15 Tryz.results15 rfl (fun C => ?_)⟩
 refine yF 0 0 rfl rfl fun f0_0 => ?_
 refine yF 0 1 rfl rfl fun f0_1 => ?_
 refine yF 0 2 rfl rfl fun f0_2 => ?_
 refine yF 0 3 rfl rfl fun f0_3 => ?_
 refine yF 1 0 rfl rfl fun f1_0 => ?_
 refine yF 1 1 rfl rfl fun f1_1 => ?_
 refine yF 1 2 rfl rfl fun f1_2 => ?_
 refine yF 1 3 rfl rfl fun f1_3 => ?_
 iterate 38 refine z ?_
 refine yQ rfl (fun c1 => ?_) fun c1 => ?_
 ·iterate 6 refine z ?_
  have h := c1; grind [a6M, eqL]
 ·have e1 : (x.2.2.1.length : Int) = (y.2.2.1.length : Int) := by grind
  have e2 : (x.2.2.2.length : Int) = (y.2.2.2.length : Int) := by grind
  iterate 7 refine z ?_
  refine a1f (ι := Nat) (fun zz => ⟨[(2, .box 2 0), (3, .box 3 0), (5, .one (.dv [] (.int .i64 ((zz : Int)))))], [(2, 27, [(.dv [] (.str (x.1))), (.dv [] (.int .i64 (x.2.1))), (.dv [] (a0k (x.2.2.1))), (.dv [] (a0r (x.2.2.2)))]), (3, 27, [(.dv [] (.str (y.1))), (.dv [] (.int .i64 (y.2.1))), (.dv [] (a0k (y.2.2.1))), (.dv [] (a0r (y.2.2.2)))])], []⟩) (fun zz => zz ≤ x.2.2.1.length ∧ (List.range zz).all (fun i => a3J (x.2.2.1.getD (i : Int).toNat default) (y.2.2.1.getD (i : Int).toNat default)) = true) (fun zz => x.2.2.1.length - zz) (0) ?_ (a0e ⟨rfl, rfl, rfl, trivial⟩ ⟨rfl, rfl, trivial⟩ trivial rfl) (fun zz hx => ?_)
  ·exact ⟨Nat.zero_le _, rfl⟩
  obtain ⟨k, rfl⟩ : ∃ v, v = zz := ⟨_, rfl⟩
  replace hx : k ≤ x.2.2.1.length ∧ (List.range k).all (fun i => a3J (x.2.2.1.getD (i : Int).toNat default) (y.2.2.1.getD (i : Int).toNat default)) = true := hx
  obtain ⟨hk, hall⟩ := hx
  show Ok _ _ _ _ _ (⟨[(2, .box 2 0), (3, .box 3 0), (5, .one (.dv [] (.int .i64 ((k : Int)))))], [(2, 27, [(.dv [] (.str (x.1))), (.dv [] (.int .i64 (x.2.1))), (.dv [] (a0k (x.2.2.1))), (.dv [] (a0r (x.2.2.2)))]), (3, 27, [(.dv [] (.str (y.1))), (.dv [] (.int .i64 (y.2.1))), (.dv [] (a0k (y.2.2.1))), (.dv [] (a0r (y.2.2.2)))])], []⟩ : St)
  iterate 8 refine z ?_
  refine yQ rfl (fun c2 => ?_) fun c2 => ?_
  ·have d2 := of_decide_eq_true c2
   iterate 4 refine z ?_
   refine a0p ?_
   refine a1L (oB := [2, 3]) (oK := []) (by kernel_rfl) rfl rfl ?_
   refine zD 0 ?_
   refine zD 1 ?_
   refine zD 2 ?_
   refine zD 3 ?_
   refine zD 4 ?_
   refine zD 5 ?_
   refine zD 6 ?_
   refine zD 7 ?_
   refine zD 8 ?_
   refine zD 9 ?_
   refine a4u 10 rfl (by kernel_rfl) rfl rfl rfl Tryz.call35 c6d (a0g (a0a rfl) (a0t (a0d a0c (a0d a0c (a0d a0c a0s)))) (a0g (a0a rfl) (a0t (a0d a0c (a0d a0c (a0d a0c a0s)))) a0w)) rfl rfl rfl rfl ?_
   refine zD 11 ?_
   refine a2l (by kernel_rfl) ?_
   refine z ?_
   refine yQ rfl (fun c3 => ?_) fun c3 => ?_
   ·iterate 10 refine z ?_
    rw [a6M, a6X (p := a3J) (k := k) (by omega) (by have h := c3; simpa using h), Bool.and_false, Bool.false_and]
   ·iterate 3 refine z ?_
    refine a0o ?_
    iterate 4 refine z ?_
    refine ⟨k + 1, ?_, ?_, a0e ⟨rfl, rfl, rfl, trivial⟩ ⟨rfl, rfl, trivial⟩ trivial rfl⟩
    ·exact ⟨by omega, a3F hall (by have h := c3; simpa using h)⟩
    ·omega
  ·have d2 := of_decide_eq_false c2
   iterate 10 refine z ?_
   refine a1f (ι := Nat) (fun zz => ⟨[(2, .box 2 0), (3, .box 3 0), (6, .one (.dv [] (.int .i64 ((zz : Int)))))], [(2, 27, [(.dv [] (.str (x.1))), (.dv [] (.int .i64 (x.2.1))), (.dv [] (a0k (x.2.2.1))), (.dv [] (a0r (x.2.2.2)))]), (3, 27, [(.dv [] (.str (y.1))), (.dv [] (.int .i64 (y.2.1))), (.dv [] (a0k (y.2.2.1))), (.dv [] (a0r (y.2.2.2)))])], []⟩) (fun zz => zz ≤ x.2.2.2.length ∧ (List.range zz).all (fun i => a1v (x.2.2.2.getD (i : Int).toNat default) (y.2.2.2.getD (i : Int).toNat default)) = true) (fun zz => x.2.2.2.length - zz) (0) ?_ (a0e ⟨rfl, rfl, rfl, trivial⟩ ⟨rfl, rfl, trivial⟩ trivial rfl) (fun zz hx => ?_)
   ·exact ⟨Nat.zero_le _, rfl⟩
   obtain ⟨k2, rfl⟩ : ∃ v, v = zz := ⟨_, rfl⟩
   replace hx : k2 ≤ x.2.2.2.length ∧ (List.range k2).all (fun i => a1v (x.2.2.2.getD (i : Int).toNat default) (y.2.2.2.getD (i : Int).toNat default)) = true := hx
   obtain ⟨hk2, hall2⟩ := hx
   show Ok _ _ _ _ _ (⟨[(2, .box 2 0), (3, .box 3 0), (6, .one (.dv [] (.int .i64 ((k2 : Int)))))], [(2, 27, [(.dv [] (.str (x.1))), (.dv [] (.int .i64 (x.2.1))), (.dv [] (a0k (x.2.2.1))), (.dv [] (a0r (x.2.2.2)))]), (3, 27, [(.dv [] (.str (y.1))), (.dv [] (.int .i64 (y.2.1))), (.dv [] (a0k (y.2.2.1))), (.dv [] (a0r (y.2.2.2)))])], []⟩ : St)
   iterate 8 refine z ?_
   refine yQ rfl (fun c4 => ?_) fun c4 => ?_
   ·have d4 := of_decide_eq_true c4
    iterate 4 refine z ?_
    refine a0p ?_
    refine a1L (oB := [2, 3]) (oK := []) (by kernel_rfl) rfl rfl ?_
    refine zD 0 ?_
    refine zD 1 ?_
    refine zD 2 ?_
    refine zD 3 ?_
    refine zD 4 ?_
    refine zD 5 ?_
    refine zD 6 ?_
    refine zD 7 ?_
    refine zD 8 ?_
    refine zD 9 ?_
    refine a1k 10 rfl (by kernel_rfl) rfl rfl (a5A rfl (a0a rfl) (a0a rfl) rfl rfl Tryz.eqGuardType78 (b4a _ _ _ _)) rfl rfl rfl rfl ?_
    refine a2l (by kernel_rfl) ?_
    refine z ?_
    refine yQ rfl (fun c5 => ?_) fun c5 => ?_
    ·iterate 10 refine z ?_
     rw [a6M, a6X (p := a1v) (k := k2) (by omega) (by have h := c5; clear hall2 hall; grind [a1v]), Bool.and_false]
    ·iterate 3 refine z ?_
     refine a0o ?_
     iterate 4 refine z ?_
     refine ⟨k2 + 1, ?_, ?_, a0e ⟨rfl, rfl, rfl, trivial⟩ ⟨rfl, rfl, trivial⟩ trivial rfl⟩
     ·exact ⟨by omega, a3F hall2 (by have h := c5; clear hall2 hall; grind [a1v])⟩
     ·omega
   ·have d4 := of_decide_eq_false c4
    iterate 10 refine z ?_
    have h2 := a6Z (p := a3J) (k := k) e1 hall (by omega); have h3 := a6Z (p := a1v) (k := k2) e2 hall2 (by omega); have h := c1; clear hall hall2; grind [a6M]
end Go.Proofs.YtjkpoekgnmgofaaGreat

namespace Go.Proofs.YtjkpoekgnmgofaaGreat
open Go.RowKit
open Go.Proofs
set_option linter.unusedVariables false
set_option linter.unusedSimpArgs false

def a5q (q : List TxT) (i : Int) (t : TxT) : Bool := (decide (t.2.2.2.1 = 0) || decide (t.2.2.2.1 = 1)) && a6u t.2.1 (q.getD i.toNat default).2.1
def a2T (q : List TxT) (i : Int) : Bool := ((decide (0 ≤ i) && decide (i < (q.length : Int))) && decide ((q.getD i.toNat default).2.2.2.1 = 0)) && !(q.take i.toNat).any (a5q q i)
theorem c4T {α : Type} {q : List α} {n k : Nat} {d : α} (h : k < n) : (q.take n).getD k d = q.getD k d := by simp [List.getD, List.getElem?_take, h]
theorem b8m {q : List TxT} {i : Int}  : PFn Tryz.prog 7 [.agg [(.dv [] (a1q (q)))], .one (.dv [] (.int .i64 (i)))] (.one (.dv [] (.bool (a2T q i)))) := by
 refine ⟨a0R Tryz.func7 rfl Tryz.ntmps7 Tryz.results7 rfl (fun C => ?_)⟩
 refine yF 0 0 rfl rfl fun f0_0 => ?_
 refine a1i (x := .tmp 1) (a0a rfl) fun f1 => ?_
 iterate 25 refine z ?_
 refine yQ rfl (fun c1 => ?_) fun c1 => ?_
 ·iterate 6 refine z ?_
  have h := c1; grind [a2T]
 ·have e1 : 0 ≤ i ∧ i < (q.length : Int) := by grind
  have e2 : (q.take i.toNat).length = i.toNat := by rw [List.length_take]; omega
  iterate 7 refine z ?_
  refine yO rfl rfl (b0J hT rfl rfl rfl (a0a rfl) (a0a rfl) (fun _ => rfl) (by omega) (by omega)) rfl ?_
  iterate 4 refine z ?_
  refine a1f (ι := Nat) (fun zz => ⟨[(1, .one (.dv [] (.int .i64 (i)))), (2, .box 2 0), (28, .one (.dv [] (a1q (((q)).take (i).toNat)))), (29, .one (.dv [] (.int .i64 ((((((q)).take (i).toNat)).length : Int))))), (30, .one (.dv [] (.int .i64 ((zz : Int)))))], [(2, 30, [(.dv [] (a1q (q)))])], []⟩) (fun zz => zz ≤ i.toNat ∧ ((q.take i.toNat).take zz).any (a5q q i) = false) (fun zz => i.toNat - zz) (0) ?_ (a0e ⟨rfl, rfl, rfl, rfl, rfl, trivial⟩ ⟨rfl, trivial⟩ trivial rfl) (fun zz hx => ?_)
  ·exact ⟨Nat.zero_le _, by simp⟩
  obtain ⟨k, rfl⟩ : ∃ v, v = zz := ⟨_, rfl⟩
  replace hx : k ≤ i.toNat ∧ ((q.take i.toNat).take k).any (a5q q i) = false := hx
  obtain ⟨hk, hall⟩ := hx
  show Ok _ _ _ _ _ (⟨[(1, .one (.dv [] (.int .i64 (i)))), (2, .box 2 0), (28, .one (.dv [] (a1q (((q)).take (i).toNat)))), (29, .one (.dv [] (.int .i64 ((((((q)).take (i).toNat)).length : Int))))), (30, .one (.dv [] (.int .i64 ((k : Int)))))], [(2, 30, [(.dv [] (a1q (q)))])], []⟩ : St)
  iterate 3 refine z ?_
  refine a0p ?_
  refine yQ rfl (fun c2 => ?_) fun c2 => ?_
  ·have d2 := of_decide_eq_true c2
   iterate 10 refine z ?_
   refine a0p ?_
   refine a1L (oB := [2, 6]) (oK := []) (by kernel_rfl) rfl rfl ?_
   refine zD 0 ?_
   refine zD 1 ?_
   refine zD 2 ?_
   refine zD 3 ?_
   refine zDG 4 ?_
   refine zDG 5 ?_
   refine zDG 6 ?_
   refine zD 7 ?_
   refine zD 8 ?_
   refine zDG 9 ?_
   refine zDG 10 ?_
   refine zDG 11 ?_
   refine zDG 12 ?_
   refine zDG 13 ?_
   refine zDG 14 ?_
   refine zDG 15 ?_
   refine zDG 16 ?_
   refine a4k 17 rfl (by kernel_rfl) (a1p rfl rfl rfl rfl rfl) rfl rfl Tryz.call9 b9k (fun hg => (a0g (a0z rfl hg) (a0I a0c) (a0g (a0z rfl hg) (a0I a0c) a0w))) rfl rfl ?_
   refine zD 18 ?_
   refine a2l (by kernel_rfl) ?_
   refine z ?_
   refine yQ rfl (fun c3 => ?_) fun c3 => ?_
   ·iterate 10 refine z ?_
    have h2 : (q.take i.toNat).any (a5q q i) = true := b1a (k := k) (d := default) (by rw [e2]; omega) (c3)
    rw [a2T, h2]; simp
   ·iterate 3 refine z ?_
    refine a0o ?_
    iterate 3 refine z ?_
    refine ⟨k + 1, ?_, ?_, a0e ⟨rfl, rfl, rfl, rfl, rfl, trivial⟩ ⟨rfl, trivial⟩ trivial rfl⟩
    ·exact ⟨by omega, b0U (d := default) hall (by rw [e2]; omega) (c3)⟩
    ·omega
  ·have d2 := of_decide_eq_false c2
   iterate 10 refine z ?_
   have h2 : (q.take i.toNat).any (a5q q i) = false := b2e (k := k) hall (by rw [e2]; omega)
   rw [a2T, h2]; have h := c1; clear hall h2; grind
end Go.Proofs.YtjkpoekgnmgofaaGreat

namespace Go.Proofs.YtjkpoekgnmgofaaGreat
open Go.RowKit
open Go.Proofs
set_option linter.unusedVariables false
set_option linter.unusedSimpArgs false

def a1U (n : Str) (f : a5f) : Bool := sEq f.1 n
def a1c (r : a0A) (n : Str) : Int × Bool := if a0j (a1U n) r 0 < 0 then (0, false) else ((r.getD (a0j (a1U n) r 0).toNat default).2, true)
theorem a6J {α : Type} {p : α → Bool} : ∀ (xs : List α) (i : Int), 0 ≤ i → a0j p xs i < i + xs.length ∨ a0j p xs i = -1
 | [], i, h => .inr rfl
 | x :: xs, i, h => by
  rw [a0j]
  split
  ·left; simp; omega
  ·rcases a6J (p := p) xs (i + 1) (by omega) with h1 | h1
   ·left; simp only [List.length_cons]; omega
   ·exact .inr h1
theorem c1l {r : a0A} {n : Str} {k : Nat} (h : (r.take k).any (a1U n) = false) (hk : k < r.length) (hp : a1U n (r.getD k default) = true) : a1c r n = ((r.getD (k : Int).toNat default).2, true) := by
 have := a6h (p := a1U n) (d := default) h hk hp
 rw [a1c, this, if_neg (by omega)]
theorem c0y {r : a0A} {n : Str} {k : Nat} (h : (r.take k).any (a1U n) = false) (hk : k = r.length) : a1c r n = (0, false) := by
 rw [a1c, a5V (p := a1U n) h hk]; rfl
theorem b6i {p : a0O → Bool} {xs : List a0O} {k : Nat} (hk : k < xs.length) : (xs.take (k + 1)).filter p = (xs.take k).filter p ++ (if p (xs.getD (k : Int).toNat default) then [xs.getD (k : Int).toNat default] else []) := by
 rw [List.take_add_one, List.getElem?_eq_getElem hk, List.filter_append]
 have : xs.getD (k : Int).toNat default = xs[k] := by simp [List.getD, List.getElem?_eq_getElem hk]
 rw [this]
 simp only [Option.toList_some, List.filter_cons, List.filter_nil]
theorem a6b (x : a0O) : x.2.length ≤ a1S x := by unfold a1S a5E a1a; omega
theorem c1H {x : a5f} {n : Str}  : PFn Tryz.prog 147 [.agg [(.dv [] (.str (x.1))), (.dv [] (.int .i64 (x.2)))], .ref [] [.str (n)]] (.one (.dv [] (.bool (a1U n x)))) := by
 refine ⟨a0R Tryz.func147 rfl Tryz.ntmps147 Tryz.results147 rfl (fun C => ?_)⟩
 refine yF 0 0 rfl rfl fun f0_0 => ?_
 refine yF 0 1 rfl rfl fun f0_1 => ?_
 iterate 13 refine z ?_
 rfl
theorem c5S {x : a0A} {n : Str}  : PFn Tryz.prog 146 [.one (.dv [] (a0L (x))), .fn 147 [[.str (n)]]] (.one (.dv [] (.int .i64 (a0j (a1U n) x 0)))) := by
 refine ⟨a0R Tryz.func146 rfl Tryz.ntmps146 Tryz.results146 rfl (fun C => ?_)⟩
 refine a1i (x := .tmp 0) (a0a rfl) fun f0 => ?_
 iterate 10 refine z ?_
 refine a1f (ι := Nat) (fun zz => ⟨[(0, .one (.dv [] (a0L (x)))), (1, .fn 147 [[.str (n)]]), (7, .one (.dv [] (.int .i64 ((((x)).length : Int))))), (8, .one (.dv [] (.int .i64 ((zz : Int)))))], [], []⟩) (fun zz => zz ≤ x.length ∧ (x.take zz).any (a1U n) = false) (fun zz => x.length - zz) (0) ?_ (a0e ⟨rfl, rfl, rfl, rfl, trivial⟩ trivial trivial rfl) (fun zz hx => ?_)
 ·exact ⟨Nat.zero_le _, rfl⟩
 obtain ⟨k, rfl⟩ : ∃ v, v = zz := ⟨_, rfl⟩
 replace hx : k ≤ x.length ∧ (x.take k).any (a1U n) = false := hx
 obtain ⟨hk, hall⟩ := hx
 show Ok _ _ _ _ _ (⟨[(0, .one (.dv [] (a0L (x)))), (1, .fn 147 [[.str (n)]]), (7, .one (.dv [] (.int .i64 ((((x)).length : Int))))), (8, .one (.dv [] (.int .i64 ((k : Int)))))], [], []⟩ : St)
 iterate 3 refine z ?_
 refine a0p ?_
 refine yQ rfl (fun c1 => ?_) fun c1 => ?_
 ·have d1 := of_decide_eq_true c1
  iterate 14 refine z ?_
  refine a7u rfl rfl rfl (a0a rfl) Tryz.call147 c1H (a0g (a0a rfl) (a0t (a0d a0c (a0d a0c a0s))) a0w) rfl rfl ?_
  refine z ?_
  refine yQ rfl (fun c2 => ?_) fun c2 => ?_
  ·iterate 11 refine z ?_
   exact (a6h (p := a1U n) (d := default) hall (by omega) c2).symm
  ·iterate 3 refine z ?_
   refine a0o ?_
   iterate 3 refine z ?_
   refine ⟨k + 1, ?_, ?_, a0e ⟨rfl, rfl, rfl, rfl, trivial⟩ trivial trivial rfl⟩
   ·exact ⟨by omega, a6e (d := default) hall (by omega) c2⟩
   ·omega
 ·have d1 := of_decide_eq_false c1
  iterate 10 refine z ?_
  exact (a5V (p := a1U n) hall (by omega)).symm
theorem b5N {x : a0A} {n : Str}  : PFn Tryz.prog 126 [.agg [(.dv [] (a0L (x)))], .one (.dv [] (.str (n)))] (.one (.dv [] (.int .i64 (a0j (a1U n) x 0)))) := by
 refine ⟨a0R Tryz.func126 rfl Tryz.ntmps126 Tryz.results126 rfl (fun C => ?_)⟩
 refine yF 0 0 rfl rfl fun f0_0 => ?_
 refine a1i (x := .tmp 1) (a0a rfl) fun f1 => ?_
 iterate 8 refine z ?_
 refine yO rfl rfl (b0t rfl (a0a rfl)) rfl ?_
 refine a4i rfl rfl rfl Tryz.call146 c5S (a0g (a0a rfl) (a0I a0c) (a0g (a0a rfl) (b3d (a9P rfl rfl b0C)) a0w)) rfl rfl ?_
 iterate 4 refine z ?_
 rfl
theorem a6q {x : a0A} {n : Str}  : PFn Tryz.prog 81 [.agg [(.dv [] (a0L (x)))], .one (.dv [] (.str (n)))] (.tup [(false, [(.dv [] (.int .i64 ((a1c x n).1)))]), (false, [(.dv [] (.bool ((a1c x n).2)))])]) := by
 refine ⟨a0R Tryz.func81 rfl Tryz.ntmps81 Tryz.results81 rfl (fun C => ?_)⟩
 refine yF 0 0 rfl rfl fun f0_0 => ?_
 refine a1i (x := .tmp 1) (a0a rfl) fun f1 => ?_
 iterate 8 refine z ?_
 refine zC Tryz.call126 ?_ (hf := b5N)
 iterate 7 refine z ?_
 refine yQ rfl (fun c1 => ?_) fun c1 => ?_
 ·have d1 := of_decide_eq_true c1
  iterate 6 refine z ?_
  refine a1N (a0v rfl) (a0v rfl) rfl rfl ?_
  have h : a1c x n = (0, false) := by rw [a1c, if_pos d1]
  rw [h] <;> rfl
 ·have d1 := of_decide_eq_false c1
  have hlt := a6J (p := a1U n) x 0 (by omega)
  iterate 13 refine z ?_
  refine a1N (a0v rfl) (a0v rfl) rfl rfl ?_
  have h : a1c x n = ((x.getD (a0j (a1U n) x 0).toNat default).2, true) := by rw [a1c, if_neg d1]
  rw [h] <;> rfl
theorem a7v {x : a0A} {n : Str}  : PFn Tryz.prog 93 [.agg [(.dv [] (a0L (x)))], .one (.dv [] (.str (n)))] (.tup [(false, [(.dv [] (.int .i64 ((a1c x n).1)))]), (false, [(.dv [] (.bool ((a1c x n).2)))])]) := by
 refine ⟨a0R Tryz.func93 rfl Tryz.ntmps93 Tryz.results93 rfl (fun C => ?_)⟩
 refine yF 0 0 rfl rfl fun f0_0 => ?_
 refine a1i (x := .tmp 1) (a0a rfl) fun f1 => ?_
 iterate 10 refine z ?_
 refine a1f (ι := Nat) (fun zz => ⟨[(1, .one (.dv [] (.str (n)))), (2, .box 2 0), (6, .one (.dv [] (.int .i64 ((zz : Int)))))], [(2, 66, [(.dv [] (a0L (x)))])], []⟩) (fun zz => zz ≤ x.length ∧ (x.take zz).any (a1U n) = false) (fun zz => x.length - zz) (0) ?_ (a0e ⟨rfl, rfl, rfl, trivial⟩ ⟨rfl, trivial⟩ trivial rfl) (fun zz hx => ?_)
 ·exact ⟨Nat.zero_le _, rfl⟩
 obtain ⟨k, rfl⟩ : ∃ v, v = zz := ⟨_, rfl⟩
 replace hx : k ≤ x.length ∧ (x.take k).any (a1U n) = false := hx
 obtain ⟨hk, hall⟩ := hx
 show Ok _ _ _ _ _ (⟨[(1, .one (.dv [] (.str (n)))), (2, .box 2 0), (6, .one (.dv [] (.int .i64 ((k : Int)))))], [(2, 66, [(.dv [] (a0L (x)))])], []⟩ : St)
 iterate 8 refine z ?_
 refine yQ rfl (fun c1 => ?_) fun c1 => ?_
 ·have d1 := of_decide_eq_true c1
  iterate 14 refine z ?_
  refine yQ rfl (fun c2 => ?_) fun c2 => ?_
  ·iterate 16 refine z ?_
   refine a1N (a0v rfl) (a0v rfl) rfl rfl ?_
   rw [c1l hall (by omega) c2] <;> rfl
  ·iterate 3 refine z ?_
   refine a0o ?_
   iterate 4 refine z ?_
   refine ⟨k + 1, ?_, ?_, a0e ⟨rfl, rfl, rfl, trivial⟩ ⟨rfl, trivial⟩ trivial rfl⟩
   ·exact ⟨by omega, a6e (d := default) hall (by omega) c2⟩
   ·omega
 ·have d1 := of_decide_eq_false c1
  iterate 10 refine z ?_
  refine a1N (a0v rfl) (a0v rfl) rfl rfl ?_
  rw [c0y hall (by omega)] <;> rfl
theorem a7s {x : a0A} (hb : x.length ≤ 1099511627776) : KFn Tryz.prog 74 [.agg [(.dv [] (a0L (x)))]] (.agg [(.key 3)]) [(3, some (a0b false (a0L (x))))] := by
 refine ⟨a0R Tryz.func74 rfl Tryz.ntmps74 Tryz.results74 rfl (fun C => ?_)⟩
 refine yF 0 0 rfl rfl fun f0_0 => ?_
 iterate 5 refine z ?_
 refine a3p (k := 3) hT rfl rfl rfl rfl rfl rfl rfl rfl ?_
 iterate 2 refine z ?_
 refine b7Y (k := 3) (cs := (x).flatMap a1H) (n := (x).length) hT rfl rfl rfl rfl rfl rfl rfl (a0a rfl) rfl rfl rfl (a0a rfl) (a3S (fun _ => rfl) _) (by first | (dsimp only [a0b]; omega) | omega) (by first | (dsimp only [a0b]; omega) | omega) (Nat.zero_add _) (rfl) ?_
 simp only [a0l, a0i, SV.kill, CV.kill, kk, Nat.reduceBEq]
 refine yO rfl rfl (a1F hT hB rfl rfl rfl (a1b (a0a rfl) rfl rfl rfl rfl rfl a1E)) rfl ?_
 iterate 2 refine z ?_
 refine a0h (σ' := ⟨[(2, .box 2 0)], [(2, 66, [(.key 3)])], [(3, some (a0b false (a0L (x))))]⟩) (a0e ⟨rfl, trivial⟩ ⟨rfl, trivial⟩ ⟨rfl, trivial⟩ rfl) ?_
 refine z ?_
 refine a1x (a0C hT rfl rfl rfl rfl) ?_
 exact ⟨rfl, rfl⟩
theorem a7o {x : a0A} (hb : x.length ≤ 1099511627776) : KFn Tryz.prog 107 [.agg [(.dv [] (a0L (x)))]] (.agg [(.key 3)]) [(3, some (a0b false (a0L (x))))] := by
 refine ⟨a0R Tryz.func107 rfl Tryz.ntmps107 Tryz.results107 rfl (fun C => ?_)⟩
 refine yF 0 0 rfl rfl fun f0_0 => ?_
 iterate 5 refine z ?_
 refine a3p (k := 3) hT rfl rfl rfl rfl rfl rfl rfl rfl ?_
 iterate 2 refine z ?_
 refine b7Y (k := 3) (cs := (x).flatMap a1H) (n := (x).length) hT rfl rfl rfl rfl rfl rfl rfl (a0a rfl) rfl rfl rfl (a0a rfl) (a3S (fun _ => rfl) _) (by first | (dsimp only [a0b]; omega) | omega) (by first | (dsimp only [a0b]; omega) | omega) (Nat.zero_add _) (rfl) ?_
 simp only [a0l, a0i, SV.kill, CV.kill, kk, Nat.reduceBEq]
 refine yO rfl rfl (a1F hT hB rfl rfl rfl (a1b (a0a rfl) rfl rfl rfl rfl rfl a1E)) rfl ?_
 iterate 2 refine z ?_
 refine a0h (σ' := ⟨[(2, .box 2 0)], [(2, 66, [(.key 3)])], [(3, some (a0b false (a0L (x))))]⟩) (a0e ⟨rfl, trivial⟩ ⟨rfl, trivial⟩ ⟨rfl, trivial⟩ rfl) ?_
 refine z ?_
 refine a1x (a0C hT rfl rfl rfl rfl) ?_
 exact ⟨rfl, rfl⟩
theorem b5u {x : a0O} (hb : x.2.length ≤ 1099511627776) : KFn Tryz.prog 45 [.agg [(.dv [] (.int .i64 (x.1.1))), (.dv [] (.int .i64 (x.1.2.1))), (.dv [] (.str (x.1.2.2))), (.dv [] (a0L (x.2)))]] (.agg [(.dv [] (.int .i64 (x.1.1))), (.dv [] (.int .i64 (x.1.2.1))), (.dv [] (.str (x.1.2.2))), (.key 7003)]) [(7003, some (a0b false (a0L (x.2))))] := by
 refine ⟨a0R Tryz.func45 rfl Tryz.ntmps45 Tryz.results45 rfl (fun C => ?_)⟩
 refine yF 0 0 rfl rfl fun f0_0 => ?_
 refine yF 0 1 rfl rfl fun f0_1 => ?_
 refine yF 0 2 rfl rfl fun f0_2 => ?_
 refine yF 0 3 rfl rfl fun f0_3 => ?_
 iterate 4 refine z ?_
 refine a0p ?_
 refine a1L (oB := [1, 2]) (oK := []) (by kernel_rfl) rfl rfl ?_
 refine zD 0 ?_
 refine zD 1 ?_
 refine zD 2 ?_
 refine zD 3 ?_
 refine a3f 7000 4 rfl (by kernel_rfl) rfl rfl rfl Tryz.call74 (a7s (by omega)) (a0g (a0a rfl) (a0t (a0d a0c a0s)) a0w) rfl rfl rfl rfl rfl ?_
 refine a1k 5 rfl (by kernel_rfl) rfl rfl (a1F hT hB rfl rfl rfl (a1b (a0a rfl) rfl rfl rfl rfl rfl (a1b (a0a rfl) rfl rfl rfl rfl rfl a1E))) rfl rfl rfl rfl ?_
 refine b3o 6 rfl (by kernel_rfl) rfl (by kernel_rfl) (a4A hT rfl rfl rfl (a0a rfl) (a0a rfl) rfl rfl rfl rfl rfl rfl) (by kernel_rfl) ?_
 refine z ?_
 refine a0h (σ' := ⟨[(2, .box 2 0)], [(2, 93, [(.dv [] (.int .i64 (x.1.1))), (.dv [] (.int .i64 (x.1.2.1))), (.dv [] (.str (x.1.2.2))), (.key 7003)])], [(7003, some (a0b false (a0L (x.2))))]⟩) (a0e ⟨rfl, trivial⟩ ⟨rfl, trivial⟩ ⟨rfl, trivial⟩ rfl) ?_
 refine z ?_
 refine a1x (a0C hT rfl rfl rfl rfl) ?_
 exact ⟨rfl, rfl⟩
theorem b2C {x : a0O} (hb : x.2.length ≤ 1099511627776) : KFn Tryz.prog 88 [.agg [(.dv [] (.int .i64 (x.1.1))), (.dv [] (.int .i64 (x.1.2.1))), (.dv [] (.str (x.1.2.2))), (.dv [] (a0L (x.2)))]] (.agg [(.dv [] (.int .i64 (x.1.1))), (.dv [] (.int .i64 (x.1.2.1))), (.dv [] (.str (x.1.2.2))), (.key 7003)]) [(7003, some (a0b false (a0L (x.2))))] := by
 refine ⟨a0R Tryz.func88 rfl Tryz.ntmps88 Tryz.results88 rfl (fun C => ?_)⟩
 refine yF 0 0 rfl rfl fun f0_0 => ?_
 refine yF 0 1 rfl rfl fun f0_1 => ?_
 refine yF 0 2 rfl rfl fun f0_2 => ?_
 refine yF 0 3 rfl rfl fun f0_3 => ?_
 iterate 4 refine z ?_
 refine a0p ?_
 refine a1L (oB := [1, 2]) (oK := []) (by kernel_rfl) rfl rfl ?_
 refine zD 0 ?_
 refine zD 1 ?_
 refine zD 2 ?_
 refine zD 3 ?_
 refine a3f 7000 4 rfl (by kernel_rfl) rfl rfl rfl Tryz.call107 (a7o (by omega)) (a0g (a0a rfl) (a0t (a0d a0c a0s)) a0w) rfl rfl rfl rfl rfl ?_
 refine a1k 5 rfl (by kernel_rfl) rfl rfl (a1F hT hB rfl rfl rfl (a1b (a0a rfl) rfl rfl rfl rfl rfl (a1b (a0a rfl) rfl rfl rfl rfl rfl a1E))) rfl rfl rfl rfl ?_
 refine b3o 6 rfl (by kernel_rfl) rfl (by kernel_rfl) (a4A hT rfl rfl rfl (a0a rfl) (a0a rfl) rfl rfl rfl rfl rfl rfl) (by kernel_rfl) ?_
 refine z ?_
 refine a0h (σ' := ⟨[(2, .box 2 0)], [(2, 93, [(.dv [] (.int .i64 (x.1.1))), (.dv [] (.int .i64 (x.1.2.1))), (.dv [] (.str (x.1.2.2))), (.key 7003)])], [(7003, some (a0b false (a0L (x.2))))]⟩) (a0e ⟨rfl, trivial⟩ ⟨rfl, trivial⟩ ⟨rfl, trivial⟩ rfl) ?_
 refine z ?_
 refine a1x (a0C hT rfl rfl rfl rfl) ?_
 exact ⟨rfl, rfl⟩
end Go.Proofs.YtjkpoekgnmgofaaGreat

namespace Go.Proofs.YtjkpoekgnmgofaaGreat
open Go.RowKit
open Go.Proofs
set_option linter.unusedVariables false
set_option linter.unusedSimpArgs false

theorem a5r {α : Type} [Inhabited α] {xs : List α} {j : Nat} (h : j < xs.length) : xs.getD (j : Int).toNat default = xs[j] := by simp [List.getD, List.getElem?_eq_getElem h]
end Go.Proofs.YtjkpoekgnmgofaaGreat

namespace Go.Proofs.YtjkpoekgnmgofaaGreat
open Go.RowKit
open Go.Proofs
set_option linter.unusedVariables false
set_option linter.unusedSimpArgs false

def a3M (a b : Int) : Int := if a < b then -1 else if b < a then 1 else 0
def a2E (a b : a0Y) : Int := if !a1n a || !a1n b then 0 else if ¬ a.1 = b.1 then a3M a.1 b.1 else if ¬ a.2.1 = b.2.1 then a3M a.2.1 b.2.1 else a4C a.2.2 b.2.2
def a7F (a b : Bool) : Int := if a then -1 else if b then 1 else 0
theorem a7A {a b : Int} : a3M a b = 0 ↔ a = b := by unfold a3M; split <;> (try split) <;> omega
theorem b0R {a b : a0Y} (h : (!a1n a || !a1n b) = true) : a2E a b = 0 := by rw [a2E, if_pos h]
theorem a9f {a b : a0Y} (h : (!a1n a || !a1n b) = false) (h1 : ¬ a.1 = b.1) : a2E a b = a3M a.1 b.1 := by rw [a2E, if_neg (by rw [h]; simp), if_pos h1]
theorem a9m {a b : a0Y} (h : (!a1n a || !a1n b) = false) (h1 : a.1 = b.1) (h2 : ¬ a.2.1 = b.2.1) : a2E a b = a3M a.2.1 b.2.1 := by rw [a2E, if_neg (by rw [h]; simp), if_neg (by simp [h1]), if_pos h2]
theorem a8E {a b : a0Y} (h : (!a1n a || !a1n b) = false) (h1 : a.1 = b.1) (h2 : a.2.1 = b.2.1) : a2E a b = a4C a.2.2 b.2.2 := by rw [a2E, if_neg (by rw [h]; simp), if_neg (by simp [h1]), if_neg (by simp [h2])]
theorem c5d (a b : Str) : (!(sLt a b || sEq a b)) = sLt b a := by rw [a6K, Bool.not_not]
def a5M (k : a0Y) (r : a3v) : Bool := !((!a1n k || (r.1 && !a1n r.2.2.1)) || (r.2.1 && !a1n r.2.2.2)) && ((!r.1 || decide (a2E r.2.2.1 k ≤ 0)) && (!r.2.1 || decide (a2E k r.2.2.2 ≤ 0)))
theorem b5b (a b : Int) : a3M a b = - a3M b a := by unfold a3M; split <;> split <;> (try split) <;> omega
theorem c1c (a b : Str) : a4C a b = - a4C b a := by
 unfold a4C
 cases h1 : sLt a b <;> cases h2 : sLt b a <;> simp
 have h := a6K a b
 rw [h1, h2] at h
 simp at h
theorem a8Z (a b : a0Y) : a2E a b = - a2E b a := by
 by_cases h : (!a1n a || !a1n b) = true
 ·rw [b0R h, b0R (by rw [Bool.or_comm]; exact h)]; rfl
 ·have h : (!a1n a || !a1n b) = false := by simpa using h
  have h' : (!a1n b || !a1n a) = false := by rw [Bool.or_comm]; exact h
  by_cases h1 : a.1 = b.1
  ·by_cases h2 : a.2.1 = b.2.1
   ·rw [a8E h h1 h2, a8E h' h1.symm h2.symm, c1c]
   ·rw [a9m h h1 h2, a9m h' h1.symm (fun e => h2 e.symm), b5b]
  ·rw [a9f h h1, a9f h' (fun e => h1 e.symm), b5b]
theorem b2d {x y : Bool}  : PFn Tryz.prog 133 [.one (.dv [] (.bool (x))), .one (.dv [] (.bool (y)))] (.one (.dv [] (.int .i64 (a7F x y)))) := by
 refine ⟨a0R Tryz.func133 rfl Tryz.ntmps133 Tryz.results133 rfl (fun C => ?_)⟩
 iterate 7 refine z ?_
 refine yQ rfl (fun c1 => ?_) fun c1 => ?_
 ·iterate 6 refine z ?_
  rw [a7F, if_pos c1]
 ·iterate 6 refine z ?_
  refine yQ rfl (fun c2 => ?_) fun c2 => ?_
  ·iterate 6 refine z ?_
   rw [a7F, if_neg (by rw [c1]; simp), if_pos c2]
  ·iterate 7 refine z ?_
   rw [a7F, if_neg (by rw [c1]; simp), if_neg (by rw [c2]; simp)]
theorem b8u {x y : Int}  : PFn Tryz.prog 129 [.one (.dv [] (.int .i64 (x))), .one (.dv [] (.int .i64 (y)))] (.one (.dv [] (.int .i64 (a3M x y)))) := by
 refine ⟨a0R Tryz.func129 rfl Tryz.ntmps129 Tryz.results129 rfl (fun C => ?_)⟩
 refine a1i (x := .tmp 0) (a0a rfl) fun f0 => ?_
 refine a1i (x := .tmp 1) (a0a rfl) fun f1 => ?_
 iterate 11 refine z ?_
 refine yQ rfl (fun c1 => ?_) fun c1 => ?_
 ·have d1 := of_decide_eq_true c1
  iterate 7 refine z ?_
  rw [a3M, if_pos d1]
 ·have d1 := of_decide_eq_false c1
  iterate 6 refine z ?_
  refine yQ rfl (fun c2 => ?_) fun c2 => ?_
  ·have d2 := of_decide_eq_true c2
   iterate 7 refine z ?_
   rw [a3M, if_neg d1, if_pos d2]
  ·have d2 := of_decide_eq_false c2
   iterate 8 refine z ?_
   rw [a3M, if_neg d1, if_neg d2]
theorem a9B {x y : a0Y}  : PFn Tryz.prog 85 [.agg [(.dv [] (.int .i64 (x.1))), (.dv [] (.int .i64 (x.2.1))), (.dv [] (.str (x.2.2)))], .agg [(.dv [] (.int .i64 (y.1))), (.dv [] (.int .i64 (y.2.1))), (.dv [] (.str (y.2.2)))]] (.one (.dv [] (.int .i64 (a2E x y)))) := by
 refine ⟨a0R Tryz.func85 rfl Tryz.ntmps85 Tryz.results85 rfl (fun C => ?_)⟩
 refine yF 0 0 rfl rfl fun f0_0 => ?_
 refine yF 0 1 rfl rfl fun f0_1 => ?_
 refine yF 0 2 rfl rfl fun f0_2 => ?_
 refine yF 1 0 rfl rfl fun f1_0 => ?_
 refine yF 1 1 rfl rfl fun f1_1 => ?_
 refine yF 1 2 rfl rfl fun f1_2 => ?_
 iterate 8 refine z ?_
 refine zC Tryz.call75 ?_ (hf := a6C)
 iterate 3 refine z ?_
 refine a1A (a1p rfl rfl rfl rfl rfl) rfl rfl Tryz.call75 a6C (fun hg => (a0g (a0z rfl hg) (a0t (a0d a0c (a0d a0c (a0d a0c a0s)))) a0w)) rfl rfl ?_
 iterate 3 refine z ?_
 refine yQ rfl (fun c1 => ?_) fun c1 => ?_
 ·iterate 6 refine z ?_
  rw [b0R c1]
 ·iterate 8 refine z ?_
  refine zC Tryz.call129 ?_ (hf := b8u)
  iterate 6 refine z ?_
  refine yQ rfl (fun c2 => ?_) fun c2 => ?_
  ·have d2 := a5P c2
   iterate 7 refine z ?_
   rw [a9f c1 (fun e => d2 (a7A.2 e))]
  ·have d2 := a5R c2
   iterate 8 refine z ?_
   refine zC Tryz.call129 ?_ (hf := b8u)
   iterate 6 refine z ?_
   refine yQ rfl (fun c3 => ?_) fun c3 => ?_
   ·have d3 := a5P c3
    iterate 7 refine z ?_
    rw [a9m c1 (a7A.1 d2) (fun e => d3 (a7A.2 e))]
   ·have d3 := a5R c3
    iterate 7 refine z ?_
    refine zC Tryz.call130 ?_ (hf := c4l)
    iterate 4 refine z ?_
    rw [a8E c1 (a7A.1 d2) (a7A.1 d3)]
theorem a9s {x y : a0Y}  : PFn Tryz.prog 91 [.agg [(.dv [] (.int .i64 (x.1))), (.dv [] (.int .i64 (x.2.1))), (.dv [] (.str (x.2.2)))], .agg [(.dv [] (.int .i64 (y.1))), (.dv [] (.int .i64 (y.2.1))), (.dv [] (.str (y.2.2)))]] (.one (.dv [] (.int .i64 (a2E x y)))) := by
 refine ⟨a0R Tryz.func91 rfl Tryz.ntmps91 Tryz.results91 rfl (fun C => ?_)⟩
 refine yF 0 0 rfl rfl fun f0_0 => ?_
 refine yF 0 1 rfl rfl fun f0_1 => ?_
 refine yF 0 2 rfl rfl fun f0_2 => ?_
 refine yF 1 0 rfl rfl fun f1_0 => ?_
 refine yF 1 1 rfl rfl fun f1_1 => ?_
 refine yF 1 2 rfl rfl fun f1_2 => ?_
 iterate 8 refine z ?_
 refine zC Tryz.call89 ?_ (hf := a6H)
 iterate 3 refine z ?_
 refine a1A (a1p rfl rfl rfl rfl rfl) rfl rfl Tryz.call89 a6H (fun hg => (a0g (a0z rfl hg) (a0t (a0d a0c (a0d a0c (a0d a0c a0s)))) a0w)) rfl rfl ?_
 iterate 3 refine z ?_
 refine yQ rfl (fun c1 => ?_) fun c1 => ?_
 ·iterate 6 refine z ?_
  rw [b0R c1]
 ·iterate 10 refine z ?_
  refine yQ rfl (fun c2 => ?_) fun c2 => ?_
  ·have d2 := a5P c2
   iterate 6 refine z ?_
   refine zC Tryz.call133 ?_ (hf := b2d)
   iterate 5 refine z ?_
   rw [a9f c1 d2]; unfold a7F a3M; split <;> split <;> simp_all <;> omega
  ·have d2 := a5R c2
   iterate 10 refine z ?_
   refine yQ rfl (fun c3 => ?_) fun c3 => ?_
   ·have d3 := a5P c3
    iterate 6 refine z ?_
    refine zC Tryz.call133 ?_ (hf := b2d)
    iterate 5 refine z ?_
    rw [a9m c1 d2 d3]; unfold a7F a3M; split <;> split <;> simp_all <;> omega
   ·have d3 := a5R c3
    iterate 13 refine z ?_
    refine zC Tryz.call133 ?_ (hf := b2d)
    iterate 4 refine z ?_
    rw [a8E c1 d2 d3, c5d]; unfold a7F a4C; rfl
theorem c0S {x : a0Y} {y : a3v}  : PFn Tryz.prog 125 [.agg [(.dv [] (.int .i64 (x.1))), (.dv [] (.int .i64 (x.2.1))), (.dv [] (.str (x.2.2)))], .agg [(.dv [] (.bool (y.1))), (.dv [] (.bool (y.2.1))), (.dv [] (.int .i64 (y.2.2.1.1))), (.dv [] (.int .i64 (y.2.2.1.2.1))), (.dv [] (.str (y.2.2.1.2.2))), (.dv [] (.int .i64 (y.2.2.2.1))), (.dv [] (.int .i64 (y.2.2.2.2.1))), (.dv [] (.str (y.2.2.2.2.2)))]] (.one (.dv [] (.bool (a5M x y)))) := by
 refine ⟨a0R Tryz.func125 rfl Tryz.ntmps125 Tryz.results125 rfl (fun C => ?_)⟩
 refine yF 0 0 rfl rfl fun f0_0 => ?_
 refine yF 0 1 rfl rfl fun f0_1 => ?_
 refine yF 0 2 rfl rfl fun f0_2 => ?_
 refine yF 1 2 rfl rfl fun f1_2 => ?_
 refine yF 1 3 rfl rfl fun f1_3 => ?_
 refine yF 1 4 rfl rfl fun f1_4 => ?_
 refine yF 1 5 rfl rfl fun f1_5 => ?_
 refine yF 1 6 rfl rfl fun f1_6 => ?_
 refine yF 1 7 rfl rfl fun f1_7 => ?_
 iterate 8 refine z ?_
 refine zC Tryz.call75 ?_ (hf := a6C)
 iterate 7 refine z ?_
 refine a1A (a3s rfl rfl rfl rfl rfl) rfl rfl Tryz.call75 a6C (fun hg => (a0g (a0z rfl hg) (a0t (a0d a0c (a0d a0c (a0d a0c a0s)))) a0w)) rfl rfl ?_
 iterate 9 refine z ?_
 refine a1A (a3s rfl rfl rfl rfl rfl) rfl rfl Tryz.call75 a6C (fun hg => (a0g (a0z rfl hg) (a0t (a0d a0c (a0d a0c (a0d a0c a0s)))) a0w)) rfl rfl ?_
 iterate 4 refine z ?_
 refine yQ rfl (fun c1 => ?_) fun c1 => ?_
 ·iterate 6 refine z ?_
  unfold a5M; rw [c1]; rfl
 ·iterate 9 refine z ?_
  refine a1A (a1p rfl rfl rfl rfl rfl) rfl rfl Tryz.call85 a9B (fun hg => (a0g (a0z rfl hg) (a0t (a0d a0c (a0d a0c (a0d a0c a0s)))) (a0g (a0z rfl hg) (a0t (a0d a0c (a0d a0c (a0d a0c a0s)))) a0w))) rfl rfl ?_
  iterate 10 refine z ?_
  refine a1A (a3s rfl rfl rfl rfl rfl) rfl rfl Tryz.call85 a9B (fun hg => (a0g (a0z rfl hg) (a0t (a0d a0c (a0d a0c (a0d a0c a0s)))) (a0g (a0z rfl hg) (a0t (a0d a0c (a0d a0c (a0d a0c a0s)))) a0w))) rfl rfl ?_
  iterate 8 refine z ?_
  have h1 := a8Z x y.2.2.1; have h2 := a8Z x y.2.2.2; unfold a5M; rw [c1]; cases y.1 <;> cases y.2.1 <;> simp <;> grind
theorem c4D {x : a0Y} {y : a3v}  : PFn Tryz.prog 135 [.agg [(.dv [] (.int .i64 (x.1))), (.dv [] (.int .i64 (x.2.1))), (.dv [] (.str (x.2.2)))], .agg [(.dv [] (.bool (y.1))), (.dv [] (.bool (y.2.1))), (.dv [] (.int .i64 (y.2.2.1.1))), (.dv [] (.int .i64 (y.2.2.1.2.1))), (.dv [] (.str (y.2.2.1.2.2))), (.dv [] (.int .i64 (y.2.2.2.1))), (.dv [] (.int .i64 (y.2.2.2.2.1))), (.dv [] (.str (y.2.2.2.2.2)))]] (.one (.dv [] (.bool (a5M x y)))) := by
 refine ⟨a0R Tryz.func135 rfl Tryz.ntmps135 Tryz.results135 rfl (fun C => ?_)⟩
 refine yF 0 0 rfl rfl fun f0_0 => ?_
 refine yF 0 1 rfl rfl fun f0_1 => ?_
 refine yF 0 2 rfl rfl fun f0_2 => ?_
 refine yF 1 2 rfl rfl fun f1_2 => ?_
 refine yF 1 3 rfl rfl fun f1_3 => ?_
 refine yF 1 4 rfl rfl fun f1_4 => ?_
 refine yF 1 5 rfl rfl fun f1_5 => ?_
 refine yF 1 6 rfl rfl fun f1_6 => ?_
 refine yF 1 7 rfl rfl fun f1_7 => ?_
 iterate 8 refine z ?_
 refine zC Tryz.call89 ?_ (hf := a6H)
 iterate 7 refine z ?_
 refine a1A (a3s rfl rfl rfl rfl rfl) rfl rfl Tryz.call89 a6H (fun hg => (a0g (a0z rfl hg) (a0t (a0d a0c (a0d a0c (a0d a0c a0s)))) a0w)) rfl rfl ?_
 iterate 9 refine z ?_
 refine a1A (a3s rfl rfl rfl rfl rfl) rfl rfl Tryz.call89 a6H (fun hg => (a0g (a0z rfl hg) (a0t (a0d a0c (a0d a0c (a0d a0c a0s)))) a0w)) rfl rfl ?_
 iterate 4 refine z ?_
 refine yQ rfl (fun c1 => ?_) fun c1 => ?_
 ·iterate 6 refine z ?_
  unfold a5M; rw [c1]; rfl
 ·iterate 10 refine z ?_
  refine a1A (a1p rfl rfl rfl rfl rfl) rfl rfl Tryz.call91 a9s (fun hg => (a0g (a0z rfl hg) (a0t (a0d a0c (a0d a0c (a0d a0c a0s)))) (a0g (a0z rfl hg) (a0t (a0d a0c (a0d a0c (a0d a0c a0s)))) a0w))) rfl rfl ?_
  iterate 10 refine z ?_
  refine a1A (a3s rfl rfl rfl rfl rfl) rfl rfl Tryz.call91 a9s (fun hg => (a0g (a0z rfl hg) (a0t (a0d a0c (a0d a0c (a0d a0c a0s)))) (a0g (a0z rfl hg) (a0t (a0d a0c (a0d a0c (a0d a0c a0s)))) a0w))) rfl rfl ?_
  iterate 7 refine z ?_
  have h1 := a8Z x y.2.2.1; have h2 := a8Z x y.2.2.2; unfold a5M; rw [c1]; cases y.1 <;> cases y.2.1 <;> simp <;> grind
end Go.Proofs.YtjkpoekgnmgofaaGreat

namespace Go.Proofs.YtjkpoekgnmgofaaGreat
open Go.RowKit
open Go.Proofs
set_option linter.unusedVariables false
set_option linter.unusedSimpArgs false

def bef (f : Str) (a b : a0O) : Bool := decide ((a1c a.2 f).1 < (a1c b.2 f).1) || (decide ((a1c a.2 f).1 = (a1c b.2 f).1) && decide (a2E a.1 b.1 < 0))
def a3D (f : Str) (x : a0O) (o : List a0O) : Nat → Nat
 | 0 => 0
 | k + 1 => if bef f x (o.getD k default) then a3D f x o k else k + 1
def a2a (o : List a0O) (j : Nat) (y : a0O) : List a0O := o.take j ++ [y] ++ o.drop j
def a0M (f : Str) (its : List a0O) : Nat → List a0O
 | 0 => []
 | k + 1 => if (a1c (its.getD (k : Int).toNat default).2 f).2 then a2a (a0M f its k) (a3D f (its.getD (k : Int).toNat default) (a0M f its k) (a0M f its k).length) (its.getD (k : Int).toNat default) else a0M f its k
theorem a8v {o : List a0O} {j : Nat} {y : a0O} : (a2a o j y).length = o.length + 1 := by simp only [a2a, List.length_append, List.length_take, List.length_drop, List.length_singleton]; omega
theorem a9e (f : Str) (its : List a0O) : ∀ k, (a0M f its k).length ≤ k
 | 0 => Nat.le_refl _
 | k + 1 => by have := a9e f its k; rw [a0M]; split <;> (try rw [a8v]) <;> omega
theorem b0B {f : Str} {its : List a0O} {k : Nat} (h : (a1c (its.getD (k : Int).toNat default).2 f).2 = true) : a0M f its (k + 1) = a2a (a0M f its k) (a3D f (its.getD (k : Int).toNat default) (a0M f its k) (a0M f its k).length) (its.getD (k : Int).toNat default) := by rw [a0M, if_pos h]
theorem b7D {f : Str} {its : List a0O} {k : Nat} (h : (a1c (its.getD (k : Int).toNat default).2 f).2 = false) : a0M f its k = a0M f its (k + 1) := by rw [a0M, if_neg (by rw [h]; simp)]
theorem b8b {f : Str} {x : a0O} {o : List a0O} {j : Nat} (h : (decide (0 < (j : Int)) && bef f x (o.getD ((j : Int) - 1).toNat default)) = true) : 0 < j ∧ a3D f x o j = a3D f x o (j - 1) := by
 obtain ⟨h1, h2⟩ := (Bool.and_eq_true _ _ ▸ h : _ ∧ _)
 have h1 := of_decide_eq_true h1
 cases j with
 | zero => simp at h1
 | succ k =>
  have e : (((k + 1 : Nat) : Int) - 1).toNat = k := by omega
  rw [e] at h2
  exact ⟨by omega, by rw [a3D, if_pos h2]; rfl⟩
theorem b6x {f : Str} {x : a0O} {o : List a0O} {j : Nat} (h : (decide (0 < (j : Int)) && bef f x (o.getD ((j : Int) - 1).toNat default)) = false) : a3D f x o j = j := by
 cases j with
 | zero => rfl
 | succ k =>
  have e : (((k + 1 : Nat) : Int) - 1).toNat = k := by omega
  rw [e, decide_eq_true (by omega : (0 : Int) < ((k + 1 : Nat) : Int)), Bool.true_and] at h
  rw [a3D, if_neg (by rw [h]; simp)]
theorem a5n {α : Type} {enc : α → List DV} {sz : Nat} (hs : ∀ x, (enc x).length = sz) : ∀ (n : Nat) (xs : List α), (xs.flatMap enc).take (n * sz) = (xs.take n).flatMap enc ∧ (xs.flatMap enc).drop (n * sz) = (xs.drop n).flatMap enc
 | 0, xs => by simp
 | n + 1, [] => by simp
 | n + 1, x :: xs => by
  obtain ⟨h1, h2⟩ := a5n hs n xs
  rw [List.flatMap_cons, Nat.add_mul, Nat.one_mul, Nat.add_comm (n * sz) sz, ← hs x, List.take_length_add_append, List.take_succ_cons, List.flatMap_cons, hs x, h1, List.drop_succ_cons, ← h2]
  exact ⟨rfl, by rw [← hs x, List.drop_length_add_append]⟩
theorem b4e {o : List a0O} {j : Nat} {y : a0O} : a5z (o.flatMap a0K) (((j : Nat) : Int).toNat * 4) (a0K y) = (a2a o j y).flatMap a0K := by
 obtain ⟨h1, h2⟩ := a5n (enc := a0K) (sz := 4) (fun _ => rfl) j o
 rw [a5z, Int.toNat_natCast, h1, h2, a2a, List.flatMap_append, List.flatMap_append, List.flatMap_cons, List.flatMap_nil, List.append_nil]
theorem b4I {o : List a0O} {j : Nat} : ([] : List DV) ++ sub (0 * 4) ((((j : Nat) : Int).toNat - 0) * 4) (o.flatMap a0K) = (o.take j).flatMap a0K := by
 obtain ⟨h1, h2⟩ := a5n (enc := a0K) (sz := 4) (fun _ => rfl) j o
 rw [Int.toNat_natCast, Nat.sub_zero, Nat.zero_mul, sub, List.drop_zero, List.nil_append, h1]
theorem b4U {o : List a0O} {j : Nat} : a4P (o.flatMap a0K) (0 * 4) ((((j : Nat) : Int).toNat - 0) * 4) = List.replicate (j * 4) .hole ++ (o.drop j).flatMap a0K := by
 obtain ⟨h1, h2⟩ := a5n (enc := a0K) (sz := 4) (fun _ => rfl) j o
 rw [Int.toNat_natCast, Nat.sub_zero, Nat.zero_mul, a4P, List.drop_zero, h2]; rfl
theorem b7y {o : List a0O} {j : Nat} {el : a0O} (hj : j ≤ o.length) : (o.take j ++ [el]).flatMap a0K ++ sub (((j : Nat) : Int).toNat * 4) ((o.length - ((j : Nat) : Int).toNat) * 4) (List.replicate (j * 4) .hole ++ (o.drop j).flatMap a0K) = (a2a o j el).flatMap a0K := by
 have hl : ((o.drop j).flatMap a0K).length = (o.length - j) * 4 := by
  have : ∀ l : List a0O, (l.flatMap a0K).length = l.length * 4 := fun l => by
   induction l with
   | nil => rfl
   | cons x l ih => rw [List.flatMap_cons, List.length_append, ih, List.length_cons]; show 4 + l.length * 4 = (l.length + 1) * 4; omega
  rw [this, List.length_drop]
 have e : (List.replicate (j * 4) DV.hole ++ (o.drop j).flatMap a0K).drop (j * 4) = (o.drop j).flatMap a0K := by
  have h := List.drop_left (l₁ := List.replicate (j * 4) DV.hole) (l₂ := (o.drop j).flatMap a0K)
  rwa [List.length_replicate] at h
 rw [Int.toNat_natCast, sub, e, List.take_of_length_le (l := (o.drop j).flatMap a0K) (by rw [hl]; exact Nat.le_refl _)]
 simp only [a2a, List.flatMap_append]

theorem b9y {x y : a0O} {f : Str}  : PFn Tryz.prog 131 [.agg [(.dv [] (.int .i64 (x.1.1))), (.dv [] (.int .i64 (x.1.2.1))), (.dv [] (.str (x.1.2.2))), (.dv [] (a0L (x.2)))], .agg [(.dv [] (.int .i64 (y.1.1))), (.dv [] (.int .i64 (y.1.2.1))), (.dv [] (.str (y.1.2.2))), (.dv [] (a0L (y.2)))], .one (.dv [] (.str (f)))] (.one (.dv [] (.bool (bef f x y)))) := by
 refine ⟨a0R Tryz.func131 rfl Tryz.ntmps131 Tryz.results131 rfl (fun C => ?_)⟩
 refine yF 0 0 rfl rfl fun f0_0 => ?_
 refine yF 0 1 rfl rfl fun f0_1 => ?_
 refine yF 0 2 rfl rfl fun f0_2 => ?_
 refine yF 0 3 rfl rfl fun f0_3 => ?_
 refine yF 1 0 rfl rfl fun f1_0 => ?_
 refine yF 1 1 rfl rfl fun f1_1 => ?_
 refine yF 1 2 rfl rfl fun f1_2 => ?_
 refine yF 1 3 rfl rfl fun f1_3 => ?_
 refine a1i (x := .tmp 2) (a0a rfl) fun f2 => ?_
 iterate 9 refine z ?_
 refine zC Tryz.call81 ?_ (hf := a6q)
 iterate 10 refine z ?_
 refine zC Tryz.call81 ?_ (hf := a6q)
 iterate 19 refine z ?_
 refine a1A (a3s rfl rfl rfl rfl rfl) rfl rfl Tryz.call85 a9B (fun hg => (a0g (a0z rfl hg) (a0t (a0d a0c (a0d a0c (a0d a0c a0s)))) (a0g (a0z rfl hg) (a0t (a0d a0c (a0d a0c (a0d a0c a0s)))) a0w))) rfl rfl ?_
 iterate 7 refine z ?_
 unfold bef; grind
theorem c2i {x : a0u} {f : Str} (hb : a0X x ≤ 1048576) : KFn Tryz.prog 87 [.agg [(.dv [] (.str (x.1))), (.dv [] (a0x (x.2.1))), (.dv [] (.int .i64 (x.2.2)))], .one (.dv [] (.str (f)))] (.one (.key 11)) [(11, some (a0b false (a0x (a0M f x.2.1 x.2.1.length))))] := by
 refine ⟨a0R Tryz.func87 rfl Tryz.ntmps87 Tryz.results87 rfl (fun C => ?_)⟩
 refine yF 0 0 rfl rfl fun f0_0 => ?_
 refine yF 0 1 rfl rfl fun f0_1 => ?_
 refine yF 0 2 rfl rfl fun f0_2 => ?_
 refine a1i (x := .tmp 1) (a0a rfl) fun f1 => ?_
 iterate 5 refine z ?_
 refine a3p (k := 11) hT rfl rfl rfl rfl rfl rfl rfl rfl ?_
 iterate 10 refine z ?_
 refine a1f (ι := Nat) (fun zz => ⟨[(1, .one (.dv [] (.str (f)))), (4, .one .nil), (5, .one (.key 11)), (13, .one (.dv [] (a0x (x.2.1)))), (14, .one (.dv [] (.int .i64 ((((x.2.1)).length : Int))))), (15, .one (.dv [] (.int .i64 ((zz : Int)))))], [], [(11, some (a0b false (.sl 93 4 ((a0M f x.2.1 zz).length) ((a0M f x.2.1 zz).flatMap a0K))))]⟩) (fun zz => zz ≤ x.2.1.length) (fun zz => x.2.1.length - zz) (0) ?_ (a0e ⟨rfl, rfl, rfl, rfl, rfl, rfl, trivial⟩ trivial ⟨rfl, trivial⟩ rfl) (fun zz hx => ?_)
 ·exact Nat.zero_le _
 obtain ⟨k, rfl⟩ : ∃ v, v = zz := ⟨_, rfl⟩
 replace hx : k ≤ x.2.1.length := hx
 have hw := fun h => a3j a1S x.2.1 k h
 have hol := a9e f x.2.1 k
 show Ok _ _ _ _ _ (⟨[(1, .one (.dv [] (.str (f)))), (4, .one .nil), (5, .one (.key 11)), (13, .one (.dv [] (a0x (x.2.1)))), (14, .one (.dv [] (.int .i64 ((((x.2.1)).length : Int))))), (15, .one (.dv [] (.int .i64 ((k : Int)))))], [], [(11, some (a0b false (.sl 93 4 ((a0M f x.2.1 k).length) ((a0M f x.2.1 k).flatMap a0K))))]⟩ : St)
 iterate 3 refine z ?_
 refine a0p ?_
 refine yQ rfl (fun c1 => ?_) fun c1 => ?_
 ·have d1 := of_decide_eq_true c1
  have hk2 : k < x.2.1.length := by omega
  have hlen : x.2.1.length ≤ 1048576 := by have h3 : a0X x = x.1.size + (x.2.1.length + a0D a1S x.2.1) := rfl; omega
  have hrec : a1S (x.2.1.getD (k : Int).toNat default) ≤ 1099511627776 := by have := hw hk2; have h3 : a0X x = x.1.size + (x.2.1.length + a0D a1S x.2.1) := rfl; omega
  iterate 15 refine z ?_
  refine zC Tryz.call81 ?_ (hf := a6q)
  iterate 10 refine z ?_
  refine yQ rfl (fun c2 => ?_) fun c2 => ?_
  ·iterate 4 refine z ?_
   refine a0o ?_
   iterate 3 refine z ?_
   refine ⟨k + 1, ?_, ?_, a0e ⟨rfl, rfl, rfl, rfl, rfl, rfl, trivial⟩ trivial ⟨(congrArg (fun l : List a0O => some (some (KC.mk false 93 4 l.length (l.flatMap a0K)))) (b7D (by simpa using c2))), trivial⟩ rfl⟩
   ·omega
   ·omega
  ·iterate 4 refine z ?_
   refine yO rfl rfl (a8w (n := ((a0M f x.2.1 k).length)) hT rfl rfl (a0a rfl) rfl rfl) rfl ?_
   iterate 4 refine z ?_
   refine a1f (ι := Nat) (fun zz => ⟨[(1, .one (.dv [] (.str (f)))), (4, .one .nil), (5, .one (.key 11)), (7, .box 7 0), (10, .one (.dv [] (.int .i64 ((zz : Int))))), (13, .one (.dv [] (a0x (x.2.1)))), (14, .one (.dv [] (.int .i64 ((((x.2.1)).length : Int))))), (15, .one (.dv [] (.int .i64 ((k : Int)))))], [(7, 93, [(.dv [] (.int .i64 ((((x.2.1)).getD ((k : Int)).toNat default).1.1))), (.dv [] (.int .i64 ((((x.2.1)).getD ((k : Int)).toNat default).1.2.1))), (.dv [] (.str ((((x.2.1)).getD ((k : Int)).toNat default).1.2.2))), (.dv [] (a0L ((((x.2.1)).getD ((k : Int)).toNat default).2)))])], [(11, some (a0b false (.sl 93 4 ((a0M f x.2.1 k).length) ((a0M f x.2.1 k).flatMap a0K))))]⟩) (fun zz => zz ≤ (a0M f x.2.1 k).length ∧ a3D f (x.2.1.getD (k : Int).toNat default) (a0M f x.2.1 k) (a0M f x.2.1 k).length = a3D f (x.2.1.getD (k : Int).toNat default) (a0M f x.2.1 k) zz) (fun zz => zz) ((a0M f x.2.1 k).length) ?_ (a0e ⟨rfl, rfl, rfl, rfl, rfl, rfl, rfl, rfl, trivial⟩ ⟨rfl, trivial⟩ ⟨rfl, trivial⟩ rfl) (fun zz hx => ?_)
   ·exact ⟨Nat.le_refl _, rfl⟩
   obtain ⟨j, rfl⟩ : ∃ v, v = zz := ⟨_, rfl⟩
   replace hx : j ≤ (a0M f x.2.1 k).length ∧ a3D f (x.2.1.getD (k : Int).toNat default) (a0M f x.2.1 k) (a0M f x.2.1 k).length = a3D f (x.2.1.getD (k : Int).toNat default) (a0M f x.2.1 k) j := hx
   obtain ⟨hj, hp⟩ := hx
   show Ok _ _ _ _ _ (⟨[(1, .one (.dv [] (.str (f)))), (4, .one .nil), (5, .one (.key 11)), (7, .box 7 0), (10, .one (.dv [] (.int .i64 ((j : Int))))), (13, .one (.dv [] (a0x (x.2.1)))), (14, .one (.dv [] (.int .i64 ((((x.2.1)).length : Int))))), (15, .one (.dv [] (.int .i64 ((k : Int)))))], [(7, 93, [(.dv [] (.int .i64 ((((x.2.1)).getD ((k : Int)).toNat default).1.1))), (.dv [] (.int .i64 ((((x.2.1)).getD ((k : Int)).toNat default).1.2.1))), (.dv [] (.str ((((x.2.1)).getD ((k : Int)).toNat default).1.2.2))), (.dv [] (a0L ((((x.2.1)).getD ((k : Int)).toNat default).2)))])], [(11, some (a0b false (.sl 93 4 ((a0M f x.2.1 k).length) ((a0M f x.2.1 k).flatMap a0K))))]⟩ : St)
   refine a0p ?_
   refine a0p ?_
   refine a1L (oB := [7]) (oK := [11]) (by kernel_rfl) rfl rfl ?_
   refine zD 0 ?_
   refine zD 1 ?_
   refine zD 2 ?_
   refine zDG 3 ?_
   refine a7D 4 rfl (by kernel_rfl) (a1p rfl rfl rfl rfl rfl) rfl (fun hg => a0U (v := .one (.dv [11] (a0x (a0M f x.2.1 k)))) (.inl rfl) (a3R (a0a rfl) rfl rfl)) rfl rfl rfl rfl ?_
   refine zDG 5 ?_
   refine zDG 6 ?_
   refine zDG 7 ?_
   refine zDG 8 ?_
   refine zDG 9 ?_
   refine a4k 10 rfl (by kernel_rfl) (a1p rfl rfl rfl rfl rfl) rfl rfl Tryz.call131 b9y (fun hg => (a0g (a0z rfl hg) (a0t (a0d a0c (a0d a0c (a0d a0c (a0d a0c a0s))))) (a0g (a0z rfl hg) (a0t (a0d a0c (a0d a0c (a0d a0c (a0d a0c a0s))))) (a0g (a0z rfl hg) (a0I a0c) a0w)))) rfl rfl ?_
   refine zD 11 ?_
   refine a2l (by kernel_rfl) ?_
   refine z ?_
   refine yQ rfl (fun c3 => ?_) fun c3 => ?_
   ·have hst := b8b c3
    have hst1 := hst.1
    iterate 3 refine z ?_
    refine a0o ?_
    iterate 3 refine z ?_
    refine a1z ?_
    iterate 2 refine z ?_
    refine ⟨j - 1, ?_, ?_, a0e ⟨rfl, rfl, rfl, rfl, (congrArg (fun z : Int => some (SV.one (CV.dv [] (DV.int .i64 z)))) (show ((j : Int) - 1) = ((j - 1 : Nat) : Int) by omega)), rfl, rfl, rfl, trivial⟩ ⟨rfl, trivial⟩ ⟨rfl, trivial⟩ rfl⟩
    ·exact ⟨by omega, hp.trans hst.2⟩
    ·omega
   ·have hpos := hp.trans (b6x c3)
    iterate 5 refine z ?_
    refine a0o ?_
    iterate 3 refine z ?_
    refine zK 47000 Tryz.call45 ?_ (hf := b5u (by first | omega | exact Nat.le_trans (a6b _) hrec | exact Nat.le_trans (a6b _) (Nat.le_trans hrec (by decide))))
    refine a4b (k := 48) (js := [54003]) hT rfl rfl rfl rfl rfl rfl rfl rfl rfl (a0a rfl) rfl rfl (a0q (a0B rfl) (a0q (a0B rfl) (a0q (a0B rfl) (a0q (a2b rfl) a1t rfl) rfl) rfl) rfl) (by decide) (by decide) rfl rfl ?_
    simp only [a0l, a0i, SV.kill, CV.kill, kk, Nat.reduceBEq]
    refine b3g (k := 11) (j := 48) (cs := (a0M f x.2.1 (k + 1)).flatMap a0K) (n := (a0M f x.2.1 (k + 1)).length) (b5s rfl rfl (by decide)) rfl rfl Tryz.call122 rfl rfl (a0a rfl) rfl rfl rfl (a0a rfl) (by omega) (by dsimp only [a0b]; omega) (a0a rfl) rfl rfl rfl rfl (by decide) (by dsimp only [a0b]; omega) (by dsimp only [a0b]; omega) (by rw [b0B (by simpa using c2), a8v]) (by rw [b0B (by simpa using c2), hpos]; exact b4e) ?_
    simp only [a0l, a0i, SV.kill, CV.kill, kk, Nat.reduceBEq]
    refine z ?_
    refine a1z ?_
    iterate 2 refine z ?_
    refine a0o ?_
    iterate 3 refine z ?_
    refine ⟨k + 1, ?_, ?_, a0e ⟨rfl, rfl, rfl, rfl, rfl, rfl, trivial⟩ trivial ⟨rfl, trivial⟩ rfl⟩
    ·omega
    ·omega
 ·have d1 := of_decide_eq_false c1
  iterate 9 refine z ?_
  refine a0h (σ' := ⟨[(4, .one (.key 11))], [], [(11, some (a0b false (a0x (a0M f x.2.1 x.2.1.length))))]⟩) (a0e ⟨rfl, trivial⟩ trivial ⟨(congrArg (fun m : Nat => some (some (KC.mk false 93 4 (a0M f x.2.1 m).length ((a0M f x.2.1 m).flatMap a0K)))) (show k = x.2.1.length by omega)), trivial⟩ rfl) ?_
  refine z ?_
  refine a1x (a0v rfl) ?_
  exact ⟨rfl, rfl⟩
theorem c1m {x y : a0O} {f : Str}  : PFn Tryz.prog 134 [.agg [(.dv [] (.int .i64 (x.1.1))), (.dv [] (.int .i64 (x.1.2.1))), (.dv [] (.str (x.1.2.2))), (.dv [] (a0L (x.2)))], .agg [(.dv [] (.int .i64 (y.1.1))), (.dv [] (.int .i64 (y.1.2.1))), (.dv [] (.str (y.1.2.2))), (.dv [] (a0L (y.2)))], .one (.dv [] (.str (f)))] (.one (.dv [] (.bool (bef f x y)))) := by
 refine ⟨a0R Tryz.func134 rfl Tryz.ntmps134 Tryz.results134 rfl (fun C => ?_)⟩
 refine yF 0 0 rfl rfl fun f0_0 => ?_
 refine yF 0 1 rfl rfl fun f0_1 => ?_
 refine yF 0 2 rfl rfl fun f0_2 => ?_
 refine yF 0 3 rfl rfl fun f0_3 => ?_
 refine yF 1 0 rfl rfl fun f1_0 => ?_
 refine yF 1 1 rfl rfl fun f1_1 => ?_
 refine yF 1 2 rfl rfl fun f1_2 => ?_
 refine yF 1 3 rfl rfl fun f1_3 => ?_
 refine a1i (x := .tmp 2) (a0a rfl) fun f2 => ?_
 iterate 9 refine z ?_
 refine zC Tryz.call93 ?_ (hf := a7v)
 iterate 10 refine z ?_
 refine zC Tryz.call93 ?_ (hf := a7v)
 iterate 19 refine z ?_
 refine a1A (a3s rfl rfl rfl rfl rfl) rfl rfl Tryz.call91 a9s (fun hg => (a0g (a0z rfl hg) (a0t (a0d a0c (a0d a0c (a0d a0c a0s)))) (a0g (a0z rfl hg) (a0t (a0d a0c (a0d a0c (a0d a0c a0s)))) a0w))) rfl rfl ?_
 iterate 7 refine z ?_
 unfold bef; grind
theorem c4j {x : a0u} {f : Str} (hb : a0X x ≤ 1048576) : KFn Tryz.prog 92 [.agg [(.dv [] (.str (x.1))), (.dv [] (a0x (x.2.1))), (.dv [] (.int .i64 (x.2.2)))], .one (.dv [] (.str (f)))] (.one (.key 11)) [(11, some (a0b false (a0x (a0M f x.2.1 x.2.1.length))))] := by
 refine ⟨a0R Tryz.func92 rfl Tryz.ntmps92 Tryz.results92 rfl (fun C => ?_)⟩
 refine yF 0 0 rfl rfl fun f0_0 => ?_
 refine yF 0 1 rfl rfl fun f0_1 => ?_
 refine yF 0 2 rfl rfl fun f0_2 => ?_
 refine a1i (x := .tmp 1) (a0a rfl) fun f1 => ?_
 iterate 5 refine z ?_
 refine a3p (k := 11) hT rfl rfl rfl rfl rfl rfl rfl rfl ?_
 iterate 7 refine z ?_
 refine a1f (ι := Nat) (fun zz => ⟨[(1, .one (.dv [] (.str (f)))), (2, .box 2 0), (4, .one .nil), (5, .one (.key 11)), (6, .one (.dv [] (.int .i64 ((zz : Int)))))], [(2, 60, [(.dv [] (.str (x.1))), (.dv [] (a0x (x.2.1))), (.dv [] (.int .i64 (x.2.2)))])], [(11, some (a0b false (.sl 93 4 ((a0M f x.2.1 zz).length) ((a0M f x.2.1 zz).flatMap a0K))))]⟩) (fun zz => zz ≤ x.2.1.length) (fun zz => x.2.1.length - zz) (0) ?_ (a0e ⟨rfl, rfl, rfl, rfl, rfl, trivial⟩ ⟨rfl, trivial⟩ ⟨rfl, trivial⟩ rfl) (fun zz hx => ?_)
 ·exact Nat.zero_le _
 obtain ⟨k, rfl⟩ : ∃ v, v = zz := ⟨_, rfl⟩
 replace hx : k ≤ x.2.1.length := hx
 have hw := fun h => a3j a1S x.2.1 k h
 have hol := a9e f x.2.1 k
 show Ok _ _ _ _ _ (⟨[(1, .one (.dv [] (.str (f)))), (2, .box 2 0), (4, .one .nil), (5, .one (.key 11)), (6, .one (.dv [] (.int .i64 ((k : Int)))))], [(2, 60, [(.dv [] (.str (x.1))), (.dv [] (a0x (x.2.1))), (.dv [] (.int .i64 (x.2.2)))])], [(11, some (a0b false (.sl 93 4 ((a0M f x.2.1 k).length) ((a0M f x.2.1 k).flatMap a0K))))]⟩ : St)
 iterate 8 refine z ?_
 refine yQ rfl (fun c1 => ?_) fun c1 => ?_
 ·have d1 := of_decide_eq_true c1
  have hk2 : k < x.2.1.length := by omega
  have hlen : x.2.1.length ≤ 1048576 := by have h3 : a0X x = x.1.size + (x.2.1.length + a0D a1S x.2.1) := rfl; omega
  have hrec : a1S (x.2.1.getD (k : Int).toNat default) ≤ 1099511627776 := by have := hw hk2; have h3 : a0X x = x.1.size + (x.2.1.length + a0D a1S x.2.1) := rfl; omega
  iterate 13 refine z ?_
  refine zC Tryz.call93 ?_ (hf := a7v)
  iterate 10 refine z ?_
  refine yQ rfl (fun c2 => ?_) fun c2 => ?_
  ·iterate 4 refine z ?_
   refine a0o ?_
   iterate 4 refine z ?_
   refine ⟨k + 1, ?_, ?_, a0e ⟨rfl, rfl, rfl, rfl, rfl, trivial⟩ ⟨rfl, trivial⟩ ⟨(congrArg (fun l : List a0O => some (some (KC.mk false 93 4 l.length (l.flatMap a0K)))) (b7D (by simpa using c2))), trivial⟩ rfl⟩
   ·omega
   ·omega
  ·iterate 4 refine z ?_
   refine yO rfl rfl (a8w (n := ((a0M f x.2.1 k).length)) hT rfl rfl (a0a rfl) rfl rfl) rfl ?_
   iterate 4 refine z ?_
   refine a1f (ι := Nat) (fun zz => ⟨[(1, .one (.dv [] (.str (f)))), (2, .box 2 0), (4, .one .nil), (5, .one (.key 11)), (6, .one (.dv [] (.int .i64 ((k : Int))))), (9, .one (.dv [] (.int .i64 ((zz : Int)))))], [(2, 60, [(.dv [] (.str (x.1))), (.dv [] (a0x (x.2.1))), (.dv [] (.int .i64 (x.2.2)))])], [(11, some (a0b false (.sl 93 4 ((a0M f x.2.1 k).length) ((a0M f x.2.1 k).flatMap a0K))))]⟩) (fun zz => zz ≤ (a0M f x.2.1 k).length ∧ a3D f (x.2.1.getD (k : Int).toNat default) (a0M f x.2.1 k) (a0M f x.2.1 k).length = a3D f (x.2.1.getD (k : Int).toNat default) (a0M f x.2.1 k) zz) (fun zz => zz) ((a0M f x.2.1 k).length) ?_ (a0e ⟨rfl, rfl, rfl, rfl, rfl, rfl, trivial⟩ ⟨rfl, trivial⟩ ⟨rfl, trivial⟩ rfl) (fun zz hx => ?_)
   ·exact ⟨Nat.le_refl _, rfl⟩
   obtain ⟨j, rfl⟩ : ∃ v, v = zz := ⟨_, rfl⟩
   replace hx : j ≤ (a0M f x.2.1 k).length ∧ a3D f (x.2.1.getD (k : Int).toNat default) (a0M f x.2.1 k) (a0M f x.2.1 k).length = a3D f (x.2.1.getD (k : Int).toNat default) (a0M f x.2.1 k) j := hx
   obtain ⟨hj, hp⟩ := hx
   show Ok _ _ _ _ _ (⟨[(1, .one (.dv [] (.str (f)))), (2, .box 2 0), (4, .one .nil), (5, .one (.key 11)), (6, .one (.dv [] (.int .i64 ((k : Int))))), (9, .one (.dv [] (.int .i64 ((j : Int)))))], [(2, 60, [(.dv [] (.str (x.1))), (.dv [] (a0x (x.2.1))), (.dv [] (.int .i64 (x.2.2)))])], [(11, some (a0b false (.sl 93 4 ((a0M f x.2.1 k).length) ((a0M f x.2.1 k).flatMap a0K))))]⟩ : St)
   refine a0p ?_
   refine a0p ?_
   refine a1L (oB := [2]) (oK := [11]) (by kernel_rfl) rfl rfl ?_
   refine zD 0 ?_
   refine zD 1 ?_
   refine zD 2 ?_
   refine zDG 3 ?_
   refine zDG 4 ?_
   refine zDG 5 ?_
   refine zDG 6 ?_
   refine zDG 7 ?_
   refine a7D 8 rfl (by kernel_rfl) (a1p rfl rfl rfl rfl rfl) rfl (fun hg => a0U (v := .one (.dv [11] (a0x (a0M f x.2.1 k)))) (.inl rfl) (a3R (a0a rfl) rfl rfl)) rfl rfl rfl rfl ?_
   refine zDG 9 ?_
   refine zDG 10 ?_
   refine zDG 11 ?_
   refine zDG 12 ?_
   refine zDG 13 ?_
   refine a4k 14 rfl (by kernel_rfl) (a1p rfl rfl rfl rfl rfl) rfl rfl Tryz.call134 c1m (fun hg => (a0g (a0z rfl hg) (a0t (a0d a0c (a0d a0c (a0d a0c (a0d a0c a0s))))) (a0g (a0z rfl hg) (a0t (a0d a0c (a0d a0c (a0d a0c (a0d a0c a0s))))) (a0g (a0z rfl hg) (a0I a0c) a0w)))) rfl rfl ?_
   refine zD 15 ?_
   refine a2l (by kernel_rfl) ?_
   refine z ?_
   refine yQ rfl (fun c3 => ?_) fun c3 => ?_
   ·have hst := b8b c3
    have hst1 := hst.1
    iterate 3 refine z ?_
    refine a0o ?_
    iterate 3 refine z ?_
    refine a1z ?_
    iterate 2 refine z ?_
    refine ⟨j - 1, ?_, ?_, a0e ⟨rfl, rfl, rfl, rfl, rfl, (congrArg (fun z : Int => some (SV.one (CV.dv [] (DV.int .i64 z)))) (show ((j : Int) - 1) = ((j - 1 : Nat) : Int) by omega)), trivial⟩ ⟨rfl, trivial⟩ ⟨rfl, trivial⟩ rfl⟩
    ·exact ⟨by omega, hp.trans hst.2⟩
    ·omega
   ·have hpos := hp.trans (b6x c3)
    iterate 6 refine z ?_
    refine a3p (k := 52) hT rfl rfl rfl rfl rfl rfl rfl rfl ?_
    iterate 2 refine z ?_
    refine a9I (k := 52) (j := 11) (s := 5) (n := ((a0M f x.2.1 k).take j).length) (cs := ((a0M f x.2.1 k).take j).flatMap a0K) (c2s := List.replicate (j * 4) .hole ++ ((a0M f x.2.1 k).drop j).flatMap a0K) hT rfl rfl rfl (b0x hT rfl rfl rfl (a0a rfl) rfl (a0a rfl) (by omega) (by dsimp only [a0b]; omega)) rfl rfl rfl rfl rfl rfl rfl (a0a rfl) rfl rfl rfl rfl rfl rfl (by decide) rfl rfl ⟨rfl, rfl⟩ (by omega) (by dsimp only [a0b]; omega) (by dsimp only [a0b]; omega) (by dsimp only [a0b]; omega) (by rw [List.length_take, Nat.min_eq_left (by omega)]; simp) (b4I) (b4U) ?_
    simp only [a0l, a0i, SV.kill, CV.kill, kk, Nat.reduceBEq]
    iterate 9 refine z ?_
    refine zK 63000 Tryz.call88 ?_ (hf := b2C (by first | omega | exact Nat.le_trans (a6b _) hrec | exact Nat.le_trans (a6b _) (Nat.le_trans hrec (by decide))))
    refine a4b (k := 64) (js := [70003]) hT rfl rfl rfl rfl rfl rfl rfl rfl rfl (a0a rfl) rfl rfl (a0q (a0B rfl) (a0q (a0B rfl) (a0q (a0B rfl) (a0q (a2b rfl) a1t rfl) rfl) rfl) rfl) (by decide) (by decide) rfl rfl ?_
    simp only [a0l, a0i, SV.kill, CV.kill, kk, Nat.reduceBEq]
    refine a2z (k := 52) (j := 64) (cs := ((a0M f x.2.1 k).take j ++ [(x.2.1.getD (k : Int).toNat default)]).flatMap a0K) (n := ((a0M f x.2.1 k).take j ++ [(x.2.1.getD (k : Int).toNat default)]).length) hT rfl rfl rfl rfl rfl rfl rfl (a0a rfl) rfl rfl rfl (a0a rfl) rfl rfl (by decide) (by dsimp only [a0b]; simp only [List.length_take]; omega) (by dsimp only [a0b]; simp only [List.length_take]; omega) (by simp) (by rw [List.flatMap_append]; rfl) ?_
    simp only [a0l, a0i, SV.kill, CV.kill, kk, Nat.reduceBEq]
    iterate 2 refine z ?_
    refine a0o ?_
    iterate 3 refine z ?_
    refine a9I (k := 52) (j := 11) (s := 5) (n := (a0M f x.2.1 (k + 1)).length) (cs := (a0M f x.2.1 (k + 1)).flatMap a0K) (c2s := _) hT rfl rfl rfl (b0e hT rfl rfl rfl (a0a rfl) rfl (a0a rfl) (by omega) (by dsimp only [a0b]; omega)) rfl rfl rfl rfl rfl rfl rfl (a0a rfl) rfl rfl rfl rfl rfl rfl (by decide) rfl rfl ⟨rfl, rfl⟩ (by dsimp only [a0b]; omega) (by dsimp only [a0b]; omega) (by dsimp only [a0b]; simp only [List.length_append, List.length_take, List.length_singleton]; omega) (by dsimp only [a0b]; simp only [List.length_append, List.length_take, List.length_singleton]; omega) (by rw [b0B (by simpa using c2), a8v]; simp; omega) (by rw [b0B (by simpa using c2), hpos]; exact b7y hj) (rfl) ?_
    simp only [a0l, a0i, SV.kill, CV.kill, kk, Nat.reduceBEq]
    refine z ?_
    refine a1z ?_
    iterate 2 refine z ?_
    refine a0h (c1Z (s := 5) (k := 52) (k' := 11) rfl rfl rfl (by decide) rfl) ?_
    simp only [a0l, a0i, SV.kill, CV.kill, kk, Nat.reduceBEq]
    refine a0o ?_
    iterate 4 refine z ?_
    refine ⟨k + 1, ?_, ?_, a0e ⟨rfl, rfl, rfl, rfl, rfl, trivial⟩ ⟨rfl, trivial⟩ ⟨rfl, trivial⟩ rfl⟩
    ·omega
    ·omega
 ·have d1 := of_decide_eq_false c1
  iterate 9 refine z ?_
  refine a0h (σ' := ⟨[(4, .one (.key 11))], [], [(11, some (a0b false (a0x (a0M f x.2.1 x.2.1.length))))]⟩) (a0e ⟨rfl, trivial⟩ trivial ⟨(congrArg (fun m : Nat => some (some (KC.mk false 93 4 (a0M f x.2.1 m).length ((a0M f x.2.1 m).flatMap a0K)))) (show k = x.2.1.length by omega)), trivial⟩ rfl) ?_
  refine z ?_
  refine a1x (a0v rfl) ?_
  exact ⟨rfl, rfl⟩
end Go.Proofs.YtjkpoekgnmgofaaGreat

namespace Go.Proofs.YtjkpoekgnmgofaaGreat
open Go.RowKit
open Go.Proofs
set_option linter.unusedVariables false
set_option linter.unusedSimpArgs false

def a7U (f : Str) (l : List a0O) (k : Nat) : Bool := decide ((a1c (l.getD (k - 1) default).2 f).1 = (a1c (l.getD k default).2 f).1)
def ufN (f : Str) (l : List a0O) : Nat → Option Nat
 | 0 => none
 | k + 1 => (ufN f l k).or (if 1 ≤ k ∧ a7U f l k = true then some k else none)
def a2Z (f : Str) (l : List a0O) : a0Y × a0Y × Bool := match ufN f l l.length with
 | some m => ((l.getD (m - 1) default).1, (l.getD m default).1, true)
 | none => ((0, 0, ByteArray.empty), (0, 0, ByteArray.empty), false)
theorem b5c {f : Str} {l : List a0O} {k m : Nat} (h : ufN f l k = some m) : ∀ d, ufN f l (k + d) = some m
 | 0 => h
 | d + 1 => by rw [← Nat.add_assoc, ufN, b5c h d]; rfl
theorem b6c {f : Str} {l : List a0O} {k : Nat} (h : ufN f l k = none) (h1 : 1 ≤ k) (hk : k < l.length) (hs : a7U f l k = true) : a2Z f l = ((l.getD (k - 1) default).1, (l.getD k default).1, true) := by
 have h2 : ufN f l (k + 1) = some k := by rw [ufN, h, if_pos ⟨h1, hs⟩]; rfl
 have h3 := b5c h2 (l.length - (k + 1))
 rw [show k + 1 + (l.length - (k + 1)) = l.length by omega] at h3
 rw [a2Z, h3]
theorem b6v {f : Str} {l : List a0O} (h : ufN f l l.length = none) : a2Z f l = ((0, 0, ByteArray.empty), (0, 0, ByteArray.empty), false) := by rw [a2Z, h]
theorem b7w {f : Str} {l : List a0O} {k : Nat} (h : ufN f l k = none) (hs : a7U f l k = false) : ufN f l (k + 1) = none := by rw [ufN, h, if_neg (by rw [hs]; simp)]; rfl
theorem b3r {f : Str} {l : List a0O} {k : Nat} (h1 : 1 ≤ k) : (a1c (l.getD ((k : Int) - 1).toNat default).2 f).1 = (a1c (l.getD (k : Int).toNat default).2 f).1 ↔ a7U f l k = true := by
 rw [show ((k : Int) - 1).toNat = k - 1 by omega, Int.toNat_natCast, a7U, decide_eq_true_iff]
theorem b4q {f : Str} {l : List a0O} {k : Nat} (h1 : 1 ≤ k) (h : ¬ (a1c (l.getD ((k : Int) - 1).toNat default).2 f).1 = (a1c (l.getD (k : Int).toNat default).2 f).1) : a7U f l k = false := by
 rw [b3r h1] at h; simpa using h
theorem b4s {f : Str} {l : List a0O} {k : Nat} (hu : ufN f l k = none) (hk : k ≤ 1 ∨ k ≤ l.length) (h : ¬ (k : Int) < (l.length : Int)) : ufN f l l.length = none := by
 by_cases e : l.length = k
 ·rw [e]; exact hu
 ·have : l.length = 0 := by omega
  rw [this]; rfl

theorem c1U {x : a0u} {f : Str} (hb : a0X x ≤ 1048576) : PFn Tryz.prog 53 [.agg [(.dv [] (.str (x.1))), (.dv [] (a0x (x.2.1))), (.dv [] (.int .i64 (x.2.2)))], .one (.dv [] (.str (f)))] (.tup [(true, [(.dv [] (.int .i64 ((a2Z f (a0M f x.2.1 x.2.1.length)).1.1))), (.dv [] (.int .i64 ((a2Z f (a0M f x.2.1 x.2.1.length)).1.2.1))), (.dv [] (.str ((a2Z f (a0M f x.2.1 x.2.1.length)).1.2.2)))]), (true, [(.dv [] (.int .i64 ((a2Z f (a0M f x.2.1 x.2.1.length)).2.1.1))), (.dv [] (.int .i64 ((a2Z f (a0M f x.2.1 x.2.1.length)).2.1.2.1))), (.dv [] (.str ((a2Z f (a0M f x.2.1 x.2.1.length)).2.1.2.2)))]), (false, [(.dv [] (.bool ((a2Z f (a0M f x.2.1 x.2.1.length)).2.2)))])]) := by
 refine ⟨a0R Tryz.func53 rfl Tryz.ntmps53 Tryz.results53 rfl (fun C => ?_)⟩
 refine yF 0 0 rfl rfl fun f0_0 => ?_
 refine yF 0 1 rfl rfl fun f0_1 => ?_
 refine yF 0 2 rfl rfl fun f0_2 => ?_
 refine a1i (x := .tmp 1) (a0a rfl) fun f1 => ?_
 iterate 9 refine z ?_
 refine zK 0 Tryz.call87 ?_ (hf := c2i (by omega))
 iterate 7 refine z ?_
 refine a1f (ι := Nat) (fun zz => ⟨[(1, .one (.dv [] (.str (f)))), (4, .box 4 0), (5, .box 5 0), (7, .one (.key 11)), (8, .one (.dv [] (.int .i64 ((zz : Int)))))], [(4, 63, [(.dv [] (.int .i64 (0))), (.dv [] (.int .i64 (0))), (.dv [] (.str (ByteArray.empty)))]), (5, 63, [(.dv [] (.int .i64 (0))), (.dv [] (.int .i64 (0))), (.dv [] (.str (ByteArray.empty)))])], [(11, some (a0b false (.sl 93 4 ((a0M f x.2.1 x.2.1.length).length) ((a0M f x.2.1 x.2.1.length).flatMap a0K))))]⟩) (fun zz => 1 ≤ zz ∧ (zz ≤ 1 ∨ zz ≤ (a0M f x.2.1 x.2.1.length).length) ∧ ufN f (a0M f x.2.1 x.2.1.length) zz = none) (fun zz => (a0M f x.2.1 x.2.1.length).length - zz) (1) ?_ (a0e ⟨rfl, rfl, rfl, rfl, rfl, trivial⟩ ⟨rfl, rfl, trivial⟩ ⟨rfl, trivial⟩ rfl) (fun zz hx => ?_)
 ·exact ⟨Nat.le_refl _, .inl (Nat.le_refl _), rfl⟩
 obtain ⟨k, rfl⟩ : ∃ v, v = zz := ⟨_, rfl⟩
 replace hx : 1 ≤ k ∧ (k ≤ 1 ∨ k ≤ (a0M f x.2.1 x.2.1.length).length) ∧ ufN f (a0M f x.2.1 x.2.1.length) k = none := hx
 obtain ⟨h1, hk, hu⟩ := hx
 have hlw := a9e f x.2.1 x.2.1.length
 have hlen : x.2.1.length ≤ 1048576 := by have h3 : a0X x = x.1.size + (x.2.1.length + a0D a1S x.2.1) := rfl; omega
 show Ok _ _ _ _ _ (⟨[(1, .one (.dv [] (.str (f)))), (4, .box 4 0), (5, .box 5 0), (7, .one (.key 11)), (8, .one (.dv [] (.int .i64 ((k : Int)))))], [(4, 63, [(.dv [] (.int .i64 (0))), (.dv [] (.int .i64 (0))), (.dv [] (.str (ByteArray.empty)))]), (5, 63, [(.dv [] (.int .i64 (0))), (.dv [] (.int .i64 (0))), (.dv [] (.str (ByteArray.empty)))])], [(11, some (a0b false (.sl 93 4 ((a0M f x.2.1 x.2.1.length).length) ((a0M f x.2.1 x.2.1.length).flatMap a0K))))]⟩ : St)
 iterate 3 refine z ?_
 refine yO rfl rfl (a0U (v := .one (.dv [11] (a0x (a0M f x.2.1 x.2.1.length)))) (.inl rfl) (a3R (a0a rfl) rfl rfl)) rfl ?_
 iterate 3 refine z ?_
 refine yQ rfl (fun c1 => ?_) fun c1 => ?_
 ·have d1 := of_decide_eq_true c1
  iterate 5 refine z ?_
  refine yO rfl rfl (a0U (v := .one (.dv [11] (a0x (a0M f x.2.1 x.2.1.length)))) (.inl rfl) (a3R (a0a rfl) rfl rfl)) rfl ?_
  iterate 6 refine z ?_
  refine zC Tryz.call81 ?_ (hf := a6q)
  iterate 7 refine z ?_
  refine yO rfl rfl (a0U (v := .one (.dv [11] (a0x (a0M f x.2.1 x.2.1.length)))) (.inl rfl) (a3R (a0a rfl) rfl rfl)) rfl ?_
  iterate 5 refine z ?_
  refine zC Tryz.call81 ?_ (hf := a6q)
  iterate 11 refine z ?_
  refine yQ rfl (fun c2 => ?_) fun c2 => ?_
  ·have d2 := of_decide_eq_true c2
   refine a0p ?_
   refine a5b 4 (oB := [5]) (oK := [11]) (by kernel_rfl) rfl rfl ?_
   refine a1r 0 rfl (by kernel_rfl) rfl rfl (a0U (v := .one (.dv [11] (a0x (a0M f x.2.1 x.2.1.length)))) (.inl rfl) (a3R (a0a rfl) rfl rfl)) rfl rfl rfl rfl rfl ?_
   refine a1r 1 rfl (by kernel_rfl) rfl rfl (a0U (.inl rfl) (a0a rfl)) rfl rfl rfl rfl rfl ?_
   refine a1r 2 rfl (by kernel_rfl) rfl rfl (a8W rfl (a0a rfl) (a0n (a0m rfl)) (a6d (by omega) (by omega))) rfl rfl rfl rfl rfl ?_
   refine a1r 3 rfl (by kernel_rfl) rfl rfl (a3W hT rfl rfl rfl (a0a rfl) (a0a rfl) (fun _ => rfl) (by omega) (by omega)) rfl rfl rfl rfl rfl ?_
   refine a1r 4 rfl (by kernel_rfl) rfl rfl (a5Y hT rfl rfl rfl (a0a rfl)) rfl rfl rfl rfl rfl ?_
   refine a1r 5 rfl (by kernel_rfl) rfl rfl (a8a hT rfl rfl (a0a rfl) rfl) rfl rfl rfl rfl rfl ?_
   refine a1r 6 rfl (by kernel_rfl) rfl rfl (a0U (v := .one (.dv [11] (a0x (a0M f x.2.1 x.2.1.length)))) (.inl rfl) (a3R (a0a rfl) rfl rfl)) rfl rfl rfl rfl rfl ?_
   refine a1r 7 rfl (by kernel_rfl) rfl rfl (a0U (.inl rfl) (a0a rfl)) rfl rfl rfl rfl rfl ?_
   refine a1r 8 rfl (by kernel_rfl) rfl rfl (a3W hT rfl rfl rfl (a0a rfl) (a0a rfl) (fun _ => rfl) (by omega) (by omega)) rfl rfl rfl rfl rfl ?_
   refine a1r 9 rfl (by kernel_rfl) rfl rfl (a5Y hT rfl rfl rfl (a0a rfl)) rfl rfl rfl rfl rfl ?_
   refine a1r 10 rfl (by kernel_rfl) rfl rfl (a8a hT rfl rfl (a0a rfl) rfl) rfl rfl rfl rfl rfl ?_
   refine a4W 11 rfl (by kernel_rfl) rfl hT rfl rfl rfl (a0a rfl) (a0a rfl) rfl rfl rfl rfl rfl rfl ?_
   refine a4G [12, 13] rfl rfl (by kernel_rfl) ?_
   iterate 9 refine z ?_
   refine a1J (a0C hT rfl rfl rfl rfl) (a0C hT rfl rfl rfl rfl) (a0v rfl) rfl rfl rfl ?_
   rw [b6c hu h1 (by omega) ((b3r h1).1 d2), show ((k : Int) - 1).toNat = k - 1 by omega] <;> rfl
  ·have d2 := of_decide_eq_false c2
   iterate 3 refine z ?_
   refine a0o ?_
   iterate 4 refine z ?_
   refine ⟨k + 1, ?_, ?_, a0e ⟨rfl, rfl, rfl, rfl, rfl, trivial⟩ ⟨rfl, rfl, trivial⟩ ⟨rfl, trivial⟩ rfl⟩
   ·exact ⟨by omega, .inr (by omega), b7w hu (b4q h1 d2)⟩
   ·omega
 ·have d1 := of_decide_eq_false c1
  iterate 6 refine z ?_
  refine yO rfl rfl (a1F hT hB rfl rfl rfl a1E) rfl ?_
  refine yO rfl rfl (a1F hT hB rfl rfl rfl a1E) rfl ?_
  iterate 5 refine z ?_
  refine a1J (a0C hT rfl rfl rfl rfl) (a0C hT rfl rfl rfl rfl) (a0v rfl) rfl rfl rfl ?_
  rw [b6v (b4s hu hk d1)] <;> rfl
theorem c6m {x : a0u} {f : Str} (hb : a0X x ≤ 1048576) : PFn Tryz.prog 58 [.agg [(.dv [] (.str (x.1))), (.dv [] (a0x (x.2.1))), (.dv [] (.int .i64 (x.2.2)))], .one (.dv [] (.str (f)))] (.tup [(true, [(.dv [] (.int .i64 ((a2Z f (a0M f x.2.1 x.2.1.length)).1.1))), (.dv [] (.int .i64 ((a2Z f (a0M f x.2.1 x.2.1.length)).1.2.1))), (.dv [] (.str ((a2Z f (a0M f x.2.1 x.2.1.length)).1.2.2)))]), (true, [(.dv [] (.int .i64 ((a2Z f (a0M f x.2.1 x.2.1.length)).2.1.1))), (.dv [] (.int .i64 ((a2Z f (a0M f x.2.1 x.2.1.length)).2.1.2.1))), (.dv [] (.str ((a2Z f (a0M f x.2.1 x.2.1.length)).2.1.2.2)))]), (false, [(.dv [] (.bool ((a2Z f (a0M f x.2.1 x.2.1.length)).2.2)))])]) := by
 refine ⟨a0R Tryz.func58 rfl Tryz.ntmps58 Tryz.results58 rfl (fun C => ?_)⟩
 refine yF 0 0 rfl rfl fun f0_0 => ?_
 refine yF 0 1 rfl rfl fun f0_1 => ?_
 refine yF 0 2 rfl rfl fun f0_2 => ?_
 refine a1i (x := .tmp 1) (a0a rfl) fun f1 => ?_
 iterate 9 refine z ?_
 refine zK 0 Tryz.call92 ?_ (hf := c4j (by omega))
 iterate 7 refine z ?_
 refine a1f (ι := Nat) (fun zz => ⟨[(1, .one (.dv [] (.str (f)))), (4, .box 4 0), (5, .box 5 0), (7, .one (.key 11)), (8, .one (.dv [] (.int .i64 ((zz : Int)))))], [(4, 63, [(.dv [] (.int .i64 (0))), (.dv [] (.int .i64 (0))), (.dv [] (.str (ByteArray.empty)))]), (5, 63, [(.dv [] (.int .i64 (0))), (.dv [] (.int .i64 (0))), (.dv [] (.str (ByteArray.empty)))])], [(11, some (a0b false (.sl 93 4 ((a0M f x.2.1 x.2.1.length).length) ((a0M f x.2.1 x.2.1.length).flatMap a0K))))]⟩) (fun zz => 1 ≤ zz ∧ (zz ≤ 1 ∨ zz ≤ (a0M f x.2.1 x.2.1.length).length) ∧ ufN f (a0M f x.2.1 x.2.1.length) zz = none) (fun zz => (a0M f x.2.1 x.2.1.length).length - zz) (1) ?_ (a0e ⟨rfl, rfl, rfl, rfl, rfl, trivial⟩ ⟨rfl, rfl, trivial⟩ ⟨rfl, trivial⟩ rfl) (fun zz hx => ?_)
 ·exact ⟨Nat.le_refl _, .inl (Nat.le_refl _), rfl⟩
 obtain ⟨k, rfl⟩ : ∃ v, v = zz := ⟨_, rfl⟩
 replace hx : 1 ≤ k ∧ (k ≤ 1 ∨ k ≤ (a0M f x.2.1 x.2.1.length).length) ∧ ufN f (a0M f x.2.1 x.2.1.length) k = none := hx
 obtain ⟨h1, hk, hu⟩ := hx
 have hlw := a9e f x.2.1 x.2.1.length
 have hlen : x.2.1.length ≤ 1048576 := by have h3 : a0X x = x.1.size + (x.2.1.length + a0D a1S x.2.1) := rfl; omega
 show Ok _ _ _ _ _ (⟨[(1, .one (.dv [] (.str (f)))), (4, .box 4 0), (5, .box 5 0), (7, .one (.key 11)), (8, .one (.dv [] (.int .i64 ((k : Int)))))], [(4, 63, [(.dv [] (.int .i64 (0))), (.dv [] (.int .i64 (0))), (.dv [] (.str (ByteArray.empty)))]), (5, 63, [(.dv [] (.int .i64 (0))), (.dv [] (.int .i64 (0))), (.dv [] (.str (ByteArray.empty)))])], [(11, some (a0b false (.sl 93 4 ((a0M f x.2.1 x.2.1.length).length) ((a0M f x.2.1 x.2.1.length).flatMap a0K))))]⟩ : St)
 iterate 3 refine z ?_
 refine yO rfl rfl (a0U (v := .one (.dv [11] (a0x (a0M f x.2.1 x.2.1.length)))) (.inl rfl) (a3R (a0a rfl) rfl rfl)) rfl ?_
 iterate 3 refine z ?_
 refine yQ rfl (fun c1 => ?_) fun c1 => ?_
 ·have d1 := of_decide_eq_true c1
  iterate 5 refine z ?_
  refine yO rfl rfl (a0U (v := .one (.dv [11] (a0x (a0M f x.2.1 x.2.1.length)))) (.inl rfl) (a3R (a0a rfl) rfl rfl)) rfl ?_
  iterate 6 refine z ?_
  refine zC Tryz.call93 ?_ (hf := a7v)
  iterate 7 refine z ?_
  refine yO rfl rfl (a0U (v := .one (.dv [11] (a0x (a0M f x.2.1 x.2.1.length)))) (.inl rfl) (a3R (a0a rfl) rfl rfl)) rfl ?_
  iterate 5 refine z ?_
  refine zC Tryz.call93 ?_ (hf := a7v)
  iterate 11 refine z ?_
  refine yQ rfl (fun c2 => ?_) fun c2 => ?_
  ·have d2 := of_decide_eq_true c2
   refine a0p ?_
   refine a5b 4 (oB := [5]) (oK := [11]) (by kernel_rfl) rfl rfl ?_
   refine a1r 0 rfl (by kernel_rfl) rfl rfl (a0U (v := .one (.dv [11] (a0x (a0M f x.2.1 x.2.1.length)))) (.inl rfl) (a3R (a0a rfl) rfl rfl)) rfl rfl rfl rfl rfl ?_
   refine a1r 1 rfl (by kernel_rfl) rfl rfl (a0U (.inl rfl) (a0a rfl)) rfl rfl rfl rfl rfl ?_
   refine a1r 2 rfl (by kernel_rfl) rfl rfl (a8W rfl (a0a rfl) (a0n (a0m rfl)) (a6d (by omega) (by omega))) rfl rfl rfl rfl rfl ?_
   refine a1r 3 rfl (by kernel_rfl) rfl rfl (a3W hT rfl rfl rfl (a0a rfl) (a0a rfl) (fun _ => rfl) (by omega) (by omega)) rfl rfl rfl rfl rfl ?_
   refine a1r 4 rfl (by kernel_rfl) rfl rfl (a5Y hT rfl rfl rfl (a0a rfl)) rfl rfl rfl rfl rfl ?_
   refine a1r 5 rfl (by kernel_rfl) rfl rfl (a8a hT rfl rfl (a0a rfl) rfl) rfl rfl rfl rfl rfl ?_
   refine a1r 6 rfl (by kernel_rfl) rfl rfl (a0U (v := .one (.dv [11] (a0x (a0M f x.2.1 x.2.1.length)))) (.inl rfl) (a3R (a0a rfl) rfl rfl)) rfl rfl rfl rfl rfl ?_
   refine a1r 7 rfl (by kernel_rfl) rfl rfl (a0U (.inl rfl) (a0a rfl)) rfl rfl rfl rfl rfl ?_
   refine a1r 8 rfl (by kernel_rfl) rfl rfl (a3W hT rfl rfl rfl (a0a rfl) (a0a rfl) (fun _ => rfl) (by omega) (by omega)) rfl rfl rfl rfl rfl ?_
   refine a1r 9 rfl (by kernel_rfl) rfl rfl (a5Y hT rfl rfl rfl (a0a rfl)) rfl rfl rfl rfl rfl ?_
   refine a1r 10 rfl (by kernel_rfl) rfl rfl (a8a hT rfl rfl (a0a rfl) rfl) rfl rfl rfl rfl rfl ?_
   refine a4W 11 rfl (by kernel_rfl) rfl hT rfl rfl rfl (a0a rfl) (a0a rfl) rfl rfl rfl rfl rfl rfl ?_
   refine a4G [12, 13] rfl rfl (by kernel_rfl) ?_
   iterate 9 refine z ?_
   refine a1J (a0C hT rfl rfl rfl rfl) (a0C hT rfl rfl rfl rfl) (a0v rfl) rfl rfl rfl ?_
   rw [b6c hu h1 (by omega) ((b3r h1).1 d2), show ((k : Int) - 1).toNat = k - 1 by omega] <;> rfl
  ·have d2 := of_decide_eq_false c2
   iterate 3 refine z ?_
   refine a0o ?_
   iterate 4 refine z ?_
   refine ⟨k + 1, ?_, ?_, a0e ⟨rfl, rfl, rfl, rfl, rfl, trivial⟩ ⟨rfl, rfl, trivial⟩ ⟨rfl, trivial⟩ rfl⟩
   ·exact ⟨by omega, .inr (by omega), b7w hu (b4q h1 d2)⟩
   ·omega
 ·have d1 := of_decide_eq_false c1
  iterate 6 refine z ?_
  refine yO rfl rfl (a1F hT hB rfl rfl rfl a1E) rfl ?_
  refine yO rfl rfl (a1F hT hB rfl rfl rfl a1E) rfl ?_
  iterate 5 refine z ?_
  refine a1J (a0C hT rfl rfl rfl rfl) (a0C hT rfl rfl rfl rfl) (a0v rfl) rfl rfl rfl ?_
  rw [b6v (b4s hu hk d1)] <;> rfl
end Go.Proofs.YtjkpoekgnmgofaaGreat

namespace Go.Proofs.YtjkpoekgnmgofaaGreat
open Go.RowKit
open Go.Proofs
set_option linter.unusedVariables false
set_option linter.unusedSimpArgs false

def a3U (s : a0u) (i : Nat) : Bool := (!a1n (s.2.1.getD (i : Int).toNat default).1 || !a1l (s.2.1.getD (i : Int).toNat default).2) ||
 (decide ((0 : Int) < (i : Int)) && decide (0 ≤ a2E (s.2.1.getD ((i : Int) - 1).toNat default).1 (s.2.1.getD (i : Int).toNat default).1))
def a1g (s : a0u) : Bool := (List.range s.2.1.length).all (fun i => !a3U s i) && (a2h s.1 && decide ((s.2.1.length : Int) ≤ 16) && (decide ((0 : Int) ≤ s.2.2) && decide (s.2.2 ≤ 1000000)))
def kEq (a b : a0Y) : Bool := decide (a.1 = b.1) && (decide (a.2.1 = b.2.1) && sEq a.2.2 b.2.2)
def a0W (x : a0u) (k : a0Y) : Int := a0j (fun y : a0O => kEq y.1 k) x.2.1 0
theorem a9E {xs : List a0O} {k : Nat} (hk : k < xs.length) : (xs.take k).flatMap a0K ++ a0K (xs.getD (k : Int).toNat default) = (xs.take (k + 1)).flatMap a0K ∧ (xs.take k).length + 1 = (xs.take (k + 1)).length := by
 have e : xs.getD (k : Int).toNat default = xs[k] := by simp [List.getD, List.getElem?_eq_getElem hk]
 rw [List.take_add_one, List.getElem?_eq_getElem hk, e]
 simp only [Option.toList_some, List.flatMap_append, List.flatMap_cons, List.flatMap_nil, List.append_nil, List.length_append, List.length_singleton]
 exact ⟨trivial, trivial⟩

theorem a8C {s : a0u}  : PFn Tryz.prog 51 [.agg [(.dv [] (.str (s.1))), (.dv [] (a0x (s.2.1))), (.dv [] (.int .i64 (s.2.2)))]] (.one (.dv [] (.bool (a1g s)))) := by
 refine ⟨a0R Tryz.func51 rfl Tryz.ntmps51 Tryz.results51 rfl (fun C => ?_)⟩
 refine yF 0 0 rfl rfl fun f0_0 => ?_
 refine yF 0 1 rfl rfl fun f0_1 => ?_
 refine yF 0 2 rfl rfl fun f0_2 => ?_
 iterate 12 refine z ?_
 refine a1f (ι := Nat) (fun zz => ⟨[(1, .box 1 0), (6, .one (.dv [] (a0x (s.2.1)))), (7, .one (.dv [] (.int .i64 ((((s.2.1)).length : Int))))), (8, .one (.dv [] (.int .i64 ((zz : Int)))))], [(1, 60, [(.dv [] (.str (s.1))), (.dv [] (a0x (s.2.1))), (.dv [] (.int .i64 (s.2.2)))])], []⟩) (fun zz => zz ≤ s.2.1.length ∧ (List.range zz).all (fun i => !a3U s i) = true) (fun zz => s.2.1.length - zz) (0) ?_ (a0e ⟨rfl, rfl, rfl, rfl, trivial⟩ ⟨rfl, trivial⟩ trivial rfl) (fun zz hx => ?_)
 ·exact ⟨Nat.zero_le _, rfl⟩
 obtain ⟨k, rfl⟩ : ∃ v, v = zz := ⟨_, rfl⟩
 replace hx : k ≤ s.2.1.length ∧ (List.range k).all (fun i => !a3U s i) = true := hx
 obtain ⟨hk, hall⟩ := hx
 show Ok _ _ _ _ _ (⟨[(1, .box 1 0), (6, .one (.dv [] (a0x (s.2.1)))), (7, .one (.dv [] (.int .i64 ((((s.2.1)).length : Int))))), (8, .one (.dv [] (.int .i64 ((k : Int)))))], [(1, 60, [(.dv [] (.str (s.1))), (.dv [] (a0x (s.2.1))), (.dv [] (.int .i64 (s.2.2)))])], []⟩ : St)
 iterate 3 refine z ?_
 refine a0p ?_
 refine yQ rfl (fun c1 => ?_) fun c1 => ?_
 ·have d1 := of_decide_eq_true c1
  iterate 12 refine z ?_
  refine a0p ?_
  refine a1L (oB := [1, 4]) (oK := []) (by kernel_rfl) rfl rfl ?_
  refine zD 0 ?_
  refine zD 1 ?_
  refine a4u 2 rfl (by kernel_rfl) rfl rfl rfl Tryz.call75 a6C (a0g (a0a rfl) (a0t (a0d a0c (a0d a0c (a0d a0c a0s)))) a0w) rfl rfl rfl rfl ?_
  refine zD 3 ?_
  refine zD 4 ?_
  refine zDG 5 ?_
  refine zDG 6 ?_
  refine a4k 7 rfl (by kernel_rfl) (a1p rfl rfl rfl rfl rfl) rfl rfl Tryz.call76 a8y (fun hg => (a0g (a0z rfl hg) (a0t (a0d a0c a0s)) a0w)) rfl rfl ?_
  refine zDG 8 ?_
  refine zD 9 ?_
  refine zD 10 ?_
  refine zDG 11 ?_
  refine zDG 12 ?_
  refine zDG 13 ?_
  refine zDG 14 ?_
  refine zDG 15 ?_
  refine zDG 16 ?_
  refine zDG 17 ?_
  refine zDG 18 ?_
  refine zDG 19 ?_
  refine zDG 20 ?_
  refine zDG 21 ?_
  refine zDG 22 ?_
  refine a4k 23 rfl (by kernel_rfl) (a3s rfl rfl rfl rfl rfl) rfl rfl Tryz.call85 a9B (fun hg => (a0g (a0z rfl hg) (a0t (a0d a0c (a0d a0c (a0d a0c a0s)))) (a0g (a0z rfl hg) (a0t (a0d a0c (a0d a0c (a0d a0c a0s)))) a0w))) rfl rfl ?_
  refine zDG 24 ?_
  refine zDG 25 ?_
  refine zD 26 ?_
  refine a2l (by kernel_rfl) ?_
  refine z ?_
  refine yQ rfl (fun c2 => ?_) fun c2 => ?_
  ·iterate 10 refine z ?_
   rw [a1g, a7C (k := k) (by omega) (by have h : a3U s k = true := c2; simpa using h)]; rfl
  ·iterate 3 refine z ?_
   refine a0o ?_
   iterate 3 refine z ?_
   refine ⟨k + 1, ?_, ?_, a0e ⟨rfl, rfl, rfl, rfl, trivial⟩ ⟨rfl, trivial⟩ trivial rfl⟩
   ·exact ⟨by omega, a3F hall (by have h : a3U s k = false := c2; simpa using h)⟩
   ·omega
 ·have d1 := of_decide_eq_false c1
  iterate 8 refine z ?_
  refine zC Tryz.call50 ?_ (hf := a8s)
  iterate 9 refine z ?_
  refine a1A (a1p rfl rfl rfl rfl rfl) rfl rfl Tryz.call25 a5h (fun hg => (a0g (a0z rfl hg) (a0I a0c) (a0g (a0n (a0m rfl)) (a0I a0c) (a0g (a0n (a0m rfl)) (a0I a0c) a0w)))) rfl rfl ?_
  iterate 5 refine z ?_
  obtain rfl : k = s.2.1.length := by omega
  rw [a1g, hall]; rfl
theorem b1P {s : a0u}  : PFn Tryz.prog 55 [.agg [(.dv [] (.str (s.1))), (.dv [] (a0x (s.2.1))), (.dv [] (.int .i64 (s.2.2)))]] (.one (.dv [] (.bool (a1g s)))) := by
 refine ⟨a0R Tryz.func55 rfl Tryz.ntmps55 Tryz.results55 rfl (fun C => ?_)⟩
 refine yF 0 0 rfl rfl fun f0_0 => ?_
 refine yF 0 1 rfl rfl fun f0_1 => ?_
 refine yF 0 2 rfl rfl fun f0_2 => ?_
 iterate 9 refine z ?_
 refine a1f (ι := Nat) (fun zz => ⟨[(1, .box 1 0), (3, .one (.dv [] (.int .i64 ((zz : Int)))))], [(1, 60, [(.dv [] (.str (s.1))), (.dv [] (a0x (s.2.1))), (.dv [] (.int .i64 (s.2.2)))])], []⟩) (fun zz => zz ≤ s.2.1.length ∧ (List.range zz).all (fun i => !a3U s i) = true) (fun zz => s.2.1.length - zz) (0) ?_ (a0e ⟨rfl, rfl, trivial⟩ ⟨rfl, trivial⟩ trivial rfl) (fun zz hx => ?_)
 ·exact ⟨Nat.zero_le _, rfl⟩
 obtain ⟨k, rfl⟩ : ∃ v, v = zz := ⟨_, rfl⟩
 replace hx : k ≤ s.2.1.length ∧ (List.range k).all (fun i => !a3U s i) = true := hx
 obtain ⟨hk, hall⟩ := hx
 show Ok _ _ _ _ _ (⟨[(1, .box 1 0), (3, .one (.dv [] (.int .i64 ((k : Int)))))], [(1, 60, [(.dv [] (.str (s.1))), (.dv [] (a0x (s.2.1))), (.dv [] (.int .i64 (s.2.2)))])], []⟩ : St)
 iterate 8 refine z ?_
 refine yQ rfl (fun c1 => ?_) fun c1 => ?_
 ·have d1 := of_decide_eq_true c1
  iterate 4 refine z ?_
  refine a0p ?_
  refine a1L (oB := [1]) (oK := []) (by kernel_rfl) rfl rfl ?_
  refine zD 0 ?_
  refine zD 1 ?_
  refine zD 2 ?_
  refine zD 3 ?_
  refine zD 4 ?_
  refine zD 5 ?_
  refine a4u 6 rfl (by kernel_rfl) rfl rfl rfl Tryz.call89 a6H (a0g (a0a rfl) (a0t (a0d a0c (a0d a0c (a0d a0c a0s)))) a0w) rfl rfl rfl rfl ?_
  refine zD 7 ?_
  refine zD 8 ?_
  refine zDG 9 ?_
  refine zDG 10 ?_
  refine zDG 11 ?_
  refine zDG 12 ?_
  refine zDG 13 ?_
  refine zDG 14 ?_
  refine a4k 15 rfl (by kernel_rfl) (a1p rfl rfl rfl rfl rfl) rfl rfl Tryz.call90 a7H (fun hg => (a0g (a0z rfl hg) (a0t (a0d a0c a0s)) a0w)) rfl rfl ?_
  refine zDG 16 ?_
  refine zD 17 ?_
  refine zD 18 ?_
  refine zDG 19 ?_
  refine zDG 20 ?_
  refine zDG 21 ?_
  refine zDG 22 ?_
  refine zDG 23 ?_
  refine zDG 24 ?_
  refine zDG 25 ?_
  refine zDG 26 ?_
  refine zDG 27 ?_
  refine zDG 28 ?_
  refine zDG 29 ?_
  refine zDG 30 ?_
  refine zDG 31 ?_
  refine zDG 32 ?_
  refine zDG 33 ?_
  refine zDG 34 ?_
  refine a4k 35 rfl (by kernel_rfl) (a3s rfl rfl rfl rfl rfl) rfl rfl Tryz.call91 a9s (fun hg => (a0g (a0z rfl hg) (a0t (a0d a0c (a0d a0c (a0d a0c a0s)))) (a0g (a0z rfl hg) (a0t (a0d a0c (a0d a0c (a0d a0c a0s)))) a0w))) rfl rfl ?_
  refine zDG 36 ?_
  refine zDG 37 ?_
  refine zD 38 ?_
  refine a2l (by kernel_rfl) ?_
  refine z ?_
  refine yQ rfl (fun c2 => ?_) fun c2 => ?_
  ·iterate 10 refine z ?_
   rw [a1g, a7C (k := k) (by omega) (by have h : a3U s k = true := c2; simpa using h)]; rfl
  ·iterate 3 refine z ?_
   refine a0o ?_
   iterate 4 refine z ?_
   refine ⟨k + 1, ?_, ?_, a0e ⟨rfl, rfl, trivial⟩ ⟨rfl, trivial⟩ trivial rfl⟩
   ·exact ⟨by omega, a3F hall (by have h : a3U s k = false := c2; simpa using h)⟩
   ·omega
 ·have d1 := of_decide_eq_false c1
  iterate 8 refine z ?_
  refine zC Tryz.call57 ?_ (hf := a8g)
  iterate 9 refine z ?_
  refine a1A (a1p rfl rfl rfl rfl rfl) rfl rfl Tryz.call59 a6V (fun hg => (a0g (a0z rfl hg) (a0I a0c) (a0g (a0n (a0m rfl)) (a0I a0c) (a0g (a0n (a0m rfl)) (a0I a0c) a0w)))) rfl rfl ?_
  iterate 5 refine z ?_
  obtain rfl : k = s.2.1.length := by omega
  rw [a1g, hall]; rfl
theorem c3j {y : a0O} {k : a0Y}  : PFn Tryz.prog 121 [.agg [(.dv [] (.int .i64 (y.1.1))), (.dv [] (.int .i64 (y.1.2.1))), (.dv [] (.str (y.1.2.2))), (.dv [] (a0L (y.2)))], .ref [] [.int .i64 (k.1), .int .i64 (k.2.1), .str (k.2.2)]] (.one (.dv [] (.bool (kEq y.1 k)))) := by
 refine ⟨a0R Tryz.func121 rfl Tryz.ntmps121 Tryz.results121 rfl (fun C => ?_)⟩
 refine yF 0 0 rfl rfl fun f0_0 => ?_
 refine yF 0 1 rfl rfl fun f0_1 => ?_
 refine yF 0 2 rfl rfl fun f0_2 => ?_
 refine yF 0 3 rfl rfl fun f0_3 => ?_
 iterate 8 refine z ?_
 refine yO rfl rfl (a5A rfl (a0a rfl) (a0a rfl) rfl rfl Tryz.eqGuardType63 (b1V _ _ _ _ _ _)) rfl ?_
 iterate 4 refine z ?_
 rfl
theorem c0I {x : List a0O} {k : a0Y}  : PFn Tryz.prog 120 [.one (.dv [] (a0x (x))), .fn 121 [[.int .i64 (k.1), .int .i64 (k.2.1), .str (k.2.2)]]] (.one (.dv [] (.int .i64 (a0j (fun y : a0O => kEq y.1 k) x 0)))) := by
 refine ⟨a0R Tryz.func120 rfl Tryz.ntmps120 Tryz.results120 rfl (fun C => ?_)⟩
 refine a1i (x := .tmp 0) (a0a rfl) fun f0 => ?_
 iterate 10 refine z ?_
 refine a1f (ι := Nat) (fun zz => ⟨[(0, .one (.dv [] (a0x (x)))), (1, .fn 121 [[.int .i64 (k.1), .int .i64 (k.2.1), .str (k.2.2)]]), (7, .one (.dv [] (.int .i64 ((((x)).length : Int))))), (8, .one (.dv [] (.int .i64 ((zz : Int)))))], [], []⟩) (fun zz => zz ≤ x.length ∧ (x.take zz).any (fun y : a0O => kEq y.1 k) = false) (fun zz => x.length - zz) (0) ?_ (a0e ⟨rfl, rfl, rfl, rfl, trivial⟩ trivial trivial rfl) (fun zz hx => ?_)
 ·exact ⟨Nat.zero_le _, rfl⟩
 obtain ⟨n, rfl⟩ : ∃ v, v = zz := ⟨_, rfl⟩
 replace hx : n ≤ x.length ∧ (x.take n).any (fun y : a0O => kEq y.1 k) = false := hx
 obtain ⟨hk, hall⟩ := hx
 show Ok _ _ _ _ _ (⟨[(0, .one (.dv [] (a0x (x)))), (1, .fn 121 [[.int .i64 (k.1), .int .i64 (k.2.1), .str (k.2.2)]]), (7, .one (.dv [] (.int .i64 ((((x)).length : Int))))), (8, .one (.dv [] (.int .i64 ((n : Int)))))], [], []⟩ : St)
 iterate 3 refine z ?_
 refine a0p ?_
 refine yQ rfl (fun c1 => ?_) fun c1 => ?_
 ·have d1 := of_decide_eq_true c1
  iterate 14 refine z ?_
  refine a7u rfl rfl rfl (a0a rfl) Tryz.call121 c3j (a0g (a0a rfl) (a0t (a0d a0c (a0d a0c (a0d a0c (a0d a0c a0s))))) a0w) rfl rfl ?_
  refine z ?_
  refine yQ rfl (fun c2 => ?_) fun c2 => ?_
  ·iterate 11 refine z ?_
   exact (a6h (p := fun y : a0O => kEq y.1 k) (d := default) hall (by omega) c2).symm
  ·iterate 3 refine z ?_
   refine a0o ?_
   iterate 3 refine z ?_
   refine ⟨n + 1, ?_, ?_, a0e ⟨rfl, rfl, rfl, rfl, trivial⟩ trivial trivial rfl⟩
   ·exact ⟨by omega, a6e (d := default) hall (by omega) c2⟩
   ·omega
 ·have d1 := of_decide_eq_false c1
  iterate 10 refine z ?_
  exact (a5V (p := fun y : a0O => kEq y.1 k) hall (by omega)).symm
theorem b1p {x : a0u} {k : a0Y}  : PFn Tryz.prog 77 [.agg [(.dv [] (.str (x.1))), (.dv [] (a0x (x.2.1))), (.dv [] (.int .i64 (x.2.2)))], .agg [(.dv [] (.int .i64 (k.1))), (.dv [] (.int .i64 (k.2.1))), (.dv [] (.str (k.2.2)))]] (.one (.dv [] (.int .i64 (a0W x k)))) := by
 refine ⟨a0R Tryz.func77 rfl Tryz.ntmps77 Tryz.results77 rfl (fun C => ?_)⟩
 refine yF 0 0 rfl rfl fun f0_0 => ?_
 refine yF 0 1 rfl rfl fun f0_1 => ?_
 refine yF 0 2 rfl rfl fun f0_2 => ?_
 refine yF 1 0 rfl rfl fun f1_0 => ?_
 refine yF 1 1 rfl rfl fun f1_1 => ?_
 refine yF 1 2 rfl rfl fun f1_2 => ?_
 iterate 8 refine z ?_
 refine yO rfl rfl (b0t rfl (a0a rfl)) rfl ?_
 refine a4i rfl rfl rfl Tryz.call120 c0I (a0g (a0a rfl) (a0I a0c) (a0g (a0a rfl) (b3d (a9P rfl rfl b0C)) a0w)) rfl rfl ?_
 iterate 4 refine z ?_
 rfl
theorem a9U {x : a0u} {k : a0Y}  : PFn Tryz.prog 97 [.agg [(.dv [] (.str (x.1))), (.dv [] (a0x (x.2.1))), (.dv [] (.int .i64 (x.2.2)))], .agg [(.dv [] (.int .i64 (k.1))), (.dv [] (.int .i64 (k.2.1))), (.dv [] (.str (k.2.2)))]] (.one (.dv [] (.int .i64 (a0W x k)))) := by
 refine ⟨a0R Tryz.func97 rfl Tryz.ntmps97 Tryz.results97 rfl (fun C => ?_)⟩
 refine yF 0 0 rfl rfl fun f0_0 => ?_
 refine yF 0 1 rfl rfl fun f0_1 => ?_
 refine yF 0 2 rfl rfl fun f0_2 => ?_
 refine yF 1 0 rfl rfl fun f1_0 => ?_
 refine yF 1 1 rfl rfl fun f1_1 => ?_
 refine yF 1 2 rfl rfl fun f1_2 => ?_
 iterate 10 refine z ?_
 refine a1f (ι := Nat) (fun zz => ⟨[(2, .box 2 0), (3, .box 3 0), (5, .one (.dv [] (.int .i64 ((zz : Int)))))], [(2, 60, [(.dv [] (.str (x.1))), (.dv [] (a0x (x.2.1))), (.dv [] (.int .i64 (x.2.2)))]), (3, 63, [(.dv [] (.int .i64 (k.1))), (.dv [] (.int .i64 (k.2.1))), (.dv [] (.str (k.2.2)))])], []⟩) (fun zz => zz ≤ x.2.1.length ∧ (x.2.1.take zz).any (fun y : a0O => kEq y.1 k) = false) (fun zz => x.2.1.length - zz) (0) ?_ (a0e ⟨rfl, rfl, rfl, trivial⟩ ⟨rfl, rfl, trivial⟩ trivial rfl) (fun zz hx => ?_)
 ·exact ⟨Nat.zero_le _, rfl⟩
 obtain ⟨n, rfl⟩ : ∃ v, v = zz := ⟨_, rfl⟩
 replace hx : n ≤ x.2.1.length ∧ (x.2.1.take n).any (fun y : a0O => kEq y.1 k) = false := hx
 obtain ⟨hk, hall⟩ := hx
 show Ok _ _ _ _ _ (⟨[(2, .box 2 0), (3, .box 3 0), (5, .one (.dv [] (.int .i64 ((n : Int)))))], [(2, 60, [(.dv [] (.str (x.1))), (.dv [] (a0x (x.2.1))), (.dv [] (.int .i64 (x.2.2)))]), (3, 63, [(.dv [] (.int .i64 (k.1))), (.dv [] (.int .i64 (k.2.1))), (.dv [] (.str (k.2.2)))])], []⟩ : St)
 iterate 8 refine z ?_
 refine yQ rfl (fun c1 => ?_) fun c1 => ?_
 ·have d1 := of_decide_eq_true c1
  iterate 4 refine z ?_
  refine a0p ?_
  refine a1L (oB := [2, 3]) (oK := []) (by kernel_rfl) rfl rfl ?_
  refine zD 0 ?_
  refine zD 1 ?_
  refine zD 2 ?_
  refine zD 3 ?_
  refine zD 4 ?_
  refine zD 5 ?_
  refine zD 6 ?_
  refine a1k 7 rfl (by kernel_rfl) rfl rfl (a5A rfl (a0a rfl) (a0a rfl) rfl rfl Tryz.eqGuardType63 (b1V _ _ _ _ _ _)) rfl rfl rfl rfl ?_
  refine a2l (by kernel_rfl) ?_
  refine z ?_
  refine yQ rfl (fun c2 => ?_) fun c2 => ?_
  ·iterate 11 refine z ?_
   exact (a6h (p := fun y : a0O => kEq y.1 k) (d := default) hall (by omega) c2).symm
  ·iterate 3 refine z ?_
   refine a0o ?_
   iterate 4 refine z ?_
   refine ⟨n + 1, ?_, ?_, a0e ⟨rfl, rfl, rfl, trivial⟩ ⟨rfl, rfl, trivial⟩ trivial rfl⟩
   ·exact ⟨by omega, a6e (d := default) hall (by omega) c2⟩
   ·omega
 ·have d1 := of_decide_eq_false c1
  iterate 10 refine z ?_
  exact (a5V (p := fun y : a0O => kEq y.1 k) hall (by omega)).symm
theorem a4J {x : a0u} (hb : a0X x ≤ 1099511627776) : KFn Tryz.prog 22 [.agg [(.dv [] (.str (x.1))), (.dv [] (a0x (x.2.1))), (.dv [] (.int .i64 (x.2.2)))]] (.agg [(.dv [] (.str (x.1))), (.key 30), (.dv [] (.int .i64 (x.2.2)))]) [(30, some (a0b false (a0x (x.2.1))))] := by
 refine ⟨a0R Tryz.func22 rfl Tryz.ntmps22 Tryz.results22 rfl (fun C => ?_)⟩
 refine yF 0 0 rfl rfl fun f0_0 => ?_
 refine yF 0 1 rfl rfl fun f0_1 => ?_
 refine yF 0 2 rfl rfl fun f0_2 => ?_
 iterate 9 refine z ?_
 refine yO rfl rfl (a1F hT hB rfl rfl rfl (a1b (a0a rfl) rfl rfl rfl rfl rfl (a1b (a0a rfl) rfl rfl rfl rfl rfl a1E))) rfl ?_
 iterate 3 refine z ?_
 refine a0p ?_
 refine a0p ?_
 refine a0h (a3a 30 (b := 3) (i := 1) (e := 93) (sz := 4) rfl rfl rfl rfl rfl) ?_
 simp only [a0l, a0i, SV.kill, CV.kill, kk, Nat.reduceBEq]
 refine a0o ?_
 iterate 6 refine z ?_
 refine a1f (ι := Nat) (fun zz => ⟨[(2, .box 2 0), (3, .box 3 0), (12, .one (.dv [] (a0x (x.2.1)))), (13, .one (.dv [] (.int .i64 ((((x.2.1)).length : Int))))), (14, .one (.dv [] (.int .i64 ((zz : Int)))))], [(2, 60, [(.dv [] (.str (ByteArray.empty))), .nil, (.dv [] (.int .i64 (0)))]), (3, 60, [(.dv [] (.str (x.1))), (.key 30), (.dv [] (.int .i64 (x.2.2)))])], [(30, some (a0b false (.sl 93 4 ((x.2.1.take zz).length) ((x.2.1.take zz).flatMap a0K))))]⟩) (fun zz => zz ≤ x.2.1.length) (fun zz => x.2.1.length - zz) (0) ?_ (a0e ⟨rfl, rfl, rfl, rfl, rfl, trivial⟩ ⟨rfl, rfl, trivial⟩ ⟨rfl, trivial⟩ rfl) (fun zz hx => ?_)
 ·exact Nat.zero_le _
 obtain ⟨k, rfl⟩ : ∃ v, v = zz := ⟨_, rfl⟩
 replace hx : k ≤ x.2.1.length := hx
 have hw := fun h => a3j a1S x.2.1 k h
 show Ok _ _ _ _ _ (⟨[(2, .box 2 0), (3, .box 3 0), (12, .one (.dv [] (a0x (x.2.1)))), (13, .one (.dv [] (.int .i64 ((((x.2.1)).length : Int))))), (14, .one (.dv [] (.int .i64 ((k : Int)))))], [(2, 60, [(.dv [] (.str (ByteArray.empty))), .nil, (.dv [] (.int .i64 (0)))]), (3, 60, [(.dv [] (.str (x.1))), (.key 30), (.dv [] (.int .i64 (x.2.2)))])], [(30, some (a0b false (.sl 93 4 ((x.2.1.take k).length) ((x.2.1.take k).flatMap a0K))))]⟩ : St)
 iterate 3 refine z ?_
 refine a0p ?_
 refine yQ rfl (fun c1 => ?_) fun c1 => ?_
 ·have d1 := of_decide_eq_true c1
  have hk2 : k < x.2.1.length := by omega
  have hlen : x.2.1.length ≤ 1099511627776 := by have h3 : a0X x = x.1.size + (x.2.1.length + a0D a1S x.2.1) := rfl; omega
  have hrec : a1S (x.2.1.getD (k : Int).toNat default) ≤ 1099511627776 := by have := hw hk2; have h3 : a0X x = x.1.size + (x.2.1.length + a0D a1S x.2.1) := rfl; omega
  iterate 10 refine z ?_
  refine a3G [0, 1, 2, 3, 4] (oB := [2, 3, 5]) (oK := [30]) (by kernel_rfl) rfl rfl ?_
  refine zD 0 ?_
  refine zD 1 ?_
  refine zD 2 ?_
  refine a3f 21000 3 rfl (by kernel_rfl) rfl rfl rfl Tryz.call45 (b5u (by first | omega | exact Nat.le_trans (a6b _) hrec | exact Nat.le_trans (a6b _) (Nat.le_trans hrec (by decide)))) (a0g (a0a rfl) (a0t (a0d a0c (a0d a0c (a0d a0c (a0d a0c a0s))))) a0w) rfl rfl rfl rfl rfl ?_
  refine a4o (k := 22) (js := [28003]) 4 hT rfl (by kernel_rfl) rfl rfl rfl rfl rfl rfl rfl rfl rfl (a0a rfl) rfl rfl (a0q (a0B rfl) (a0q (a0B rfl) (a0q (a0B rfl) (a0q (a2b rfl) a1t rfl) rfl) rfl) rfl) (by decide) (by decide) rfl rfl (by decide) ?_
  simp only [a0l, a0i, SV.kill, CV.kill, kk, Nat.reduceBEq]
  refine a2B [5, 6, 7] rfl rfl (by kernel_rfl) ?_
  refine a2z (k := 30) (j := 22) (cs := (x.2.1.take (k + 1)).flatMap a0K) (n := (x.2.1.take (k + 1)).length) hT rfl rfl rfl rfl rfl rfl rfl (a0a rfl) rfl rfl rfl (a0a rfl) rfl rfl (by decide) (by dsimp only [a0b]; simp only [List.length_take]; omega) (by dsimp only [a0b]; simp only [List.length_take]; omega) ((a9E hk2).2) ((a9E hk2).1) ?_
  simp only [a0l, a0i, SV.kill, CV.kill, kk, Nat.reduceBEq]
  iterate 2 refine z ?_
  refine a1z ?_
  iterate 2 refine z ?_
  refine a0o ?_
  iterate 3 refine z ?_
  refine ⟨k + 1, ?_, ?_, a0e ⟨rfl, rfl, rfl, rfl, rfl, trivial⟩ ⟨rfl, rfl, trivial⟩ ⟨rfl, trivial⟩ rfl⟩
  ·omega
  ·omega
 ·have d1 := of_decide_eq_false c1
  iterate 9 refine z ?_
  refine a0h (σ' := ⟨[(2, .box 2 0)], [(2, 60, [(.dv [] (.str (x.1))), (.key 30), (.dv [] (.int .i64 (x.2.2)))])], [(30, some (a0b false (a0x (x.2.1))))]⟩) (a0e ⟨rfl, trivial⟩ ⟨rfl, trivial⟩ ⟨(congrArg (fun l : List a0O => some (some (KC.mk false 93 4 l.length (l.flatMap a0K)))) (List.take_of_length_le (by omega))), trivial⟩ rfl) ?_
  refine z ?_
  refine a1x (a0C hT rfl rfl rfl rfl) ?_
  exact ⟨rfl, rfl⟩
theorem a5W {x : a0u} (hb : a0X x ≤ 1099511627776) : KFn Tryz.prog 54 [.agg [(.dv [] (.str (x.1))), (.dv [] (a0x (x.2.1))), (.dv [] (.int .i64 (x.2.2)))]] (.agg [(.dv [] (.str (x.1))), (.key 30), (.dv [] (.int .i64 (x.2.2)))]) [(30, some (a0b false (a0x (x.2.1))))] := by
 refine ⟨a0R Tryz.func54 rfl Tryz.ntmps54 Tryz.results54 rfl (fun C => ?_)⟩
 refine yF 0 0 rfl rfl fun f0_0 => ?_
 refine yF 0 1 rfl rfl fun f0_1 => ?_
 refine yF 0 2 rfl rfl fun f0_2 => ?_
 iterate 9 refine z ?_
 refine yO rfl rfl (a1F hT hB rfl rfl rfl (a1b (a0a rfl) rfl rfl rfl rfl rfl (a1b (a0a rfl) rfl rfl rfl rfl rfl a1E))) rfl ?_
 iterate 3 refine z ?_
 refine a0p ?_
 refine a0p ?_
 refine a0h (a3a 30 (b := 3) (i := 1) (e := 93) (sz := 4) rfl rfl rfl rfl rfl) ?_
 simp only [a0l, a0i, SV.kill, CV.kill, kk, Nat.reduceBEq]
 refine a0o ?_
 iterate 3 refine z ?_
 refine a1f (ι := Nat) (fun zz => ⟨[(1, .box 1 0), (2, .box 2 0), (3, .box 3 0), (4, .one (.dv [] (.int .i64 ((zz : Int)))))], [(1, 60, [(.dv [] (.str (x.1))), (.dv [] (a0x (x.2.1))), (.dv [] (.int .i64 (x.2.2)))]), (2, 60, [(.dv [] (.str (ByteArray.empty))), .nil, (.dv [] (.int .i64 (0)))]), (3, 60, [(.dv [] (.str (x.1))), (.key 30), (.dv [] (.int .i64 (x.2.2)))])], [(30, some (a0b false (.sl 93 4 ((x.2.1.take zz).length) ((x.2.1.take zz).flatMap a0K))))]⟩) (fun zz => zz ≤ x.2.1.length) (fun zz => x.2.1.length - zz) (0) ?_ (a0e ⟨rfl, rfl, rfl, rfl, trivial⟩ ⟨rfl, rfl, rfl, trivial⟩ ⟨rfl, trivial⟩ rfl) (fun zz hx => ?_)
 ·exact Nat.zero_le _
 obtain ⟨k, rfl⟩ : ∃ v, v = zz := ⟨_, rfl⟩
 replace hx : k ≤ x.2.1.length := hx
 have hw := fun h => a3j a1S x.2.1 k h
 show Ok _ _ _ _ _ (⟨[(1, .box 1 0), (2, .box 2 0), (3, .box 3 0), (4, .one (.dv [] (.int .i64 ((k : Int)))))], [(1, 60, [(.dv [] (.str (x.1))), (.dv [] (a0x (x.2.1))), (.dv [] (.int .i64 (x.2.2)))]), (2, 60, [(.dv [] (.str (ByteArray.empty))), .nil, (.dv [] (.int .i64 (0)))]), (3, 60, [(.dv [] (.str (x.1))), (.key 30), (.dv [] (.int .i64 (x.2.2)))])], [(30, some (a0b false (.sl 93 4 ((x.2.1.take k).length) ((x.2.1.take k).flatMap a0K))))]⟩ : St)
 iterate 8 refine z ?_
 refine yQ rfl (fun c1 => ?_) fun c1 => ?_
 ·have d1 := of_decide_eq_true c1
  have hk2 : k < x.2.1.length := by omega
  have hlen : x.2.1.length ≤ 1099511627776 := by have h3 : a0X x = x.1.size + (x.2.1.length + a0D a1S x.2.1) := rfl; omega
  have hrec : a1S (x.2.1.getD (k : Int).toNat default) ≤ 1099511627776 := by have := hw hk2; have h3 : a0X x = x.1.size + (x.2.1.length + a0D a1S x.2.1) := rfl; omega
  iterate 4 refine z ?_
  refine a3G [0, 1, 2, 3, 4, 5, 6, 7, 8] (oB := [1, 2, 3]) (oK := [30]) (by kernel_rfl) rfl rfl ?_
  refine zD 0 ?_
  refine zD 1 ?_
  refine zD 2 ?_
  refine zD 3 ?_
  refine zD 4 ?_
  refine zD 5 ?_
  refine zD 6 ?_
  refine a3f 24000 7 rfl (by kernel_rfl) rfl rfl rfl Tryz.call88 (b2C (by first | omega | exact Nat.le_trans (a6b _) hrec | exact Nat.le_trans (a6b _) (Nat.le_trans hrec (by decide)))) (a0g (a0a rfl) (a0t (a0d a0c (a0d a0c (a0d a0c (a0d a0c a0s))))) a0w) rfl rfl rfl rfl rfl ?_
  refine a4o (k := 25) (js := [31003]) 8 hT rfl (by kernel_rfl) rfl rfl rfl rfl rfl rfl rfl rfl rfl (a0a rfl) rfl rfl (a0q (a0B rfl) (a0q (a0B rfl) (a0q (a0B rfl) (a0q (a2b rfl) a1t rfl) rfl) rfl) rfl) (by decide) (by decide) rfl rfl (by decide) ?_
  simp only [a0l, a0i, SV.kill, CV.kill, kk, Nat.reduceBEq]
  refine a2B [9, 10, 11] rfl rfl (by kernel_rfl) ?_
  refine a2z (k := 30) (j := 25) (cs := (x.2.1.take (k + 1)).flatMap a0K) (n := (x.2.1.take (k + 1)).length) hT rfl rfl rfl rfl rfl rfl rfl (a0a rfl) rfl rfl rfl (a0a rfl) rfl rfl (by decide) (by dsimp only [a0b]; simp only [List.length_take]; omega) (by dsimp only [a0b]; simp only [List.length_take]; omega) ((a9E hk2).2) ((a9E hk2).1) ?_
  simp only [a0l, a0i, SV.kill, CV.kill, kk, Nat.reduceBEq]
  iterate 2 refine z ?_
  refine a1z ?_
  iterate 2 refine z ?_
  refine a0o ?_
  iterate 4 refine z ?_
  refine ⟨k + 1, ?_, ?_, a0e ⟨rfl, rfl, rfl, rfl, trivial⟩ ⟨rfl, rfl, rfl, trivial⟩ ⟨rfl, trivial⟩ rfl⟩
  ·omega
  ·omega
 ·have d1 := of_decide_eq_false c1
  iterate 9 refine z ?_
  refine a0h (σ' := ⟨[(2, .box 2 0)], [(2, 60, [(.dv [] (.str (x.1))), (.key 30), (.dv [] (.int .i64 (x.2.2)))])], [(30, some (a0b false (a0x (x.2.1))))]⟩) (a0e ⟨rfl, trivial⟩ ⟨rfl, trivial⟩ ⟨(congrArg (fun l : List a0O => some (some (KC.mk false 93 4 l.length (l.flatMap a0K)))) (List.take_of_length_le (by omega))), trivial⟩ rfl) ?_
  refine z ?_
  refine a1x (a0C hT rfl rfl rfl rfl) ?_
  exact ⟨rfl, rfl⟩
end Go.Proofs.YtjkpoekgnmgofaaGreat

namespace Go.Proofs.YtjkpoekgnmgofaaGreat
open Go.RowKit
open Go.Proofs
set_option linter.unusedVariables false
set_option linter.unusedSimpArgs false

def a2n (k : a0Y) : List a0O → Nat
 | [] => 0
 | y :: ys => if a2E y.1 k < 0 then a2n k ys + 1 else 0
def a2p (l : List a0O) (i : Nat) (r : a0A) : List a0O := l.set i ((l.getD i default).1, r)
def a2U (x : a0u) (k : a0Y) : Int := if decide (k.1 = 1) && (decide (x.2.2 + 1 ≤ k.2.1) && decide (k.2.1 ≤ 1000000)) then k.2.1 else x.2.2
def a0S (x : a0u) (k : a0Y) (r : a0A) : a0u × Bool :=
 if !a1g x || !a1n k || !a1l r then (x, false)
 else if 0 ≤ a0W x k then ((x.1, a2p x.2.1 (a0W x k).toNat r, x.2.2), true)
 else if 16 ≤ x.2.1.length then (x, false)
 else ((x.1, a2a x.2.1 (a2n k x.2.1) (k, r), a2U x k), true)
theorem a5m {x : a0u} {k : a0Y} (h : 0 ≤ a0W x k) : a0W x k < x.2.1.length := by
 rcases a6J (p := fun y : a0O => kEq y.1 k) x.2.1 0 (by omega) with h1 | h1
 ·unfold a0W; omega
 ·unfold a0W at h; omega
theorem c2b {x : a0u} {k : a0Y} {r : a0A} (h : (!a1g x || !a1n k) = true) : a0S x k r = (x, false) := by
 rw [a0S, if_pos (by rw [h]; rfl)]
theorem b1E {l : List a0O} {i : Nat} {r : a0A} : (a2p l i r).length = l.length := by simp [a2p]
theorem b3O (l : List a0O) : (l.flatMap a0K).length = l.length * 4 := by
 induction l with
 | nil => rfl
 | cons x l ih => rw [List.flatMap_cons, List.length_append, ih, List.length_cons]; show 4 + l.length * 4 = (l.length + 1) * 4; omega
theorem b2J {l : List a0O} {j : Nat} (h : j < l.length) : l.drop j = l.getD j default :: l.drop (j + 1) := by
 rw [List.drop_eq_getElem_cons h]
 simp [List.getD, List.getElem?_eq_getElem h]
theorem b5z {k : a0Y} {l : List a0O} {j : Nat} (hp : a2n k l = j + a2n k (l.drop j)) (h : (decide ((j : Int) < (l.length : Int)) && decide (a2E (l.getD (j : Int).toNat default).1 k < 0)) = true) : j < l.length ∧ a2n k l = (j + 1) + a2n k (l.drop (j + 1)) := by
 obtain ⟨h1, h2⟩ := (Bool.and_eq_true _ _ ▸ h : _ ∧ _)
 have h1 := of_decide_eq_true h1
 have h2 := of_decide_eq_true h2
 rw [Int.toNat_natCast] at h2
 have h3 : j < l.length := by omega
 refine ⟨h3, ?_⟩
 rw [hp, b2J h3, a2n, if_pos h2]
 omega
theorem b6b {k : a0Y} {l : List a0O} {j : Nat} (hj : j ≤ l.length) (hp : a2n k l = j + a2n k (l.drop j)) (h : (decide ((j : Int) < (l.length : Int)) && decide (a2E (l.getD (j : Int).toNat default).1 k < 0)) = false) : a2n k l = j := by
 rcases Nat.lt_or_ge j l.length with h3 | h3
 ·rw [decide_eq_true (by omega : (j : Int) < (l.length : Int)), Bool.true_and] at h
  have h2 := of_decide_eq_false h
  rw [Int.toNat_natCast] at h2
  rw [hp, b2J h3, a2n, if_neg h2]
  omega
 ·rw [hp, List.drop_eq_nil_of_le h3, a2n]; omega
theorem b4Y {l : List a0O} {i : Nat} {r : a0A} (hi : i < l.length) : a1e (i * 4 + 3) [a0L r] (l.flatMap a0K) = (a2p l i r).flatMap a0K := by
 obtain ⟨h1, h2⟩ := a5n (enc := a0K) (sz := 4) (fun _ => rfl) i l
 have e : l.flatMap a0K = (l.take i).flatMap a0K ++ (a0K (l.getD i default) ++ (l.drop (i + 1)).flatMap a0K) := by
  rw [← List.flatMap_cons, ← b2J hi, ← List.flatMap_append, List.take_append_drop]
 have e2 : (a2p l i r).flatMap a0K = (l.take i).flatMap a0K ++ (a0K ((l.getD i default).1, r) ++ (l.drop (i + 1)).flatMap a0K) := by
  rw [a2p, List.set_eq_take_append_cons_drop, if_pos hi, List.flatMap_append, List.flatMap_cons]
 have hl : ((l.take i).flatMap a0K).length = i * 4 := by rw [b3O, List.length_take]; omega
 rw [e, e2]
 exact a3X (pre := (l.take i).flatMap a0K) (B := a0K (l.getD i default)) (B' := a0K ((l.getD i default).1, r)) (post := (l.drop (i + 1)).flatMap a0K) (m := i * 4) (off := i * 4 + 3) (j := 3) hl rfl rfl (Nat.le_refl _)
def a6G (p : Option a0Y) (k : a0Y) : Bool := match p with | none => true | some q => decide (a2E q k < 0)
def okL : Option a0Y → List a0O → Bool
 | _, [] => true
 | p, y :: ys => a1n y.1 && a1l y.2 && a6G p y.1 && okL (some y.1) ys
def a7X (p : Option a0Y) (l : List a0O) (i : Nat) : Bool := (!a1n (l.getD i default).1 || !a1l (l.getD i default).2) || !(a6G (if i = 0 then p else some (l.getD (i - 1) default).1) (l.getD i default).1)
theorem b8I : ∀ (l : List a0O) (p : Option a0Y), okL p l = (List.range l.length).all (fun i => !a7X p l i)
 | [], _ => rfl
 | y :: ys, p => by
  rw [okL, b8I ys (some y.1), List.length_cons, List.range_succ_eq_map, List.all_cons, List.all_map]
  congr 1
  ·simp [a7X]
  ·congr 1
   funext i
   cases i with
   | zero => simp [a7X]
   | succ i => simp [a7X]
theorem a9H (s : a0u) : a1g s = (okL none s.2.1 && (a2h s.1 && decide ((s.2.1.length : Int) ≤ 16) && (decide ((0 : Int) ≤ s.2.2) && decide (s.2.2 ≤ 1000000)))) := by
 rw [a1g, b8I]
 congr 2
 funext i
 cases i with
 | zero => simp [a3U, a7X, a6G]
 | succ i =>
  have e : (((i + 1 : Nat) : Int) - 1).toNat = i := by omega
  have e2 : (((i + 1 : Nat) : Int)).toNat = i + 1 := by omega
  have e3 : decide ((0 : Int) < ((i + 1 : Nat) : Int)) = true := decide_eq_true (by omega)
  simp only [a3U, a7X, a6G, e, e2, e3, Bool.true_and, Nat.succ_ne_zero, if_false, Nat.add_sub_cancel]
  congr 2
  by_cases h : a2E (s.2.1.getD i default).1 (s.2.1.getD (i + 1) default).1 < 0
  ·rw [decide_eq_true h, decide_eq_false (by omega)]; rfl
  ·rw [decide_eq_false h, decide_eq_true (by omega)]; rfl
theorem c2R {a b : Str} (h : a4C a b = 0) : sEq a b = true := by
 have e := a6K a b
 unfold a4C at h
 cases h1 : sLt a b <;> cases h2 : sLt b a <;> simp_all
theorem c0z {a b : a0Y} (ha : a1n a = true) (hb : a1n b = true) (h : a2E a b = 0) : kEq a b = true := by
 have hg : (!a1n a || !a1n b) = false := by rw [ha, hb]; rfl
 by_cases h1 : a.1 = b.1
 ·by_cases h2 : a.2.1 = b.2.1
  ·rw [a8E hg h1 h2] at h
   rw [kEq, decide_eq_true h1, decide_eq_true h2, c2R h]; rfl
  ·rw [a9m hg h1 h2] at h; exact absurd (a7A.1 h) h2
 ·rw [a9f hg h1] at h; exact absurd (a7A.1 h) h1
theorem b6q {k : a0Y} {r : a0A} (hk : a1n k = true) : ∀ (l : List a0O) (p : Option a0Y), okL p l = true → l.any (fun y : a0O => kEq y.1 k) = false → a6G p k = true → okL p (a2a l (a2n k l) (k, r)) = a1l r
 | [], p, _, _, hp => by simp [a2a, a2n, okL, hk, hp]
 | y :: ys, p, hl, hn, hp => by
  simp only [okL, Bool.and_eq_true] at hl
  obtain ⟨⟨⟨h1, h2⟩, h3⟩, h4⟩ := hl
  simp only [List.any_cons, Bool.or_eq_false_iff] at hn
  by_cases hc : a2E y.1 k < 0
  ·have ih := b6q (r := r) hk ys (some y.1) h4 hn.2 (by simpa [a6G] using hc)
   rw [a2n, if_pos hc]
   have e : a2a (y :: ys) (a2n k ys + 1) (k, r) = y :: a2a ys (a2n k ys) (k, r) := by simp [a2a]
   rw [e, okL, h1, h2, h3, ih]; rfl
  ·rw [a2n, if_neg hc]
   have e : a2a (y :: ys) 0 (k, r) = (k, r) :: y :: ys := by simp [a2a]
   have h0 : ¬ a2E y.1 k = 0 := fun h => by
    have := c0z h1 hk h
    rw [hn.1] at this; cases this
   have hs := a8Z k y.1
   rw [e, okL, okL, hk, hp, h1, h2, h4]
   have : a6G (some k) y.1 = true := by simp only [a6G, decide_eq_true_eq]; omega
   rw [this]; simp
theorem b6k {r : a0A} : ∀ (l : List a0O) (p : Option a0Y) (i : Nat), okL p l = true → i < l.length → okL p (a2p l i r) = a1l r
 | [], _, _, _, h => by simp at h
 | y :: ys, p, 0, hl, _ => by
  simp only [okL, Bool.and_eq_true] at hl
  obtain ⟨⟨⟨h1, h2⟩, h3⟩, h4⟩ := hl
  simp [a2p, okL, h1, h3, h4]
 | y :: ys, p, i + 1, hl, h => by
  simp only [okL, Bool.and_eq_true] at hl
  obtain ⟨⟨⟨h1, h2⟩, h3⟩, h4⟩ := hl
  have ih := b6k (r := r) ys (some y.1) i h4 (by simpa using h)
  have e : a2p (y :: ys) (i + 1) r = y :: a2p ys i r := by simp [a2p]
  rw [e, okL, h1, h2, h3, ih]; rfl
theorem b6w {α : Type} {p : α → Bool} : ∀ (xs : List α) (i : Int), 0 ≤ i → a0j p xs i < 0 → xs.any p = false
 | [], _, _, _ => rfl
 | x :: xs, i, hi, h => by
  rw [a0j] at h
  split at h
  ·omega
  ·rename_i hp
   rw [List.any_cons, b6w xs (i + 1) (by omega) h]
   simpa using hp
theorem b3m {x : a0u} {i : Nat} {r : a0A} (hs : a1g x = true) (hi : i < x.2.1.length) : a1g (x.1, a2p x.2.1 i r, x.2.2) = a1l r := by
 rw [a9H] at hs ⊢
 simp only [Bool.and_eq_true] at hs
 obtain ⟨h1, ⟨h2, h3⟩, h4, h5⟩ := hs
 simp only [b1E, b6k _ _ _ h1 hi, h2, h3, h4, h5, Bool.and_self, Bool.and_true]
theorem b2x {x : a0u} {k : a0Y} {r : a0A} {a : Int} (hs : a1g x = true) (hk : a1n k = true) (hf : a0W x k < 0) (ha : 0 ≤ a ∧ a ≤ 1000000) : a1g (x.1, a2a x.2.1 (a2n k x.2.1) (k, r), a) = (a1l r && decide (x.2.1.length < 16)) := by
 rw [a9H] at hs ⊢
 simp only [Bool.and_eq_true] at hs
 obtain ⟨h1, ⟨h2, h3⟩, h4, h5⟩ := hs
 simp only [a8v, b6q hk _ _ h1 (b6w _ 0 (by omega) hf) rfl, h2, decide_eq_true ha.1, decide_eq_true ha.2, Bool.and_self, Bool.and_true, Bool.true_and]
 congr 1
 exact decide_eq_decide.2 (by omega)
theorem b0i {a b : Bool} (h : (!a || !b) = false) : a = true ∧ b = true := by cases a <;> cases b <;> simp_all
theorem c2x {x : a0u} {k : a0Y} {r : a0A} (h : (!a1g x || !a1n k) = false) (hf : 0 ≤ a0W x k) (ho : (!a1g (x.1, a2p x.2.1 (a0W x k).toNat r, x.2.2)) = true) : a0S x k r = (x, false) := by
 obtain ⟨h1, h2⟩ := b0i h
 have hl := a5m hf
 rw [b3m h1 (by omega)] at ho
 rw [a0S, if_pos (by rw [ho]; simp)]
theorem c3U {x : a0u} {k : a0Y} {r : a0A} (h : (!a1g x || !a1n k) = false) (hf : 0 ≤ a0W x k) (ho : (!a1g (x.1, a2p x.2.1 (a0W x k).toNat r, x.2.2)) = false) : a0S x k r = ((x.1, a2p x.2.1 (a0W x k).toNat r, x.2.2), true) := by
 obtain ⟨h1, h2⟩ := b0i h
 have hl := a5m hf
 rw [b3m h1 (by omega)] at ho
 rw [a0S, if_neg (by rw [h, ho]; simp), if_pos hf]
theorem b1F {x : a0u} {k : a0Y} (hs : a1g x = true) : 0 ≤ a2U x k ∧ a2U x k ≤ 1000000 := by
 rw [a9H] at hs
 simp only [Bool.and_eq_true, decide_eq_true_eq] at hs
 unfold a2U
 split
 ·rename_i h
  simp only [Bool.and_eq_true, decide_eq_true_eq] at h
  omega
 ·omega
theorem b4J {x : a0u} {k : a0Y} (h : (decide (k.1 = 1) && decide (x.2.2 < k.2.1) && decide (k.2.1 ≤ 1000000)) = true) : k.2.1 = a2U x k := by
 simp only [Bool.and_eq_true, decide_eq_true_eq] at h
 rw [a2U, if_pos (by simp only [Bool.and_eq_true, decide_eq_true_eq]; omega)]
theorem b4F {x : a0u} {k : a0Y} (h : (decide (k.1 = 1) && decide (x.2.2 < k.2.1) && decide (k.2.1 ≤ 1000000)) = false) : x.2.2 = a2U x k := by
 rw [a2U, if_neg]
 intro h2
 simp only [Bool.and_eq_true, decide_eq_true_eq] at h2
 rw [decide_eq_true h2.1, decide_eq_true (by omega : x.2.2 < k.2.1), decide_eq_true h2.2.2] at h
 cases h
theorem b4g {x : a0u} {k : a0Y} {r : a0A} {j : Nat} {a : Int} (h : (!a1g x || !a1n k) = false) (hf : ¬ 0 ≤ a0W x k) (hj : a2n k x.2.1 = j) (ha : a = a2U x k) (ho : (!a1g (x.1, a2a x.2.1 j (k, r), a)) = true) : a0S x k r = (x, false) := by
 obtain ⟨h1, h2⟩ := b0i h
 subst hj; subst ha
 rw [b2x h1 h2 (by omega) (b1F h1)] at ho
 rw [a0S]
 split
 ·rfl
 ·rename_i h3
  rw [if_pos]
  rw [h, Bool.false_or] at h3
  have h4 : a1l r = true := by simpa using h3
  rw [h4, Bool.true_and] at ho
  simpa using ho
theorem b4Z {x : a0u} {k : a0Y} {r : a0A} {j : Nat} {a : Int} (h : (!a1g x || !a1n k) = false) (hf : ¬ 0 ≤ a0W x k) (hj : a2n k x.2.1 = j) (ha : a = a2U x k) (ho : (!a1g (x.1, a2a x.2.1 j (k, r), a)) = false) : a0S x k r = ((x.1, a2a x.2.1 j (k, r), a), true) := by
 obtain ⟨h1, h2⟩ := b0i h
 subst hj; subst ha
 rw [b2x h1 h2 (by omega) (b1F h1)] at ho
 have ho' : a1l r = true ∧ x.2.1.length < 16 := by
  simpa using ho
 rw [a0S, if_neg (by rw [h, ho'.1]; simp), if_neg hf, if_neg (by omega)]

theorem b0d {x : a0u} {k : a0Y} {r : a0A} (hb : a0X x ≤ 1048576) (hb2 : r.length ≤ 1048576) : KFn Tryz.prog 78 [.agg [(.dv [] (.str (x.1))), (.dv [] (a0x (x.2.1))), (.dv [] (.int .i64 (x.2.2)))], .agg [(.dv [] (.int .i64 (k.1))), (.dv [] (.int .i64 (k.2.1))), (.dv [] (.str (k.2.2)))], .agg [(.dv [] (a0L (r)))]] (.tup [(true, [(.dv [] (.str ((a0S x k r).1.1))), (.key 9001), (.dv [] (.int .i64 ((a0S x k r).1.2.2)))]), (false, [(.dv [] (.bool ((a0S x k r).2)))])]) [(9001, some (a0b false (a0x ((a0S x k r).1.2.1))))] := by
 refine ⟨a0R Tryz.func78 rfl Tryz.ntmps78 Tryz.results78 rfl (fun C => ?_)⟩
 have hlen : x.2.1.length ≤ 1048576 := by have h3 : a0X x = x.1.size + (x.2.1.length + a0D a1S x.2.1) := rfl; omega
 refine yF 0 0 rfl rfl fun f0_0 => ?_
 refine yF 0 1 rfl rfl fun f0_1 => ?_
 refine yF 0 2 rfl rfl fun f0_2 => ?_
 refine yF 1 0 rfl rfl fun f1_0 => ?_
 refine yF 1 1 rfl rfl fun f1_1 => ?_
 refine yF 1 2 rfl rfl fun f1_2 => ?_
 refine yF 2 0 rfl rfl fun f2_0 => ?_
 iterate 10 refine z ?_
 refine zC Tryz.call51 ?_ (hf := a8C (s := x))
 iterate 3 refine z ?_
 refine a1A (a1p rfl rfl rfl rfl rfl) rfl rfl Tryz.call75 a6C (fun hg => (a0g (a0z rfl hg) (a0t (a0d a0c (a0d a0c (a0d a0c a0s)))) a0w)) rfl rfl ?_
 iterate 3 refine z ?_
 refine yQ rfl (fun c1 => ?_) fun c1 => ?_
 ·iterate 2 refine z ?_
  refine zK 8971 Tryz.call22 ?_ (hf := a4J (x := x) (by omega))
  iterate 3 refine z ?_
  rw [c2b c1]
  refine a0h (σ' := ⟨[(6, .box 6 0), (7, .one (.dv [] (.bool (false))))], [(6, 60, [(.dv [] (.str ((x).1))), (.key 9001), (.dv [] (.int .i64 ((x).2.2)))])], [(9001, some (a0b false (a0x (x.2.1))))]⟩) (a0e ⟨rfl, rfl, trivial⟩ ⟨rfl, trivial⟩ ⟨rfl, trivial⟩ rfl) ?_
  iterate 2 refine z ?_
  refine a1N (a0C hT rfl rfl rfl rfl) (a0v rfl) rfl rfl ?_
  first | exact ⟨rfl, rfl⟩ | skip
 ·iterate 4 refine z ?_
  refine zK 8971 Tryz.call22 ?_ (hf := a4J (x := x) (by omega))
  iterate 7 refine z ?_
  refine zC Tryz.call77 ?_ (hf := b1p)
  iterate 6 refine z ?_
  refine yQ rfl (fun c2 => ?_) fun c2 => ?_
  ·have d2 := of_decide_eq_true c2
   have hlt := a5m d2
   refine a1L (oB := [3, 4, 5, 6, 8]) (oK := [9001]) (by kernel_rfl) rfl rfl ?_
   refine zD 0 ?_
   refine zD 1 ?_
   refine zD 2 ?_
   refine zD 3 ?_
   refine a3f 9000 4 rfl (by kernel_rfl) rfl rfl rfl Tryz.call74 (a7s (by omega)) (a0g (a0a rfl) (a0t (a0d a0c a0s)) a0w) rfl rfl rfl rfl rfl ?_
   refine a1k 5 rfl (by kernel_rfl) rfl rfl (a4a (i := (a0W (x) (k)).toNat) hT rfl rfl rfl (a0a rfl) rfl (a0a rfl) (by omega) (by show _ < ((x.2.1)).length; omega)) rfl rfl rfl rfl ?_
   refine zD 6 ?_
   refine a2B [7] rfl rfl (by kernel_rfl) ?_
   refine a2Y (js := [9003]) (cs := (a2p x.2.1 (a0W x k).toNat r).flatMap a0K) hT rfl rfl rfl rfl (a0a rfl) (a0a rfl) rfl rfl rfl rfl (a0q (a2b rfl) a1t rfl) (by decide) (by decide) rfl (by show _ ≤ List.length ((x.2.1).flatMap a0K); rw [b3O]; omega) (b4Y (by omega)) ?_
   simp only [a0l, a0i, SV.kill, CV.kill, kk, Nat.reduceBEq]
   refine z ?_
   refine a0p ?_
   refine a0p ?_
   refine a0h (a4s (k := 9001) (c' := a0b false (a0x (a2p x.2.1 (a0W x k).toNat r))) rfl (congrArg (fun n => KC.mk false 93 4 n ((a2p x.2.1 (a0W x k).toNat r).flatMap a0K)) b1E.symm) rfl) ?_
   refine a0o ?_
   refine z ?_
   refine a4i rfl rfl rfl Tryz.call51 (a8C (s := (x.1, a2p x.2.1 (a0W x k).toNat r, x.2.2))) (a0g (a0a rfl) (a0t (a0d a0c (a0d (a1d rfl rfl) (a0d a0c a0s)))) a0w) rfl rfl ?_
   iterate 2 refine z ?_
   refine yQ rfl (fun c3 => ?_) fun c3 => ?_
   ·refine a0p ?_
    refine a0h (σ' := ⟨[(3, .box 3 0), (6, .box 6 0), (7, .one (.dv [] (.bool (false))))], [(3, 60, [(.dv [] (.str (x.1))), (.dv [] (a0x (x.2.1))), (.dv [] (.int .i64 (x.2.2)))]), (6, 60, [(.dv [] (.str (ByteArray.empty))), .nil, (.dv [] (.int .i64 (0)))])], []⟩) (a0e ⟨rfl, rfl, rfl, trivial⟩ ⟨rfl, rfl, trivial⟩ trivial rfl) ?_
    refine a0o ?_
    refine z ?_
    refine zK 8971 Tryz.call22 ?_ (hf := a4J (x := x) (by omega))
    iterate 3 refine z ?_
    rw [c2x c1 d2 c3]
    refine a0h (σ' := ⟨[(6, .box 6 0), (7, .one (.dv [] (.bool (false))))], [(6, 60, [(.dv [] (.str ((x).1))), (.key 9001), (.dv [] (.int .i64 ((x).2.2)))])], [(9001, some (a0b false (a0x (x.2.1))))]⟩) (a0e ⟨rfl, rfl, trivial⟩ ⟨rfl, trivial⟩ ⟨rfl, trivial⟩ rfl) ?_
    iterate 2 refine z ?_
    refine a1N (a0C hT rfl rfl rfl rfl) (a0v rfl) rfl rfl ?_
    first | exact ⟨rfl, rfl⟩ | skip
   ·iterate 7 refine z ?_
    rw [c3U c1 d2 c3]
    refine a0h (σ' := ⟨[(6, .box 6 0), (7, .one (.dv [] (.bool (true))))], [(6, 60, [(.dv [] (.str ((x).1))), (.key 9001), (.dv [] (.int .i64 ((x).2.2)))])], [(9001, some (a0b false (a0x (a2p x.2.1 (a0W x k).toNat r))))]⟩) (a0e ⟨rfl, rfl, trivial⟩ ⟨rfl, trivial⟩ ⟨rfl, trivial⟩ rfl) ?_
    refine z ?_
    refine a1N (a0C hT rfl rfl rfl rfl) (a0v rfl) rfl rfl ?_
    first | exact ⟨rfl, rfl⟩ | skip
  ·have d2 := of_decide_eq_false c2
   iterate 5 refine z ?_
   refine a1f (ι := Nat) (fun zz => ⟨[(3, .box 3 0), (4, .box 4 0), (5, .box 5 0), (6, .box 6 0), (7, .one (.dv [] (.bool (false)))), (8, .box 8 0), (10, .one (.dv [] (.int .i64 ((zz : Int)))))], [(3, 60, [(.dv [] (.str (x.1))), (.dv [] (a0x (x.2.1))), (.dv [] (.int .i64 (x.2.2)))]), (4, 63, [(.dv [] (.int .i64 (k.1))), (.dv [] (.int .i64 (k.2.1))), (.dv [] (.str (k.2.2)))]), (5, 66, [(.dv [] (a0L (r)))]), (6, 60, [(.dv [] (.str (ByteArray.empty))), .nil, (.dv [] (.int .i64 (0)))]), (8, 60, [(.dv [] (.str ((x).1))), (.key 9001), (.dv [] (.int .i64 ((x).2.2)))])], [(9001, some (a0b false (.sl 93 4 (x.2.1.length) (x.2.1.flatMap a0K))))]⟩) (fun zz => zz ≤ x.2.1.length ∧ a2n k x.2.1 = zz + a2n k (x.2.1.drop zz)) (fun zz => x.2.1.length - zz) (0) ?_ (a0e ⟨rfl, rfl, rfl, rfl, rfl, rfl, rfl, trivial⟩ ⟨rfl, rfl, rfl, rfl, rfl, trivial⟩ ⟨rfl, trivial⟩ rfl) (fun zz hx => ?_)
   ·exact ⟨Nat.zero_le _, by simp⟩
   obtain ⟨j, rfl⟩ : ∃ v, v = zz := ⟨_, rfl⟩
   replace hx : j ≤ x.2.1.length ∧ a2n k x.2.1 = j + a2n k (x.2.1.drop j) := hx
   obtain ⟨hj, hp⟩ := hx
   show Ok _ _ _ _ _ (⟨[(3, .box 3 0), (4, .box 4 0), (5, .box 5 0), (6, .box 6 0), (7, .one (.dv [] (.bool (false)))), (8, .box 8 0), (10, .one (.dv [] (.int .i64 ((j : Int)))))], [(3, 60, [(.dv [] (.str (x.1))), (.dv [] (a0x (x.2.1))), (.dv [] (.int .i64 (x.2.2)))]), (4, 63, [(.dv [] (.int .i64 (k.1))), (.dv [] (.int .i64 (k.2.1))), (.dv [] (.str (k.2.2)))]), (5, 66, [(.dv [] (a0L (r)))]), (6, 60, [(.dv [] (.str (ByteArray.empty))), .nil, (.dv [] (.int .i64 (0)))]), (8, 60, [(.dv [] (.str ((x).1))), (.key 9001), (.dv [] (.int .i64 ((x).2.2)))])], [(9001, some (a0b false (.sl 93 4 (x.2.1.length) (x.2.1.flatMap a0K))))]⟩ : St)
   refine a0p ?_
   refine a0p ?_
   refine a1L (oB := [3, 4, 5, 6, 8]) (oK := [9001]) (by kernel_rfl) rfl rfl ?_
   refine zD 0 ?_
   refine zD 1 ?_
   refine a1k 2 rfl (by kernel_rfl) rfl rfl (a4F (dd := a0x x.2.1) (a2H hT rfl rfl (a0a rfl) rfl rfl) rfl rfl) rfl rfl rfl rfl ?_
   refine zD 3 ?_
   refine zD 4 ?_
   refine zD 5 ?_
   refine zDG 6 ?_
   refine a7D 7 rfl (by kernel_rfl) (a1p rfl rfl rfl rfl rfl) rfl (fun hg => a4F (dd := a0x x.2.1) (a2H hT rfl rfl (a0z rfl hg) rfl rfl) rfl rfl) rfl rfl rfl rfl ?_
   refine zDG 8 ?_
   refine zDG 9 ?_
   refine zDG 10 ?_
   refine zDG 11 ?_
   refine zDG 12 ?_
   refine a4k 13 rfl (by kernel_rfl) (a1p rfl rfl rfl rfl rfl) rfl rfl Tryz.call85 a9B (fun hg => (a0g (a0z rfl hg) (a0t (a0d a0c (a0d a0c (a0d a0c a0s)))) (a0g (a0z rfl hg) (a0t (a0d a0c (a0d a0c (a0d a0c a0s)))) a0w))) rfl rfl ?_
   refine zDG 14 ?_
   refine zD 15 ?_
   refine a2l (by kernel_rfl) ?_
   refine z ?_
   refine yQ rfl (fun c4 => ?_) fun c4 => ?_
   ·have hst := b5z hp c4
    have hst1 := hst.1
    iterate 3 refine z ?_
    refine a0o ?_
    iterate 3 refine z ?_
    refine a1z ?_
    iterate 2 refine z ?_
    refine ⟨j + 1, ?_, ?_, a0e ⟨rfl, rfl, rfl, rfl, rfl, rfl, rfl, trivial⟩ ⟨rfl, rfl, rfl, rfl, rfl, trivial⟩ ⟨rfl, trivial⟩ rfl⟩
    ·exact ⟨by omega, hst.2⟩
    ·omega
   ·have hpos := b6b hj hp c4
    iterate 5 refine z ?_
    refine a0p ?_
    refine a3G [0, 1, 2, 3, 4, 5, 6, 7] (oB := [3, 4, 5, 6, 8]) (oK := [9001]) (by kernel_rfl) rfl rfl ?_
    refine zD 0 ?_
    refine zD 1 ?_
    refine zD 2 ?_
    refine zD 3 ?_
    refine zD 4 ?_
    refine a3f 9000 5 rfl (by kernel_rfl) rfl rfl rfl Tryz.call74 (a7s (by omega)) (a0g (a0a rfl) (a0t (a0d a0c a0s)) a0w) rfl rfl rfl rfl rfl ?_
    refine a1k 6 rfl (by kernel_rfl) rfl rfl (a1F hT hB rfl rfl rfl (a1b (a0a rfl) rfl rfl rfl rfl rfl (a1b (a0a rfl) rfl rfl rfl rfl rfl a1E))) rfl rfl rfl rfl ?_
    refine a4o (k := 60) (js := [9003]) 7 hT rfl (by kernel_rfl) rfl rfl rfl rfl rfl rfl rfl rfl rfl (a0a rfl) rfl rfl (a0q (a0B rfl) (a0q (a0B rfl) (a0q (a0B rfl) (a0q (a2b rfl) a1t rfl) rfl) rfl) rfl) (by decide) (by decide) rfl rfl (by decide) ?_
    simp only [a0l, a0i, SV.kill, CV.kill, kk, Nat.reduceBEq]
    refine a2B [8, 9, 10] rfl rfl (by kernel_rfl) ?_
    refine b3g (k := 9001) (j := 60) (cs := (a2a x.2.1 j (k, r)).flatMap a0K) (n := (a2a x.2.1 j (k, r)).length) (b5s rfl rfl (by decide)) rfl rfl Tryz.call122 rfl rfl (a0a rfl) rfl rfl rfl (a0a rfl) (by omega) (by dsimp only [a0b]; omega) (a0a rfl) rfl rfl rfl rfl (by decide) (by dsimp only [a0b]; omega) (by dsimp only [a0b]; omega) (by rw [a8v]) (b4e (o := x.2.1) (j := j) (y := (k, r))) ?_
    simp only [a0l, a0i, SV.kill, CV.kill, kk, Nat.reduceBEq]
    iterate 20 refine z ?_
    refine yQ rfl (fun c5 => ?_) fun c5 => ?_
    ·refine a0o ?_
     iterate 5 refine z ?_
     refine a0p ?_
     refine a0p ?_
     refine a0h (a4s (k := 9001) (c' := a0b false (a0x (a2a x.2.1 j (k, r)))) rfl (rfl) rfl) ?_
     refine a0o ?_
     refine z ?_
     refine a4i rfl rfl rfl Tryz.call51 (a8C (s := (x.1, a2a x.2.1 j (k, r), k.2.1))) (a0g (a0a rfl) (a0t (a0d a0c (a0d (a1d rfl rfl) (a0d a0c a0s)))) a0w) rfl rfl ?_
     iterate 2 refine z ?_
     refine yQ rfl (fun c6 => ?_) fun c6 => ?_
     ·refine a0p ?_
      refine a0h (σ' := ⟨[(3, .box 3 0), (6, .box 6 0), (7, .one (.dv [] (.bool (false))))], [(3, 60, [(.dv [] (.str (x.1))), (.dv [] (a0x (x.2.1))), (.dv [] (.int .i64 (x.2.2)))]), (6, 60, [(.dv [] (.str (ByteArray.empty))), .nil, (.dv [] (.int .i64 (0)))])], []⟩) (a0e ⟨rfl, rfl, rfl, trivial⟩ ⟨rfl, rfl, trivial⟩ trivial rfl) ?_
      refine a0o ?_
      refine z ?_
      refine zK 8971 Tryz.call22 ?_ (hf := a4J (x := x) (by omega))
      iterate 3 refine z ?_
      rw [b4g c1 d2 hpos (b4J c5) c6]
      refine a0h (σ' := ⟨[(6, .box 6 0), (7, .one (.dv [] (.bool (false))))], [(6, 60, [(.dv [] (.str ((x).1))), (.key 9001), (.dv [] (.int .i64 ((x).2.2)))])], [(9001, some (a0b false (a0x (x.2.1))))]⟩) (a0e ⟨rfl, rfl, trivial⟩ ⟨rfl, trivial⟩ ⟨rfl, trivial⟩ rfl) ?_
      iterate 2 refine z ?_
      refine a1N (a0C hT rfl rfl rfl rfl) (a0v rfl) rfl rfl ?_
      first | exact ⟨rfl, rfl⟩ | skip
     ·iterate 7 refine z ?_
      rw [b4Z c1 d2 hpos (b4J c5) c6]
      refine a0h (σ' := ⟨[(6, .box 6 0), (7, .one (.dv [] (.bool (true))))], [(6, 60, [(.dv [] (.str ((x).1))), (.key 9001), (.dv [] (.int .i64 (k.2.1)))])], [(9001, some (a0b false (a0x (a2a x.2.1 j (k, r)))))]⟩) (a0e ⟨rfl, rfl, trivial⟩ ⟨rfl, trivial⟩ ⟨rfl, trivial⟩ rfl) ?_
      refine z ?_
      refine a1N (a0C hT rfl rfl rfl rfl) (a0v rfl) rfl rfl ?_
      first | exact ⟨rfl, rfl⟩ | skip
    ·iterate 2 refine z ?_
     refine a0p ?_
     refine a0p ?_
     refine a0h (a4s (k := 9001) (c' := a0b false (a0x (a2a x.2.1 j (k, r)))) rfl (rfl) rfl) ?_
     refine a0o ?_
     refine z ?_
     refine a4i rfl rfl rfl Tryz.call51 (a8C (s := (x.1, a2a x.2.1 j (k, r), x.2.2))) (a0g (a0a rfl) (a0t (a0d a0c (a0d (a1d rfl rfl) (a0d a0c a0s)))) a0w) rfl rfl ?_
     iterate 2 refine z ?_
     refine yQ rfl (fun c7 => ?_) fun c7 => ?_
     ·refine a0p ?_
      refine a0h (σ' := ⟨[(3, .box 3 0), (6, .box 6 0), (7, .one (.dv [] (.bool (false))))], [(3, 60, [(.dv [] (.str (x.1))), (.dv [] (a0x (x.2.1))), (.dv [] (.int .i64 (x.2.2)))]), (6, 60, [(.dv [] (.str (ByteArray.empty))), .nil, (.dv [] (.int .i64 (0)))])], []⟩) (a0e ⟨rfl, rfl, rfl, trivial⟩ ⟨rfl, rfl, trivial⟩ trivial rfl) ?_
      refine a0o ?_
      refine z ?_
      refine zK 8971 Tryz.call22 ?_ (hf := a4J (x := x) (by omega))
      iterate 3 refine z ?_
      rw [b4g c1 d2 hpos (b4F c5) c7]
      refine a0h (σ' := ⟨[(6, .box 6 0), (7, .one (.dv [] (.bool (false))))], [(6, 60, [(.dv [] (.str ((x).1))), (.key 9001), (.dv [] (.int .i64 ((x).2.2)))])], [(9001, some (a0b false (a0x (x.2.1))))]⟩) (a0e ⟨rfl, rfl, trivial⟩ ⟨rfl, trivial⟩ ⟨rfl, trivial⟩ rfl) ?_
      iterate 2 refine z ?_
      refine a1N (a0C hT rfl rfl rfl rfl) (a0v rfl) rfl rfl ?_
      first | exact ⟨rfl, rfl⟩ | skip
     ·iterate 7 refine z ?_
      rw [b4Z c1 d2 hpos (b4F c5) c7]
      refine a0h (σ' := ⟨[(6, .box 6 0), (7, .one (.dv [] (.bool (true))))], [(6, 60, [(.dv [] (.str ((x).1))), (.key 9001), (.dv [] (.int .i64 ((x).2.2)))])], [(9001, some (a0b false (a0x (a2a x.2.1 j (k, r)))))]⟩) (a0e ⟨rfl, rfl, trivial⟩ ⟨rfl, trivial⟩ ⟨rfl, trivial⟩ rfl) ?_
      refine z ?_
      refine a1N (a0C hT rfl rfl rfl rfl) (a0v rfl) rfl rfl ?_
      first | exact ⟨rfl, rfl⟩ | skip
end Go.Proofs.YtjkpoekgnmgofaaGreat

namespace Go.Proofs.YtjkpoekgnmgofaaGreat
open Go.RowKit
open Go.Proofs
set_option linter.unusedVariables false
set_option linter.unusedSimpArgs false

theorem b9L {x : a0u} {b c : Bool} (h : (!a1g x || b || c) = false) : 0 ≤ x.2.2 ∧ x.2.2 ≤ 1000000 := by
 have hs : a1g x = true := by cases hh : a1g x <;> simp_all
 rw [a9H] at hs
 simp only [Bool.and_eq_true, decide_eq_true_eq] at hs
 omega
theorem c1w {x : a0u} {k : a0Y} {r : a0A} (h : (!a1g x || !a1n k || !a1l r) = false) (hf : 0 ≤ a0W x k) : a0S x k r = ((x.1, a2p x.2.1 (a0W x k).toNat r, x.2.2), true) := by
 rw [a0S, if_neg (by rw [h]; simp), if_pos hf]
theorem c1W {x : a0u} {k : a0Y} {r : a0A} (h : (!a1g x || !a1n k || !a1l r) = false) (hf : ¬ 0 ≤ a0W x k) (hl : (16 : Int) ≤ (x.2.1.length : Int)) : a0S x k r = (x, false) := by
 rw [a0S, if_neg (by rw [h]; simp), if_neg hf, if_pos (by omega)]
theorem b6d {x : a0u} {k : a0Y} {r : a0A} {j : Nat} {a : Int} (h : (!a1g x || !a1n k || !a1l r) = false) (hf : ¬ 0 ≤ a0W x k) (hl : ¬ (16 : Int) ≤ (x.2.1.length : Int)) (hj : a2n k x.2.1 = j) (ha : a = a2U x k) : a0S x k r = ((x.1, a2a x.2.1 j (k, r), a), true) := by
 subst hj; subst ha
 rw [a0S, if_neg (by rw [h]; simp), if_neg hf, if_neg (by omega)]
theorem b9X {x : a0u} {k : a0Y} (h : (decide (k.1 = 1) && (decide (x.2.2 + 1 ≤ k.2.1) && decide (k.2.1 ≤ 1000000))) = true) : k.2.1 = a2U x k := by rw [a2U, if_pos h]
theorem c0B {x : a0u} {k : a0Y} (h : (decide (k.1 = 1) && (decide (x.2.2 + 1 ≤ k.2.1) && decide (k.2.1 ≤ 1000000))) = false) : x.2.2 = a2U x k := by rw [a2U, if_neg (by rw [h]; simp)]

theorem a8u {x : a0u} {k : a0Y} {r : a0A} (hb : a0X x ≤ 1048576) (hb2 : r.length ≤ 1048576) : KFn Tryz.prog 94 [.agg [(.dv [] (.str (x.1))), (.dv [] (a0x (x.2.1))), (.dv [] (.int .i64 (x.2.2)))], .agg [(.dv [] (.int .i64 (k.1))), (.dv [] (.int .i64 (k.2.1))), (.dv [] (.str (k.2.2)))], .agg [(.dv [] (a0L (r)))]] (.tup [(true, [(.dv [] (.str ((a0S x k r).1.1))), (.key 9001), (.dv [] (.int .i64 ((a0S x k r).1.2.2)))]), (false, [(.dv [] (.bool ((a0S x k r).2)))])]) [(9001, some (a0b false (a0x ((a0S x k r).1.2.1))))] := by
 refine ⟨a0R Tryz.func94 rfl Tryz.ntmps94 Tryz.results94 rfl (fun C => ?_)⟩
 have hlen : x.2.1.length ≤ 1048576 := by have h3 : a0X x = x.1.size + (x.2.1.length + a0D a1S x.2.1) := rfl; omega
 refine yF 0 0 rfl rfl fun f0_0 => ?_
 refine yF 0 1 rfl rfl fun f0_1 => ?_
 refine yF 0 2 rfl rfl fun f0_2 => ?_
 refine yF 1 0 rfl rfl fun f1_0 => ?_
 refine yF 1 1 rfl rfl fun f1_1 => ?_
 refine yF 1 2 rfl rfl fun f1_2 => ?_
 refine yF 2 0 rfl rfl fun f2_0 => ?_
 iterate 10 refine z ?_
 refine zC Tryz.call55 ?_ (hf := b1P (s := x))
 iterate 3 refine z ?_
 refine a1A (a1p rfl rfl rfl rfl rfl) rfl rfl Tryz.call89 a6H (fun hg => (a0g (a0z rfl hg) (a0t (a0d a0c (a0d a0c (a0d a0c a0s)))) a0w)) rfl rfl ?_
 iterate 4 refine z ?_
 refine a1A (a1p rfl rfl rfl rfl rfl) rfl rfl Tryz.call90 a7H (fun hg => (a0g (a0z rfl hg) (a0t (a0d a0c a0s)) a0w)) rfl rfl ?_
 iterate 3 refine z ?_
 refine yQ rfl (fun c1 => ?_) fun c1 => ?_
 ·iterate 2 refine z ?_
  refine zK 8971 Tryz.call54 ?_ (hf := a5W (x := x) (by omega))
  iterate 3 refine z ?_
  rw [a0S, if_pos c1]
  refine a0h (σ' := ⟨[(6, .box 6 0), (7, .one (.dv [] (.bool (false))))], [(6, 60, [(.dv [] (.str ((x).1))), (.key 9001), (.dv [] (.int .i64 ((x).2.2)))])], [(9001, some (a0b false (a0x (x.2.1))))]⟩) (a0e ⟨rfl, rfl, trivial⟩ ⟨rfl, trivial⟩ ⟨rfl, trivial⟩ rfl) ?_
  iterate 2 refine z ?_
  refine a1N (a0C hT rfl rfl rfl rfl) (a0v rfl) rfl rfl ?_
  first | exact ⟨rfl, rfl⟩ | skip
 ·have hau := b9L c1
  iterate 4 refine z ?_
  refine zK 8971 Tryz.call54 ?_ (hf := a5W (x := x) (by omega))
  iterate 7 refine z ?_
  refine zC Tryz.call97 ?_ (hf := a9U)
  iterate 6 refine z ?_
  refine yQ rfl (fun c2 => ?_) fun c2 => ?_
  ·have d2 := of_decide_eq_true c2
   have hlt := a5m d2
   refine a0p ?_
   refine a1L (oB := [3, 4, 5, 6, 8]) (oK := [9001]) (by kernel_rfl) rfl rfl ?_
   refine zD 0 ?_
   refine zD 1 ?_
   refine zD 2 ?_
   refine zD 3 ?_
   refine a3f 9000 4 rfl (by kernel_rfl) rfl rfl rfl Tryz.call107 (a7o (by omega)) (a0g (a0a rfl) (a0t (a0d a0c a0s)) a0w) rfl rfl rfl rfl rfl ?_
   refine a1k 5 rfl (by kernel_rfl) rfl rfl (a4a (i := (a0W (x) (k)).toNat) hT rfl rfl rfl (a0a rfl) rfl (a0a rfl) (by omega) (by show _ < ((x.2.1)).length; omega)) rfl rfl rfl rfl ?_
   refine zD 6 ?_
   refine a2B [7] rfl rfl (by kernel_rfl) ?_
   refine a2Y (js := [9003]) (cs := (a2p x.2.1 (a0W x k).toNat r).flatMap a0K) hT rfl rfl rfl rfl (a0a rfl) (a0a rfl) rfl rfl rfl rfl (a0q (a2b rfl) a1t rfl) (by decide) (by decide) rfl (by show _ ≤ List.length ((x.2.1).flatMap a0K); rw [b3O]; omega) (b4Y (by omega)) ?_
   simp only [a0l, a0i, SV.kill, CV.kill, kk, Nat.reduceBEq]
   refine z ?_
   refine a0p ?_
   refine a0h (a4s (k := 9001) (c' := a0b false (a0x (a2p x.2.1 (a0W x k).toNat r))) rfl (congrArg (fun n => KC.mk false 93 4 n ((a2p x.2.1 (a0W x k).toNat r).flatMap a0K)) b1E.symm) rfl) ?_
   refine a0o ?_
   iterate 4 refine z ?_
   rw [c1w c1 d2]
   refine a0h (σ' := ⟨[(6, .box 6 0), (7, .one (.dv [] (.bool (true))))], [(6, 60, [(.dv [] (.str ((x).1))), (.key 9001), (.dv [] (.int .i64 ((x).2.2)))])], [(9001, some (a0b false (a0x (a2p x.2.1 (a0W x k).toNat r))))]⟩) (a0e ⟨rfl, rfl, trivial⟩ ⟨rfl, trivial⟩ ⟨rfl, trivial⟩ rfl) ?_
   iterate 2 refine z ?_
   refine a1N (a0C hT rfl rfl rfl rfl) (a0v rfl) rfl rfl ?_
   first | exact ⟨rfl, rfl⟩ | skip
  ·have d2 := of_decide_eq_false c2
   iterate 9 refine z ?_
   refine yQ rfl (fun c3 => ?_) fun c3 => ?_
   ·have d3 := of_decide_eq_true c3
    iterate 5 refine z ?_
    rw [c1W c1 d2 d3]
    refine a0h (σ' := ⟨[(6, .box 6 0), (7, .one (.dv [] (.bool (false))))], [(6, 60, [(.dv [] (.str ((x).1))), (.key 9001), (.dv [] (.int .i64 ((x).2.2)))])], [(9001, some (a0b false (a0x (x.2.1))))]⟩) (a0e ⟨rfl, rfl, trivial⟩ ⟨rfl, trivial⟩ ⟨rfl, trivial⟩ rfl) ?_
    iterate 2 refine z ?_
    refine a1N (a0C hT rfl rfl rfl rfl) (a0v rfl) rfl rfl ?_
    first | exact ⟨rfl, rfl⟩ | skip
   ·have d3 := of_decide_eq_false c3
    iterate 7 refine z ?_
    refine a1f (ι := Nat) (fun zz => ⟨[(3, .box 3 0), (4, .box 4 0), (5, .box 5 0), (6, .box 6 0), (7, .one (.dv [] (.bool (false)))), (8, .box 8 0), (10, .one (.dv [] (.int .i64 ((zz : Int)))))], [(3, 60, [(.dv [] (.str (x.1))), (.dv [] (a0x (x.2.1))), (.dv [] (.int .i64 (x.2.2)))]), (4, 63, [(.dv [] (.int .i64 (k.1))), (.dv [] (.int .i64 (k.2.1))), (.dv [] (.str (k.2.2)))]), (5, 66, [(.dv [] (a0L (r)))]), (6, 60, [(.dv [] (.str (ByteArray.empty))), .nil, (.dv [] (.int .i64 (0)))]), (8, 60, [(.dv [] (.str ((x).1))), (.key 9001), (.dv [] (.int .i64 ((x).2.2)))])], [(9001, some (a0b false (.sl 93 4 (x.2.1.length) (x.2.1.flatMap a0K))))]⟩) (fun zz => zz ≤ x.2.1.length ∧ a2n k x.2.1 = zz + a2n k (x.2.1.drop zz)) (fun zz => x.2.1.length - zz) (0) ?_ (a0e ⟨rfl, rfl, rfl, rfl, rfl, rfl, rfl, trivial⟩ ⟨rfl, rfl, rfl, rfl, rfl, trivial⟩ ⟨rfl, trivial⟩ rfl) (fun zz hx => ?_)
    ·exact ⟨Nat.zero_le _, by simp⟩
    obtain ⟨j, rfl⟩ : ∃ v, v = zz := ⟨_, rfl⟩
    replace hx : j ≤ x.2.1.length ∧ a2n k x.2.1 = j + a2n k (x.2.1.drop j) := hx
    obtain ⟨hj, hp⟩ := hx
    show Ok _ _ _ _ _ (⟨[(3, .box 3 0), (4, .box 4 0), (5, .box 5 0), (6, .box 6 0), (7, .one (.dv [] (.bool (false)))), (8, .box 8 0), (10, .one (.dv [] (.int .i64 ((j : Int)))))], [(3, 60, [(.dv [] (.str (x.1))), (.dv [] (a0x (x.2.1))), (.dv [] (.int .i64 (x.2.2)))]), (4, 63, [(.dv [] (.int .i64 (k.1))), (.dv [] (.int .i64 (k.2.1))), (.dv [] (.str (k.2.2)))]), (5, 66, [(.dv [] (a0L (r)))]), (6, 60, [(.dv [] (.str (ByteArray.empty))), .nil, (.dv [] (.int .i64 (0)))]), (8, 60, [(.dv [] (.str ((x).1))), (.key 9001), (.dv [] (.int .i64 ((x).2.2)))])], [(9001, some (a0b false (.sl 93 4 (x.2.1.length) (x.2.1.flatMap a0K))))]⟩ : St)
    refine a0p ?_
    refine a0p ?_
    refine a1L (oB := [3, 4, 5, 6, 8]) (oK := [9001]) (by kernel_rfl) rfl rfl ?_
    refine zD 0 ?_
    refine zD 1 ?_
    refine zD 2 ?_
    refine zD 3 ?_
    refine zD 4 ?_
    refine zD 5 ?_
    refine zDG 6 ?_
    refine zDG 7 ?_
    refine zDG 8 ?_
    refine zDG 9 ?_
    refine zDG 10 ?_
    refine zDG 11 ?_
    refine zDG 12 ?_
    refine a4k 13 rfl (by kernel_rfl) (a1p rfl rfl rfl rfl rfl) rfl rfl Tryz.call91 a9s (fun hg => (a0g (a0z rfl hg) (a0t (a0d a0c (a0d a0c (a0d a0c a0s)))) (a0g (a0z rfl hg) (a0t (a0d a0c (a0d a0c (a0d a0c a0s)))) a0w))) rfl rfl ?_
    refine zDG 14 ?_
    refine zD 15 ?_
    refine a2l (by kernel_rfl) ?_
    refine z ?_
    refine yQ rfl (fun c4 => ?_) fun c4 => ?_
    ·have hst := b5z hp c4
     have hst1 := hst.1
     iterate 3 refine z ?_
     refine a0o ?_
     iterate 3 refine z ?_
     refine a1z ?_
     iterate 2 refine z ?_
     refine ⟨j + 1, ?_, ?_, a0e ⟨rfl, rfl, rfl, rfl, rfl, rfl, rfl, trivial⟩ ⟨rfl, rfl, rfl, rfl, rfl, trivial⟩ ⟨rfl, trivial⟩ rfl⟩
     ·exact ⟨by omega, hst.2⟩
     ·omega
    ·have hpos := b6b hj hp c4
     iterate 6 refine z ?_
     refine a3p (k := 65) hT rfl rfl rfl rfl rfl rfl rfl rfl ?_
     iterate 3 refine z ?_
     refine b7H (b8 := 8) (i8 := 1) (k := 65) (j := 9001) (s := 67) (n := (x.2.1.take j).length) (cs := (x.2.1.take j).flatMap a0K) (c2s := List.replicate (j * 4) .hole ++ (x.2.1.drop j).flatMap a0K) hT rfl rfl rfl (b0x hT rfl rfl rfl (a0a rfl) rfl (a0a rfl) (by omega) (by dsimp only [a0b]; omega)) rfl rfl rfl rfl rfl rfl rfl (a0a rfl) rfl rfl rfl rfl rfl rfl (by decide) rfl rfl ⟨rfl, rfl⟩ (by omega) (by dsimp only [a0b]; omega) (by dsimp only [a0b]; omega) (by dsimp only [a0b]; omega) (by rw [List.length_take, Nat.min_eq_left (by omega)]; simp) (b4I) (b4U) rfl rfl rfl ?_
     simp only [a0l, a0i, SV.kill, CV.kill, kk, Nat.reduceBEq]
     iterate 2 refine z ?_
     refine a0p ?_
     refine a3G [0, 1, 2, 3, 4, 5] (oB := [3, 4, 5, 6, 8]) (oK := [65, 9001]) (by kernel_rfl) rfl rfl ?_
     refine zD 0 ?_
     refine zD 1 ?_
     refine zD 2 ?_
     refine a3f 9000 3 rfl (by kernel_rfl) rfl rfl rfl Tryz.call107 (a7o (by omega)) (a0g (a0a rfl) (a0t (a0d a0c a0s)) a0w) rfl rfl rfl rfl rfl ?_
     refine a1k 4 rfl (by kernel_rfl) rfl rfl (a1F hT hB rfl rfl rfl (a1b (a0a rfl) rfl rfl rfl rfl rfl (a1b (a0a rfl) rfl rfl rfl rfl rfl a1E))) rfl rfl rfl rfl ?_
     refine a4o (k := 76) (js := [9003]) 5 hT rfl (by kernel_rfl) rfl rfl rfl rfl rfl rfl rfl rfl rfl (a0a rfl) rfl rfl (a0q (a0B rfl) (a0q (a0B rfl) (a0q (a0B rfl) (a0q (a2b rfl) a1t rfl) rfl) rfl) rfl) (by decide) (by decide) rfl rfl (by decide) ?_
     simp only [a0l, a0i, SV.kill, CV.kill, kk, Nat.reduceBEq]
     refine a2B [6, 7] rfl rfl (by kernel_rfl) ?_
     refine a2z (k := 65) (j := 76) (cs := (x.2.1.take j ++ [(k, r)]).flatMap a0K) (n := (x.2.1.take j ++ [(k, r)]).length) hT rfl rfl rfl rfl rfl rfl rfl (a0a rfl) rfl rfl rfl (a0a rfl) rfl rfl (by decide) (by dsimp only [a0b]; simp only [List.length_take]; omega) (by dsimp only [a0b]; simp only [List.length_take]; omega) (by simp) (by rw [List.flatMap_append]; rfl) ?_
     simp only [a0l, a0i, SV.kill, CV.kill, kk, Nat.reduceBEq]
     iterate 7 refine z ?_
     refine a9I (k := 65) (j := 9001) (s := 80) (n := (a2a x.2.1 j (k, r)).length) (cs := (a2a x.2.1 j (k, r)).flatMap a0K) (c2s := _) hT rfl rfl rfl (b0e hT rfl rfl rfl (a0a rfl) rfl (a0a rfl) (by omega) (by dsimp only [a0b]; omega)) rfl rfl rfl rfl rfl rfl rfl (a0a rfl) rfl rfl rfl rfl rfl rfl (by decide) rfl rfl ⟨rfl, rfl⟩ (by dsimp only [a0b]; omega) (by dsimp only [a0b]; omega) (by dsimp only [a0b]; simp only [List.length_append, List.length_take, List.length_singleton]; omega) (by dsimp only [a0b]; simp only [List.length_append, List.length_take, List.length_singleton]; omega) (by rw [a8v]; simp; omega) (b7y hj) (rfl) ?_
     simp only [a0l, a0i, SV.kill, CV.kill, kk, Nat.reduceBEq]
     iterate 14 refine z ?_
     refine a1A (a1p rfl rfl rfl rfl rfl) rfl rfl Tryz.call59 a6V (fun hg => (a0g (a0z rfl hg) (a0I a0c) (a0g (a0z rfl hg) (a0I a0c) (a0g (a0n (a0m rfl)) (a0I a0c) a0w)))) rfl rfl ?_
     iterate 2 refine z ?_
     refine yQ rfl (fun c5 => ?_) fun c5 => ?_
     ·refine a0o ?_
      iterate 5 refine z ?_
      refine a0p ?_
      refine a0h (a2i (b := 8) (i := 1) (k := 65) (k' := 9001) rfl rfl rfl rfl (by decide) rfl rfl) ?_
      simp only [a0l, a0i, SV.kill, CV.kill, kk, Nat.reduceBEq]
      refine a0o ?_
      iterate 4 refine z ?_
      rw [b6d c1 d2 d3 hpos (b9X c5)]
      refine a0h (σ' := ⟨[(6, .box 6 0), (7, .one (.dv [] (.bool (true))))], [(6, 60, [(.dv [] (.str ((x).1))), (.key 9001), (.dv [] (.int .i64 (k.2.1)))])], [(9001, some (a0b false (a0x (a2a x.2.1 j (k, r)))))]⟩) (a0e ⟨rfl, rfl, trivial⟩ ⟨rfl, trivial⟩ ⟨rfl, trivial⟩ rfl) ?_
      refine z ?_
      refine a1N (a0C hT rfl rfl rfl rfl) (a0v rfl) rfl rfl ?_
      first | exact ⟨rfl, rfl⟩ | skip
     ·iterate 2 refine z ?_
      refine a0p ?_
      refine a0h (a2i (b := 8) (i := 1) (k := 65) (k' := 9001) rfl rfl rfl rfl (by decide) rfl rfl) ?_
      simp only [a0l, a0i, SV.kill, CV.kill, kk, Nat.reduceBEq]
      refine a0o ?_
      iterate 4 refine z ?_
      rw [b6d c1 d2 d3 hpos (c0B c5)]
      refine a0h (σ' := ⟨[(6, .box 6 0), (7, .one (.dv [] (.bool (true))))], [(6, 60, [(.dv [] (.str ((x).1))), (.key 9001), (.dv [] (.int .i64 ((x).2.2)))])], [(9001, some (a0b false (a0x (a2a x.2.1 j (k, r)))))]⟩) (a0e ⟨rfl, rfl, trivial⟩ ⟨rfl, trivial⟩ ⟨rfl, trivial⟩ rfl) ?_
      refine z ?_
      refine a1N (a0C hT rfl rfl rfl rfl) (a0v rfl) rfl rfl ?_
      first | exact ⟨rfl, rfl⟩ | skip
end Go.Proofs.YtjkpoekgnmgofaaGreat

namespace Go.Proofs.YtjkpoekgnmgofaaGreat
open Go.RowKit
open Go.Proofs
set_option linter.unusedVariables false
set_option linter.unusedSimpArgs false

def a2u (x : a0u) (k : a0Y) (r : a0A) : a0u × Bool := if 0 ≤ a0W x k then (x, false) else a0S x k r
theorem b4L {x : a0u} {k : a0Y} {r : a0A} (h : 0 ≤ a0W x k) : a2u x k r = (x, false) := if_pos h
theorem b7M {x : a0u} {k : a0Y} {r : a0A} (h : ¬ 0 ≤ a0W x k) : a2u x k r = a0S x k r := if_neg h
theorem c2g {x : a0u} {k : a0Y} {r : a0A} (hb : a0X x ≤ 1048576) (hb2 : r.length ≤ 1048576) : KFn Tryz.prog 79 [.agg [(.dv [] (.str (x.1))), (.dv [] (a0x (x.2.1))), (.dv [] (.int .i64 (x.2.2)))], .agg [(.dv [] (.int .i64 (k.1))), (.dv [] (.int .i64 (k.2.1))), (.dv [] (.str (k.2.2)))], .agg [(.dv [] (a0L (r)))]] (.tup [(true, [(.dv [] (.str ((a2u x k r).1.1))), (.key 9001), (.dv [] (.int .i64 ((a2u x k r).1.2.2)))]), (false, [(.dv [] (.bool ((a2u x k r).2)))])]) [(9001, some (a0b false (a0x ((a2u x k r).1.2.1))))] := by
 refine ⟨a0R Tryz.func79 rfl Tryz.ntmps79 Tryz.results79 rfl (fun C => ?_)⟩
 refine yF 0 0 rfl rfl fun f0_0 => ?_
 refine yF 0 1 rfl rfl fun f0_1 => ?_
 refine yF 0 2 rfl rfl fun f0_2 => ?_
 refine yF 1 0 rfl rfl fun f1_0 => ?_
 refine yF 1 1 rfl rfl fun f1_1 => ?_
 refine yF 1 2 rfl rfl fun f1_2 => ?_
 refine yF 2 0 rfl rfl fun f2_0 => ?_
 iterate 11 refine z ?_
 refine zC Tryz.call77 ?_ (hf := b1p)
 iterate 2 refine z ?_
 refine yQ rfl (fun c1 => ?_) fun c1 => ?_
 ·have d1 := of_decide_eq_true c1
  iterate 2 refine z ?_
  refine zK 8971 Tryz.call22 ?_ (hf := a4J (x := x) (by omega))
  iterate 3 refine z ?_
  rw [b4L d1]
  refine a0h (σ' := ⟨[(6, .box 6 0), (7, .one (.dv [] (.bool (false))))], [(6, 60, [(.dv [] (.str ((x).1))), (.key 9001), (.dv [] (.int .i64 ((x).2.2)))])], [(9001, some (a0b false (a0x (x.2.1))))]⟩) (a0e ⟨rfl, rfl, trivial⟩ ⟨rfl, trivial⟩ ⟨rfl, trivial⟩ rfl) ?_
  iterate 2 refine z ?_
  refine a1N (a0C hT rfl rfl rfl rfl) (a0v rfl) rfl rfl ?_
  first | exact ⟨rfl, rfl⟩ | skip
 ·have d1 := of_decide_eq_false c1
  iterate 6 refine z ?_
  refine zK 0 Tryz.call78 ?_ (hf := b0d (x := x) (k := k) (r := r) (by omega) (by omega))
  iterate 5 refine z ?_
  rw [b7M d1]
  refine a0h (σ' := ⟨[(6, .box 6 0), (7, .one (.dv [] (.bool ((a0S (x) (k) (r)).2))))], [(6, 60, [(.dv [] (.str ((a0S (x) (k) (r)).1.1))), (.key 9001), (.dv [] (.int .i64 ((a0S (x) (k) (r)).1.2.2)))])], [(9001, some (a0b false (a0x ((a0S x k r).1.2.1))))]⟩) (a0e ⟨rfl, rfl, trivial⟩ ⟨rfl, trivial⟩ ⟨rfl, trivial⟩ rfl) ?_
  refine z ?_
  refine a1N (a0C hT rfl rfl rfl rfl) (a0v rfl) rfl rfl ?_
  first | exact ⟨rfl, rfl⟩ | skip
theorem c5k {x : a0u} {k : a0Y} {r : a0A} (hb : a0X x ≤ 1048576) (hb2 : r.length ≤ 1048576) : KFn Tryz.prog 95 [.agg [(.dv [] (.str (x.1))), (.dv [] (a0x (x.2.1))), (.dv [] (.int .i64 (x.2.2)))], .agg [(.dv [] (.int .i64 (k.1))), (.dv [] (.int .i64 (k.2.1))), (.dv [] (.str (k.2.2)))], .agg [(.dv [] (a0L (r)))]] (.tup [(true, [(.dv [] (.str ((a2u x k r).1.1))), (.key 9001), (.dv [] (.int .i64 ((a2u x k r).1.2.2)))]), (false, [(.dv [] (.bool ((a2u x k r).2)))])]) [(9001, some (a0b false (a0x ((a2u x k r).1.2.1))))] := by
 refine ⟨a0R Tryz.func95 rfl Tryz.ntmps95 Tryz.results95 rfl (fun C => ?_)⟩
 refine yF 0 0 rfl rfl fun f0_0 => ?_
 refine yF 0 1 rfl rfl fun f0_1 => ?_
 refine yF 0 2 rfl rfl fun f0_2 => ?_
 refine yF 1 0 rfl rfl fun f1_0 => ?_
 refine yF 1 1 rfl rfl fun f1_1 => ?_
 refine yF 1 2 rfl rfl fun f1_2 => ?_
 refine yF 2 0 rfl rfl fun f2_0 => ?_
 iterate 11 refine z ?_
 refine zC Tryz.call97 ?_ (hf := a9U)
 iterate 2 refine z ?_
 refine yQ rfl (fun c1 => ?_) fun c1 => ?_
 ·have d1 := of_decide_eq_true c1
  iterate 2 refine z ?_
  refine zK 8971 Tryz.call54 ?_ (hf := a5W (x := x) (by omega))
  iterate 3 refine z ?_
  rw [b4L d1]
  refine a0h (σ' := ⟨[(6, .box 6 0), (7, .one (.dv [] (.bool (false))))], [(6, 60, [(.dv [] (.str ((x).1))), (.key 9001), (.dv [] (.int .i64 ((x).2.2)))])], [(9001, some (a0b false (a0x (x.2.1))))]⟩) (a0e ⟨rfl, rfl, trivial⟩ ⟨rfl, trivial⟩ ⟨rfl, trivial⟩ rfl) ?_
  iterate 2 refine z ?_
  refine a1N (a0C hT rfl rfl rfl rfl) (a0v rfl) rfl rfl ?_
  first | exact ⟨rfl, rfl⟩ | skip
 ·have d1 := of_decide_eq_false c1
  iterate 6 refine z ?_
  refine zK 0 Tryz.call94 ?_ (hf := a8u (x := x) (k := k) (r := r) (by omega) (by omega))
  iterate 5 refine z ?_
  rw [b7M d1]
  refine a0h (σ' := ⟨[(6, .box 6 0), (7, .one (.dv [] (.bool ((a0S (x) (k) (r)).2))))], [(6, 60, [(.dv [] (.str ((a0S (x) (k) (r)).1.1))), (.key 9001), (.dv [] (.int .i64 ((a0S (x) (k) (r)).1.2.2)))])], [(9001, some (a0b false (a0x ((a0S x k r).1.2.1))))]⟩) (a0e ⟨rfl, rfl, trivial⟩ ⟨rfl, trivial⟩ ⟨rfl, trivial⟩ rfl) ?_
  refine z ?_
  refine a1N (a0C hT rfl rfl rfl rfl) (a0v rfl) rfl rfl ?_
  first | exact ⟨rfl, rfl⟩ | skip
end Go.Proofs.YtjkpoekgnmgofaaGreat

namespace Go.Proofs.YtjkpoekgnmgofaaGreat
open Go.RowKit
open Go.Proofs
set_option linter.unusedVariables false
set_option linter.unusedSimpArgs false

theorem a9v {x : a0u} {k : a0Y} {r : a0A} (h : (a0S x k r).2 = false) : (a0S x k r).1 = x := by
 unfold a0S at h ⊢
 split
 ·rfl
 ·rename_i h1
  rw [if_neg h1] at h
  split
  ·rename_i h2; rw [if_pos h2] at h; cases h
  ·rename_i h2
   rw [if_neg h2] at h
   split
   ·rfl
   ·rename_i h3; rw [if_neg h3] at h; cases h
end Go.Proofs.YtjkpoekgnmgofaaGreat

namespace Go.Proofs.YtjkpoekgnmgofaaGreat
open Go.RowKit
open Go.Proofs
set_option linter.unusedVariables false
set_option linter.unusedSimpArgs false

theorem b1S {k : a0Y} (h : a1n k = true) : (1 ≤ k.1 ∧ k.1 ≤ 3) ∧ (-1000000000000 ≤ k.2.1 ∧ k.2.1 ≤ 1000000000000) ∧ k.2.2.size ≤ 12 := by
 simp only [a1n, a4n, Bool.and_eq_true, decide_eq_true_eq] at h
 omega
theorem a6B {s : Str} (h : a2h s = true) : 1 ≤ s.size ∧ s.size ≤ 8 := by
 simp only [a2h, Bool.and_eq_true, decide_eq_true_eq] at h; omega
theorem b7I {r : a0A} {k : Nat} (h : a1l r = true) (hk : k < r.length) : a2h (r.getD (k : Int).toNat default).1 = true ∧ 0 ≤ (r.getD (k : Int).toNat default).2 ∧ (r.getD (k : Int).toNat default).2 ≤ 1000000000 := by
 simp only [a1l, Bool.and_eq_true, List.all_eq_true] at h
 have h1 := h.1 k (List.mem_range.2 hk)
 unfold a4E at h1
 simp only [Bool.not_or, Bool.not_not, Bool.and_eq_true, decide_eq_true_eq] at h1
 exact ⟨h1.1.1, h1.1.2.1, h1.1.2.2⟩
theorem a9A {r : a0A} (h : a1l r = true) : r.length ≤ 6 := by
 simp only [a1l, Bool.and_eq_true, decide_eq_true_eq] at h; omega
end Go.Proofs.YtjkpoekgnmgofaaGreat

namespace Go.Proofs.YtjkpoekgnmgofaaGreat
open Go.RowKit
open Go.Proofs
set_option linter.unusedVariables false
set_option linter.unusedSimpArgs false

def a4g (l : List OpT) : Bool := l.all a1X && decide ((l.length : Int) ≤ 6)
theorem c4r {l : List OpT} {k : Nat} (hk : k < l.length) (h : a1X (l.getD (k : Int).toNat default) = false) : a4g l = false := by
 unfold a4g
 have : l.all a1X = false := by
  rw [List.all_eq_false]
  refine ⟨l[k], List.getElem_mem hk, ?_⟩
  rw [a5r hk] at h
  simpa using h
 rw [this]; rfl
theorem c1N {l : List OpT} {k : Nat} (h : (l.take k).all a1X = true) (hk : l.length ≤ k) : a4g l = decide ((l.length : Int) ≤ 6) := by
 rw [List.take_of_length_le hk] at h
 unfold a4g
 rw [h, Bool.true_and]
theorem c1R {l : List OpT} {k : Nat} (h : (l.take k).all a1X = true) (hk : k < l.length) (h2 : a1X (l.getD (k : Int).toNat default) = true) : (l.take (k + 1)).all a1X = true := by
 rw [List.take_succ_eq_append_getElem hk, List.all_append, h]
 rw [a5r hk] at h2
 simpa using h2
end Go.Proofs.YtjkpoekgnmgofaaGreat

namespace Go.Proofs.YtjkpoekgnmgofaaGreat
open Go.RowKit
open Go.Proofs
set_option linter.unusedVariables false
set_option linter.unusedSimpArgs false

theorem b2O (a b : Str) : sEq a b = sEq b a := by unfold sEq; rw [Bool.eq_iff_iff, beq_iff_eq, beq_iff_eq]; exact ⟨Eq.symm, Eq.symm⟩
theorem a9V (a b : a3d) : a1v a b = a1v b a := by unfold a1v; rw [b2O a.1, b2O a.2]
theorem b4x {α : Type} {p : α → Bool} : ∀ (xs : List α) (i : Int), 0 ≤ i → xs.any p = true → i ≤ a0j p xs i
 | [], _, _, h => by simp at h
 | x :: xs, i, hi, h => by
  rw [a0j]
  split
  ·omega
  ·rename_i hp
   rw [List.any_cons] at h
   have hp' : p x = false := by simpa using hp
   rw [hp', Bool.false_or] at h
   have := b4x xs (i + 1) (by omega) h
   omega
theorem b8N {α : Type} {p : α → Bool} : ∀ (xs : List α) (i : Int), xs.any p = false → a0j p xs i = -1
 | [], _, _ => rfl
 | x :: xs, i, h => by
  simp only [List.any_cons, Bool.or_eq_false_iff] at h
  rw [a0j, if_neg (by rw [h.1]; simp)]
  exact b8N xs (i + 1) h.2
theorem b8K {α : Type} {p : α → Bool} (xs : List α) : decide (0 ≤ a0j p xs 0) = xs.any p := by
 cases h : xs.any p with
 | true => exact decide_eq_true (b4x xs 0 (by omega) h)
 | false => rw [b8N xs 0 h]; rfl
def a5d (d : DbT) (k : Nat) : Bool := !a1g (d.2.2.1.getD (k : Int).toNat default) || (decide ((0 : Int) < (k : Int)) && (sLt (d.2.2.1.getD (k : Int).toNat default).1 (d.2.2.1.getD ((k : Int) - 1).toNat default).1 || sEq (d.2.2.1.getD (k : Int).toNat default).1 (d.2.2.1.getD ((k : Int) - 1).toNat default).1))
def a8G (d : DbT) (k : Nat) : Bool := !a1g (d.2.2.1.getD (k : Int).toNat default) || (decide ((0 : Int) < (k : Int)) && !sLt (d.2.2.1.getD ((k : Int) - 1).toNat default).1 (d.2.2.1.getD (k : Int).toNat default).1)
theorem b0D (d : DbT) (k : Nat) : a8G d k = a5d d k := by unfold a8G a5d; rw [a6K]
@[reducible] def a0J (d : DbT) (n : Str) : Int := a0j (a0y n) d.2.2.1 0
def a7M (d : DbT) (x : a3d) : Bool := (a2Z x.2 (a0M x.2 (d.2.2.1.getD (a0J d x.1).toNat default).2.1 (d.2.2.1.getD (a0J d x.1).toNat default).2.1.length)).2.2
def a2N (d : DbT) (k : Nat) : Bool := ((decide (a0J d (d.2.2.2.getD (k : Int).toNat default).1 < 0) || !a2h (d.2.2.2.getD (k : Int).toNat default).2) || (d.2.2.2.take (k : Int).toNat).any (a1v (d.2.2.2.getD (k : Int).toNat default))) || a7M d (d.2.2.2.getD (k : Int).toNat default)
def a5u (d : DbT) : Bool := ((a2h d.1 && (decide (0 ≤ d.2.1) && decide (d.2.1 ≤ 1000))) && decide ((d.2.2.1.length : Int) ≤ 4)) && decide ((d.2.2.2.length : Int) ≤ 4)
def a4X (d : DbT) : Bool := (List.range d.2.2.1.length).all (fun i => !a5d d i)
def a5N (d : DbT) : Bool := (List.range d.2.2.2.length).all (fun i => !a2N d i)
def a0F (d : DbT) : Bool := a5u d && (a4X d && a5N d)
theorem a6T {s : a0u} (h : a1g s = true) : a0X s ≤ 1000 * 1000 := by
 have h0 := h
 simp only [a1g, Bool.and_eq_true, List.all_eq_true, decide_eq_true_eq] at h
 obtain ⟨h1, ⟨h2, h3⟩, h4⟩ := h
 have h5 := a6B h2
 have h6 : ∀ x ∈ s.2.1, a1S x ≤ 70 := fun x hx => by
  obtain ⟨i, hi, rfl⟩ := List.mem_iff_getElem.1 hx
  have h7 := h1 i (List.mem_range.2 hi)
  unfold a3U at h7
  rw [a5r hi] at h7
  simp only [Bool.not_or, Bool.not_not, Bool.and_eq_true] at h7
  have h8 := (b1S h7.1.1).2.2
  have h9 := h7.1.2
  have h10 := a9A h9
  have h11 : a0D a5G s.2.1[i].2 ≤ 8 * s.2.1[i].2.length := by
   have key : ∀ r : a0A, (∀ f ∈ r, f.1.size ≤ 8) → a0D a5G r ≤ 8 * r.length := by
    intro r
    induction r with
    | nil => intro _; simp [a0D]
    | cons f r ih =>
     intro hf
     have k1 := ih (fun g hg => hf g (by simp [hg]))
     have k2 := hf f (by simp)
     have k3 : a5G f = f.1.size := rfl
     simp only [a0D, List.map_cons, List.sum_cons, List.length_cons] at *
     omega
   refine key _ (fun f hf => ?_)
   obtain ⟨j, hj, rfl⟩ := List.mem_iff_getElem.1 hf
   have := (a6B (b7I h9 hj).1).2
   rwa [a5r hj] at this
  have h12 : a1S s.2.1[i] = s.2.1[i].1.2.2.size + a5E s.2.1[i].2 := rfl
  have h13 : a5E s.2.1[i].2 = s.2.1[i].2.length + a0D a5G s.2.1[i].2 := rfl
  omega
 have h7 : a0D a1S s.2.1 ≤ 70 * s.2.1.length := by
  have key : ∀ l : List a0O, (∀ x ∈ l, a1S x ≤ 70) → a0D a1S l ≤ 70 * l.length := by
   intro l
   induction l with
   | nil => intro _; simp [a0D]
   | cons x l ih =>
    intro hx
    have k1 := ih (fun g hg => hx g (by simp [hg]))
    have k2 := hx x (by simp)
    simp only [a0D, List.map_cons, List.sum_cons, List.length_cons] at *
    omega
  exact key _ h6
 have h8 : a0X s = s.1.size + (s.2.1.length + a0D a1S s.2.1) := rfl
 omega
theorem a5F {d : DbT} {i : Int} (h : a4X d = true) (h0 : 0 ≤ i) (h1 : i < d.2.2.1.length) : a1g (d.2.2.1.getD i.toNat default) = true := by
 simp only [a4X, List.all_eq_true] at h
 have h2 := h i.toNat (List.mem_range.2 (by omega))
 unfold a5d at h2
 rw [Int.toNat_natCast] at h2
 simp only [Bool.not_or, Bool.not_not, Bool.and_eq_true] at h2
 exact h2.1
theorem a5x (d : DbT) (n : Str) : a0J d n < d.2.2.1.length := by
 rcases a6J (p := a0y n) d.2.2.1 0 (by omega) with h1 | h1
 ·unfold a0J; omega
 ·unfold a0J; omega
theorem c2m {d : DbT} (h : a5u d = false) : a0F d = false := by rw [a0F, h]; rfl
theorem b8Y {d : DbT} {k : Nat} (hk : k < d.2.2.1.length) (h : a5d d k = true) : a0F d = false := by
 have : a4X d = false := a7C hk (by rw [h]; rfl)
 rw [a0F, this]; simp
theorem a7S {d : DbT} {k : Nat} (hk : k < d.2.2.2.length) (h : a2N d k = true) : a0F d = false := by
 have : a5N d = false := a7C hk (by rw [h]; rfl)
 rw [a0F, this]; simp
theorem c1F {d : DbT} {k j : Nat} (hj : j = k) (h1 : (decide (a0j (a0y (d.2.2.2.getD (k : Int).toNat default).1) d.2.2.1 0 < 0) || !a2h (d.2.2.2.getD (k : Int).toNat default).2) = false)
  (h3 : (d.2.2.2.take j).any (a1v (d.2.2.2.getD (k : Int).toNat default)) = false) (h2 : a7M d (d.2.2.2.getD (k : Int).toNat default) = false) : (!a2N d k) = true := by
 subst hj
 have h4 : (d.2.2.2.take ((j : Nat) : Int).toNat).any (a1v (d.2.2.2.getD (j : Int).toNat default)) = false := h3
 rw [a2N, h1, h4, h2]; rfl
theorem c1u {d : DbT} {k j : Nat} (hj : j < k) (hk : k < d.2.2.2.length) (h : a1v (d.2.2.2.getD (j : Int).toNat default) (d.2.2.2.getD (k : Int).toNat default) = true) : a2N d k = true := by
 have h4 : (d.2.2.2.take ((k : Nat) : Int).toNat).any (a1v (d.2.2.2.getD (k : Int).toNat default)) = true := by
  refine b1a (k := j) (d := default) (by rw [List.length_take, Int.toNat_natCast]; omega) ?_
  rw [c4T (by omega), a9V]; exact h
 rw [a2N, h4]; simp
theorem b7l {d : DbT} (h1 : a4X d = true) (h2 : a5N d = true) : a0F d = a5u d := by rw [a0F, h1, h2]; simp

theorem b9E {l : List a3d} {v : a3d}  : PFn Tryz.prog 86 [.one (.dv [] (a0r (l))), .agg [(.dv [] (.str (v.1))), (.dv [] (.str (v.2)))]] (.one (.dv [] (.int .i64 (a0j (a1v v) l 0)))) := by
 refine ⟨a0R Tryz.func86 rfl Tryz.ntmps86 Tryz.results86 rfl (fun C => ?_)⟩
 refine a1i (x := .tmp 0) (a0a rfl) fun f0 => ?_
 refine yF 1 0 rfl rfl fun f1_0 => ?_
 refine yF 1 1 rfl rfl fun f1_1 => ?_
 iterate 11 refine z ?_
 refine a1f (ι := Nat) (fun zz => ⟨[(0, .one (.dv [] (a0r (l)))), (3, .box 3 0), (7, .one (.dv [] (.int .i64 ((((l)).length : Int))))), (8, .one (.dv [] (.int .i64 ((zz : Int)))))], [(3, 78, [(.dv [] (.str (v.1))), (.dv [] (.str (v.2)))])], []⟩) (fun zz => zz ≤ l.length ∧ (l.take zz).any (a1v v) = false) (fun zz => l.length - zz) (0) ?_ (a0e ⟨rfl, rfl, rfl, rfl, trivial⟩ ⟨rfl, trivial⟩ trivial rfl) (fun zz hx => ?_)
 ·exact ⟨Nat.zero_le _, rfl⟩
 obtain ⟨k, rfl⟩ : ∃ v, v = zz := ⟨_, rfl⟩
 replace hx : k ≤ l.length ∧ (l.take k).any (a1v v) = false := hx
 obtain ⟨hk, hall⟩ := hx
 show Ok _ _ _ _ _ (⟨[(0, .one (.dv [] (a0r (l)))), (3, .box 3 0), (7, .one (.dv [] (.int .i64 ((((l)).length : Int))))), (8, .one (.dv [] (.int .i64 ((k : Int)))))], [(3, 78, [(.dv [] (.str (v.1))), (.dv [] (.str (v.2)))])], []⟩ : St)
 iterate 3 refine z ?_
 refine a0p ?_
 refine yQ rfl (fun c1 => ?_) fun c1 => ?_
 ·have d1 := of_decide_eq_true c1
  iterate 8 refine z ?_
  refine a0p ?_
  refine a1L (oB := [3]) (oK := []) (by kernel_rfl) rfl rfl ?_
  refine zD 0 ?_
  refine zD 1 ?_
  refine zD 2 ?_
  refine zD 3 ?_
  refine zD 4 ?_
  refine a1k 5 rfl (by kernel_rfl) rfl rfl (a5A rfl (a0a rfl) (a0a rfl) rfl rfl Tryz.eqGuardType78 (b8j _ _ _ _)) rfl rfl rfl rfl ?_
  refine a2l (by kernel_rfl) ?_
  refine z ?_
  refine yQ rfl (fun c2 => ?_) fun c2 => ?_
  ·iterate 11 refine z ?_
   exact (a6h (p := a1v v) (d := default) hall (by omega) c2).symm
  ·iterate 3 refine z ?_
   refine a0o ?_
   iterate 3 refine z ?_
   refine ⟨k + 1, ?_, ?_, a0e ⟨rfl, rfl, rfl, rfl, trivial⟩ ⟨rfl, trivial⟩ trivial rfl⟩
   ·exact ⟨by omega, a6e (d := default) hall (by omega) c2⟩
   ·omega
 ·have d1 := of_decide_eq_false c1
  iterate 10 refine z ?_
  exact (a5V (p := a1v v) hall (by omega)).symm
theorem b9j {l : List a3d} {v : a3d}  : PFn Tryz.prog 52 [.one (.dv [] (a0r (l))), .agg [(.dv [] (.str (v.1))), (.dv [] (.str (v.2)))]] (.one (.dv [] (.bool (l.any (a1v v))))) := by
 refine ⟨a0R Tryz.func52 rfl Tryz.ntmps52 Tryz.results52 rfl (fun C => ?_)⟩
 refine a1i (x := .tmp 0) (a0a rfl) fun f0 => ?_
 refine yF 1 0 rfl rfl fun f1_0 => ?_
 refine yF 1 1 rfl rfl fun f1_1 => ?_
 iterate 7 refine z ?_
 refine zC Tryz.call86 ?_ (hf := b9E (l := l) (v := v) )
 iterate 5 refine z ?_
 exact b8K l
theorem a8q {x : DbT}  : PFn Tryz.prog 30 [.agg [(.dv [] (.str (x.1))), (.dv [] (.int .i64 (x.2.1))), (.dv [] (a0k (x.2.2.1))), (.dv [] (a0r (x.2.2.2)))]] (.one (.dv [] (.bool (a0F x)))) := by
 refine ⟨a0R Tryz.func30 rfl Tryz.ntmps30 Tryz.results30 rfl (fun C => ?_)⟩
 refine yF 0 0 rfl rfl fun f0_0 => ?_
 refine yF 0 1 rfl rfl fun f0_1 => ?_
 refine yF 0 2 rfl rfl fun f0_2 => ?_
 refine yF 0 3 rfl rfl fun f0_3 => ?_
 iterate 8 refine z ?_
 refine zC Tryz.call50 ?_ (hf := a8s (s := x.1) )
 iterate 4 refine z ?_
 refine a1A (a1p rfl rfl rfl rfl rfl) rfl rfl Tryz.call25 (a5h (n := x.2.1) (lo := 0) (hi := 1000) ) (fun hg => (a0g (a0z rfl hg) (a0I a0c) (a0g (a0n (a0m rfl)) (a0I a0c) (a0g (a0n (a0m rfl)) (a0I a0c) a0w)))) rfl rfl ?_
 iterate 15 refine z ?_
 refine yQ rfl (fun c1 => ?_) fun c1 => ?_
 ·iterate 6 refine z ?_
  exact (c2m (by have h := c1; unfold a5u; grind)).symm
 ·iterate 10 refine z ?_
  refine a1f (ι := Nat) (fun zz => ⟨[(1, .box 1 0), (34, .one (.dv [] (a0k (x.2.2.1)))), (35, .one (.dv [] (.int .i64 ((((x.2.2.1)).length : Int))))), (36, .one (.dv [] (.int .i64 ((zz : Int)))))], [(1, 27, [(.dv [] (.str (x.1))), (.dv [] (.int .i64 (x.2.1))), (.dv [] (a0k (x.2.2.1))), (.dv [] (a0r (x.2.2.2)))])], []⟩) (fun zz => zz ≤ x.2.2.1.length ∧ (List.range zz).all (fun i => !a5d x i) = true) (fun zz => x.2.2.1.length - zz) (0) ?_ (a0e ⟨rfl, rfl, rfl, rfl, trivial⟩ ⟨rfl, trivial⟩ trivial rfl) (fun zz hx => ?_)
  ·exact ⟨Nat.zero_le _, rfl⟩
  obtain ⟨k, rfl⟩ : ∃ v, v = zz := ⟨_, rfl⟩
  replace hx : k ≤ x.2.2.1.length ∧ (List.range k).all (fun i => !a5d x i) = true := hx
  obtain ⟨hk, hall⟩ := hx
  show Ok _ _ _ _ _ (⟨[(1, .box 1 0), (34, .one (.dv [] (a0k (x.2.2.1)))), (35, .one (.dv [] (.int .i64 ((((x.2.2.1)).length : Int))))), (36, .one (.dv [] (.int .i64 ((k : Int)))))], [(1, 27, [(.dv [] (.str (x.1))), (.dv [] (.int .i64 (x.2.1))), (.dv [] (a0k (x.2.2.1))), (.dv [] (a0r (x.2.2.2)))])], []⟩ : St)
  iterate 3 refine z ?_
  refine a0p ?_
  refine yQ rfl (fun c2 => ?_) fun c2 => ?_
  ·have d2 := of_decide_eq_true c2
   iterate 12 refine z ?_
   refine a0p ?_
   refine a1L (oB := [1, 4]) (oK := []) (by kernel_rfl) rfl rfl ?_
   refine zD 0 ?_
   refine a4u 1 rfl (by kernel_rfl) rfl rfl rfl Tryz.call51 (a8C (s := (((x.2.2.1)).getD ((k : Int)).toNat default)) ) (a0g (a0a rfl) (a0t (a0d a0c (a0d a0c (a0d a0c a0s)))) a0w) rfl rfl rfl rfl ?_
   refine zD 2 ?_
   refine zD 3 ?_
   refine zDG 4 ?_
   refine zDG 5 ?_
   refine zDG 6 ?_
   refine zDG 7 ?_
   refine zDG 8 ?_
   refine zDG 9 ?_
   refine zDG 10 ?_
   refine zDG 11 ?_
   refine zDG 12 ?_
   refine zDG 13 ?_
   refine zDG 14 ?_
   refine zDG 15 ?_
   refine zDG 16 ?_
   refine zDG 17 ?_
   refine zD 18 ?_
   refine a2l (by kernel_rfl) ?_
   refine z ?_
   refine yQ rfl (fun c3 => ?_) fun c3 => ?_
   ·iterate 10 refine z ?_
    exact (b8Y (k := k) (by omega) c3).symm
   ·iterate 3 refine z ?_
    refine a0o ?_
    iterate 3 refine z ?_
    refine ⟨k + 1, ?_, ?_, a0e ⟨rfl, rfl, rfl, rfl, trivial⟩ ⟨rfl, trivial⟩ trivial rfl⟩
    ·exact ⟨by omega, a3F hall (by have h : a5d x k = false := c3; simpa using h)⟩
    ·omega
  ·have d2 := of_decide_eq_false c2
   obtain rfl : k = x.2.2.1.length := by omega
   have hst : a4X x = true := hall
   clear hall hk
   iterate 13 refine z ?_
   refine a1f (ι := Nat) (fun zz => ⟨[(1, .box 1 0), (62, .one (.dv [] (a0r (x.2.2.2)))), (63, .one (.dv [] (.int .i64 ((((x.2.2.2)).length : Int))))), (64, .one (.dv [] (.int .i64 ((zz : Int)))))], [(1, 27, [(.dv [] (.str (x.1))), (.dv [] (.int .i64 (x.2.1))), (.dv [] (a0k (x.2.2.1))), (.dv [] (a0r (x.2.2.2)))])], []⟩) (fun zz => zz ≤ x.2.2.2.length ∧ (List.range zz).all (fun i => !a2N x i) = true) (fun zz => x.2.2.2.length - zz) (0) ?_ (a0e ⟨rfl, rfl, rfl, rfl, trivial⟩ ⟨rfl, trivial⟩ trivial rfl) (fun zz hx => ?_)
   ·exact ⟨Nat.zero_le _, rfl⟩
   obtain ⟨k, rfl⟩ : ∃ v, v = zz := ⟨_, rfl⟩
   replace hx : k ≤ x.2.2.2.length ∧ (List.range k).all (fun i => !a2N x i) = true := hx
   obtain ⟨hk2, hall2⟩ := hx
   show Ok _ _ _ _ _ (⟨[(1, .box 1 0), (62, .one (.dv [] (a0r (x.2.2.2)))), (63, .one (.dv [] (.int .i64 ((((x.2.2.2)).length : Int))))), (64, .one (.dv [] (.int .i64 ((k : Int)))))], [(1, 27, [(.dv [] (.str (x.1))), (.dv [] (.int .i64 (x.2.1))), (.dv [] (a0k (x.2.2.1))), (.dv [] (a0r (x.2.2.2)))])], []⟩ : St)
   iterate 3 refine z ?_
   refine a0p ?_
   refine yQ rfl (fun c4 => ?_) fun c4 => ?_
   ·have d4 := of_decide_eq_true c4
    iterate 16 refine z ?_
    refine zC Tryz.call21 ?_ (hf := a8F (x := x) (n := (x.2.2.2.getD (k : Int).toNat default).1))
    iterate 2 refine z ?_
    refine a0p ?_
    refine a0p ?_
    refine a1L (oB := [1, 6]) (oK := []) (by kernel_rfl) rfl rfl ?_
    refine zD 0 ?_
    refine zD 1 ?_
    refine zD 2 ?_
    refine zDG 3 ?_
    refine zDG 4 ?_
    refine a4k 5 rfl (by kernel_rfl) (a1p rfl rfl rfl rfl rfl) rfl rfl Tryz.call50 (a8s (s := (((x.2.2.2)).getD ((k : Int)).toNat default).2) ) (fun hg => (a0g (a0z rfl hg) (a0I a0c) a0w)) rfl rfl ?_
    refine zDG 6 ?_
    refine zD 7 ?_
    refine zD 8 ?_
    refine zDG 9 ?_
    refine zDG 10 ?_
    refine zDG 11 ?_
    refine a7D 12 rfl (by kernel_rfl) (a1p rfl rfl rfl rfl rfl) rfl (fun hg => b0J hT rfl rfl rfl (a0z rfl hg) (a0z rfl hg) (fun _ => rfl) (by first | omega | (simp only [Bool.and_eq_true, Bool.or_eq_true, Bool.or_eq_false_iff, Bool.and_eq_false_iff, Bool.not_eq_true', Bool.not_eq_false', beq_iff_eq, decide_eq_true_eq, decide_eq_false_iff_not] at hg; omega) | (have hh := of_decide_eq_true (a4Z hg); omega) | (have hh := of_decide_eq_true (a4Z (a8b hg)); omega)) (by first | omega | (simp only [Bool.and_eq_true, Bool.or_eq_true, Bool.or_eq_false_iff, Bool.and_eq_false_iff, Bool.not_eq_true', Bool.not_eq_false', beq_iff_eq, decide_eq_true_eq, decide_eq_false_iff_not] at hg; omega) | (have hh := of_decide_eq_true (a4Z hg); omega) | (have hh := of_decide_eq_true (a4Z (a8b hg)); omega))) rfl rfl rfl rfl ?_
    refine zDG 13 ?_
    refine a4k 14 rfl (by kernel_rfl) (a1p rfl rfl rfl rfl rfl) rfl rfl Tryz.call52 (b9j (l := ((x.2.2.2)).take ((k : Int)).toNat) (v := (((x.2.2.2)).getD ((k : Int)).toNat default)) ) (fun hg => (a0g (a0z rfl hg) (a0I a0c) (a0g (a0z rfl hg) (a0t (a0d a0c (a0d a0c a0s))) a0w))) rfl rfl ?_
    refine zD 15 ?_
    refine a2l (by kernel_rfl) ?_
    refine z ?_
    refine yQ rfl (fun c5 => ?_) fun c5 => ?_
    ·iterate 11 refine z ?_
     exact (a7S (k := k) (by omega) (by have h3 : ((decide (a0j (a0y (x.2.2.2.getD (k : Int).toNat default).1) x.2.2.1 0 < 0) || !a2h (x.2.2.2.getD (k : Int).toNat default).2) || (x.2.2.2.take (k : Int).toNat).any (a1v (x.2.2.2.getD (k : Int).toNat default))) = true := c5; rw [a2N, h3]; rfl)).symm
    ·have hfl : a0j (a0y (x.2.2.2.getD (k : Int).toNat default).1) x.2.2.1 0 < x.2.2.1.length := a5x x (x.2.2.2.getD (k : Int).toNat default).1
     have hf0 : 0 ≤ a0j (a0y (x.2.2.2.getD (k : Int).toNat default).1) x.2.2.1 0 := by have h := c5; simp only [Bool.or_eq_false_iff, decide_eq_false_iff_not] at h; omega
     have hsw := a6T (a5F hst hf0 hfl)
     iterate 2 refine z ?_
     refine a0p ?_
     refine a1L (oB := [1, 6]) (oK := []) (by kernel_rfl) rfl rfl ?_
     refine zD 0 ?_
     refine zD 1 ?_
     refine zD 2 ?_
     refine zD 3 ?_
     refine zD 4 ?_
     refine zD 5 ?_
     refine zD 6 ?_
     refine a5K (A := [(12, 8, 63, _), (13, 9, 63, _)]) hT ⟨⟨_, _, rfl⟩, rfl, ⟨⟨_, _, rfl⟩, rfl, trivial⟩⟩ ?_
     refine b6m 7 rfl (by kernel_rfl) rfl rfl rfl (vok hT ⟨⟨_, _, rfl⟩, rfl, ⟨⟨_, _, rfl⟩, rfl, trivial⟩⟩ (by kernel_rfl) (by kernel_rfl)) (vok hT ⟨⟨_, _, rfl⟩, rfl, ⟨⟨_, _, rfl⟩, rfl, trivial⟩⟩ (by kernel_rfl) (by kernel_rfl)) rfl Tryz.call53 (c1U (x := (x.2.2.1.getD (a0j (a0y (x.2.2.2.getD (k : Int).toNat default).1) x.2.2.1 0).toNat default)) (f := (x.2.2.2.getD (k : Int).toNat default).2) (by omega)) (a0g (a0a rfl) (a0t (a0d a0c (a0d a0c (a0d a0c a0s)))) (a0g (a0a rfl) (a0I a0c) a0w)) rfl rfl rfl rfl ?_
     refine a6k 8 rfl (by kernel_rfl) rfl rfl rfl (vok hT ⟨⟨_, _, rfl⟩, rfl, ⟨⟨_, _, rfl⟩, rfl, trivial⟩⟩ (by kernel_rfl) (by kernel_rfl)) (vok hT ⟨⟨_, _, rfl⟩, rfl, ⟨⟨_, _, rfl⟩, rfl, trivial⟩⟩ (by kernel_rfl) (by kernel_rfl)) (a0U (.inl rfl) (a0a rfl)) rfl rfl rfl rfl ?_
     refine a2G 9 rfl (by kernel_rfl) rfl rfl rfl rfl (vok hT ⟨⟨_, _, rfl⟩, rfl, ⟨⟨_, _, rfl⟩, rfl, trivial⟩⟩ (by kernel_rfl) (by kernel_rfl)) (vok hT ⟨⟨_, _, rfl⟩, rfl, ⟨⟨_, _, rfl⟩, rfl, trivial⟩⟩ (by kernel_rfl) (by kernel_rfl)) (a3q rfl (a0a rfl) rfl) rfl rfl ?_
     refine a2G 10 rfl (by kernel_rfl) rfl rfl rfl rfl (vok hT ⟨⟨_, _, rfl⟩, rfl, ⟨⟨_, _, rfl⟩, rfl, trivial⟩⟩ (by kernel_rfl) (by kernel_rfl)) (vok hT ⟨⟨_, _, rfl⟩, rfl, ⟨⟨_, _, rfl⟩, rfl, trivial⟩⟩ (by kernel_rfl) (by kernel_rfl)) (a3q rfl (a0a rfl) rfl) rfl rfl ?_
     refine a2G 11 rfl (by kernel_rfl) rfl rfl rfl rfl (vok hT ⟨⟨_, _, rfl⟩, rfl, ⟨⟨_, _, rfl⟩, rfl, trivial⟩⟩ (by kernel_rfl) (by kernel_rfl)) (vok hT ⟨⟨_, _, rfl⟩, rfl, ⟨⟨_, _, rfl⟩, rfl, trivial⟩⟩ (by kernel_rfl) (by kernel_rfl)) (a2L rfl (a0a rfl) rfl) rfl rfl ?_
     refine a5Z (vok hT ⟨⟨_, _, rfl⟩, rfl, ⟨⟨_, _, rfl⟩, rfl, trivial⟩⟩ (by kernel_rfl) (by kernel_rfl)) rfl rfl (by kernel_rfl) ?_
     dsimp only [a2S, a2R]
     refine a2B [14, 15, 16] rfl rfl (by kernel_rfl) ?_
     iterate 7 refine z ?_
     refine yQ rfl (fun c6 => ?_) fun c6 => ?_
     ·iterate 10 refine z ?_
      exact (a7S (k := k) (by omega) (by have h2 : a7M x (x.2.2.2.getD (k : Int).toNat default) = true := c6; rw [a2N, h2]; simp)).symm
     ·iterate 3 refine z ?_
      refine a0o ?_
      iterate 3 refine z ?_
      refine ⟨k + 1, ?_, ?_, a0e ⟨rfl, rfl, rfl, rfl, trivial⟩ ⟨rfl, trivial⟩ trivial rfl⟩
      ·exact ⟨by omega, a3F hall2 (by have h1 := c5; have h2 : a7M x (x.2.2.2.getD (k : Int).toNat default) = false := c6; show (!a2N x k) = true; rw [a2N, h2]; have h3 : ((decide (a0j (a0y (x.2.2.2.getD (k : Int).toNat default).1) x.2.2.1 0 < 0) || !a2h (x.2.2.2.getD (k : Int).toNat default).2) || (x.2.2.2.take (k : Int).toNat).any (a1v (x.2.2.2.getD (k : Int).toNat default))) = false := h1; rw [h3]; rfl)⟩
      ·omega
   ·have d4 := of_decide_eq_false c4
    iterate 10 refine z ?_
    obtain rfl : k = x.2.2.2.length := by omega
    rw [b7l hst hall2]; have h := c1; unfold a5u; grind
theorem a5e {x : DbT}  : PFn Tryz.prog 33 [.agg [(.dv [] (.str (x.1))), (.dv [] (.int .i64 (x.2.1))), (.dv [] (a0k (x.2.2.1))), (.dv [] (a0r (x.2.2.2)))]] (.one (.dv [] (.bool (a0F x)))) := by
 refine ⟨a0R Tryz.func33 rfl Tryz.ntmps33 Tryz.results33 rfl (fun C => ?_)⟩
 refine yF 0 0 rfl rfl fun f0_0 => ?_
 refine yF 0 1 rfl rfl fun f0_1 => ?_
 refine yF 0 2 rfl rfl fun f0_2 => ?_
 refine yF 0 3 rfl rfl fun f0_3 => ?_
 iterate 9 refine z ?_
 refine a1f (ι := Nat) (fun zz => ⟨[(1, .box 1 0), (3, .one (.dv [] (.int .i64 ((zz : Int)))))], [(1, 27, [(.dv [] (.str (x.1))), (.dv [] (.int .i64 (x.2.1))), (.dv [] (a0k (x.2.2.1))), (.dv [] (a0r (x.2.2.2)))])], []⟩) (fun zz => zz ≤ x.2.2.1.length ∧ (List.range zz).all (fun i => !a5d x i) = true) (fun zz => x.2.2.1.length - zz) (0) ?_ (a0e ⟨rfl, rfl, trivial⟩ ⟨rfl, trivial⟩ trivial rfl) (fun zz hx => ?_)
 ·exact ⟨Nat.zero_le _, rfl⟩
 obtain ⟨k, rfl⟩ : ∃ v, v = zz := ⟨_, rfl⟩
 replace hx : k ≤ x.2.2.1.length ∧ (List.range k).all (fun i => !a5d x i) = true := hx
 obtain ⟨hk, hall⟩ := hx
 show Ok _ _ _ _ _ (⟨[(1, .box 1 0), (3, .one (.dv [] (.int .i64 ((k : Int)))))], [(1, 27, [(.dv [] (.str (x.1))), (.dv [] (.int .i64 (x.2.1))), (.dv [] (a0k (x.2.2.1))), (.dv [] (a0r (x.2.2.2)))])], []⟩ : St)
 iterate 8 refine z ?_
 refine yQ rfl (fun c1 => ?_) fun c1 => ?_
 ·have d1 := of_decide_eq_true c1
  iterate 4 refine z ?_
  refine a0p ?_
  refine a1L (oB := [1]) (oK := []) (by kernel_rfl) rfl rfl ?_
  refine zD 0 ?_
  refine zD 1 ?_
  refine zD 2 ?_
  refine zD 3 ?_
  refine zD 4 ?_
  refine a4u 5 rfl (by kernel_rfl) rfl rfl rfl Tryz.call55 (b1P (s := (((x.2.2.1)).getD ((k : Int)).toNat default)) ) (a0g (a0a rfl) (a0t (a0d a0c (a0d a0c (a0d a0c a0s)))) a0w) rfl rfl rfl rfl ?_
  refine zD 6 ?_
  refine zD 7 ?_
  refine zDG 8 ?_
  refine zDG 9 ?_
  refine zDG 10 ?_
  refine zDG 11 ?_
  refine zDG 12 ?_
  refine zDG 13 ?_
  refine zDG 14 ?_
  refine zDG 15 ?_
  refine zDG 16 ?_
  refine zDG 17 ?_
  refine zDG 18 ?_
  refine zDG 19 ?_
  refine zDG 20 ?_
  refine zDG 21 ?_
  refine zDG 22 ?_
  refine zDG 23 ?_
  refine zDG 24 ?_
  refine zDG 25 ?_
  refine zD 26 ?_
  refine a2l (by kernel_rfl) ?_
  refine z ?_
  refine yQ rfl (fun c2 => ?_) fun c2 => ?_
  ·iterate 10 refine z ?_
   exact (b8Y (k := k) (by omega) (by rw [← b0D]; exact c2)).symm
  ·iterate 3 refine z ?_
   refine a0o ?_
   iterate 4 refine z ?_
   refine ⟨k + 1, ?_, ?_, a0e ⟨rfl, rfl, trivial⟩ ⟨rfl, trivial⟩ trivial rfl⟩
   ·exact ⟨by omega, a3F hall (by have h : a8G x k = false := c2; rw [b0D] at h; simpa using h)⟩
   ·omega
 ·have d1 := of_decide_eq_false c1
  obtain rfl : k = x.2.2.1.length := by omega
  have hst : a4X x = true := hall
  clear hall hk
  iterate 10 refine z ?_
  refine a1f (ι := Nat) (fun zz => ⟨[(1, .box 1 0), (4, .one (.dv [] (.int .i64 ((zz : Int)))))], [(1, 27, [(.dv [] (.str (x.1))), (.dv [] (.int .i64 (x.2.1))), (.dv [] (a0k (x.2.2.1))), (.dv [] (a0r (x.2.2.2)))])], []⟩) (fun zz => zz ≤ x.2.2.2.length ∧ (List.range zz).all (fun i => !a2N x i) = true) (fun zz => x.2.2.2.length - zz) (0) ?_ (a0e ⟨rfl, rfl, trivial⟩ ⟨rfl, trivial⟩ trivial rfl) (fun zz hx => ?_)
  ·exact ⟨Nat.zero_le _, rfl⟩
  obtain ⟨k, rfl⟩ : ∃ v, v = zz := ⟨_, rfl⟩
  replace hx : k ≤ x.2.2.2.length ∧ (List.range k).all (fun i => !a2N x i) = true := hx
  obtain ⟨hk2, hall2⟩ := hx
  show Ok _ _ _ _ _ (⟨[(1, .box 1 0), (4, .one (.dv [] (.int .i64 ((k : Int)))))], [(1, 27, [(.dv [] (.str (x.1))), (.dv [] (.int .i64 (x.2.1))), (.dv [] (a0k (x.2.2.1))), (.dv [] (a0r (x.2.2.2)))])], []⟩ : St)
  iterate 8 refine z ?_
  refine yQ rfl (fun c3 => ?_) fun c3 => ?_
  ·have d3 := of_decide_eq_true c3
   iterate 4 refine z ?_
   refine a0p ?_
   refine a1L (oB := [1]) (oK := []) (by kernel_rfl) rfl rfl ?_
   refine zD 0 ?_
   refine zD 1 ?_
   refine zD 2 ?_
   refine zD 3 ?_
   refine zD 4 ?_
   refine zD 5 ?_
   refine zD 6 ?_
   refine a4u 7 rfl (by kernel_rfl) rfl rfl rfl Tryz.call56 (b2H (x := x) (n := (x.2.2.2.getD (k : Int).toNat default).1)) (a0g (a0a rfl) (a0t (a0d a0c (a0d a0c (a0d a0c (a0d a0c a0s))))) (a0g (a0a rfl) (a0I a0c) a0w)) rfl rfl rfl rfl ?_
   refine zD 8 ?_
   refine a2l (by kernel_rfl) ?_
   iterate 12 refine z ?_
   refine a1A (a1p rfl rfl rfl rfl rfl) rfl rfl Tryz.call57 (a8g (s := (((x.2.2.2)).getD ((k : Int)).toNat default).2) ) (fun hg => (a0g (a0z rfl hg) (a0I a0c) a0w)) rfl rfl ?_
   iterate 3 refine z ?_
   refine yQ rfl (fun c4 => ?_) fun c4 => ?_
   ·iterate 11 refine z ?_
    exact (a7S (k := k) (by omega) (by have h3 : (decide (a0j (a0y (x.2.2.2.getD (k : Int).toNat default).1) x.2.2.1 0 < 0) || !a2h (x.2.2.2.getD (k : Int).toNat default).2) = true := c4; rw [a2N, h3]; rfl)).symm
   ·have hfl : a0j (a0y (x.2.2.2.getD (k : Int).toNat default).1) x.2.2.1 0 < x.2.2.1.length := a5x x (x.2.2.2.getD (k : Int).toNat default).1
    have hf0 : 0 ≤ a0j (a0y (x.2.2.2.getD (k : Int).toNat default).1) x.2.2.1 0 := by have h := c4; simp only [Bool.or_eq_false_iff, decide_eq_false_iff_not] at h; omega
    have hsw := a6T (a5F hst hf0 hfl)
    iterate 2 refine z ?_
    refine a0p ?_
    refine a0p ?_
    refine a1L (oB := [1]) (oK := []) (by kernel_rfl) rfl rfl ?_
    refine zD 0 ?_
    refine zD 1 ?_
    refine zD 2 ?_
    refine zD 3 ?_
    refine zD 4 ?_
    refine zD 5 ?_
    refine zD 6 ?_
    refine zD 7 ?_
    refine zD 8 ?_
    refine zD 9 ?_
    refine zD 10 ?_
    refine a5K (A := [(16, 6, 63, _), (17, 7, 63, _)]) hT ⟨⟨_, _, rfl⟩, rfl, ⟨⟨_, _, rfl⟩, rfl, trivial⟩⟩ ?_
    refine b6m 11 rfl (by kernel_rfl) rfl rfl rfl (vok hT ⟨⟨_, _, rfl⟩, rfl, ⟨⟨_, _, rfl⟩, rfl, trivial⟩⟩ (by kernel_rfl) (by kernel_rfl)) (vok hT ⟨⟨_, _, rfl⟩, rfl, ⟨⟨_, _, rfl⟩, rfl, trivial⟩⟩ (by kernel_rfl) (by kernel_rfl)) rfl Tryz.call58 (c6m (x := (x.2.2.1.getD (a0j (a0y (x.2.2.2.getD (k : Int).toNat default).1) x.2.2.1 0).toNat default)) (f := (x.2.2.2.getD (k : Int).toNat default).2) (by omega)) (a0g (a0a rfl) (a0t (a0d a0c (a0d a0c (a0d a0c a0s)))) (a0g (a0a rfl) (a0I a0c) a0w)) rfl rfl rfl rfl ?_
    refine a6k 12 rfl (by kernel_rfl) rfl rfl rfl (vok hT ⟨⟨_, _, rfl⟩, rfl, ⟨⟨_, _, rfl⟩, rfl, trivial⟩⟩ (by kernel_rfl) (by kernel_rfl)) (vok hT ⟨⟨_, _, rfl⟩, rfl, ⟨⟨_, _, rfl⟩, rfl, trivial⟩⟩ (by kernel_rfl) (by kernel_rfl)) (a0U (.inl rfl) (a0a rfl)) rfl rfl rfl rfl ?_
    refine a2G 13 rfl (by kernel_rfl) rfl rfl rfl rfl (vok hT ⟨⟨_, _, rfl⟩, rfl, ⟨⟨_, _, rfl⟩, rfl, trivial⟩⟩ (by kernel_rfl) (by kernel_rfl)) (vok hT ⟨⟨_, _, rfl⟩, rfl, ⟨⟨_, _, rfl⟩, rfl, trivial⟩⟩ (by kernel_rfl) (by kernel_rfl)) (a3q rfl (a0a rfl) rfl) rfl rfl ?_
    refine a2G 14 rfl (by kernel_rfl) rfl rfl rfl rfl (vok hT ⟨⟨_, _, rfl⟩, rfl, ⟨⟨_, _, rfl⟩, rfl, trivial⟩⟩ (by kernel_rfl) (by kernel_rfl)) (vok hT ⟨⟨_, _, rfl⟩, rfl, ⟨⟨_, _, rfl⟩, rfl, trivial⟩⟩ (by kernel_rfl) (by kernel_rfl)) (a3q rfl (a0a rfl) rfl) rfl rfl ?_
    refine a2G 15 rfl (by kernel_rfl) rfl rfl rfl rfl (vok hT ⟨⟨_, _, rfl⟩, rfl, ⟨⟨_, _, rfl⟩, rfl, trivial⟩⟩ (by kernel_rfl) (by kernel_rfl)) (vok hT ⟨⟨_, _, rfl⟩, rfl, ⟨⟨_, _, rfl⟩, rfl, trivial⟩⟩ (by kernel_rfl) (by kernel_rfl)) (a2L rfl (a0a rfl) rfl) rfl rfl ?_
    refine a5Z (vok hT ⟨⟨_, _, rfl⟩, rfl, ⟨⟨_, _, rfl⟩, rfl, trivial⟩⟩ (by kernel_rfl) (by kernel_rfl)) rfl rfl (by kernel_rfl) ?_
    dsimp only [a2S, a2R]
    refine a2B [18, 19, 20] rfl rfl (by kernel_rfl) ?_
    iterate 7 refine z ?_
    refine yQ rfl (fun c5 => ?_) fun c5 => ?_
    ·iterate 11 refine z ?_
     exact (a7S (k := k) (by omega) (by have h2 : a7M x (x.2.2.2.getD (k : Int).toNat default) = true := c5; rw [a2N, h2]; simp)).symm
    ·iterate 6 refine z ?_
     refine a1f (ι := Nat) (fun zz => ⟨[(1, .box 1 0), (4, .one (.dv [] (.int .i64 ((k : Int))))), (9, .one (.dv [] (.int .i64 ((zz : Int)))))], [(1, 27, [(.dv [] (.str (x.1))), (.dv [] (.int .i64 (x.2.1))), (.dv [] (a0k (x.2.2.1))), (.dv [] (a0r (x.2.2.2)))])], []⟩) (fun zz => zz ≤ k ∧ (x.2.2.2.take zz).any (a1v (x.2.2.2.getD (k : Int).toNat default)) = false) (fun zz => k - zz) (0) ?_ (a0e ⟨rfl, rfl, rfl, trivial⟩ ⟨rfl, trivial⟩ trivial rfl) (fun zz hx => ?_)
     ·exact ⟨Nat.zero_le _, rfl⟩
     obtain ⟨j, rfl⟩ : ∃ v, v = zz := ⟨_, rfl⟩
     replace hx : j ≤ k ∧ (x.2.2.2.take j).any (a1v (x.2.2.2.getD (k : Int).toNat default)) = false := hx
     obtain ⟨hj, hall3⟩ := hx
     show Ok _ _ _ _ _ (⟨[(1, .box 1 0), (4, .one (.dv [] (.int .i64 ((k : Int))))), (9, .one (.dv [] (.int .i64 ((j : Int)))))], [(1, 27, [(.dv [] (.str (x.1))), (.dv [] (.int .i64 (x.2.1))), (.dv [] (a0k (x.2.2.1))), (.dv [] (a0r (x.2.2.2)))])], []⟩ : St)
     iterate 6 refine z ?_
     refine yQ rfl (fun c6 => ?_) fun c6 => ?_
     ·have d6 := of_decide_eq_true c6
      iterate 4 refine z ?_
      refine a0p ?_
      refine a1L (oB := [1]) (oK := []) (by kernel_rfl) rfl rfl ?_
      refine zD 0 ?_
      refine zD 1 ?_
      refine zD 2 ?_
      refine zD 3 ?_
      refine zD 4 ?_
      refine zD 5 ?_
      refine zD 6 ?_
      refine zD 7 ?_
      refine zD 8 ?_
      refine zD 9 ?_
      refine a1k 10 rfl (by kernel_rfl) rfl rfl (a5A rfl (a0a rfl) (a0a rfl) rfl rfl Tryz.eqGuardType78 (b8j _ _ _ _)) rfl rfl rfl rfl ?_
      refine a2l (by kernel_rfl) ?_
      refine z ?_
      refine yQ rfl (fun c7 => ?_) fun c7 => ?_
      ·iterate 14 refine z ?_
       exact (a7S (k := k) (by omega) (c1u (j := j) (by omega) (by omega) c7)).symm
      ·iterate 3 refine z ?_
       refine a0o ?_
       iterate 4 refine z ?_
       refine ⟨j + 1, ?_, ?_, a0e ⟨rfl, rfl, rfl, trivial⟩ ⟨rfl, trivial⟩ trivial rfl⟩
       ·exact ⟨by omega, b0U (d := default) hall3 (by omega) (by rw [a9V]; exact c7)⟩
       ·omega
     ·have d6 := of_decide_eq_false c6
      iterate 6 refine z ?_
      refine a0o ?_
      iterate 4 refine z ?_
      refine ⟨k + 1, ?_, ?_, a0e ⟨rfl, rfl, trivial⟩ ⟨rfl, trivial⟩ trivial rfl⟩
      ·exact ⟨by omega, a3F hall2 (c1F (j := j) (by omega) c4 hall3 c5)⟩
      ·omega
  ·have d3 := of_decide_eq_false c3
   iterate 8 refine z ?_
   refine zC Tryz.call57 ?_ (hf := a8g (s := x.1) )
   iterate 3 refine z ?_
   refine a1A (a1p rfl rfl rfl rfl rfl) rfl rfl Tryz.call59 (a6V (n := x.2.1) (lo := 0) (hi := 1000) ) (fun hg => (a0g (a0z rfl hg) (a0I a0c) (a0g (a0n (a0m rfl)) (a0I a0c) (a0g (a0n (a0m rfl)) (a0I a0c) a0w)))) rfl rfl ?_
   iterate 17 refine z ?_
   obtain rfl : k = x.2.2.2.length := by omega
   rw [b7l hst hall2]; rfl
end Go.Proofs.YtjkpoekgnmgofaaGreat

