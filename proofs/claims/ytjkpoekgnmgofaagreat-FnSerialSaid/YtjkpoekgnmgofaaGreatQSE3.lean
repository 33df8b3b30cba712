/-
  Contracts of the program's functions for the statements Serial, by the rules of the logic. Conditions: none but those in the theorems.
-/
import Derived.Test.YtjkpoekgnmgofaaGreatQSE2
set_option maxHeartbeats 4000000
set_option maxRecDepth 100000
namespace Go.Proofs.YtjkpoekgnmgofaaGreat
open Go.RowKit
open Go.Proofs
set_option linter.unusedVariables false
set_option linter.unusedSimpArgs false

section
variable {α : Type} {enc : α → List DV} {sz : Nat} {xs : List α} {n : Nat}
theorem a1P (hs : ∀ y, (enc y).length = sz) (h : n ≤ xs.length) : ((xs.take n).flatMap enc).length = n * sz := by rw [a3V hs, List.length_take, Nat.min_eq_left h]
theorem b6C (h : n < xs.length) (y : α) : mid ((xs.take n).flatMap enc) (enc y) ((xs.drop (n + 1)).flatMap enc) = (xs.set n y).flatMap enc := by
 rw [List.set_eq_take_append_cons_drop, if_pos h, List.flatMap_append, List.flatMap_cons]; unfold mid; simp
theorem b4N [Inhabited α] {t : α} (h : n < xs.length) (ht : t = xs.getD n default) : xs.flatMap enc = mid ((xs.take n).flatMap enc) (enc t) ((xs.drop (n + 1)).flatMap enc) := by
 rw [b6C h]
 have e : xs.set n t = xs := by
  subst ht
  apply List.ext_getElem?
  intro j
  rw [List.getElem?_set]
  by_cases h' : n = j
  ·subst h'; simp [h, List.getD]
  ·simp [h']
 rw [e]
theorem a9j {e : Nat} (h : n < xs.length) (y : α) : some (some (KC.mk false e sz xs.length (mid ((xs.take n).flatMap enc) (enc y) ((xs.drop (n + 1)).flatMap enc)))) = some (some (KC.mk false e sz (xs.set n y).length ((xs.set n y).flatMap enc))) := by rw [b6C h, List.length_set]
end
def a3P : DbT → List a0u → DbT
 | d, [] => d
 | d, s :: l => a3P (if 0 ≤ a0J d s.1 then a1Y d (a0J d s.1).toNat s else d) l
theorem c0u {c : DbT} {l : List a0u} {n : Nat} (h : n < l.length) : a3P c (l.drop n) = a3P (if 0 ≤ a0J c (l.getD (n : Int).toNat default).1 then a1Y c (a0J c (l.getD (n : Int).toNat default).1).toNat (l.getD (n : Int).toNat default) else c) (l.drop (n + 1)) := by
 have e : l.drop n = l.getD (n : Int).toNat default :: l.drop (n + 1) := by rw [List.drop_eq_getElem_cons h]; simp [List.getD, List.getElem?_eq_getElem h]
 rw [e, a3P]
theorem b2V {d : DbT} {o : OpT} (h : (a0E d o).2.2 = false) : (a0E d o).1 = d := by
 unfold a0E at h ⊢
 split
 ·rfl
 ·rename_i h1
  rw [if_neg h1] at h
  split
  ·rfl
  ·rename_i h2
   rw [if_neg h2] at h; cases h
def tin (t : TxT) (a : Int) : Bool := decide (0 ≤ a) && decide (a ≤ (t.2.1.length : Int) - 1)
def a2J (t : TxT) : OpT := t.2.1.getD (t.2.2.1).toNat default
def a3m (q : List TxT) (i : Int) : Bool := (decide (i < 0) || decide ((q.length : Int) ≤ i)) || !decide ((q.getD i.toNat default).2.2.2.1 = 1)
def a5p (d : DbT) (q : List TxT) (n : Nat) (t : TxT) : DbT × List TxT × Bool :=
 if tin t t.2.2.1 = true then
  if (a0E d (a2J t)).2.2 = true then ((a0E d (a2J t)).1, q.set n (if tin t (t.2.2.1 + 1) = true then (t.1, t.2.1, t.2.2.1 + 1, t.2.2.2.1, t.2.2.2.2) else (t.1, t.2.1, t.2.2.1 + 1, 2, [])), true)
  else (a3P d t.2.2.2.2, q.set n (t.1, t.2.1, t.2.2.1 + 1, 3, []), true)
 else (d, q.set n (t.1, t.2.1, t.2.2.1, 2, []), true)
def a2M (d : DbT) (q : List TxT) (i : Int) : DbT × List TxT × Bool := if a3m q i = true then (d, q, false) else a5p d q i.toNat (q.getD i.toNat default)
theorem a9Q {q : List TxT} {i : Int} (h : a3m q i = false) : 0 ≤ i ∧ i < (q.length : Int) ∧ (q.getD i.toNat default).2.2.2.1 = 1 := by
 unfold a3m at h
 simp only [Bool.or_eq_false_iff, decide_eq_false_iff_not, Bool.not_eq_false', decide_eq_true_eq] at h
 omega
section
variable {d : DbT} {q : List TxT} {i : Int} {t : TxT}
theorem b3y (h : a3m q i = true) : a2M d q i = (d, q, false) := by rw [a2M, if_pos h]
theorem b0j (h : a3m q i = false) (ht : t = q.getD i.toNat default) : a2M d q i = a5p d q i.toNat t := by rw [a2M, if_neg (by rw [h]; simp), ht]
theorem b6s (h : a3m q i = false) (ht : t = q.getD i.toNat default) (h1 : tin t t.2.2.1 = false) : a2M d q i = (d, q.set i.toNat (t.1, t.2.1, t.2.2.1, 2, []), true) := by rw [b0j h ht, a5p, if_neg (by rw [h1]; simp)]
theorem b4T (h : a3m q i = false) (ht : t = q.getD i.toNat default) (h1 : tin t t.2.2.1 = true) (h2 : (a0E d (a2J t)).2.2 = false) : a2M d q i = (a3P d t.2.2.2.2, q.set i.toNat (t.1, t.2.1, t.2.2.1 + 1, 3, []), true) := by rw [b0j h ht, a5p, if_pos h1, if_neg (by rw [h2]; simp)]
theorem b8y (h : a3m q i = false) (ht : t = q.getD i.toNat default) (h1 : tin t t.2.2.1 = true) (h2 : (a0E d (a2J t)).2.2 = true) (h3 : tin t (t.2.2.1 + 1) = true) : a2M d q i = ((a0E d (a2J t)).1, q.set i.toNat (t.1, t.2.1, t.2.2.1 + 1, t.2.2.2.1, t.2.2.2.2), true) := by rw [b0j h ht, a5p, if_pos h1, if_pos h2, if_pos h3]
theorem b8Z (h : a3m q i = false) (ht : t = q.getD i.toNat default) (h1 : tin t t.2.2.1 = true) (h2 : (a0E d (a2J t)).2.2 = true) (h3 : tin t (t.2.2.1 + 1) = false) : a2M d q i = ((a0E d (a2J t)).1, q.set i.toNat (t.1, t.2.1, t.2.2.1 + 1, 2, []), true) := by rw [b0j h ht, a5p, if_pos h1, if_pos h2, if_neg (by rw [h3]; simp)]
theorem c5r {a : Int} (h : tin t a = true) : 0 ≤ a ∧ a < (t.2.1.length : Int) := by
 unfold tin at h
 simp only [Bool.and_eq_true, decide_eq_true_eq] at h
 omega
theorem b8f (h : i.toNat < q.length) (ht : t = q.getD i.toNat default) : wTx t ≤ a1a wTx q := by
 have h1 := (a3j wTx q i.toNat h).1
 have h2 := b3I wTx q (i.toNat + 1)
 have h3 : a1a wTx q = q.length + a0D wTx q := rfl
 have e : q.getD ((i.toNat : Nat) : Int).toNat default = t := by rw [ht]; congr 1
 rw [e] at h1
 omega
end

theorem b7o {d : DbT} {q : List TxT} {i : Int} (hb : a1B d ≤ 549755813888) (hq : a1a wTx q ≤ 549755813888) : KFn Tryz.prog 10 [.agg [(.dv [] (.str (d.1))), (.dv [] (.int .i64 (d.2.1))), (.dv [] (a0k (d.2.2.1))), (.dv [] (a0r (d.2.2.2)))], .agg [(.dv [] (a1q (q)))], .one (.dv [] (.int .i64 (i)))] (.tup [(true, [(.dv [] (.str ((a2M d q i).1.1))), (.dv [] (.int .i64 ((a2M d q i).1.2.1))), (.key 90031), (.key 90900)]), (true, [(.key 95031)]), (false, [(.dv [] (.bool ((a2M d q i).2.2)))])]) [(90031, some (a0b false (a0k ((a2M d q i).1.2.2.1)))), (90900, some (a0b false (a0r ((a2M d q i).1.2.2.2)))), (95031, some (a0b false (a1q ((a2M d q i).2.1))))] := by
 refine ⟨a0R Tryz.func10 rfl Tryz.ntmps10 Tryz.results10 rfl (fun C => ?_)⟩
 have hwq : a1a wTx q = q.length + a0D wTx q := rfl
 obtain ⟨t, ht⟩ : ∃ t, t = q.getD i.toNat default := ⟨_, rfl⟩
 have hwt : wTx t = a1a wOp t.2.1 + a1a a0X t.2.2.2.2 := rfl
 have hwo : a1a wOp t.2.1 = t.2.1.length + a0D wOp t.2.1 := rfl
 have hwb : a1a a0X t.2.2.2.2 = t.2.2.2.2.length + a0D a0X t.2.2.2.2 := rfl
 refine yF 0 0 rfl rfl fun f0_0 => ?_
 refine yF 0 1 rfl rfl fun f0_1 => ?_
 refine yF 0 2 rfl rfl fun f0_2 => ?_
 refine yF 0 3 rfl rfl fun f0_3 => ?_
 refine yF 1 0 rfl rfl fun f1_0 => ?_
 refine a1i (x := .tmp 2) (a0a rfl) fun f2 => ?_
 iterate 9 refine z ?_
 refine zK 90000 Tryz.call24 ?_ (hf := a5S (x := d) (by omega))
 iterate 5 refine z ?_
 refine zK 95000 Tryz.call19 ?_ (hf := b3h (x := q) (by omega))
 iterate 24 refine z ?_
 refine yQ rfl (fun c1 => ?_) fun c1 => ?_
 ·have hb1 : a3m q i = true := c1
  refine a0p ?_
  refine a5b 6 (oB := [3, 4, 7, 9, 10]) (oK := [90031, 90900, 95031]) (by kernel_rfl) rfl rfl ?_
  refine a1r 0 rfl (by kernel_rfl) rfl rfl (a2v hT rfl rfl (a0a rfl) rfl rfl) rfl rfl rfl rfl rfl ?_
  refine a1r 1 rfl (by kernel_rfl) rfl rfl (a2v hT rfl rfl (a0a rfl) rfl rfl) rfl rfl rfl rfl rfl ?_
  refine a4W 2 rfl (by kernel_rfl) rfl hT rfl rfl rfl (a0a rfl) (a0a rfl) rfl rfl rfl rfl rfl rfl ?_
  refine a4G [3, 4] rfl rfl (by kernel_rfl) ?_
  iterate 3 refine z ?_
  rw [b3y hb1]
  refine a0h (σ' := ⟨[(6, .box 6 0), (7, .box 7 0), (8, .one (.dv [] (.bool (false))))], [(6, 27, [(.dv [] (.str ((d).1))), (.dv [] (.int .i64 ((d).2.1))), (.key 90031), (.key 90900)]), (7, 30, [(.key 95031)])], [(90031, some (a0b false (a0k (d.2.2.1)))), (90900, some (a0b false (a0r (d.2.2.2)))), (95031, some (a0b false (a1q (q))))]⟩) (a0e ⟨rfl, rfl, rfl, trivial⟩ ⟨rfl, rfl, trivial⟩ ⟨rfl, rfl, rfl, trivial⟩ rfl) ?_
  iterate 2 refine z ?_
  refine a1J (a0C hT rfl rfl rfl rfl) (a0C hT rfl rfl rfl rfl) (a0v rfl) rfl rfl rfl ?_
  first | exact ⟨rfl, rfl⟩ | skip
 ·have hb1 : a3m q i = false := c1
  have hg := a9Q hb1
  rw [← ht] at hg
  have hit : i.toNat < q.length := by omega
  have htw := b8f hit ht
  refine b8X (k := 95031) (cs' := mid ((q.take (i).toNat).flatMap eTx) [.int .i64 (t.1), a1m (t.2.1), .int .i64 (t.2.2.1), .int .i64 (t.2.2.2.1), a0k (t.2.2.2.2)] ((q.drop ((i).toNat + 1)).flatMap eTx)) rfl (b4N hit ht) ?_
  iterate 6 refine z ?_
  refine yO rfl rfl (a4a (i := (i).toNat) hT rfl rfl rfl (a0a rfl) rfl (a0a rfl) (by omega) (by show _ < (((q)).length); omega)) rfl ?_
  iterate 5 refine z ?_
  refine a0p ?_
  refine a0p ?_
  refine a1L (oB := [3, 4, 6, 7, 9, 10]) (oK := [90031, 90900, 95031]) (by kernel_rfl) rfl rfl ?_
  refine zD 0 ?_
  refine a1k 1 rfl (by kernel_rfl) rfl rfl (a2C rfl (a0a rfl)) rfl rfl rfl rfl ?_
  refine zD 2 ?_
  refine a1k 3 rfl (by kernel_rfl) rfl rfl (a4j hT rfl rfl (a0a rfl) rfl (a3n (off := ((i).toNat * 5 + 2)) (j := 2) (a1P (sz := 5) (fun _ => rfl) (Nat.le_of_lt hit)) (by omega) rfl)) rfl rfl rfl rfl ?_
  refine zD 4 ?_
  refine a1k 5 rfl (by kernel_rfl) rfl rfl (a2C rfl (a0a rfl)) rfl rfl rfl rfl ?_
  refine zD 6 ?_
  refine a1k 7 rfl (by kernel_rfl) rfl rfl (a4j hT rfl rfl (a0a rfl) rfl (a3n (off := ((i).toNat * 5 + 1)) (j := 1) (a1P (sz := 5) (fun _ => rfl) (Nat.le_of_lt hit)) (by omega) rfl)) rfl rfl rfl rfl ?_
  refine a1k 8 rfl (by kernel_rfl) rfl rfl (a4I hT rfl rfl (a7L (a0a rfl))) rfl rfl rfl rfl ?_
  refine zD 9 ?_
  refine a4u 10 rfl (by kernel_rfl) rfl rfl rfl Tryz.call25 (a5h (n := t.2.2.1) (lo := 0) (hi := ((((t.2.1)).length : Int)) - (1)) ) (a0g (a0a rfl) (a0I a0c) (a0g (a0n (a0m rfl)) (a0I a0c) (a0g (a0a rfl) (a0I a0c) a0w))) rfl rfl rfl rfl ?_
  refine a2l (by kernel_rfl) ?_
  refine z ?_
  refine yQ rfl (fun c2 => ?_) fun c2 => ?_
  ·have hin : tin t t.2.2.1 = true := c2
   have hop := c5r hin
   refine a7h (σ' := ⟨[(2, .one (.dv [] (.int .i64 (i)))), (3, .box 3 0), (4, .box 4 0), (6, .box 6 0), (7, .box 7 0), (8, .one (.dv [] (.bool (false)))), (9, .box 9 0), (10, .box 10 0), (11, .eptr 95031 ((i).toNat * 5)), (12, .one (.dv [] (.bool (false)))), (13, .box 13 0), (14, .one (.dv [] (.int .i64 ((a0E (d) ((t.2.1.getD (t.2.2.1).toNat default))).2.1)))), (15, .one (.dv [] (.bool ((a0E (d) ((t.2.1.getD (t.2.2.1).toNat default))).2.2))))], [(3, 27, [(.dv [] (.str (d.1))), (.dv [] (.int .i64 (d.2.1))), (.dv [] (a0k (d.2.2.1))), (.dv [] (a0r (d.2.2.2)))]), (4, 30, [(.dv [] (a1q (q)))]), (6, 27, [(.dv [] (.str (ByteArray.empty))), (.dv [] (.int .i64 (0))), .nil, .nil]), (7, 30, [.nil]), (9, 27, [(.dv [] (.str ((d).1))), (.dv [] (.int .i64 ((d).2.1))), (.key 90031), (.key 90900)]), (10, 30, [(.key 95031)]), (13, 27, [(.dv [] (.str ((a0E (d) ((t.2.1.getD (t.2.2.1).toNat default))).1.1))), (.dv [] (.int .i64 ((a0E (d) ((t.2.1.getD (t.2.2.1).toNat default))).1.2.1))), (.key 91031), (.key 91900)])], [(90031, some (a0b false (a0k ((d).2.2.1)))), (90900, some (a0b false (a0r ((d).2.2.2)))), (91031, some (a0b false (a0k ((a0E (d) ((t.2.1.getD (t.2.2.1).toNat default))).1.2.2.1)))), (91900, some (a0b false (a0r ((a0E (d) ((t.2.1.getD (t.2.2.1).toNat default))).1.2.2.2)))), (95031, some (a0b false (.sl 40 5 (((q)).length) (mid ((q.take (i).toNat).flatMap eTx) [.int .i64 (t.1), a1m (t.2.1), .int .i64 (t.2.2.1), .int .i64 (t.2.2.2.1), a0k (t.2.2.2.2)] ((q.drop ((i).toNat + 1)).flatMap eTx)))))]⟩) ?_ ?_
   ·refine a1L (oB := [3, 4, 6, 7, 9, 10]) (oK := [90031, 90900, 95031]) (by kernel_rfl) rfl rfl ?_
    refine zD 0 ?_
    refine zD 1 ?_
    refine a1k 2 rfl (by kernel_rfl) rfl rfl (a2C rfl (a0a rfl)) rfl rfl rfl rfl ?_
    refine zD 3 ?_
    refine a1k 4 rfl (by kernel_rfl) rfl rfl (a4j hT rfl rfl (a0a rfl) rfl (a3n (off := ((i).toNat * 5 + 1)) (j := 1) (a1P (sz := 5) (fun _ => rfl) (Nat.le_of_lt hit)) (by omega) rfl)) rfl rfl rfl rfl ?_
    refine zD 5 ?_
    refine a1k 6 rfl (by kernel_rfl) rfl rfl (a2C rfl (a0a rfl)) rfl rfl rfl rfl ?_
    refine zD 7 ?_
    refine a1k 8 rfl (by kernel_rfl) rfl rfl (a4j hT rfl rfl (a0a rfl) rfl (a3n (off := ((i).toNat * 5 + 2)) (j := 2) (a1P (sz := 5) (fun _ => rfl) (Nat.le_of_lt hit)) (by omega) rfl)) rfl rfl rfl rfl ?_
    refine a1k 9 rfl (by kernel_rfl) rfl rfl (a3W hT rfl rfl rfl (a7L (a0a rfl)) (a0a rfl) (fun _ => rfl) (by omega) (by omega)) rfl rfl rfl rfl ?_
    refine zD 10 ?_
    refine a5K (A := [(16, 13, 27, _)]) hT ⟨⟨_, _, rfl⟩, rfl, trivial⟩ ?_
    refine a7N 1000 11 rfl (by kernel_rfl) rfl rfl rfl (vok hT ⟨⟨_, _, rfl⟩, rfl, trivial⟩ (by kernel_rfl) (by kernel_rfl)) (vok hT ⟨⟨_, _, rfl⟩, rfl, trivial⟩ (by kernel_rfl) (by kernel_rfl)) rfl Tryz.call26 (b6e (d := d) (o := (t.2.1.getD (t.2.2.1).toNat default)) (by omega)) (a0g (a0a rfl) (a0t (a0d a0c (a0d a0c (a0d (a1d rfl rfl) (a0d (a1d rfl rfl) a0s))))) (a0g (a0a rfl) (a0t (a0d a0c (a0d a0c (a0d a0c (a0d a0c (a0d a0c (a0d a0c (a0d a0c a0s)))))))) a0w)) rfl rfl rfl rfl rfl ?_
    refine a6k 12 rfl (by kernel_rfl) rfl rfl rfl (vok hT ⟨⟨_, _, rfl⟩, rfl, trivial⟩ (by kernel_rfl) (by kernel_rfl)) (vok hT ⟨⟨_, _, rfl⟩, rfl, trivial⟩ (by kernel_rfl) (by kernel_rfl)) (a0U (.inl rfl) (a0a rfl)) rfl rfl rfl rfl ?_
    refine a2G 13 rfl (by kernel_rfl) rfl rfl rfl rfl (vok hT ⟨⟨_, _, rfl⟩, rfl, trivial⟩ (by kernel_rfl) (by kernel_rfl)) (vok hT ⟨⟨_, _, rfl⟩, rfl, trivial⟩ (by kernel_rfl) (by kernel_rfl)) (a3q rfl (a0a rfl) rfl) rfl rfl ?_
    refine a2G 14 rfl (by kernel_rfl) rfl rfl rfl rfl (vok hT ⟨⟨_, _, rfl⟩, rfl, trivial⟩ (by kernel_rfl) (by kernel_rfl)) (vok hT ⟨⟨_, _, rfl⟩, rfl, trivial⟩ (by kernel_rfl) (by kernel_rfl)) (a2L rfl (a0a rfl) rfl) rfl rfl ?_
    refine a2G 15 rfl (by kernel_rfl) rfl rfl rfl rfl (vok hT ⟨⟨_, _, rfl⟩, rfl, trivial⟩ (by kernel_rfl) (by kernel_rfl)) (vok hT ⟨⟨_, _, rfl⟩, rfl, trivial⟩ (by kernel_rfl) (by kernel_rfl)) (a2L rfl (a0a rfl) rfl) rfl rfl ?_
    refine a5Z (vok hT ⟨⟨_, _, rfl⟩, rfl, trivial⟩ (by kernel_rfl) (by kernel_rfl)) rfl rfl (by kernel_rfl) ?_
    dsimp only [a2S, a2R]
    refine a2B [17, 18, 19] rfl rfl (by kernel_rfl) ?_
    iterate 3 refine z ?_
    refine a1z ?_
    exact a3C (a0e ⟨rfl, rfl, rfl, rfl, rfl, rfl, rfl, rfl, rfl, rfl, rfl, rfl, rfl, trivial⟩ ⟨rfl, rfl, rfl, rfl, rfl, rfl, rfl, trivial⟩ ⟨rfl, rfl, rfl, rfl, rfl, trivial⟩ rfl)
   iterate 4 refine z ?_
   refine a0p ?_
   refine a0h (a2i (b := 9) (i := 2) (k := 91031) (k' := 90031) rfl rfl rfl rfl (by simp) rfl rfl) ?_
   simp only [a0l, a0i, SV.kill, CV.kill, kk, Nat.reduceBEq]
   refine a0h (a2i (b := 9) (i := 3) (k := 91900) (k' := 90900) rfl rfl rfl rfl (by simp) rfl rfl) ?_
   simp only [a0l, a0i, SV.kill, CV.kill, kk, Nat.reduceBEq]
   refine a0o ?_
   iterate 4 refine z ?_
   refine a0o ?_
   refine z ?_
   refine yO rfl rfl (a2C rfl (a0a rfl)) rfl ?_
   refine z ?_
   refine yO rfl rfl (a4j hT rfl rfl (a0a rfl) rfl (a3n (off := ((i).toNat * 5 + 2)) (j := 2) (a1P (sz := 5) (fun _ => rfl) (Nat.le_of_lt hit)) (by omega) rfl)) rfl ?_
   refine z ?_
   refine yO rfl rfl (a2C rfl (a0a rfl)) rfl ?_
   refine z ?_
   refine a2Y (js := []) (cs := mid ((q.take (i).toNat).flatMap eTx) [.int .i64 (t.1), a1m (t.2.1), .int .i64 ((t.2.2.1) + (1)), .int .i64 (t.2.2.2.1), a0k (t.2.2.2.2)] ((q.drop ((i).toNat + 1)).flatMap eTx)) hT rfl rfl rfl rfl (a0a rfl) (a0a rfl) rfl rfl rfl rfl (a0q (a0B rfl) a1t rfl) (by decide) (by decide) rfl (a5a (off := ((i).toNat * 5 + 2)) (n := 1) (j := 2) (a1P (sz := 5) (fun _ => rfl) (Nat.le_of_lt hit)) (by omega) (Nat.le_of_ble_eq_true rfl)) (a3X (off := ((i).toNat * 5 + 2)) (j := 2) (a1P (sz := 5) (fun _ => rfl) (Nat.le_of_lt hit)) (by omega) rfl (Nat.le_of_ble_eq_true rfl)) ?_
   simp only [a0l, a0i, SV.kill, CV.kill, kk, Nat.reduceBEq]
   iterate 5 refine z ?_
   refine yQ rfl (fun c3 => ?_) fun c3 => ?_
   ·have hok : (a0E d (t.2.1.getD (t.2.2.1).toNat default)).2.2 = false := by simpa using c3
    have hsm := b2V hok
    iterate 3 refine z ?_
    refine yO rfl rfl (a2C rfl (a0a rfl)) rfl ?_
    refine z ?_
    refine yO rfl rfl (a4j hT rfl rfl (a0a rfl) rfl (a3n (off := ((i).toNat * 5 + 4)) (j := 4) (a1P (sz := 5) (fun _ => rfl) (Nat.le_of_lt hit)) (by omega) rfl)) rfl ?_
    refine yO rfl rfl (a4I hT rfl rfl (a7L (a0a rfl))) rfl ?_
    iterate 3 refine z ?_
    refine a1f (ι := Nat × DbT) (fun zz => ⟨[(6, .box 6 0), (7, .box 7 0), (8, .one (.dv [] (.bool (false)))), (9, .box 9 0), (10, .box 10 0), (11, .eptr 95031 ((i).toNat * 5)), (88, .one (.nest 95031 (((i).toNat * 5 + 4)) (a0k (t.2.2.2.2)))), (89, .one (.dv [] (.int .i64 ((((t.2.2.2.2)).length : Int))))), (90, .one (.dv [] (.int .i64 ((zz.1 : Int)))))], [(3, 27, [(.dv [] (.str (d.1))), (.dv [] (.int .i64 (d.2.1))), (.dv [] (a0k (d.2.2.1))), (.dv [] (a0r (d.2.2.2)))]), (4, 30, [(.dv [] (a1q (q)))]), (6, 27, [(.dv [] (.str (ByteArray.empty))), (.dv [] (.int .i64 (0))), .nil, .nil]), (7, 30, [.nil]), (9, 27, [(.dv [] (.str (zz.2.1))), (.dv [] (.int .i64 (zz.2.2.1))), (.key 90031), (.key 90900)]), (10, 30, [(.key 95031)])], [(90031, some (a0b false (.sl 60 3 (zz.2.2.2.1.length) (zz.2.2.2.1.flatMap a0T)))), (90900, some (a0b false (.sl 78 2 (zz.2.2.2.2.length) (zz.2.2.2.2.flatMap a1O)))), (95031, some (a0b false (.sl 40 5 (((q)).length) (mid ((q.take (i).toNat).flatMap eTx) [.int .i64 (t.1), a1m (t.2.1), .int .i64 ((t.2.2.1) + (1)), .int .i64 (t.2.2.2.1), a0k (t.2.2.2.2)] ((q.drop ((i).toNat + 1)).flatMap eTx)))))]⟩) (fun zz => zz.1 ≤ t.2.2.2.2.length ∧ a3P d t.2.2.2.2 = a3P zz.2 (t.2.2.2.2.drop zz.1)) (fun zz => t.2.2.2.2.length - zz.1) ((0, (a0E d (t.2.1.getD (t.2.2.1).toNat default)).1)) ?_ (a0e ⟨rfl, rfl, rfl, rfl, rfl, rfl, rfl, rfl, rfl, trivial⟩ ⟨rfl, rfl, rfl, rfl, rfl, rfl, trivial⟩ ⟨rfl, rfl, rfl, trivial⟩ rfl) (fun zz hx => ?_)
    ·exact ⟨Nat.zero_le _, by dsimp only; rw [hsm]; simp⟩
    obtain ⟨n, c⟩ := zz
    replace hx : n ≤ t.2.2.2.2.length ∧ a3P d t.2.2.2.2 = a3P c (t.2.2.2.2.drop n) := hx
    obtain ⟨hn, hi⟩ := hx
    have hw := fun h => a3j a0X t.2.2.2.2 n h
    have hwle := b3I a0X t.2.2.2.2 (n + 1)
    show Ok _ _ _ _ _ (⟨[(6, .box 6 0), (7, .box 7 0), (8, .one (.dv [] (.bool (false)))), (9, .box 9 0), (10, .box 10 0), (11, .eptr 95031 ((i).toNat * 5)), (88, .one (.nest 95031 (((i).toNat * 5 + 4)) (a0k (t.2.2.2.2)))), (89, .one (.dv [] (.int .i64 ((((t.2.2.2.2)).length : Int))))), (90, .one (.dv [] (.int .i64 ((n : Int)))))], [(3, 27, [(.dv [] (.str (d.1))), (.dv [] (.int .i64 (d.2.1))), (.dv [] (a0k (d.2.2.1))), (.dv [] (a0r (d.2.2.2)))]), (4, 30, [(.dv [] (a1q (q)))]), (6, 27, [(.dv [] (.str (ByteArray.empty))), (.dv [] (.int .i64 (0))), .nil, .nil]), (7, 30, [.nil]), (9, 27, [(.dv [] (.str (c.1))), (.dv [] (.int .i64 (c.2.1))), (.key 90031), (.key 90900)]), (10, 30, [(.key 95031)])], [(90031, some (a0b false (.sl 60 3 (c.2.2.1.length) (c.2.2.1.flatMap a0T)))), (90900, some (a0b false (.sl 78 2 (c.2.2.2.length) (c.2.2.2.flatMap a1O)))), (95031, some (a0b false (.sl 40 5 (((q)).length) (mid ((q.take (i).toNat).flatMap eTx) [.int .i64 (t.1), a1m (t.2.1), .int .i64 ((t.2.2.1) + (1)), .int .i64 (t.2.2.2.1), a0k (t.2.2.2.2)] ((q.drop ((i).toNat + 1)).flatMap eTx)))))]⟩ : St)
    iterate 3 refine z ?_
    refine a0p ?_
    refine yQ rfl (fun c4 => ?_) fun c4 => ?_
    ·have d4 := of_decide_eq_true c4
     have hn2 : n < t.2.2.2.2.length := by omega
     obtain ⟨hw1, hw2⟩ := hw hn2
     have hrs := c0u (c := c) hn2
     iterate 5 refine z ?_
     refine yO rfl rfl (a3W hT rfl rfl rfl (a7L (a0a rfl)) (a0a rfl) (fun _ => rfl) (by omega) (by omega)) rfl ?_
     iterate 8 refine z ?_
     refine a4i rfl rfl rfl Tryz.call21 (a8F (x := c) (n := (t.2.2.2.2.getD (n : Int).toNat default).1)) (a0g (a0a rfl) (a0t (a0d a0c (a0d a0c (a0d (a1d rfl rfl) (a0d (a1d rfl rfl) a0s))))) (a0g (a0a rfl) (a0I a0c) a0w)) rfl rfl ?_
     iterate 6 refine z ?_
     refine yQ rfl (fun c5 => ?_) fun c5 => ?_
     ·have d5 := of_decide_eq_true c5
      have hlt : (a0j (a0y (t.2.2.2.2.getD (n : Int).toNat default).1) c.2.2.1 0) < c.2.2.1.length := a5x c (t.2.2.2.2.getD (n : Int).toNat default).1
      have hkn : (a0j (a0y (t.2.2.2.2.getD (n : Int).toNat default).1) c.2.2.1 0).toNat < c.2.2.1.length := by omega
      rw [if_pos (show 0 ≤ a0J c (t.2.2.2.2.getD (n : Int).toNat default).1 from d5)] at hrs
      refine a1L (oB := [3, 4, 6, 7, 9, 10, 17]) (oK := [90031, 90900, 95031]) (by kernel_rfl) rfl rfl ?_
      refine zD 0 ?_
      refine zD 1 ?_
      refine zD 2 ?_
      refine zD 3 ?_
      refine a3f 96970 4 rfl (by kernel_rfl) rfl rfl rfl Tryz.call22 (a4J (x := (t.2.2.2.2.getD (n : Int).toNat default)) (by omega)) (a0g (a0a rfl) (a0t (a0d a0c (a0d a0c (a0d a0c a0s)))) a0w) rfl rfl rfl rfl rfl ?_
      refine a1k 5 rfl (by kernel_rfl) rfl rfl (a4a (i := (a0j (a0y ((t.2.2.2.2.getD (n : Int).toNat default).1)) (c).2.2.1 0).toNat) hT rfl rfl rfl (a0a rfl) rfl (a0a rfl) (by omega) (by show _ < (c.2.2.1.length); omega)) rfl rfl rfl rfl ?_
      refine a2B [6] rfl rfl (by kernel_rfl) ?_
      refine a2Y (js := [97000]) (cs := (c.2.2.1.set (a0j (a0y (t.2.2.2.2.getD (n : Int).toNat default).1) c.2.2.1 0).toNat (t.2.2.2.2.getD (n : Int).toNat default)).flatMap a0T) hT rfl rfl rfl rfl (a0a rfl) (a0a rfl) rfl rfl rfl rfl (a0q (a0B rfl) (a0q (a2b rfl) (a0q (a0B rfl) a1t rfl) rfl) rfl) (by decide) (by decide) rfl (by show _ ≤ List.length (c.2.2.1.flatMap a0T); exact b3T (enc := a0T) (sz := 3) (fun _ => rfl) hkn) (b3s (enc := a0T) (sz := 3) (fun _ => rfl) hkn (t.2.2.2.2.getD (n : Int).toNat default)) ?_
      simp only [a0l, a0i, SV.kill, CV.kill, kk, Nat.reduceBEq]
      refine a1z ?_
      iterate 2 refine z ?_
      refine a0o ?_
      iterate 3 refine z ?_
      refine ⟨(n + 1, a1Y c (a0j (a0y (t.2.2.2.2.getD (n : Int).toNat default).1) c.2.2.1 0).toNat (t.2.2.2.2.getD (n : Int).toNat default)), ?_, ?_, a0e ⟨rfl, rfl, rfl, rfl, rfl, rfl, rfl, rfl, rfl, trivial⟩ ⟨rfl, rfl, rfl, rfl, rfl, rfl, trivial⟩ ⟨(congrArg (fun m => some (some (KC.mk false 60 3 m ((c.2.2.1.set (a0j (a0y (t.2.2.2.2.getD (n : Int).toNat default).1) c.2.2.1 0).toNat (t.2.2.2.2.getD (n : Int).toNat default)).flatMap a0T)))) (List.length_set).symm), rfl, rfl, trivial⟩ rfl⟩
      ·exact ⟨hn2, by rw [hi]; exact hrs⟩
      ·dsimp only; omega
     ·have d5 := of_decide_eq_false c5
      rw [if_neg (show ¬ 0 ≤ a0J c (t.2.2.2.2.getD (n : Int).toNat default).1 from d5)] at hrs
      iterate 3 refine z ?_
      refine a0o ?_
      iterate 3 refine z ?_
      refine ⟨(n + 1, c), ?_, ?_, a0e ⟨rfl, rfl, rfl, rfl, rfl, rfl, rfl, rfl, rfl, trivial⟩ ⟨rfl, rfl, rfl, rfl, rfl, rfl, trivial⟩ ⟨rfl, rfl, rfl, trivial⟩ rfl⟩
      ·exact ⟨hn2, by rw [hi]; exact hrs⟩
      ·dsimp only; omega
    ·have d4 := of_decide_eq_false c4
     iterate 7 refine z ?_
     refine yO rfl rfl (a2C rfl (a0a rfl)) rfl ?_
     refine z ?_
     refine a2Y (js := []) (cs := mid ((q.take (i).toNat).flatMap eTx) [.int .i64 (t.1), a1m (t.2.1), .int .i64 ((t.2.2.1) + (1)), .int .i64 (3), a0k (t.2.2.2.2)] ((q.drop ((i).toNat + 1)).flatMap eTx)) hT rfl rfl rfl rfl (a0a rfl) (a0n (a0m rfl)) rfl rfl rfl rfl (a0q (a0B rfl) a1t rfl) (by decide) (by decide) rfl (a5a (off := ((i).toNat * 5 + 3)) (n := 1) (j := 3) (a1P (sz := 5) (fun _ => rfl) (Nat.le_of_lt hit)) (by omega) (Nat.le_of_ble_eq_true rfl)) (a3X (off := ((i).toNat * 5 + 3)) (j := 3) (a1P (sz := 5) (fun _ => rfl) (Nat.le_of_lt hit)) (by omega) rfl (Nat.le_of_ble_eq_true rfl)) ?_
     simp only [a0l, a0i, SV.kill, CV.kill, kk, Nat.reduceBEq]
     refine z ?_
     refine a0o ?_
     refine z ?_
     refine yO rfl rfl (a2C rfl (a0a rfl)) rfl ?_
     refine z ?_
     refine a2Y (js := []) (cs := mid ((q.take (i).toNat).flatMap eTx) [.int .i64 (t.1), a1m (t.2.1), .int .i64 ((t.2.2.1) + (1)), .int .i64 (3), .sl 60 3 0 []] ((q.drop ((i).toNat + 1)).flatMap eTx)) hT rfl rfl rfl rfl (a0a rfl) a0P rfl rfl rfl rfl (a0q (a7m (e := 60) (sz := 3) rfl) a1t rfl) (by decide) (by decide) rfl (a5a (off := ((i).toNat * 5 + 4)) (n := 1) (j := 4) (a1P (sz := 5) (fun _ => rfl) (Nat.le_of_lt hit)) (by omega) (Nat.le_of_ble_eq_true rfl)) (a3X (off := ((i).toNat * 5 + 4)) (j := 4) (a1P (sz := 5) (fun _ => rfl) (Nat.le_of_lt hit)) (by omega) rfl (Nat.le_of_ble_eq_true rfl)) ?_
     simp only [a0l, a0i, SV.kill, CV.kill, kk, Nat.reduceBEq]
     refine z ?_
     refine a0p ?_
     refine a5b 6 (oB := [3, 4, 7, 9, 10]) (oK := [90031, 90900, 95031]) (by kernel_rfl) rfl rfl ?_
     refine a1r 0 rfl (by kernel_rfl) rfl rfl (a2v hT rfl rfl (a0a rfl) rfl rfl) rfl rfl rfl rfl rfl ?_
     refine a1r 1 rfl (by kernel_rfl) rfl rfl (a2v hT rfl rfl (a0a rfl) rfl rfl) rfl rfl rfl rfl rfl ?_
     refine a4W 2 rfl (by kernel_rfl) rfl hT rfl rfl rfl (a0a rfl) (a0a rfl) rfl rfl rfl rfl rfl rfl ?_
     refine a4G [3, 4] rfl rfl (by kernel_rfl) ?_
     iterate 3 refine z ?_
     have hfin : a3P d t.2.2.2.2 = c := by rw [hi, List.drop_of_length_le (by omega)]; rfl
     rw [b4T hb1 ht hin hok, hfin]
     refine a0h (σ' := ⟨[(6, .box 6 0), (7, .box 7 0), (8, .one (.dv [] (.bool (true))))], [(6, 27, [(.dv [] (.str (c.1))), (.dv [] (.int .i64 (c.2.1))), (.key 90031), (.key 90900)]), (7, 30, [(.key 95031)])], [(90031, some (a0b false (a0k (c.2.2.1)))), (90900, some (a0b false (a0r (c.2.2.2)))), (95031, some (a0b false (a1q (q.set (i).toNat (t.1, t.2.1, t.2.2.1 + 1, (3 : Int), ([] : List a0u))))))]⟩) (a0e ⟨rfl, rfl, rfl, trivial⟩ ⟨rfl, rfl, trivial⟩ ⟨rfl, rfl, (a9j hit (t.1, t.2.1, t.2.2.1 + 1, (3 : Int), ([] : List a0u))), trivial⟩ rfl) ?_
     refine z ?_
     refine a1J (a0C hT rfl rfl rfl rfl) (a0C hT rfl rfl rfl rfl) (a0v rfl) rfl rfl rfl ?_
     first | exact ⟨rfl, rfl⟩ | skip
   ·have hok : (a0E d (t.2.1.getD (t.2.2.1).toNat default)).2.2 = true := by simpa using c3
    refine a0p ?_
    refine a1L (oB := [3, 4, 6, 7, 9, 10, 13]) (oK := [90031, 90900, 95031]) (by kernel_rfl) rfl rfl ?_
    refine zD 0 ?_
    refine a1k 1 rfl (by kernel_rfl) rfl rfl (a2C rfl (a0a rfl)) rfl rfl rfl rfl ?_
    refine zD 2 ?_
    refine a1k 3 rfl (by kernel_rfl) rfl rfl (a4j hT rfl rfl (a0a rfl) rfl (a3n (off := ((i).toNat * 5 + 2)) (j := 2) (a1P (sz := 5) (fun _ => rfl) (Nat.le_of_lt hit)) (by omega) rfl)) rfl rfl rfl rfl ?_
    refine zD 4 ?_
    refine a1k 5 rfl (by kernel_rfl) rfl rfl (a2C rfl (a0a rfl)) rfl rfl rfl rfl ?_
    refine zD 6 ?_
    refine a1k 7 rfl (by kernel_rfl) rfl rfl (a4j hT rfl rfl (a0a rfl) rfl (a3n (off := ((i).toNat * 5 + 1)) (j := 1) (a1P (sz := 5) (fun _ => rfl) (Nat.le_of_lt hit)) (by omega) rfl)) rfl rfl rfl rfl ?_
    refine a1k 8 rfl (by kernel_rfl) rfl rfl (a4I hT rfl rfl (a7L (a0a rfl))) rfl rfl rfl rfl ?_
    refine zD 9 ?_
    refine a4u 10 rfl (by kernel_rfl) rfl rfl rfl Tryz.call25 (a5h (n := (t.2.2.1) + (1)) (lo := 0) (hi := ((((t.2.1)).length : Int)) - (1)) ) (a0g (a0a rfl) (a0I a0c) (a0g (a0n (a0m rfl)) (a0I a0c) (a0g (a0a rfl) (a0I a0c) a0w))) rfl rfl rfl rfl ?_
    refine zD 11 ?_
    refine a2l (by kernel_rfl) ?_
    refine z ?_
    refine yQ rfl (fun c6 => ?_) fun c6 => ?_
    ·iterate 2 refine z ?_
     refine yO rfl rfl (a2C rfl (a0a rfl)) rfl ?_
     refine z ?_
     refine a2Y (js := []) (cs := mid ((q.take (i).toNat).flatMap eTx) [.int .i64 (t.1), a1m (t.2.1), .int .i64 ((t.2.2.1) + (1)), .int .i64 (2), a0k (t.2.2.2.2)] ((q.drop ((i).toNat + 1)).flatMap eTx)) hT rfl rfl rfl rfl (a0a rfl) (a0n (a0m rfl)) rfl rfl rfl rfl (a0q (a0B rfl) a1t rfl) (by decide) (by decide) rfl (a5a (off := ((i).toNat * 5 + 3)) (n := 1) (j := 3) (a1P (sz := 5) (fun _ => rfl) (Nat.le_of_lt hit)) (by omega) (Nat.le_of_ble_eq_true rfl)) (a3X (off := ((i).toNat * 5 + 3)) (j := 3) (a1P (sz := 5) (fun _ => rfl) (Nat.le_of_lt hit)) (by omega) rfl (Nat.le_of_ble_eq_true rfl)) ?_
     simp only [a0l, a0i, SV.kill, CV.kill, kk, Nat.reduceBEq]
     refine z ?_
     refine a0o ?_
     refine z ?_
     refine yO rfl rfl (a2C rfl (a0a rfl)) rfl ?_
     refine z ?_
     refine a2Y (js := []) (cs := mid ((q.take (i).toNat).flatMap eTx) [.int .i64 (t.1), a1m (t.2.1), .int .i64 ((t.2.2.1) + (1)), .int .i64 (2), .sl 60 3 0 []] ((q.drop ((i).toNat + 1)).flatMap eTx)) hT rfl rfl rfl rfl (a0a rfl) a0P rfl rfl rfl rfl (a0q (a7m (e := 60) (sz := 3) rfl) a1t rfl) (by decide) (by decide) rfl (a5a (off := ((i).toNat * 5 + 4)) (n := 1) (j := 4) (a1P (sz := 5) (fun _ => rfl) (Nat.le_of_lt hit)) (by omega) (Nat.le_of_ble_eq_true rfl)) (a3X (off := ((i).toNat * 5 + 4)) (j := 4) (a1P (sz := 5) (fun _ => rfl) (Nat.le_of_lt hit)) (by omega) rfl (Nat.le_of_ble_eq_true rfl)) ?_
     simp only [a0l, a0i, SV.kill, CV.kill, kk, Nat.reduceBEq]
     refine z ?_
     refine a0p ?_
     refine a5b 6 (oB := [3, 4, 7, 9, 10, 13]) (oK := [90031, 90900, 95031]) (by kernel_rfl) rfl rfl ?_
     refine a1r 0 rfl (by kernel_rfl) rfl rfl (a2v hT rfl rfl (a0a rfl) rfl rfl) rfl rfl rfl rfl rfl ?_
     refine a1r 1 rfl (by kernel_rfl) rfl rfl (a2v hT rfl rfl (a0a rfl) rfl rfl) rfl rfl rfl rfl rfl ?_
     refine a4W 2 rfl (by kernel_rfl) rfl hT rfl rfl rfl (a0a rfl) (a0a rfl) rfl rfl rfl rfl rfl rfl ?_
     refine a4G [3, 4] rfl rfl (by kernel_rfl) ?_
     iterate 3 refine z ?_
     rw [b8Z hb1 ht hin hok (by simpa only [tin, Bool.not_eq_true'] using c6)]
     refine a0h (σ' := ⟨[(6, .box 6 0), (7, .box 7 0), (8, .one (.dv [] (.bool (true))))], [(6, 27, [(.dv [] (.str ((a0E (d) ((t.2.1.getD (t.2.2.1).toNat default))).1.1))), (.dv [] (.int .i64 ((a0E (d) ((t.2.1.getD (t.2.2.1).toNat default))).1.2.1))), (.key 90031), (.key 90900)]), (7, 30, [(.key 95031)])], [(90031, some (a0b false (a0k ((a0E d (t.2.1.getD (t.2.2.1).toNat default)).1.2.2.1)))), (90900, some (a0b false (a0r ((a0E d (t.2.1.getD (t.2.2.1).toNat default)).1.2.2.2)))), (95031, some (a0b false (a1q (q.set (i).toNat (t.1, t.2.1, t.2.2.1 + 1, (2 : Int), ([] : List a0u))))))]⟩) (a0e ⟨rfl, rfl, rfl, trivial⟩ ⟨rfl, rfl, trivial⟩ ⟨rfl, rfl, (a9j hit (t.1, t.2.1, t.2.2.1 + 1, (2 : Int), ([] : List a0u))), trivial⟩ rfl) ?_
     refine z ?_
     refine a1J (a0C hT rfl rfl rfl rfl) (a0C hT rfl rfl rfl rfl) (a0v rfl) rfl rfl rfl ?_
     first | exact ⟨rfl, rfl⟩ | skip
    ·iterate 2 refine z ?_
     refine a0p ?_
     refine a5b 6 (oB := [3, 4, 7, 9, 10, 13]) (oK := [90031, 90900, 95031]) (by kernel_rfl) rfl rfl ?_
     refine a1r 0 rfl (by kernel_rfl) rfl rfl (a2v hT rfl rfl (a0a rfl) rfl rfl) rfl rfl rfl rfl rfl ?_
     refine a1r 1 rfl (by kernel_rfl) rfl rfl (a2v hT rfl rfl (a0a rfl) rfl rfl) rfl rfl rfl rfl rfl ?_
     refine a4W 2 rfl (by kernel_rfl) rfl hT rfl rfl rfl (a0a rfl) (a0a rfl) rfl rfl rfl rfl rfl rfl ?_
     refine a4G [3, 4] rfl rfl (by kernel_rfl) ?_
     iterate 3 refine z ?_
     rw [b8y hb1 ht hin hok (by simpa only [tin, Bool.not_eq_false'] using c6)]
     refine a0h (σ' := ⟨[(6, .box 6 0), (7, .box 7 0), (8, .one (.dv [] (.bool (true))))], [(6, 27, [(.dv [] (.str ((a0E (d) ((t.2.1.getD (t.2.2.1).toNat default))).1.1))), (.dv [] (.int .i64 ((a0E (d) ((t.2.1.getD (t.2.2.1).toNat default))).1.2.1))), (.key 90031), (.key 90900)]), (7, 30, [(.key 95031)])], [(90031, some (a0b false (a0k ((a0E d (t.2.1.getD (t.2.2.1).toNat default)).1.2.2.1)))), (90900, some (a0b false (a0r ((a0E d (t.2.1.getD (t.2.2.1).toNat default)).1.2.2.2)))), (95031, some (a0b false (a1q (q.set (i).toNat (t.1, t.2.1, t.2.2.1 + 1, t.2.2.2.1, t.2.2.2.2)))))]⟩) (a0e ⟨rfl, rfl, rfl, trivial⟩ ⟨rfl, rfl, trivial⟩ ⟨rfl, rfl, (a9j hit (t.1, t.2.1, t.2.2.1 + 1, t.2.2.2.1, t.2.2.2.2)), trivial⟩ rfl) ?_
     refine z ?_
     refine a1J (a0C hT rfl rfl rfl rfl) (a0C hT rfl rfl rfl rfl) (a0v rfl) rfl rfl rfl ?_
     first | exact ⟨rfl, rfl⟩ | skip
  ·have hin : tin t t.2.2.1 = false := c2
   iterate 6 refine z ?_
   refine yQ rfl (fun c7 => ?_) fun c7 => ?_
   ·exact absurd c7 (by simp)
   ·refine a0p ?_
    refine a1L (oB := [3, 4, 6, 7, 9, 10]) (oK := [90031, 90900, 95031]) (by kernel_rfl) rfl rfl ?_
    refine zD 0 ?_
    refine a1k 1 rfl (by kernel_rfl) rfl rfl (a2C rfl (a0a rfl)) rfl rfl rfl rfl ?_
    refine zD 2 ?_
    refine a1k 3 rfl (by kernel_rfl) rfl rfl (a4j hT rfl rfl (a0a rfl) rfl (a3n (off := ((i).toNat * 5 + 2)) (j := 2) (a1P (sz := 5) (fun _ => rfl) (Nat.le_of_lt hit)) (by omega) rfl)) rfl rfl rfl rfl ?_
    refine zD 4 ?_
    refine a1k 5 rfl (by kernel_rfl) rfl rfl (a2C rfl (a0a rfl)) rfl rfl rfl rfl ?_
    refine zD 6 ?_
    refine a1k 7 rfl (by kernel_rfl) rfl rfl (a4j hT rfl rfl (a0a rfl) rfl (a3n (off := ((i).toNat * 5 + 1)) (j := 1) (a1P (sz := 5) (fun _ => rfl) (Nat.le_of_lt hit)) (by omega) rfl)) rfl rfl rfl rfl ?_
    refine a1k 8 rfl (by kernel_rfl) rfl rfl (a4I hT rfl rfl (a7L (a0a rfl))) rfl rfl rfl rfl ?_
    refine zD 9 ?_
    refine a4u 10 rfl (by kernel_rfl) rfl rfl rfl Tryz.call25 (a5h (n := t.2.2.1) (lo := 0) (hi := ((((t.2.1)).length : Int)) - (1)) ) (a0g (a0a rfl) (a0I a0c) (a0g (a0n (a0m rfl)) (a0I a0c) (a0g (a0a rfl) (a0I a0c) a0w))) rfl rfl rfl rfl ?_
    refine zD 11 ?_
    refine a2l (by kernel_rfl) ?_
    refine z ?_
    refine yQ rfl (fun c8 => ?_) fun c8 => ?_
    ·iterate 2 refine z ?_
     refine yO rfl rfl (a2C rfl (a0a rfl)) rfl ?_
     refine z ?_
     refine a2Y (js := []) (cs := mid ((q.take (i).toNat).flatMap eTx) [.int .i64 (t.1), a1m (t.2.1), .int .i64 (t.2.2.1), .int .i64 (2), a0k (t.2.2.2.2)] ((q.drop ((i).toNat + 1)).flatMap eTx)) hT rfl rfl rfl rfl (a0a rfl) (a0n (a0m rfl)) rfl rfl rfl rfl (a0q (a0B rfl) a1t rfl) (by decide) (by decide) rfl (a5a (off := ((i).toNat * 5 + 3)) (n := 1) (j := 3) (a1P (sz := 5) (fun _ => rfl) (Nat.le_of_lt hit)) (by omega) (Nat.le_of_ble_eq_true rfl)) (a3X (off := ((i).toNat * 5 + 3)) (j := 3) (a1P (sz := 5) (fun _ => rfl) (Nat.le_of_lt hit)) (by omega) rfl (Nat.le_of_ble_eq_true rfl)) ?_
     simp only [a0l, a0i, SV.kill, CV.kill, kk, Nat.reduceBEq]
     refine z ?_
     refine a0o ?_
     refine z ?_
     refine yO rfl rfl (a2C rfl (a0a rfl)) rfl ?_
     refine z ?_
     refine a2Y (js := []) (cs := mid ((q.take (i).toNat).flatMap eTx) [.int .i64 (t.1), a1m (t.2.1), .int .i64 (t.2.2.1), .int .i64 (2), .sl 60 3 0 []] ((q.drop ((i).toNat + 1)).flatMap eTx)) hT rfl rfl rfl rfl (a0a rfl) a0P rfl rfl rfl rfl (a0q (a7m (e := 60) (sz := 3) rfl) a1t rfl) (by decide) (by decide) rfl (a5a (off := ((i).toNat * 5 + 4)) (n := 1) (j := 4) (a1P (sz := 5) (fun _ => rfl) (Nat.le_of_lt hit)) (by omega) (Nat.le_of_ble_eq_true rfl)) (a3X (off := ((i).toNat * 5 + 4)) (j := 4) (a1P (sz := 5) (fun _ => rfl) (Nat.le_of_lt hit)) (by omega) rfl (Nat.le_of_ble_eq_true rfl)) ?_
     simp only [a0l, a0i, SV.kill, CV.kill, kk, Nat.reduceBEq]
     refine z ?_
     refine a0p ?_
     refine a5b 6 (oB := [3, 4, 7, 9, 10]) (oK := [90031, 90900, 95031]) (by kernel_rfl) rfl rfl ?_
     refine a1r 0 rfl (by kernel_rfl) rfl rfl (a2v hT rfl rfl (a0a rfl) rfl rfl) rfl rfl rfl rfl rfl ?_
     refine a1r 1 rfl (by kernel_rfl) rfl rfl (a2v hT rfl rfl (a0a rfl) rfl rfl) rfl rfl rfl rfl rfl ?_
     refine a4W 2 rfl (by kernel_rfl) rfl hT rfl rfl rfl (a0a rfl) (a0a rfl) rfl rfl rfl rfl rfl rfl ?_
     refine a4G [3, 4] rfl rfl (by kernel_rfl) ?_
     iterate 3 refine z ?_
     rw [b6s hb1 ht hin]
     refine a0h (σ' := ⟨[(6, .box 6 0), (7, .box 7 0), (8, .one (.dv [] (.bool (true))))], [(6, 27, [(.dv [] (.str ((d).1))), (.dv [] (.int .i64 ((d).2.1))), (.key 90031), (.key 90900)]), (7, 30, [(.key 95031)])], [(90031, some (a0b false (a0k (d.2.2.1)))), (90900, some (a0b false (a0r (d.2.2.2)))), (95031, some (a0b false (a1q (q.set (i).toNat (t.1, t.2.1, t.2.2.1, (2 : Int), ([] : List a0u))))))]⟩) (a0e ⟨rfl, rfl, rfl, trivial⟩ ⟨rfl, rfl, trivial⟩ ⟨rfl, rfl, (a9j hit (t.1, t.2.1, t.2.2.1, (2 : Int), ([] : List a0u))), trivial⟩ rfl) ?_
     refine z ?_
     refine a1J (a0C hT rfl rfl rfl rfl) (a0C hT rfl rfl rfl rfl) (a0v rfl) rfl rfl rfl ?_
     first | exact ⟨rfl, rfl⟩ | skip
    ·exact absurd c8 (by rw [c2]; simp)

end Go.Proofs.YtjkpoekgnmgofaaGreat

namespace Go.Proofs.YtjkpoekgnmgofaaGreat
open Go.RowKit
open Go.Proofs
set_option linter.unusedVariables false
set_option linter.unusedSimpArgs false
def a3t (n : Str) : List a0u → Nat
 | [] => 0
 | s :: l => if sLt s.1 n then a3t n l + 1 else 0
def a4D (l : List a0u) (j : Nat) (s : a0u) : List a0u := l.take j ++ s :: l.drop j
@[reducible] def a4z (d : DbT) (x : a3d) : Int := a0j (a1v x) d.2.2.2 0
def a3E (n : Str) (y : a3d) : Bool := !sEq y.1 n
def a2K (n : Str) (s : a0u) : Bool := !sEq s.1 n
def upI (d : DbT) (u : a6m) : DbT × Bool :=
 if u.1 = 1 then ((d.1, d.2.1, a4D d.2.2.1 (a3t u.2.1 d.2.2.1) (u.2.1, [], 0), d.2.2.2), decide (a0J d u.2.1 < 0))
 else if u.1 = 2 then ((d.1, d.2.1, (if 0 ≤ a0J d u.2.1 then d.2.2.1.eraseIdx (a0J d u.2.1).toNat else d.2.2.1), d.2.2.2.filter (a3E u.2.1)), decide (0 ≤ a0J d u.2.1))
 else if u.1 = 3 then ((d.1, d.2.1, d.2.2.1, d.2.2.2 ++ [u.2]), decide (a4z d u.2 < 0))
 else if u.1 = 4 then ((d.1, d.2.1, d.2.2.1, (if 0 ≤ a4z d u.2 then d.2.2.2.eraseIdx (a4z d u.2).toNat else d.2.2.2)), decide (0 ≤ a4z d u.2))
 else (d, false)
def upA (d : DbT) (u : a6m) : DbT × Bool := if (!a0F d || !(upI d u).2 || !a0F (upI d u).1) = true then (d, false) else ((upI d u).1, true)
def a3H (d : DbT) (n : Str) : DbT := (d.1, d.2.1, d.2.2.1.filter (a2K n), d.2.2.2.filter (a3E n))
theorem c1k {n : Str} {l : List a0u} {j : Nat} (hp : a3t n l = j + a3t n (l.drop j)) (h3 : j < l.length) (h2 : sLt (l.getD (j : Int).toNat default).1 n = true) : a3t n l = (j + 1) + a3t n (l.drop (j + 1)) := by
 have e : l.drop j = l.getD (j : Int).toNat default :: l.drop (j + 1) := by rw [List.drop_eq_getElem_cons h3]; simp [List.getD, List.getElem?_eq_getElem h3]
 rw [hp, e, a3t, if_pos h2]
 omega
theorem c2z {n : Str} {l : List a0u} {j : Nat} (hp : a3t n l = j + a3t n (l.drop j)) (hj : j ≤ l.length) (h2 : (decide ((j : Int) < (l.length : Int)) && sLt (l.getD (j : Int).toNat default).1 n) = false) : a3t n l = j := by
 rcases Nat.lt_or_ge j l.length with h3 | h3
 ·rw [decide_eq_true (by omega : (j : Int) < (l.length : Int)), Bool.true_and] at h2
  have e : l.drop j = l.getD (j : Int).toNat default :: l.drop (j + 1) := by rw [List.drop_eq_getElem_cons h3]; simp [List.getD, List.getElem?_eq_getElem h3]
  rw [hp, e, a3t, if_neg (by rw [h2]; simp)]; omega
 ·rw [hp, List.drop_eq_nil_of_le h3, a3t]; omega
theorem c5P {l : List a0u} {j : Nat} {s : a0u} (h : j ≤ l.length) : (a4D l j s).length = l.length + 1 := by
 rw [a4D, List.length_append, List.length_cons, List.length_take, List.length_drop]; omega
def a8k : List a0u → Prop
 | [] => True
 | y :: ys => (∀ z ∈ ys, sLt y.1 z.1 = true) ∧ a8k ys
theorem b6D : ∀ (l : List a0u), (∀ i, i + 1 < l.length → sLt (l.getD i default).1 (l.getD (i + 1) default).1 = true) → a8k l
 | [], _ => trivial
 | [y], _ => ⟨by simp, trivial⟩
 | y :: z :: l, h => by
  have ih := b6D (z :: l) (fun i hi => by have := h (i + 1) (by simp only [List.length_cons] at hi ⊢; omega); simpa using this)
  have h0 : sLt y.1 z.1 = true := by simpa using h 0 (by simp)
  refine ⟨fun u hu => ?_, ih⟩
  rcases List.mem_cons.1 hu with rfl | hu
  ·exact h0
  ·exact a6p _ _ _ h0 (ih.1 u hu)
theorem b2g {d : DbT} (h : a0F d = true) : a8k d.2.2.1 := by
 refine b6D _ (fun i hi => ?_)
 rw [a0F, Bool.and_eq_true, Bool.and_eq_true] at h
 have h1 := h.2.1
 rw [a4X, List.all_eq_true] at h1
 have h2 := h1 (i + 1) (List.mem_range.2 hi)
 rw [← b0D] at h2
 simp only [a8G, Bool.not_eq_true', Bool.or_eq_false_iff] at h2
 have h3 := h2.2
 rw [decide_eq_true (by omega : (0 : Int) < ((i + 1 : Nat) : Int)), Bool.true_and, show (((i + 1 : Nat) : Int) - 1).toNat = i by omega, Int.toNat_natCast] at h3
 simpa using h3
theorem a6S {a b : Str} (h : sLt a b = true) : sEq a b = false ∧ sEq b a = false := by
 have e : sEq a b = false := by
  cases h2 : sEq a b with
  | false => rfl
  | true =>
   have : a.toList = b.toList := by simpa [sEq] using h2
   rw [sLt, this, a6A] at h; cases h
 exact ⟨e, by rw [b2O]; exact e⟩
theorem b8O (n : Str) (s : a0u) : a2K n s = !a0y n s := rfl
theorem c2e {n : Str} {l : List a0u} (h : ∀ z ∈ l, sEq z.1 n = false) : l.filter (a2K n) = l := by
 rw [List.filter_eq_self]
 intro y hy
 rw [a2K, h y hy]; rfl
theorem b6I {n : Str} : ∀ (l : List a0u) (i : Int), 0 ≤ i → a8k l → i ≤ a0j (a0y n) l i → l.filter (a2K n) = l.eraseIdx (a0j (a0y n) l i - i).toNat
 | [], i, hi, _, h => by rw [a0j] at h; omega
 | y :: ys, i, hi, hs, h => by
  by_cases hp : a0y n y = true
  ·rw [a0j, if_pos hp, show (i - i).toNat = 0 by omega, List.eraseIdx_cons_zero, List.filter_cons_of_neg (by rw [b8O, hp]; simp)]
   refine c2e (fun z hz => ?_)
   have h1 := hs.1 z hz
   cases h2 : sEq z.1 n with
   | false => rfl
   | true =>
    have e1 : z.1.toList = n.toList := by simpa [sEq] using h2
    have e2 : y.1.toList = n.toList := by simpa [a0y, sEq] using hp
    rw [sLt, e1, e2, a6A] at h1; cases h1
  ·rw [a0j, if_neg hp] at h ⊢
   have h1 : i + 1 ≤ a0j (a0y n) ys (i + 1) := by
    rcases a6y (p := a0y n) (d := default) ys (i + 1) (by omega) with ⟨h2, _⟩ | ⟨m, _, h2, _, _⟩ <;> omega
   have ih := b6I ys (i + 1) (by omega) hs.2 h1
   rw [show (a0j (a0y n) ys (i + 1) - i).toNat = (a0j (a0y n) ys (i + 1) - (i + 1)).toNat + 1 by omega, List.eraseIdx_cons_succ, List.filter_cons_of_pos (by rw [b8O]; simpa using hp), ih]
theorem c3R {d : DbT} {n : Str} (h : a0F d = true) (hk : 0 ≤ a0J d n) : d.2.2.1.filter (a2K n) = d.2.2.1.eraseIdx (a0J d n).toNat := by
 have := b6I (n := n) d.2.2.1 0 (by omega) (b2g h) hk
 rw [this, Int.sub_zero]
section
variable {d : DbT} {u : a6m}
theorem c5J (h : a0F d = false) : upA d u = (d, false) := by rw [upA, if_pos (by rw [h]; rfl)]
theorem a9C (h : (upI d u).2 = false) : upA d u = (d, false) := by rw [upA, if_pos (by rw [h]; simp)]
theorem b0v {o : DbT} (e : a0F d = true → (upI d u).1 = o) (h : (!a0F d || !a0F o) = true) : upA d u = (d, false) := by
 cases hd : a0F d with
 | false => exact c5J hd
 | true =>
  rw [hd] at h
  rw [upA, if_pos (by rw [e hd]; simp only [Bool.not_true, Bool.false_or] at h; rw [h]; simp)]
theorem a9N {o : DbT} (e : a0F d = true → (upI d u).1 = o) (e2 : (upI d u).2 = true) (h : (!a0F d || !a0F o) = false) : upA d u = (o, true) := by
 simp only [Bool.or_eq_false_iff, Bool.not_eq_false'] at h
 rw [upA, if_neg (by rw [e h.1, h.1, e2, h.2]; simp), e h.1]
theorem c1G {x : a3d} (h : a0J d x.1 < 0) : a0F (d.1, d.2.1, d.2.2.1, d.2.2.2 ++ [x]) = false := by
 refine a7S (k := d.2.2.2.length) (by simp) ?_
 have e : (d.2.2.2 ++ [x]).getD ((d.2.2.2.length : Nat) : Int).toNat default = x := by simp [List.getD]
 unfold a2N
 simp only [e]
 rw [decide_eq_true (show a0J (d.1, d.2.1, d.2.2.1, d.2.2.2 ++ [x]) x.1 < 0 from h)]
 rfl
theorem c3w (h1 : u.1 = 3) (h : a0J d u.2.1 < 0) : upA d u = (d, false) := by
 have e : (upI d u).1 = (d.1, d.2.1, d.2.2.1, d.2.2.2 ++ [u.2]) := by unfold upI; rw [if_neg (by omega), if_neg (by omega), if_pos h1]
 rw [upA, if_pos (by rw [e, c1G h]; simp)]
theorem a9R (h1 : u.1 = 1) : upI d u = ((d.1, d.2.1, a4D d.2.2.1 (a3t u.2.1 d.2.2.1) (u.2.1, [], 0), d.2.2.2), decide (a0J d u.2.1 < 0)) := by unfold upI; rw [if_pos h1]
theorem b6o (h1 : u.1 = 2) (h : 0 ≤ a0J d u.2.1) : upI d u = ((d.1, d.2.1, d.2.2.1.eraseIdx (a0J d u.2.1).toNat, d.2.2.2.filter (a3E u.2.1)), decide (0 ≤ a0J d u.2.1)) := by unfold upI; rw [if_neg (by omega), if_pos h1, if_pos h]
theorem c6j (h1 : u.1 = 2) (h : ¬ 0 ≤ a0J d u.2.1) : upI d u = ((d.1, d.2.1, d.2.2.1, d.2.2.2.filter (a3E u.2.1)), decide (0 ≤ a0J d u.2.1)) := by unfold upI; rw [if_neg (by omega), if_pos h1, if_neg h]
theorem b0n (h1 : u.1 = 3) : upI d u = ((d.1, d.2.1, d.2.2.1, d.2.2.2 ++ [u.2]), decide (a4z d u.2 < 0)) := by unfold upI; rw [if_neg (by omega), if_neg (by omega), if_pos h1]
theorem b2p (h1 : u.1 = 4) (h : 0 ≤ a4z d u.2) : upI d u = ((d.1, d.2.1, d.2.2.1, d.2.2.2.eraseIdx (a4z d u.2).toNat), decide (0 ≤ a4z d u.2)) := by unfold upI; rw [if_neg (by omega), if_neg (by omega), if_neg (by omega), if_pos h1, if_pos h]
theorem c3T (h1 : u.1 = 4) (h : ¬ 0 ≤ a4z d u.2) : upI d u = (d, decide (0 ≤ a4z d u.2)) := by unfold upI; rw [if_neg (by omega), if_neg (by omega), if_neg (by omega), if_pos h1, if_neg h]
theorem c4n (h1 : u.1 ≠ 1) (h2 : u.1 ≠ 2) (h3 : u.1 ≠ 3) (h4 : u.1 ≠ 4) : upI d u = (d, false) := by unfold upI; rw [if_neg h1, if_neg h2, if_neg h3, if_neg h4]
theorem c5l (h1 : ¬ (u.1 = 1 ∧ a0J d u.2.1 < 0)) (h2 : ¬ (u.1 = 2 ∧ 0 ≤ a0J d u.2.1)) (h3 : ¬ (u.1 = 3 ∧ 0 ≤ a0J d u.2.1 ∧ a4z d u.2 < 0)) (h4 : ¬ (u.1 = 4 ∧ 0 ≤ a4z d u.2)) : upA d u = (d, false) := by
 by_cases e1 : u.1 = 1
 ·exact a9C (by rw [a9R e1]; exact decide_eq_false (fun h => h1 ⟨e1, h⟩))
 by_cases e2 : u.1 = 2
 ·have h : ¬ 0 ≤ a0J d u.2.1 := fun h => h2 ⟨e2, h⟩
  exact a9C (by rw [c6j e2 h]; exact decide_eq_false h)
 by_cases e3 : u.1 = 3
 ·by_cases h : a0J d u.2.1 < 0
  ·exact c3w e3 h
  ·exact a9C (by rw [b0n e3]; exact decide_eq_false (fun h' => h3 ⟨e3, by omega, h'⟩))
 by_cases e4 : u.1 = 4
 ·have h : ¬ 0 ≤ a4z d u.2 := fun h => h4 ⟨e4, h⟩
  exact a9C (by rw [c3T e4 h]; exact decide_eq_false h)
 exact a9C (by rw [c4n e1 e2 e3 e4])
theorem b4p (h1 : u.1 = 2) (h : 0 ≤ a0J d u.2.1) (hd : a0F d = true) : (upI d u).1 = a3H d u.2.1 := by rw [b6o h1 h, a3H, c3R hd h]
end

end Go.Proofs.YtjkpoekgnmgofaaGreat

namespace Go.Proofs.YtjkpoekgnmgofaaGreat
open Go.RowKit
open Go.Proofs
set_option linter.unusedVariables false
set_option linter.unusedSimpArgs false

section
variable {α : Type} {enc : α → List DV} {sz : Nat} {x : List α} {i j : Int}
theorem b5E (h0 : 0 ≤ i) (hlt : i < (x.length : Int)) : x.length - 1 = (x.eraseIdx i.toNat).length := by rw [List.length_eraseIdx_of_lt (by omega)]
theorem c3N (hs : ∀ y, (enc y).length = sz) (h0 : 0 ≤ i) (hlt : i < (x.length : Int)) : ((x.eraseIdx i.toNat).flatMap enc).length = (x.length - 1) * sz := by rw [a3V hs, ← b5E h0 hlt]
theorem b9J (hs : ∀ y, (enc y).length = sz) (h0 : 0 ≤ i) (hj : j = i + 1) (hlt : i < (x.length : Int)) : (x.flatMap enc).take (i.toNat * sz) ++ ((x.flatMap enc).drop (j.toNat * sz) ++ List.replicate ((j.toNat - i.toNat) * sz) .hole) = (x.eraseIdx i.toNat).flatMap enc ++ List.replicate sz .hole := by
 have e1 : j.toNat = i.toNat + 1 := by omega
 rw [e1, (a5n hs i.toNat x).1, (a5n hs (i.toNat + 1) x).2, show (i.toNat + 1 - i.toNat) * sz = sz by rw [show i.toNat + 1 - i.toNat = 1 by omega, Nat.one_mul], List.eraseIdx_eq_take_drop_succ, List.flatMap_append, List.append_assoc]
theorem c0b {m : Nat} (hm : m = x.length - 1) (hs : ∀ y, (enc y).length = sz) (h0 : 0 ≤ i) (hlt : i < (x.length : Int)) : ((x.eraseIdx i.toNat).flatMap enc ++ List.replicate sz DV.hole).take (m * sz) = (x.eraseIdx i.toNat).flatMap enc := by
 subst hm
 exact List.take_left' (c3N hs h0 hlt)
variable [Inhabited α] {q : α → Bool}
end
end Go.Proofs.YtjkpoekgnmgofaaGreat

namespace Go.Proofs.YtjkpoekgnmgofaaGreat
open Go.RowKit
open Go.Proofs
set_option linter.unusedVariables false
set_option linter.unusedSimpArgs false

theorem c4o {o : List a0u} {j : Nat} : ([] : List DV) ++ sub (0 * 3) ((((j : Nat) : Int).toNat - 0) * 3) (o.flatMap a0T) = (o.take j).flatMap a0T := by
 obtain ⟨h1, h2⟩ := a5n (enc := a0T) (sz := 3) (fun _ => rfl) j o
 rw [Int.toNat_natCast, Nat.sub_zero, Nat.zero_mul, sub, List.drop_zero, List.nil_append, h1]
theorem c3W {o : List a0u} {j : Nat} : a4P (o.flatMap a0T) (0 * 3) ((((j : Nat) : Int).toNat - 0) * 3) = List.replicate (j * 3) .hole ++ (o.drop j).flatMap a0T := by
 obtain ⟨h1, h2⟩ := a5n (enc := a0T) (sz := 3) (fun _ => rfl) j o
 rw [Int.toNat_natCast, Nat.sub_zero, Nat.zero_mul, a4P, List.drop_zero, h2]; rfl
theorem c4H {o : List a0u} {j : Nat} {el : a0u} (hj : j ≤ o.length) : (o.take j ++ [el]).flatMap a0T ++ sub (((j : Nat) : Int).toNat * 3) ((o.length - ((j : Nat) : Int).toNat) * 3) (List.replicate (j * 3) .hole ++ (o.drop j).flatMap a0T) = (a4D o j el).flatMap a0T := by
 have hl : ((o.drop j).flatMap a0T).length = (o.length - j) * 3 := by rw [a3V (sz := 3) (fun _ => rfl), List.length_drop]
 have e : (List.replicate (j * 3) DV.hole ++ (o.drop j).flatMap a0T).drop (j * 3) = (o.drop j).flatMap a0T := by
  have h := List.drop_left (l₁ := List.replicate (j * 3) DV.hole) (l₂ := (o.drop j).flatMap a0T)
  rwa [List.length_replicate] at h
 rw [Int.toNat_natCast, sub, e, List.take_of_length_le (l := (o.drop j).flatMap a0T) (by rw [hl]; exact Nat.le_refl _), a4D, List.flatMap_append, List.flatMap_append, List.flatMap_cons, List.flatMap_cons, List.flatMap_nil, List.append_nil, List.append_assoc]
section
variable {α : Type} [Inhabited α] {enc : α → List DV} {p : α → Bool} {xs : List α} {k : Nat}
theorem b5i (hk : k < xs.length) : (xs.take (k + 1)).filter p = (xs.take k).filter p ++ (if p (xs.getD (k : Int).toNat default) then [xs.getD (k : Int).toNat default] else []) := by
 rw [List.take_add_one, List.getElem?_eq_getElem hk, List.filter_append, a5r hk]
 congr 1
 simp [List.filter]
 split <;> rename_i h <;> simp [h]
theorem b1o (hk : k < xs.length) (h : p (xs.getD (k : Int).toNat default) = true) : ((xs.take k).filter p).flatMap enc ++ enc (xs.getD (k : Int).toNat default) = ((xs.take (k + 1)).filter p).flatMap enc ∧ ((xs.take k).filter p).length + 1 = ((xs.take (k + 1)).filter p).length := by
 rw [b5i hk, if_pos h, List.flatMap_append, List.flatMap_cons, List.flatMap_nil, List.append_nil, List.length_append]
 exact ⟨rfl, rfl⟩
theorem b5r (hk : k < xs.length) (h : p (xs.getD (k : Int).toNat default) = false) : (xs.take k).filter p = (xs.take (k + 1)).filter p := by
 rw [b5i hk, if_neg (by rw [h]; simp), List.append_nil]
end
theorem b9P {d : DbT} {u : a6m}  : PFn Tryz.prog 103 [.agg [(.dv [] (.str (d.1))), (.dv [] (.int .i64 (d.2.1))), (.dv [] (a0k (d.2.2.1))), (.dv [] (a0r (d.2.2.2)))], .agg [(.dv [] (.int .i64 (u.1))), (.dv [] (.str (u.2.1))), (.dv [] (.str (u.2.2)))]] (.one (.dv [] (.int .i64 (a0j (a1v u.2) d.2.2.2 0)))) := by
 refine ⟨a0R Tryz.func103 rfl Tryz.ntmps103 Tryz.results103 rfl (fun C => ?_)⟩
 refine yF 0 0 rfl rfl fun f0_0 => ?_
 refine yF 0 1 rfl rfl fun f0_1 => ?_
 refine yF 0 2 rfl rfl fun f0_2 => ?_
 refine yF 0 3 rfl rfl fun f0_3 => ?_
 refine yF 1 0 rfl rfl fun f1_0 => ?_
 refine yF 1 1 rfl rfl fun f1_1 => ?_
 refine yF 1 2 rfl rfl fun f1_2 => ?_
 iterate 10 refine z ?_
 refine a1f (ι := Nat) (fun zz => ⟨[(2, .box 2 0), (3, .box 3 0), (5, .one (.dv [] (.int .i64 ((zz : Int)))))], [(2, 27, [(.dv [] (.str (d.1))), (.dv [] (.int .i64 (d.2.1))), (.dv [] (a0k (d.2.2.1))), (.dv [] (a0r (d.2.2.2)))]), (3, 110, [(.dv [] (.int .i64 (u.1))), (.dv [] (.str (u.2.1))), (.dv [] (.str (u.2.2)))])], []⟩) (fun zz => zz ≤ d.2.2.2.length ∧ (d.2.2.2.take zz).any (a1v u.2) = false) (fun zz => d.2.2.2.length - zz) (0) ?_ (a0e ⟨rfl, rfl, rfl, trivial⟩ ⟨rfl, rfl, trivial⟩ trivial rfl) (fun zz hx => ?_)
 ·exact ⟨Nat.zero_le _, rfl⟩
 obtain ⟨k, rfl⟩ : ∃ v, v = zz := ⟨_, rfl⟩
 replace hx : k ≤ d.2.2.2.length ∧ (d.2.2.2.take k).any (a1v u.2) = false := hx
 obtain ⟨hk, hall⟩ := hx
 show Ok _ _ _ _ _ (⟨[(2, .box 2 0), (3, .box 3 0), (5, .one (.dv [] (.int .i64 ((k : Int)))))], [(2, 27, [(.dv [] (.str (d.1))), (.dv [] (.int .i64 (d.2.1))), (.dv [] (a0k (d.2.2.1))), (.dv [] (a0r (d.2.2.2)))]), (3, 110, [(.dv [] (.int .i64 (u.1))), (.dv [] (.str (u.2.1))), (.dv [] (.str (u.2.2)))])], []⟩ : St)
 iterate 8 refine z ?_
 refine yQ rfl (fun c1 => ?_) fun c1 => ?_
 ·have d1 := of_decide_eq_true c1
  iterate 4 refine z ?_
  refine a0p ?_
  refine a1L (oB := [2, 3]) (oK := []) (by kernel_rfl) rfl rfl ?_
  refine zD 0 ?_
  refine zD 1 ?_
  refine zD 2 ?_
  refine zD 3 ?_
  refine zD 4 ?_
  refine zD 5 ?_
  refine zD 6 ?_
  refine zD 7 ?_
  refine zD 8 ?_
  refine zD 9 ?_
  refine zDG 10 ?_
  refine zDG 11 ?_
  refine zDG 12 ?_
  refine zDG 13 ?_
  refine zDG 14 ?_
  refine zDG 15 ?_
  refine zDG 16 ?_
  refine zDG 17 ?_
  refine zDG 18 ?_
  refine zD 19 ?_
  refine a2l (by kernel_rfl) ?_
  refine z ?_
  refine yQ rfl (fun c2 => ?_) fun c2 => ?_
  ·iterate 11 refine z ?_
   exact (a6h (p := a1v u.2) (d := default) hall (by omega) (by rw [a9V]; exact c2)).symm
  ·iterate 3 refine z ?_
   refine a0o ?_
   iterate 4 refine z ?_
   refine ⟨k + 1, ?_, ?_, a0e ⟨rfl, rfl, rfl, trivial⟩ ⟨rfl, rfl, trivial⟩ trivial rfl⟩
   ·exact ⟨by omega, a6e (d := default) hall (by omega) (by rw [a9V]; exact c2)⟩
   ·omega
 ·have d1 := of_decide_eq_false c1
  iterate 10 refine z ?_
  exact (a5V (p := a1v u.2) hall (by omega)).symm
theorem b9S {d : DbT} {n : Str} (hb : a1B d ≤ 549755813888) : KFn Tryz.prog 104 [.agg [(.dv [] (.str (d.1))), (.dv [] (.int .i64 (d.2.1))), (.dv [] (a0k (d.2.2.1))), (.dv [] (a0r (d.2.2.2)))], .one (.dv [] (.str (n)))] (.agg [(.dv [] (.str ((a3H d n).1))), (.dv [] (.int .i64 ((a3H d n).2.1))), (.key 31), (.key 900)]) [(31, some (a0b false (a0k ((a3H d n).2.2.1)))), (900, some (a0b false (a0r ((a3H d n).2.2.2))))] := by
 refine ⟨a0R Tryz.func104 rfl Tryz.ntmps104 Tryz.results104 rfl (fun C => ?_)⟩
 have hw4 : a1B d = d.1.size + a1a a0X d.2.2.1 + a1a a2x d.2.2.2 := rfl
 have hw5 : a1a a0X d.2.2.1 = d.2.2.1.length + a0D a0X d.2.2.1 := rfl
 have hw6 : a1a a2x d.2.2.2 = d.2.2.2.length + a0D a2x d.2.2.2 := rfl
 refine yF 0 0 rfl rfl fun f0_0 => ?_
 refine yF 0 1 rfl rfl fun f0_1 => ?_
 refine yF 0 2 rfl rfl fun f0_2 => ?_
 refine yF 0 3 rfl rfl fun f0_3 => ?_
 refine a1i (x := .tmp 1) (a0a rfl) fun f1 => ?_
 iterate 9 refine z ?_
 refine yO rfl rfl (a1F hT hB rfl rfl rfl (a1b (a0a rfl) rfl rfl rfl rfl rfl (a1b (a0a rfl) rfl rfl rfl rfl rfl a1E))) rfl ?_
 iterate 3 refine z ?_
 refine a0p ?_
 refine a0p ?_
 refine a0h (a3a 31 (b := 5) (i := 2) (e := 60) (sz := 3) rfl rfl rfl rfl rfl) ?_
 simp only [a0l, a0i, SV.kill, CV.kill, kk, Nat.reduceBEq]
 refine a0h (a3a 900 (b := 5) (i := 3) (e := 78) (sz := 2) rfl rfl rfl rfl rfl) ?_
 simp only [a0l, a0i, SV.kill, CV.kill, kk, Nat.reduceBEq]
 refine a0o ?_
 iterate 3 refine z ?_
 refine a1f (ι := Nat) (fun zz => ⟨[(1, .one (.dv [] (.str (n)))), (2, .box 2 0), (4, .box 4 0), (5, .box 5 0), (6, .one (.dv [] (.int .i64 ((zz : Int)))))], [(2, 27, [(.dv [] (.str (d.1))), (.dv [] (.int .i64 (d.2.1))), (.dv [] (a0k (d.2.2.1))), (.dv [] (a0r (d.2.2.2)))]), (4, 27, [(.dv [] (.str (ByteArray.empty))), (.dv [] (.int .i64 (0))), .nil, .nil]), (5, 27, [(.dv [] (.str (d.1))), (.dv [] (.int .i64 (d.2.1))), (.key 31), (.key 900)])], [(31, some (a0b false (.sl 60 3 (((d.2.2.1.take zz).filter (a2K n)).length) (((d.2.2.1.take zz).filter (a2K n)).flatMap a0T)))), (900, some (a0b false (.sl 78 2 (0) ([]))))]⟩) (fun zz => zz ≤ d.2.2.1.length) (fun zz => d.2.2.1.length - zz) (0) ?_ (a0e ⟨rfl, rfl, rfl, rfl, rfl, trivial⟩ ⟨rfl, rfl, rfl, trivial⟩ ⟨rfl, rfl, trivial⟩ rfl) (fun zz hx => ?_)
 ·exact Nat.zero_le _
 obtain ⟨k, rfl⟩ : ∃ v, v = zz := ⟨_, rfl⟩
 replace hx : k ≤ d.2.2.1.length := hx
 have hw := fun h => a3j a0X d.2.2.1 k h
 show Ok _ _ _ _ _ (⟨[(1, .one (.dv [] (.str (n)))), (2, .box 2 0), (4, .box 4 0), (5, .box 5 0), (6, .one (.dv [] (.int .i64 ((k : Int)))))], [(2, 27, [(.dv [] (.str (d.1))), (.dv [] (.int .i64 (d.2.1))), (.dv [] (a0k (d.2.2.1))), (.dv [] (a0r (d.2.2.2)))]), (4, 27, [(.dv [] (.str (ByteArray.empty))), (.dv [] (.int .i64 (0))), .nil, .nil]), (5, 27, [(.dv [] (.str (d.1))), (.dv [] (.int .i64 (d.2.1))), (.key 31), (.key 900)])], [(31, some (a0b false (.sl 60 3 (((d.2.2.1.take k).filter (a2K n)).length) (((d.2.2.1.take k).filter (a2K n)).flatMap a0T)))), (900, some (a0b false (.sl 78 2 (0) ([]))))]⟩ : St)
 iterate 8 refine z ?_
 refine yQ rfl (fun c1 => ?_) fun c1 => ?_
 ·have d1 := of_decide_eq_true c1
  have hk2 : k < d.2.2.1.length := by omega
  obtain ⟨hw1, hw2⟩ := hw hk2
  iterate 14 refine z ?_
  refine yQ rfl (fun c2 => ?_) fun c2 => ?_
  ·refine a3G [0, 1, 2, 3, 4, 5, 6, 7, 8] (oB := [2, 4, 5]) (oK := [31, 900]) (by kernel_rfl) rfl rfl ?_
   refine zD 0 ?_
   refine zD 1 ?_
   refine zD 2 ?_
   refine zD 3 ?_
   refine zD 4 ?_
   refine zD 5 ?_
   refine zD 6 ?_
   refine a3f 35000 7 rfl (by kernel_rfl) rfl rfl rfl Tryz.call54 (a5W (x := (d.2.2.1.getD (k : Int).toNat default)) (by omega)) (a0g (a0a rfl) (a0t (a0d a0c (a0d a0c (a0d a0c a0s)))) a0w) rfl rfl rfl rfl rfl ?_
   refine a4o (k := 36) (js := [35030]) 8 hT rfl (by kernel_rfl) rfl rfl rfl rfl rfl rfl rfl rfl rfl (a0a rfl) rfl rfl (a0q (a0B rfl) (a0q (a2b rfl) (a0q (a0B rfl) a1t rfl) rfl) rfl) (by decide) (by decide) rfl rfl (by decide) ?_
   simp only [a0l, a0i, SV.kill, CV.kill, kk, Nat.reduceBEq]
   refine a2B [9, 10, 11] rfl rfl (by kernel_rfl) ?_
   refine a2z (k := 31) (j := 36) (cs := ((d.2.2.1.take (k + 1)).filter (a2K n)).flatMap a0T) (n := ((d.2.2.1.take (k + 1)).filter (a2K n)).length) hT rfl rfl rfl rfl rfl rfl rfl (a0a rfl) rfl rfl rfl (a0a rfl) rfl rfl (by decide) (by have := List.length_filter_le (a2K n) (d.2.2.1.take k); rw [List.length_take] at this; dsimp only [a0b, KC.old]; omega) (by have := List.length_filter_le (a2K n) (d.2.2.1.take k); rw [List.length_take] at this; dsimp only [a0b, KC.old]; omega) ((b1o (enc := a0T) hk2 c2).2) ((b1o (enc := a0T) hk2 c2).1) ?_
   simp only [a0l, a0i, SV.kill, CV.kill, kk, Nat.reduceBEq]
   iterate 2 refine z ?_
   refine a1z ?_
   iterate 2 refine z ?_
   refine a0o ?_
   iterate 4 refine z ?_
   refine ⟨k + 1, ?_, ?_, a0e ⟨rfl, rfl, rfl, rfl, rfl, trivial⟩ ⟨rfl, rfl, rfl, trivial⟩ ⟨rfl, rfl, trivial⟩ rfl⟩
   ·omega
   ·omega
  ·iterate 3 refine z ?_
   refine a0o ?_
   iterate 4 refine z ?_
   refine ⟨k + 1, ?_, ?_, a0e ⟨rfl, rfl, rfl, rfl, rfl, trivial⟩ ⟨rfl, rfl, rfl, trivial⟩ ⟨(congrArg (fun l : List (a0u) => some (some (KC.mk false 60 3 l.length (l.flatMap a0T)))) (b5r (p := a2K n) hk2 c2)), rfl, trivial⟩ rfl⟩
   ·omega
   ·omega
 ·have d1 := of_decide_eq_false c1
  have hfin : d.2.2.1.take k = d.2.2.1 := List.take_of_length_le (by omega)
  iterate 10 refine z ?_
  refine a1f (ι := Nat) (fun zz => ⟨[(1, .one (.dv [] (.str (n)))), (2, .box 2 0), (4, .box 4 0), (5, .box 5 0), (7, .one (.dv [] (.int .i64 ((zz : Int)))))], [(2, 27, [(.dv [] (.str (d.1))), (.dv [] (.int .i64 (d.2.1))), (.dv [] (a0k (d.2.2.1))), (.dv [] (a0r (d.2.2.2)))]), (4, 27, [(.dv [] (.str (ByteArray.empty))), (.dv [] (.int .i64 (0))), .nil, .nil]), (5, 27, [(.dv [] (.str (d.1))), (.dv [] (.int .i64 (d.2.1))), (.key 31), (.key 900)])], [(900, some (a0b false (.sl 78 2 (((d.2.2.2.take zz).filter (a3E n)).length) (((d.2.2.2.take zz).filter (a3E n)).flatMap a1O)))), (31, some (a0b false (.sl 60 3 (((d.2.2.1.take k).filter (a2K n)).length) (((d.2.2.1.take k).filter (a2K n)).flatMap a0T))))]⟩) (fun zz => zz ≤ d.2.2.2.length) (fun zz => d.2.2.2.length - zz) (0) ?_ (a0e ⟨rfl, rfl, rfl, rfl, rfl, trivial⟩ ⟨rfl, rfl, rfl, trivial⟩ ⟨rfl, rfl, trivial⟩ rfl) (fun zz hx => ?_)
  ·exact Nat.zero_le _
  obtain ⟨k2, rfl⟩ : ∃ v, v = zz := ⟨_, rfl⟩
  replace hx : k2 ≤ d.2.2.2.length := hx
  have hw := fun h => a3j a2x d.2.2.2 k2 h
  show Ok _ _ _ _ _ (⟨[(1, .one (.dv [] (.str (n)))), (2, .box 2 0), (4, .box 4 0), (5, .box 5 0), (7, .one (.dv [] (.int .i64 ((k2 : Int)))))], [(2, 27, [(.dv [] (.str (d.1))), (.dv [] (.int .i64 (d.2.1))), (.dv [] (a0k (d.2.2.1))), (.dv [] (a0r (d.2.2.2)))]), (4, 27, [(.dv [] (.str (ByteArray.empty))), (.dv [] (.int .i64 (0))), .nil, .nil]), (5, 27, [(.dv [] (.str (d.1))), (.dv [] (.int .i64 (d.2.1))), (.key 31), (.key 900)])], [(900, some (a0b false (.sl 78 2 (((d.2.2.2.take k2).filter (a3E n)).length) (((d.2.2.2.take k2).filter (a3E n)).flatMap a1O)))), (31, some (a0b false (.sl 60 3 (((d.2.2.1.take k).filter (a2K n)).length) (((d.2.2.1.take k).filter (a2K n)).flatMap a0T))))]⟩ : St)
  iterate 8 refine z ?_
  refine yQ rfl (fun c3 => ?_) fun c3 => ?_
  ·have d3 := of_decide_eq_true c3
   have hk2 : k2 < d.2.2.2.length := by omega
   iterate 14 refine z ?_
   refine yQ rfl (fun c4 => ?_) fun c4 => ?_
   ·refine a3G [0, 1, 2, 3, 4, 5, 6, 7] (oB := [2, 4, 5]) (oK := [31, 900]) (by kernel_rfl) rfl rfl ?_
    refine zD 0 ?_
    refine zD 1 ?_
    refine zD 2 ?_
    refine zD 3 ?_
    refine zD 4 ?_
    refine zD 5 ?_
    refine zD 6 ?_
    refine a4o (k := 61) (js := []) 7 hT rfl (by kernel_rfl) rfl rfl rfl rfl rfl rfl rfl rfl rfl (a0a rfl) rfl rfl (a0q (a0B rfl) (a0q (a0B rfl) a1t rfl) rfl) (by decide) (by decide) rfl rfl (by decide) ?_
    simp only [a0l, a0i, SV.kill, CV.kill, kk, Nat.reduceBEq]
    refine a2B [8, 9, 10] rfl rfl (by kernel_rfl) ?_
    refine a2z (k := 900) (j := 61) (cs := ((d.2.2.2.take (k2 + 1)).filter (a3E n)).flatMap a1O) (n := ((d.2.2.2.take (k2 + 1)).filter (a3E n)).length) hT rfl rfl rfl rfl rfl rfl rfl (a0a rfl) rfl rfl rfl (a0a rfl) rfl rfl (by decide) (by have := List.length_filter_le (a3E n) (d.2.2.2.take k2); rw [List.length_take] at this; dsimp only [a0b, KC.old]; omega) (by have := List.length_filter_le (a3E n) (d.2.2.2.take k2); rw [List.length_take] at this; dsimp only [a0b, KC.old]; omega) ((b1o (enc := a1O) hk2 c4).2) ((b1o (enc := a1O) hk2 c4).1) ?_
    simp only [a0l, a0i, SV.kill, CV.kill, kk, Nat.reduceBEq]
    iterate 2 refine z ?_
    refine a1z ?_
    iterate 2 refine z ?_
    refine a0o ?_
    iterate 4 refine z ?_
    refine ⟨k2 + 1, ?_, ?_, a0e ⟨rfl, rfl, rfl, rfl, rfl, trivial⟩ ⟨rfl, rfl, rfl, trivial⟩ ⟨rfl, rfl, trivial⟩ rfl⟩
    ·omega
    ·omega
   ·iterate 3 refine z ?_
    refine a0o ?_
    iterate 4 refine z ?_
    refine ⟨k2 + 1, ?_, ?_, a0e ⟨rfl, rfl, rfl, rfl, rfl, trivial⟩ ⟨rfl, rfl, rfl, trivial⟩ ⟨(congrArg (fun l : List (a3d) => some (some (KC.mk false 78 2 l.length (l.flatMap a1O)))) (b5r (p := a3E n) hk2 c4)), rfl, trivial⟩ rfl⟩
    ·omega
    ·omega
  ·have d3 := of_decide_eq_false c3
   iterate 9 refine z ?_
   refine a0h (σ' := ⟨[(4, .box 4 0)], [(4, 27, [(.dv [] (.str ((a3H d n).1))), (.dv [] (.int .i64 ((a3H d n).2.1))), (.key 31), (.key 900)])], [(31, some (a0b false (a0k ((a3H d n).2.2.1)))), (900, some (a0b false (a0r ((a3H d n).2.2.2))))]⟩) (a0e ⟨rfl, trivial⟩ ⟨rfl, trivial⟩ ⟨(congrArg (fun l : List (a0u) => some (some (KC.mk false 60 3 (l.filter (a2K n)).length ((l.filter (a2K n)).flatMap a0T)))) hfin), (congrArg (fun l : List (a3d) => some (some (KC.mk false 78 2 (l.filter (a3E n)).length ((l.filter (a3E n)).flatMap a1O)))) (List.take_of_length_le (by omega))), trivial⟩ rfl) ?_
   refine z ?_
   refine a1x (a0C hT rfl rfl rfl rfl) ?_
   exact ⟨rfl, rfl⟩
theorem b7O {d : DbT} {u : a6m} (hb : a1B d ≤ 549755813888) : KFn Tryz.prog 65 [.agg [(.dv [] (.str (d.1))), (.dv [] (.int .i64 (d.2.1))), (.dv [] (a0k (d.2.2.1))), (.dv [] (a0r (d.2.2.2)))], .agg [(.dv [] (.int .i64 (u.1))), (.dv [] (.str (u.2.1))), (.dv [] (.str (u.2.2)))]] (.tup [(true, [(.dv [] (.str ((upA d u).1.1))), (.dv [] (.int .i64 ((upA d u).1.2.1))), (.key 90031), (.key 90900)]), (false, [(.dv [] (.bool ((upA d u).2)))])]) [(90031, some (a0b false (a0k ((upA d u).1.2.2.1)))), (90900, some (a0b false (a0r ((upA d u).1.2.2.2))))] := by
 refine ⟨a0R Tryz.func65 rfl Tryz.ntmps65 Tryz.results65 rfl (fun C => ?_)⟩
 have hw4 : a1B d = d.1.size + a1a a0X d.2.2.1 + a1a a2x d.2.2.2 := rfl
 have hw5 : a1a a0X d.2.2.1 = d.2.2.1.length + a0D a0X d.2.2.1 := rfl
 have hw6 : a1a a2x d.2.2.2 = d.2.2.2.length + a0D a2x d.2.2.2 := rfl
 obtain ⟨m, hm⟩ : ∃ m, m = d.2.2.2.length - 1 := ⟨_, rfl⟩
 refine yF 0 0 rfl rfl fun f0_0 => ?_
 refine yF 0 1 rfl rfl fun f0_1 => ?_
 refine yF 0 2 rfl rfl fun f0_2 => ?_
 refine yF 0 3 rfl rfl fun f0_3 => ?_
 refine yF 1 0 rfl rfl fun f1_0 => ?_
 refine yF 1 1 rfl rfl fun f1_1 => ?_
 refine yF 1 2 rfl rfl fun f1_2 => ?_
 iterate 8 refine z ?_
 refine zK 90000 Tryz.call32 ?_ (hf := a5L (x := d) (by omega))
 iterate 7 refine z ?_
 refine zC Tryz.call56 ?_ (hf := b2H (x := d) (n := u.2.1))
 iterate 5 refine z ?_
 refine zC Tryz.call103 ?_ (hf := b9P (d := d) (u := u))
 iterate 14 refine z ?_
 refine yQ rfl (fun c1 => ?_) fun c1 => ?_
 ·have hk1 : u.1 = 1 ∧ (a0j (a0y u.2.1) d.2.2.1 0) < 0 := by simpa only [Bool.and_eq_true, decide_eq_true_eq, and_assoc] using c1
  iterate 5 refine z ?_
  refine a1f (ι := Nat) (fun zz => ⟨[(2, .box 2 0), (3, .box 3 0), (4, .box 4 0), (5, .one (.dv [] (.bool (false)))), (6, .box 6 0), (9, .one (.dv [] (.int .i64 ((zz : Int)))))], [(2, 27, [(.dv [] (.str (d.1))), (.dv [] (.int .i64 (d.2.1))), (.dv [] (a0k (d.2.2.1))), (.dv [] (a0r (d.2.2.2)))]), (3, 110, [(.dv [] (.int .i64 (u.1))), (.dv [] (.str (u.2.1))), (.dv [] (.str (u.2.2)))]), (4, 27, [(.dv [] (.str (ByteArray.empty))), (.dv [] (.int .i64 (0))), .nil, .nil]), (6, 27, [(.dv [] (.str ((d).1))), (.dv [] (.int .i64 ((d).2.1))), (.key 90031), (.key 90900)])], [(90031, some (a0b false (.sl 60 3 (d.2.2.1.length) (d.2.2.1.flatMap a0T)))), (90900, some (a0b false (.sl 78 2 (d.2.2.2.length) (d.2.2.2.flatMap a1O))))]⟩) (fun zz => zz ≤ d.2.2.1.length ∧ a3t u.2.1 d.2.2.1 = zz + a3t u.2.1 (d.2.2.1.drop zz)) (fun zz => d.2.2.1.length - zz) (0) ?_ (a0e ⟨rfl, rfl, rfl, rfl, rfl, rfl, trivial⟩ ⟨rfl, rfl, rfl, rfl, trivial⟩ ⟨rfl, rfl, trivial⟩ rfl) (fun zz hx => ?_)
  ·exact ⟨Nat.zero_le _, by simp⟩
  obtain ⟨j, rfl⟩ : ∃ v, v = zz := ⟨_, rfl⟩
  replace hx : j ≤ d.2.2.1.length ∧ a3t u.2.1 d.2.2.1 = j + a3t u.2.1 (d.2.2.1.drop j) := hx
  obtain ⟨hj, hp⟩ := hx
  show Ok _ _ _ _ _ (⟨[(2, .box 2 0), (3, .box 3 0), (4, .box 4 0), (5, .one (.dv [] (.bool (false)))), (6, .box 6 0), (9, .one (.dv [] (.int .i64 ((j : Int)))))], [(2, 27, [(.dv [] (.str (d.1))), (.dv [] (.int .i64 (d.2.1))), (.dv [] (a0k (d.2.2.1))), (.dv [] (a0r (d.2.2.2)))]), (3, 110, [(.dv [] (.int .i64 (u.1))), (.dv [] (.str (u.2.1))), (.dv [] (.str (u.2.2)))]), (4, 27, [(.dv [] (.str (ByteArray.empty))), (.dv [] (.int .i64 (0))), .nil, .nil]), (6, 27, [(.dv [] (.str ((d).1))), (.dv [] (.int .i64 ((d).2.1))), (.key 90031), (.key 90900)])], [(90031, some (a0b false (.sl 60 3 (d.2.2.1.length) (d.2.2.1.flatMap a0T)))), (90900, some (a0b false (.sl 78 2 (d.2.2.2.length) (d.2.2.2.flatMap a1O))))]⟩ : St)
  refine a0p ?_
  refine a0p ?_
  refine a1L (oB := [2, 3, 4, 6]) (oK := [90031, 90900]) (by kernel_rfl) rfl rfl ?_
  refine zD 0 ?_
  refine zD 1 ?_
  refine zD 2 ?_
  refine zD 3 ?_
  refine zD 4 ?_
  refine zD 5 ?_
  refine zDG 6 ?_
  refine zDG 7 ?_
  refine zDG 8 ?_
  refine zDG 9 ?_
  refine zDG 10 ?_
  refine zDG 11 ?_
  refine zDG 12 ?_
  refine zDG 13 ?_
  refine zDG 14 ?_
  refine zD 15 ?_
  refine a2l (by kernel_rfl) ?_
  refine z ?_
  refine yQ rfl (fun c2 => ?_) fun c2 => ?_
  ·have hj2 : j < d.2.2.1.length := by have h8 := c2; rw [Bool.and_eq_true, decide_eq_true_eq] at h8; omega
   have hst := c1k hp hj2 (by have h8 := c2; rw [Bool.and_eq_true] at h8; exact h8.2)
   iterate 3 refine z ?_
   refine a0o ?_
   iterate 3 refine z ?_
   refine a1z ?_
   iterate 2 refine z ?_
   refine ⟨j + 1, ?_, ?_, a0e ⟨rfl, rfl, rfl, rfl, rfl, rfl, trivial⟩ ⟨rfl, rfl, rfl, rfl, trivial⟩ ⟨rfl, rfl, trivial⟩ rfl⟩
   ·exact ⟨by omega, hst⟩
   ·omega
  ·have hpos := c2z hp hj c2
   iterate 6 refine z ?_
   refine a3p (k := 47) hT rfl rfl rfl rfl rfl rfl rfl rfl ?_
   iterate 3 refine z ?_
   refine b7H (b8 := 6) (i8 := 2) (k := 47) (j := 90031) (s := 49) (n := (d.2.2.1.take j).length) (cs := (d.2.2.1.take j).flatMap a0T) (c2s := List.replicate (j * 3) .hole ++ (d.2.2.1.drop j).flatMap a0T) hT rfl rfl rfl (b0x hT rfl rfl rfl (a0a rfl) rfl (a0a rfl) (by omega) (by dsimp only [a0b]; omega)) rfl rfl rfl rfl rfl rfl rfl (a0a rfl) rfl rfl rfl rfl rfl rfl (by decide) rfl rfl ⟨rfl, rfl⟩ (by omega) (by dsimp only [a0b]; omega) (by dsimp only [a0b]; omega) (by dsimp only [a0b]; omega) (by rw [List.length_take, Nat.min_eq_left (by omega)]; simp) (c4o) (c3W) rfl rfl rfl ?_
   simp only [a0l, a0i, SV.kill, CV.kill, kk, Nat.reduceBEq]
   iterate 6 refine z ?_
   refine yO rfl rfl (a1F hT hB rfl rfl rfl (a1b (a0a rfl) rfl rfl rfl rfl rfl a1E)) rfl ?_
   refine a4b (k := 57) (js := []) hT rfl rfl rfl rfl rfl rfl rfl rfl rfl (a0a rfl) rfl rfl (a0q (a0B rfl) (a0q (a7m (e := 93) (sz := 4) rfl) (a0q (a0B rfl) a1t rfl) rfl) rfl) (by decide) (by decide) rfl rfl ?_
   simp only [a0l, a0i, SV.kill, CV.kill, kk, Nat.reduceBEq]
   refine a2z (k := 47) (j := 57) (cs := (d.2.2.1.take j ++ [(u.2.1, ([] : List a0O), (0 : Int))]).flatMap a0T) (n := (d.2.2.1.take j ++ [(u.2.1, ([] : List a0O), (0 : Int))]).length) hT rfl rfl rfl rfl rfl rfl rfl (a0a rfl) rfl rfl rfl (a0a rfl) rfl rfl (by decide) (by dsimp only [a0b]; simp only [List.length_take]; omega) (by dsimp only [a0b]; simp only [List.length_take]; omega) (by simp) (by rw [List.flatMap_append]; rfl) ?_
   simp only [a0l, a0i, SV.kill, CV.kill, kk, Nat.reduceBEq]
   iterate 2 refine z ?_
   refine a0o ?_
   iterate 4 refine z ?_
   refine a9I (k := 47) (j := 90031) (s := 61) (n := (a4D d.2.2.1 j (u.2.1, ([] : List a0O), (0 : Int))).length) (cs := (a4D d.2.2.1 j (u.2.1, ([] : List a0O), (0 : Int))).flatMap a0T) (c2s := _) hT rfl rfl rfl (b0e hT rfl rfl rfl (a0a rfl) rfl (a0a rfl) (by omega) (by dsimp only [a0b]; omega)) rfl rfl rfl rfl rfl rfl rfl (a0a rfl) rfl rfl rfl rfl rfl rfl (by decide) rfl rfl ⟨rfl, rfl⟩ (by dsimp only [a0b]; omega) (by dsimp only [a0b]; omega) (by dsimp only [a0b]; simp only [List.length_append, List.length_take, List.length_singleton]; omega) (by dsimp only [a0b]; simp only [List.length_append, List.length_take, List.length_singleton]; omega) (by rw [c5P hj]; simp; omega) (c4H hj) (rfl) ?_
   simp only [a0l, a0i, SV.kill, CV.kill, kk, Nat.reduceBEq]
   iterate 2 refine z ?_
   refine a1z ?_
   iterate 2 refine z ?_
   refine a0p ?_
   refine a0p ?_
   refine a0h (a2i (b := 6) (i := 2) (k := 47) (k' := 90031) rfl rfl rfl rfl (by decide) rfl rfl) ?_
   simp only [a0l, a0i, SV.kill, CV.kill, kk, Nat.reduceBEq]
   refine a0h (a4s (k := 90900) (c' := a0b false (a0r (d.2.2.2))) rfl (rfl) rfl) ?_
   refine a0o ?_
   refine z ?_
   refine zC Tryz.call33 ?_ (hf := a5e (x := d))
   iterate 3 refine z ?_
   refine a1A (a1p rfl rfl rfl rfl rfl) rfl rfl Tryz.call33 (a5e (x := (d.1, d.2.1, (a4D d.2.2.1 j (u.2.1, ([] : List a0O), (0 : Int))), d.2.2.2))) (fun hg => (a0g (a0z rfl hg) (a0t (a0d a0c (a0d a0c (a0d (a1d rfl rfl) (a0d (a1d rfl rfl) a0s))))) a0w)) rfl rfl ?_
   iterate 3 refine z ?_
   refine yQ rfl (fun c3 => ?_) fun c3 => ?_
   ·refine a0p ?_
    refine a0h (σ' := ⟨[(2, .box 2 0), (3, .box 3 0), (4, .box 4 0), (5, .one (.dv [] (.bool (false))))], [(2, 27, [(.dv [] (.str (d.1))), (.dv [] (.int .i64 (d.2.1))), (.dv [] (a0k (d.2.2.1))), (.dv [] (a0r (d.2.2.2)))]), (3, 110, [(.dv [] (.int .i64 (u.1))), (.dv [] (.str (u.2.1))), (.dv [] (.str (u.2.2)))]), (4, 27, [(.dv [] (.str (ByteArray.empty))), (.dv [] (.int .i64 (0))), .nil, .nil])], []⟩) (a0e ⟨rfl, rfl, rfl, rfl, trivial⟩ ⟨rfl, rfl, rfl, trivial⟩ trivial rfl) ?_
    refine a0o ?_
    refine z ?_
    refine zK 90000 Tryz.call32 ?_ (hf := a5L (x := d) (by omega))
    iterate 3 refine z ?_
    rw [b0v (o := (d.1, d.2.1, (a4D d.2.2.1 j (u.2.1, ([] : List a0O), (0 : Int))), d.2.2.2)) (fun _ => by rw [a9R hk1.1, hpos]) c3]
    refine a0h (σ' := ⟨[(4, .box 4 0), (5, .one (.dv [] (.bool (false))))], [(4, 27, [(.dv [] (.str ((d).1))), (.dv [] (.int .i64 ((d).2.1))), (.key 90031), (.key 90900)])], [(90031, some (a0b false (a0k (d.2.2.1)))), (90900, some (a0b false (a0r (d.2.2.2))))]⟩) (a0e ⟨rfl, rfl, trivial⟩ ⟨rfl, trivial⟩ ⟨rfl, rfl, trivial⟩ rfl) ?_
    iterate 2 refine z ?_
    refine a1N (a0C hT rfl rfl rfl rfl) (a0v rfl) rfl rfl ?_
    first | exact ⟨rfl, rfl⟩ | skip
   ·iterate 7 refine z ?_
    rw [a9N (o := (d.1, d.2.1, (a4D d.2.2.1 j (u.2.1, ([] : List a0O), (0 : Int))), d.2.2.2)) (fun _ => by rw [a9R hk1.1, hpos]) (by rw [a9R hk1.1]; exact decide_eq_true hk1.2) c3]
    refine a0h (σ' := ⟨[(4, .box 4 0), (5, .one (.dv [] (.bool (true))))], [(4, 27, [(.dv [] (.str ((d).1))), (.dv [] (.int .i64 ((d).2.1))), (.key 90031), (.key 90900)])], [(90031, some (a0b false (a0k ((a4D d.2.2.1 j (u.2.1, ([] : List a0O), (0 : Int))))))), (90900, some (a0b false (a0r (d.2.2.2))))]⟩) (a0e ⟨rfl, rfl, trivial⟩ ⟨rfl, trivial⟩ ⟨rfl, rfl, trivial⟩ rfl) ?_
    refine z ?_
    refine a1N (a0C hT rfl rfl rfl rfl) (a0v rfl) rfl rfl ?_
    first | exact ⟨rfl, rfl⟩ | skip
 ·have hn1 : ¬ (u.1 = 1 ∧ (a0j (a0y u.2.1) d.2.2.1 0) < 0) := fun h => by
   have h8 := c1
   rw [show (decide (u.1 = 1) && decide ((a0j (a0y u.2.1) d.2.2.1 0) < 0)) = true by simp only [Bool.and_eq_true, decide_eq_true_eq, and_assoc]; exact h] at h8
   cases h8
  iterate 10 refine z ?_
  refine yQ rfl (fun c4 => ?_) fun c4 => ?_
  ·have hk1 : u.1 = 2 ∧ 0 ≤ (a0j (a0y u.2.1) d.2.2.1 0) := by simpa only [Bool.and_eq_true, decide_eq_true_eq, and_assoc] using c4
   have hlt : (a0j (a0y u.2.1) d.2.2.1 0) < (d.2.2.1.length : Int) := a5x d u.2.1
   refine a0o ?_
   iterate 3 refine z ?_
   refine zK 91000 Tryz.call104 ?_ (hf := b9S (d := d) (n := u.2.1) (by omega))
   refine z ?_
   refine a1z ?_
   iterate 2 refine z ?_
   refine a0p ?_
   refine a0p ?_
   refine a0h (a2i (b := 6) (i := 2) (k := 91031) (k' := 90031) rfl rfl rfl rfl (by simp) rfl rfl) ?_
   simp only [a0l, a0i, SV.kill, CV.kill, kk, Nat.reduceBEq]
   refine a0h (a2i (b := 6) (i := 3) (k := 91900) (k' := 90900) rfl rfl rfl rfl (by simp) rfl rfl) ?_
   simp only [a0l, a0i, SV.kill, CV.kill, kk, Nat.reduceBEq]
   refine a0o ?_
   refine z ?_
   refine zC Tryz.call33 ?_ (hf := a5e (x := d))
   iterate 3 refine z ?_
   refine a1A (a1p rfl rfl rfl rfl rfl) rfl rfl Tryz.call33 (a5e (x := (a3H d u.2.1))) (fun hg => (a0g (a0z rfl hg) (a0t (a0d a0c (a0d a0c (a0d (a1d rfl rfl) (a0d (a1d rfl rfl) a0s))))) a0w)) rfl rfl ?_
   iterate 3 refine z ?_
   refine yQ rfl (fun c5 => ?_) fun c5 => ?_
   ·refine a0p ?_
    refine a0h (σ' := ⟨[(2, .box 2 0), (3, .box 3 0), (4, .box 4 0), (5, .one (.dv [] (.bool (false))))], [(2, 27, [(.dv [] (.str (d.1))), (.dv [] (.int .i64 (d.2.1))), (.dv [] (a0k (d.2.2.1))), (.dv [] (a0r (d.2.2.2)))]), (3, 110, [(.dv [] (.int .i64 (u.1))), (.dv [] (.str (u.2.1))), (.dv [] (.str (u.2.2)))]), (4, 27, [(.dv [] (.str (ByteArray.empty))), (.dv [] (.int .i64 (0))), .nil, .nil])], []⟩) (a0e ⟨rfl, rfl, rfl, rfl, trivial⟩ ⟨rfl, rfl, rfl, trivial⟩ trivial rfl) ?_
    refine a0o ?_
    refine z ?_
    refine zK 90000 Tryz.call32 ?_ (hf := a5L (x := d) (by omega))
    iterate 3 refine z ?_
    rw [b0v (o := (a3H d u.2.1)) (fun hd => b4p hk1.1 hk1.2 hd) c5]
    refine a0h (σ' := ⟨[(4, .box 4 0), (5, .one (.dv [] (.bool (false))))], [(4, 27, [(.dv [] (.str ((d).1))), (.dv [] (.int .i64 ((d).2.1))), (.key 90031), (.key 90900)])], [(90031, some (a0b false (a0k (d.2.2.1)))), (90900, some (a0b false (a0r (d.2.2.2))))]⟩) (a0e ⟨rfl, rfl, trivial⟩ ⟨rfl, trivial⟩ ⟨rfl, rfl, trivial⟩ rfl) ?_
    iterate 2 refine z ?_
    refine a1N (a0C hT rfl rfl rfl rfl) (a0v rfl) rfl rfl ?_
    first | exact ⟨rfl, rfl⟩ | skip
   ·iterate 7 refine z ?_
    rw [a9N (o := (a3H d u.2.1)) (fun hd => b4p hk1.1 hk1.2 hd) (by rw [b6o hk1.1 hk1.2]; exact decide_eq_true hk1.2) c5]
    refine a0h (σ' := ⟨[(4, .box 4 0), (5, .one (.dv [] (.bool (true))))], [(4, 27, [(.dv [] (.str ((a3H (d) (u.2.1)).1))), (.dv [] (.int .i64 ((a3H (d) (u.2.1)).2.1))), (.key 90031), (.key 90900)])], [(90031, some (a0b false (a0k (d.2.2.1.filter (a2K u.2.1))))), (90900, some (a0b false (a0r (d.2.2.2.filter (a3E u.2.1)))))]⟩) (a0e ⟨rfl, rfl, trivial⟩ ⟨rfl, trivial⟩ ⟨rfl, rfl, trivial⟩ rfl) ?_
    refine z ?_
    refine a1N (a0C hT rfl rfl rfl rfl) (a0v rfl) rfl rfl ?_
    first | exact ⟨rfl, rfl⟩ | skip
  ·have hn4 : ¬ (u.1 = 2 ∧ 0 ≤ (a0j (a0y u.2.1) d.2.2.1 0)) := fun h => by
    have h8 := c4
    rw [show (decide (u.1 = 2) && decide (0 ≤ (a0j (a0y u.2.1) d.2.2.1 0))) = true by simp only [Bool.and_eq_true, decide_eq_true_eq, and_assoc]; exact h] at h8
    cases h8
   iterate 14 refine z ?_
   refine yQ rfl (fun c6 => ?_) fun c6 => ?_
   ·have hk1 : u.1 = 3 ∧ 0 ≤ (a0j (a0y u.2.1) d.2.2.1 0) ∧ (a0j (a1v u.2) d.2.2.2 0) < 0 := by simpa only [Bool.and_eq_true, decide_eq_true_eq, and_assoc] using c6
    refine a0o ?_
    iterate 6 refine z ?_
    refine yO rfl rfl (a1F hT hB rfl rfl rfl (a1b (a0a rfl) rfl rfl rfl rfl rfl (a1b (a0a rfl) rfl rfl rfl rfl rfl a1E))) rfl ?_
    refine a4b (k := 97) (js := []) hT rfl rfl rfl rfl rfl rfl rfl rfl rfl (a0a rfl) rfl rfl (a0q (a0B rfl) (a0q (a0B rfl) a1t rfl) rfl) (by decide) (by decide) rfl rfl ?_
    simp only [a0l, a0i, SV.kill, CV.kill, kk, Nat.reduceBEq]
    refine a2z (k := 90900) (j := 97) (cs := (d.2.2.2 ++ [u.2]).flatMap a1O) (n := (d.2.2.2 ++ [u.2]).length) hT rfl rfl rfl rfl rfl rfl rfl (a0a rfl) rfl rfl rfl (a0a rfl) rfl rfl (by decide) (by dsimp only [a0b, KC.old]; omega) (by dsimp only [a0b, KC.old]; omega) (by rw [List.length_append]; rfl) (by rw [List.flatMap_append]; rfl) ?_
    simp only [a0l, a0i, SV.kill, CV.kill, kk, Nat.reduceBEq]
    iterate 2 refine z ?_
    refine a1z ?_
    iterate 2 refine z ?_
    refine a0p ?_
    refine a0p ?_
    refine a0h (a4s (k := 90900) (c' := a0b false (a0r (d.2.2.2 ++ [u.2]))) rfl (rfl) rfl) ?_
    refine a0o ?_
    refine z ?_
    refine zC Tryz.call33 ?_ (hf := a5e (x := d))
    iterate 3 refine z ?_
    refine a1A (a1p rfl rfl rfl rfl rfl) rfl rfl Tryz.call33 (a5e (x := (d.1, d.2.1, d.2.2.1, (d.2.2.2 ++ [u.2])))) (fun hg => (a0g (a0z rfl hg) (a0t (a0d a0c (a0d a0c (a0d (a1d rfl rfl) (a0d (a1d rfl rfl) a0s))))) a0w)) rfl rfl ?_
    iterate 3 refine z ?_
    refine yQ rfl (fun c7 => ?_) fun c7 => ?_
    ·refine a0p ?_
     refine a0h (σ' := ⟨[(2, .box 2 0), (3, .box 3 0), (4, .box 4 0), (5, .one (.dv [] (.bool (false))))], [(2, 27, [(.dv [] (.str (d.1))), (.dv [] (.int .i64 (d.2.1))), (.dv [] (a0k (d.2.2.1))), (.dv [] (a0r (d.2.2.2)))]), (3, 110, [(.dv [] (.int .i64 (u.1))), (.dv [] (.str (u.2.1))), (.dv [] (.str (u.2.2)))]), (4, 27, [(.dv [] (.str (ByteArray.empty))), (.dv [] (.int .i64 (0))), .nil, .nil])], []⟩) (a0e ⟨rfl, rfl, rfl, rfl, trivial⟩ ⟨rfl, rfl, rfl, trivial⟩ trivial rfl) ?_
     refine a0o ?_
     refine z ?_
     refine zK 90000 Tryz.call32 ?_ (hf := a5L (x := d) (by omega))
     iterate 3 refine z ?_
     rw [b0v (o := (d.1, d.2.1, d.2.2.1, (d.2.2.2 ++ [u.2]))) (fun _ => by rw [b0n hk1.1]) c7]
     refine a0h (σ' := ⟨[(4, .box 4 0), (5, .one (.dv [] (.bool (false))))], [(4, 27, [(.dv [] (.str ((d).1))), (.dv [] (.int .i64 ((d).2.1))), (.key 90031), (.key 90900)])], [(90031, some (a0b false (a0k (d.2.2.1)))), (90900, some (a0b false (a0r (d.2.2.2))))]⟩) (a0e ⟨rfl, rfl, trivial⟩ ⟨rfl, trivial⟩ ⟨rfl, rfl, trivial⟩ rfl) ?_
     iterate 2 refine z ?_
     refine a1N (a0C hT rfl rfl rfl rfl) (a0v rfl) rfl rfl ?_
     first | exact ⟨rfl, rfl⟩ | skip
    ·iterate 7 refine z ?_
     rw [a9N (o := (d.1, d.2.1, d.2.2.1, (d.2.2.2 ++ [u.2]))) (fun _ => by rw [b0n hk1.1]) (by rw [b0n hk1.1]; exact decide_eq_true hk1.2.2) c7]
     refine a0h (σ' := ⟨[(4, .box 4 0), (5, .one (.dv [] (.bool (true))))], [(4, 27, [(.dv [] (.str ((d).1))), (.dv [] (.int .i64 ((d).2.1))), (.key 90031), (.key 90900)])], [(90031, some (a0b false (a0k (d.2.2.1)))), (90900, some (a0b false (a0r ((d.2.2.2 ++ [u.2])))))]⟩) (a0e ⟨rfl, rfl, trivial⟩ ⟨rfl, trivial⟩ ⟨rfl, rfl, trivial⟩ rfl) ?_
     refine z ?_
     refine a1N (a0C hT rfl rfl rfl rfl) (a0v rfl) rfl rfl ?_
     first | exact ⟨rfl, rfl⟩ | skip
   ·have hn6 : ¬ (u.1 = 3 ∧ 0 ≤ (a0j (a0y u.2.1) d.2.2.1 0) ∧ (a0j (a1v u.2) d.2.2.2 0) < 0) := fun h => by
     have h8 := c6
     rw [show (decide (u.1 = 3) && decide (0 ≤ (a0j (a0y u.2.1) d.2.2.1 0)) && decide ((a0j (a1v u.2) d.2.2.2 0) < 0)) = true by simp only [Bool.and_eq_true, decide_eq_true_eq, and_assoc]; exact h] at h8
     cases h8
    iterate 10 refine z ?_
    refine yQ rfl (fun c8 => ?_) fun c8 => ?_
    ·have hk1 : u.1 = 4 ∧ 0 ≤ (a0j (a1v u.2) d.2.2.2 0) := by simpa only [Bool.and_eq_true, decide_eq_true_eq, and_assoc] using c8
     have hlt2 : (a0j (a1v u.2) d.2.2.2 0) < (d.2.2.2.length : Int) := by rcases a6J (p := a1v u.2) d.2.2.2 0 (by omega) with h | h <;> omega
     refine a1L (oB := [2, 3, 4, 6]) (oK := [90031, 90900]) (by kernel_rfl) rfl rfl ?_
     refine zD 0 ?_
     refine zD 1 ?_
     refine zD 2 ?_
     refine a1k 3 rfl (by kernel_rfl) rfl rfl (b7d (j := 90900) (n := (((d).2.2.2)).length) (hi := (a0j (a1v (u).2) (d).2.2.2 0).toNat) (sz := 2) (z := a0j (a1v (u).2) (d).2.2.2 0) hT rfl rfl rfl (a0a rfl) rfl (a0a rfl) rfl rfl (by omega) (by omega)) rfl rfl rfl rfl ?_
     refine zD 4 ?_
     refine zD 5 ?_
     refine zD 6 ?_
     refine zD 7 ?_
     refine a1k 8 rfl (by kernel_rfl) rfl rfl (b8M (j := 90900) (n := (((d).2.2.2)).length) (lo := ((a0j (a1v (u).2) (d).2.2.2 0) + (1)).toNat) (sz := 2) (z := (a0j (a1v (u).2) (d).2.2.2 0) + (1)) hT rfl rfl rfl (a0a rfl) rfl (a0a rfl) rfl rfl (by omega) (by omega)) rfl rfl rfl rfl ?_
     refine a2B [9, 10, 11] rfl rfl (by kernel_rfl) ?_
     refine c0l (k := 90900) (m := m) (cs := (d.2.2.2.eraseIdx (a0j (a1v u.2) d.2.2.2 0).toNat).flatMap a1O ++ List.replicate 2 DV.hole) hT rfl rfl rfl rfl rfl rfl (a0a rfl) (a0a rfl) rfl rfl rfl rfl (by omega) (by first | omega | (dsimp only [a0b, KC.old]; omega)) (by first | omega | (dsimp only [a0b, KC.old]; omega)) (b9J (sz := 2) (fun _ => rfl) hk1.2 rfl hlt2) ?_
     simp only [a0l, a0i, SV.kill, CV.kill, kk, Nat.reduceBEq]
     refine c4L (b6H (s := 117) (k := 90900) (m := m) (sz := 2) (cs := (d.2.2.2.eraseIdx (a0j (a1v u.2) d.2.2.2 0).toNat).flatMap a1O) rfl rfl rfl rfl (by first | omega | (dsimp only [a0b, KC.old]; omega) | (show m ≤ d.2.2.2.length; omega)) (c0b hm (sz := 2) (fun _ => rfl) hk1.2 hlt2)) ?_
     simp only [a0l, a0i, SV.kill, CV.kill, kk, Nat.reduceBEq]
     iterate 2 refine z ?_
     refine a1z ?_
     iterate 2 refine z ?_
     refine a0p ?_
     refine a0p ?_
     refine a0h (a4s (k := 90900) (c' := a0b false (a0r (d.2.2.2.eraseIdx (a0j (a1v u.2) d.2.2.2 0).toNat))) rfl (congrArg (fun n => KC.mk false 78 2 n ((d.2.2.2.eraseIdx (a0j (a1v u.2) d.2.2.2 0).toNat).flatMap a1O)) (hm.trans (b5E hk1.2 hlt2))) rfl) ?_
     refine a0o ?_
     refine z ?_
     refine zC Tryz.call33 ?_ (hf := a5e (x := d))
     iterate 3 refine z ?_
     refine a1A (a1p rfl rfl rfl rfl rfl) rfl rfl Tryz.call33 (a5e (x := (d.1, d.2.1, d.2.2.1, (d.2.2.2.eraseIdx (a0j (a1v u.2) d.2.2.2 0).toNat)))) (fun hg => (a0g (a0z rfl hg) (a0t (a0d a0c (a0d a0c (a0d (a1d rfl rfl) (a0d (a1d rfl rfl) a0s))))) a0w)) rfl rfl ?_
     iterate 3 refine z ?_
     refine yQ rfl (fun c9 => ?_) fun c9 => ?_
     ·refine a0p ?_
      refine a0h (σ' := ⟨[(2, .box 2 0), (3, .box 3 0), (4, .box 4 0), (5, .one (.dv [] (.bool (false))))], [(2, 27, [(.dv [] (.str (d.1))), (.dv [] (.int .i64 (d.2.1))), (.dv [] (a0k (d.2.2.1))), (.dv [] (a0r (d.2.2.2)))]), (3, 110, [(.dv [] (.int .i64 (u.1))), (.dv [] (.str (u.2.1))), (.dv [] (.str (u.2.2)))]), (4, 27, [(.dv [] (.str (ByteArray.empty))), (.dv [] (.int .i64 (0))), .nil, .nil])], []⟩) (a0e ⟨rfl, rfl, rfl, rfl, trivial⟩ ⟨rfl, rfl, rfl, trivial⟩ trivial rfl) ?_
      refine a0o ?_
      refine z ?_
      refine zK 90000 Tryz.call32 ?_ (hf := a5L (x := d) (by omega))
      iterate 3 refine z ?_
      rw [b0v (o := (d.1, d.2.1, d.2.2.1, (d.2.2.2.eraseIdx (a0j (a1v u.2) d.2.2.2 0).toNat))) (fun _ => by rw [b2p hk1.1 hk1.2]) c9]
      refine a0h (σ' := ⟨[(4, .box 4 0), (5, .one (.dv [] (.bool (false))))], [(4, 27, [(.dv [] (.str ((d).1))), (.dv [] (.int .i64 ((d).2.1))), (.key 90031), (.key 90900)])], [(90031, some (a0b false (a0k (d.2.2.1)))), (90900, some (a0b false (a0r (d.2.2.2))))]⟩) (a0e ⟨rfl, rfl, trivial⟩ ⟨rfl, trivial⟩ ⟨rfl, rfl, trivial⟩ rfl) ?_
      iterate 2 refine z ?_
      refine a1N (a0C hT rfl rfl rfl rfl) (a0v rfl) rfl rfl ?_
      first | exact ⟨rfl, rfl⟩ | skip
     ·iterate 7 refine z ?_
      rw [a9N (o := (d.1, d.2.1, d.2.2.1, (d.2.2.2.eraseIdx (a0j (a1v u.2) d.2.2.2 0).toNat))) (fun _ => by rw [b2p hk1.1 hk1.2]) (by rw [b2p hk1.1 hk1.2]; exact decide_eq_true hk1.2) c9]
      refine a0h (σ' := ⟨[(4, .box 4 0), (5, .one (.dv [] (.bool (true))))], [(4, 27, [(.dv [] (.str ((d).1))), (.dv [] (.int .i64 ((d).2.1))), (.key 90031), (.key 90900)])], [(90031, some (a0b false (a0k (d.2.2.1)))), (90900, some (a0b false (a0r ((d.2.2.2.eraseIdx (a0j (a1v u.2) d.2.2.2 0).toNat)))))]⟩) (a0e ⟨rfl, rfl, trivial⟩ ⟨rfl, trivial⟩ ⟨rfl, rfl, trivial⟩ rfl) ?_
      refine z ?_
      refine a1N (a0C hT rfl rfl rfl rfl) (a0v rfl) rfl rfl ?_
      first | exact ⟨rfl, rfl⟩ | skip
    ·have hn8 : ¬ (u.1 = 4 ∧ 0 ≤ (a0j (a1v u.2) d.2.2.2 0)) := fun h => by
      have h8 := c8
      rw [show (decide (u.1 = 4) && decide (0 ≤ (a0j (a1v u.2) d.2.2.2 0))) = true by simp only [Bool.and_eq_true, decide_eq_true_eq, and_assoc]; exact h] at h8
      cases h8
     iterate 5 refine z ?_
     rw [c5l hn1 hn4 hn6 hn8]
     refine a0h (σ' := ⟨[(4, .box 4 0), (5, .one (.dv [] (.bool (false))))], [(4, 27, [(.dv [] (.str ((d).1))), (.dv [] (.int .i64 ((d).2.1))), (.key 90031), (.key 90900)])], [(90031, some (a0b false (a0k (d.2.2.1)))), (90900, some (a0b false (a0r (d.2.2.2))))]⟩) (a0e ⟨rfl, rfl, trivial⟩ ⟨rfl, trivial⟩ ⟨rfl, rfl, trivial⟩ rfl) ?_
     iterate 3 refine z ?_
     refine a1N (a0C hT rfl rfl rfl rfl) (a0v rfl) rfl rfl ?_
     first | exact ⟨rfl, rfl⟩ | skip
end Go.Proofs.YtjkpoekgnmgofaaGreat

namespace Go.Proofs.YtjkpoekgnmgofaaGreat
open Go.RowKit
open Go.Proofs
set_option linter.unusedVariables false
set_option linter.unusedSimpArgs false

theorem c3M {l : List a0O} {i : Nat} {r : a0A} : (a2p l i r).map Prod.fst = l.map Prod.fst := by
 apply List.ext_getElem?
 intro j
 rw [a2p, List.getElem?_map, List.getElem?_set, List.getElem?_map]
 by_cases h : i = j
 ·subst h
  by_cases h2 : i < l.length
  ·simp [h2, List.getD]
  ·simp [h2]
 ·simp [h]
theorem a9l {x : a0u} {k : a0Y} {r : a0A} (h : (a0S x k r).2 = true) : a1g x = true ∧ a1n k = true ∧ a1l r = true ∧
  ((0 ≤ a0W x k ∧ a0S x k r = ((x.1, a2p x.2.1 (a0W x k).toNat r, x.2.2), true)) ∨ (a0W x k < 0 ∧ x.2.1.length < 16 ∧ a0S x k r = ((x.1, a2a x.2.1 (a2n k x.2.1) (k, r), a2U x k), true))) := by
 unfold a0S at h ⊢
 split at h
 ·cases h
 ·rename_i h1
  have h1' : a1g x = true ∧ a1n k = true ∧ a1l r = true := by
   revert h1; cases a1g x <;> cases a1n k <;> cases a1l r <;> simp
  refine ⟨h1'.1, h1'.2.1, h1'.2.2, ?_⟩
  rw [if_neg h1]
  split at h
  ·rename_i h2
   exact .inl ⟨h2, by rw [if_pos h2]⟩
  ·rename_i h2
   split at h
   ·cases h
   ·rename_i h3
    exact .inr ⟨by omega, by omega, by rw [if_neg h2, if_neg h3]⟩
theorem c5U {x : a0u} {k : a0Y} {r : a0A} (h : (a0S x k r).2 = true) : a1g (a0S x k r).1 = true := by
 obtain ⟨hs, hk, hr, ⟨h1, h2⟩ | ⟨h1, h3, h2⟩⟩ := a9l h
 ·rw [h2]; dsimp only
  have h4 := a5m h1
  rw [b3m hs (by omega), hr]
 ·rw [h2]; dsimp only
  rw [b2x hs hk h1 (b1F hs), hr]; simpa using h3
theorem b6Y {x : a0u} {k : a0Y} {r : a0A} (h : a1g x = true) : a1g (a0S x k r).1 = true := by
 cases h2 : (a0S x k r).2 with
 | true => exact c5U h2
 | false => rw [a9v h2]; exact h
theorem a9k (x : a0u) (k : a0Y) (r : a0A) : (a0S x k r).1.1 = x.1 := by
 cases h2 : (a0S x k r).2 with
 | true => obtain ⟨_, _, _, ⟨_, h⟩ | ⟨_, _, h⟩⟩ := a9l h2 <;> rw [h]
 | false => rw [a9v h2]
theorem c3c {x : a0u} {k : a0Y} {r : a0A} : x.2.2 ≤ (a0S x k r).1.2.2 := by
 cases h2 : (a0S x k r).2 with
 | true =>
  obtain ⟨_, _, _, ⟨_, h⟩ | ⟨_, _, h⟩⟩ := a9l h2 <;> rw [h]
  ·exact Int.le_refl _
  ·dsimp only
   unfold a2U
   split
   ·rename_i h3
    simp only [Bool.and_eq_true, decide_eq_true_eq] at h3
    omega
   ·omega
 | false => rw [a9v h2]; exact Int.le_refl _
end Go.Proofs.YtjkpoekgnmgofaaGreat

namespace Go.Proofs.YtjkpoekgnmgofaaGreat
open Go.RowKit
open Go.Proofs
set_option linter.unusedVariables false
set_option linter.unusedSimpArgs false

theorem c0E {d : DbT} {l : List OpT} (h : (a1C d l).2.2 = false) : (a1C d l).1 = d ∧ (a1C d l).2.1 = [] := by
 unfold a1C at h ⊢
 split
 ·exact ⟨rfl, rfl⟩
 ·rename_i h1
  rw [if_neg h1] at h
  cases hg : a1y d l with
  | none => exact ⟨rfl, rfl⟩
  | some r => rw [hg] at h; cases h
theorem c5Z {d : DbT} {l : List OpT} (h : (a1C d l).2.2 = true) : a0F d = true ∧ l.length ≤ 6 ∧ ∃ c ns, a1y d l = some (c, ns) ∧ a1C d l = (c, ns, true) := by
 unfold a1C at h ⊢
 split at h
 ·cases h
 ·rename_i h1
  rw [if_neg h1]
  cases hg : a1y d l with
  | none => rw [hg] at h; cases h
  | some r =>
   have h2 : (!a0F d || decide ((6 : Int) < (l.length : Int))) = false := by simpa using h1
   refine ⟨?_, b2N h2, r.1, r.2, rfl, rfl⟩
   cases hd : a0F d with
   | true => rfl
   | false => rw [hd] at h2; cases h2
theorem c0f {c : DbT} {o : OpT} (h : (a0E c o).2.2 = true) (hw : a4m o = false) : (a0E c o).1 = c := by
 unfold a0E at h ⊢
 split
 ·rfl
 ·rename_i h1
  rw [if_neg h1] at h
  split
  ·rfl
  ·obtain ⟨_, ho, hf⟩ := a8B (by simpa using h1)
   have h4 : o.1 = 4 := by
    unfold a4m at hw
    simp only [a1X, Bool.and_eq_true, decide_eq_true_eq] at ho
    have := ho.1.1.1.1
    simp only [Bool.and_eq_false_iff, decide_eq_false_iff_not, Bool.not_eq_false', decide_eq_true_eq] at hw
    omega
   have e : opM (a2o c o) o = (a2o c o, a7t (a2o c o) o.2.2.1, true) := by unfold opM; rw [if_neg (by omega), if_neg (by omega), if_neg (by omega), if_pos h4]
   rw [e]
   dsimp only
   have hl : a0J c o.2.1 < c.2.2.1.length := by
    rcases a6J (p := a0y o.2.1) c.2.2.1 0 (by omega) with h5 | h5
    ·unfold a0J; omega
    ·unfold a0J at hf; omega
   unfold a2o
   exact b5m (by omega)
end Go.Proofs.YtjkpoekgnmgofaaGreat

namespace Go.Proofs.YtjkpoekgnmgofaaGreat
open Go.RowKit
open Go.Proofs
set_option linter.unusedVariables false
set_option linter.unusedSimpArgs false

theorem a3T {a b : Str} : sEq a b = true ↔ a = b := by
 unfold sEq
 rw [beq_iff_eq]
 constructor
 ·intro h
  rw [a6c, a6c] at h
  exact ByteArray.ext (Array.toList_inj.1 h)
 ·intro h; rw [h]
theorem b5a (d : DbT) (n : Str) : decide (0 ≤ a0J d n) = d.2.2.1.any (a0y n) := b8K _
theorem c1o {d : DbT} {n : Str} (h : d.2.2.1.any (a0y n) = true) : 0 ≤ a0J d n := by rw [← b5a] at h; exact of_decide_eq_true h
theorem c3p {d : DbT} {u : a6m} (h : (upA d u).2 = true) : a0F d = true ∧ (upI d u).2 = true ∧ a0F (upI d u).1 = true ∧ upA d u = ((upI d u).1, true) := by
 unfold upA at h ⊢
 split at h
 ·cases h
 ·rename_i h1
  rw [if_neg h1]
  simp only [Bool.or_eq_true, Bool.not_eq_true', not_or, Bool.not_eq_false] at h1
  exact ⟨h1.1.1, h1.1.2, h1.2, rfl⟩
theorem c2o {d : DbT} {u : a6m} (h : (upA d u).2 = false) : (upA d u).1 = d := by
 unfold upA at h ⊢
 split
 ·rfl
 ·rename_i h1; rw [if_neg h1] at h; cases h
theorem c4Z {d : DbT} (h : a0F d = true) {x : a3d} (hx : x ∈ d.2.2.2) : 0 ≤ a0J d x.1 := by
 obtain ⟨i, hi, rfl⟩ := List.mem_iff_getElem.1 hx
 rw [a0F, Bool.and_eq_true, Bool.and_eq_true] at h
 have h1 := h.2.2
 rw [a5N, List.all_eq_true] at h1
 have h2 := h1 i (List.mem_range.2 hi)
 unfold a2N at h2
 rw [Int.toNat_natCast, List.getD_eq_getElem?_getD, List.getElem?_eq_getElem hi] at h2
 simp only [Option.getD_some, Bool.not_eq_true', Bool.or_eq_false_iff, decide_eq_false_iff_not] at h2
 have := h2.1.1.1
 omega
theorem b9A {d : DbT} {u : a6m} (h : (upA d u).2 = true) : a0F (upA d u).1 = true := by
 obtain ⟨_, _, h2, h3⟩ := c3p h
 rw [h3]; exact h2
/-! ### upgrades -/
theorem b7Z : ∀ {l : List a0u}, a8k l → ∀ {s t : a0u}, s ∈ l → t ∈ l → s.1 = t.1 → s = t
 | [], _, _, _, hs, _, _ => by cases hs
 | y :: ys, h, s, t, hs, ht, he => by
  rcases List.mem_cons.1 hs with e1 | hs' <;> rcases List.mem_cons.1 ht with e2 | ht'
  ·rw [e1, e2]
  ·have := (a6S (h.1 t ht')).1
   rw [← e1, he, a3T.2 rfl] at this; cases this
  ·have := (a6S (h.1 s hs')).1
   rw [← e2, he, a3T.2 rfl] at this; cases this
  ·exact b7Z h.2 hs' ht' he
theorem c5E {d : DbT} (h : a0F d = true) {s : a0u} (hs : s ∈ d.2.2.1) : 0 ≤ a0J d s.1 ∧ a0J d s.1 < (d.2.2.1.length : Int) ∧ d.2.2.1.getD (a0J d s.1).toNat default = s := by
 have h0 : 0 ≤ a0J d s.1 := c1o (List.any_eq_true.2 ⟨s, hs, by rw [a0y]; exact a3T.2 rfl⟩)
 rcases a6y (p := a0y s.1) (d := default) d.2.2.1 0 (by omega) with ⟨h1, _⟩ | ⟨m, h1, h2, _, h4⟩
 ·unfold a0J at h0; omega
 ·have e : a0J d s.1 = (m : Int) := by unfold a0J; omega
  rw [e]
  refine ⟨by omega, by omega, ?_⟩
  rw [Int.toNat_natCast]
  have hm : d.2.2.1.getD m default ∈ d.2.2.1 := by
   rw [List.getD_eq_getElem?_getD, List.getElem?_eq_getElem h1]; exact List.getElem_mem h1
  exact b7Z (b2g h) hm hs (a3T.1 h4)
end Go.Proofs.YtjkpoekgnmgofaaGreat

namespace Go.Proofs.YtjkpoekgnmgofaaGreat
open Go.RowKit
open Go.Proofs
set_option linter.unusedVariables false
set_option linter.unusedSimpArgs false

theorem b4d {a n : Int} (ha : 0 ≤ a) (hn : 0 < n) : 0 ≤ a % n ∧ a % n < n := ⟨Int.emod_nonneg a (by omega), Int.emod_lt_of_pos a hn⟩
theorem c5o {l : List Int} {x : Int} (h0 : 0 ≤ x) (h1 : x < (l.length : Int)) : l.getD x.toNat default ∈ l := by
 rw [List.getD_eq_getElem?_getD, List.getElem?_eq_getElem (by omega)]; exact List.getElem_mem _
theorem c0d {l : List Str} {x : Int} (h0 : 0 ≤ x) (h1 : x < (l.length : Int)) : l.getD x.toNat default ∈ l := by
 rw [List.getD_eq_getElem?_getD, List.getElem?_eq_getElem (by omega)]; exact List.getElem_mem _

theorem c2Q {code : List UInt8} (hc : code.length ≤ 1048576) : NFn Tryz.prog 16 81 (a1h (code)) (fun zz : Int × Int => 0 ≤ zz.1) (fun zz : Int × Int => [.dv [] (.int .i64 (zz.1)), .dv [] (.int .i64 (zz.2))]) := by
 refine ⟨a0R Tryz.func16 rfl Tryz.ntmps16 Tryz.results16 rfl (fun C => ?_)⟩
 refine z ?_
 refine yO rfl rfl (a0U (.inr rfl) c2Z) rfl ?_
 iterate 3 refine z ?_
 refine yO rfl rfl (a4I hT rfl rfl (a7x (a0a rfl))) rfl ?_
 iterate 8 refine z ?_
 refine a1f (ι := Int × Int) (fun zz => ⟨[(0, .one (.arg 0 (a1h (code)))), (2, .one .any), (3, .one (.dv [] (.int .i64 (zz.1)))), (4, .one (.dv [] (.int .i64 (zz.2))))], [], []⟩) (fun zz => 0 ≤ zz.2) (fun zz => (code.length - zz.2).toNat) ((193017 + (code.length : Int), 0)) ?_ (a0e ⟨rfl, rfl, rfl, rfl, trivial⟩ trivial trivial rfl) (fun zz hx => ?_)
 ·exact Int.le_refl _
 obtain ⟨h, i⟩ := zz
 replace hx : 0 ≤ i := hx
 show Ok _ _ _ _ _ (⟨[(0, .one (.arg 0 (a1h (code)))), (2, .one .any), (3, .one (.dv [] (.int .i64 (h)))), (4, .one (.dv [] (.int .i64 (i))))], [], []⟩ : St)
 iterate 4 refine z ?_
 refine yO rfl rfl (a4I hT rfl rfl (a7x (a0a rfl))) rfl ?_
 iterate 6 refine z ?_
 refine yQ rfl (fun c1 => ?_) fun c1 => ?_
 ·simp only [Bool.and_eq_true, decide_eq_true_eq] at c1
  iterate 4 refine z ?_
  refine a0o ?_
  refine z ?_
  refine yO rfl rfl (b3u rfl (a0a rfl) (a0n (a0m rfl))) rfl ?_
  iterate 2 refine z ?_
  refine yO rfl rfl (a3W hT rfl rfl rfl (a7x (a0a rfl)) (a0a rfl) (fun _ => rfl) (by omega) (by omega)) rfl ?_
  refine z ?_
  refine yO rfl rfl (b5S hT rfl rfl rfl (a0a rfl)) rfl ?_
  refine yO rfl rfl (a8l rfl (a0a rfl) (a0a rfl)) rfl ?_
  refine yO rfl rfl (a8l rfl (a0a rfl) (a0n (a0m rfl))) rfl ?_
  refine yO rfl rfl (b3b rfl (a0a rfl) (a0n (a0m rfl))) rfl ?_
  refine z ?_
  refine a1z ?_
  generalize bits .and .i64 (IntKind.i64.wrap ((IntKind.i64.wrap ((IntKind.i64.wrap ((h) * (137))) + (IntKind.i64.wrap ((((((code)).getD (i).toNat default)).toNat : Int))))) + (11))) (1073741823) = z27
  iterate 2 refine z ?_
  refine a0o ?_
  iterate 4 refine z ?_
  refine ⟨(z27, i + 1), ?_, ?_, a0e ⟨rfl, rfl, rfl, rfl, trivial⟩ trivial trivial rfl⟩
  ·show 0 ≤ i + 1; omega
  ·dsimp only; omega
 ·iterate 8 refine z ?_
  refine yO rfl rfl (a1F hT hB rfl rfl rfl (a1b (a0a rfl) rfl rfl rfl rfl rfl (a1b (a0a rfl) rfl rfl rfl rfl rfl a1E))) rfl ?_
  iterate 4 refine z ?_
  refine a1x (a0v rfl) ⟨(0, h), 31, ?_, rfl, rfl⟩
  exact Int.le_refl _
theorem b0O {code : List UInt8} {i h : Int} (hc : code.length ≤ 1048576) (hi : 0 ≤ i) : BFn Tryz.prog 67 [] 81 (a1h (code)) [.dv [] (.int .i64 (i)), .dv [] (.int .i64 (h))] (fun zz : Int × Int × Int => 0 ≤ zz.1 ∧ zz.1 ≤ 255 ∧ 0 ≤ zz.2.1) (fun zz : Int × Int × Int => .one (.dv [] (.int .i64 (zz.1)))) (fun zz : Int × Int × Int => []) (fun zz : Int × Int × Int => [.dv [] (.int .i64 (zz.2.1)), .dv [] (.int .i64 (zz.2.2))]) := by
 refine ⟨a3r Tryz.func67 rfl Tryz.ntmps67 Tryz.results67 rfl (fun C => ?_)⟩
 iterate 4 refine z ?_
 refine yO rfl rfl (a0U (.inl rfl) (a1w (a0a rfl))) rfl ?_
 refine yO rfl rfl (a0U (.inl rfl) (a1w (a0a rfl))) rfl ?_
 refine yO rfl rfl (a5w rfl (a0a rfl)) rfl ?_
 iterate 2 refine z ?_
 refine yO rfl rfl (b3u rfl (a0a rfl) (a0n (a0m rfl))) rfl ?_
 refine yO rfl rfl (a8l rfl (a0a rfl) (a0n (a0m rfl))) rfl ?_
 refine yO rfl rfl (a5w rfl (a0a rfl)) rfl ?_
 iterate 2 refine z ?_
 refine a1z ?_
 generalize IntKind.i64.wrap ((IntKind.i64.wrap ((h) * (6364136223846793005))) + (1442695040888963407)) = z10
 refine z ?_
 refine a0p ?_
 refine a1L (oB := [0]) (oK := []) (by kernel_rfl) rfl rfl ?_
 refine a1k 0 rfl (by kernel_rfl) rfl rfl (a0U (.inl rfl) (a1w (a0a rfl))) rfl rfl rfl rfl ?_
 refine a1k 1 rfl (by kernel_rfl) rfl rfl (a5w rfl (a0a rfl)) rfl rfl rfl rfl ?_
 refine zD 2 ?_
 refine zD 3 ?_
 refine a1k 4 rfl (by kernel_rfl) rfl rfl (b5h rfl (a0a rfl) (a0n (a0m rfl)) (by omega) (by decide)) rfl rfl rfl rfl ?_
 refine a1k 5 rfl (by kernel_rfl) rfl rfl (a0U (.inl rfl) (a1w (a0a rfl))) rfl rfl rfl rfl ?_
 refine a1k 6 rfl (by kernel_rfl) rfl rfl (a5w rfl (a0a rfl)) rfl rfl rfl rfl ?_
 refine zD 7 ?_
 refine zD 8 ?_
 refine a1k 9 rfl (by kernel_rfl) rfl rfl (b5h rfl (a0a rfl) (a0n (a0m rfl)) (by omega) (by decide)) rfl rfl rfl rfl ?_
 refine a1k 10 rfl (by kernel_rfl) rfl rfl (c6c rfl (a0a rfl) (a0a rfl)) rfl rfl rfl rfl ?_
 refine a1k 11 rfl (by kernel_rfl) rfl rfl (b3b rfl (a0a rfl) (a0n (a0m rfl))) rfl rfl rfl rfl ?_
 refine zD 12 ?_
 refine a2l (by kernel_rfl) ?_
 have q24 := b4b (bits .xor .i64 ((z10) / (2 ^ (33 : Int).toNat : Nat)) ((z10) / (2 ^ (47 : Int).toNat : Nat)))
 generalize bits .and .i64 (bits .xor .i64 ((z10) / (2 ^ (33 : Int).toNat : Nat)) ((z10) / (2 ^ (47 : Int).toNat : Nat))) (255) = z24 at *
 refine z ?_
 refine a0p ?_
 refine a0p ?_
 refine a1L (oB := [0]) (oK := []) (by kernel_rfl) rfl rfl ?_
 refine a1k 0 rfl (by kernel_rfl) rfl rfl (a0U (.inl rfl) (a1w (a0a rfl))) rfl rfl rfl rfl ?_
 refine a1k 1 rfl (by kernel_rfl) rfl rfl (a5w rfl (a0a rfl)) rfl rfl rfl rfl ?_
 refine zD 2 ?_
 refine zD 3 ?_
 refine a1k 4 rfl (by kernel_rfl) rfl rfl (a0U (.inl rfl) (a1w (a0a rfl))) rfl rfl rfl rfl ?_
 refine a1k 5 rfl (by kernel_rfl) rfl rfl (a5w rfl (a0a rfl)) rfl rfl rfl rfl ?_
 refine zD 6 ?_
 refine zD 7 ?_
 refine a1k 8 rfl (by kernel_rfl) rfl rfl (a4I hT rfl rfl (a7x (a0a rfl))) rfl rfl rfl rfl ?_
 refine zD 9 ?_
 refine a2l (by kernel_rfl) ?_
 refine z ?_
 refine yQ rfl (fun c1 => ?_) fun c1 => ?_
 ·have d1 := of_decide_eq_true c1
  refine a0p ?_
  refine a1L (oB := [0]) (oK := []) (by kernel_rfl) rfl rfl ?_
  refine zD 0 ?_
  refine a1k 1 rfl (by kernel_rfl) rfl rfl (a0U (.inl rfl) (a1w (a0a rfl))) rfl rfl rfl rfl ?_
  refine a1k 2 rfl (by kernel_rfl) rfl rfl (a5w rfl (a0a rfl)) rfl rfl rfl rfl ?_
  refine zD 3 ?_
  refine zD 4 ?_
  refine a1k 5 rfl (by kernel_rfl) rfl rfl (a0U (.inl rfl) (a1w (a0a rfl))) rfl rfl rfl rfl ?_
  refine a1k 6 rfl (by kernel_rfl) rfl rfl (a5w rfl (a0a rfl)) rfl rfl rfl rfl ?_
  refine zD 7 ?_
  refine zD 8 ?_
  refine a1k 9 rfl (by kernel_rfl) rfl rfl (a3W hT rfl rfl rfl (a7x (a0a rfl)) (a0a rfl) (fun _ => rfl) (by omega) (by omega)) rfl rfl rfl rfl ?_
  refine zD 10 ?_
  refine a1k 11 rfl (by kernel_rfl) rfl rfl (b5S hT rfl rfl rfl (a0a rfl)) rfl rfl rfl rfl ?_
  refine a1k 12 rfl (by kernel_rfl) rfl rfl (a8l rfl (a0a rfl) (a0a rfl)) rfl rfl rfl rfl ?_
  refine a1k 13 rfl (by kernel_rfl) rfl rfl (b3b rfl (a0a rfl) (a0n (a0m rfl))) rfl rfl rfl rfl ?_
  refine zD 14 ?_
  refine a2l (by kernel_rfl) ?_
  have q48 : 0 ≤ bits .and .i64 (IntKind.i64.wrap ((z24) + (IntKind.i64.wrap ((((((code)).getD (i).toNat default)).toNat : Int))))) (255) ∧ _ := b4b _
  generalize bits .and .i64 (IntKind.i64.wrap ((z24) + (IntKind.i64.wrap ((((((code)).getD (i).toNat default)).toNat : Int))))) (255) = z48 at *
  refine z ?_
  refine a0o ?_
  refine yO rfl rfl (a0U (.inl rfl) (a1w (a0a rfl))) rfl ?_
  refine yO rfl rfl (a0U (.inl rfl) (a1w (a0a rfl))) rfl ?_
  refine yO rfl rfl (a5w rfl (a0a rfl)) rfl ?_
  iterate 3 refine z ?_
  refine yO rfl rfl (a5w rfl (a0a rfl)) rfl ?_
  iterate 7 refine z ?_
  refine a0h (σ' := ⟨[(2, .one (.dv [] (.int .i64 (z48)))), (0, .abox 0)], [(0, 81, [(.arg 900001 (a1h (code))), (.dv [] (.int .i64 ((i) + (1)))), (.dv [] (.int .i64 (z10)))])], []⟩) (a0e ⟨rfl, rfl, trivial⟩ ⟨rfl, trivial⟩ trivial rfl) ?_
  refine z ?_
  refine a1x (a0v rfl) ⟨((z48), (i) + (1), z10), ?_, rfl, rfl, rfl, rfl⟩
  try dsimp only
  omega
 ·have d1 := of_decide_eq_false c1
  iterate 6 refine z ?_
  refine a0h (σ' := ⟨[(2, .one (.dv [] (.int .i64 (z24)))), (0, .abox 0)], [(0, 81, [(.arg 900001 (a1h (code))), (.dv [] (.int .i64 (i))), (.dv [] (.int .i64 (z10)))])], []⟩) (a0e ⟨rfl, rfl, trivial⟩ ⟨rfl, trivial⟩ trivial rfl) ?_
  refine z ?_
  refine a1x (a0v rfl) ⟨((z24), i, z10), ?_, rfl, rfl, rfl, rfl⟩
  try dsimp only
  omega
theorem a4B {code : List UInt8} {i h : Int} {n : Int} (hc : code.length ≤ 1048576) (hi : 0 ≤ i)  : BFn Tryz.prog 37 [.one (.dv [] (.int .i64 (n)))] 81 (a1h (code)) [.dv [] (.int .i64 (i)), .dv [] (.int .i64 (h))] (fun zz : Int × Int × Int => 0 ≤ zz.1 ∧ (0 < n → zz.1 < n) ∧ 0 ≤ zz.2.1) (fun zz : Int × Int × Int => .one (.dv [] (.int .i64 (zz.1)))) (fun zz : Int × Int × Int => []) (fun zz : Int × Int × Int => [.dv [] (.int .i64 (zz.2.1)), .dv [] (.int .i64 (zz.2.2))]) := by
 refine ⟨a3r Tryz.func37 rfl Tryz.ntmps37 Tryz.results37 rfl (fun C => ?_)⟩
 refine a1i (x := .tmp 1) (a0a rfl) fun f1 => ?_
 iterate 8 refine z ?_
 refine yQ rfl (fun c1 => ?_) fun c1 => ?_
 ·have d1 := of_decide_eq_true c1
  iterate 3 refine z ?_
  refine a0h (σ' := ⟨[(4, .one (.dv [] (.int .i64 (0)))), (0, .abox 0)], [(0, 81, [(.arg 900001 (a1h (code))), (.dv [] (.int .i64 (i))), (.dv [] (.int .i64 (h)))])], []⟩) (a0e ⟨rfl, rfl, trivial⟩ ⟨rfl, trivial⟩ trivial rfl) ?_
  iterate 2 refine z ?_
  refine a1x (a0v rfl) ⟨((0), i, h), ?_, rfl, rfl, rfl, rfl⟩
  try dsimp only
  exact ⟨by omega, by omega, hi⟩
 ·have d1 := of_decide_eq_false c1
  iterate 7 refine z ?_
  refine yQ rfl (fun c2 => ?_) fun c2 => ?_
  ·have d2 := of_decide_eq_true c2
   refine z ?_
   refine yO rfl rfl (a0U (.inl rfl) (a1w (a0a rfl))) rfl ?_
   refine a1Z 13000 rfl rfl rfl Tryz.call67 (b0O (code := code) (i := i) (h := h) (by omega) (by omega)) (a0a rfl) rfl a1G rfl (fun _ => rfl) a1I rfl (fun _ => rfl) (fun _ => rfl) (fun zz hz13 => ?_)
   obtain ⟨e13, i13, h13⟩ := zz
   replace hz13 : 0 ≤ e13 ∧ e13 ≤ 255 ∧ 0 ≤ i13 := hz13
   refine z ?_
   refine yO rfl rfl (a9T rfl (a0a rfl) (a0a rfl) (by omega) (by omega)) rfl ?_
   iterate 2 refine z ?_
   refine a0h (σ' := ⟨[(4, .one (.dv [] (.int .i64 ((e13) % (n))))), (0, .abox 0)], [(0, 81, [(.arg 900001 (a1h (code))), (.dv [] (.int .i64 (i13))), (.dv [] (.int .i64 (h13)))])], []⟩) (a0e ⟨rfl, rfl, trivial⟩ ⟨rfl, trivial⟩ trivial rfl) ?_
   iterate 2 refine z ?_
   refine a1x (a0v rfl) ⟨(((e13) % (n)), i13, h13), ?_, rfl, rfl, rfl, rfl⟩
   try dsimp only
   have := b4d (a := e13) (n := n) (by omega) (by omega)
   exact ⟨this.1, fun _ => this.2, by omega⟩
  ·have d2 := of_decide_eq_false c2
   iterate 3 refine z ?_
   refine yO rfl rfl (a0U (.inl rfl) (a1w (a0a rfl))) rfl ?_
   refine a1Z 17000 rfl rfl rfl Tryz.call67 (b0O (code := code) (i := i) (h := h) (by omega) (by omega)) (a0a rfl) rfl a1G rfl (fun _ => rfl) a1I rfl (fun _ => rfl) (fun _ => rfl) (fun zz hz17 => ?_)
   obtain ⟨e17, i17, h17⟩ := zz
   replace hz17 : 0 ≤ e17 ∧ e17 ≤ 255 ∧ 0 ≤ i17 := hz17
   iterate 3 refine z ?_
   refine yO rfl rfl (a0U (.inl rfl) (a1w (a0a rfl))) rfl ?_
   refine a1Z 19000 rfl rfl rfl Tryz.call67 (b0O (code := code) (i := i17) (h := h17) (by omega) (by omega)) (a0a rfl) rfl a1G rfl (fun _ => rfl) a1I rfl (fun _ => rfl) (fun _ => rfl) (fun zz hz19 => ?_)
   obtain ⟨e19, i19, h19⟩ := zz
   replace hz19 : 0 ≤ e19 ∧ e19 ≤ 255 ∧ 0 ≤ i19 := hz19
   iterate 3 refine z ?_
   refine yO rfl rfl (a0U (.inl rfl) (a1w (a0a rfl))) rfl ?_
   refine a1Z 21000 rfl rfl rfl Tryz.call67 (b0O (code := code) (i := i19) (h := h19) (by omega) (by omega)) (a0a rfl) rfl a1G rfl (fun _ => rfl) a1I rfl (fun _ => rfl) (fun _ => rfl) (fun zz hz21 => ?_)
   obtain ⟨e21, i21, h21⟩ := zz
   replace hz21 : 0 ≤ e21 ∧ e21 ≤ 255 ∧ 0 ≤ i21 := hz21
   iterate 4 refine z ?_
   refine yO rfl rfl (b7p rfl (a0a rfl) (a0n (a0m rfl)) (a6d (by omega) (by omega))) rfl ?_
   refine z ?_
   refine yO rfl rfl (b7p rfl (a0a rfl) (a0n (a0m rfl)) (a6d (by omega) (by omega))) rfl ?_
   iterate 4 refine z ?_
   refine yO rfl rfl (a9T rfl (a0a rfl) (a0a rfl) (by omega) (by omega)) rfl ?_
   iterate 2 refine z ?_
   refine a0h (σ' := ⟨[(4, .one (.dv [] (.int .i64 (((((e17) * (65536)) + ((e19) * (256))) + (e21)) % (n))))), (0, .abox 0)], [(0, 81, [(.arg 900001 (a1h (code))), (.dv [] (.int .i64 (i21))), (.dv [] (.int .i64 (h21)))])], []⟩) (a0e ⟨rfl, rfl, trivial⟩ ⟨rfl, trivial⟩ trivial rfl) ?_
   refine z ?_
   refine a1x (a0v rfl) ⟨((((((e17) * (65536)) + ((e19) * (256))) + (e21)) % (n)), i21, h21), ?_, rfl, rfl, rfl, rfl⟩
   try dsimp only
   have := b4d (a := e17 * 65536 + e19 * 256 + e21) (n := n) (by omega) (by omega)
   exact ⟨this.1, fun _ => this.2, by omega⟩
theorem a9w {code : List UInt8} {i h : Int} {n : Int} (hc : code.length ≤ 1048576) (hi : 0 ≤ i)  : BFn Tryz.prog 64 [.one (.dv [] (.int .i64 (n)))] 81 (a1h (code)) [.dv [] (.int .i64 (i)), .dv [] (.int .i64 (h))] (fun zz : Bool × Int × Int => 0 ≤ zz.2.1) (fun zz : Bool × Int × Int => .one (.dv [] (.bool (zz.1)))) (fun zz : Bool × Int × Int => []) (fun zz : Bool × Int × Int => [.dv [] (.int .i64 (zz.2.1)), .dv [] (.int .i64 (zz.2.2))]) := by
 refine ⟨a3r Tryz.func64 rfl Tryz.ntmps64 Tryz.results64 rfl (fun C => ?_)⟩
 refine a1i (x := .tmp 1) (a0a rfl) fun f1 => ?_
 iterate 4 refine z ?_
 refine yO rfl rfl (a0U (.inl rfl) (a1w (a0a rfl))) rfl ?_
 refine z ?_
 refine a1Z 7000 rfl rfl rfl Tryz.call37 (a4B (code := code) (i := i) (h := h) (n := n) (by omega) (by omega) ) (a0a rfl) rfl a1G rfl (fun _ => rfl) (a2t (a0a rfl) (a0I a0c) rfl a1I) rfl (fun _ => rfl) (fun _ => rfl) (fun zz hz7 => ?_)
 obtain ⟨e7, i7, h7⟩ := zz
 replace hz7 : 0 ≤ e7 ∧ (0 < (n) → e7 < (n)) ∧ 0 ≤ i7 := hz7
 iterate 3 refine z ?_
 refine a0h (σ' := ⟨[(4, .one (.dv [] (.bool (decide ((e7) = (0)))))), (0, .abox 0)], [(0, 81, [(.arg 900001 (a1h (code))), (.dv [] (.int .i64 (i7))), (.dv [] (.int .i64 (h7)))])], []⟩) (a0e ⟨rfl, rfl, trivial⟩ ⟨rfl, trivial⟩ trivial rfl) ?_
 refine z ?_
 refine a1x (a0v rfl) ⟨((decide ((e7) = (0))), i7, h7), ?_, rfl, rfl, rfl, rfl⟩
 try dsimp only
 omega
theorem b5L {code : List UInt8} {i h : Int} {l : List Int} (hc : code.length ≤ 1048576) (hi : 0 ≤ i) (hl : 0 < l.length) : BFn Tryz.prog 99 [.one (.dv [] (a3w (l)))] 81 (a1h (code)) [.dv [] (.int .i64 (i)), .dv [] (.int .i64 (h))] (fun zz : Int × Int × Int => zz.1 ∈ l ∧ 0 ≤ zz.2.1) (fun zz : Int × Int × Int => .one (.dv [] (.int .i64 (zz.1)))) (fun zz : Int × Int × Int => []) (fun zz : Int × Int × Int => [.dv [] (.int .i64 (zz.2.1)), .dv [] (.int .i64 (zz.2.2))]) := by
 refine ⟨a3r Tryz.func99 rfl Tryz.ntmps99 Tryz.results99 rfl (fun C => ?_)⟩
 refine a1i (x := .tmp 1) (a0a rfl) fun f1 => ?_
 iterate 5 refine z ?_
 refine yO rfl rfl (a0U (.inl rfl) (a1w (a0a rfl))) rfl ?_
 iterate 2 refine z ?_
 refine a1Z 9000 rfl rfl rfl Tryz.call37 (a4B (code := code) (i := i) (h := h) (n := (((l)).length : Int)) (by omega) (by omega) ) (a0a rfl) rfl a1G rfl (fun _ => rfl) (a2t (a0a rfl) (a0I a0c) rfl a1I) rfl (fun _ => rfl) (fun _ => rfl) (fun zz hz9 => ?_)
 obtain ⟨e9, i9, h9⟩ := zz
 replace hz9 : 0 ≤ e9 ∧ (0 < ((((l)).length : Int)) → e9 < ((((l)).length : Int))) ∧ 0 ≤ i9 := hz9
 have hl := hz9.2.1 (by omega)
 iterate 4 refine z ?_
 refine a0h (σ' := ⟨[(4, .one (.dv [] (.int .i64 ((((l)).getD (e9).toNat default))))), (0, .abox 0)], [(0, 81, [(.arg 900001 (a1h (code))), (.dv [] (.int .i64 (i9))), (.dv [] (.int .i64 (h9)))])], []⟩) (a0e ⟨rfl, rfl, trivial⟩ ⟨rfl, trivial⟩ trivial rfl) ?_
 refine z ?_
 refine a1x (a0v rfl) ⟨(((((l)).getD (e9).toNat default)), i9, h9), ?_, rfl, rfl, rfl, rfl⟩
 try dsimp only
 exact ⟨c5o (by omega) (by omega), by omega⟩
theorem b2S {code : List UInt8} {i h : Int} {l : List Str} (hc : code.length ≤ 1048576) (hi : 0 ≤ i) (hl : 0 < l.length) : BFn Tryz.prog 105 [.one (.dv [] (a7c (l)))] 81 (a1h (code)) [.dv [] (.int .i64 (i)), .dv [] (.int .i64 (h))] (fun zz : Str × Int × Int => zz.1 ∈ l ∧ 0 ≤ zz.2.1) (fun zz : Str × Int × Int => .one (.dv [] (.str (zz.1)))) (fun zz : Str × Int × Int => []) (fun zz : Str × Int × Int => [.dv [] (.int .i64 (zz.2.1)), .dv [] (.int .i64 (zz.2.2))]) := by
 refine ⟨a3r Tryz.func105 rfl Tryz.ntmps105 Tryz.results105 rfl (fun C => ?_)⟩
 refine a1i (x := .tmp 1) (a0a rfl) fun f1 => ?_
 iterate 5 refine z ?_
 refine yO rfl rfl (a0U (.inl rfl) (a1w (a0a rfl))) rfl ?_
 iterate 2 refine z ?_
 refine a1Z 9000 rfl rfl rfl Tryz.call37 (a4B (code := code) (i := i) (h := h) (n := (((l)).length : Int)) (by omega) (by omega) ) (a0a rfl) rfl a1G rfl (fun _ => rfl) (a2t (a0a rfl) (a0I a0c) rfl a1I) rfl (fun _ => rfl) (fun _ => rfl) (fun zz hz9 => ?_)
 obtain ⟨e9, i9, h9⟩ := zz
 replace hz9 : 0 ≤ e9 ∧ (0 < ((((l)).length : Int)) → e9 < ((((l)).length : Int))) ∧ 0 ≤ i9 := hz9
 have hl := hz9.2.1 (by omega)
 iterate 4 refine z ?_
 refine a0h (σ' := ⟨[(4, .one (.dv [] (.str ((((l)).getD (e9).toNat default))))), (0, .abox 0)], [(0, 81, [(.arg 900001 (a1h (code))), (.dv [] (.int .i64 (i9))), (.dv [] (.int .i64 (h9)))])], []⟩) (a0e ⟨rfl, rfl, trivial⟩ ⟨rfl, trivial⟩ trivial rfl) ?_
 refine z ?_
 refine a1x (a0v rfl) ⟨(((((l)).getD (e9).toNat default)), i9, h9), ?_, rfl, rfl, rfl, rfl⟩
 try dsimp only
 exact ⟨c0d (by omega) (by omega), by omega⟩
end Go.Proofs.YtjkpoekgnmgofaaGreat

namespace Go.Proofs.YtjkpoekgnmgofaaGreat
open Go.RowKit
open Go.Proofs
set_option linter.unusedVariables false
set_option linter.unusedSimpArgs false

def a6F (k : a0Y) : Prop := k.2.1 ≤ 256 ∨ 1000000 < k.2.1
theorem b5f {l : List Str} (h : l.all a4n = true) {s : Str} (hs : s ∈ l) : a4n s = true := List.all_eq_true.1 h s hs
theorem a7i {l : List Str} (h : l.all a2h = true) {s : Str} (hs : s ∈ l) : a2h s = true := List.all_eq_true.1 h s hs
theorem c5u {l : List Int} (a b : Int) (h : l.all (fun x => decide (a ≤ x) && decide (x ≤ b)) = true) {x : Int} (hx : x ∈ l) : a ≤ x ∧ x ≤ b := by simpa using List.all_eq_true.1 h x hx
theorem b7X {n : Int} (h : -1000000000000 ≤ n ∧ n ≤ 1000000000000) : a1n (1, n, ByteArray.empty) = true := by
 have ht : a4n ByteArray.empty = true := by decide +kernel
 have he : sEq ByteArray.empty ByteArray.empty = true := by decide +kernel
 have he2 : (ByteArray.mk #[] : ByteArray) = ByteArray.empty := rfl
 simp [a1n, ht, h.1, h.2, he, he2]
theorem c4d {s : Str} (h : a4n s = true) : a1n (2, 0, s) = true := by simp [a1n, h]
theorem c5C {n : Int} {s : Str} (h : -1000000000000 ≤ n ∧ n ≤ 1000000000000) (hs : a4n s = true) : a1n (3, n, s) = true := by simp [a1n, hs, h.1, h.2]
theorem c4G {k : a0Y} (h : a1n k = true) : k.2.2.size ≤ 12 := (b1S h).2.2
theorem c2N {r : a0A} {n : Str} {v : Int} (h : a1l r = true) : a1l (a1K r n v).1 = true := by
 unfold a1K
 split
 ·exact h
 ·rename_i h1
  simp only [Bool.or_eq_true, Bool.not_eq_true', not_or, Bool.not_eq_false] at h1
  exact h1.2
theorem b6p {r : a0A} (h : a1l r = true) : a5E r ≤ 54 := by
 have h10 := a9A h
 have h11 : a0D a5G r ≤ 8 * r.length := by
  have key : ∀ r : a0A, (∀ f ∈ r, f.1.size ≤ 8) → a0D a5G r ≤ 8 * r.length := by
   intro r
   induction r with
   | nil => intro _; simp [a0D]
   | cons f r ih =>
    intro hf
    have k1 := ih (fun g hg => hf g (by simp [hg]))
    have k2 := hf f (by simp)
    have k3 : a5G f = f.1.size := rfl
    simp only [a0D, List.map_cons, List.sum_cons, List.length_cons] at *
    omega
  refine key _ (fun f hf => ?_)
  obtain ⟨j, hj, rfl⟩ := List.mem_iff_getElem.1 hf
  have := (a6B (b7I h hj).1).2
  rwa [a5r hj] at this
 have h13 : a5E r = r.length + a0D a5G r := rfl
 omega

theorem b4f {code : List UInt8} {i h : Int} (hc : code.length ≤ 1048576) (hi : 0 ≤ i) : BFn Tryz.prog 137 [] 81 (a1h (code)) [.dv [] (.int .i64 (i)), .dv [] (.int .i64 (h))] (fun zz : Int × Int × Int => (-1000000000000 ≤ zz.1 ∧ zz.1 ≤ 1000000000000) ∧ (zz.1 ≤ 256 ∨ 1000000 < zz.1) ∧ 0 ≤ zz.2.1) (fun zz : Int × Int × Int => .one (.dv [] (.int .i64 (zz.1)))) (fun zz : Int × Int × Int => []) (fun zz : Int × Int × Int => [.dv [] (.int .i64 (zz.2.1)), .dv [] (.int .i64 (zz.2.2))]) := by
 refine ⟨a3r Tryz.func137 rfl Tryz.ntmps137 Tryz.results137 rfl (fun C => ?_)⟩
 iterate 4 refine z ?_
 refine yO rfl rfl (a0U (.inl rfl) (a1w (a0a rfl))) rfl ?_
 refine yO rfl rfl (a0U (.inl rfl) (a1w (a0a rfl))) rfl ?_
 refine a1Z 5000 rfl rfl rfl Tryz.call37 (a4B (code := code) (i := i) (h := h) (n := 9) (by omega) (by omega) ) (a0a rfl) rfl a1G rfl (fun _ => rfl) (a2t (a0n (a0m rfl)) (a0I a0c) rfl a1I) rfl (fun _ => rfl) (fun _ => rfl) (fun zz hz5 => ?_)
 obtain ⟨e5, i5, h5⟩ := zz
 replace hz5 : 0 ≤ e5 ∧ (0 < (9 : Int) → e5 < (9 : Int)) ∧ 0 ≤ i5 := hz5
 refine a9n (k := 6) (js := []) hT rfl rfl rfl rfl rfl rfl rfl rfl rfl rfl rfl (a1W (a0n (a0m rfl)) rfl rfl rfl (a1W (a0n (a0m rfl)) rfl rfl rfl (a1W (a0n (a0m rfl)) rfl rfl rfl (a1W (a0n (a0m rfl)) rfl rfl rfl (a1W (a0n (a0m rfl)) rfl rfl rfl (a1W (a0n (a0m rfl)) rfl rfl rfl (a1W (a0n (a0m rfl)) rfl rfl rfl (a1W (a0n (a0m rfl)) rfl rfl rfl (a1W (a0a rfl) rfl rfl rfl a4p))))))))) (a0q (a0B rfl) (a0q (a0B rfl) (a0q (a0B rfl) (a0q (a0B rfl) (a0q (a0B rfl) (a0q (a0B rfl) (a0q (a0B rfl) (a0q (a0B rfl) (a0q (a0B rfl) a1t rfl) rfl) rfl) rfl) rfl) rfl) rfl) rfl) rfl) (by decide) (by decide) rfl rfl ?_
 simp only [a0l, a0i, SV.kill, CV.kill, kk, Nat.reduceBEq]
 refine a1Z 7000 rfl rfl rfl Tryz.call99 (b5L (code := code) (i := i5) (h := h5) (l := [0, 1, 2, -1, 255, 256, -1000000000000, 1000000000000, e5]) (by omega) (by omega) (by exact Nat.succ_pos _)) (a0a rfl) rfl a1G rfl (fun _ => rfl) (a2t (a0a rfl) (a0I (a1d rfl rfl)) rfl a1I) rfl (fun _ => rfl) (fun _ => rfl) (fun zz hz7 => ?_)
 obtain ⟨e7, i7, h7⟩ := zz
 replace hz7 : e7 ∈ ([0, 1, 2, -1, 255, 256, -1000000000000, 1000000000000, e5]) ∧ 0 ≤ i7 := hz7
 iterate 2 refine z ?_
 refine a0h (σ' := ⟨[(2, .one (.dv [] (.int .i64 (e7)))), (0, .abox 0)], [(0, 81, [(.arg 900001 (a1h (code))), (.dv [] (.int .i64 (i7))), (.dv [] (.int .i64 (h7)))])], []⟩) (a0e ⟨rfl, rfl, trivial⟩ ⟨rfl, trivial⟩ trivial rfl) ?_
 refine z ?_
 refine a1x (a0v rfl) ⟨((e7), i7, h7), ?_, rfl, rfl, rfl, rfl⟩
 try dsimp only
 refine ⟨?_, ?_, by omega⟩
 all_goals have h9 := hz5.2.1 (by omega)
 all_goals have h8 := hz7.1
 all_goals simp only [List.mem_cons, List.not_mem_nil, or_false] at h8
 all_goals omega
theorem b9U {code : List UInt8} {i h : Int} (hc : code.length ≤ 1048576) (hi : 0 ≤ i) : BFn Tryz.prog 102 [] 81 (a1h (code)) [.dv [] (.int .i64 (i)), .dv [] (.int .i64 (h))] (fun zz : a0Y × Int × Int => a1n zz.1 = true ∧ a6F zz.1 ∧ 0 ≤ zz.2.1) (fun zz : a0Y × Int × Int => .agg [(.dv [] (.int .i64 (zz.1.1))), (.dv [] (.int .i64 (zz.1.2.1))), (.dv [] (.str (zz.1.2.2)))]) (fun zz : a0Y × Int × Int => []) (fun zz : a0Y × Int × Int => [.dv [] (.int .i64 (zz.2.1)), .dv [] (.int .i64 (zz.2.2))]) := by
 refine ⟨a3r Tryz.func102 rfl Tryz.ntmps102 Tryz.results102 rfl (fun C => ?_)⟩
 iterate 4 refine z ?_
 refine yO rfl rfl (a0U (.inl rfl) (a1w (a0a rfl))) rfl ?_
 refine a9n (k := 5) (js := []) hT rfl rfl rfl rfl rfl rfl rfl rfl rfl rfl rfl (a1W (a0G (a0H rfl)) rfl rfl rfl (a1W (a0G (a0H rfl)) rfl rfl rfl (a1W (a0G (a0H rfl)) rfl rfl rfl (a1W (a0G (a0H rfl)) rfl rfl rfl (a1W (a0G (a0H rfl)) rfl rfl rfl (a1W (a0G (a0H rfl)) rfl rfl rfl a4p)))))) (a0q (a0B rfl) (a0q (a0B rfl) (a0q (a0B rfl) (a0q (a0B rfl) (a0q (a0B rfl) (a0q (a0B rfl) a1t rfl) rfl) rfl) rfl) rfl) rfl) (by decide) (by decide) rfl rfl ?_
 simp only [a0l, a0i, SV.kill, CV.kill, kk, Nat.reduceBEq]
 refine a1Z 6000 rfl rfl rfl Tryz.call105 (b2S (code := code) (i := i) (h := h) (l := [ByteArray.mk #[], ByteArray.mk #[97], ByteArray.mk #[97, 98], ByteArray.mk #[98], ByteArray.mk #[122, 57], ByteArray.mk #[97, 98, 99, 100, 101, 102, 103, 104, 105, 106, 107, 108]]) (by omega) (by omega) (by exact Nat.succ_pos _)) (a0a rfl) rfl a1G rfl (fun _ => rfl) (a2t (a0a rfl) (a0I (a1d rfl rfl)) rfl a1I) rfl (fun _ => rfl) (fun _ => rfl) (fun zz hz6 => ?_)
 obtain ⟨e6, i6, h6⟩ := zz
 replace hz6 : e6 ∈ ([ByteArray.mk #[], ByteArray.mk #[97], ByteArray.mk #[97, 98], ByteArray.mk #[98], ByteArray.mk #[122, 57], ByteArray.mk #[97, 98, 99, 100, 101, 102, 103, 104, 105, 106, 107, 108]]) ∧ 0 ≤ i6 := hz6
 iterate 4 refine z ?_
 refine yO rfl rfl (a0U (.inl rfl) (a1w (a0a rfl))) rfl ?_
 refine a1Z 8000 rfl rfl rfl Tryz.call37 (a4B (code := code) (i := i6) (h := h6) (n := 3) (by omega) (by omega) ) (a0a rfl) rfl a1G rfl (fun _ => rfl) (a2t (a0n (a0m rfl)) (a0I a0c) rfl a1I) rfl (fun _ => rfl) (fun _ => rfl) (fun zz hz8 => ?_)
 obtain ⟨e8, i8, h8⟩ := zz
 replace hz8 : 0 ≤ e8 ∧ (0 < (3 : Int) → e8 < (3 : Int)) ∧ 0 ≤ i8 := hz8
 iterate 6 refine z ?_
 refine yQ rfl (fun c1 => ?_) fun c1 => ?_
 ·have d1 := of_decide_eq_true c1
  iterate 2 refine z ?_
  refine yO rfl rfl (a1F hT hB rfl rfl rfl (a1b (a0n (a0m rfl)) rfl rfl rfl rfl rfl (a1b (a0a rfl) rfl rfl rfl rfl rfl a1E))) rfl ?_
  iterate 2 refine z ?_
  refine a0h (σ' := ⟨[(2, .box 2 0), (0, .abox 0)], [(2, 63, [(.dv [] (.int .i64 (2))), (.dv [] (.int .i64 (0))), (.dv [] (.str (e6)))]), (0, 81, [(.arg 900001 (a1h (code))), (.dv [] (.int .i64 (i8))), (.dv [] (.int .i64 (h8)))])], []⟩) (a0e ⟨rfl, rfl, trivial⟩ ⟨rfl, rfl, trivial⟩ trivial rfl) ?_
  iterate 3 refine z ?_
  refine a1x (a0C hT rfl rfl rfl rfl) ⟨(((2), ((0), (e6))), i8, h8), ?_, rfl, rfl, rfl, rfl⟩
  try dsimp only
  exact ⟨c4d (b5f (l := [ByteArray.mk #[], ByteArray.mk #[97], ByteArray.mk #[97, 98], ByteArray.mk #[98], ByteArray.mk #[122, 57], ByteArray.mk #[97, 98, 99, 100, 101, 102, 103, 104, 105, 106, 107, 108]]) (by decide +kernel) hz6.1), .inl (by dsimp only; omega), by omega⟩
 ·have d1 := of_decide_eq_false c1
  iterate 4 refine z ?_
  refine yQ rfl (fun c2 => ?_) fun c2 => ?_
  ·have d2 := of_decide_eq_true c2
   refine z ?_
   refine yO rfl rfl (a0U (.inl rfl) (a1w (a0a rfl))) rfl ?_
   refine a1Z 16000 rfl rfl rfl Tryz.call137 (b4f (code := code) (i := i8) (h := h8) (by omega) (by omega)) (a0a rfl) rfl a1G rfl (fun _ => rfl) a1I rfl (fun _ => rfl) (fun _ => rfl) (fun zz hz16 => ?_)
   obtain ⟨e16, i16, h16⟩ := zz
   replace hz16 : (-1000000000000 ≤ e16 ∧ e16 ≤ 1000000000000) ∧ (e16 ≤ 256 ∨ 1000000 < e16) ∧ 0 ≤ i16 := hz16
   refine z ?_
   refine yO rfl rfl (a1F hT hB rfl rfl rfl (a1b (a0n (a0m rfl)) rfl rfl rfl rfl rfl (a1b (a0a rfl) rfl rfl rfl rfl rfl (a1b (a0a rfl) rfl rfl rfl rfl rfl a1E)))) rfl ?_
   iterate 2 refine z ?_
   refine a0h (σ' := ⟨[(2, .box 2 0), (0, .abox 0)], [(2, 63, [(.dv [] (.int .i64 (3))), (.dv [] (.int .i64 (e16))), (.dv [] (.str (e6)))]), (0, 81, [(.arg 900001 (a1h (code))), (.dv [] (.int .i64 (i16))), (.dv [] (.int .i64 (h16)))])], []⟩) (a0e ⟨rfl, rfl, trivial⟩ ⟨rfl, rfl, trivial⟩ trivial rfl) ?_
   iterate 3 refine z ?_
   refine a1x (a0C hT rfl rfl rfl rfl) ⟨(((3), ((e16), (e6))), i16, h16), ?_, rfl, rfl, rfl, rfl⟩
   try dsimp only
   exact ⟨c5C hz16.1 (b5f (l := [ByteArray.mk #[], ByteArray.mk #[97], ByteArray.mk #[97, 98], ByteArray.mk #[98], ByteArray.mk #[122, 57], ByteArray.mk #[97, 98, 99, 100, 101, 102, 103, 104, 105, 106, 107, 108]]) (by decide +kernel) hz6.1), hz16.2.1, by omega⟩
  ·have d2 := of_decide_eq_false c2
   iterate 4 refine z ?_
   refine yO rfl rfl (a0U (.inl rfl) (a1w (a0a rfl))) rfl ?_
   refine a1Z 20000 rfl rfl rfl Tryz.call137 (b4f (code := code) (i := i8) (h := h8) (by omega) (by omega)) (a0a rfl) rfl a1G rfl (fun _ => rfl) a1I rfl (fun _ => rfl) (fun _ => rfl) (fun zz hz20 => ?_)
   obtain ⟨e20, i20, h20⟩ := zz
   replace hz20 : (-1000000000000 ≤ e20 ∧ e20 ≤ 1000000000000) ∧ (e20 ≤ 256 ∨ 1000000 < e20) ∧ 0 ≤ i20 := hz20
   refine yO rfl rfl (a1F hT hB rfl rfl rfl (a1b (a0n (a0m rfl)) rfl rfl rfl rfl rfl (a1b (a0a rfl) rfl rfl rfl rfl rfl a1E))) rfl ?_
   iterate 2 refine z ?_
   refine a0h (σ' := ⟨[(2, .box 2 0), (0, .abox 0)], [(2, 63, [(.dv [] (.int .i64 (1))), (.dv [] (.int .i64 (e20))), (.dv [] (.str (ByteArray.empty)))]), (0, 81, [(.arg 900001 (a1h (code))), (.dv [] (.int .i64 (i20))), (.dv [] (.int .i64 (h20)))])], []⟩) (a0e ⟨rfl, rfl, trivial⟩ ⟨rfl, rfl, trivial⟩ trivial rfl) ?_
   refine z ?_
   refine a1x (a0C hT rfl rfl rfl rfl) ⟨(((1), ((e20), (ByteArray.empty))), i20, h20), ?_, rfl, rfl, rfl, rfl⟩
   try dsimp only
   exact ⟨b7X hz20.1, hz20.2.1, by omega⟩
theorem b3W {code : List UInt8} {i h : Int} (hc : code.length ≤ 1048576) (hi : 0 ≤ i) : BFn Tryz.prog 100 [] 81 (a1h (code)) [.dv [] (.int .i64 (i)), .dv [] (.int .i64 (h))] (fun zz : a0Y × Int × Int => a1n zz.1 = true ∧ a6F zz.1 ∧ 0 ≤ zz.2.1) (fun zz : a0Y × Int × Int => .agg [(.dv [] (.int .i64 (zz.1.1))), (.dv [] (.int .i64 (zz.1.2.1))), (.dv [] (.str (zz.1.2.2)))]) (fun zz : a0Y × Int × Int => []) (fun zz : a0Y × Int × Int => [.dv [] (.int .i64 (zz.2.1)), .dv [] (.int .i64 (zz.2.2))]) := by
 refine ⟨a3r Tryz.func100 rfl Tryz.ntmps100 Tryz.results100 rfl (fun C => ?_)⟩
 iterate 4 refine z ?_
 refine yO rfl rfl (a0U (.inl rfl) (a1w (a0a rfl))) rfl ?_
 refine a1Z 4000 rfl rfl rfl Tryz.call37 (a4B (code := code) (i := i) (h := h) (n := 6) (by omega) (by omega) ) (a0a rfl) rfl a1G rfl (fun _ => rfl) (a2t (a0n (a0m rfl)) (a0I a0c) rfl a1I) rfl (fun _ => rfl) (fun _ => rfl) (fun zz hz4 => ?_)
 obtain ⟨e4, i4, h4⟩ := zz
 replace hz4 : 0 ≤ e4 ∧ (0 < (6 : Int) → e4 < (6 : Int)) ∧ 0 ≤ i4 := hz4
 refine yO rfl rfl (a1F hT hB rfl rfl rfl (a1b (a0n (a0m rfl)) rfl rfl rfl rfl rfl (a1b (a0a rfl) rfl rfl rfl rfl rfl a1E))) rfl ?_
 iterate 2 refine z ?_
 refine a0h (σ' := ⟨[(2, .box 2 0), (0, .abox 0)], [(2, 63, [(.dv [] (.int .i64 (1))), (.dv [] (.int .i64 (e4))), (.dv [] (.str (ByteArray.empty)))]), (0, 81, [(.arg 900001 (a1h (code))), (.dv [] (.int .i64 (i4))), (.dv [] (.int .i64 (h4)))])], []⟩) (a0e ⟨rfl, rfl, trivial⟩ ⟨rfl, rfl, trivial⟩ trivial rfl) ?_
 refine z ?_
 refine a1x (a0C hT rfl rfl rfl rfl) ⟨(((1), ((e4), (ByteArray.empty))), i4, h4), ?_, rfl, rfl, rfl, rfl⟩
 try dsimp only
 have h9 := hz4.2.1 (by omega)
 exact ⟨b7X (by omega), .inl (by dsimp only; omega), by omega⟩
theorem b0k {code : List UInt8} {i h : Int} (hc : code.length ≤ 1048576) (hi : 0 ≤ i) : BFn Tryz.prog 66 [] 81 (a1h (code)) [.dv [] (.int .i64 (i)), .dv [] (.int .i64 (h))] (fun zz : Str × Int × Int => a2h zz.1 = true ∧ 0 ≤ zz.2.1) (fun zz : Str × Int × Int => .one (.dv [] (.str (zz.1)))) (fun zz : Str × Int × Int => []) (fun zz : Str × Int × Int => [.dv [] (.int .i64 (zz.2.1)), .dv [] (.int .i64 (zz.2.2))]) := by
 refine ⟨a3r Tryz.func66 rfl Tryz.ntmps66 Tryz.results66 rfl (fun C => ?_)⟩
 iterate 4 refine z ?_
 refine yO rfl rfl (a0U (.inl rfl) (a1w (a0a rfl))) rfl ?_
 refine a9n (k := 4) (js := []) hT rfl rfl rfl rfl rfl rfl rfl rfl rfl rfl rfl (a1W (a0G (a0H rfl)) rfl rfl rfl (a1W (a0G (a0H rfl)) rfl rfl rfl (a1W (a0G (a0H rfl)) rfl rfl rfl (a1W (a0G (a0H rfl)) rfl rfl rfl (a1W (a0G (a0H rfl)) rfl rfl rfl a4p))))) (a0q (a0B rfl) (a0q (a0B rfl) (a0q (a0B rfl) (a0q (a0B rfl) (a0q (a0B rfl) a1t rfl) rfl) rfl) rfl) rfl) (by decide) (by decide) rfl rfl ?_
 simp only [a0l, a0i, SV.kill, CV.kill, kk, Nat.reduceBEq]
 refine a1Z 5000 rfl rfl rfl Tryz.call105 (b2S (code := code) (i := i) (h := h) (l := [ByteArray.mk #[97], ByteArray.mk #[98], ByteArray.mk #[99], ByteArray.mk #[100, 111, 110, 101], ByteArray.mk #[116, 105, 116, 108, 101]]) (by omega) (by omega) (by exact Nat.succ_pos _)) (a0a rfl) rfl a1G rfl (fun _ => rfl) (a2t (a0a rfl) (a0I (a1d rfl rfl)) rfl a1I) rfl (fun _ => rfl) (fun _ => rfl) (fun zz hz5 => ?_)
 obtain ⟨e5, i5, h5⟩ := zz
 replace hz5 : e5 ∈ ([ByteArray.mk #[97], ByteArray.mk #[98], ByteArray.mk #[99], ByteArray.mk #[100, 111, 110, 101], ByteArray.mk #[116, 105, 116, 108, 101]]) ∧ 0 ≤ i5 := hz5
 iterate 2 refine z ?_
 refine a0h (σ' := ⟨[(2, .one (.dv [] (.str (e5)))), (0, .abox 0)], [(0, 81, [(.arg 900001 (a1h (code))), (.dv [] (.int .i64 (i5))), (.dv [] (.int .i64 (h5)))])], []⟩) (a0e ⟨rfl, rfl, trivial⟩ ⟨rfl, trivial⟩ trivial rfl) ?_
 refine z ?_
 refine a1x (a0v rfl) ⟨((e5), i5, h5), ?_, rfl, rfl, rfl, rfl⟩
 try dsimp only
 exact ⟨a7i (l := [ByteArray.mk #[97], ByteArray.mk #[98], ByteArray.mk #[99], ByteArray.mk #[100, 111, 110, 101], ByteArray.mk #[116, 105, 116, 108, 101]]) (by decide +kernel) hz5.1, by omega⟩
theorem b0L {code : List UInt8} {i h : Int} (hc : code.length ≤ 1048576) (hi : 0 ≤ i) : BFn Tryz.prog 101 [] 81 (a1h (code)) [.dv [] (.int .i64 (i)), .dv [] (.int .i64 (h))] (fun zz : a0A × Int × Int => a1l zz.1 = true ∧ 0 ≤ zz.2.1) (fun zz : a0A × Int × Int => .agg [(.key 9001)]) (fun zz : a0A × Int × Int => [(9001, some (a0b false (a0L (zz.1))))]) (fun zz : a0A × Int × Int => [.dv [] (.int .i64 (zz.2.1)), .dv [] (.int .i64 (zz.2.2))]) := by
 refine ⟨a3r Tryz.func101 rfl Tryz.ntmps101 Tryz.results101 rfl (fun C => ?_)⟩
 iterate 4 refine z ?_
 refine yO rfl rfl (a1F hT hB rfl rfl rfl a1E) rfl ?_
 iterate 3 refine z ?_
 refine a0p ?_
 refine a0p ?_
 refine a0h (a3a 9001 (b := 3) (i := 0) (e := 137) (sz := 2) rfl rfl rfl rfl rfl) ?_
 simp only [a0l, a0i, SV.kill, CV.kill, kk, Nat.reduceBEq]
 refine a0o ?_
 refine yO rfl rfl (a0U (.inl rfl) (a1w (a0a rfl))) rfl ?_
 refine a1Z 7000 rfl rfl rfl Tryz.call37 (a4B (code := code) (i := i) (h := h) (n := 4) (by omega) (by omega) ) (a0a rfl) rfl a1G rfl (fun _ => rfl) (a2t (a0n (a0m rfl)) (a0I a0c) rfl a1I) rfl (fun _ => rfl) (fun _ => rfl) (fun zz hz7 => ?_)
 obtain ⟨e7, i7, h7⟩ := zz
 replace hz7 : 0 ≤ e7 ∧ (0 < (4 : Int) → e7 < (4 : Int)) ∧ 0 ≤ i7 := hz7
 iterate 3 refine z ?_
 refine a1f (ι := Int × a0A × Int × Int) (fun zz => ⟨[(0, .abox 0), (2, .box 2 0), (3, .box 3 0), (4, .one (.dv [] (.int .i64 (zz.1))))], [(0, 81, [(.arg 900001 (a1h (code))), (.dv [] (.int .i64 (zz.2.2.1))), (.dv [] (.int .i64 (zz.2.2.2)))]), (2, 66, [.nil]), (3, 66, [(.key 9001)])], [(9001, some (a0b false (.sl 137 2 (zz.2.1.length) (zz.2.1.flatMap a1H))))]⟩) (fun zz => a1l zz.2.1 = true ∧ 0 ≤ zz.2.2.1 ∧ zz.1 ≤ 9) (fun zz => zz.1.toNat) ((e7, [], i7, h7)) ?_ (a0e ⟨rfl, rfl, rfl, rfl, trivial⟩ ⟨rfl, rfl, rfl, trivial⟩ ⟨rfl, trivial⟩ rfl) (fun zz hx => ?_)
 ·exact ⟨rfl, by dsimp only; omega, by dsimp only; omega⟩
 obtain ⟨n, r, ci, ch⟩ := zz
 replace hx : a1l r = true ∧ 0 ≤ ci ∧ n ≤ 9 := hx
 obtain ⟨hr, hci, hn9⟩ := hx
 show Ok _ _ _ _ _ (⟨[(0, .abox 0), (2, .box 2 0), (3, .box 3 0), (4, .one (.dv [] (.int .i64 (n))))], [(0, 81, [(.arg 900001 (a1h (code))), (.dv [] (.int .i64 (ci))), (.dv [] (.int .i64 (ch)))]), (2, 66, [.nil]), (3, 66, [(.key 9001)])], [(9001, some (a0b false (.sl 137 2 (r.length) (r.flatMap a1H))))]⟩ : St)
 iterate 5 refine z ?_
 refine yQ rfl (fun c1 => ?_) fun c1 => ?_
 ·have d1 := of_decide_eq_true c1
  iterate 4 refine z ?_
  refine a6j [0] [0, 1, 2, 3, 4, 5, 6] (oB := [2, 3]) (oK := [9001]) (by kernel_rfl) rfl rfl ?_
  refine a2e 0 rfl (by kernel_rfl) rfl rfl (a2v hT rfl rfl (a0a rfl) rfl rfl) rfl rfl rfl rfl rfl ?_
  refine a2e 1 rfl (by kernel_rfl) rfl rfl (a0U (.inl rfl) (a1w (a0a rfl))) rfl rfl rfl rfl rfl ?_
  refine a2e 3 rfl (by kernel_rfl) rfl rfl (a0U (.inl rfl) (a1w (a0a rfl))) rfl rfl rfl rfl rfl ?_
  refine a2F 2 [] (by kernel_rfl) ⟨?_, trivial⟩
  refine a4x 15000 2 rfl rfl rfl rfl rfl Tryz.call66 (b0k (code := code) (i := ci) (h := ch) (by omega) (by omega)) (a0a rfl) rfl a1G rfl (fun _ => rfl) a1I rfl (fun _ => rfl) (fun _ => rfl) rfl (fun zz hz15 => ?_)
  obtain ⟨e15, i15, h15⟩ := zz
  replace hz15 : a2h e15 = true ∧ 0 ≤ i15 := hz15
  refine a2F 4 [] (by kernel_rfl) ⟨?_, trivial⟩
  refine a4x 17000 4 rfl rfl rfl rfl rfl Tryz.call37 (a4B (code := code) (i := i15) (h := h15) (n := 5) (by omega) (by omega) ) (a0a rfl) rfl a1G rfl (fun _ => rfl) (a2t (a0n (a0m rfl)) (a0I a0c) rfl a1I) rfl (fun _ => rfl) (fun _ => rfl) rfl (fun zz hz17 => ?_)
  obtain ⟨e17, i17, h17⟩ := zz
  replace hz17 : 0 ≤ e17 ∧ (0 < (5 : Int) → e17 < (5 : Int)) ∧ 0 ≤ i17 := hz17
  refine a2F 5 [] (by kernel_rfl) ⟨?_, trivial⟩
  refine a8x 500 5 rfl rfl rfl rfl Tryz.call136 (b2h (r := r) (n := e15) (v := e17) (by have := a9A hr; omega)) (a0g (a0a rfl) (a0t (a0d (a1d rfl rfl) a0s)) (a0g (a0a rfl) (a0I a0c) (a0g (a0a rfl) (a0I a0c) a0w))) rfl rfl rfl rfl rfl rfl ?_
  refine a2e 6 rfl (by kernel_rfl) rfl rfl (a0U (.inl rfl) (a0a rfl)) rfl rfl rfl rfl rfl ?_
  refine a4q 7 rfl (by kernel_rfl) rfl rfl rfl (a3q rfl (a0a rfl) rfl) rfl rfl ?_
  refine a4q 8 rfl (by kernel_rfl) rfl rfl rfl (a2L rfl (a0a rfl) rfl) rfl rfl ?_
  refine a6W [9] rfl rfl (by kernel_rfl) ?_
  refine z ?_
  refine a1z ?_
  iterate 2 refine z ?_
  refine a0o ?_
  iterate 4 refine z ?_
  refine ⟨(n - 1, (a1K r e15 e17).1, i17, h17), ?_, ?_, a4h (a2i (b := 3) (i := 0) (k := 9501) (k' := 9001) rfl rfl rfl rfl (by simp) rfl rfl) (a0e ⟨rfl, rfl, rfl, rfl, trivial⟩ ⟨rfl, rfl, rfl, trivial⟩ ⟨rfl, trivial⟩ rfl)⟩
  ·exact ⟨c2N hr, by dsimp only; omega, by dsimp only; omega⟩
  ·dsimp only; omega
 ·have d1 := of_decide_eq_false c1
  iterate 9 refine z ?_
  refine a0h (σ' := ⟨[(2, .box 2 0), (0, .abox 0)], [(2, 66, [(.key 9001)]), (0, 81, [(.arg 900001 (a1h (code))), (.dv [] (.int .i64 (ci))), (.dv [] (.int .i64 (ch)))])], [(9001, some (a0b false (.sl 137 2 (r.length) (r.flatMap a1H))))]⟩) (a0e ⟨rfl, rfl, trivial⟩ ⟨rfl, rfl, trivial⟩ ⟨rfl, trivial⟩ rfl) ?_
  refine z ?_
  refine a1x (a0C hT rfl rfl rfl rfl) ⟨((r), ci, ch), ?_, rfl, rfl, rfl, rfl⟩
  try dsimp only
  exact ⟨hr, by omega⟩
end Go.Proofs.YtjkpoekgnmgofaaGreat

namespace Go.Proofs.YtjkpoekgnmgofaaGreat
open Go.RowKit
open Go.Proofs
set_option linter.unusedVariables false
set_option linter.unusedSimpArgs false

def a6O (s : a0u) : Prop := ∀ y ∈ s.2.1, y.1.1 = 1 → y.1.2.1 ≤ 1000000 → y.1.2.1 ≤ s.2.2
theorem c0p {l : List a0O} {j : Nat} {y z : a0O} (h : z ∈ a2a l j y) : z = y ∨ z ∈ l := by
 unfold a2a at h
 simp only [List.mem_append, List.mem_singleton] at h
 rcases h with (h | h) | h
 ·exact .inr (List.mem_of_mem_take h)
 ·exact .inl h
 ·exact .inr (List.mem_of_mem_drop h)
theorem b7f {s : a0u} {k : a0Y} {r : a0A} (h : a6O s) : a6O (a0S s k r).1 := by
 cases h2 : (a0S s k r).2 with
 | false => rw [a9v h2]; exact h
 | true =>
  obtain ⟨_, _, _, ⟨h3, e⟩ | ⟨h3, _, e⟩⟩ := a9l h2
  ·rw [e]
   intro y hy h4 h5
   dsimp only at hy ⊢
   have hm : y.1 ∈ (a2p s.2.1 (a0W s k).toNat r).map Prod.fst := List.mem_map_of_mem hy
   rw [c3M] at hm
   obtain ⟨z, hz, hzy⟩ := List.mem_map.1 hm
   have := h z hz (by rw [hzy]; exact h4) (by rw [hzy]; exact h5)
   rw [hzy] at this; exact this
  ·rw [e]
   intro y hy h4 h5
   dsimp only at hy ⊢
   have ha : s.2.2 ≤ a2U s k := by
    have := c3c (x := s) (k := k) (r := r)
    rw [e] at this; exact this
   rcases c0p hy with rfl | hy
   ·unfold a2U
    dsimp only at h4 h5 ⊢
    split
    ·exact Int.le_refl _
    ·rename_i hh
     simp only [Bool.and_eq_true, decide_eq_true_eq] at hh
     omega
   ·have := h y hy h4 h5
    omega
theorem b4k {s : a0u} {k : a0Y} {r : a0A} (h : s.2.2 ≤ 256) (hk : a6F k) : (a0S s k r).1.2.2 ≤ 256 := by
 cases h2 : (a0S s k r).2 with
 | false => rw [a9v h2]; exact h
 | true =>
  obtain ⟨_, _, _, ⟨h3, e⟩ | ⟨h3, _, e⟩⟩ := a9l h2
  ·rw [e]; exact h
  ·rw [e]
   dsimp only
   unfold a2U
   split
   ·rename_i hh
    simp only [Bool.and_eq_true, decide_eq_true_eq] at hh
    unfold a6F at hk
    omega
   ·exact h
theorem b2k {s : a0u} (h : a1g s = true) : a0X s ≤ 1200 := by
 have h0 := h
 simp only [a1g, Bool.and_eq_true, List.all_eq_true, decide_eq_true_eq] at h
 obtain ⟨h1, ⟨h2, h3⟩, h4⟩ := h
 have h5 := a6B h2
 have h6 : ∀ x ∈ s.2.1, a1S x ≤ 70 := fun x hx => by
  obtain ⟨i, hi, rfl⟩ := List.mem_iff_getElem.1 hx
  have h7 := h1 i (List.mem_range.2 hi)
  unfold a3U at h7
  rw [a5r hi] at h7
  simp only [Bool.not_or, Bool.not_not, Bool.and_eq_true] at h7
  have h8 := (b1S h7.1.1).2.2
  have h9 := b6p h7.1.2
  have h12 : a1S s.2.1[i] = s.2.1[i].1.2.2.size + a5E s.2.1[i].2 := rfl
  omega
 have h7 : a0D a1S s.2.1 ≤ 70 * s.2.1.length := by
  have key : ∀ l : List a0O, (∀ x ∈ l, a1S x ≤ 70) → a0D a1S l ≤ 70 * l.length := by
   intro l
   induction l with
   | nil => intro _; simp [a0D]
   | cons x l ih =>
    intro hx
    have k1 := ih (fun g hg => hx g (by simp [hg]))
    have k2 := hx x (by simp)
    simp only [a0D, List.map_cons, List.sum_cons, List.length_cons] at *
    omega
  exact key _ h6
 have h8 : a0X s = s.1.size + (s.2.1.length + a0D a1S s.2.1) := rfl
 omega
theorem b1v {code : List UInt8} {i h : Int} {nm : Str} (hc : code.length ≤ 1048576) (hi : 0 ≤ i) (hn : a2h nm = true) : BFn Tryz.prog 63 [.one (.dv [] (.str (nm)))] 81 (a1h (code)) [.dv [] (.int .i64 (i)), .dv [] (.int .i64 (h))] (fun zz : a0u × Int × Int => a1g zz.1 = true ∧ zz.1.1 = nm ∧ a6O zz.1 ∧ zz.1.2.2 ≤ 256 ∧ 0 ≤ zz.2.1) (fun zz : a0u × Int × Int => .agg [(.dv [] (.str (zz.1.1))), (.key 9001), (.dv [] (.int .i64 (zz.1.2.2)))]) (fun zz : a0u × Int × Int => [(9001, some (a0b false (a0x (zz.1.2.1))))]) (fun zz : a0u × Int × Int => [.dv [] (.int .i64 (zz.2.1)), .dv [] (.int .i64 (zz.2.2))]) := by
 refine ⟨a3r Tryz.func63 rfl Tryz.ntmps63 Tryz.results63 rfl (fun C => ?_)⟩
 refine a1i (x := .tmp 1) (a0a rfl) fun f1 => ?_
 iterate 5 refine z ?_
 refine yO rfl rfl (a1F hT hB rfl rfl rfl (a1b (a0a rfl) rfl rfl rfl rfl rfl a1E)) rfl ?_
 iterate 3 refine z ?_
 refine a0p ?_
 refine a0p ?_
 refine a0h (a3a 9001 (b := 5) (i := 1) (e := 93) (sz := 4) rfl rfl rfl rfl rfl) ?_
 simp only [a0l, a0i, SV.kill, CV.kill, kk, Nat.reduceBEq]
 refine a0o ?_
 refine yO rfl rfl (a0U (.inl rfl) (a1w (a0a rfl))) rfl ?_
 refine a9n (k := 10) (js := []) hT rfl rfl rfl rfl rfl rfl rfl rfl rfl rfl rfl (a1W (a0n (a0m rfl)) rfl rfl rfl (a1W (a0n (a0m rfl)) rfl rfl rfl (a1W (a0n (a0m rfl)) rfl rfl rfl (a1W (a0n (a0m rfl)) rfl rfl rfl a4p)))) (a0q (a0B rfl) (a0q (a0B rfl) (a0q (a0B rfl) (a0q (a0B rfl) a1t rfl) rfl) rfl) rfl) (by decide) (by decide) rfl rfl ?_
 simp only [a0l, a0i, SV.kill, CV.kill, kk, Nat.reduceBEq]
 refine a1Z 11000 rfl rfl rfl Tryz.call99 (b5L (code := code) (i := i) (h := h) (l := [0, 2, 4, 6]) (by omega) (by omega) (by exact Nat.succ_pos _)) (a0a rfl) rfl a1G rfl (fun _ => rfl) (a2t (a0a rfl) (a0I (a1d rfl rfl)) rfl a1I) rfl (fun _ => rfl) (fun _ => rfl) (fun zz hz11 => ?_)
 obtain ⟨e11, i11, h11⟩ := zz
 replace hz11 : e11 ∈ ([0, 2, 4, 6]) ∧ 0 ≤ i11 := hz11
 have hnr := c5u 0 6 (by decide +kernel) hz11.1
 iterate 3 refine z ?_
 refine a1f (ι := Int × a0u × Int × Int) (fun zz => ⟨[(0, .abox 0), (4, .box 4 0), (5, .box 5 0), (6, .one (.dv [] (.int .i64 (zz.1))))], [(0, 81, [(.arg 900001 (a1h (code))), (.dv [] (.int .i64 (zz.2.2.1))), (.dv [] (.int .i64 (zz.2.2.2)))]), (4, 60, [(.dv [] (.str (ByteArray.empty))), .nil, (.dv [] (.int .i64 (0)))]), (5, 60, [(.dv [] (.str (zz.2.1.1))), (.key 9001), (.dv [] (.int .i64 (zz.2.1.2.2)))])], [(9001, some (a0b false (.sl 93 4 (zz.2.1.2.1.length) (zz.2.1.2.1.flatMap a0K))))]⟩) (fun zz => a1g zz.2.1 = true ∧ zz.2.1.1 = nm ∧ a6O zz.2.1 ∧ zz.2.1.2.2 ≤ 256 ∧ 0 ≤ zz.2.2.1 ∧ zz.1 ≤ 6) (fun zz => zz.1.toNat) ((e11, (nm, [], 0), i11, h11)) ?_ (a0e ⟨rfl, rfl, rfl, rfl, trivial⟩ ⟨rfl, rfl, rfl, trivial⟩ ⟨rfl, trivial⟩ rfl) (fun zz hx => ?_)
 ·refine ⟨?_, rfl, fun y hy => (by cases hy), by dsimp only; omega, by dsimp only; omega, by dsimp only; omega⟩
  unfold a1g; simp [hn]
 obtain ⟨n, s, ci, ch⟩ := zz
 replace hx : a1g s = true ∧ s.1 = nm ∧ a6O s ∧ s.2.2 ≤ 256 ∧ 0 ≤ ci ∧ n ≤ 6 := hx
 obtain ⟨hs, hnm, ha, ha2, hci, hn6⟩ := hx
 show Ok _ _ _ _ _ (⟨[(0, .abox 0), (4, .box 4 0), (5, .box 5 0), (6, .one (.dv [] (.int .i64 (n))))], [(0, 81, [(.arg 900001 (a1h (code))), (.dv [] (.int .i64 (ci))), (.dv [] (.int .i64 (ch)))]), (4, 60, [(.dv [] (.str (ByteArray.empty))), .nil, (.dv [] (.int .i64 (0)))]), (5, 60, [(.dv [] (.str (s.1))), (.key 9001), (.dv [] (.int .i64 (s.2.2)))])], [(9001, some (a0b false (.sl 93 4 (s.2.1.length) (s.2.1.flatMap a0K))))]⟩ : St)
 iterate 5 refine z ?_
 refine yQ rfl (fun c1 => ?_) fun c1 => ?_
 ·have d1 := of_decide_eq_true c1
  iterate 4 refine z ?_
  refine a6j [0] [0, 1, 2, 3, 4, 5, 6] (oB := [4, 5]) (oK := [9001]) (by kernel_rfl) rfl rfl ?_
  refine a2e 0 rfl (by kernel_rfl) rfl rfl (a2v hT rfl rfl (a0a rfl) rfl rfl) rfl rfl rfl rfl rfl ?_
  refine a2e 1 rfl (by kernel_rfl) rfl rfl (a0U (.inl rfl) (a1w (a0a rfl))) rfl rfl rfl rfl rfl ?_
  refine a2e 3 rfl (by kernel_rfl) rfl rfl (a0U (.inl rfl) (a1w (a0a rfl))) rfl rfl rfl rfl rfl ?_
  refine a2F 2 [] (by kernel_rfl) ⟨?_, trivial⟩
  refine a4x 19000 2 rfl rfl rfl rfl rfl Tryz.call100 (b3W (code := code) (i := ci) (h := ch) (by omega) (by omega)) (a0a rfl) rfl a1G rfl (fun _ => rfl) a1I rfl (fun _ => rfl) (fun _ => rfl) rfl (fun zz hz19 => ?_)
  obtain ⟨e19, i19, h19⟩ := zz
  replace hz19 : a1n e19 = true ∧ a6F e19 ∧ 0 ≤ i19 := hz19
  refine a2F 4 [] (by kernel_rfl) ⟨?_, trivial⟩
  refine a4x 21000 4 rfl rfl rfl rfl rfl Tryz.call101 (b0L (code := code) (i := i19) (h := h19) (by omega) (by omega)) (a0a rfl) rfl a1G rfl (fun _ => rfl) a1I rfl (fun _ => rfl) (fun _ => rfl) rfl (fun zz hz21 => ?_)
  obtain ⟨e21, i21, h21⟩ := zz
  replace hz21 : a1l e21 = true ∧ 0 ≤ i21 := hz21
  have hrl := a9A hz21.1
  refine a2F 5 [] (by kernel_rfl) ⟨?_, trivial⟩
  refine a8x 500 5 rfl rfl rfl rfl Tryz.call94 (a8u (x := s) (k := e19) (r := e21) (by have := b2k hs; omega) (by omega)) (a0g (a0a rfl) (a0t (a0d a0c (a0d (a1d rfl rfl) (a0d a0c a0s)))) (a0g (a0a rfl) (a0t (a0d a0c (a0d a0c (a0d a0c a0s)))) (a0g (a0a rfl) (a0t (a0d (a1d rfl rfl) a0s)) a0w))) rfl rfl rfl rfl rfl rfl ?_
  refine a2e 6 rfl (by kernel_rfl) rfl rfl (a0U (.inl rfl) (a0a rfl)) rfl rfl rfl rfl rfl ?_
  refine a4q 7 rfl (by kernel_rfl) rfl rfl rfl (a3q rfl (a0a rfl) rfl) rfl rfl ?_
  refine a4q 8 rfl (by kernel_rfl) rfl rfl rfl (a2L rfl (a0a rfl) rfl) rfl rfl ?_
  refine a6W [9] rfl rfl (by kernel_rfl) ?_
  refine z ?_
  refine a1z ?_
  iterate 2 refine z ?_
  refine a0o ?_
  iterate 4 refine z ?_
  refine ⟨(n - 1, (a0S s e19 e21).1, i21, h21), ?_, ?_, a4h (a2i (b := 5) (i := 1) (k := 9501) (k' := 9001) rfl rfl rfl rfl (by simp) rfl rfl) (a0e ⟨rfl, rfl, rfl, rfl, trivial⟩ ⟨rfl, rfl, rfl, trivial⟩ ⟨rfl, trivial⟩ rfl)⟩
  ·exact ⟨b6Y hs, (a9k _ _ _).trans hnm, b7f ha, b4k ha2 hz19.2.1, by dsimp only; omega, by dsimp only; omega⟩
  ·dsimp only; omega
 ·have d1 := of_decide_eq_false c1
  iterate 7 refine z ?_
  refine yO rfl rfl (a0U (.inl rfl) (a1w (a0a rfl))) rfl ?_
  refine a1Z 26000 rfl rfl rfl Tryz.call64 (a9w (code := code) (i := ci) (h := ch) (n := 8) (by omega) (by omega) ) (a0a rfl) rfl a1G rfl (fun _ => rfl) (a2t (a0n (a0m rfl)) (a0I a0c) rfl a1I) rfl (fun _ => rfl) (fun _ => rfl) (fun zz hz26 => ?_)
  obtain ⟨e26, i26, h26⟩ := zz
  replace hz26 : 0 ≤ i26 := hz26
  refine z ?_
  refine yQ rfl (fun c2 => ?_) fun c2 => ?_
  ·refine a6j [0] [0, 1, 2, 3, 4, 5, 6] (oB := [4, 5]) (oK := [9001]) (by kernel_rfl) rfl rfl ?_
   refine a2e 0 rfl (by kernel_rfl) rfl rfl (a2v hT rfl rfl (a0a rfl) rfl rfl) rfl rfl rfl rfl rfl ?_
   refine a2e 1 rfl (by kernel_rfl) rfl rfl (a0U (.inl rfl) (a1w (a0a rfl))) rfl rfl rfl rfl rfl ?_
   refine a2e 3 rfl (by kernel_rfl) rfl rfl (a0U (.inl rfl) (a1w (a0a rfl))) rfl rfl rfl rfl rfl ?_
   refine a2F 2 [] (by kernel_rfl) ⟨?_, trivial⟩
   refine a4x 30000 2 rfl rfl rfl rfl rfl Tryz.call102 (b9U (code := code) (i := i26) (h := h26) (by omega) (by omega)) (a0a rfl) rfl a1G rfl (fun _ => rfl) a1I rfl (fun _ => rfl) (fun _ => rfl) rfl (fun zz hz30 => ?_)
   obtain ⟨e30, i30, h30⟩ := zz
   replace hz30 : a1n e30 = true ∧ a6F e30 ∧ 0 ≤ i30 := hz30
   refine a2F 4 [] (by kernel_rfl) ⟨?_, trivial⟩
   refine a4x 32000 4 rfl rfl rfl rfl rfl Tryz.call101 (b0L (code := code) (i := i30) (h := h30) (by omega) (by omega)) (a0a rfl) rfl a1G rfl (fun _ => rfl) a1I rfl (fun _ => rfl) (fun _ => rfl) rfl (fun zz hz32 => ?_)
   obtain ⟨e32, i32, h32⟩ := zz
   replace hz32 : a1l e32 = true ∧ 0 ≤ i32 := hz32
   have hrl := a9A hz32.1
   refine a2F 5 [] (by kernel_rfl) ⟨?_, trivial⟩
   refine a8x 600 5 rfl rfl rfl rfl Tryz.call94 (a8u (x := s) (k := e30) (r := e32) (by have := b2k hs; omega) (by omega)) (a0g (a0a rfl) (a0t (a0d a0c (a0d (a1d rfl rfl) (a0d a0c a0s)))) (a0g (a0a rfl) (a0t (a0d a0c (a0d a0c (a0d a0c a0s)))) (a0g (a0a rfl) (a0t (a0d (a1d rfl rfl) a0s)) a0w))) rfl rfl rfl rfl rfl rfl ?_
   refine a2e 6 rfl (by kernel_rfl) rfl rfl (a0U (.inl rfl) (a0a rfl)) rfl rfl rfl rfl rfl ?_
   refine a4q 7 rfl (by kernel_rfl) rfl rfl rfl (a3q rfl (a0a rfl) rfl) rfl rfl ?_
   refine a4q 8 rfl (by kernel_rfl) rfl rfl rfl (a2L rfl (a0a rfl) rfl) rfl rfl ?_
   refine a6W [9] rfl rfl (by kernel_rfl) ?_
   iterate 6 refine z ?_
   refine a0h (a2i (b := 4) (i := 1) (k := 9601) (k' := 9001) rfl rfl rfl rfl (by simp) rfl rfl) ?_
   try simp only [a0l, a0i, SV.kill, CV.kill, kk, Nat.reduceBEq]
   refine a0h (σ' := ⟨[(4, .box 4 0), (0, .abox 0)], [(4, 60, [(.dv [] (.str ((a0S (s) (e30) (e32)).1.1))), (.key 9001), (.dv [] (.int .i64 ((a0S (s) (e30) (e32)).1.2.2)))]), (0, 81, [(.arg 900001 (a1h (code))), (.dv [] (.int .i64 (i32))), (.dv [] (.int .i64 (h32)))])], [(9001, some (a0b false (a0x ((a0S (s) (e30) (e32)).1.2.1))))]⟩) (a0e ⟨rfl, rfl, trivial⟩ ⟨rfl, rfl, trivial⟩ ⟨rfl, trivial⟩ rfl) ?_
   refine z ?_
   refine a1x (a0C hT rfl rfl rfl rfl) ⟨((((a0S (s) (e30) (e32)).1.1), (((a0S (s) (e30) (e32)).1.2.1), ((a0S (s) (e30) (e32)).1.2.2))), i32, h32), ?_, rfl, rfl, rfl, rfl⟩
   try dsimp only
   exact ⟨b6Y hs, (a9k _ _ _).trans hnm, b7f ha, b4k ha2 hz30.2.1, by omega⟩
  ·iterate 6 refine z ?_
   refine a0h (σ' := ⟨[(4, .box 4 0), (0, .abox 0)], [(4, 60, [(.dv [] (.str (s.1))), (.key 9001), (.dv [] (.int .i64 (s.2.2)))]), (0, 81, [(.arg 900001 (a1h (code))), (.dv [] (.int .i64 (i26))), (.dv [] (.int .i64 (h26)))])], [(9001, some (a0b false (.sl 93 4 (s.2.1.length) (s.2.1.flatMap a0K))))]⟩) (a0e ⟨rfl, rfl, trivial⟩ ⟨rfl, rfl, trivial⟩ ⟨rfl, trivial⟩ rfl) ?_
   refine z ?_
   refine a1x (a0C hT rfl rfl rfl rfl) ⟨(((s.1), ((s.2.1), (s.2.2))), i26, h26), ?_, rfl, rfl, rfl, rfl⟩
   try dsimp only
   exact ⟨hs, hnm, ha, ha2, by omega⟩
end Go.Proofs.YtjkpoekgnmgofaaGreat

namespace Go.Proofs.YtjkpoekgnmgofaaGreat
open Go.RowKit
open Go.Proofs
set_option linter.unusedVariables false
set_option linter.unusedSimpArgs false
theorem c1n {code : List UInt8}  : PFn Tryz.prog 5 [.one (.dv [] (a1h (code)))] (.one (.dv [] (.bool (decide ((1048576 : Int) < (code.length : Int)))))) := by
 refine ⟨a0R Tryz.func5 rfl Tryz.ntmps5 Tryz.results5 rfl (fun C => ?_)⟩
 refine a1i (x := .tmp 0) (a0a rfl) fun f0 => ?_
 iterate 11 refine z ?_
 rfl
end Go.Proofs.YtjkpoekgnmgofaaGreat

namespace Go.Proofs.YtjkpoekgnmgofaaGreat
open Go.RowKit
open Go.Proofs
set_option linter.unusedVariables false
set_option linter.unusedSimpArgs false

theorem a8Y (s : Str) : sEq s s = true := by simp [sEq]
theorem b0M {α : Type} [Inhabited α] {p : α → α → Bool} (h : ∀ x, p x x = true) (xs : List α) : eqL p xs xs = true := by
 unfold eqL
 simp [h]
theorem c0F (r : a0A) : a8S r r = true := b0M (fun f => by simp [a4V, a8Y]) r
theorem c2n (k : a0Y) : a9r k k = true := by simp [a9r, a8Y]
theorem c2K (x : a0O) : a4N x x = true := by simp [a4N, c2n, c0F]
theorem c2p (s : a0u) : a3J s s = true := by simp [a3J, a8Y, b0M c2K]
theorem b7Q (d : DbT) : a6M d d = true := by simp [a6M, a8Y, b0M c2p, b0M (p := a1v) (fun x => by simp [a1v, a8Y])]

end Go.Proofs.YtjkpoekgnmgofaaGreat

namespace Go.Proofs.YtjkpoekgnmgofaaGreat
open Go.RowKit
open Go.Proofs
set_option linter.unusedVariables false
set_option linter.unusedSimpArgs false

theorem c2B {a b : Str} (h : sLt b a = true) : (sLt a b || sEq a b) = false := by rw [a6K, h]; rfl
theorem b6l {l : List a0u} (hl : l.length ≤ 4) (hs : ∀ s ∈ l, a1g s = true) (ho : ∀ i, i + 1 < l.length → sLt (l.getD i default).1 (l.getD (i + 1) default).1 = true) : a0F (ByteArray.mk #[97, 112, 112], 1, l, []) = true := by
 have h1 : a2h (ByteArray.mk #[97, 112, 112]) = true := by decide +kernel
 unfold a0F a5u a5N a4X
 simp only [h1, Bool.and_eq_true, decide_eq_true_eq, List.all_eq_true, List.mem_range, List.length_nil, true_and]
 refine ⟨⟨⟨by omega, by omega⟩, by omega⟩, fun i hi => ?_, fun i hi => by omega⟩
 have h2 : l.getD i default ∈ l := by rw [List.getD_eq_getElem?_getD, List.getElem?_eq_getElem hi]; exact List.getElem_mem hi
 unfold a5d
 rw [Int.toNat_natCast, hs _ h2]
 cases i with
 | zero => simp
 | succ j =>
  have h3 := ho j hi
  rw [show (((j + 1 : Nat) : Int) - 1).toNat = j by omega, c2B h3]
  simp
theorem b2j {s t : a0u} (h1 : a1g s = true) (n1 : s.1 = ByteArray.mk #[110, 111, 116, 101, 115]) (h2 : a1g t = true) (n2 : t.1 = ByteArray.mk #[116, 97, 103, 115]) : a0F (ByteArray.mk #[97, 112, 112], 1, [s, t], []) = true := by
 refine b6l (by simp) (fun x hx => ?_) (fun i hi => ?_)
 ·simp only [List.mem_cons, List.not_mem_nil, or_false] at hx
  rcases hx with rfl | rfl <;> assumption
 ·have : i = 0 := by simp at hi; omega
  subst this
  show sLt s.1 t.1 = true
  rw [n1, n2]; decide +kernel
theorem b2a {q s t : a0u} (h0 : a1g q = true) (n0 : q.1 = ByteArray.mk #[108, 105, 115, 116, 115]) (h1 : a1g s = true) (n1 : s.1 = ByteArray.mk #[110, 111, 116, 101, 115]) (h2 : a1g t = true) (n2 : t.1 = ByteArray.mk #[116, 97, 103, 115]) : a0F (ByteArray.mk #[97, 112, 112], 1, [q, s, t], []) = true := by
 refine b6l (by simp) (fun x hx => ?_) (fun i hi => ?_)
 ·simp only [List.mem_cons, List.not_mem_nil, or_false] at hx
  rcases hx with rfl | rfl | rfl <;> assumption
 ·simp only [List.length_cons, List.length_nil] at hi
  have : i = 0 ∨ i = 1 := by omega
  rcases this with rfl | rfl
  ·show sLt q.1 s.1 = true
   rw [n0, n1]; decide +kernel
  ·show sLt s.1 t.1 = true
   rw [n1, n2]; decide +kernel
theorem b8B {d : DbT} {u : a6m} (h : a0F d = true) : a0F (upA d u).1 = true := by
 cases h2 : (upA d u).2 with
 | true => exact b9A h2
 | false => rw [c2o h2]; exact h
theorem b3v {α : Type} {w : α → Nat} {B : Nat} : ∀ (l : List α), (∀ x ∈ l, w x ≤ B) → a0D w l ≤ B * l.length
 | [], _ => by simp [a0D]
 | x :: l, h => by
  have k1 := b3v l (fun g hg => h g (by simp [hg]))
  have k2 := h x (by simp)
  simp only [a0D, List.map_cons, List.sum_cons, List.length_cons, Nat.mul_add, Nat.mul_one] at *
  omega
theorem a6v {d : DbT} (h : a0F d = true) : a1B d ≤ 6000 := by
 have h4 : a1B d = d.1.size + (d.2.2.1.length + a0D a0X d.2.2.1) + (d.2.2.2.length + a0D a2x d.2.2.2) := rfl
 have h0 := h
 rw [a0F, Bool.and_eq_true, Bool.and_eq_true] at h
 obtain ⟨h1, h2, h3⟩ := h
 simp only [a5u, Bool.and_eq_true, decide_eq_true_eq] at h1
 have h5 := a6B h1.1.1.1
 have h6 := b3v (w := a0X) (B := 1200) d.2.2.1 (fun s hs => by
  obtain ⟨i, hi, rfl⟩ := List.mem_iff_getElem.1 hs
  have := a5F (i := (i : Int)) h2 (by omega) (by omega)
  rw [Int.toNat_natCast, List.getD_eq_getElem?_getD, List.getElem?_eq_getElem hi] at this
  exact b2k this)
 have h7 := b3v (w := a2x) (B := 16) d.2.2.2 (fun x hx => by
  obtain ⟨i, hi, rfl⟩ := List.mem_iff_getElem.1 hx
  have hq := c4Z h0 (List.getElem_mem hi)
  have h8 : d.2.2.1.any (a0y d.2.2.2[i].1) = true := by rw [← b5a]; exact decide_eq_true hq
  obtain ⟨s, hs, hn⟩ := List.any_eq_true.1 h8
  have hn2 : s.1 = d.2.2.2[i].1 := a3T.1 hn
  obtain ⟨j, hj, rfl⟩ := List.mem_iff_getElem.1 hs
  have h9 := a5F (i := (j : Int)) h2 (by omega) (by omega)
  rw [Int.toNat_natCast, List.getD_eq_getElem?_getD, List.getElem?_eq_getElem hj] at h9
  have h10 := b4R h9
  have h11 : d.2.2.1[j].1.size ≤ 8 := h10
  have h12 : (d.2.2.2[i]).2.size ≤ 8 := by
   rw [a5N, List.all_eq_true] at h3
   have h13 := h3 i (List.mem_range.2 hi)
   unfold a2N at h13
   rw [Int.toNat_natCast, List.getD_eq_getElem?_getD, List.getElem?_eq_getElem hi] at h13
   simp only [Option.getD_some, Bool.not_eq_true', Bool.or_eq_false_iff, Bool.not_eq_false'] at h13
   exact (a6B h13.1.1.2).2
  have h14 : a2x d.2.2.2[i] = (d.2.2.2[i]).1.size + (d.2.2.2[i]).2.size := rfl
  rw [hn2] at h11
  omega)
 omega

theorem c2F {code : List UInt8} {i h : Int} (hc : code.length ≤ 1048576) (hi : 0 ≤ i) : BFn Tryz.prog 36 [] 81 (a1h (code)) [.dv [] (.int .i64 (i)), .dv [] (.int .i64 (h))] (fun zz : DbT × Int × Int => a0F zz.1 = true ∧ 0 ≤ zz.2.1) (fun zz : DbT × Int × Int => .agg [(.dv [] (.str (zz.1.1))), (.dv [] (.int .i64 (zz.1.2.1))), (.key 90031), (.key 90900)]) (fun zz : DbT × Int × Int => [(90031, some (a0b false (a0k (zz.1.2.2.1)))), (90900, some (a0b false (a0r (zz.1.2.2.2))))]) (fun zz : DbT × Int × Int => [.dv [] (.int .i64 (zz.2.1)), .dv [] (.int .i64 (zz.2.2))]) := by
 refine ⟨a3r Tryz.func36 rfl Tryz.ntmps36 Tryz.results36 rfl (fun C => ?_)⟩
 iterate 4 refine z ?_
 refine yO rfl rfl (a1F hT hB rfl rfl rfl (a1b (a0G (a0H rfl)) rfl rfl rfl rfl rfl (a1b (a0n (a0m rfl)) rfl rfl rfl rfl rfl a1E))) rfl ?_
 iterate 3 refine z ?_
 refine a0p ?_
 refine a0h (a3a 90031 (b := 3) (i := 2) (e := 60) (sz := 3) rfl rfl rfl rfl rfl) ?_
 simp only [a0l, a0i, SV.kill, CV.kill, kk, Nat.reduceBEq]
 refine a0h (a3a 90900 (b := 3) (i := 3) (e := 78) (sz := 2) rfl rfl rfl rfl rfl) ?_
 simp only [a0l, a0i, SV.kill, CV.kill, kk, Nat.reduceBEq]
 refine a6j [0] [0, 1, 2, 3, 4, 5, 6] (oB := [2, 3]) (oK := [90031, 90900]) (by kernel_rfl) rfl rfl ?_
 refine a2e 0 rfl (by kernel_rfl) rfl rfl (a5k hT rfl rfl rfl (a0a rfl)) rfl rfl rfl rfl rfl ?_
 refine a2e 1 rfl (by kernel_rfl) rfl rfl (a2H hT rfl rfl (a0a rfl) rfl rfl) rfl rfl rfl rfl rfl ?_
 refine a2e 2 rfl (by kernel_rfl) rfl rfl (a0U (.inl rfl) (a1w (a0a rfl))) rfl rfl rfl rfl rfl ?_
 refine a2e 4 rfl (by kernel_rfl) rfl rfl (a0U (.inl rfl) (a1w (a0a rfl))) rfl rfl rfl rfl rfl ?_
 refine a2F 3 [] (by kernel_rfl) ⟨?_, trivial⟩
 refine a4x 22000 3 rfl rfl rfl rfl rfl Tryz.call63 (b1v (code := code) (i := i) (h := h) (nm := ByteArray.mk #[110, 111, 116, 101, 115]) (by omega) (by omega) (by decide +kernel)) (a0a rfl) rfl a1G rfl (fun _ => rfl) (a2t (a0G (a0H rfl)) (a0I a0c) rfl a1I) rfl (fun _ => rfl) (fun _ => rfl) rfl (fun zz hz8 => ?_)
 obtain ⟨e8, i8, h8⟩ := zz
 replace hz8 : a1g e8 = true ∧ e8.1 = (ByteArray.mk #[110, 111, 116, 101, 115]) ∧ a6O e8 ∧ e8.2.2 ≤ 256 ∧ 0 ≤ i8 := hz8
 refine a2F 5 [] (by kernel_rfl) ⟨?_, trivial⟩
 refine a4x 23000 5 rfl rfl rfl rfl rfl Tryz.call63 (b1v (code := code) (i := i8) (h := h8) (nm := ByteArray.mk #[116, 97, 103, 115]) (by omega) (by omega) (by decide +kernel)) (a0a rfl) rfl a1G rfl (fun _ => rfl) (a2t (a0G (a0H rfl)) (a0I a0c) rfl a1I) rfl (fun _ => rfl) (fun _ => rfl) rfl (fun zz hz10 => ?_)
 obtain ⟨e10, i10, h10⟩ := zz
 replace hz10 : a1g e10 = true ∧ e10.1 = (ByteArray.mk #[116, 97, 103, 115]) ∧ a6O e10 ∧ e10.2.2 ≤ 256 ∧ 0 ≤ i10 := hz10
 refine a2F 6 [] (by kernel_rfl) ⟨?_, trivial⟩
 refine b4M (k := 11) (js := [31001, 32001]) 6 hT rfl rfl rfl rfl rfl rfl rfl rfl rfl rfl rfl rfl (a1W (a0a rfl) rfl rfl rfl (a1W (a0a rfl) rfl rfl rfl a4p)) (a0q (a0B rfl) (a0q (a2b rfl) (a0q (a0B rfl) (a0q (a0B rfl) (a0q (a2b rfl) (a0q (a0B rfl) a1t rfl) rfl) rfl) rfl) rfl) rfl) (by decide) (by decide) rfl rfl rfl rfl rfl ?_
 simp only [a0l, a0i, SV.kill, CV.kill, kk, Nat.reduceBEq]
 refine a6W [7, 8, 9] rfl rfl (by kernel_rfl) ?_
 refine a2z (k := 90031) (j := 11) (cs := [e8, e10].flatMap a0T) (n := [e8, e10].length) hT rfl rfl rfl rfl rfl rfl rfl (a0a rfl) rfl rfl rfl (a0a rfl) rfl rfl (by decide) (by simp [a0b, KC.old]) (by simp [a0b, KC.old]) (rfl) (rfl) ?_
 simp only [a0l, a0i, SV.kill, CV.kill, kk, Nat.reduceBEq]
 iterate 5 refine z ?_
 refine yO rfl rfl (a0U (.inl rfl) (a1w (a0a rfl))) rfl ?_
 refine a1Z 15000 rfl rfl rfl Tryz.call64 (a9w (code := code) (i := i10) (h := h10) (n := 2) (by omega) (by omega) ) (a0a rfl) rfl a1G rfl (fun _ => rfl) (a2t (a0n (a0m rfl)) (a0I a0c) rfl a1I) rfl (fun _ => rfl) (fun _ => rfl) (fun zz hz15 => ?_)
 obtain ⟨e15, i15, h15⟩ := zz
 replace hz15 : 0 ≤ i15 := hz15
 refine z ?_
 refine yQ rfl (fun c1 => ?_) fun c1 => ?_
 ·refine a6j [0] [0, 1, 2, 3, 4] (oB := [2, 3]) (oK := [90031, 90900]) (by kernel_rfl) rfl rfl ?_
  refine a2e 0 rfl (by kernel_rfl) rfl rfl (a0U (.inl rfl) (a1w (a0a rfl))) rfl rfl rfl rfl rfl ?_
  refine a2e 3 rfl (by kernel_rfl) rfl rfl (a5k hT rfl rfl rfl (a0a rfl)) rfl rfl rfl rfl rfl ?_
  refine a2e 4 rfl (by kernel_rfl) rfl rfl (a2H hT rfl rfl (a0a rfl) rfl rfl) rfl rfl rfl rfl rfl ?_
  refine a2F 1 [] (by kernel_rfl) ⟨?_, trivial⟩
  refine a4x 24000 1 rfl rfl rfl rfl rfl Tryz.call63 (b1v (code := code) (i := i15) (h := h15) (nm := ByteArray.mk #[108, 105, 115, 116, 115]) (by omega) (by omega) (by decide +kernel)) (a0a rfl) rfl a1G rfl (fun _ => rfl) (a2t (a0G (a0H rfl)) (a0I a0c) rfl a1I) rfl (fun _ => rfl) (fun _ => rfl) rfl (fun zz hz17 => ?_)
  obtain ⟨e17, i17, h17⟩ := zz
  replace hz17 : a1g e17 = true ∧ e17.1 = (ByteArray.mk #[108, 105, 115, 116, 115]) ∧ a6O e17 ∧ e17.2.2 ≤ 256 ∧ 0 ≤ i17 := hz17
  refine a2F 2 [] (by kernel_rfl) ⟨?_, trivial⟩
  refine b4M (k := 18) (js := [33001]) 2 hT rfl rfl rfl rfl rfl rfl rfl rfl rfl rfl rfl rfl (a1W (a0a rfl) rfl rfl rfl a4p) (a0q (a0B rfl) (a0q (a2b rfl) (a0q (a0B rfl) a1t rfl) rfl) rfl) (by decide) (by decide) rfl rfl rfl rfl rfl ?_
  simp only [a0l, a0i, SV.kill, CV.kill, kk, Nat.reduceBEq]
  refine a6W [5, 6, 7] rfl rfl (by kernel_rfl) ?_
  refine a2z (k := 18) (j := 90031) (cs := [e17, e8, e10].flatMap a0T) (n := [e17, e8, e10].length) hT rfl rfl rfl rfl rfl rfl rfl (a0a rfl) rfl rfl rfl (a0a rfl) rfl rfl (by decide) (by simp [a0b, KC.old]) (by simp [a0b, KC.old]) (rfl) (rfl) ?_
  simp only [a0l, a0i, SV.kill, CV.kill, kk, Nat.reduceBEq]
  iterate 5 refine z ?_
  refine yO rfl rfl (a0U (.inl rfl) (a1w (a0a rfl))) rfl ?_
  refine a1Z 24000 rfl rfl rfl Tryz.call64 (a9w (code := code) (i := i17) (h := h17) (n := 3) (by omega) (by omega) ) (a0a rfl) rfl a1G rfl (fun _ => rfl) (a2t (a0n (a0m rfl)) (a0I a0c) rfl a1I) rfl (fun _ => rfl) (fun _ => rfl) (fun zz hz24 => ?_)
  obtain ⟨e24, i24, h24⟩ := zz
  replace hz24 : 0 ≤ i24 := hz24
  refine z ?_
  refine yQ rfl (fun c2 => ?_) fun c2 => ?_
  ·refine a6j [0] [0, 1, 2, 3, 4, 5] (oB := [2, 3]) (oK := [18, 90900]) (by kernel_rfl) rfl rfl ?_
   refine a2e 0 rfl (by kernel_rfl) rfl rfl (a2v hT rfl rfl (a0a rfl) rfl rfl) rfl rfl rfl rfl rfl ?_
   refine a2e 1 rfl (by kernel_rfl) rfl rfl (a0U (.inl rfl) (a1w (a0a rfl))) rfl rfl rfl rfl rfl ?_
   refine a2F 2 [] (by kernel_rfl) ⟨?_, trivial⟩
   refine a4x 28000 2 rfl rfl rfl rfl rfl Tryz.call66 (b0k (code := code) (i := i24) (h := h24) (by omega) (by omega)) (a0a rfl) rfl a1G rfl (fun _ => rfl) a1I rfl (fun _ => rfl) (fun _ => rfl) rfl (fun zz hz28 => ?_)
   obtain ⟨e28, i28, h28⟩ := zz
   replace hz28 : a2h e28 = true ∧ 0 ≤ i28 := hz28
   refine a2e 3 rfl (by kernel_rfl) rfl rfl (a1F hT hB rfl rfl rfl (a1b (a0n (a0m rfl)) rfl rfl rfl rfl rfl (a1b (a0G (a0H rfl)) rfl rfl rfl rfl rfl (a1b (a0a rfl) rfl rfl rfl rfl rfl a1E)))) rfl rfl rfl rfl rfl ?_
   refine a2F 4 [] (by kernel_rfl) ⟨?_, trivial⟩
   refine a8x 100000 4 rfl rfl rfl rfl Tryz.call65 (b7O (d := (ByteArray.mk #[97, 112, 112], 1, [e17, e8, e10], [])) (u := (3, ByteArray.mk #[110, 111, 116, 101, 115], e28)) (by have := a6v (b2a hz17.1 hz17.2.1 hz8.1 hz8.2.1 hz10.1 hz10.2.1); omega)) (a0g (a0a rfl) (a0t (a0d a0c (a0d a0c (a0d (a1d rfl rfl) (a0d (a1d rfl rfl) a0s))))) (a0g (a0a rfl) (a0t (a0d a0c (a0d a0c (a0d a0c a0s)))) a0w)) rfl rfl rfl rfl rfl rfl ?_
   refine a2e 5 rfl (by kernel_rfl) rfl rfl (a0U (.inl rfl) (a0a rfl)) rfl rfl rfl rfl rfl ?_
   refine a4q 6 rfl (by kernel_rfl) rfl rfl rfl (a3q rfl (a0a rfl) rfl) rfl rfl ?_
   refine a4q 7 rfl (by kernel_rfl) rfl rfl rfl (a2L rfl (a0a rfl) rfl) rfl rfl ?_
   refine a6W [8] rfl rfl (by kernel_rfl) ?_
   iterate 6 refine z ?_
   refine a0h (b0A (k := 90031) (e := 60) (sz := 3) rfl rfl) ?_
   try simp only [a0l, a0i, SV.kill, CV.kill, kk, Nat.reduceBEq]
   refine a0h (a2i (b := 2) (i := 2) (k := 190031) (k' := 90031) rfl rfl rfl rfl (by simp) rfl rfl) ?_
   try simp only [a0l, a0i, SV.kill, CV.kill, kk, Nat.reduceBEq]
   refine a0h (a2i (b := 2) (i := 3) (k := 190900) (k' := 90900) rfl rfl rfl rfl (by simp) rfl rfl) ?_
   try simp only [a0l, a0i, SV.kill, CV.kill, kk, Nat.reduceBEq]
   refine a0h (σ' := ⟨[(2, .box 2 0), (0, .abox 0)], [(2, 27, [(.dv [] (.str ((upA ((ByteArray.mk #[97, 112, 112], (1, ([e17, e8, e10], [])))) ((3, (ByteArray.mk #[110, 111, 116, 101, 115], e28)))).1.1))), (.dv [] (.int .i64 ((upA ((ByteArray.mk #[97, 112, 112], (1, ([e17, e8, e10], [])))) ((3, (ByteArray.mk #[110, 111, 116, 101, 115], e28)))).1.2.1))), (.key 90031), (.key 90900)]), (0, 81, [(.arg 900001 (a1h (code))), (.dv [] (.int .i64 (i28))), (.dv [] (.int .i64 (h28)))])], [(90031, some (a0b false (a0k ((upA ((ByteArray.mk #[97, 112, 112], (1, ([e17, e8, e10], [])))) ((3, (ByteArray.mk #[110, 111, 116, 101, 115], e28)))).1.2.2.1)))), (90900, some (a0b false (a0r ((upA ((ByteArray.mk #[97, 112, 112], (1, ([e17, e8, e10], [])))) ((3, (ByteArray.mk #[110, 111, 116, 101, 115], e28)))).1.2.2.2))))]⟩) (a0e ⟨rfl, rfl, trivial⟩ ⟨rfl, rfl, trivial⟩ ⟨rfl, rfl, trivial⟩ rfl) ?_
   refine z ?_
   refine a1x (a0C hT rfl rfl rfl rfl) ⟨((((upA ((ByteArray.mk #[97, 112, 112], (1, ([e17, e8, e10], [])))) ((3, (ByteArray.mk #[110, 111, 116, 101, 115], e28)))).1.1), (((upA ((ByteArray.mk #[97, 112, 112], (1, ([e17, e8, e10], [])))) ((3, (ByteArray.mk #[110, 111, 116, 101, 115], e28)))).1.2.1), (((upA ((ByteArray.mk #[97, 112, 112], (1, ([e17, e8, e10], [])))) ((3, (ByteArray.mk #[110, 111, 116, 101, 115], e28)))).1.2.2.1), ((upA ((ByteArray.mk #[97, 112, 112], (1, ([e17, e8, e10], [])))) ((3, (ByteArray.mk #[110, 111, 116, 101, 115], e28)))).1.2.2.2)))), i28, h28), ?_, rfl, rfl, rfl, rfl⟩
   try dsimp only
   exact ⟨b8B (b2a hz17.1 hz17.2.1 hz8.1 hz8.2.1 hz10.1 hz10.2.1), by omega⟩
  ·iterate 6 refine z ?_
   refine a0h (b0A (k := 90031) (e := 60) (sz := 3) rfl rfl) ?_
   try simp only [a0l, a0i, SV.kill, CV.kill, kk, Nat.reduceBEq]
   refine a0h (a2i (b := 2) (i := 2) (k := 18) (k' := 90031) rfl rfl rfl rfl (by simp) rfl rfl) ?_
   try simp only [a0l, a0i, SV.kill, CV.kill, kk, Nat.reduceBEq]
   refine a0h (σ' := ⟨[(2, .box 2 0), (0, .abox 0)], [(2, 27, [(.dv [] (.str (ByteArray.mk #[97, 112, 112]))), (.dv [] (.int .i64 (1))), (.key 90031), (.key 90900)]), (0, 81, [(.arg 900001 (a1h (code))), (.dv [] (.int .i64 (i24))), (.dv [] (.int .i64 (h24)))])], [(90031, some (a0b false (.sl 60 3 ([e17, e8, e10].length) ([e17, e8, e10].flatMap a0T)))), (90900, some (a0b false (.sl 78 2 (0) ([]))))]⟩) (a0e ⟨rfl, rfl, trivial⟩ ⟨rfl, rfl, trivial⟩ ⟨rfl, rfl, trivial⟩ rfl) ?_
   refine z ?_
   refine a1x (a0C hT rfl rfl rfl rfl) ⟨(((ByteArray.mk #[97, 112, 112]), ((1), (([e17, e8, e10]), ([])))), i24, h24), ?_, rfl, rfl, rfl, rfl⟩
   try dsimp only
   exact ⟨b2a hz17.1 hz17.2.1 hz8.1 hz8.2.1 hz10.1 hz10.2.1, by omega⟩
 ·iterate 4 refine z ?_
  refine yO rfl rfl (a0U (.inl rfl) (a1w (a0a rfl))) rfl ?_
  refine a1Z 24000 rfl rfl rfl Tryz.call64 (a9w (code := code) (i := i15) (h := h15) (n := 3) (by omega) (by omega) ) (a0a rfl) rfl a1G rfl (fun _ => rfl) (a2t (a0n (a0m rfl)) (a0I a0c) rfl a1I) rfl (fun _ => rfl) (fun _ => rfl) (fun zz hz24 => ?_)
  obtain ⟨e24, i24, h24⟩ := zz
  replace hz24 : 0 ≤ i24 := hz24
  refine z ?_
  refine yQ rfl (fun c3 => ?_) fun c3 => ?_
  ·refine a6j [0] [0, 1, 2, 3, 4, 5] (oB := [2, 3]) (oK := [90031, 90900]) (by kernel_rfl) rfl rfl ?_
   refine a2e 0 rfl (by kernel_rfl) rfl rfl (a2v hT rfl rfl (a0a rfl) rfl rfl) rfl rfl rfl rfl rfl ?_
   refine a2e 1 rfl (by kernel_rfl) rfl rfl (a0U (.inl rfl) (a1w (a0a rfl))) rfl rfl rfl rfl rfl ?_
   refine a2F 2 [] (by kernel_rfl) ⟨?_, trivial⟩
   refine a4x 28000 2 rfl rfl rfl rfl rfl Tryz.call66 (b0k (code := code) (i := i24) (h := h24) (by omega) (by omega)) (a0a rfl) rfl a1G rfl (fun _ => rfl) a1I rfl (fun _ => rfl) (fun _ => rfl) rfl (fun zz hz28 => ?_)
   obtain ⟨e28, i28, h28⟩ := zz
   replace hz28 : a2h e28 = true ∧ 0 ≤ i28 := hz28
   refine a2e 3 rfl (by kernel_rfl) rfl rfl (a1F hT hB rfl rfl rfl (a1b (a0n (a0m rfl)) rfl rfl rfl rfl rfl (a1b (a0G (a0H rfl)) rfl rfl rfl rfl rfl (a1b (a0a rfl) rfl rfl rfl rfl rfl a1E)))) rfl rfl rfl rfl rfl ?_
   refine a2F 4 [] (by kernel_rfl) ⟨?_, trivial⟩
   refine a8x 100000 4 rfl rfl rfl rfl Tryz.call65 (b7O (d := (ByteArray.mk #[97, 112, 112], 1, [e8, e10], [])) (u := (3, ByteArray.mk #[110, 111, 116, 101, 115], e28)) (by have := a6v (b2j hz8.1 hz8.2.1 hz10.1 hz10.2.1); omega)) (a0g (a0a rfl) (a0t (a0d a0c (a0d a0c (a0d (a1d rfl rfl) (a0d (a1d rfl rfl) a0s))))) (a0g (a0a rfl) (a0t (a0d a0c (a0d a0c (a0d a0c a0s)))) a0w)) rfl rfl rfl rfl rfl rfl ?_
   refine a2e 5 rfl (by kernel_rfl) rfl rfl (a0U (.inl rfl) (a0a rfl)) rfl rfl rfl rfl rfl ?_
   refine a4q 6 rfl (by kernel_rfl) rfl rfl rfl (a3q rfl (a0a rfl) rfl) rfl rfl ?_
   refine a4q 7 rfl (by kernel_rfl) rfl rfl rfl (a2L rfl (a0a rfl) rfl) rfl rfl ?_
   refine a6W [8] rfl rfl (by kernel_rfl) ?_
   iterate 6 refine z ?_
   refine a0h (a2i (b := 2) (i := 2) (k := 190031) (k' := 90031) rfl rfl rfl rfl (by simp) rfl rfl) ?_
   try simp only [a0l, a0i, SV.kill, CV.kill, kk, Nat.reduceBEq]
   refine a0h (a2i (b := 2) (i := 3) (k := 190900) (k' := 90900) rfl rfl rfl rfl (by simp) rfl rfl) ?_
   try simp only [a0l, a0i, SV.kill, CV.kill, kk, Nat.reduceBEq]
   refine a0h (σ' := ⟨[(2, .box 2 0), (0, .abox 0)], [(2, 27, [(.dv [] (.str ((upA ((ByteArray.mk #[97, 112, 112], (1, ([e8, e10], [])))) ((3, (ByteArray.mk #[110, 111, 116, 101, 115], e28)))).1.1))), (.dv [] (.int .i64 ((upA ((ByteArray.mk #[97, 112, 112], (1, ([e8, e10], [])))) ((3, (ByteArray.mk #[110, 111, 116, 101, 115], e28)))).1.2.1))), (.key 90031), (.key 90900)]), (0, 81, [(.arg 900001 (a1h (code))), (.dv [] (.int .i64 (i28))), (.dv [] (.int .i64 (h28)))])], [(90031, some (a0b false (a0k ((upA ((ByteArray.mk #[97, 112, 112], (1, ([e8, e10], [])))) ((3, (ByteArray.mk #[110, 111, 116, 101, 115], e28)))).1.2.2.1)))), (90900, some (a0b false (a0r ((upA ((ByteArray.mk #[97, 112, 112], (1, ([e8, e10], [])))) ((3, (ByteArray.mk #[110, 111, 116, 101, 115], e28)))).1.2.2.2))))]⟩) (a0e ⟨rfl, rfl, trivial⟩ ⟨rfl, rfl, trivial⟩ ⟨rfl, rfl, trivial⟩ rfl) ?_
   refine z ?_
   refine a1x (a0C hT rfl rfl rfl rfl) ⟨((((upA ((ByteArray.mk #[97, 112, 112], (1, ([e8, e10], [])))) ((3, (ByteArray.mk #[110, 111, 116, 101, 115], e28)))).1.1), (((upA ((ByteArray.mk #[97, 112, 112], (1, ([e8, e10], [])))) ((3, (ByteArray.mk #[110, 111, 116, 101, 115], e28)))).1.2.1), (((upA ((ByteArray.mk #[97, 112, 112], (1, ([e8, e10], [])))) ((3, (ByteArray.mk #[110, 111, 116, 101, 115], e28)))).1.2.2.1), ((upA ((ByteArray.mk #[97, 112, 112], (1, ([e8, e10], [])))) ((3, (ByteArray.mk #[110, 111, 116, 101, 115], e28)))).1.2.2.2)))), i28, h28), ?_, rfl, rfl, rfl, rfl⟩
   try dsimp only
   exact ⟨b8B (b2j hz8.1 hz8.2.1 hz10.1 hz10.2.1), by omega⟩
  ·iterate 6 refine z ?_
   refine a0h (σ' := ⟨[(2, .box 2 0), (0, .abox 0)], [(2, 27, [(.dv [] (.str (ByteArray.mk #[97, 112, 112]))), (.dv [] (.int .i64 (1))), (.key 90031), (.key 90900)]), (0, 81, [(.arg 900001 (a1h (code))), (.dv [] (.int .i64 (i24))), (.dv [] (.int .i64 (h24)))])], [(90031, some (a0b false (.sl 60 3 ([e8, e10].length) ([e8, e10].flatMap a0T)))), (90900, some (a0b false (.sl 78 2 (0) ([]))))]⟩) (a0e ⟨rfl, rfl, trivial⟩ ⟨rfl, rfl, trivial⟩ ⟨rfl, rfl, trivial⟩ rfl) ?_
   refine z ?_
   refine a1x (a0C hT rfl rfl rfl rfl) ⟨(((ByteArray.mk #[97, 112, 112]), ((1), (([e8, e10]), ([])))), i24, h24), ?_, rfl, rfl, rfl, rfl⟩
   try dsimp only
   exact ⟨b2j hz8.1 hz8.2.1 hz10.1 hz10.2.1, by omega⟩
end Go.Proofs.YtjkpoekgnmgofaaGreat

namespace Go.Proofs.YtjkpoekgnmgofaaGreat
open Go.RowKit
open Go.Proofs
set_option linter.unusedVariables false
set_option linter.unusedSimpArgs false

def b0G (o : OpT) : Prop := a1n o.2.2.1 = true ∨ o.2.2.1 = (0, 0, ByteArray.empty)
def a5H (l : List OpT) : Prop := ∀ o ∈ l, a1X o = true ∧ b0G o
theorem a8n {k : Int} {s : Str} {q : a0Y} {r : a0A} {f : Str} (h1 : 1 ≤ k ∧ k ≤ 6) (hs : a2h s = true) (hk : k = 5 ∨ a1n q = true) (hr : a1l r = true) (hf : (k = 6 ∧ a2h f = true) ∨ (k ≠ 6 ∧ f = ByteArray.empty)) : a1X (k, s, q, r, f) = true := by
 unfold a1X
 simp only [hs, hr, Bool.and_eq_true, Bool.or_eq_true, decide_eq_true_eq, and_true]
 refine ⟨⟨h1, hk⟩, ?_⟩
 rcases hf with ⟨h2, h3⟩ | ⟨h2, h3⟩
 ·exact .inl ⟨h2, h3⟩
 ·refine .inr ?_
  subst h3
  first | exact ⟨by simpa using h2, rfl⟩ | (simp [h2]; rfl) | (simp [h2]; decide +kernel)
theorem c0q {o : OpT} (h : a1X o = true) (hp : b0G o) : wOp o ≤ 90 := by
 have h0 : wOp o = o.2.1.size + b0Q o.2.2.1 + a5E o.2.2.2.1 + o.2.2.2.2.size := rfl
 have h1 : b0Q o.2.2.1 = o.2.2.1.2.2.size := rfl
 simp only [a1X, Bool.and_eq_true, Bool.or_eq_true, decide_eq_true_eq] at h
 have h2 := a6B h.1.1.1.2
 have h3 := b6p h.1.2
 have h4 : o.2.2.1.2.2.size ≤ 12 := by
  rcases hp with hp | hp
  ·exact c4G hp
  ·rw [hp]; decide
 have h5 : o.2.2.2.2.size ≤ 8 := by
  rcases h.2 with h6 | h6
  ·exact (a6B h6.2).2
  ·rw [a3T.1 h6.2]; decide
 omega

theorem c1S {code : List UInt8} {i h : Int} (hc : code.length ≤ 1048576) (hi : 0 ≤ i) : BFn Tryz.prog 70 [] 81 (a1h (code)) [.dv [] (.int .i64 (i)), .dv [] (.int .i64 (h))] (fun zz : OpT × Int × Int => a1X zz.1 = true ∧ b0G zz.1 ∧ 0 ≤ zz.2.1) (fun zz : OpT × Int × Int => .agg [(.dv [] (.int .i64 (zz.1.1))), (.dv [] (.str (zz.1.2.1))), (.dv [] (.int .i64 (zz.1.2.2.1.1))), (.dv [] (.int .i64 (zz.1.2.2.1.2.1))), (.dv [] (.str (zz.1.2.2.1.2.2))), (.key 9001), (.dv [] (.str (zz.1.2.2.2.2)))]) (fun zz : OpT × Int × Int => [(9001, some (a0b false (a0L (zz.1.2.2.2.1))))]) (fun zz : OpT × Int × Int => [.dv [] (.int .i64 (zz.2.1)), .dv [] (.int .i64 (zz.2.2))]) := by
 refine ⟨a3r Tryz.func70 rfl Tryz.ntmps70 Tryz.results70 rfl (fun C => ?_)⟩
 iterate 4 refine z ?_
 refine yO rfl rfl (a0U (.inl rfl) (a1w (a0a rfl))) rfl ?_
 refine a1Z 5000 rfl rfl rfl Tryz.call37 (a4B (code := code) (i := i) (h := h) (n := 6) (by omega) (by omega) ) (a0a rfl) rfl a1G rfl (fun _ => rfl) (a2t (a0n (a0m rfl)) (a0I a0c) rfl a1I) rfl (fun _ => rfl) (fun _ => rfl) (fun zz hz5 => ?_)
 obtain ⟨e5, i5, h5⟩ := zz
 replace hz5 : 0 ≤ e5 ∧ (0 < (6 : Int) → e5 < (6 : Int)) ∧ 0 ≤ i5 := hz5
 have h56 := hz5.2.1 (by omega)
 refine z ?_
 refine yO rfl rfl (a0U (.inl rfl) (a1w (a0a rfl))) rfl ?_
 refine a9n (k := 8) (js := []) hT rfl rfl rfl rfl rfl rfl rfl rfl rfl rfl rfl (a1W (a0G (a0H rfl)) rfl rfl rfl (a1W (a0G (a0H rfl)) rfl rfl rfl (a1W (a0G (a0H rfl)) rfl rfl rfl (a1W (a0G (a0H rfl)) rfl rfl rfl a4p)))) (a0q (a0B rfl) (a0q (a0B rfl) (a0q (a0B rfl) (a0q (a0B rfl) a1t rfl) rfl) rfl) rfl) (by decide) (by decide) rfl rfl ?_
 simp only [a0l, a0i, SV.kill, CV.kill, kk, Nat.reduceBEq]
 refine a1Z 9000 rfl rfl rfl Tryz.call105 (b2S (code := code) (i := i5) (h := h5) (l := [ByteArray.mk #[110, 111, 116, 101, 115], ByteArray.mk #[116, 97, 103, 115], ByteArray.mk #[110, 111, 116, 101, 115], ByteArray.mk #[108, 105, 115, 116, 115]]) (by omega) (by omega) (by exact Nat.succ_pos _)) (a0a rfl) rfl a1G rfl (fun _ => rfl) (a2t (a0a rfl) (a0I (a1d rfl rfl)) rfl a1I) rfl (fun _ => rfl) (fun _ => rfl) (fun zz hz9 => ?_)
 obtain ⟨e9, i9, h9⟩ := zz
 replace hz9 : e9 ∈ ([ByteArray.mk #[110, 111, 116, 101, 115], ByteArray.mk #[116, 97, 103, 115], ByteArray.mk #[110, 111, 116, 101, 115], ByteArray.mk #[108, 105, 115, 116, 115]]) ∧ 0 ≤ i9 := hz9
 refine yO rfl rfl (a0U (.inl rfl) (a1w (a0a rfl))) rfl ?_
 refine a1Z 11000 rfl rfl rfl Tryz.call100 (b3W (code := code) (i := i9) (h := h9) (by omega) (by omega)) (a0a rfl) rfl a1G rfl (fun _ => rfl) a1I rfl (fun _ => rfl) (fun _ => rfl) (fun zz hz11 => ?_)
 obtain ⟨e11, i11, h11⟩ := zz
 replace hz11 : a1n e11 = true ∧ a6F e11 ∧ 0 ≤ i11 := hz11
 refine yO rfl rfl (a1F hT hB rfl rfl rfl (a1b (a0a rfl) rfl rfl rfl rfl rfl (a1b (a0a rfl) rfl rfl rfl rfl rfl (a1b (a0a rfl) rfl rfl rfl rfl rfl a1E)))) rfl ?_
 iterate 3 refine z ?_
 refine a0p ?_
 refine a0p ?_
 refine a0h (σ' := ⟨[(0, .abox 0), (2, .box 2 0), (3, .box 3 0)], [(0, 81, [(.arg 900001 (a1h (code))), (.dv [] (.int .i64 (i11))), (.dv [] (.int .i64 (h11)))]), (2, 68, [(.dv [] (.int .i64 (0))), (.dv [] (.str (ByteArray.empty))), (.dv [] (.int .i64 (0))), (.dv [] (.int .i64 (0))), (.dv [] (.str (ByteArray.empty))), .nil, (.dv [] (.str (ByteArray.empty)))]), (3, 68, [(.dv [] (.int .i64 ((1) + (e5)))), (.dv [] (.str (e9))), (.dv [] (.int .i64 (e11.1))), (.dv [] (.int .i64 (e11.2.1))), (.dv [] (.str (e11.2.2))), .nil, (.dv [] (.str (ByteArray.empty)))])], []⟩) (a0e ⟨rfl, rfl, rfl, trivial⟩ ⟨rfl, rfl, rfl, trivial⟩ trivial rfl) ?_
 refine a0o ?_
 iterate 9 refine z ?_
 refine yQ rfl (fun c1 => ?_) fun c1 => ?_
 ·have d1 := of_decide_eq_true c1
  iterate 2 refine z ?_
  refine yQ rfl (fun c2 => ?_) fun c2 => ?_
  ·have d2 := of_decide_eq_true c2
   refine a0o ?_
   refine yO rfl rfl (a0U (.inl rfl) (a1w (a0a rfl))) rfl ?_
   refine a1Z 0 rfl rfl rfl Tryz.call101 (b0L (code := code) (i := i11) (h := h11) (by omega) (by omega)) (a0a rfl) rfl a1G rfl (fun _ => rfl) a1I rfl (fun _ => rfl) (fun _ => rfl) (fun zz hz19 => ?_)
   obtain ⟨e19, i19, h19⟩ := zz
   replace hz19 : a1l e19 = true ∧ 0 ≤ i19 := hz19
   iterate 2 refine z ?_
   refine a1z ?_
   iterate 2 refine z ?_
   refine a0p ?_
   refine a0h (σ' := ⟨[(0, .abox 0), (2, .box 2 0), (3, .box 3 0)], [(0, 81, [(.arg 900001 (a1h (code))), (.dv [] (.int .i64 (i19))), (.dv [] (.int .i64 (h19)))]), (2, 68, [(.dv [] (.int .i64 (0))), (.dv [] (.str (ByteArray.empty))), (.dv [] (.int .i64 (0))), (.dv [] (.int .i64 (0))), (.dv [] (.str (ByteArray.empty))), .nil, (.dv [] (.str (ByteArray.empty)))]), (3, 68, [(.dv [] (.int .i64 ((1) + (e5)))), (.dv [] (.str (e9))), (.dv [] (.int .i64 (e11.1))), (.dv [] (.int .i64 (e11.2.1))), (.dv [] (.str (e11.2.2))), (.key 9001), (.dv [] (.str (ByteArray.empty)))])], [(9001, some (a0b false (a0L (e19))))]⟩) (a0e ⟨rfl, rfl, rfl, trivial⟩ ⟨rfl, rfl, rfl, trivial⟩ ⟨rfl, trivial⟩ rfl) ?_
   refine a0o ?_
   iterate 3 refine z ?_
   refine a0h (σ' := ⟨[(2, .box 2 0), (0, .abox 0)], [(2, 68, [(.dv [] (.int .i64 ((1) + (e5)))), (.dv [] (.str (e9))), (.dv [] (.int .i64 (e11.1))), (.dv [] (.int .i64 (e11.2.1))), (.dv [] (.str (e11.2.2))), (.key 9001), (.dv [] (.str (ByteArray.empty)))]), (0, 81, [(.arg 900001 (a1h (code))), (.dv [] (.int .i64 (i19))), (.dv [] (.int .i64 (h19)))])], [(9001, some (a0b false (a0L (e19))))]⟩) (a0e ⟨rfl, rfl, trivial⟩ ⟨rfl, rfl, trivial⟩ ⟨rfl, trivial⟩ rfl) ?_
   refine z ?_
   refine a1x (a0C hT rfl rfl rfl rfl) ⟨((((1) + (e5)), ((e9), (((e11.1), ((e11.2.1), (e11.2.2))), ((e19), (ByteArray.empty))))), i19, h19), ?_, rfl, rfl, rfl, rfl⟩
   try dsimp only
   exact ⟨a8n (by omega) (a7i (l := [ByteArray.mk #[110, 111, 116, 101, 115], ByteArray.mk #[116, 97, 103, 115], ByteArray.mk #[110, 111, 116, 101, 115], ByteArray.mk #[108, 105, 115, 116, 115]]) (by decide +kernel) hz9.1) (.inr hz11.1) hz19.1 (.inr ⟨by omega, rfl⟩), .inl hz11.1, by omega⟩
  ·exact absurd (c1.symm.trans c2) (by decide)
 ·have d1 := of_decide_eq_false c1
  refine a0o ?_
  iterate 3 refine z ?_
  refine yQ rfl (fun c3 => ?_) fun c3 => ?_
  ·have d3 := of_decide_eq_true c3
   refine a0o ?_
   refine yO rfl rfl (a0U (.inl rfl) (a1w (a0a rfl))) rfl ?_
   refine a1Z 0 rfl rfl rfl Tryz.call101 (b0L (code := code) (i := i11) (h := h11) (by omega) (by omega)) (a0a rfl) rfl a1G rfl (fun _ => rfl) a1I rfl (fun _ => rfl) (fun _ => rfl) (fun zz hz19 => ?_)
   obtain ⟨e19, i19, h19⟩ := zz
   replace hz19 : a1l e19 = true ∧ 0 ≤ i19 := hz19
   iterate 2 refine z ?_
   refine a1z ?_
   iterate 2 refine z ?_
   refine a0p ?_
   refine a0h (σ' := ⟨[(0, .abox 0), (2, .box 2 0), (3, .box 3 0)], [(0, 81, [(.arg 900001 (a1h (code))), (.dv [] (.int .i64 (i19))), (.dv [] (.int .i64 (h19)))]), (2, 68, [(.dv [] (.int .i64 (0))), (.dv [] (.str (ByteArray.empty))), (.dv [] (.int .i64 (0))), (.dv [] (.int .i64 (0))), (.dv [] (.str (ByteArray.empty))), .nil, (.dv [] (.str (ByteArray.empty)))]), (3, 68, [(.dv [] (.int .i64 ((1) + (e5)))), (.dv [] (.str (e9))), (.dv [] (.int .i64 (e11.1))), (.dv [] (.int .i64 (e11.2.1))), (.dv [] (.str (e11.2.2))), (.key 9001), (.dv [] (.str (ByteArray.empty)))])], [(9001, some (a0b false (a0L (e19))))]⟩) (a0e ⟨rfl, rfl, rfl, trivial⟩ ⟨rfl, rfl, rfl, trivial⟩ ⟨rfl, trivial⟩ rfl) ?_
   refine a0o ?_
   iterate 3 refine z ?_
   refine a0h (σ' := ⟨[(2, .box 2 0), (0, .abox 0)], [(2, 68, [(.dv [] (.int .i64 ((1) + (e5)))), (.dv [] (.str (e9))), (.dv [] (.int .i64 (e11.1))), (.dv [] (.int .i64 (e11.2.1))), (.dv [] (.str (e11.2.2))), (.key 9001), (.dv [] (.str (ByteArray.empty)))]), (0, 81, [(.arg 900001 (a1h (code))), (.dv [] (.int .i64 (i19))), (.dv [] (.int .i64 (h19)))])], [(9001, some (a0b false (a0L (e19))))]⟩) (a0e ⟨rfl, rfl, trivial⟩ ⟨rfl, rfl, trivial⟩ ⟨rfl, trivial⟩ rfl) ?_
   refine z ?_
   refine a1x (a0C hT rfl rfl rfl rfl) ⟨((((1) + (e5)), ((e9), (((e11.1), ((e11.2.1), (e11.2.2))), ((e19), (ByteArray.empty))))), i19, h19), ?_, rfl, rfl, rfl, rfl⟩
   try dsimp only
   exact ⟨a8n (by omega) (a7i (l := [ByteArray.mk #[110, 111, 116, 101, 115], ByteArray.mk #[116, 97, 103, 115], ByteArray.mk #[110, 111, 116, 101, 115], ByteArray.mk #[108, 105, 115, 116, 115]]) (by decide +kernel) hz9.1) (.inr hz11.1) hz19.1 (.inr ⟨by omega, rfl⟩), .inl hz11.1, by omega⟩
  ·have d3 := of_decide_eq_false c3
   iterate 4 refine z ?_
   refine yQ rfl (fun c4 => ?_) fun c4 => ?_
   ·have d4 := of_decide_eq_true c4
    refine a0o ?_
    refine yO rfl rfl (a0U (.inl rfl) (a1w (a0a rfl))) rfl ?_
    refine a1Z 24000 rfl rfl rfl Tryz.call66 (b0k (code := code) (i := i11) (h := h11) (by omega) (by omega)) (a0a rfl) rfl a1G rfl (fun _ => rfl) a1I rfl (fun _ => rfl) (fun _ => rfl) (fun zz hz24 => ?_)
    obtain ⟨e24, i24, h24⟩ := zz
    replace hz24 : a2h e24 = true ∧ 0 ≤ i24 := hz24
    iterate 2 refine z ?_
    refine a1z ?_
    iterate 2 refine z ?_
    refine a0p ?_
    refine a0h (σ' := ⟨[(0, .abox 0), (2, .box 2 0), (3, .box 3 0)], [(0, 81, [(.arg 900001 (a1h (code))), (.dv [] (.int .i64 (i24))), (.dv [] (.int .i64 (h24)))]), (2, 68, [(.dv [] (.int .i64 (0))), (.dv [] (.str (ByteArray.empty))), (.dv [] (.int .i64 (0))), (.dv [] (.int .i64 (0))), (.dv [] (.str (ByteArray.empty))), .nil, (.dv [] (.str (ByteArray.empty)))]), (3, 68, [(.dv [] (.int .i64 ((1) + (e5)))), (.dv [] (.str (e9))), (.dv [] (.int .i64 (e11.1))), (.dv [] (.int .i64 (e11.2.1))), (.dv [] (.str (e11.2.2))), .nil, (.dv [] (.str (e24)))])], []⟩) (a0e ⟨rfl, rfl, rfl, trivial⟩ ⟨rfl, rfl, rfl, trivial⟩ trivial rfl) ?_
    refine a0o ?_
    iterate 3 refine z ?_
    refine a0h (a3a 9001 (b := 2) (i := 5) (e := 137) (sz := 2) rfl rfl rfl rfl rfl) ?_
    refine a0h (σ' := ⟨[(2, .box 2 0), (0, .abox 0)], [(2, 68, [(.dv [] (.int .i64 ((1) + (e5)))), (.dv [] (.str (e9))), (.dv [] (.int .i64 (e11.1))), (.dv [] (.int .i64 (e11.2.1))), (.dv [] (.str (e11.2.2))), (.key 9001), (.dv [] (.str (e24)))]), (0, 81, [(.arg 900001 (a1h (code))), (.dv [] (.int .i64 (i24))), (.dv [] (.int .i64 (h24)))])], [(9001, some (a0b false (.sl 137 2 (0) ([]))))]⟩) (a0e ⟨rfl, rfl, trivial⟩ ⟨rfl, rfl, trivial⟩ ⟨rfl, trivial⟩ rfl) ?_
    refine z ?_
    refine a1x (a0C hT rfl rfl rfl rfl) ⟨((((1) + (e5)), ((e9), (((e11.1), ((e11.2.1), (e11.2.2))), (([]), (e24))))), i24, h24), ?_, rfl, rfl, rfl, rfl⟩
    try dsimp only
    exact ⟨a8n (by omega) (a7i (l := [ByteArray.mk #[110, 111, 116, 101, 115], ByteArray.mk #[116, 97, 103, 115], ByteArray.mk #[110, 111, 116, 101, 115], ByteArray.mk #[108, 105, 115, 116, 115]]) (by decide +kernel) hz9.1) (.inr hz11.1) (show a1l [] = true from rfl) (.inl ⟨by omega, hz24.1⟩), .inl hz11.1, by omega⟩
   ·have d4 := of_decide_eq_false c4
    iterate 4 refine z ?_
    refine yQ rfl (fun c5 => ?_) fun c5 => ?_
    ·have d5 := of_decide_eq_true c5
     refine z ?_
     refine yO rfl rfl (a1F hT hB rfl rfl rfl a1E) rfl ?_
     iterate 4 refine z ?_
     refine yO rfl rfl (a0U (.inl rfl) (a1w (a0a rfl))) rfl ?_
     refine a1Z 31000 rfl rfl rfl Tryz.call64 (a9w (code := code) (i := i11) (h := h11) (n := 2) (by omega) (by omega) ) (a0a rfl) rfl a1G rfl (fun _ => rfl) (a2t (a0n (a0m rfl)) (a0I a0c) rfl a1I) rfl (fun _ => rfl) (fun _ => rfl) (fun zz hz31 => ?_)
     obtain ⟨e31, i31, h31⟩ := zz
     replace hz31 : 0 ≤ i31 := hz31
     refine z ?_
     refine yQ rfl (fun c6 => ?_) fun c6 => ?_
     ·iterate 2 refine z ?_
      refine b6B hT rfl rfl rfl rfl (a0a rfl) (a0n (a0m rfl)) rfl rfl rfl rfl rfl rfl ?_
      refine z ?_
      refine a0o ?_
      refine yO rfl rfl (a0U (.inl rfl) (a1w (a0a rfl))) rfl ?_
      refine a1Z 34000 rfl rfl rfl Tryz.call100 (b3W (code := code) (i := i31) (h := h31) (by omega) (by omega)) (a0a rfl) rfl a1G rfl (fun _ => rfl) a1I rfl (fun _ => rfl) (fun _ => rfl) (fun zz hz34 => ?_)
      obtain ⟨e34, i34, h34⟩ := zz
      replace hz34 : a1n e34 = true ∧ a6F e34 ∧ 0 ≤ i34 := hz34
      iterate 2 refine z ?_
      refine a1z ?_
      iterate 2 refine z ?_
      refine a0p ?_
      refine a0h (σ' := ⟨[(0, .abox 0), (2, .box 2 0), (3, .box 3 0)], [(0, 81, [(.arg 900001 (a1h (code))), (.dv [] (.int .i64 (i34))), (.dv [] (.int .i64 (h34)))]), (2, 68, [(.dv [] (.int .i64 (0))), (.dv [] (.str (ByteArray.empty))), (.dv [] (.int .i64 (0))), (.dv [] (.int .i64 (0))), (.dv [] (.str (ByteArray.empty))), .nil, (.dv [] (.str (ByteArray.empty)))]), (3, 68, [(.dv [] (.int .i64 (1))), (.dv [] (.str (e9))), (.dv [] (.int .i64 (e34.1))), (.dv [] (.int .i64 (e34.2.1))), (.dv [] (.str (e34.2.2))), .nil, (.dv [] (.str (ByteArray.empty)))])], []⟩) (a0e ⟨rfl, rfl, rfl, trivial⟩ ⟨rfl, rfl, rfl, trivial⟩ trivial rfl) ?_
      refine a0o ?_
      iterate 3 refine z ?_
      refine a0h (a3a 9001 (b := 2) (i := 5) (e := 137) (sz := 2) rfl rfl rfl rfl rfl) ?_
      refine a0h (σ' := ⟨[(2, .box 2 0), (0, .abox 0)], [(2, 68, [(.dv [] (.int .i64 (1))), (.dv [] (.str (e9))), (.dv [] (.int .i64 (e34.1))), (.dv [] (.int .i64 (e34.2.1))), (.dv [] (.str (e34.2.2))), (.key 9001), (.dv [] (.str (ByteArray.empty)))]), (0, 81, [(.arg 900001 (a1h (code))), (.dv [] (.int .i64 (i34))), (.dv [] (.int .i64 (h34)))])], [(9001, some (a0b false (.sl 137 2 (0) ([]))))]⟩) (a0e ⟨rfl, rfl, trivial⟩ ⟨rfl, rfl, trivial⟩ ⟨rfl, trivial⟩ rfl) ?_
      refine z ?_
      refine a1x (a0C hT rfl rfl rfl rfl) ⟨(((1), ((e9), (((e34.1), ((e34.2.1), (e34.2.2))), (([]), (ByteArray.empty))))), i34, h34), ?_, rfl, rfl, rfl, rfl⟩
      try dsimp only
      exact ⟨a8n (by omega) (a7i (l := [ByteArray.mk #[110, 111, 116, 101, 115], ByteArray.mk #[116, 97, 103, 115], ByteArray.mk #[110, 111, 116, 101, 115], ByteArray.mk #[108, 105, 115, 116, 115]]) (by decide +kernel) hz9.1) (.inr hz34.1) (show a1l [] = true from rfl) (.inr ⟨by omega, rfl⟩), .inl hz34.1, by omega⟩
     ·iterate 3 refine z ?_
      refine a0p ?_
      refine a0h (σ' := ⟨[(0, .abox 0), (2, .box 2 0), (3, .box 3 0)], [(0, 81, [(.arg 900001 (a1h (code))), (.dv [] (.int .i64 (i31))), (.dv [] (.int .i64 (h31)))]), (2, 68, [(.dv [] (.int .i64 (0))), (.dv [] (.str (ByteArray.empty))), (.dv [] (.int .i64 (0))), (.dv [] (.int .i64 (0))), (.dv [] (.str (ByteArray.empty))), .nil, (.dv [] (.str (ByteArray.empty)))]), (3, 68, [(.dv [] (.int .i64 ((1) + (e5)))), (.dv [] (.str (e9))), (.dv [] (.int .i64 (0))), (.dv [] (.int .i64 (0))), (.dv [] (.str (ByteArray.empty))), .nil, (.dv [] (.str (ByteArray.empty)))])], []⟩) (a0e ⟨rfl, rfl, rfl, trivial⟩ ⟨rfl, rfl, rfl, trivial⟩ trivial rfl) ?_
      refine a0o ?_
      iterate 3 refine z ?_
      refine a0h (a3a 9001 (b := 2) (i := 5) (e := 137) (sz := 2) rfl rfl rfl rfl rfl) ?_
      refine a0h (σ' := ⟨[(2, .box 2 0), (0, .abox 0)], [(2, 68, [(.dv [] (.int .i64 ((1) + (e5)))), (.dv [] (.str (e9))), (.dv [] (.int .i64 (0))), (.dv [] (.int .i64 (0))), (.dv [] (.str (ByteArray.empty))), (.key 9001), (.dv [] (.str (ByteArray.empty)))]), (0, 81, [(.arg 900001 (a1h (code))), (.dv [] (.int .i64 (i31))), (.dv [] (.int .i64 (h31)))])], [(9001, some (a0b false (.sl 137 2 (0) ([]))))]⟩) (a0e ⟨rfl, rfl, trivial⟩ ⟨rfl, rfl, trivial⟩ ⟨rfl, trivial⟩ rfl) ?_
      refine z ?_
      refine a1x (a0C hT rfl rfl rfl rfl) ⟨((((1) + (e5)), ((e9), (((0), ((0), (ByteArray.empty))), (([]), (ByteArray.empty))))), i31, h31), ?_, rfl, rfl, rfl, rfl⟩
      try dsimp only
      exact ⟨a8n (by omega) (a7i (l := [ByteArray.mk #[110, 111, 116, 101, 115], ByteArray.mk #[116, 97, 103, 115], ByteArray.mk #[110, 111, 116, 101, 115], ByteArray.mk #[108, 105, 115, 116, 115]]) (by decide +kernel) hz9.1) (.inl (by omega)) (show a1l [] = true from rfl) (.inr ⟨by omega, rfl⟩), .inr rfl, by omega⟩
    ·have d5 := of_decide_eq_false c5
     iterate 3 refine z ?_
     refine a0p ?_
     refine a0h (σ' := ⟨[(0, .abox 0), (2, .box 2 0), (3, .box 3 0)], [(0, 81, [(.arg 900001 (a1h (code))), (.dv [] (.int .i64 (i11))), (.dv [] (.int .i64 (h11)))]), (2, 68, [(.dv [] (.int .i64 (0))), (.dv [] (.str (ByteArray.empty))), (.dv [] (.int .i64 (0))), (.dv [] (.int .i64 (0))), (.dv [] (.str (ByteArray.empty))), .nil, (.dv [] (.str (ByteArray.empty)))]), (3, 68, [(.dv [] (.int .i64 ((1) + (e5)))), (.dv [] (.str (e9))), (.dv [] (.int .i64 (e11.1))), (.dv [] (.int .i64 (e11.2.1))), (.dv [] (.str (e11.2.2))), .nil, (.dv [] (.str (ByteArray.empty)))])], []⟩) (a0e ⟨rfl, rfl, rfl, trivial⟩ ⟨rfl, rfl, rfl, trivial⟩ trivial rfl) ?_
     refine a0o ?_
     iterate 3 refine z ?_
     refine a0h (a3a 9001 (b := 2) (i := 5) (e := 137) (sz := 2) rfl rfl rfl rfl rfl) ?_
     refine a0h (σ' := ⟨[(2, .box 2 0), (0, .abox 0)], [(2, 68, [(.dv [] (.int .i64 ((1) + (e5)))), (.dv [] (.str (e9))), (.dv [] (.int .i64 (e11.1))), (.dv [] (.int .i64 (e11.2.1))), (.dv [] (.str (e11.2.2))), (.key 9001), (.dv [] (.str (ByteArray.empty)))]), (0, 81, [(.arg 900001 (a1h (code))), (.dv [] (.int .i64 (i11))), (.dv [] (.int .i64 (h11)))])], [(9001, some (a0b false (.sl 137 2 (0) ([]))))]⟩) (a0e ⟨rfl, rfl, trivial⟩ ⟨rfl, rfl, trivial⟩ ⟨rfl, trivial⟩ rfl) ?_
     refine z ?_
     refine a1x (a0C hT rfl rfl rfl rfl) ⟨((((1) + (e5)), ((e9), (((e11.1), ((e11.2.1), (e11.2.2))), (([]), (ByteArray.empty))))), i11, h11), ?_, rfl, rfl, rfl, rfl⟩
     try dsimp only
     exact ⟨a8n (by omega) (a7i (l := [ByteArray.mk #[110, 111, 116, 101, 115], ByteArray.mk #[116, 97, 103, 115], ByteArray.mk #[110, 111, 116, 101, 115], ByteArray.mk #[108, 105, 115, 116, 115]]) (by decide +kernel) hz9.1) (.inr hz11.1) (show a1l [] = true from rfl) (.inr ⟨by omega, rfl⟩), .inl hz11.1, by omega⟩
theorem c2k {code : List UInt8} {i h : Int} {m : Int} (hc : code.length ≤ 1048576) (hi : 0 ≤ i) (hm : 0 ≤ m ∧ m ≤ 10) : BFn Tryz.prog 39 [.one (.dv [] (.int .i64 (m)))] 81 (a1h (code)) [.dv [] (.int .i64 (i)), .dv [] (.int .i64 (h))] (fun zz : List OpT × Int × Int => a5H zz.1 ∧ (zz.1.length : Int) ≤ m ∧ 0 ≤ zz.2.1) (fun zz : List OpT × Int × Int => .one (.key 9001)) (fun zz : List OpT × Int × Int => [(9001, some (a0b false (a1m (zz.1))))]) (fun zz : List OpT × Int × Int => [.dv [] (.int .i64 (zz.2.1)), .dv [] (.int .i64 (zz.2.2))]) := by
 refine ⟨a3r Tryz.func39 rfl Tryz.ntmps39 Tryz.results39 rfl (fun C => ?_)⟩
 refine a1i (x := .tmp 1) (a0a rfl) fun f1 => ?_
 iterate 4 refine z ?_
 refine a3p (k := 9001) hT rfl rfl rfl rfl rfl rfl rfl rfl ?_
 iterate 4 refine z ?_
 refine yO rfl rfl (a0U (.inl rfl) (a1w (a0a rfl))) rfl ?_
 iterate 2 refine z ?_
 refine a1Z 11000 rfl rfl rfl Tryz.call37 (a4B (code := code) (i := i) (h := h) (n := (m) + (1)) (by omega) (by omega) ) (a0a rfl) rfl a1G rfl (fun _ => rfl) (a2t (a0a rfl) (a0I a0c) rfl a1I) rfl (fun _ => rfl) (fun _ => rfl) (fun zz hz11 => ?_)
 obtain ⟨e11, i11, h11⟩ := zz
 replace hz11 : 0 ≤ e11 ∧ (0 < ((m) + (1)) → e11 < ((m) + (1))) ∧ 0 ≤ i11 := hz11
 iterate 3 refine z ?_
 refine a1f (ι := Int × List OpT × Int × Int) (fun zz => ⟨[(0, .abox 0), (4, .one .nil), (5, .one (.key 9001)), (6, .one (.dv [] (.int .i64 (zz.1))))], [(0, 81, [(.arg 900001 (a1h (code))), (.dv [] (.int .i64 (zz.2.2.1))), (.dv [] (.int .i64 (zz.2.2.2)))])], [(9001, some (a0b false (.sl 68 7 (zz.2.1.length) (zz.2.1.flatMap eOp))))]⟩) (fun zz => a5H zz.2.1 ∧ (zz.2.1.length : Int) + zz.1 ≤ m ∧ 0 ≤ zz.2.2.1 ∧ 0 ≤ zz.1) (fun zz => zz.1.toNat) ((e11, [], i11, h11)) ?_ (a0e ⟨rfl, rfl, rfl, rfl, trivial⟩ ⟨rfl, trivial⟩ ⟨rfl, trivial⟩ rfl) (fun zz hx => ?_)
 ·exact ⟨fun o ho => (by cases ho), by have := hz11.2.1 (by omega); dsimp only; simp; omega, by dsimp only; omega, by dsimp only; omega⟩
 obtain ⟨n, l, ci, ch⟩ := zz
 replace hx : a5H l ∧ (l.length : Int) + n ≤ m ∧ 0 ≤ ci ∧ 0 ≤ n := hx
 obtain ⟨hok, hl, hci, hn0⟩ := hx
 show Ok _ _ _ _ _ (⟨[(0, .abox 0), (4, .one .nil), (5, .one (.key 9001)), (6, .one (.dv [] (.int .i64 (n))))], [(0, 81, [(.arg 900001 (a1h (code))), (.dv [] (.int .i64 (ci))), (.dv [] (.int .i64 (ch)))])], [(9001, some (a0b false (.sl 68 7 (l.length) (l.flatMap eOp))))]⟩ : St)
 iterate 5 refine z ?_
 refine yQ rfl (fun c1 => ?_) fun c1 => ?_
 ·have d1 := of_decide_eq_true c1
  iterate 4 refine z ?_
  refine a0o ?_
  refine z ?_
  refine yO rfl rfl (a0U (.inl rfl) (a1w (a0a rfl))) rfl ?_
  refine a1Z 18000 rfl rfl rfl Tryz.call70 (c1S (code := code) (i := ci) (h := ch) (by omega) (by omega)) (a0a rfl) rfl a1G rfl (fun _ => rfl) a1I rfl (fun _ => rfl) (fun _ => rfl) (fun zz hz18 => ?_)
  obtain ⟨e18, i18, h18⟩ := zz
  replace hz18 : a1X e18 = true ∧ b0G e18 ∧ 0 ≤ i18 := hz18
  refine a4b (k := 19) (js := [27001]) hT rfl rfl rfl rfl rfl rfl rfl rfl rfl (a0a rfl) rfl rfl (a0q (a0B rfl) (a0q (a0B rfl) (a0q (a0B rfl) (a0q (a0B rfl) (a0q (a0B rfl) (a0q (a2b rfl) (a0q (a0B rfl) a1t rfl) rfl) rfl) rfl) rfl) rfl) rfl) (by decide) (by decide) rfl rfl ?_
  simp only [a0l, a0i, SV.kill, CV.kill, kk, Nat.reduceBEq]
  refine a2z (k := 9001) (j := 19) (cs := (l ++ [e18]).flatMap eOp) (n := (l ++ [e18]).length) hT rfl rfl rfl rfl rfl rfl rfl (a0a rfl) rfl rfl rfl (a0a rfl) rfl rfl (by decide) (by dsimp only [a0b, KC.old]; omega) (by dsimp only [a0b, KC.old]; omega) (by rw [List.length_append]; rfl) (by rw [List.flatMap_append]; rfl) ?_
  simp only [a0l, a0i, SV.kill, CV.kill, kk, Nat.reduceBEq]
  refine z ?_
  refine a1z ?_
  iterate 2 refine z ?_
  refine a0o ?_
  iterate 4 refine z ?_
  refine ⟨(n - 1, l ++ [e18], i18, h18), ?_, ?_, a0e ⟨rfl, rfl, rfl, rfl, trivial⟩ ⟨rfl, trivial⟩ ⟨rfl, trivial⟩ rfl⟩
  ·refine ⟨fun o ho => ?_, by dsimp only; rw [List.length_append, List.length_singleton]; omega, by dsimp only; omega, by dsimp only; omega⟩
   rcases List.mem_append.1 ho with ho | ho
   ·exact hok o ho
   ·rw [List.mem_singleton] at ho; rw [ho]; exact ⟨hz18.1, hz18.2.1⟩
  ·dsimp only; omega
 ·have d1 := of_decide_eq_false c1
  iterate 9 refine z ?_
  refine a0h (σ' := ⟨[(4, .one (.key 9001)), (0, .abox 0)], [(0, 81, [(.arg 900001 (a1h (code))), (.dv [] (.int .i64 (ci))), (.dv [] (.int .i64 (ch)))])], [(9001, some (a0b false (.sl 68 7 (l.length) (l.flatMap eOp))))]⟩) (a0e ⟨rfl, rfl, trivial⟩ ⟨rfl, trivial⟩ ⟨rfl, trivial⟩ rfl) ?_
  refine z ?_
  refine a1x (a0v rfl) ⟨((l), ci, ch), ?_, rfl, rfl, rfl, rfl⟩
  try dsimp only
  exact ⟨hok, by omega, by omega⟩
end Go.Proofs.YtjkpoekgnmgofaaGreat

namespace Go.Proofs.YtjkpoekgnmgofaaGreat
open Go.RowKit
open Go.Proofs
set_option linter.unusedVariables false
set_option linter.unusedSimpArgs false

def a4f : List Str → Str → List Str
 | [], n => [n]
 | x :: xs, n => if sLt x n then x :: a4f xs n else if sEq x n then x :: xs else n :: x :: xs
def a1s (l : List OpT) : List Str := l.foldl (fun out o => a4f out o.2.1) []
theorem c4t {a b : Str} : sEq a b = true ↔ a = b := by
 unfold sEq
 rw [beq_iff_eq]
 constructor
 ·intro h
  rw [a6c, a6c] at h
  exact ByteArray.ext (Array.toList_inj.1 h)
 ·intro h; rw [h]
theorem b2G {n m : Str} : ∀ {l : List Str}, m ∈ a4f l n ↔ m = n ∨ m ∈ l
 | [] => by simp [a4f]
 | x :: xs => by
  have ih := b2G (n := n) (m := m) (l := xs)
  rw [a4f]
  split
  ·simp only [List.mem_cons, ih]
   constructor
   ·rintro (h | h | h)
    ·exact .inr (.inl h)
    ·exact .inl h
    ·exact .inr (.inr h)
   ·rintro (h | h | h)
    ·exact .inr (.inl h)
    ·exact .inl h
    ·exact .inr (.inr h)
  ·split
   ·rename_i h1 h2
    have e := c4t.1 h2
    simp only [List.mem_cons]
    constructor
    ·exact fun h => .inr h
    ·rintro (h | h)
     ·exact .inl (h.trans e.symm)
     ·exact h
   ·simp only [List.mem_cons]
theorem b1h {m : Str} (l : List OpT) : m ∈ a1s l ↔ ∃ o ∈ l, o.2.1 = m := by
 have key : ∀ (l : List OpT) (out : List Str), m ∈ l.foldl (fun out o => a4f out o.2.1) out ↔ (∃ o ∈ l, o.2.1 = m) ∨ m ∈ out := by
  intro l
  induction l with
  | nil => intro out; simp
  | cons o l ih =>
   intro out
   rw [List.foldl_cons, ih, b2G]
   simp only [List.mem_cons]
   constructor
   ·rintro (⟨p, hp, e⟩ | e | h)
    ·exact .inl ⟨p, .inr hp, e⟩
    ·exact .inl ⟨o, .inl rfl, e.symm⟩
    ·exact .inr h
   ·rintro (⟨p, hp | hp, e⟩ | h)
    ·subst hp; exact .inr (.inl e.symm)
    ·exact .inl ⟨p, hp, e⟩
    ·exact .inr (.inr h)
 have := key l []
 simpa [a1s] using this

def bl (x y : List UInt8) : Prop := Op.bytesLess x y = true
theorem b3a (x y : List UInt8) : bl x y ∨ x = y ∨ bl y x := by
 have h := b3E x y
 unfold bl
 cases h1 : Op.bytesLess x y with
 | true => exact .inl rfl
 | false =>
  cases h2 : Op.bytesLess y x with
  | true => exact .inr (.inr rfl)
  | false =>
   rw [h1, h2] at h
   exact .inr (.inl (by simpa using h))
theorem b6X : ∀ (x y : List (List UInt8)), x.Pairwise bl → y.Pairwise bl → (∀ z, z ∈ x ↔ z ∈ y) → x = y
 | [], [], _, _, _ => rfl
 | [], b :: y, _, _, h => absurd ((h b).2 (by simp)) (by simp)
 | a :: x, [], _, _, h => absurd ((h a).1 (by simp)) (by simp)
 | a :: x, b :: y, hx, hy, h => by
  obtain ⟨hx1, hx2⟩ := List.pairwise_cons.1 hx
  obtain ⟨hy1, hy2⟩ := List.pairwise_cons.1 hy
  have irr : ∀ z, ¬ bl z z := fun z hz => by unfold bl at hz; rw [a6A] at hz; cases hz
  have e : a = b := by
   rcases List.mem_cons.1 ((h a).1 (by simp)) with h1 | h1
   ·exact h1
   ·rcases List.mem_cons.1 ((h b).2 (by simp)) with h2 | h2
    ·exact h2.symm
    ·exact absurd (a6p _ _ _ (hy1 a h1) (hx1 b h2)) (irr b)
  subst e
  rw [b6X x y hx2 hy2 (fun z => ?_)]
  constructor
  ·intro hz
   rcases List.mem_cons.1 ((h z).1 (by simp [hz])) with h1 | h1
   ·rw [h1] at hz; exact absurd (hx1 a hz) (irr a)
   ·exact h1
  ·intro hz
   rcases List.mem_cons.1 ((h z).2 (by simp [hz])) with h1 | h1
   ·rw [h1] at hz; exact absurd (hy1 a hz) (irr a)
   ·exact h1
theorem b8G {d : Array (List UInt8)} (hs : ∀ i, i + 1 < d.size → ¬ bl d[i + 1]! d[i]!) : ∀ m, m ≤ d.size → (Lib.compactUpTo d m).Pairwise bl ∧ (∀ z, z ∈ Lib.compactUpTo d m ↔ ∃ j, j < m ∧ z = d[j]!) ∧ (0 < m → ∀ z ∈ Lib.compactUpTo d m, z = d[m - 1]! ∨ bl z d[m - 1]!)
 | 0, _ => ⟨by simp [Lib.compactUpTo], by simp [Lib.compactUpTo], fun h => by omega⟩
 | m + 1, hm => by
  obtain ⟨i1, i2, i3⟩ := b8G hs m (by omega)
  rw [Lib.compactUpTo_succ, Nat.add_sub_cancel]
  by_cases hk : Lib.keeps d m = true
  ·rw [if_pos hk]
   have hlt : ∀ z ∈ Lib.compactUpTo d m, bl z d[m]! := fun z hz => by
    have hm0 : 0 < m := by
     obtain ⟨j, hj, _⟩ := (i2 z).1 hz; omega
    have hne : d[m]! ≠ d[m - 1]! := by
     unfold Lib.keeps at hk
     rcases of_decide_eq_true hk with h | h
     ·omega
     ·exact h
    have hb : bl d[m - 1]! d[m]! := by
     rcases b3a d[m - 1]! d[m]! with h | h | h
     ·exact h
     ·exact absurd h.symm hne
     ·have := hs (m - 1) (by omega)
      rw [show m - 1 + 1 = m by omega] at this
      exact absurd h this
    rcases i3 hm0 z hz with h | h
    ·rw [h]; exact hb
    ·exact a6p _ _ _ h hb
   refine ⟨List.pairwise_append.2 ⟨i1, by simp, fun a ha b hb => ?_⟩, fun z => ?_, fun _ z hz => ?_⟩
   ·rw [List.mem_singleton.1 hb]; exact hlt a ha
   ·rw [List.mem_append, i2, List.mem_singleton]
    constructor
    ·rintro (⟨j, hj, e⟩ | e)
     ·exact ⟨j, by omega, e⟩
     ·exact ⟨m, by omega, e⟩
    ·rintro ⟨j, hj, e⟩
     by_cases h : j = m
     ·subst h; exact .inr e
     ·exact .inl ⟨j, by omega, e⟩
   ·rcases List.mem_append.1 hz with h | h
    ·exact .inr (hlt z h)
    ·exact .inl (List.mem_singleton.1 h)
  ·rw [if_neg hk, List.append_nil]
   have hk' : ¬ m = 0 ∧ d[m]! = d[m - 1]! := by
    unfold Lib.keeps at hk
    simp only [decide_eq_true_eq, not_or, Classical.not_not] at hk
    exact hk
   refine ⟨i1, fun z => ?_, fun _ z hz => ?_⟩
   ·rw [i2]
    constructor
    ·rintro ⟨j, hj, e⟩; exact ⟨j, by omega, e⟩
    ·rintro ⟨j, hj, e⟩
     by_cases h : j = m
     ·subst h; exact ⟨j - 1, by omega, by rw [e, hk'.2]⟩
     ·exact ⟨j, by omega, e⟩
   ·rw [hk'.2]; exact i3 (by omega) z hz
theorem c2j (zs : List (List UInt8)) : (Lib.compact (zs.mergeSort fun x y => decide (x ≤ y))).Pairwise bl ∧ ∀ z, z ∈ Lib.compact (zs.mergeSort fun x y => decide (x ≤ y)) ↔ z ∈ zs := by
 have hle : ∀ x y : List UInt8, decide (x ≤ y) = !Op.bytesLess y x := fun x y => by
  rw [bytesLess_eq]
  by_cases h : y < x
  ·rw [decide_eq_true h, decide_eq_false (fun h2 : x ≤ y => h2 h)]; rfl
  ·rw [decide_eq_false h, decide_eq_true (show x ≤ y from h)]; rfl
 have hp : (zs.mergeSort fun x y => decide (x ≤ y)).Pairwise (fun x y => decide (x ≤ y) = true) := by
  refine List.pairwise_mergeSort (fun a b c h1 h2 => ?_) (fun a b => ?_) zs
  ·rw [hle] at h1 h2 ⊢
   simp only [Bool.not_eq_true'] at h1 h2 ⊢
   cases h3 : Op.bytesLess c a with
   | false => rfl
   | true =>
    exfalso
    rcases b3a a b with h | h | h
    ·have := a6p _ _ _ h3 h
     rw [this] at h2; cases h2
    ·subst h; rw [h3] at h2; cases h2
    ·unfold bl at h; rw [h] at h1; cases h1
  ·rw [hle, hle]
   rcases b3a a b with h | h | h
   ·cases h2 : Op.bytesLess b a with
    | false => simp
    | true => have := a6p _ _ _ h h2; rw [a6A] at this; cases this
   ·subst h; simp [a6A]
   ·cases h2 : Op.bytesLess a b with
    | false => simp
    | true => have := a6p _ _ _ h h2; rw [a6A] at this; cases this
 have hm : ∀ z, z ∈ (zs.mergeSort fun x y => decide (x ≤ y)) ↔ z ∈ zs := fun z => List.mem_mergeSort
 generalize (zs.mergeSort fun x y => decide (x ≤ y)) = s at hp hm
 have hs : ∀ i, i + 1 < s.toArray.size → ¬ bl s.toArray[i + 1]! s.toArray[i]! := fun i hi hb => by
  have hi' : i + 1 < s.length := by simpa using hi
  have h := List.pairwise_iff_getElem.1 hp i (i + 1) (by omega) hi' (by omega)
  rw [hle] at h
  rw [getElem!_pos s.toArray (i + 1) hi, getElem!_pos s.toArray i (by omega)] at hb
  simp only [List.getElem_toArray] at hb
  unfold bl at hb
  rw [hb] at h; cases h
 obtain ⟨h1, h2, _⟩ := b8G hs s.length (by simp)
 refine ⟨h1, fun z => ?_⟩
 rw [← hm z, show Lib.compact s = Lib.compactUpTo s.toArray s.length from rfl, h2]
 constructor
 ·rintro ⟨j, hj, e⟩
  rw [e, getElem!_pos s.toArray j (by simpa using hj)]
  simp
 ·intro hz
  obtain ⟨j, hj, e⟩ := List.mem_iff_getElem.1 hz
  exact ⟨j, hj, by rw [getElem!_pos s.toArray j (by simpa using hj)]; simp [e]⟩
theorem b9d {n : Str} : ∀ {l : List Str}, l.Pairwise (fun a b => sLt a b = true) → (a4f l n).Pairwise (fun a b => sLt a b = true)
 | [], _ => by simp [a4f]
 | x :: xs, h => by
  obtain ⟨h1, h2⟩ := List.pairwise_cons.1 h
  rw [a4f]
  split
  ·rename_i hx
   refine List.pairwise_cons.2 ⟨fun a ha => ?_, b9d h2⟩
   rcases b2G.1 ha with e | e
   ·rw [e]; exact hx
   ·exact h1 a e
  ·split
   ·exact h
   ·rename_i h3 h4
    have hnx : sLt n x = true := by
     have := a6K x n
     rw [Bool.eq_false_iff.2 h3, Bool.eq_false_iff.2 h4] at this
     simpa using this
    refine List.pairwise_cons.2 ⟨fun a ha => ?_, h⟩
    rcases List.mem_cons.1 ha with e | e
    ·rw [e]; exact hnx
    ·exact a6p _ _ _ hnx (h1 a e)
theorem c3y (l : List OpT) : (a1s l).Pairwise (fun a b => sLt a b = true) := by
 have key : ∀ (l : List OpT) (out : List Str), out.Pairwise (fun a b => sLt a b = true) → (l.foldl (fun out o => a4f out o.2.1) out).Pairwise (fun a b => sLt a b = true) := by
  intro l
  induction l with
  | nil => exact fun _ h => h
  | cons o l ih => exact fun out h => ih _ (b9d h)
 exact key l [] .nil
theorem c4K (l : List OpT) : Lib.compact ((l.map fun o => o.2.1.data.toList).mergeSort fun x y => decide (x ≤ y)) = (a1s l).map fun s => s.data.toList := by
 obtain ⟨h1, h2⟩ := c2j (l.map fun o => o.2.1.data.toList)
 refine b6X _ _ h1 ?_ (fun z => ?_)
 ·rw [List.pairwise_map]
  refine (c3y l).imp (fun {a b} h => ?_)
  unfold sLt at h
  rw [a6c, a6c] at h
  exact h
 ·rw [h2, List.mem_map, List.mem_map]
  constructor
  ·rintro ⟨o, ho, e⟩; exact ⟨o.2.1, (b1h l).2 ⟨o, ho, rfl⟩, e⟩
  ·rintro ⟨s, hs, e⟩
   obtain ⟨o, ho, e2⟩ := (b1h l).1 hs
   exact ⟨o, ho, by rw [e2]; exact e⟩
theorem b8a (l : List OpT) : a3l (a3k (l.map fun o => o.2.1)) = a1s l := by
 unfold a3l a3k
 rw [b3t, List.map_map]
 have := c4K l
 rw [show ((fun s : ByteArray => s.data.toList) ∘ fun o : OpT => o.2.1) = fun o : OpT => o.2.1.data.toList from rfl, this, List.map_map]
 rw [show (ofB ∘ fun s : ByteArray => s.data.toList) = id from rfl, List.map_id]

end Go.Proofs.YtjkpoekgnmgofaaGreat

namespace Go.Proofs.YtjkpoekgnmgofaaGreat
open Go.RowKit
open Go.Proofs
set_option linter.unusedVariables false
set_option linter.unusedSimpArgs false

theorem b8T {l : List OpT} {k : Nat} (h : k < l.length) : ((l.take (k + 1)).map fun o => o.2.1) = ((l.take k).map fun o => o.2.1) ++ [(l.getD (k : Int).toNat default).2.1] := by
 rw [List.take_add_one, List.getElem?_eq_getElem h, List.map_append, a5r h]; rfl

theorem c3g {l : List OpT} (hl : l.length ≤ 1099511627776) : KFn Tryz.prog 20 [.one (.dv [] (a1m (l)))] (.one (.key 95000)) [(95000, some (a0b false (a7c (a1s l))))] := by
 refine ⟨a0R Tryz.func20 rfl Tryz.ntmps20 Tryz.results20 rfl (fun C => ?_)⟩
 refine a1i (x := .tmp 0) (a0a rfl) fun f0 => ?_
 iterate 4 refine z ?_
 refine a3p (k := 95000) hT rfl rfl rfl rfl rfl rfl rfl rfl ?_
 iterate 9 refine z ?_
 refine a1f (ι := Nat) (fun zz => ⟨[(2, .one .nil), (3, .one (.key 95000)), (7, .one (.dv [] (a1m (l)))), (8, .one (.dv [] (.int .i64 ((((l)).length : Int))))), (9, .one (.dv [] (.int .i64 ((zz : Int)))))], [], [(95000, some (a0b false (.sl 9 1 (((l.take zz).map fun o => o.2.1).length) (((l.take zz).map fun o => o.2.1).flatMap a9b))))]⟩) (fun zz => zz ≤ l.length) (fun zz => l.length - zz) (0) ?_ (a0e ⟨rfl, rfl, rfl, rfl, rfl, trivial⟩ trivial ⟨rfl, trivial⟩ rfl) (fun zz hx => ?_)
 ·exact Nat.zero_le _
 obtain ⟨k, rfl⟩ : ∃ v, v = zz := ⟨_, rfl⟩
 replace hx : k ≤ l.length := hx
 show Ok _ _ _ _ _ (⟨[(2, .one .nil), (3, .one (.key 95000)), (7, .one (.dv [] (a1m (l)))), (8, .one (.dv [] (.int .i64 ((((l)).length : Int))))), (9, .one (.dv [] (.int .i64 ((k : Int)))))], [], [(95000, some (a0b false (.sl 9 1 (((l.take k).map fun o => o.2.1).length) (((l.take k).map fun o => o.2.1).flatMap a9b))))]⟩ : St)
 iterate 3 refine z ?_
 refine a0p ?_
 refine yQ rfl (fun c1 => ?_) fun c1 => ?_
 ·have d1 := of_decide_eq_true c1
  have hk2 : k < l.length := by omega
  iterate 10 refine z ?_
  refine a0o ?_
  iterate 3 refine z ?_
  refine a4b (k := 16) (js := []) hT rfl rfl rfl rfl rfl rfl rfl rfl rfl (a0a rfl) rfl rfl (a0q (a0B rfl) a1t rfl) (by decide) (by decide) rfl rfl ?_
  simp only [a0l, a0i, SV.kill, CV.kill, kk, Nat.reduceBEq]
  refine a2z (k := 95000) (j := 16) (cs := ((l.take (k + 1)).map fun o => o.2.1).flatMap a9b) (n := ((l.take (k + 1)).map fun o => o.2.1).length) hT rfl rfl rfl rfl rfl rfl rfl (a0a rfl) rfl rfl rfl (a0a rfl) rfl rfl (by decide) (by dsimp only [a0b]; rw [List.length_map, List.length_take]; omega) (by dsimp only [a0b]; rw [List.length_map, List.length_take]; omega) (by rw [b8T hk2, List.length_append]; rfl) (by rw [b8T hk2, List.flatMap_append]; rfl) ?_
  simp only [a0l, a0i, SV.kill, CV.kill, kk, Nat.reduceBEq]
  refine z ?_
  refine a1z ?_
  iterate 2 refine z ?_
  refine a0o ?_
  iterate 3 refine z ?_
  refine ⟨k + 1, ?_, ?_, a0e ⟨rfl, rfl, rfl, rfl, rfl, trivial⟩ trivial ⟨rfl, trivial⟩ rfl⟩
  ·omega
  ·omega
 ·have d1 := of_decide_eq_false c1
  have hk2 : l.take k = l := List.take_of_length_le (by omega)
  rw [hk2]
  iterate 7 refine z ?_
  refine c4R (k := 95000) (l := (l.map fun o => o.2.1)) (n := (a3k (l.map fun o => o.2.1)).length) (cs := a2D (a3k (l.map fun o => o.2.1))) rfl rfl rfl rfl Tryz.call41 c4P (a0a rfl) rfl rfl rfl (rfl) (rfl) (by rw [List.length_map]; omega) ((b2L _).symm) (rfl) ?_
  simp only [a0l, a0i, SV.kill, CV.kill, kk, Nat.reduceBEq]
  iterate 3 refine z ?_
  refine c0H (k := 95000) (l := (a3k (l.map fun o => o.2.1))) (n := (a1s l).length) (cs := (a1s l).flatMap a9b) rfl rfl rfl rfl Tryz.call42 c0s (a0a rfl) rfl rfl rfl (rfl) (rfl) (by rw [b2L, List.length_map]; omega) (by rw [b8a]) (by rw [b8a]; rfl) ?_
  simp only [a0l, a0i, SV.kill, CV.kill, kk, Nat.reduceBEq]
  iterate 2 refine z ?_
  refine a0h (σ' := ⟨[(2, .one (.key 95000))], [], [(95000, some (a0b false (a7c (a1s l))))]⟩) (a0e ⟨rfl, trivial⟩ trivial ⟨rfl, trivial⟩ rfl) ?_
  refine z ?_
  refine a1x (a0v rfl) ?_
  exact ⟨rfl, rfl⟩

end Go.Proofs.YtjkpoekgnmgofaaGreat

namespace Go.Proofs.YtjkpoekgnmgofaaGreat
open Go.RowKit
open Go.Proofs
set_option linter.unusedVariables false
set_option linter.unusedSimpArgs false

def a2c (d : DbT) (ns : List Str) : List a0u := ns.flatMap fun n => if 0 ≤ a0J d n then [d.2.2.1.getD (a0J d n).toNat default] else []
def a3Y (d : DbT) (q : List TxT) (i : Int) : List TxT × Bool := if a2T q i = true then (q.set i.toNat ((q.getD i.toNat default).1, (q.getD i.toNat default).2.1, (q.getD i.toNat default).2.2.1, 1, a2c d (a1s (q.getD i.toNat default).2.1)), true) else (q, false)
theorem b8p {n : Str} : ∀ {l : List Str}, (a4f l n).length ≤ l.length + 1
 | [] => Nat.le_refl _
 | x :: xs => by
  have ih := b8p (n := n) (l := xs)
  rw [a4f]
  split
  ·rw [List.length_cons, List.length_cons]; omega
  ·split
   ·omega
   ·exact Nat.le_refl _
theorem b6z (l : List OpT) : (a1s l).length ≤ l.length := by
 have key : ∀ (l : List OpT) (out : List Str), (l.foldl (fun out o => a4f out o.2.1) out).length ≤ out.length + l.length := by
  intro l
  induction l with
  | nil => exact fun out => Nat.le_refl _
  | cons o l ih =>
   intro out
   have h1 := ih (a4f out o.2.1)
   have h2 := b8p (n := o.2.1) (l := out)
   rw [List.foldl_cons, List.length_cons]; omega
 have := key l []
 rw [List.length_nil, Nat.zero_add] at this
 exact this
theorem b1W (d : DbT) : ∀ ns : List Str, (a2c d ns).length ≤ ns.length
 | [] => Nat.le_refl _
 | n :: ns => by
  have ih := b1W d ns
  show (List.flatMap _ (n :: ns)).length ≤ _
  rw [List.flatMap_cons, List.length_append, List.length_cons]
  have : (List.flatMap (fun n => if 0 ≤ a0J d n then [d.2.2.1.getD (a0J d n).toNat default] else []) ns).length ≤ ns.length := ih
  split
  ·rw [List.length_singleton]; omega
  ·rw [List.length_nil]; omega
theorem b6P {d : DbT} {ns : List Str} {k : Nat} (h : k < ns.length) : a2c d (ns.take (k + 1)) = a2c d (ns.take k) ++ (if 0 ≤ a0J d (ns.getD (k : Int).toNat default) then [d.2.2.1.getD (a0J d (ns.getD (k : Int).toNat default)).toNat default] else []) := by
 unfold a2c
 rw [List.take_add_one, List.getElem?_eq_getElem h, List.flatMap_append, a5r h]
 simp
theorem b8r {l : List a0u} {j : Nat} (h : j < l.length) : a0X (l.getD j default) ≤ a0D a0X l := by
 have h1 := a3j a0X l j h
 rw [Int.toNat_natCast] at h1
 omega
theorem b5d (d : DbT) : ∀ ns : List Str, a0D a0X (a2c d ns) ≤ ns.length * a0D a0X d.2.2.1
 | [] => Nat.zero_le _
 | n :: ns => by
  have ih := b5d d ns
  have e : a2c d (n :: ns) = (if 0 ≤ a0J d n then [d.2.2.1.getD (a0J d n).toNat default] else []) ++ a2c d ns := by unfold a2c; rw [List.flatMap_cons]
  rw [e, List.length_cons, Nat.succ_mul]
  have hs : ∀ a b : List a0u, a0D a0X (a ++ b) = a0D a0X a + a0D a0X b := fun a b => by simp [a0D]
  rw [hs]
  split
  ·rename_i h0
   have hlt := a5x d n
   have h1 := b8r (l := d.2.2.1) (j := (a0J d n).toNat) (by omega)
   have e1 : a0D a0X [d.2.2.1.getD (a0J d n).toNat default] = a0X (d.2.2.1.getD (a0J d n).toNat default) := by simp [a0D]
   rw [e1]; omega
  ·have e1 : a0D a0X [] = 0 := rfl
   rw [e1]; omega
theorem b6y {α : Type} {w : α → Nat} {y : α} : ∀ (l : List α) (i : Nat) (h : i < l.length), a0D w (l.set i y) + w l[i] = a0D w l + w y
 | [], _, h => by simp at h
 | a :: l, 0, _ => by
  have e1 : a0D w (y :: l) = w y + a0D w l := by simp [a0D]
  have e2 : a0D w (a :: l) = w a + a0D w l := by simp [a0D]
  show a0D w (y :: l) + w a = _
  omega
 | a :: l, i + 1, h => by
  have h' : i < l.length := by simpa using h
  have ih := b6y (w := w) (y := y) l i h'
  have e1 : a0D w (a :: l.set i y) = w a + a0D w (l.set i y) := by simp [a0D]
  have e2 : a0D w (a :: l) = w a + a0D w l := by simp [a0D]
  show a0D w (a :: l.set i y) + w l[i] = _
  omega
theorem b0b {q : List TxT} {j : Nat} {t' : TxT} {B : Nat} (hj : j < q.length) (h : wTx t' ≤ wTx (q.getD j default) + B) : a2y (q.set j t') ≤ a2y q + B := by
 have h1 := b6y (w := wTx) (y := t') q j hj
 rw [List.getD_eq_getElem?_getD, List.getElem?_eq_getElem hj, Option.getD_some] at h
 have e1 : a2y (q.set j t') = (q.set j t').length + a0D wTx (q.set j t') := rfl
 have e2 : a2y q = q.length + a0D wTx q := rfl
 rw [List.length_set] at e1
 omega
theorem b8C {d : DbT} {q : List TxT} {i : Int} (h : a2T q i = false) : a3Y d q i = (q, false) := by unfold a3Y; rw [if_neg (by rw [h]; decide)]
theorem b8s {d : DbT} {q : List TxT} {i : Int} {t : TxT} (ht : t = q.getD i.toNat default) (h : a2T q i = true) : a3Y d q i = (q.set i.toNat (t.1, t.2.1, t.2.2.1, 1, a2c d (a1s t.2.1)), true) := by unfold a3Y; rw [if_pos h, ht]
theorem b5U {q : List TxT} {i : Int} (h : a2T q i = true) : 0 ≤ i ∧ i < (q.length : Int) := by
 unfold a2T at h
 simp only [Bool.and_eq_true, decide_eq_true_eq] at h
 exact h.1.1
end Go.Proofs.YtjkpoekgnmgofaaGreat

namespace Go.Proofs.YtjkpoekgnmgofaaGreat
open Go.RowKit
open Go.Proofs
set_option linter.unusedVariables false
set_option linter.unusedSimpArgs false
theorem b4n {d : DbT} {q : List TxT} {i : Int} (hb : a1B d ≤ 549755813888) (hq : a1a wTx q ≤ 549755813888) : KFn Tryz.prog 8 [.agg [(.dv [] (.str (d.1))), (.dv [] (.int .i64 (d.2.1))), (.dv [] (a0k (d.2.2.1))), (.dv [] (a0r (d.2.2.2)))], .agg [(.dv [] (a1q (q)))], .one (.dv [] (.int .i64 (i)))] (.tup [(true, [(.key 95031)]), (false, [(.dv [] (.bool ((a3Y d q i).2)))])]) [(95031, some (a0b false (a1q ((a3Y d q i).1))))] := by
 refine ⟨a0R Tryz.func8 rfl Tryz.ntmps8 Tryz.results8 rfl (fun C => ?_)⟩
 have hwq : a1a wTx q = q.length + a0D wTx q := rfl
 obtain ⟨t, ht⟩ : ∃ t, t = q.getD i.toNat default := ⟨_, rfl⟩
 have hwt : wTx t = a1a wOp t.2.1 + a1a a0X t.2.2.2.2 := rfl
 have hwo : a1a wOp t.2.1 = t.2.1.length + a0D wOp t.2.1 := rfl
 have hwd : a1B d = d.1.size + a1a a0X d.2.2.1 + a1a a2x d.2.2.2 := rfl
 have hws0 : a1a a0X d.2.2.1 = d.2.2.1.length + a0D a0X d.2.2.1 := rfl
 refine yF 0 0 rfl rfl fun f0_0 => ?_
 refine yF 0 1 rfl rfl fun f0_1 => ?_
 refine yF 0 2 rfl rfl fun f0_2 => ?_
 refine yF 0 3 rfl rfl fun f0_3 => ?_
 refine yF 1 0 rfl rfl fun f1_0 => ?_
 refine a1i (x := .tmp 2) (a0a rfl) fun f2 => ?_
 iterate 8 refine z ?_
 refine zK 95000 Tryz.call19 ?_ (hf := b3h (x := q) (by omega))
 iterate 7 refine z ?_
 refine zC Tryz.call7 ?_ (hf := b8m (q := q) (i := i) )
 iterate 2 refine z ?_
 refine yQ rfl (fun c1 => ?_) fun c1 => ?_
 ·have hcan : a2T q i = false := by simpa using c1
  iterate 5 refine z ?_
  rw [b8C hcan]
  refine a0h (σ' := ⟨[(6, .box 6 0), (7, .one (.dv [] (.bool (false))))], [(6, 30, [(.key 95031)])], [(95031, some (a0b false (a1q (q))))]⟩) (a0e ⟨rfl, rfl, trivial⟩ ⟨rfl, trivial⟩ ⟨rfl, trivial⟩ rfl) ?_
  iterate 2 refine z ?_
  refine a1N (a0C hT rfl rfl rfl rfl) (a0v rfl) rfl rfl ?_
  first | exact ⟨rfl, rfl⟩ | skip
 ·have hcan : a2T q i = true := by simpa using c1
  have hcb := b5U hcan
  have hit : i.toNat < q.length := by omega
  have htw := b8f hit ht
  have hsl := b6z t.2.1
  refine b8X (k := 95031) (cs' := mid ((q.take (i).toNat).flatMap eTx) [.int .i64 (t.1), a1m (t.2.1), .int .i64 (t.2.2.1), .int .i64 (t.2.2.2.1), a0k (t.2.2.2.2)] ((q.drop ((i).toNat + 1)).flatMap eTx)) rfl (b4N hit ht) ?_
  iterate 6 refine z ?_
  refine yO rfl rfl (a4a (i := (i).toNat) hT rfl rfl rfl (a0a rfl) rfl (a0a rfl) (by omega) (by show _ < (((q)).length); omega)) rfl ?_
  iterate 4 refine z ?_
  refine yO rfl rfl (a2C rfl (a0a rfl)) rfl ?_
  refine z ?_
  refine a2Y (js := []) (cs := mid ((q.take (i).toNat).flatMap eTx) [.int .i64 (t.1), a1m (t.2.1), .int .i64 (t.2.2.1), .int .i64 (1), a0k (t.2.2.2.2)] ((q.drop ((i).toNat + 1)).flatMap eTx)) hT rfl rfl rfl rfl (a0a rfl) (a0n (a0m rfl)) rfl rfl rfl rfl (a0q (a0B rfl) a1t rfl) (by decide) (by decide) rfl (a5a (off := ((i).toNat * 5 + 3)) (n := 1) (j := 3) (a1P (sz := 5) (fun _ => rfl) (Nat.le_of_lt hit)) (by omega) (Nat.le_of_ble_eq_true rfl)) (a3X (off := ((i).toNat * 5 + 3)) (j := 3) (a1P (sz := 5) (fun _ => rfl) (Nat.le_of_lt hit)) (by omega) rfl (Nat.le_of_ble_eq_true rfl)) ?_
  simp only [a0l, a0i, SV.kill, CV.kill, kk, Nat.reduceBEq]
  iterate 3 refine z ?_
  refine yO rfl rfl (a2C rfl (a0a rfl)) rfl ?_
  refine z ?_
  refine a2Y (js := []) (cs := mid ((q.take (i).toNat).flatMap eTx) [.int .i64 (t.1), a1m (t.2.1), .int .i64 (t.2.2.1), .int .i64 (1), .sl 60 3 0 []] ((q.drop ((i).toNat + 1)).flatMap eTx)) hT rfl rfl rfl rfl (a0a rfl) a0P rfl rfl rfl rfl (a0q (a7m (e := 60) (sz := 3) rfl) a1t rfl) (by decide) (by decide) rfl (a5a (off := ((i).toNat * 5 + 4)) (n := 1) (j := 4) (a1P (sz := 5) (fun _ => rfl) (Nat.le_of_lt hit)) (by omega) (Nat.le_of_ble_eq_true rfl)) (a3X (off := ((i).toNat * 5 + 4)) (j := 4) (a1P (sz := 5) (fun _ => rfl) (Nat.le_of_lt hit)) (by omega) rfl (Nat.le_of_ble_eq_true rfl)) ?_
  simp only [a0l, a0i, SV.kill, CV.kill, kk, Nat.reduceBEq]
  iterate 4 refine z ?_
  refine yO rfl rfl (a2C rfl (a0a rfl)) rfl ?_
  refine z ?_
  refine yO rfl rfl (a4j hT rfl rfl (a0a rfl) rfl (a3n (off := ((i).toNat * 5 + 1)) (j := 1) (a1P (sz := 5) (fun _ => rfl) (Nat.le_of_lt hit)) (by omega) rfl)) rfl ?_
  refine zK 0 Tryz.call20 ?_ (hf := c3g (l := t.2.1) (by omega))
  refine yO rfl rfl (a8w (n := ((a1s (t.2.1))).length) hT rfl rfl (a0a rfl) rfl rfl) rfl ?_
  iterate 3 refine z ?_
  refine a0h (c0v (d := 34) (dd := a7c (a1s t.2.1)) rfl rfl (.refl _)) ?_
  refine a1f (ι := Nat) (fun zz => ⟨[(3, .box 3 0), (6, .box 6 0), (7, .one (.dv [] (.bool (false)))), (8, .box 8 0), (9, .eptr 95031 ((i).toNat * 5)), (34, .one (.dv [95000] (a7c (a1s t.2.1)))), (35, .one (.dv [] (.int .i64 ((((a1s (t.2.1))).length : Int))))), (36, .one (.dv [] (.int .i64 ((zz : Int)))))], [(3, 27, [(.dv [] (.str (d.1))), (.dv [] (.int .i64 (d.2.1))), (.dv [] (a0k (d.2.2.1))), (.dv [] (a0r (d.2.2.2)))]), (6, 30, [.nil]), (8, 30, [(.key 95031)])], [(95031, some (a0b false (.sl 40 5 (q.length) (mid ((q.take (i).toNat).flatMap eTx) [.int .i64 (t.1), a1m (t.2.1), .int .i64 (t.2.2.1), .int .i64 (1), a0k ((a2c d ((a1s t.2.1).take zz)))] ((q.drop ((i).toNat + 1)).flatMap eTx))))), (95000, some (a0b false (a7c (a1s (t.2.1)))))]⟩) (fun zz => zz ≤ (a1s t.2.1).length) (fun zz => (a1s t.2.1).length - zz) (0) ?_ (a0e ⟨rfl, rfl, rfl, rfl, rfl, rfl, rfl, rfl, trivial⟩ ⟨rfl, rfl, rfl, trivial⟩ ⟨rfl, rfl, trivial⟩ rfl) (fun zz hx => ?_)
  ·exact Nat.zero_le _
  obtain ⟨k, rfl⟩ : ∃ v, v = zz := ⟨_, rfl⟩
  replace hx : k ≤ (a1s t.2.1).length := hx
  show Ok _ _ _ _ _ (⟨[(3, .box 3 0), (6, .box 6 0), (7, .one (.dv [] (.bool (false)))), (8, .box 8 0), (9, .eptr 95031 ((i).toNat * 5)), (34, .one (.dv [95000] (a7c (a1s t.2.1)))), (35, .one (.dv [] (.int .i64 ((((a1s (t.2.1))).length : Int))))), (36, .one (.dv [] (.int .i64 ((k : Int)))))], [(3, 27, [(.dv [] (.str (d.1))), (.dv [] (.int .i64 (d.2.1))), (.dv [] (a0k (d.2.2.1))), (.dv [] (a0r (d.2.2.2)))]), (6, 30, [.nil]), (8, 30, [(.key 95031)])], [(95031, some (a0b false (.sl 40 5 (q.length) (mid ((q.take (i).toNat).flatMap eTx) [.int .i64 (t.1), a1m (t.2.1), .int .i64 (t.2.2.1), .int .i64 (1), a0k ((a2c d ((a1s t.2.1).take k)))] ((q.drop ((i).toNat + 1)).flatMap eTx))))), (95000, some (a0b false (a7c (a1s (t.2.1)))))]⟩ : St)
  iterate 3 refine z ?_
  refine a0p ?_
  refine yQ rfl (fun c2 => ?_) fun c2 => ?_
  ·have d2 := of_decide_eq_true c2
   have hn2 : k < (a1s t.2.1).length := by omega
   have hbl := b1W d ((a1s t.2.1).take k)
   rw [List.length_take] at hbl
   iterate 12 refine z ?_
   refine zC Tryz.call21 ?_ (hf := a8F (x := d) (n := ((a1s t.2.1).getD (k : Int).toNat default)))
   iterate 6 refine z ?_
   refine yQ rfl (fun c3 => ?_) fun c3 => ?_
   ·have d3 := of_decide_eq_true c3
    have hlt : (a0j (a0y ((a1s t.2.1).getD (k : Int).toNat default)) d.2.2.1 0) < d.2.2.1.length := a5x d ((a1s t.2.1).getD (k : Int).toNat default)
    have hkn : (a0j (a0y ((a1s t.2.1).getD (k : Int).toNat default)) d.2.2.1 0).toNat < d.2.2.1.length := by omega
    have hws := b8r hkn
    have hbs := b6P (d := d) hn2
    rw [if_pos (show 0 ≤ a0J d ((a1s t.2.1).getD (k : Int).toNat default) from d3)] at hbs
    refine c2W 95031 [0, 1, 2, 3, 4, 5, 6, 7, 8, 9, 10, 11, 12, 13, 14] (oB := [3, 6, 8]) (oK := [95000]) (by kernel_rfl) rfl rfl rfl ?_
    refine a3K 0 rfl (by kernel_rfl) rfl rfl (a0U (.inl rfl) (a0a rfl)) rfl rfl rfl rfl ?_
    refine a3K 1 rfl (by kernel_rfl) rfl rfl (a0U (.inl rfl) (a0a rfl)) rfl rfl rfl rfl ?_
    refine a3K 2 rfl (by kernel_rfl) rfl rfl (a2C rfl (a0a rfl)) rfl rfl rfl rfl ?_
    refine a3K 3 rfl (by kernel_rfl) rfl rfl (a8Q hT rfl rfl rfl (a0a rfl)) rfl rfl rfl rfl ?_
    refine a3K 5 rfl (by kernel_rfl) rfl rfl (a5k hT rfl rfl rfl (a0a rfl)) rfl rfl rfl rfl ?_
    refine a3K 6 rfl (by kernel_rfl) rfl rfl (a2H hT rfl rfl (a0a rfl) rfl rfl) rfl rfl rfl rfl ?_
    refine a3K 7 rfl (by kernel_rfl) rfl rfl (a0U (.inl rfl) (a0a rfl)) rfl rfl rfl rfl ?_
    refine a3K 8 rfl (by kernel_rfl) rfl rfl (a3W hT rfl rfl rfl (a0a rfl) (a0a rfl) (fun _ => rfl) (by omega) (by omega)) rfl rfl rfl rfl ?_
    refine a3K 9 rfl (by kernel_rfl) rfl rfl (a8a hT rfl rfl (a0a rfl) rfl) rfl rfl rfl rfl ?_
    refine a5X 4 [10] (by kernel_rfl) ⟨?_, ?_, trivial⟩
    ·refine b1D 4 rfl rfl rfl (a4j hT rfl rfl (a0a rfl) rfl (a3n (off := ((i).toNat * 5 + 4)) (j := 4) (a1P (sz := 5) (fun _ => rfl) (Nat.le_of_lt hit)) (by omega) rfl)) rfl rfl rfl rfl rfl ?_
     refine a5X 10 [] (by kernel_rfl) ⟨?_, trivial⟩
     ·refine b4t 96970 10 rfl rfl rfl rfl Tryz.call22 (a4J (x := (d.2.2.1.getD (a0j (a0y ((a1s t.2.1).getD (k : Int).toNat default)) d.2.2.1 0).toNat default)) (by omega)) (a0g (a0a rfl) (a0t (a0d a0c (a0d a0c (a0d a0c a0s)))) a0w) rfl rfl rfl rfl rfl rfl ?_
      refine a5X 11 [] (by kernel_rfl) ⟨?_, trivial⟩
      ·refine b1X (k := 56) (js := [97000]) 11 hT rfl rfl rfl rfl rfl rfl rfl rfl rfl rfl rfl rfl (a1W (a0a rfl) rfl rfl rfl a4p) (a0q (a0B rfl) (a0q (a2b rfl) (a0q (a0B rfl) a1t rfl) rfl) rfl) (by decide) (by decide) rfl rfl rfl rfl rfl ?_
       simp only [a0l, a0i, SV.kill, CV.kill, kk, Nat.reduceBEq]
       refine a5X 12 [] (by kernel_rfl) ⟨?_, trivial⟩
       ·refine b3R (t := 49) (j := 56) (ccs := mid ((q.take (i).toNat).flatMap eTx) [.int .i64 (t.1), a1m (t.2.1), .int .i64 (t.2.2.1), .int .i64 (1), .hole] ((q.drop ((i).toNat + 1)).flatMap eTx)) (n2 := (a2c d ((a1s t.2.1).take (k + 1))).length) (cs2 := (a2c d ((a1s t.2.1).take (k + 1))).flatMap a0T) 98000 12 hT rfl rfl rfl rfl rfl rfl rfl rfl rfl rfl (a3n (off := ((i).toNat * 5 + 4)) (j := 4) (a1P (sz := 5) (fun _ => rfl) (Nat.le_of_lt hit)) (by omega) rfl) rfl (b2r (off := ((i).toNat * 5 + 4)) (j := 4) (a1P (sz := 5) (fun _ => rfl) (Nat.le_of_lt hit)) (by omega) rfl (Nat.lt_of_lt_of_le (Nat.lt_succ_self _) (Nat.le_of_ble_eq_true rfl))) (a0a rfl) rfl rfl rfl (by dsimp only [a0b]; omega) (by dsimp only [a0b]; omega) (by rw [hbs, List.length_append]; rfl) (by rw [hbs, List.flatMap_append]; rfl) rfl rfl ?_
        simp only [a0l, a0i, SV.kill, CV.kill, kk, Nat.reduceBEq]
        refine a3K 13 rfl (by kernel_rfl) rfl rfl (a2C rfl (a0a rfl)) rfl rfl rfl rfl ?_
        refine a3K 14 rfl (by kernel_rfl) rfl rfl (a8Q hT rfl rfl rfl (a0a rfl)) rfl rfl rfl rfl ?_
        refine b2y [15] rfl rfl (by kernel_rfl) ?_
        refine a2Y (js := [98000]) (cs := mid ((q.take (i).toNat).flatMap eTx) [.int .i64 (t.1), a1m (t.2.1), .int .i64 (t.2.2.1), .int .i64 (1), .sl 60 3 ((a2c d ((a1s t.2.1).take (k + 1))).length) ((a2c d ((a1s t.2.1).take (k + 1))).flatMap a0T)] ((q.drop ((i).toNat + 1)).flatMap eTx)) hT rfl rfl rfl rfl (a0a rfl) (a0a rfl) rfl rfl rfl rfl (a0q (a2b rfl) a1t rfl) (by decide) (by decide) rfl (a5a (off := ((i).toNat * 5 + 4)) (n := 1) (j := 4) (a1P (sz := 5) (fun _ => rfl) (Nat.le_of_lt hit)) (by omega) (Nat.le_of_ble_eq_true rfl)) (a3X (off := ((i).toNat * 5 + 4)) (j := 4) (a1P (sz := 5) (fun _ => rfl) (Nat.le_of_lt hit)) (by omega) rfl (Nat.le_of_ble_eq_true rfl)) ?_
        simp only [a0l, a0i, SV.kill, CV.kill, kk, Nat.reduceBEq]
        refine a1z ?_
        iterate 2 refine z ?_
        refine a0o ?_
        iterate 3 refine z ?_
        refine ⟨k + 1, ?_, ?_, a0e ⟨rfl, rfl, rfl, rfl, rfl, rfl, rfl, rfl, trivial⟩ ⟨rfl, rfl, rfl, trivial⟩ ⟨rfl, rfl, trivial⟩ rfl⟩
        ·omega
        ·omega
    ·refine b4t 96970 10 rfl rfl rfl rfl Tryz.call22 (a4J (x := (d.2.2.1.getD (a0j (a0y ((a1s t.2.1).getD (k : Int).toNat default)) d.2.2.1 0).toNat default)) (by omega)) (a0g (a0a rfl) (a0t (a0d a0c (a0d a0c (a0d a0c a0s)))) a0w) rfl rfl rfl rfl rfl rfl ?_
     refine a5X 4 [11] (by kernel_rfl) ⟨?_, ?_, trivial⟩
     ·refine b1D 4 rfl rfl rfl (a4j hT rfl rfl (a0a rfl) rfl (a3n (off := ((i).toNat * 5 + 4)) (j := 4) (a1P (sz := 5) (fun _ => rfl) (Nat.le_of_lt hit)) (by omega) rfl)) rfl rfl rfl rfl rfl ?_
      refine a5X 11 [] (by kernel_rfl) ⟨?_, trivial⟩
      ·refine b1X (k := 56) (js := [97000]) 11 hT rfl rfl rfl rfl rfl rfl rfl rfl rfl rfl rfl rfl (a1W (a0a rfl) rfl rfl rfl a4p) (a0q (a0B rfl) (a0q (a2b rfl) (a0q (a0B rfl) a1t rfl) rfl) rfl) (by decide) (by decide) rfl rfl rfl rfl rfl ?_
       simp only [a0l, a0i, SV.kill, CV.kill, kk, Nat.reduceBEq]
       refine a5X 12 [] (by kernel_rfl) ⟨?_, trivial⟩
       ·refine b3R (t := 49) (j := 56) (ccs := mid ((q.take (i).toNat).flatMap eTx) [.int .i64 (t.1), a1m (t.2.1), .int .i64 (t.2.2.1), .int .i64 (1), .hole] ((q.drop ((i).toNat + 1)).flatMap eTx)) (n2 := (a2c d ((a1s t.2.1).take (k + 1))).length) (cs2 := (a2c d ((a1s t.2.1).take (k + 1))).flatMap a0T) 98000 12 hT rfl rfl rfl rfl rfl rfl rfl rfl rfl rfl (a3n (off := ((i).toNat * 5 + 4)) (j := 4) (a1P (sz := 5) (fun _ => rfl) (Nat.le_of_lt hit)) (by omega) rfl) rfl (b2r (off := ((i).toNat * 5 + 4)) (j := 4) (a1P (sz := 5) (fun _ => rfl) (Nat.le_of_lt hit)) (by omega) rfl (Nat.lt_of_lt_of_le (Nat.lt_succ_self _) (Nat.le_of_ble_eq_true rfl))) (a0a rfl) rfl rfl rfl (by dsimp only [a0b]; omega) (by dsimp only [a0b]; omega) (by rw [hbs, List.length_append]; rfl) (by rw [hbs, List.flatMap_append]; rfl) rfl rfl ?_
        simp only [a0l, a0i, SV.kill, CV.kill, kk, Nat.reduceBEq]
        refine a3K 13 rfl (by kernel_rfl) rfl rfl (a2C rfl (a0a rfl)) rfl rfl rfl rfl ?_
        refine a3K 14 rfl (by kernel_rfl) rfl rfl (a8Q hT rfl rfl rfl (a0a rfl)) rfl rfl rfl rfl ?_
        refine b2y [15] rfl rfl (by kernel_rfl) ?_
        refine a2Y (js := [98000]) (cs := mid ((q.take (i).toNat).flatMap eTx) [.int .i64 (t.1), a1m (t.2.1), .int .i64 (t.2.2.1), .int .i64 (1), .sl 60 3 ((a2c d ((a1s t.2.1).take (k + 1))).length) ((a2c d ((a1s t.2.1).take (k + 1))).flatMap a0T)] ((q.drop ((i).toNat + 1)).flatMap eTx)) hT rfl rfl rfl rfl (a0a rfl) (a0a rfl) rfl rfl rfl rfl (a0q (a2b rfl) a1t rfl) (by decide) (by decide) rfl (a5a (off := ((i).toNat * 5 + 4)) (n := 1) (j := 4) (a1P (sz := 5) (fun _ => rfl) (Nat.le_of_lt hit)) (by omega) (Nat.le_of_ble_eq_true rfl)) (a3X (off := ((i).toNat * 5 + 4)) (j := 4) (a1P (sz := 5) (fun _ => rfl) (Nat.le_of_lt hit)) (by omega) rfl (Nat.le_of_ble_eq_true rfl)) ?_
        simp only [a0l, a0i, SV.kill, CV.kill, kk, Nat.reduceBEq]
        refine a1z ?_
        iterate 2 refine z ?_
        refine a0o ?_
        iterate 3 refine z ?_
        refine ⟨k + 1, ?_, ?_, a0e ⟨rfl, rfl, rfl, rfl, rfl, rfl, rfl, rfl, trivial⟩ ⟨rfl, rfl, rfl, trivial⟩ ⟨rfl, rfl, trivial⟩ rfl⟩
        ·omega
        ·omega
     ·refine b1X (k := 56) (js := [97000]) 11 hT rfl rfl rfl rfl rfl rfl rfl rfl rfl rfl rfl rfl (a1W (a0a rfl) rfl rfl rfl a4p) (a0q (a0B rfl) (a0q (a2b rfl) (a0q (a0B rfl) a1t rfl) rfl) rfl) (by decide) (by decide) rfl rfl rfl rfl rfl ?_
      simp only [a0l, a0i, SV.kill, CV.kill, kk, Nat.reduceBEq]
      refine a5X 4 [] (by kernel_rfl) ⟨?_, trivial⟩
      ·refine b1D 4 rfl rfl rfl (a4j hT rfl rfl (a0a rfl) rfl (a3n (off := ((i).toNat * 5 + 4)) (j := 4) (a1P (sz := 5) (fun _ => rfl) (Nat.le_of_lt hit)) (by omega) rfl)) rfl rfl rfl rfl rfl ?_
       refine a5X 12 [] (by kernel_rfl) ⟨?_, trivial⟩
       ·refine b3R (t := 49) (j := 56) (ccs := mid ((q.take (i).toNat).flatMap eTx) [.int .i64 (t.1), a1m (t.2.1), .int .i64 (t.2.2.1), .int .i64 (1), .hole] ((q.drop ((i).toNat + 1)).flatMap eTx)) (n2 := (a2c d ((a1s t.2.1).take (k + 1))).length) (cs2 := (a2c d ((a1s t.2.1).take (k + 1))).flatMap a0T) 98000 12 hT rfl rfl rfl rfl rfl rfl rfl rfl rfl rfl (a3n (off := ((i).toNat * 5 + 4)) (j := 4) (a1P (sz := 5) (fun _ => rfl) (Nat.le_of_lt hit)) (by omega) rfl) rfl (b2r (off := ((i).toNat * 5 + 4)) (j := 4) (a1P (sz := 5) (fun _ => rfl) (Nat.le_of_lt hit)) (by omega) rfl (Nat.lt_of_lt_of_le (Nat.lt_succ_self _) (Nat.le_of_ble_eq_true rfl))) (a0a rfl) rfl rfl rfl (by dsimp only [a0b]; omega) (by dsimp only [a0b]; omega) (by rw [hbs, List.length_append]; rfl) (by rw [hbs, List.flatMap_append]; rfl) rfl rfl ?_
        simp only [a0l, a0i, SV.kill, CV.kill, kk, Nat.reduceBEq]
        refine a3K 13 rfl (by kernel_rfl) rfl rfl (a2C rfl (a0a rfl)) rfl rfl rfl rfl ?_
        refine a3K 14 rfl (by kernel_rfl) rfl rfl (a8Q hT rfl rfl rfl (a0a rfl)) rfl rfl rfl rfl ?_
        refine b2y [15] rfl rfl (by kernel_rfl) ?_
        refine a2Y (js := [98000]) (cs := mid ((q.take (i).toNat).flatMap eTx) [.int .i64 (t.1), a1m (t.2.1), .int .i64 (t.2.2.1), .int .i64 (1), .sl 60 3 ((a2c d ((a1s t.2.1).take (k + 1))).length) ((a2c d ((a1s t.2.1).take (k + 1))).flatMap a0T)] ((q.drop ((i).toNat + 1)).flatMap eTx)) hT rfl rfl rfl rfl (a0a rfl) (a0a rfl) rfl rfl rfl rfl (a0q (a2b rfl) a1t rfl) (by decide) (by decide) rfl (a5a (off := ((i).toNat * 5 + 4)) (n := 1) (j := 4) (a1P (sz := 5) (fun _ => rfl) (Nat.le_of_lt hit)) (by omega) (Nat.le_of_ble_eq_true rfl)) (a3X (off := ((i).toNat * 5 + 4)) (j := 4) (a1P (sz := 5) (fun _ => rfl) (Nat.le_of_lt hit)) (by omega) rfl (Nat.le_of_ble_eq_true rfl)) ?_
        simp only [a0l, a0i, SV.kill, CV.kill, kk, Nat.reduceBEq]
        refine a1z ?_
        iterate 2 refine z ?_
        refine a0o ?_
        iterate 3 refine z ?_
        refine ⟨k + 1, ?_, ?_, a0e ⟨rfl, rfl, rfl, rfl, rfl, rfl, rfl, rfl, trivial⟩ ⟨rfl, rfl, rfl, trivial⟩ ⟨rfl, rfl, trivial⟩ rfl⟩
        ·omega
        ·omega
   ·have d3 := of_decide_eq_false c3
    have hbs := b6P (d := d) hn2
    rw [if_neg (show ¬ 0 ≤ a0J d ((a1s t.2.1).getD (k : Int).toNat default) from d3), List.append_nil] at hbs
    iterate 3 refine z ?_
    refine a0o ?_
    iterate 3 refine z ?_
    refine ⟨k + 1, ?_, ?_, a0e ⟨rfl, rfl, rfl, rfl, rfl, rfl, rfl, rfl, trivial⟩ ⟨rfl, rfl, rfl, trivial⟩ ⟨(congrArg (fun z => some (some (KC.mk false 40 5 q.length (mid ((q.take (i).toNat).flatMap eTx) [.int .i64 (t.1), a1m (t.2.1), .int .i64 (t.2.2.1), .int .i64 (1), a0k (z)] ((q.drop ((i).toNat + 1)).flatMap eTx))))) hbs.symm), rfl, trivial⟩ rfl⟩
    ·omega
    ·omega
  ·have d2 := of_decide_eq_false c2
   iterate 10 refine z ?_
   have hall : (a1s t.2.1).take k = (a1s t.2.1) := List.take_of_length_le (by omega)
   rw [b8s ht hcan]
   refine a0h (σ' := ⟨[(6, .box 6 0), (7, .one (.dv [] (.bool (true))))], [(6, 30, [(.key 95031)])], [(95031, some (a0b false (a1q (q.set (i).toNat (t.1, t.2.1, t.2.2.1, (1 : Int), a2c d (a1s t.2.1))))))]⟩) (a0e ⟨rfl, rfl, trivial⟩ ⟨rfl, trivial⟩ ⟨(by rw [hall]; exact (a9j hit (t.1, t.2.1, t.2.2.1, (1 : Int), a2c d (a1s t.2.1)))), trivial⟩ rfl) ?_
   refine z ?_
   refine a1N (a0C hT rfl rfl rfl rfl) (a0v rfl) rfl rfl ?_
   first | exact ⟨rfl, rfl⟩ | skip
end Go.Proofs.YtjkpoekgnmgofaaGreat

namespace Go.Proofs.YtjkpoekgnmgofaaGreat
open Go.RowKit
open Go.Proofs
set_option linter.unusedVariables false
set_option linter.unusedSimpArgs false

@[reducible] def stA (d : DbT) (k : Nat) : a0u := d.2.2.1.getD k default
structure SK (d x : DbT) : Prop where
 n : x.1 = d.1
 v : x.2.1 = d.2.1
 s : x.2.2.1.map Prod.fst = d.2.2.1.map Prod.fst
 u : x.2.2.2 = d.2.2.2
theorem SK.refl (d : DbT) : SK d d := ⟨rfl, rfl, rfl, rfl⟩
theorem SK.symm {d x : DbT} (h : SK d x) : SK x d := ⟨h.n.symm, h.v.symm, h.s.symm, h.u.symm⟩
theorem SK.trans {d x y : DbT} (h : SK d x) (h2 : SK x y) : SK d y := ⟨h2.n.trans h.n, h2.v.trans h.v, h2.s.trans h.s, h2.u.trans h.u⟩
theorem SK.len {d x : DbT} (h : SK d x) : x.2.2.1.length = d.2.2.1.length := by have := congrArg List.length h.s; simpa using this
theorem c1P {d : DbT} {k : Nat} (h : k < d.2.2.1.length) : stA d k ∈ d.2.2.1 := by
 unfold stA
 rw [List.getD_eq_getElem?_getD, List.getElem?_eq_getElem h]; exact List.getElem_mem h
theorem SK.name {d x : DbT} (h : SK d x) {k : Nat} (hk : k < d.2.2.1.length) : (stA x k).1 = (stA d k).1 := by
 have hl := h.len
 have h2 := congrArg (fun l => l[k]?) h.s
 simp only [List.getElem?_map] at h2
 rw [List.getElem?_eq_getElem hk, List.getElem?_eq_getElem (by omega)] at h2
 unfold stA
 rw [List.getD_eq_getElem?_getD, List.getD_eq_getElem?_getD, List.getElem?_eq_getElem hk, List.getElem?_eq_getElem (by omega)]
 simpa using h2
theorem b3Y {n : Str} : ∀ (l : List a0u) (i : Int), a0j (a0y n) l i = a0j (fun q : Str => sEq q n) (l.map Prod.fst) i
 | [], _ => rfl
 | x :: l, i => by rw [List.map_cons, a0j, a0j, b3Y l (i + 1)]; rfl
theorem SK.fnd {d x : DbT} (h : SK d x) (n : Str) : a0J x n = a0J d n := by
 unfold a0J
 rw [b3Y, b3Y, h.s]
theorem a5v {d : DbT} {n : Str} {k : Nat} (h : a0J d n = (k : Int)) : k < d.2.2.1.length ∧ (stA d k).1 = n := by
 unfold a0J at h
 rcases a6y (p := a0y n) (d := default) d.2.2.1 0 (by omega) with ⟨h1, _⟩ | ⟨m, h1, h2, _, h4⟩
 ·omega
 ·have e : m = k := by omega
  subst e
  exact ⟨h1, a3T.1 h4⟩
theorem a8o {d : DbT} {k i : Nat} {s : a0u} (hk : k < d.2.2.1.length) : stA (a1Y d k s) i = if i = k then s else stA d i := by
 unfold stA a1Y
 dsimp only
 rw [List.getD_eq_getElem?_getD, List.getElem?_set]
 by_cases h : k = i
 ·subst h; simp [hk]
 ·rw [if_neg h, if_neg (fun e => h e.symm), List.getD_eq_getElem?_getD]
theorem b0X {d : DbT} {k : Nat} {s : a0u} (hk : k < d.2.2.1.length) (hs : s.1 = (stA d k).1) : SK d (a1Y d k s) := by
 refine ⟨rfl, rfl, ?_, rfl⟩
 apply List.ext_getElem?
 intro j
 unfold a1Y
 dsimp only
 rw [List.getElem?_map, List.getElem?_set, List.getElem?_map]
 by_cases h : k = j
 ·subst h
  rw [if_pos rfl, if_pos hk, List.getElem?_eq_getElem hk]
  simp only [Option.map_some, Option.some.injEq]
  rw [hs, stA, List.getD_eq_getElem?_getD, List.getElem?_eq_getElem hk]; rfl
 ·rw [if_neg h]
theorem c2U {d x y : DbT} (hx : SK d x) (hy : SK d y) (h : ∀ k, k < d.2.2.1.length → stA x k = stA y k) : x = y := by
 have e : x.2.2.1 = y.2.2.1 := by
  apply List.ext_getElem
  ·rw [hx.len, hy.len]
  ·intro i h1 h2
   have := h i (by rw [← hx.len]; exact h1)
   unfold stA at this
   rw [List.getD_eq_getElem?_getD, List.getD_eq_getElem?_getD, List.getElem?_eq_getElem h1, List.getElem?_eq_getElem h2] at this
   simpa using this
 exact Prod.ext (hx.n.trans hy.n.symm) (Prod.ext (hx.v.trans hy.v.symm) (Prod.ext e (hx.u.trans hy.u.symm)))
/-! ### sound databases, store by store -/
theorem b4H {d : DbT} (h : a0F d = true) : a5u d = true ∧ a4X d = true ∧ a5N d = true := by
 rw [a0F, Bool.and_eq_true, Bool.and_eq_true] at h; exact ⟨h.1, h.2.1, h.2.2⟩
theorem b7u {d x e y : DbT} (hx : a0F x = true) (he : a0F e = true) (sx : SK d x) (se : SK d e) (sy : SK d y) (h : ∀ k, k < d.2.2.1.length → stA y k = stA x k ∨ stA y k = stA e k) : a0F y = true := by
 obtain ⟨x1, x2, x3⟩ := b4H hx
 obtain ⟨e1, e2, e3⟩ := b4H he
 have sxy : SK x y := sx.symm.trans sy
 rw [a0F, Bool.and_eq_true, Bool.and_eq_true]
 refine ⟨?_, ?_, ?_⟩
 ·unfold a5u at x1 ⊢
  rw [sxy.n, sxy.v, sxy.len, sxy.u]; exact x1
 ·unfold a4X at x2 e2 ⊢
  rw [List.all_eq_true] at x2 e2 ⊢
  intro i hi
  have hi' := List.mem_range.1 hi
  have hid : i < d.2.2.1.length := by rw [← sy.len]; exact hi'
  have a1 := x2 i (List.mem_range.2 (by rw [sx.len]; exact hid))
  have a2 := e2 i (List.mem_range.2 (by rw [se.len]; exact hid))
  rw [← b0D] at a1 a2 ⊢
  unfold a8G at a1 a2 ⊢
  rw [Int.toNat_natCast] at a1 a2 ⊢
  simp only [Bool.not_eq_true', Bool.or_eq_false_iff, Bool.not_eq_false'] at a1 a2 ⊢
  refine ⟨?_, ?_⟩
  ·rcases h i hid with q | q
   ·show a1g (stA y i) = true
    rw [q]; exact a1.1
   ·show a1g (stA y i) = true
    rw [q]; exact a2.1
  ·have n1 := sxy.name (k := i) (by rw [sx.len]; exact hid)
   cases i with
   | zero => simp
   | succ j =>
    have n2 := sxy.name (k := j) (by rw [sx.len]; omega)
    have ej : (((j + 1 : Nat) : Int) - 1).toNat = j := by omega
    rw [ej] at a1 ⊢
    show (_ && !sLt (stA y j).1 (stA y (j + 1)).1) = false
    rw [n1, n2]; exact a1.2
 ·unfold a5N at x3 e3 ⊢
  rw [List.all_eq_true] at x3 e3 ⊢
  intro i hi
  have hi' := List.mem_range.1 hi
  have a1 := x3 i (List.mem_range.2 (by rw [← sxy.u]; exact hi'))
  have a2 := e3 i (List.mem_range.2 (by rw [se.u, ← sy.u]; exact hi'))
  unfold a2N at a1 a2 ⊢
  rw [sxy.u, sxy.fnd]
  have eu : e.2.2.2 = x.2.2.2 := se.u.trans sx.u.symm
  have ef : ∀ n, a0J e n = a0J x n := fun n => (se.fnd n).trans (sx.fnd n).symm
  rw [eu, ef] at a2
  generalize hu : x.2.2.2.getD (i : Int).toNat default = u at a1 a2 ⊢
  simp only [Bool.not_eq_true', Bool.or_eq_false_iff] at a1 a2 ⊢
  refine ⟨⟨⟨a1.1.1.1, a1.1.1.2⟩, a1.1.2⟩, ?_⟩
  have hf : ¬ a0J x u.1 < 0 := by simpa using a1.1.1.1
  obtain ⟨k, hk⟩ : ∃ k : Nat, a0J x u.1 = (k : Int) := ⟨(a0J x u.1).toNat, by omega⟩
  have hkl := (a5v hk).1
  have b1 := a1.2
  have b2 := a2.2
  unfold a7M at b1 b2 ⊢
  rw [sxy.fnd]
  rw [ef] at b2
  rw [hk, Int.toNat_natCast] at b1 b2 ⊢
  have q := h k (by rw [← sx.len]; exact hkl)
  rcases q with q | q
  ·have : y.2.2.1.getD k default = x.2.2.1.getD k default := q
   rw [this]; exact b1
  ·have : y.2.2.1.getD k default = e.2.2.1.getD k default := q
   rw [this]; exact b2
/-! ### one operation -/
theorem b7E (s : a0u) (r : a3v) : (a1M s r).1.1 = s.1 := by unfold a1M; split <;> rfl
theorem c2G (s : a0u) (k : a0Y) (r : a0A) : (a2u s k r).1.1 = s.1 := by
 unfold a2u; split
 ·rfl
 ·exact a9k s k r
theorem b0H (s : a0u) (o : OpT) : (opM s o).1.1 = s.1 := by
 unfold opM
 split
 ·exact a9k _ _ _
 ·split
  ·exact c2G _ _ _
  ·split
   ·exact b7E _ _
   ·split
    ·rfl
    ·split
     ·exact b7E _ _
     ·unfold a3e; exact a9k _ _ _
theorem b4z (x : DbT) (o : OpT) : ((a0E x o).2.2 = false ∧ (a0E x o).1 = x) ∨ (a0F x = true ∧ a1X o = true ∧ ∃ k : Nat, a0J x o.2.1 = (k : Int) ∧ (opM (stA x k) o).2.2 = true ∧ a0F (a1Y x k (opM (stA x k) o).1) = true ∧ a0E x o = (a1Y x k (opM (stA x k) o).1, (opM (stA x k) o).2.1, true)) := by
 unfold a0E
 split
 ·exact .inl ⟨rfl, rfl⟩
 ·rename_i h1
  obtain ⟨h2, h3, h4⟩ := a8B (by simpa using h1)
  split
  ·exact .inl ⟨rfl, rfl⟩
  ·rename_i h5
   obtain ⟨k, hk⟩ : ∃ k : Nat, a0J x o.2.1 = (k : Int) := ⟨(a0J x o.2.1).toNat, by omega⟩
   have e : a2o x o = stA x k := by unfold a2o stA; rw [hk, Int.toNat_natCast]
   rw [e, hk, Int.toNat_natCast] at h5
   simp only [Bool.or_eq_true, Bool.not_eq_true', not_or, Bool.not_eq_false] at h5
   refine .inr ⟨h2, h3, k, hk, h5.1, h5.2, ?_⟩
   rw [e, hk, Int.toNat_natCast]
theorem b9q {d x y : DbT} {o : OpT} (hx : a0F x = true) (hy : a0F y = true) (sx : SK d x) (sy : SK d y) (hk : ∀ k : Nat, a0J d o.2.1 = (k : Int) → stA x k = stA y k) :
  ((a0E x o).2.2 = false ∧ (a0E y o).2.2 = false ∧ (a0E x o).1 = x ∧ (a0E y o).1 = y) ∨ ((a0E x o).2.2 = true ∧ (a0E y o).2.2 = true ∧ ∃ (k : Nat) (s : a0u), a0J d o.2.1 = (k : Int) ∧ s.1 = (stA d k).1 ∧ (a0E x o).1 = a1Y x k s ∧ (a0E y o).1 = a1Y y k s) := by
 have half : ∀ {x y : DbT}, a0F x = true → a0F y = true → SK d x → SK d y → (∀ k : Nat, a0J d o.2.1 = (k : Int) → stA x k = stA y k) → (a0E x o).2.2 = true → (a0E y o).2.2 = true ∧ ∃ (k : Nat) (s : a0u), a0J d o.2.1 = (k : Int) ∧ s.1 = (stA d k).1 ∧ (a0E x o).1 = a1Y x k s ∧ (a0E y o).1 = a1Y y k s := by
  intro x y hx hy sx sy hk h
  rcases b4z x o with ⟨h1, _⟩ | ⟨_, h2, k, h3, h4, h5, h6⟩
  ·rw [h1] at h; cases h
  ·have hkd : a0J d o.2.1 = (k : Int) := by rw [← sx.fnd]; exact h3
   have hky : a0J y o.2.1 = (k : Int) := by rw [sy.fnd]; exact hkd
   have hst := hk k hkd
   have hlt := (a5v hkd).1
   have hly : k < y.2.2.1.length := by rw [sy.len]; exact hlt
   have hlx : k < x.2.2.1.length := by rw [sx.len]; exact hlt
   have hdb : a0F (a1Y y k (opM (stA x k) o).1) = true := by
    refine b7u (d := d) hy h5 sy (sx.trans (b0X hlx (b0H _ _))) (sy.trans (b0X hly (by rw [b0H, hst]))) (fun i hi => ?_)
    rw [a8o hly, a8o hlx]
    by_cases e : i = k
    ·right; rw [if_pos e, if_pos e]
    ·left; rw [if_neg e]
   have e2 : a2o y o = stA x k := by unfold a2o; rw [hky, Int.toNat_natCast]; exact hst.symm
   have hrun : a0E y o = (a1Y y k (opM (stA x k) o).1, (opM (stA x k) o).2.1, true) := by
    unfold a0E
    rw [if_neg (by rw [hy, h2, hky]; simp), e2, hky, Int.toNat_natCast, if_neg (by rw [h4, hdb]; simp)]
   refine ⟨by rw [hrun], k, (opM (stA x k) o).1, hkd, ?_, by rw [h6], by rw [hrun]⟩
   rw [b0H]; exact sx.name hlt
 cases h1 : (a0E x o).2.2 with
 | true => exact .inr ⟨rfl, half hx hy sx sy hk h1⟩
 | false =>
  left
  have h2 : (a0E y o).2.2 = false := by
   cases h3 : (a0E y o).2.2 with
   | false => rfl
   | true =>
    have := (half hy hx sy sx (fun k hk' => (hk k hk').symm) h3).1
    rw [h1] at this; cases this
  exact ⟨rfl, h2, b2V h1, b2V h2⟩
/-! ### lists of operations -/
def wrK (d : DbT) (l : List OpT) (k : Nat) : Prop := ∃ o ∈ l, a4m o = true ∧ a0J d o.2.1 = (k : Int)
def usK (d : DbT) (l : List OpT) (k : Nat) : Prop := ∃ o ∈ l, a0J d o.2.1 = (k : Int)
theorem a9c {d : DbT} {l : List OpT} {k : Nat} (h : wrK d l k) : usK d l k := by obtain ⟨o, h1, _, h3⟩ := h; exact ⟨o, h1, h3⟩
theorem a8z {d : DbT} {a b : List OpT} {k : Nat} (h : a6u a b = false) : ¬ (wrK d a k ∧ usK d b k) ∧ ¬ (usK d a k ∧ wrK d b k) := by
 have key : ∀ o1 ∈ a, ∀ o2 ∈ b, a0J d o1.2.1 = (k : Int) → a0J d o2.2.1 = (k : Int) → a4m o1 = false ∧ a4m o2 = false := by
  intro o1 h1 o2 h2 e1 e2
  unfold a6u at h
  rw [List.any_eq_false] at h
  have h3 := h o1 h1
  rw [Bool.not_eq_true, List.any_eq_false] at h3
  have h4 := h3 o2 h2
  rw [Bool.not_eq_true] at h4
  unfold a7b at h4
  have n1 := (a5v e1).2
  have n2 := (a5v e2).2
  rw [a3T.2 (n1.symm.trans n2), Bool.true_and, Bool.or_eq_false_iff] at h4
  exact h4
 refine ⟨fun ⟨⟨o1, h1, w1, e1⟩, ⟨o2, h2, e2⟩⟩ => ?_, fun ⟨⟨o1, h1, e1⟩, ⟨o2, h2, w2, e2⟩⟩ => ?_⟩
 ·rw [(key o1 h1 o2 h2 e1 e2).1] at w1; cases w1
 ·rw [(key o1 h1 o2 h2 e1 e2).2] at w2; cases w2
theorem b4W {d c : DbT} {o : OpT} (hc : a0F c = true) (sc : SK d c) : a0F (a0E c o).1 = true ∧ SK d (a0E c o).1 ∧ ∀ k : Nat, (a4m o = false ∨ a0J d o.2.1 ≠ (k : Int)) → stA (a0E c o).1 k = stA c k := by
 rcases b4z c o with ⟨h1, h2⟩ | ⟨_, h2, k, h3, h4, h5, h6⟩
 ·rw [h2]; exact ⟨hc, sc, fun _ _ => rfl⟩
 ·have hok : (a0E c o).2.2 = true := by rw [h6]
  have hkl := (a5v h3).1
  refine ⟨by rw [h6]; exact h5, by rw [h6]; exact sc.trans (b0X hkl (b0H _ _)), fun i hi => ?_⟩
  rcases hi with hi | hi
  ·rw [c0f hok hi]
  ·rw [h6]
   dsimp only
   rw [a8o hkl, if_neg (fun e => hi (by rw [← sc.fnd, h3, e]))]
theorem b3i {d : DbT} : ∀ (l : List OpT) (c c' : DbT) (ns : List Int), a1y c l = some (c', ns) → a0F c = true → SK d c → a0F c' = true ∧ SK d c' ∧ ∀ k : Nat, ¬ wrK d l k → stA c' k = stA c k
 | [], c, c', ns, h, hc, sc => by
  simp only [a1y, Option.some.injEq, Prod.mk.injEq] at h
  rw [← h.1]; exact ⟨hc, sc, fun _ _ => rfl⟩
 | o :: os, c, c', ns, h, hc, sc => by
  rw [a1y] at h
  split at h
  ·rename_i h1
   cases hg : a1y (a0E c o).1 os with
   | none => rw [hg] at h; cases h
   | some r =>
    rw [hg] at h
    simp only [Option.map_some, Option.some.injEq, Prod.mk.injEq] at h
    obtain ⟨f1, f2, f3⟩ := b4W (o := o) hc sc
    obtain ⟨g1, g2, g3⟩ := b3i os _ r.1 r.2 hg f1 f2
    rw [← h.1]
    refine ⟨g1, g2, fun k hk => ?_⟩
    rw [g3 k (fun ⟨q, hq, hw, he⟩ => hk ⟨q, List.mem_cons_of_mem _ hq, hw, he⟩), f3 k]
    by_cases hw : a4m o = true
    ·exact .inr (fun e => hk ⟨o, List.mem_cons_self, hw, e⟩)
    ·exact .inl (by simpa using hw)
  ·cases h
theorem b4G : ∀ (l : List OpT) (c : DbT) (o : OpT), a1y c (l ++ [o]) = match a1y c l with
  | none => none
  | some (m, ns) => if (a0E m o).2.2 = true then some ((a0E m o).1, ns ++ [(a0E m o).2.1]) else none
 | [], c, o => by
  rw [List.nil_append, a1y, a1y, a1y]
  dsimp only
  split <;> rfl
 | p :: l, c, o => by
  rw [List.cons_append, a1y, a1y]
  split
  ·rw [b4G l]
   cases a1y (a0E c p).1 l with
   | none => rfl
   | some r =>
    dsimp only [Option.map_some]
    split <;> rfl
  ·rfl
theorem b5X : ∀ (l l2 : List OpT) (c : DbT), a1y c l = none → a1y c (l ++ l2) = none
 | [], _, c, h => by rw [a1y] at h; cases h
 | p :: l, l2, c, h => by
  rw [a1y] at h
  rw [List.cons_append, a1y]
  split
  ·rename_i h1
   rw [if_pos h1] at h
   have h2 : a1y (a0E c p).1 l = none := by
    cases hg : a1y (a0E c p).1 l with
    | none => rfl
    | some r => rw [hg] at h; cases h
   rw [b5X l l2 _ h2]; rfl
  ·rfl

end Go.Proofs.YtjkpoekgnmgofaaGreat

