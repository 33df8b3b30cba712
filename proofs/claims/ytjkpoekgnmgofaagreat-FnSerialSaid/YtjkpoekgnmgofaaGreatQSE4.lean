/-
  Contracts of the program's functions for the statements Serial, by the rules of the logic. Conditions: none but those in the theorems.
-/
import Derived.Below
import Derived.Deep.Slices
import Derived.OpenShut
import Derived.ProofKit
import Derived.Test.YtjkpoekgnmgofaaGreatQSE3
set_option maxHeartbeats 4000000
set_option maxRecDepth 100000
namespace Go.Proofs.YtjkpoekgnmgofaaGreat
open Go.RowKit
open Go.Proofs
set_option linter.unusedVariables false
set_option linter.unusedSimpArgs false

theorem a8A {d : DbT} (h : a0F d = true) {i j : Nat} (hij : i < j) (hj : j < d.2.2.1.length) : sLt (stA d i).1 (stA d j).1 = true := by
 have key : ∀ (l : List a0u), a8k l → ∀ i j, i < j → j < l.length → sLt (l.getD i default).1 (l.getD j default).1 = true := by
  intro l
  induction l with
  | nil => intro _ i j _ h; simp at h
  | cons y ys ih =>
   intro hs i j hij hj
   cases j with
   | zero => omega
   | succ j =>
    have hj' : j < ys.length := by simpa using hj
    cases i with
    | zero =>
     show sLt y.1 (ys.getD j default).1 = true
     exact hs.1 _ (by rw [List.getD_eq_getElem?_getD, List.getElem?_eq_getElem hj']; exact List.getElem_mem hj')
    | succ i => exact ih hs.2 i j (by omega) hj'
 exact key _ (b2g h) i j hij hj
structure BK (d E : DbT) (l : List OpT) (b : List a0u) : Prop where
 all : ∀ s ∈ b, ∃ k : Nat, k < d.2.2.1.length ∧ usK d l k ∧ s = stA E k
 has : ∀ k : Nat, usK d l k → stA E k ∈ b
theorem c4I {d x E : DbT} {l : List OpT} (sx : SK d x) (h : ∀ k : Nat, usK d l k → stA x k = stA E k) : BK d E l (a2c x (a1s l)) := by
 refine ⟨fun s hs => ?_, fun k hk => ?_⟩
 ·unfold a2c at hs
  obtain ⟨n, hn, hs⟩ := List.mem_flatMap.1 hs
  split at hs
  ·rename_i h0
   rw [List.mem_singleton] at hs
   obtain ⟨k, hk⟩ : ∃ k : Nat, a0J x n = (k : Int) := ⟨(a0J x n).toNat, by omega⟩
   rw [hk, Int.toNat_natCast] at hs
   obtain ⟨o, ho, e⟩ := (b1h l).1 hn
   have hkd : a0J d o.2.1 = (k : Int) := by rw [e, ← sx.fnd]; exact hk
   exact ⟨k, (a5v hkd).1, ⟨o, ho, hkd⟩, by rw [hs]; exact h k ⟨o, ho, hkd⟩⟩
  ·cases hs
 ·have hk0 := hk
  obtain ⟨o, ho, hkd⟩ := hk
  unfold a2c
  refine List.mem_flatMap.2 ⟨o.2.1, (b1h l).2 ⟨o, ho, rfl⟩, ?_⟩
  have hx : a0J x o.2.1 = (k : Int) := by rw [sx.fnd]; exact hkd
  rw [hx, if_pos (by omega), Int.toNat_natCast, List.mem_singleton]
  exact (h k hk0).symm
theorem b4y {d E : DbT} (sE : SK d E) (hE : a0F E = true) : ∀ (b : List a0u) (x : DbT), SK d x → (∀ s ∈ b, ∃ k : Nat, k < d.2.2.1.length ∧ s = stA E k) → SK d (a3P x b) ∧ ∀ k : Nat, k < d.2.2.1.length → ((stA E k ∈ b ∧ stA (a3P x b) k = stA E k) ∨ (stA E k ∉ b ∧ stA (a3P x b) k = stA x k))
 | [], x, sx, _ => ⟨sx, fun k _ => .inr ⟨by simp, rfl⟩⟩
 | s :: l, x, sx, h => by
  obtain ⟨k, hk, e⟩ := h s (by simp)
  have hkE : k < E.2.2.1.length := by rw [sE.len]; exact hk
  have hf : a0J x s.1 = (k : Int) := by
   rw [e, sx.fnd, ← sE.fnd]
   obtain ⟨q1, q2, q3⟩ := c5E hE (c1P hkE)
   obtain ⟨m, hm⟩ : ∃ m : Nat, a0J E (stA E k).1 = (m : Int) := ⟨(a0J E (stA E k).1).toNat, by omega⟩
   rw [hm]
   rw [hm, Int.toNat_natCast] at q3
   have hml : m < E.2.2.1.length := by omega
   rcases Nat.lt_trichotomy m k with h1 | h1 | h1
   ·exfalso
    have := a8A hE h1 hkE
    rw [show stA E m = stA E k from q3] at this
    have h2 := (a6S this).1
    rw [a3T.2 rfl] at h2; cases h2
   ·rw [h1]
   ·exfalso
    have := a8A hE h1 hml
    rw [show stA E m = stA E k from q3] at this
    have h2 := (a6S this).1
    rw [a3T.2 rfl] at h2; cases h2
  have hkx : k < x.2.2.1.length := by rw [sx.len]; exact hk
  rw [a3P, hf, if_pos (by omega), Int.toNat_natCast]
  have sp : SK d (a1Y x k s) := sx.trans (b0X hkx (by rw [e, sE.name hk, sx.name hk]))
  obtain ⟨r1, r2⟩ := b4y sE hE l (a1Y x k s) sp (fun s' hs' => h s' (by simp [hs']))
  refine ⟨r1, fun i hi => ?_⟩
  rcases r2 i hi with ⟨q0, q⟩ | ⟨q1, q2⟩
  ·exact .inl ⟨List.mem_cons_of_mem _ q0, q⟩
  ·rw [a8o hkx] at q2
   by_cases ei : i = k
   ·rw [if_pos ei] at q2; left; exact ⟨by rw [ei, ← e]; exact List.mem_cons_self, by rw [q2, e, ei]⟩
   ·rw [if_neg ei] at q2
    by_cases em : stA E i = s
    ·exfalso
     rw [e] at em
     have hiE : i < E.2.2.1.length := by rw [sE.len]; exact hi
     rcases Nat.lt_or_gt_of_ne ei with h1 | h1
     ·have := (a6S (a8A hE h1 hkE)).1
      rw [em, a3T.2 rfl] at this; cases this
     ·have := (a6S (a8A hE h1 hiE)).1
      rw [em, a3T.2 rfl] at this; cases this
    ·exact .inr ⟨by simp only [List.mem_cons, not_or]; exact ⟨em, q1⟩, q2⟩


/-! ### one behind the other -/
def a1j (q0 : List TxT) (j : Nat) : List OpT := (q0.getD j default).2.1
def a1V (d : DbT) (q0 : List TxT) : Nat → DbT
 | 0 => d
 | j + 1 => (a1C (a1V d q0 j) (a1j q0 j)).1
theorem b7A (d : DbT) (q0 : List TxT) : a3c d q0 = a1V d q0 q0.length := by
 have key : ∀ m, m ≤ q0.length → a3c (a1V d q0 (q0.length - m)) (q0.drop (q0.length - m)) = a1V d q0 q0.length := by
  intro m
  induction m with
  | zero => intro _; rw [Nat.sub_zero, List.drop_length]; rfl
  | succ m ih =>
   intro hm
   have h1 : q0.length - (m + 1) < q0.length := by omega
   rw [List.drop_eq_getElem_cons h1, a3c]
   have h2 := ih (by omega)
   rw [show q0.length - m = q0.length - (m + 1) + 1 by omega] at h2
   rw [← h2, a1V]
   have e : a1j q0 (q0.length - (m + 1)) = (q0[q0.length - (m + 1)]).2.1 := by
    unfold a1j; rw [List.getD_eq_getElem?_getD, List.getElem?_eq_getElem h1]; rfl
   rw [e]
 have := key q0.length (Nat.le_refl _)
 rw [Nat.sub_self] at this
 simpa [a1V] using this
theorem b6N {d c : DbT} {l : List OpT} (hc : a0F c = true) (sc : SK d c) : a0F (a1C c l).1 = true ∧ SK d (a1C c l).1 ∧ ∀ k : Nat, ¬ wrK d l k → stA (a1C c l).1 k = stA c k := by
 cases h : (a1C c l).2.2 with
 | false => rw [(c0E h).1]; exact ⟨hc, sc, fun _ _ => rfl⟩
 | true =>
  obtain ⟨_, _, c', ns, h2, h3⟩ := c5Z h
  rw [h3]; exact b3i l c c' ns h2 hc sc
theorem a8K {d : DbT} {q0 : List TxT} (hd : a0F d = true) : ∀ j, a0F (a1V d q0 j) = true ∧ SK d (a1V d q0 j)
 | 0 => ⟨hd, SK.refl d⟩
 | j + 1 => by
  obtain ⟨h1, h2⟩ := a8K (q0 := q0) hd j
  obtain ⟨h3, h4, _⟩ := b6N (l := a1j q0 j) h1 h2
  exact ⟨h3, h4⟩
theorem b8q {d : DbT} {q0 : List TxT} (hd : a0F d = true) {k i : Nat} : ∀ m, (∀ j, i ≤ j → j < i + m → ¬ wrK d (a1j q0 j) k) → stA (a1V d q0 (i + m)) k = stA (a1V d q0 i) k
 | 0, _ => rfl
 | m + 1, h => by
  have ih := b8q hd (k := k) (i := i) (q0 := q0) m (fun j h1 h2 => h j h1 (by omega))
  obtain ⟨h1, h2⟩ := a8K (q0 := q0) hd (i + m)
  have h3 := (b6N (l := a1j q0 (i + m)) h1 h2).2.2 k (h (i + m) (by omega) (by omega))
  rw [← Nat.add_assoc, a1V, h3, ih]
theorem a7Y {d : DbT} {q0 : List TxT} (hd : a0F d = true) {k i j : Nat} (hij : i ≤ j) (h : ∀ m, i ≤ m → m < j → ¬ wrK d (a1j q0 m) k) : stA (a1V d q0 j) k = stA (a1V d q0 i) k := by
 have := b8q (q0 := q0) hd (k := k) (i := i) (j - i) (fun m h1 h2 => h m h1 (by omega))
 rwa [show i + (j - i) = j by omega] at this
@[reducible] def txA (p : List TxT) (j : Nat) : TxT := p.getD j default
@[reducible] def stt (p : List TxT) (j : Nat) : Int := (txA p j).2.2.2.1
def unf (p : List TxT) (j : Nat) : Prop := stt p j = 0 ∨ stt p j = 1
inductive Tst (d E : DbT) (l : List OpT) (t : TxT) (c : DbT) : Prop where
 | wait (h1 : t.2.2.2.1 = 0) (h2 : t.2.2.1 = 0) (h3 : t.2.2.2.2 = []) (h4 : c = E)
 | run (h1 : t.2.2.2.1 = 1) (a : Nat) (h2 : t.2.2.1 = (a : Int)) (h3 : a = 0 ∨ a < l.length) (ns : List Int) (h4 : a1y E (l.take a) = some (c, ns)) (h5 : BK d E l t.2.2.2.2)
 | done (h1 : t.2.2.2.1 = 2) (h2 : t.2.2.2.2 = []) (h3 : (a1C E l).2.2 = true)
 | gone (h1 : t.2.2.2.1 = 3) (h2 : t.2.2.2.2 = []) (h3 : (a1C E l).2.2 = false)
structure Inv (d : DbT) (q0 : List TxT) (x : DbT) (p : List TxT) (cur : Nat → DbT) : Prop where
 len : p.length = q0.length
 ops : ∀ j, j < q0.length → (txA p j).2.1 = a1j q0 j
 st : ∀ j, j < q0.length → Tst d (a1V d q0 j) (a1j q0 j) (txA p j) (cur j)
 sk : SK d x
 db : a0F x = true
 ord : ∀ i j, i < j → j < q0.length → unf p i → stt p j ≠ 0 → a6u (a1j q0 i) (a1j q0 j) = false
 v1 : ∀ k, k < d.2.2.1.length → ∀ i, i < q0.length → unf p i → wrK d (a1j q0 i) k → (∀ m, m < i → unf p m → ¬ wrK d (a1j q0 m) k) → stA x k = stA (cur i) k
 v2 : ∀ k, k < d.2.2.1.length → (∀ i, i < q0.length → unf p i → ¬ wrK d (a1j q0 i) k) → stA x k = stA (a1V d q0 q0.length) k
theorem c0m {P : Nat → Prop} (n : Nat) (h : ∃ i, i < n ∧ P i) : ∃ i, i < n ∧ P i ∧ ∀ m, m < i → ¬ P m := by
 classical
 obtain ⟨i, hi, hp⟩ := h
 induction i using Nat.strongRecOn with
 | _ i ih =>
  by_cases hq : ∃ m, m < i ∧ P m
  ·obtain ⟨m, hm, hpm⟩ := hq
   exact ih m hm (by omega) hpm
  ·exact ⟨i, hi, hp, fun m hm hpm => hq ⟨m, hm, hpm⟩⟩
section
variable {d x : DbT} {q0 p : List TxT} {cur : Nat → DbT}
theorem b7n (hd : a0F d = true) (h : Inv d q0 x p cur) {j k : Nat} (hj : j < q0.length) (hu : unf p j) (hc1 : ∀ i, i < j → unf p i → a6u (a1j q0 i) (a1j q0 j) = false) (hk : k < d.2.2.1.length) (huse : usK d (a1j q0 j) k) (hcur : ¬ wrK d (a1j q0 j) k → stA (cur j) k = stA (a1V d q0 j) k) : stA x k = stA (cur j) k := by
 classical
 have hlate : ∀ i, j < i → i < q0.length → wrK d (a1j q0 i) k → stt p i = 0 := fun i h1 h2 h3 => by
  by_cases e : stt p i = 0
  ·exact e
  ·exact absurd ⟨huse, h3⟩ (a8z (h.ord j i h1 h2 hu e)).2
 by_cases hw : wrK d (a1j q0 j) k
 ·exact h.v1 k hk j hj hu hw (fun m hm hum hwm => (a8z (hc1 m hm hum)).1 ⟨hwm, huse⟩)
 ·rw [hcur hw]
  by_cases hex : ∃ i, i < q0.length ∧ (unf p i ∧ wrK d (a1j q0 i) k)
  ·obtain ⟨i, hi, ⟨hui, hwi⟩, hmin⟩ := c0m q0.length hex
   rw [h.v1 k hk i hi hui hwi (fun m hm hum hwm => hmin m hm ⟨hum, hwm⟩)]
   rcases Nat.lt_trichotomy i j with e | e | e
   ·exact absurd ⟨hwi, huse⟩ (a8z (hc1 i e hui)).1
   ·rw [e] at hwi; exact absurd hwi hw
   ·have h0 := hlate i e hi hwi
    have hci : cur i = a1V d q0 i := by
     rcases h.st i hi with ⟨_, _, _, h4⟩ | ⟨h1, _⟩ | ⟨h1, _⟩ | ⟨h1, _⟩
     ·exact h4
     ·exact absurd (h1.symm.trans h0) (by decide)
     ·exact absurd (h1.symm.trans h0) (by decide)
     ·exact absurd (h1.symm.trans h0) (by decide)
    rw [hci]
    refine a7Y hd (by omega) (fun m h1 h2 hwm => ?_)
    by_cases em : m = j
    ·rw [em] at hwm; exact hw hwm
    ·have h3 := hlate m (by omega) (by omega) hwm
     exact hmin m h2 ⟨.inl h3, hwm⟩
  ·rw [h.v2 k hk (fun i hi hui hwi => hex ⟨i, hi, hui, hwi⟩)]
   refine a7Y hd (by omega) (fun m h1 h2 hwm => ?_)
   by_cases em : m = j
   ·rw [em] at hwm; exact hw hwm
   ·exact hex ⟨m, h2, .inl (hlate m (by omega) h2 hwm), hwm⟩
theorem a3O {t : TxT} {i j : Nat} (hi : i < p.length) : txA (p.set i t) j = if j = i then t else txA p j := by
 unfold txA
 rw [List.getD_eq_getElem?_getD, List.getElem?_set]
 by_cases h : i = j
 ·subst h; simp [hi]
 ·rw [if_neg h, if_neg (fun e => h e.symm), List.getD_eq_getElem?_getD]
theorem a7l {t : TxT} {i j : Nat} (hi : i < p.length) (hj : j ≠ i) : unf (p.set i t) j ↔ unf p j := by
 unfold unf stt; rw [a3O hi, if_neg hj]
theorem a9Y {i : Int} (h : a2T p i = true) : ∃ j : Nat, i = (j : Int) ∧ j < p.length ∧ stt p j = 0 ∧ ∀ m, m < j → unf p m → a6u (txA p m).2.1 (txA p j).2.1 = false := by
 unfold a2T at h
 simp only [Bool.and_eq_true, decide_eq_true_eq, Bool.not_eq_true'] at h
 obtain ⟨⟨⟨h1, h2⟩, h3⟩, h4⟩ := h
 refine ⟨i.toNat, by omega, by omega, h3, fun m hm hu => ?_⟩
 rw [List.any_eq_false] at h4
 have hml : m < (p.take i.toNat).length := by rw [List.length_take]; omega
 have h5 := h4 _ (List.getElem_mem hml)
 have e : (p.take i.toNat)[m] = txA p m := by
  rw [List.getElem_take]; unfold txA; rw [List.getD_eq_getElem?_getD, List.getElem?_eq_getElem (by omega)]; rfl
 rw [e] at h5
 unfold a5q at h5
 rw [Bool.not_eq_true, Bool.and_eq_false_iff] at h5
 rcases h5 with h5 | h5
 ·simp only [Bool.or_eq_false_iff, decide_eq_false_iff_not] at h5
  rcases hu with hu | hu
  ·exact absurd hu h5.1
  ·exact absurd hu h5.2
 ·exact h5
theorem c0U (hd : a0F d = true) (h : Inv d q0 x p cur) (i : Int) : Inv d q0 x (a3Y x p i).1 cur := by
 unfold a3Y
 split
 ·rename_i hcan
  obtain ⟨j, rfl, hj, h0, hcf⟩ := a9Y hcan
  rw [Int.toNat_natCast]
  have hjq : j < q0.length := by rw [← h.len]; exact hj
  have hwait := h.st j hjq
  obtain ⟨hat, hcur⟩ : (txA p j).2.2.1 = 0 ∧ cur j = a1V d q0 j := by
   rcases hwait with ⟨_, h2, _, h4⟩ | ⟨h1, _⟩ | ⟨h1, _⟩ | ⟨h1, _⟩
   ·exact ⟨h2, h4⟩
   ·exact absurd (h1.symm.trans h0) (by decide)
   ·exact absurd (h1.symm.trans h0) (by decide)
   ·exact absurd (h1.symm.trans h0) (by decide)
  have hop := h.ops j hjq
  have hcf' : ∀ m, m < j → unf p m → a6u (a1j q0 m) (a1j q0 j) = false := fun m hm hu => by
   rw [← h.ops m (by omega), ← hop]; exact hcf m hm hu
  have hu0 : unf p j := .inl h0
  have hbk : BK d (a1V d q0 j) (a1j q0 j) (a2c x (a1s (txA p j).2.1)) := by
   rw [hop]
   refine c4I h.sk (fun k hk => ?_)
   rw [← hcur]
   have hk0 := hk
   obtain ⟨o, _, ho⟩ := hk
   exact b7n hd h hjq hu0 hcf' (a5v ho).1 hk0 (fun _ => by rw [hcur])
  have hunf : ∀ m, unf (p.set j ((txA p j).1, (txA p j).2.1, (txA p j).2.2.1, 1, a2c x (a1s (txA p j).2.1))) m ↔ unf p m := fun m => by
   by_cases e : m = j
   ·subst e
    constructor
    ·exact fun _ => hu0
    ·exact fun _ => .inr (by unfold stt; rw [a3O hj, if_pos rfl])
   ·exact a7l hj e
  refine ⟨by rw [List.length_set]; exact h.len, fun m hm => ?_, fun m hm => ?_, h.sk, h.db, fun a b hab hb ha hs => ?_, fun k hk m hm hu hw hmin => ?_, fun k hk hn => ?_⟩
  ·rw [a3O hj]
   by_cases e : m = j
   ·rw [if_pos e, e]; exact hop
   ·rw [if_neg e]; exact h.ops m hm
  ·rw [a3O hj]
   by_cases e : m = j
   ·rw [if_pos e]
    subst e
    exact .run rfl 0 hat (.inl rfl) [] (by rw [hcur]; rfl) hbk
   ·rw [if_neg e]; exact h.st m hm
  ·have ha' := (hunf a).1 ha
   by_cases e : b = j
   ·subst e; exact hcf' a hab ha'
   ·refine h.ord a b hab hb ha' ?_
    unfold stt at hs ⊢
    rwa [a3O hj, if_neg e] at hs
  ·exact h.v1 k hk m hm ((hunf m).1 hu) hw (fun z hz huz => hmin z hz ((hunf z).2 huz))
  ·exact h.v2 k hk (fun z hz huz => hn z hz ((hunf z).2 huz))
 ·exact h
end

end Go.Proofs.YtjkpoekgnmgofaaGreat

namespace Go.Proofs.YtjkpoekgnmgofaaGreat
open Go.RowKit
open Go.Proofs
set_option linter.unusedVariables false
set_option linter.unusedSimpArgs false

section
variable {d x : DbT} {q0 p : List TxT} {cur : Nat → DbT}
theorem c2v {E : DbT} (hE : a0F E = true) {i k : Nat} (hi : i < E.2.2.1.length) (hk : k < E.2.2.1.length) (h : stA E i = stA E k) : i = k := by
 rcases Nat.lt_trichotomy i k with e | e | e
 ·have := (a6S (a8A hE e hk)).1
  rw [h, a3T.2 rfl] at this; cases this
 ·exact e
 ·have := (a6S (a8A hE e hi)).1
  rw [h, a3T.2 rfl] at this; cases this
theorem c4w (h : Inv d q0 x p cur) {i : Nat} (hi : i < q0.length) (h0 : stt p i = 0) : cur i = a1V d q0 i := by
 rcases h.st i hi with ⟨_, _, _, h4⟩ | ⟨h1, _⟩ | ⟨h1, _⟩ | ⟨h1, _⟩
 ·exact h4
 ·exact absurd (h1.symm.trans h0) (by decide)
 ·exact absurd (h1.symm.trans h0) (by decide)
 ·exact absurd (h1.symm.trans h0) (by decide)
theorem b3X (hd : a0F d = true) (h : Inv d q0 x p cur) {j : Nat} (hj : j < q0.length) (hrun : stt p j = 1) {x' : DbT} {t' : TxT} (hop : t'.2.1 = a1j q0 j) (hst : t'.2.2.2.1 = 2 ∨ t'.2.2.2.1 = 3) (hbk : t'.2.2.2.2 = []) (hok : (a1C (a1V d q0 j) (a1j q0 j)).2.2 = decide (t'.2.2.2.1 = 2)) (sx : SK d x') (hx : a0F x' = true) (f1 : ∀ k, k < d.2.2.1.length → ¬ wrK d (a1j q0 j) k → stA x' k = stA x k) (f2 : ∀ k, k < d.2.2.1.length → wrK d (a1j q0 j) k → stA x' k = stA (a1V d q0 (j + 1)) k) : Inv d q0 x' (p.set j t') cur := by
 have hjp : j < p.length := by rw [h.len]; exact hj
 have hju : unf p j := .inr hrun
 have hself : stt (p.set j t') j = t'.2.2.2.1 := by unfold stt; rw [a3O hjp, if_pos rfl]
 have hnj : ¬ unf (p.set j t') j := by
  unfold unf; rw [hself]; omega
 have huu : ∀ m, unf (p.set j t') m → m ≠ j ∧ unf p m := fun m hm => by
  by_cases e : m = j
  ·rw [e] at hm; exact absurd hm hnj
  ·exact ⟨e, (a7l hjp e).1 hm⟩
 have hst' : ∀ m, m ≠ j → stt (p.set j t') m = stt p m := fun m hm => by unfold stt; rw [a3O hjp, if_neg hm]
 have late : ∀ m k, j < m → m < q0.length → wrK d (a1j q0 j) k → wrK d (a1j q0 m) k → stt p m = 0 := fun m k h1 h2 h3 h4 => by
  by_cases e : stt p m = 0
  ·exact e
  ·exact absurd ⟨h3, a9c h4⟩ (a8z (h.ord j m h1 h2 hju e)).1
 refine ⟨by rw [List.length_set]; exact h.len, fun m hm => ?_, fun m hm => ?_, sx, hx, fun a b hab hb ha hs => ?_, fun k hk i hi hu hw hmin => ?_, fun k hk hn => ?_⟩
 ·rw [a3O hjp]
  by_cases e : m = j
  ·rw [if_pos e, e]; exact hop
  ·rw [if_neg e]; exact h.ops m hm
 ·rw [a3O hjp]
  by_cases e : m = j
  ·rw [if_pos e, e]
   rcases hst with e2 | e2
   ·exact .done e2 hbk (by rw [hok, e2]; rfl)
   ·exact .gone e2 hbk (by rw [hok, e2]; rfl)
  ·rw [if_neg e]; exact h.st m hm
 ·obtain ⟨ea, hua⟩ := huu a ha
  by_cases e : b = j
  ·subst e; exact h.ord a b hab hb hua (by rw [hrun]; decide)
  ·exact h.ord a b hab hb hua (by rw [← hst' b e]; exact hs)
 ·obtain ⟨ei, hui⟩ := huu i hu
  by_cases hwj : wrK d (a1j q0 j) k
  ·rcases Nat.lt_or_gt_of_ne ei with e | e
   ·exact absurd ⟨hw, a9c hwj⟩ (a8z (h.ord i j e hj hui (by rw [hrun]; decide))).1
   ·have h0 := late i k e hi hwj hw
    rw [f2 k hk hwj, c4w h hi h0]
    refine (a7Y hd (by omega) (fun m h1 h2 hwm => ?_)).symm
    have h3 := late m k (by omega) (by omega) hwj hwm
    exact hmin m h2 ((a7l hjp (by omega)).2 (.inl h3)) hwm
  ·rw [f1 k hk hwj]
   refine h.v1 k hk i hi hui hw (fun m hm hum hwm => ?_)
   by_cases em : m = j
   ·rw [em] at hwm; exact hwj hwm
   ·exact hmin m hm ((a7l hjp em).2 hum) hwm
 ·by_cases hwj : wrK d (a1j q0 j) k
  ·rw [f2 k hk hwj]
   refine (a7Y hd (by omega) (fun m h1 h2 hwm => ?_)).symm
   have h3 := late m k (by omega) h2 hwj hwm
   exact hn m h2 ((a7l hjp (by omega)).2 (.inl h3)) hwm
  ·rw [f1 k hk hwj]
   refine h.v2 k hk (fun i hi hui hwi => ?_)
   by_cases em : i = j
   ·rw [em] at hwi; exact hwj hwi
   ·exact hn i hi ((a7l hjp em).2 hui) hwi
theorem c3v {E : DbT} {l : List OpT} {a : Nat} (ha : a < l.length) : l.take (a + 1) = l.take a ++ [l.getD a default] := by
 rw [List.take_add_one, List.getElem?_eq_getElem ha, List.getD_eq_getElem?_getD, List.getElem?_eq_getElem ha]; rfl
theorem c1j {E : DbT} {l : List OpT} (hE : a0F E = true) (hl : l.length ≤ 6) : a1C E l = b2Q E (a1y E l) := by
 unfold a1C
 rw [if_neg]
 rw [hE]; simp; omega
theorem b0S {t : TxT} {a : Nat} : tin t (a : Int) = decide (a < t.2.1.length) := by
 unfold tin
 rw [← Bool.decide_and]
 exact decide_eq_decide.2 (by omega)
theorem c0G (hd : a0F d = true) (hl : ∀ j, (a1j q0 j).length ≤ 6) (h : Inv d q0 x p cur) (i : Int) : ∃ cur', Inv d q0 (a2M x p i).1 (a2M x p i).2.1 cur' := by
 cases hb : a3m p i with
 | true => rw [b3y hb]; exact ⟨cur, h⟩
 | false =>
  obtain ⟨g1, g2, g3⟩ := a9Q hb
  obtain ⟨j, rfl⟩ : ∃ j : Nat, i = (j : Int) := ⟨i.toNat, by omega⟩
  rw [Int.toNat_natCast] at g3
  have hjp : j < p.length := by omega
  have hj : j < q0.length := by rw [← h.len]; exact hjp
  have hrun : stt p j = 1 := g3
  have hop := h.ops j hj
  have ht : txA p j = p.getD ((j : Nat) : Int).toNat default := by rw [Int.toNat_natCast]
  have hju : unf p j := .inr hrun
  obtain ⟨hE, sE⟩ := a8K (q0 := q0) hd j
  have hearly : ∀ i, i < j → unf p i → a6u (a1j q0 i) (a1j q0 j) = false := fun i h1 hu => h.ord i j h1 hj hu (by rw [hrun]; decide)
  rcases h.st j hj with ⟨h1, _⟩ | ⟨_, a, ha, ha2, ns, hg, hbk⟩ | ⟨h1, _⟩ | ⟨h1, _⟩
  ·exact absurd (h1.symm.trans hrun) (by decide)
  ·obtain ⟨hc, sc, hcf⟩ := b3i (d := d) _ _ _ _ hg hE sE
   have hsee : ∀ k, k < d.2.2.1.length → usK d (a1j q0 j) k → stA x k = stA (cur j) k := fun k hk hu => b7n hd h hj hju hearly hk hu (fun hw => hcf k (fun ⟨o, ho, hw1, hw2⟩ => hw ⟨o, List.mem_of_mem_take ho, hw1, hw2⟩))
   have hrunE := c1j (l := a1j q0 j) hE (hl j)
   have hser : a1V d q0 (j + 1) = (a1C (a1V d q0 j) (a1j q0 j)).1 := rfl
   by_cases hal : a < (a1j q0 j).length
   ·have htin : tin (txA p j) (txA p j).2.2.1 = true := by rw [ha, b0S, hop]; exact decide_eq_true hal
    have hopo : a2J (txA p j) = (a1j q0 j).getD a default := by unfold a2J; rw [ha, hop, Int.toNat_natCast]
    have hmem : a2J (txA p j) ∈ a1j q0 j := by
     rw [hopo, List.getD_eq_getElem?_getD, List.getElem?_eq_getElem hal]; exact List.getElem_mem hal
    have hgs := b4G ((a1j q0 j).take a) (a1V d q0 j) (a2J (txA p j))
    rw [hopo, ← c3v (E := d) hal, ← hopo, hg] at hgs
    dsimp only at hgs
    obtain ⟨fx1, fx2, fx3⟩ := b4W (o := a2J (txA p j)) h.db h.sk
    rcases b9q (o := a2J (txA p j)) h.db hc h.sk sc (fun k hk => hsee k (a5v hk).1 ⟨_, hmem, hk⟩) with ⟨r1, r2, r3, r4⟩ | ⟨r1, r2, k, s, r3, r4, r5, r6⟩
    ·
     rw [b4T hb ht htin r1, Int.toNat_natCast]
     dsimp only
     rw [if_neg (by rw [r2]; decide)] at hgs
     have hgo : a1y (a1V d q0 j) (a1j q0 j) = none := by
      rw [← List.take_append_drop (a + 1) (a1j q0 j)]; exact b5X _ _ _ hgs
     have hout : a1C (a1V d q0 j) (a1j q0 j) = (a1V d q0 j, [], false) := by rw [hrunE, hgo]; rfl
     have hall : ∀ s ∈ (txA p j).2.2.2.2, ∃ k : Nat, k < d.2.2.1.length ∧ s = stA (a1V d q0 j) k := fun s hs => by
      obtain ⟨k, q1, _, q3⟩ := hbk.all s hs; exact ⟨k, q1, q3⟩
     obtain ⟨s1, s2⟩ := b4y sE hE _ x h.sk hall
     refine ⟨cur, b3X hd h hj hrun hop (.inr rfl) rfl (by rw [hout]; rfl) s1 ?_ (fun k hk hw => ?_) (fun k hk hw => ?_)⟩
     ·refine b7u (d := d) h.db hE h.sk sE s1 (fun k hk => ?_)
      rcases s2 k hk with ⟨_, q⟩ | ⟨_, q⟩
      ·exact .inr q
      ·exact .inl q
     ·rcases s2 k hk with ⟨q0', q⟩ | ⟨_, q⟩
      ·obtain ⟨k', q1, q2, q3⟩ := hbk.all _ q0'
       have e := c2v hE (by rw [sE.len]; exact hk) (by rw [sE.len]; exact q1) q3
       subst e
       rw [q, hsee k hk q2, hcf k (fun ⟨o, ho, hw1, hw2⟩ => hw ⟨o, List.mem_of_mem_take ho, hw1, hw2⟩)]
      ·exact q
     ·rw [hser, hout]
      rcases s2 k hk with ⟨_, q⟩ | ⟨q0', q⟩
      ·exact q
      ·exact absurd (hbk.has k (a9c hw)) q0'
    ·rw [if_pos r2] at hgs
     have hx' : ∀ m, m < d.2.2.1.length → ¬ (a4m (a2J (txA p j)) = true ∧ a0J d (a2J (txA p j)).2.1 = (m : Int)) → stA (a0E x (a2J (txA p j))).1 m = stA x m := fun m _ hm => by
      refine fx3 m ?_
      by_cases hw : a4m (a2J (txA p j)) = true
      ·exact .inr (fun e => hm ⟨hw, e⟩)
      ·exact .inl (by simpa using hw)
     have hkx : k < x.2.2.1.length := by rw [h.sk.len]; exact (a5v r3).1
     have hkc : k < (cur j).2.2.1.length := by rw [sc.len]; exact (a5v r3).1
     have hx2 : ∀ m, m < d.2.2.1.length → stA x m = stA (cur j) m → stA (a0E x (a2J (txA p j))).1 m = stA (a0E (cur j) (a2J (txA p j))).1 m := fun m _ hm => by
      rw [r5, r6, a8o hkx, a8o hkc, hm]
     by_cases hlast : a + 1 < (a1j q0 j).length
     ·
      have htin2 : tin (txA p j) ((txA p j).2.2.1 + 1) = true := by
       rw [ha]
       show tin (txA p j) ((a + 1 : Nat) : Int) = true
       rw [b0S, hop]; exact decide_eq_true hlast
      rw [b8y hb ht htin r1 htin2, Int.toNat_natCast]
      dsimp only
      generalize ht' : ((txA p j).1, (txA p j).2.1, (txA p j).2.2.1 + 1, (txA p j).2.2.2.1, (txA p j).2.2.2.2) = t'
      have hunf : ∀ m, unf (p.set j t') m ↔ unf p m := fun m => by
       by_cases e : m = j
       ·subst e
        unfold unf stt
        rw [a3O hjp, if_pos rfl, ← ht']
       ·exact a7l hjp e
      refine ⟨fun m => if m = j then (a0E (cur j) (a2J (txA p j))).1 else cur m, by rw [List.length_set]; exact h.len, fun m hm => ?_, fun m hm => ?_, fx2, fx1, fun u v huv hv hu hs => ?_, fun m hm u hu hun hw hmin => ?_, fun m hm hn => ?_⟩
      ·rw [a3O hjp]
       by_cases e : m = j
       ·rw [if_pos e, e, ← ht']; exact hop
       ·rw [if_neg e]; exact h.ops m hm
      ·rw [a3O hjp]
       by_cases e : m = j
       ·subst e
        rw [if_pos rfl, if_pos rfl]
        exact .run (by rw [← ht']; exact hrun) (a + 1) (by rw [← ht']; dsimp only; rw [ha]; rfl) (.inr hlast) _ hgs (by rw [← ht']; exact hbk)
       ·rw [if_neg e, if_neg e]; exact h.st m hm
      ·refine h.ord u v huv hv ((hunf u).1 hu) ?_
       by_cases e : v = j
       ·rw [e, hrun]; decide
       ·unfold stt at hs ⊢
        rwa [a3O hjp, if_neg e] at hs
      ·have hmin' : ∀ z, z < u → unf p z → ¬ wrK d (a1j q0 z) m := fun z hz huz => hmin z hz ((hunf z).2 huz)
       have hv1 := h.v1 m hm u hu ((hunf u).1 hun) hw hmin'
       by_cases e : u = j
       ·subst e
        rw [if_pos rfl]; exact hx2 m hm hv1
       ·rw [if_neg e, ← hv1]
        refine hx' m hm (fun ⟨q1, q2⟩ => ?_)
        have hwj : wrK d (a1j q0 j) m := ⟨_, hmem, q1, q2⟩
        rcases Nat.lt_or_gt_of_ne e with e2 | e2
        ·exact absurd ⟨hw, a9c hwj⟩ (a8z (hearly u e2 ((hunf u).1 hun))).1
        ·exact hmin' j e2 hju hwj
      ·have hn' : ∀ z, z < q0.length → unf p z → ¬ wrK d (a1j q0 z) m := fun z hz huz => hn z hz ((hunf z).2 huz)
       rw [← h.v2 m hm hn']
       exact hx' m hm (fun ⟨q1, q2⟩ => hn' j hj hju ⟨_, hmem, q1, q2⟩)
     ·
      have htin2 : tin (txA p j) ((txA p j).2.2.1 + 1) = false := by
       rw [ha]
       show tin (txA p j) ((a + 1 : Nat) : Int) = false
       rw [b0S, hop]; exact decide_eq_false hlast
      rw [b8Z hb ht htin r1 htin2, Int.toNat_natCast]
      dsimp only
      rw [List.take_of_length_le (by omega)] at hgs
      have hout : a1C (a1V d q0 j) (a1j q0 j) = ((a0E (cur j) (a2J (txA p j))).1, ns ++ [(a0E (cur j) (a2J (txA p j))).2.1], true) := by rw [hrunE, hgs]; rfl
      refine ⟨cur, b3X hd h hj hrun hop (.inl rfl) rfl (by rw [hout]; rfl) fx2 fx1 (fun m hm hw => ?_) (fun m hm hw => ?_)⟩
      ·exact hx' m hm (fun ⟨q1, q2⟩ => hw ⟨_, hmem, q1, q2⟩)
      ·rw [hser, hout]
       exact hx2 m hm (hsee m hm (a9c hw))
   ·
    have h0 : a1j q0 j = [] := by
     rcases ha2 with e | e
     ·exact List.length_eq_zero_iff.1 (by omega)
     ·exact absurd e hal
    have htin : tin (txA p j) (txA p j).2.2.1 = false := by rw [ha, b0S, hop]; exact decide_eq_false hal
    rw [b6s hb ht htin, Int.toNat_natCast]
    dsimp only
    have hno : ∀ k, ¬ wrK d (a1j q0 j) k := fun k ⟨o, ho, _⟩ => by rw [h0] at ho; cases ho
    exact ⟨cur, b3X hd h hj hrun hop (.inl rfl) rfl (by rw [hrunE, h0]; rfl) h.sk h.db (fun _ _ _ => rfl) (fun k _ hw => absurd hw (hno k))⟩
  ·exact absurd (h1.symm.trans hrun) (by decide)
  ·exact absurd (h1.symm.trans hrun) (by decide)
end

end Go.Proofs.YtjkpoekgnmgofaaGreat

namespace Go.Proofs.YtjkpoekgnmgofaaGreat
open Go.RowKit
open Go.Proofs
set_option linter.unusedVariables false
set_option linter.unusedSimpArgs false

@[reducible] def StT := DbT × List TxT
def stS (s : StT) (i : Int) : StT := ((a2M s.1 s.2 i).1, (a2M s.1 s.2 i).2.1)
def saS (s : StT) (i : Int) : StT := (s.1, (a3Y s.1 s.2 i).1)
def stN (s : StT) (i : Int) : Nat → StT
 | 0 => s
 | k + 1 => stS (stN s i k) i
def a8H (s : StT) (i : Int) : StT := stN (saS s i) i 8
def a5U (s : StT) : Nat → StT
 | 0 => s
 | k + 1 => a8H (a5U s k) (k : Int)
def atI (n : Int) (c : Int) (j : Nat) : Int := ((max (0 : Int) c) % n + (j : Int)) % n
def a2P (n c : Int) (s : StT) : Nat → Nat → StT
 | 0, _ => s
 | f + 1, j => if a2T s.2 (atI n c j) = true then saS s (atI n c j) else if (s.2.getD (atI n c j).toNat default).2.2.2.1 = 1 then stS s (atI n c j) else a2P n c s f (j + 1)
def chS (n : Nat) (s : StT) (l : List Int) : StT := l.foldl (fun s c => a2P (n : Int) c s n 0) s
def a2d (d : DbT) (q : List TxT) (ch : List Int) : StT := if a0F d = true then a5U (chS q.length (d, q) (ch.take 60)) q.length else (d, q)
def b1j (t : TxT) : Prop := t.2.2.2.1 = 0 ∧ t.2.2.1 = 0 ∧ t.2.2.2.2 = [] ∧ t.2.1.length ≤ 6
@[reducible] def a2A (d : DbT) (q0 : List TxT) (s : StT) : Prop := ∃ cur, Inv d q0 s.1 s.2 cur
section
variable {d : DbT} {q0 : List TxT} {s : StT}
theorem b0E {p : List TxT} {j : Nat} (h : j < p.length) : txA p j ∈ p := by
 unfold txA
 rw [List.getD_eq_getElem?_getD, List.getElem?_eq_getElem h]; exact List.getElem_mem h
theorem b1B (hd : a0F d = true) (hf : ∀ t ∈ q0, b1j t) : a2A d q0 (d, q0) := by
 have h0 : ∀ j, j < q0.length → stt q0 j = 0 := fun j hj => (hf _ (b0E hj)).1
 refine ⟨fun j => a1V d q0 j, rfl, fun _ _ => rfl, fun j hj => ?_, SK.refl d, hd, fun i j _ hj _ hs => absurd (h0 j hj) hs, fun k hk i hi hu hw hmin => ?_, fun k hk hn => ?_⟩
 ·obtain ⟨a, b, c, _⟩ := hf _ (b0E hj)
  exact .wait a b c rfl
 ·exact (a7Y (i := 0) hd (by omega) (fun m _ h2 hwm => hmin m h2 (.inl (h0 m (by omega))) hwm)).symm
 ·exact (a7Y (i := 0) hd (by omega) (fun m _ h2 hwm => hn m h2 (.inl (h0 m h2)) hwm)).symm
theorem a9S (hf : ∀ t ∈ q0, b1j t) (j : Nat) : (a1j q0 j).length ≤ 6 := by
 by_cases h : j < q0.length
 ·exact (hf _ (b0E h)).2.2.2
 ·unfold a1j
  rw [List.getD_eq_getElem?_getD, List.getElem?_eq_none (by omega)]
  exact Nat.zero_le _
theorem b6a (hd : a0F d = true) (hl : ∀ j, (a1j q0 j).length ≤ 6) (h : a2A d q0 s) (i : Int) : a2A d q0 (stS s i) := by
 obtain ⟨cur, h⟩ := h; exact c0G hd hl h i
theorem b0W (hd : a0F d = true) (h : a2A d q0 s) (i : Int) : a2A d q0 (saS s i) := by
 obtain ⟨cur, h⟩ := h; exact ⟨cur, c0U hd h i⟩
theorem b0h (hd : a0F d = true) (hl : ∀ j, (a1j q0 j).length ≤ 6) (i : Int) : ∀ (k : Nat) {s : StT}, a2A d q0 s → a2A d q0 (stN s i k)
 | 0, _, h => h
 | k + 1, _, h => b6a hd hl (b0h hd hl i k h) i
theorem b5I (hd : a0F d = true) (hl : ∀ j, (a1j q0 j).length ≤ 6) (h : a2A d q0 s) (i : Int) : a2A d q0 (a8H s i) := b0h hd hl i 8 (b0W hd h i)
theorem b3L (hd : a0F d = true) (hl : ∀ j, (a1j q0 j).length ≤ 6) (h : a2A d q0 s) : ∀ k, a2A d q0 (a5U s k)
 | 0 => h
 | k + 1 => b5I hd hl (b3L hd hl h k) k
theorem b1Q (hd : a0F d = true) (hl : ∀ j, (a1j q0 j).length ≤ 6) (n c : Int) (h : a2A d q0 s) : ∀ f j, a2A d q0 (a2P n c s f j)
 | 0, _ => h
 | f + 1, j => by
  rw [a2P]
  split
  ·exact b0W hd h _
  ·split
   ·exact b6a hd hl h _
   ·exact b1Q hd hl n c h f (j + 1)
theorem b8i (hd : a0F d = true) (hl : ∀ j, (a1j q0 j).length ≤ 6) (n : Nat) : ∀ (l : List Int) {s : StT}, a2A d q0 s → a2A d q0 (chS n s l)
 | [], _, h => h
 | c :: l, s, h => b8i hd hl n l (s := a2P n c s n 0) (b1Q hd hl n c h n 0)
/-! ### what one step does to the states -/
theorem c1X (i : Int) : (stS s i).2.length = s.2.length := by
 unfold stS a2M
 split
 ·rfl
 ·unfold a5p
  split
  ·split <;> simp
  ·simp
theorem c6i (i : Int) : (saS s i).2.length = s.2.length := by
 unfold saS a3Y; split <;> simp
theorem a6N {p : List TxT} {t : TxT} {i m : Nat} (hi : i < p.length) : stt (p.set i t) m = if m = i then t.2.2.2.1 else stt p m := by
 unfold stt; rw [a3O hi]; split <;> rfl
theorem c2X {j m : Nat} (h : m ≠ j) : stt (stS s (j : Int)).2 m = stt s.2 m := by
 unfold stS a2M
 cases hb : a3m s.2 (j : Int) with
 | true => rfl
 | false =>
  have hj := (a9Q hb).2.1
  have hj' : j < s.2.length := by omega
  rw [if_neg (by decide)]
  dsimp only
  unfold a5p
  rw [Int.toNat_natCast]
  split
  ·split
   ·dsimp only; rw [a6N hj', if_neg h]
   ·dsimp only; rw [a6N hj', if_neg h]
  ·dsimp only; rw [a6N hj', if_neg h]
theorem b1q {j : Nat} (h : stt s.2 j ≠ 1) : stS s (j : Int) = s := by
 have : a3m s.2 (j : Int) = true := by
  unfold a3m
  rw [Int.toNat_natCast, decide_eq_false (show ¬ (s.2.getD j default).2.2.2.1 = 1 from h)]
  simp
 unfold stS
 rw [b3y this]
theorem b7P {j : Nat} (hj : j < s.2.length) (h : stt s.2 j = 1) : stt (stS s (j : Int)).2 j = 2 ∨ stt (stS s (j : Int)).2 j = 3 ∨ (stt (stS s (j : Int)).2 j = 1 ∧ (txA (stS s (j : Int)).2 j).2.2.1 = (txA s.2 j).2.2.1 + 1) := by
 have hb : a3m s.2 (j : Int) = false := by
  unfold a3m
  rw [Int.toNat_natCast, decide_eq_true (show (s.2.getD j default).2.2.2.1 = 1 from h)]
  simp; omega
 have hs : (txA s.2 j).2.2.2.1 = 1 := h
 unfold stS a2M
 rw [if_neg (by rw [hb]; decide)]
 dsimp only
 unfold a5p
 rw [Int.toNat_natCast]
 split
 ·split
  ·dsimp only
   rw [a6N hj, if_pos rfl, a3O hj, if_pos rfl]
   split
   ·exact .inr (.inr ⟨hs, rfl⟩)
   ·exact .inl rfl
  ·dsimp only; rw [a6N hj, if_pos rfl]; exact .inr (.inl rfl)
 ·dsimp only; rw [a6N hj, if_pos rfl]; exact .inl rfl
theorem c3J {j m : Nat} (h : m ≠ j) : stt (saS s (j : Int)).2 m = stt s.2 m := by
 unfold saS a3Y
 split
 ·rename_i hc
  obtain ⟨j', e, hj, _⟩ := a9Y hc
  obtain rfl : j' = j := by omega
  dsimp only
  rw [Int.toNat_natCast, a6N hj, if_neg h]
 ·rfl
theorem c0C {j : Nat} (hj : j < s.2.length) (h0 : stt s.2 j = 0) (hn : ∀ m, m < j → ¬ unf s.2 m) : stt (saS s (j : Int)).2 j = 1 ∧ a2T s.2 (j : Int) = true := by
 have hc : a2T s.2 (j : Int) = true := by
  unfold a2T
  rw [Int.toNat_natCast, decide_eq_true (show (s.2.getD j default).2.2.2.1 = 0 from h0)]
  have : (s.2.take j).any (a5q s.2 j) = false := by
   rw [List.any_eq_false]
   intro t ht
   obtain ⟨m, hm, rfl⟩ := List.mem_iff_getElem.1 ht
   rw [List.length_take] at hm
   have hmj : m < j := by omega
   have e : (s.2.take j)[m] = txA s.2 m := by
    rw [List.getElem_take]; unfold txA; rw [List.getD_eq_getElem?_getD, List.getElem?_eq_getElem (by omega)]; rfl
   rw [e]
   unfold a5q
   have := hn m hmj
   have h1 : ¬ (txA s.2 m).2.2.2.1 = 0 := fun e => this (.inl e)
   have h2 : ¬ (txA s.2 m).2.2.2.1 = 1 := fun e => this (.inr e)
   rw [decide_eq_false h1, decide_eq_false h2]; simp
  rw [this]
  simp; omega
 refine ⟨?_, hc⟩
 unfold saS a3Y
 rw [if_pos hc]
 dsimp only
 rw [Int.toNat_natCast, a6N hj, if_pos rfl]
theorem b3G (i : Int) : ∀ k, (stN s i k).2.length = s.2.length
 | 0 => rfl
 | k + 1 => by rw [stN, c1X, b3G i k]
theorem b7t {j m : Nat} (h : m ≠ j) : ∀ k, stt (stN s (j : Int) k).2 m = stt s.2 m
 | 0 => rfl
 | k + 1 => by rw [stN, c2X h, b7t h k]
theorem b5H {j : Nat} (hj : j < s.2.length) : ∀ k, stt (stN s (j : Int) k).2 j ≠ 1 ∨ (stt (stN s (j : Int) k).2 j = 1 ∧ (txA (stN s (j : Int) k).2 j).2.2.1 = (txA s.2 j).2.2.1 + (k : Int))
 | 0 => by
  by_cases h : stt s.2 j = 1
  ·exact .inr ⟨h, by show _ = _ + ((0 : Nat) : Int); rw [Int.natCast_zero, Int.add_zero]; rfl⟩
  ·exact .inl h
 | k + 1 => by
  rw [stN]
  by_cases h1 : stt (stN s (j : Int) k).2 j = 1
  ·have hl : j < (stN s (j : Int) k).2.length := by rw [b3G]; exact hj
   have hk : (txA (stN s (j : Int) k).2 j).2.2.1 = (txA s.2 j).2.2.1 + (k : Int) := by
    rcases b5H hj k with e | e
    ·exact absurd h1 e
    ·exact e.2
   rcases b7P hl h1 with e | e | ⟨e, e2⟩
   ·exact .inl (by rw [e]; decide)
   ·exact .inl (by rw [e]; decide)
   ·exact .inr ⟨e, by rw [e2, hk]; omega⟩
  ·exact .inl (by rw [b1q h1]; exact h1)
theorem c2V (hd : a0F d = true) (hl : ∀ j, (a1j q0 j).length ≤ 6) (h : a2A d q0 s) {j : Nat} (hj : j < q0.length) : stt (stN s (j : Int) 8).2 j ≠ 1 := by
 obtain ⟨cur, h1⟩ := h
 have hjs : j < s.2.length := by rw [h1.len]; exact hj
 rcases b5H hjs 8 with e | ⟨e, e2⟩
 ·exact e
 ·exfalso
  obtain ⟨c2, h2⟩ := b0h hd hl (j : Int) 8 ⟨cur, h1⟩
  have hl' := hl j
  have hat : 0 ≤ (txA s.2 j).2.2.1 := by
   by_cases h3 : stt s.2 j = 1
   ·rcases h1.st j hj with ⟨q, _⟩ | ⟨_, a, ha, _⟩ | ⟨q, _⟩ | ⟨q, _⟩
    ·exact absurd (q.symm.trans h3) (by decide)
    ·rw [ha]; omega
    ·exact absurd (q.symm.trans h3) (by decide)
    ·exact absurd (q.symm.trans h3) (by decide)
   ·exfalso
    have : ∀ k, stN s (j : Int) k = s := fun k => by
     induction k with
     | zero => rfl
     | succ k ih => rw [stN, ih, b1q h3]
    rw [this] at e; exact h3 e
  rcases h2.st j hj with ⟨q, _⟩ | ⟨_, a, ha, ha2, _⟩ | ⟨q, _⟩ | ⟨q, _⟩
  ·exact absurd (q.symm.trans e) (by decide)
  ·rw [ha] at e2; omega
  ·exact absurd (q.symm.trans e) (by decide)
  ·exact absurd (q.symm.trans e) (by decide)
theorem c4y (hd : a0F d = true) (hl : ∀ j, (a1j q0 j).length ≤ 6) (h : a2A d q0 s) {j : Nat} (hj : j < q0.length) (hn : ∀ m, m < j → ¬ unf s.2 m) : ∀ m, m < j + 1 → ¬ unf (a8H s (j : Int)).2 m := by
 intro m hm
 have hjs : j < s.2.length := by obtain ⟨_, h1⟩ := h; rw [h1.len]; exact hj
 by_cases e : m = j
 ·subst e
  have h1 := c2V hd hl (b0W hd h (m : Int)) hj
  rintro (h2 | h2)
  ·
   have h3 : ∀ k, stt (stN (saS s (m : Int)) (m : Int) k).2 m ≠ 0 := by
    intro k
    induction k with
    | zero =>
     show stt (saS s (m : Int)).2 m ≠ 0
     by_cases h0 : stt s.2 m = 0
     ·rw [(c0C hjs h0 hn).1]; decide
     ·have : saS s (m : Int) = s := by
       unfold saS a3Y
       rw [if_neg]
       intro hc
       obtain ⟨j', e, _, h5, _⟩ := a9Y hc
       obtain rfl : j' = m := by omega
       exact h0 h5
      rw [this]; exact h0
    | succ k ih =>
     rw [stN]
     by_cases h5 : stt (stN (saS s (m : Int)) (m : Int) k).2 m = 1
     ·rcases b7P (by rw [b3G, c6i]; exact hjs) h5 with q | q | ⟨q, _⟩ <;> rw [q] <;> decide
     ·rw [b1q h5]; exact ih
   exact h3 8 h2
  ·exact h1 h2
 ·have : stt (a8H s (j : Int)).2 m = stt s.2 m := by unfold a8H; rw [b7t e, c3J e]
  have h1 := hn m (by omega)
  unfold unf at h1 ⊢
  rw [this]; exact h1
theorem b6G (hd : a0F d = true) (hl : ∀ j, (a1j q0 j).length ≤ 6) (h : a2A d q0 s) : ∀ k, k ≤ q0.length → ∀ m, m < k → ¬ unf (a5U s k).2 m
 | 0, _, _, hm => by omega
 | k + 1, hk, m, hm => c4y hd hl (b3L hd hl h k) (by omega) (b6G hd hl h k (by omega)) m hm
theorem b9D (hd : a0F d = true) (h : a2A d q0 s) (hn : ∀ m, m < q0.length → ¬ unf s.2 m) : s.1 = a1V d q0 q0.length ∧ s.2.length = q0.length ∧ ∀ j, j < q0.length → (txA s.2 j).2.2.2.2 = [] ∧ ((a1C (a1V d q0 j) (a1j q0 j)).2.2 = true ∧ stt s.2 j = 2 ∨ (a1C (a1V d q0 j) (a1j q0 j)).2.2 = false ∧ stt s.2 j = 3) := by
 obtain ⟨cur, h⟩ := h
 refine ⟨c2U h.sk (a8K hd _).2 (fun k hk => h.v2 k hk (fun i hi hu => absurd hu (hn i hi))), h.len, fun j hj => ?_⟩
 rcases h.st j hj with ⟨q, _⟩ | ⟨q, _⟩ | ⟨q, q2, q3⟩ | ⟨q, q2, q3⟩
 ·exact absurd (.inl q) (hn j hj)
 ·exact absurd (.inr q) (hn j hj)
 ·exact ⟨q2, .inl ⟨q3, q⟩⟩
 ·exact ⟨q2, .inr ⟨q3, q⟩⟩
theorem c3F (hd : a0F d = true) (hf : ∀ t ∈ q0, b1j t) (ch : List Int) : (a2d d q0 ch).1 = a3c d q0 ∧ (a2d d q0 ch).2.length = q0.length ∧ ∀ j, j < q0.length → (txA (a2d d q0 ch).2 j).2.2.2.2 = [] ∧ ((a1C (a1V d q0 j) (a1j q0 j)).2.2 = true ∧ stt (a2d d q0 ch).2 j = 2 ∨ (a1C (a1V d q0 j) (a1j q0 j)).2.2 = false ∧ stt (a2d d q0 ch).2 j = 3) := by
 have hl := a9S hf
 rw [b7A]
 unfold a2d
 rw [if_pos hd]
 have h1 := b8i hd hl q0.length (ch.take 60) (b1B hd hf)
 exact b9D hd (b3L hd hl h1 q0.length) (b6G hd hl h1 q0.length (Nat.le_refl _))
/-! ### the first transaction alone -/
end

end Go.Proofs.YtjkpoekgnmgofaaGreat

namespace Go.Proofs.YtjkpoekgnmgofaaGreat
open Go.RowKit
open Go.Proofs
set_option linter.unusedVariables false
set_option linter.unusedSimpArgs false

def isF (t : TxT) : Prop := t.2.2.2.1 = 0 ∧ t.2.2.1 = 0 ∧ t.2.2.2.2 = [] ∧ a5H t.2.1 ∧ t.2.1.length ≤ 4
def b5C (q : List TxT) : Prop := ∀ j, j < q.length → (q.getD j default).1 = (j : Int) + 1
def a3L (q : List TxT) : Prop := (∀ t ∈ q, isF t) ∧ b5C q
theorem fq_nil : a3L [] := ⟨fun t h => (by cases h), fun j h => (by simp at h)⟩
theorem c5m {l : List OpT} (h : a5H l) (hl : l.length ≤ 6) : a4g l = true := by
 unfold a4g
 rw [Bool.and_eq_true, List.all_eq_true]
 exact ⟨fun o ho => (h o ho).1, decide_eq_true (by omega)⟩
theorem c5a {q : List TxT} (h : b5C q) (hl : q.length ≤ 1000) : a5o q = (q.length : Int) + 1 := by
 unfold a5o
 split
 ·rename_i h0
  have h1 := h (q.length - 1) (by omega)
  rw [show ((q.length : Int) - 1).toNat = q.length - 1 by omega, h1, IntKind.wrap_i64]
  omega
 ·rw [show q.length = 0 by omega]; rfl
theorem b9m {q : List TxT} {l : List OpT} (h : a3L q) (hq : q.length < 6) (ho : a5H l) (hl : l.length ≤ 4) : a3L (a4Y q l).1 ∧ (a4Y q l).1.length = q.length + 1 := by
 have e : a4Y q l = (q ++ [(a5o q, l, 0, 0, [])], a5o q, true) := by
  unfold a4Y
  rw [if_neg]
  rw [c5m ho (by omega), decide_eq_false (by omega)]; decide
 rw [e]
 refine ⟨⟨fun t ht => ?_, fun j hj => ?_⟩, by rw [List.length_append]; rfl⟩
 ·rcases List.mem_append.1 ht with ht | ht
  ·exact h.1 t ht
  ·rw [List.mem_singleton] at ht; subst ht
   exact ⟨rfl, rfl, rfl, ho, hl⟩
 ·dsimp only at hj ⊢
  rw [List.length_append, List.length_singleton] at hj
  by_cases e : j < q.length
  ·rw [List.getD_eq_getElem?_getD, List.getElem?_append_left e, ← List.getD_eq_getElem?_getD]; exact h.2 j e
  ·have : j = q.length := by omega
   subst this
   rw [List.getD_eq_getElem?_getD, List.getElem?_append_right (Nat.le_refl _), Nat.sub_self]
   exact c5a h.2 (by omega)
theorem b8L {l : List OpT} (h : a5H l) : a1a wOp l ≤ l.length + 90 * l.length := by
 have key : ∀ l : List OpT, a5H l → a0D wOp l ≤ 90 * l.length := by
  intro l
  induction l with
  | nil => intro _; simp [a0D]
  | cons o l ih =>
   intro h
   have h1 := c0q (h o (by simp)).1 (h o (by simp)).2
   have h2 := ih (fun z hz => h z (by simp [hz]))
   have e : a0D wOp (o :: l) = wOp o + a0D wOp l := by simp [a0D]
   rw [e, List.length_cons]; omega
 have := key l h
 have e : a1a wOp l = l.length + a0D wOp l := rfl
 omega
theorem b3A {q : List TxT} (h : ∀ t ∈ q, isF t) : a1a wTx q ≤ 400 * q.length := by
 have key : ∀ q : List TxT, (∀ t ∈ q, isF t) → a0D wTx q ≤ 399 * q.length := by
  intro q
  induction q with
  | nil => intro _; simp [a0D]
  | cons t q ih =>
   intro h
   obtain ⟨_, _, hb, ho, hl⟩ := h t (by simp)
   have h1 := b8L ho
   have h2 := ih (fun z hz => h z (by simp [hz]))
   have e : a0D wTx (t :: q) = wTx t + a0D wTx q := by simp [a0D]
   have e2 : wTx t = a1a wOp t.2.1 + a1a a0X t.2.2.2.2 := rfl
   rw [hb] at e2
   have e3 : a1a a0X [] = 0 := rfl
   rw [e, List.length_cons]; omega
 have := key q h
 have e : a1a wTx q = q.length + a0D wTx q := rfl
 omega

theorem c3s {code : List UInt8} {i h : Int} {m : Int} (hc : code.length ≤ 1048576) (hi : 0 ≤ i) (hm : 0 ≤ m ∧ m ≤ 5) : BFn Tryz.prog 17 [.one (.dv [] (.int .i64 (m)))] 81 (a1h (code)) [.dv [] (.int .i64 (i)), .dv [] (.int .i64 (h))] (fun zz : DbT × List TxT × Int × Int => a0F zz.1 = true ∧ a3L zz.2.1 ∧ (zz.2.1.length : Int) ≤ m ∧ 0 ≤ zz.2.2.1) (fun zz : DbT × List TxT × Int × Int => .tup [(true, [(.dv [] (.str (zz.1.1))), (.dv [] (.int .i64 (zz.1.2.1))), (.key 90031), (.key 90900)]), (true, [(.key 95031)])]) (fun zz : DbT × List TxT × Int × Int => [(90031, some (a0b false (a0k (zz.1.2.2.1)))), (90900, some (a0b false (a0r (zz.1.2.2.2)))), (95031, some (a0b false (a1q (zz.2.1))))]) (fun zz : DbT × List TxT × Int × Int => [.dv [] (.int .i64 (zz.2.2.1)), .dv [] (.int .i64 (zz.2.2.2))]) := by
 refine ⟨a3r Tryz.func17 rfl Tryz.ntmps17 Tryz.results17 rfl (fun C => ?_)⟩
 refine a1i (x := .tmp 1) (a0a rfl) fun f1 => ?_
 iterate 5 refine z ?_
 refine yO rfl rfl (a0U (.inl rfl) (a1w (a0a rfl))) rfl ?_
 refine a1Z 0 rfl rfl rfl Tryz.call36 (c2F (code := code) (i := i) (h := h) (by omega) (by omega)) (a0a rfl) rfl a1G rfl (fun _ => rfl) a1I rfl (fun _ => rfl) (fun _ => rfl) (fun zz hz10 => ?_)
 obtain ⟨e10, i10, h10⟩ := zz
 replace hz10 : a0F e10 = true ∧ 0 ≤ i10 := hz10
 iterate 4 refine z ?_
 refine yO rfl rfl (a1F hT hB rfl rfl rfl a1E) rfl ?_
 iterate 3 refine z ?_
 refine a0p ?_
 refine a0p ?_
 refine a0h (a3a 95031 (b := 7) (i := 0) (e := 40) (sz := 5) rfl rfl rfl rfl rfl) ?_
 simp only [a0l, a0i, SV.kill, CV.kill, kk, Nat.reduceBEq]
 refine a0o ?_
 refine yO rfl rfl (a0U (.inl rfl) (a1w (a0a rfl))) rfl ?_
 iterate 2 refine z ?_
 refine a1Z 15000 rfl rfl rfl Tryz.call37 (a4B (code := code) (i := i10) (h := h10) (n := (m) + (1)) (by omega) (by omega) ) (a0a rfl) rfl a1G rfl (fun _ => rfl) (a2t (a0a rfl) (a0I a0c) rfl a1I) rfl (fun _ => rfl) (fun _ => rfl) (fun zz hz15 => ?_)
 obtain ⟨e15, i15, h15⟩ := zz
 replace hz15 : 0 ≤ e15 ∧ (0 < ((m) + (1)) → e15 < ((m) + (1))) ∧ 0 ≤ i15 := hz15
 iterate 3 refine z ?_
 refine a1f (ι := Int × List TxT × Int × Int) (fun zz => ⟨[(0, .abox 0), (4, .box 4 0), (5, .box 5 0), (6, .box 6 0), (7, .box 7 0), (8, .one (.dv [] (.int .i64 (zz.1))))], [(0, 81, [(.arg 900001 (a1h (code))), (.dv [] (.int .i64 (zz.2.2.1))), (.dv [] (.int .i64 (zz.2.2.2)))]), (4, 27, [(.dv [] (.str (ByteArray.empty))), (.dv [] (.int .i64 (0))), .nil, .nil]), (5, 30, [.nil]), (6, 27, [(.dv [] (.str (e10.1))), (.dv [] (.int .i64 (e10.2.1))), (.key 90031), (.key 90900)]), (7, 30, [(.key 95031)])], [(95031, some (a0b false (.sl 40 5 (zz.2.1.length) (zz.2.1.flatMap eTx)))), (90031, some (a0b false (a0k (e10.2.2.1)))), (90900, some (a0b false (a0r (e10.2.2.2))))]⟩) (fun zz => a3L zz.2.1 ∧ (zz.2.1.length : Int) + zz.1 ≤ m ∧ 0 ≤ zz.2.2.1 ∧ 0 ≤ zz.1) (fun zz => zz.1.toNat) ((e15, [], i15, h15)) ?_ (a0e ⟨rfl, rfl, rfl, rfl, rfl, rfl, trivial⟩ ⟨rfl, rfl, rfl, rfl, rfl, trivial⟩ ⟨rfl, rfl, rfl, trivial⟩ rfl) (fun zz hx => ?_)
 ·exact ⟨fq_nil, by have := hz15.2.1 (by omega); dsimp only; simp; omega, by dsimp only; omega, by dsimp only; omega⟩
 obtain ⟨n, q, ci, ch⟩ := zz
 replace hx : a3L q ∧ (q.length : Int) + n ≤ m ∧ 0 ≤ ci ∧ 0 ≤ n := hx
 obtain ⟨hok, hl, hci, hn0⟩ := hx
 show Ok _ _ _ _ _ (⟨[(0, .abox 0), (4, .box 4 0), (5, .box 5 0), (6, .box 6 0), (7, .box 7 0), (8, .one (.dv [] (.int .i64 (n))))], [(0, 81, [(.arg 900001 (a1h (code))), (.dv [] (.int .i64 (ci))), (.dv [] (.int .i64 (ch)))]), (4, 27, [(.dv [] (.str (ByteArray.empty))), (.dv [] (.int .i64 (0))), .nil, .nil]), (5, 30, [.nil]), (6, 27, [(.dv [] (.str (e10.1))), (.dv [] (.int .i64 (e10.2.1))), (.key 90031), (.key 90900)]), (7, 30, [(.key 95031)])], [(95031, some (a0b false (.sl 40 5 (q.length) (q.flatMap eTx)))), (90031, some (a0b false (a0k (e10.2.2.1)))), (90900, some (a0b false (a0r (e10.2.2.2))))]⟩ : St)
 iterate 5 refine z ?_
 refine yQ rfl (fun c1 => ?_) fun c1 => ?_
 ·have d1 := of_decide_eq_true c1
  iterate 4 refine z ?_
  refine a6j [0] [0, 1, 2, 3, 4] (oB := [4, 5, 6, 7]) (oK := [90031, 90900, 95031]) (by kernel_rfl) rfl rfl ?_
  refine a2e 0 rfl (by kernel_rfl) rfl rfl (a2v hT rfl rfl (a0a rfl) rfl rfl) rfl rfl rfl rfl rfl ?_
  refine a2e 1 rfl (by kernel_rfl) rfl rfl (a0U (.inl rfl) (a1w (a0a rfl))) rfl rfl rfl rfl rfl ?_
  refine a2F 2 [] (by kernel_rfl) ⟨?_, trivial⟩
  refine a4x 23000 2 rfl rfl rfl rfl rfl Tryz.call39 (c2k (code := code) (i := ci) (h := ch) (m := 4) (by omega) (by omega) (by omega)) (a0a rfl) rfl a1G rfl (fun _ => rfl) (a2t (a0n (a0m rfl)) (a0I a0c) rfl a1I) rfl (fun _ => rfl) (fun _ => rfl) rfl (fun zz hz23 => ?_)
  obtain ⟨e23, i23, h23⟩ := zz
  replace hz23 : a5H e23 ∧ (e23.length : Int) ≤ (4 : Int) ∧ 0 ≤ i23 := hz23
  have hwq := b3A hok.1
  have hwo := b8L hz23.1
  refine a2F 3 [] (by kernel_rfl) ⟨?_, trivial⟩
  refine a8x 6030 3 rfl rfl rfl rfl Tryz.call38 (c0D (x := q) (y := e23) (by omega) (by omega)) (a0g (a0a rfl) (a0t (a0d (a1d rfl rfl) a0s)) (a0g (a0a rfl) (a0I (a1d rfl rfl)) a0w)) rfl rfl rfl rfl rfl rfl ?_
  refine a2e 4 rfl (by kernel_rfl) rfl rfl (a0U (.inl rfl) (a0a rfl)) rfl rfl rfl rfl rfl ?_
  refine a4q 5 rfl (by kernel_rfl) rfl rfl rfl (a3q rfl (a0a rfl) rfl) rfl rfl ?_
  refine a4q 6 rfl (by kernel_rfl) rfl rfl rfl (a2L rfl (a0a rfl) rfl) rfl rfl ?_
  refine a4q 7 rfl (by kernel_rfl) rfl rfl rfl (a2L rfl (a0a rfl) rfl) rfl rfl ?_
  refine a6W [8] rfl rfl (by kernel_rfl) ?_
  refine z ?_
  refine a1z ?_
  iterate 2 refine z ?_
  refine a0o ?_
  iterate 4 refine z ?_
  refine ⟨(n - 1, (a4Y q e23).1, i23, h23), ?_, ?_, a4h (a2i (b := 7) (i := 0) (k := 96031) (k' := 95031) rfl rfl rfl rfl (by simp) rfl rfl) (a0e ⟨rfl, rfl, rfl, rfl, rfl, rfl, trivial⟩ ⟨rfl, rfl, rfl, rfl, rfl, trivial⟩ ⟨rfl, rfl, rfl, trivial⟩ rfl)⟩
  ·have hnq := b9m hok (by omega) hz23.1 (by omega)
   exact ⟨hnq.1, by dsimp only; rw [hnq.2]; omega, by dsimp only; omega, by dsimp only; omega⟩
  ·dsimp only; omega
 ·have d1 := of_decide_eq_false c1
  iterate 5 refine z ?_
  refine a0p ?_
  refine a5b 4 (oB := [0, 5, 6, 7]) (oK := [90031, 90900, 95031]) (by kernel_rfl) rfl rfl ?_
  refine a1r 0 rfl (by kernel_rfl) rfl rfl (a2v hT rfl rfl (a0a rfl) rfl rfl) rfl rfl rfl rfl rfl ?_
  refine a1r 1 rfl (by kernel_rfl) rfl rfl (a2v hT rfl rfl (a0a rfl) rfl rfl) rfl rfl rfl rfl rfl ?_
  refine a4W 2 rfl (by kernel_rfl) rfl hT rfl rfl rfl (a0a rfl) (a0a rfl) rfl rfl rfl rfl rfl rfl ?_
  refine a4G [3] rfl rfl (by kernel_rfl) ?_
  iterate 2 refine z ?_
  refine a0h (σ' := ⟨[(4, .box 4 0), (5, .box 5 0), (0, .abox 0)], [(4, 27, [(.dv [] (.str (e10.1))), (.dv [] (.int .i64 (e10.2.1))), (.key 90031), (.key 90900)]), (5, 30, [(.key 95031)]), (0, 81, [(.arg 900001 (a1h (code))), (.dv [] (.int .i64 (ci))), (.dv [] (.int .i64 (ch)))])], [(90031, some (a0b false (a0k (e10.2.2.1)))), (90900, some (a0b false (a0r (e10.2.2.2)))), (95031, some (a0b false (.sl 40 5 (q.length) (q.flatMap eTx))))]⟩) (a0e ⟨rfl, rfl, rfl, trivial⟩ ⟨rfl, rfl, rfl, trivial⟩ ⟨rfl, rfl, rfl, trivial⟩ rfl) ?_
  refine z ?_
  refine a1N (a0C hT rfl rfl rfl rfl) (a0C hT rfl rfl rfl rfl) rfl rfl ⟨(((e10.1), ((e10.2.1), ((e10.2.2.1), (e10.2.2.2)))), (q), ci, ch), ?_, rfl, rfl, rfl, rfl⟩
  try dsimp only
  exact ⟨hz10.1, hok, by omega, by omega⟩
theorem c2u {code : List UInt8} {i h : Int} (hc : code.length ≤ 1048576) (hi : 0 ≤ i) : BFn Tryz.prog 18 [] 81 (a1h (code)) [.dv [] (.int .i64 (i)), .dv [] (.int .i64 (h))] (fun zz : List Int × Int × Int => zz.1.length ≤ 12 ∧ 0 ≤ zz.2.1) (fun zz : List Int × Int × Int => .one (.key 9001)) (fun zz : List Int × Int × Int => [(9001, some (a0b false (a3w (zz.1))))]) (fun zz : List Int × Int × Int => [.dv [] (.int .i64 (zz.2.1)), .dv [] (.int .i64 (zz.2.2))]) := by
 refine ⟨a3r Tryz.func18 rfl Tryz.ntmps18 Tryz.results18 rfl (fun C => ?_)⟩
 iterate 4 refine z ?_
 refine a3p (k := 9001) hT rfl rfl rfl rfl rfl rfl rfl rfl ?_
 iterate 4 refine z ?_
 refine yO rfl rfl (a0U (.inl rfl) (a1w (a0a rfl))) rfl ?_
 refine a1Z 7000 rfl rfl rfl Tryz.call37 (a4B (code := code) (i := i) (h := h) (n := 12) (by omega) (by omega) ) (a0a rfl) rfl a1G rfl (fun _ => rfl) (a2t (a0n (a0m rfl)) (a0I a0c) rfl a1I) rfl (fun _ => rfl) (fun _ => rfl) (fun zz hz7 => ?_)
 obtain ⟨e7, i7, h7⟩ := zz
 replace hz7 : 0 ≤ e7 ∧ (0 < (12 : Int) → e7 < (12 : Int)) ∧ 0 ≤ i7 := hz7
 iterate 3 refine z ?_
 refine a1f (ι := Int × List Int × Int × Int) (fun zz => ⟨[(0, .abox 0), (2, .one .nil), (3, .one (.key 9001)), (4, .one (.dv [] (.int .i64 (zz.1))))], [(0, 81, [(.arg 900001 (a1h (code))), (.dv [] (.int .i64 (zz.2.2.1))), (.dv [] (.int .i64 (zz.2.2.2)))])], [(9001, some (a0b false (.sl 3 1 (zz.2.1.length) (zz.2.1.flatMap a4T))))]⟩) (fun zz => (zz.2.1.length : Int) + zz.1 ≤ 12 ∧ 0 ≤ zz.2.2.1 ∧ 0 ≤ zz.1) (fun zz => zz.1.toNat) ((e7, [], i7, h7)) ?_ (a0e ⟨rfl, rfl, rfl, rfl, trivial⟩ ⟨rfl, trivial⟩ ⟨rfl, trivial⟩ rfl) (fun zz hx => ?_)
 ·exact ⟨by have := hz7.2.1 (by omega); dsimp only; simp; omega, by dsimp only; omega, by dsimp only; omega⟩
 obtain ⟨n, l, ci, ch⟩ := zz
 replace hx : (l.length : Int) + n ≤ 12 ∧ 0 ≤ ci ∧ 0 ≤ n := hx
 obtain ⟨hl, hci, hn0⟩ := hx
 show Ok _ _ _ _ _ (⟨[(0, .abox 0), (2, .one .nil), (3, .one (.key 9001)), (4, .one (.dv [] (.int .i64 (n))))], [(0, 81, [(.arg 900001 (a1h (code))), (.dv [] (.int .i64 (ci))), (.dv [] (.int .i64 (ch)))])], [(9001, some (a0b false (.sl 3 1 (l.length) (l.flatMap a4T))))]⟩ : St)
 iterate 5 refine z ?_
 refine yQ rfl (fun c1 => ?_) fun c1 => ?_
 ·have d1 := of_decide_eq_true c1
  iterate 4 refine z ?_
  refine a0o ?_
  refine z ?_
  refine yO rfl rfl (a0U (.inl rfl) (a1w (a0a rfl))) rfl ?_
  refine a1Z 14000 rfl rfl rfl Tryz.call37 (a4B (code := code) (i := ci) (h := ch) (n := 7) (by omega) (by omega) ) (a0a rfl) rfl a1G rfl (fun _ => rfl) (a2t (a0n (a0m rfl)) (a0I a0c) rfl a1I) rfl (fun _ => rfl) (fun _ => rfl) (fun zz hz14 => ?_)
  obtain ⟨e14, i14, h14⟩ := zz
  replace hz14 : 0 ≤ e14 ∧ (0 < (7 : Int) → e14 < (7 : Int)) ∧ 0 ≤ i14 := hz14
  refine z ?_
  refine a4b (k := 16) (js := []) hT rfl rfl rfl rfl rfl rfl rfl rfl rfl (a0a rfl) rfl rfl (a0q (a0B rfl) a1t rfl) (by decide) (by decide) rfl rfl ?_
  simp only [a0l, a0i, SV.kill, CV.kill, kk, Nat.reduceBEq]
  refine a2z (k := 9001) (j := 16) (cs := (l ++ [e14 - 1]).flatMap a4T) (n := (l ++ [e14 - 1]).length) hT rfl rfl rfl rfl rfl rfl rfl (a0a rfl) rfl rfl rfl (a0a rfl) rfl rfl (by decide) (by dsimp only [a0b, KC.old]; omega) (by dsimp only [a0b, KC.old]; omega) (by rw [List.length_append]; rfl) (by rw [List.flatMap_append]; rfl) ?_
  simp only [a0l, a0i, SV.kill, CV.kill, kk, Nat.reduceBEq]
  refine z ?_
  refine a1z ?_
  iterate 2 refine z ?_
  refine a0o ?_
  iterate 4 refine z ?_
  refine ⟨(n - 1, l ++ [e14 - 1], i14, h14), ?_, ?_, a0e ⟨rfl, rfl, rfl, rfl, trivial⟩ ⟨rfl, trivial⟩ ⟨rfl, trivial⟩ rfl⟩
  ·exact ⟨by dsimp only; rw [List.length_append, List.length_singleton]; omega, by dsimp only; omega, by dsimp only; omega⟩
  ·dsimp only; omega
 ·have d1 := of_decide_eq_false c1
  iterate 9 refine z ?_
  refine a0h (σ' := ⟨[(2, .one (.key 9001)), (0, .abox 0)], [(0, 81, [(.arg 900001 (a1h (code))), (.dv [] (.int .i64 (ci))), (.dv [] (.int .i64 (ch)))])], [(9001, some (a0b false (.sl 3 1 (l.length) (l.flatMap a4T))))]⟩) (a0e ⟨rfl, rfl, trivial⟩ ⟨rfl, trivial⟩ ⟨rfl, trivial⟩ rfl) ?_
  refine z ?_
  refine a1x (a0v rfl) ⟨((l), ci, ch), ?_, rfl, rfl, rfl, rfl⟩
  try dsimp only
  exact ⟨by omega, by omega⟩
theorem b9o {code : List UInt8} (hc : code.length ≤ 1048576) : EFn Tryz.prog 6 [.one (.dv [] (a1h (code)))] (fun zz : DbT × List TxT × List Int => a0F zz.1 = true ∧ a3L zz.2.1 ∧ zz.2.1.length ≤ 5 ∧ zz.2.2.length ≤ 12) (fun zz : DbT × List TxT × List Int => .tup [(true, [(.dv [] (.str (zz.1.1))), (.dv [] (.int .i64 (zz.1.2.1))), (.key 90031), (.key 90900)]), (true, [(.key 95031)]), (false, [(.key 97001)])]) (fun zz : DbT × List TxT × List Int => [(90031, some (a0b false (a0k (zz.1.2.2.1)))), (90900, some (a0b false (a0r (zz.1.2.2.2)))), (95031, some (a0b false (a1q (zz.2.1)))), (97001, some (a0b false (a3w (zz.2.2))))]) := by
 refine ⟨a0R Tryz.func6 rfl Tryz.ntmps6 Tryz.results6 rfl (fun C => ?_)⟩
 refine a1i (x := .tmp 0) (a0a rfl) fun f0 => ?_
 iterate 7 refine z ?_
 refine c2S rfl rfl rfl Tryz.call16 (c2Q (code := code) (by omega)) (a0a rfl) a0c rfl (fun _ => rfl) rfl rfl (fun zz hz9 => ?_)
 obtain ⟨i9, h9⟩ := zz
 replace hz9 : 0 ≤ i9 := hz9
 iterate 4 refine z ?_
 refine a1Z 0 rfl rfl rfl Tryz.call17 (c3s (code := code) (i := i9) (h := h9) (m := 5) (by omega) (by omega) (by omega)) (a0a rfl) rfl a0c rfl (fun _ => rfl) (a2t (a0n (a0m rfl)) (a0I a0c) rfl a1I) rfl (fun _ => rfl) (fun _ => rfl) (fun zz hz12 => ?_)
 obtain ⟨e12_0, e12_1, i12, h12⟩ := zz
 replace hz12 : a0F e12_0 = true ∧ a3L e12_1 ∧ (e12_1.length : Int) ≤ (5 : Int) ∧ 0 ≤ i12 := hz12
 iterate 8 refine z ?_
 refine a0p ?_
 refine a6j [9, 2, 3] [0, 1, 2, 3, 4, 5, 6] (oB := [6, 7]) (oK := [90031, 90900, 95031]) (by kernel_rfl) rfl rfl ?_
 refine a2e 0 rfl (by kernel_rfl) rfl rfl (a2v hT rfl rfl (a0a rfl) rfl rfl) rfl rfl rfl rfl rfl ?_
 refine a2e 1 rfl (by kernel_rfl) rfl rfl (a2v hT rfl rfl (a0a rfl) rfl rfl) rfl rfl rfl rfl rfl ?_
 refine a2e 2 rfl (by kernel_rfl) rfl rfl (a0U (.inl rfl) (a0a rfl)) rfl rfl rfl rfl rfl ?_
 refine a2F 3 [] (by kernel_rfl) ⟨?_, trivial⟩
 refine a4x 88000 3 rfl rfl rfl rfl rfl Tryz.call18 (c2u (code := code) (i := i12) (h := h12) (by omega) (by omega)) (a0a rfl) rfl a0c rfl (fun _ => rfl) a1I rfl (fun _ => rfl) (fun _ => rfl) rfl (fun zz hz18 => ?_)
 obtain ⟨e18, i18, h18⟩ := zz
 replace hz18 : e18.length ≤ 12 ∧ 0 ≤ i18 := hz18
 refine a2F 4 [] (by kernel_rfl) ⟨?_, trivial⟩
 refine b7j 2 4 rfl rfl rfl hT rfl rfl rfl (a0a rfl) (a0a rfl) rfl rfl rfl rfl rfl rfl ?_
 refine a2F 5 [] (by kernel_rfl) ⟨?_, trivial⟩
 refine b7j 3 5 rfl rfl rfl hT rfl rfl rfl (a0a rfl) (a0a rfl) rfl rfl rfl rfl rfl rfl ?_
 refine a2F 6 [] (by kernel_rfl) ⟨?_, trivial⟩
 refine c1h 6 rfl rfl rfl (a0U (.inr rfl) (a0a rfl)) rfl rfl rfl rfl rfl ?_
 refine c4v (by kernel_rfl) ?_
 refine z ?_
 refine a0h (σ' := ⟨[(2, .box 2 0), (3, .box 3 0), (4, .one (.key 97001))], [(2, 27, [(.dv [] (.str (e12_0.1))), (.dv [] (.int .i64 (e12_0.2.1))), (.key 90031), (.key 90900)]), (3, 30, [(.key 95031)])], [(90031, some (a0b false (a0k (e12_0.2.2.1)))), (90900, some (a0b false (a0r (e12_0.2.2.2)))), (95031, some (a0b false (a1q (e12_1)))), (97001, some (a0b false (a3w (e18))))]⟩) (a0e ⟨rfl, rfl, rfl, trivial⟩ ⟨rfl, rfl, trivial⟩ ⟨rfl, rfl, rfl, rfl, trivial⟩ rfl) ?_
 refine z ?_
 refine a1J (a0C hT rfl rfl rfl rfl) (a0C hT rfl rfl rfl rfl) (a0v rfl) rfl rfl rfl ⟨(((e12_0.1), ((e12_0.2.1), ((e12_0.2.2.1), (e12_0.2.2.2)))), (e12_1), (e18)), ?_, rfl, rfl⟩
 try dsimp only
 exact ⟨hz12.1, hz12.2.1, by omega, hz18.1⟩
end Go.Proofs.YtjkpoekgnmgofaaGreat

namespace Go.Proofs.YtjkpoekgnmgofaaGreat
open Go.RowKit
open Go.Proofs
set_option linter.unusedVariables false
set_option linter.unusedSimpArgs false

theorem a9y {q : List TxT} (h : a3L q) : ∀ t ∈ q, b1j t := fun t ht => by
 obtain ⟨a, b, c, _, e⟩ := h.1 t ht
 exact ⟨a, b, c, by omega⟩
theorem b4S (s : StT) (i : Int) : a2y (stS s i).2 ≤ a2y s.2 := by
 unfold stS a2M
 split
 ·exact Nat.le_refl _
 ·rename_i h
  have hg := a9Q (q := s.2) (i := i) (by simpa using h)
  have hj : i.toNat < s.2.length := by omega
  have hn : ∀ (t : TxT) (a st : Int), wTx (t.1, t.2.1, a, st, []) ≤ wTx t := fun t a st => by
   have e1 : wTx (t.1, t.2.1, a, st, []) = a1a wOp t.2.1 + a1a a0X [] := rfl
   have e2 : wTx t = a1a wOp t.2.1 + a1a a0X t.2.2.2.2 := rfl
   have e3 : a1a a0X [] = 0 := rfl
   omega
  unfold a5p
  split
  ·split
   ·dsimp only
    refine Nat.le_trans (b0b (B := 0) hj ?_) (Nat.le_refl _)
    split
    ·exact Nat.le_refl _
    ·exact hn _ _ _
   ·exact Nat.le_trans (b0b (B := 0) hj (hn _ _ _)) (Nat.le_refl _)
  ·exact Nat.le_trans (b0b (B := 0) hj (hn _ _ _)) (Nat.le_refl _)
section
variable {d : DbT} {q0 : List TxT} {s : StT}
theorem b3D (hq : a3L q0) (h : a2A d q0 s) (i : Int) : a2y (saS s i).2 ≤ a2y s.2 + 30000 := by
 obtain ⟨cur, h⟩ := h
 have e0 : (saS s i).2 = (a3Y s.1 s.2 i).1 := rfl
 rw [e0]
 cases hc : a2T s.2 i with
 | false => rw [b8C hc]; dsimp only; omega
 | true =>
  rw [b8s rfl hc]
  obtain ⟨h1, h2⟩ := b5U hc
  have hit : i.toNat < s.2.length := by omega
  have hiq : i.toNat < q0.length := by rw [← h.len]; exact hit
  have hop : (s.2.getD i.toNat default).2.1 = (q0.getD i.toNat default).2.1 := h.ops _ hiq
  have hmem : q0.getD i.toNat default ∈ q0 := b0E hiq
  obtain ⟨_, _, _, ho, hl4⟩ := hq.1 _ hmem
  rw [← hop] at ho hl4
  refine b0b (B := 30000) hit ?_
  generalize s.2.getD i.toNat default = t at ho hl4
  have hw2 := b5d s.1 (a1s t.2.1)
  have hw3 := b1W s.1 (a1s t.2.1)
  have hw4 := b6z t.2.1
  have hw5 := a6v h.db
  have hw6 : a1B s.1 = s.1.1.size + (s.1.2.2.1.length + a0D a0X s.1.2.2.1) + a1a a2x s.1.2.2.2 := rfl
  have hw7 : (a1s t.2.1).length * a0D a0X s.1.2.2.1 ≤ 4 * 6000 := Nat.mul_le_mul (by omega) (by omega)
  have e1 : wTx (t.1, t.2.1, t.2.2.1, (1 : Int), a2c s.1 (a1s t.2.1)) = a1a wOp t.2.1 + ((a2c s.1 (a1s t.2.1)).length + a0D a0X (a2c s.1 (a1s t.2.1))) := rfl
  have e2 : wTx t = a1a wOp t.2.1 + a1a a0X t.2.2.2.2 := rfl
  omega
theorem b2B (i : Int) : ∀ n, a2y (stN s i n).2 ≤ a2y s.2
 | 0 => Nat.le_refl _
 | n + 1 => Nat.le_trans (b4S _ _) (b2B i n)
theorem b4l (hq : a3L q0) (h : a2A d q0 s) (n c : Int) : ∀ f j, a2y (a2P n c s f j).2 ≤ a2y s.2 + 30000
 | 0, _ => Nat.le_add_right _ _
 | f + 1, j => by
  rw [a2P]
  split
  ·exact b3D hq h _
  ·split
   ·exact Nat.le_trans (b4S _ _) (Nat.le_add_right _ _)
   ·exact b4l hq h n c f (j + 1)
theorem b5Z (n : Nat) (s : StT) (l : List Int) (c : Int) : chS n s (l ++ [c]) = a2P (n : Int) c (chS n s l) n 0 := by unfold chS; rw [List.foldl_append]; rfl
theorem c0j (hd : a0F d = true) (hq : a3L q0) (n : Nat) : ∀ l : List Int, a2A d q0 (chS n (d, q0) l) ∧ a2y (chS n (d, q0) l).2 ≤ a2y q0 + 30000 * l.length := by
 have key : ∀ (m : Nat) (l : List Int), l.length = m → a2A d q0 (chS n (d, q0) l) ∧ a2y (chS n (d, q0) l).2 ≤ a2y q0 + 30000 * l.length := by
  intro m
  induction m with
  | zero => intro l hl; rw [List.length_eq_zero_iff.1 hl]; exact ⟨b1B hd (a9y hq), by show a2y q0 ≤ _; omega⟩
  | succ m ih =>
   intro l hl
   have hne : l ≠ [] := fun e => by rw [e] at hl; simp at hl
   obtain ⟨k1, k2⟩ := ih l.dropLast (by rw [List.length_dropLast]; omega)
   rw [← List.dropLast_concat_getLast hne, b5Z]
   refine ⟨b1Q hd (a9S (a9y hq)) _ _ k1 _ _, ?_⟩
   have := b4l hq k1 (n : Int) (l.getLast hne) n 0
   rw [List.length_append, List.length_singleton, Nat.mul_succ, ← Nat.add_assoc]
   exact Nat.le_trans this (Nat.add_le_add_right k2 _)
 exact fun l => key _ l rfl
theorem b4B (hd : a0F d = true) (hq : a3L q0) (h : a2A d q0 s) : ∀ k, a2A d q0 (a5U s k) ∧ a2y (a5U s k).2 ≤ a2y s.2 + 30000 * k
 | 0 => ⟨h, by show a2y s.2 ≤ _; omega⟩
 | k + 1 => by
  obtain ⟨h1, h2⟩ := b4B hd hq h k
  refine ⟨b5I hd (a9S (a9y hq)) h1 k, ?_⟩
  have h3 := b3D hq h1 (k : Int)
  have h4 := b2B (s := saS (a5U s k) (k : Int)) (k : Int) 8
  rw [Nat.mul_succ, ← Nat.add_assoc]
  exact Nat.le_trans h4 (Nat.le_trans h3 (Nat.add_le_add_right h2 _))
end

end Go.Proofs.YtjkpoekgnmgofaaGreat

namespace Go.Proofs.YtjkpoekgnmgofaaGreat
open Go.RowKit
open Go.Proofs
set_option linter.unusedVariables false
set_option linter.unusedSimpArgs false

theorem c1A {n c : Int} {s : StT} {f j : Nat} (h : a2T s.2 (atI n c j) = true) : a2P n c s (f + 1) j = saS s (atI n c j) := by rw [a2P, if_pos h]
theorem b9Q {n c : Int} {s : StT} {f j : Nat} (h : (s.2.getD (atI n c j).toNat default).2.2.2.1 = 1) : a2P n c s (f + 1) j = stS s (atI n c j) := by
 rw [a2P, if_neg, if_pos h]
 intro hc
 obtain ⟨j', e, _, h5, _⟩ := a9Y hc
 have : stt s.2 j' = (s.2.getD (atI n c j).toNat default).2.2.2.1 := by rw [e, Int.toNat_natCast]
 rw [this, h] at h5
 exact absurd h5 (by decide)
theorem c6h {n c : Int} {s : StT} {f j : Nat} (h : a2T s.2 (atI n c j) = false) (h2 : ¬ (s.2.getD (atI n c j).toNat default).2.2.2.1 = 1) : a2P n c s (f + 1) j = a2P n c s f (j + 1) := by rw [a2P, if_neg (by rw [h]; decide), if_neg h2]
theorem b1R {n : Nat} {s : StT} {L : List Int} {i : Nat} (h : i < L.length) : chS n s (L.take (i + 1)) = a2P (n : Int) (L.getD (i : Int).toNat default) (chS n s (L.take i)) n 0 := by
 rw [List.take_add_one, List.getElem?_eq_getElem h]
 show chS n s (L.take i ++ [L[i]]) = _
 rw [b5Z, a5r h]

theorem c4f {d : DbT} {q : List TxT} {l : List Int} (hd : a0F d = true) (hq : a3L q) (hq5 : q.length ≤ 5) (hl : l.length ≤ 100) : KFn Tryz.prog 12 [.agg [(.dv [] (.str (d.1))), (.dv [] (.int .i64 (d.2.1))), (.dv [] (a0k (d.2.2.1))), (.dv [] (a0r (d.2.2.2)))], .agg [(.dv [] (a1q (q)))], .one (.dv [] (a3w (l)))] (.tup [(true, [(.dv [] (.str ((a2d d q l).1.1))), (.dv [] (.int .i64 ((a2d d q l).1.2.1))), (.key 90031), (.key 90900)]), (true, [(.key 95031)])]) [(90031, some (a0b false (a0k ((a2d d q l).1.2.2.1)))), (90900, some (a0b false (a0r ((a2d d q l).1.2.2.2)))), (95031, some (a0b false (a1q ((a2d d q l).2))))] := by
 refine ⟨a0R Tryz.func12 rfl Tryz.ntmps12 Tryz.results12 rfl (fun C => ?_)⟩
 have hdw := a6v hd
 have hqw := b3A hq.1
 have hff := a9y hq
 have hol := a9S hff
 have hqe : a2y q = a1a wTx q := rfl
 have hinf := b1B hd hff
 refine yF 0 0 rfl rfl fun f0_0 => ?_
 refine yF 0 1 rfl rfl fun f0_1 => ?_
 refine yF 0 2 rfl rfl fun f0_2 => ?_
 refine yF 0 3 rfl rfl fun f0_3 => ?_
 refine yF 1 0 rfl rfl fun f1_0 => ?_
 refine a1i (x := .tmp 2) (a0a rfl) fun f2 => ?_
 iterate 8 refine z ?_
 refine zK 90000 Tryz.call24 ?_ (hf := a5S (x := d) (by omega))
 iterate 5 refine z ?_
 refine zK 95000 Tryz.call19 ?_ (hf := b3h (x := q) (by omega))
 iterate 6 refine z ?_
 refine zC Tryz.call30 ?_ (hf := a8q (x := d) )
 iterate 2 refine z ?_
 refine yQ rfl (fun c1 => ?_) fun c1 => ?_
 ·exact absurd c1 (by rw [hd]; decide)
 ·iterate 13 refine z ?_
  refine yO rfl rfl (c4Y rfl (a0n (a0m rfl)) (a0a rfl)) rfl ?_
  refine yO rfl rfl (b0J hT rfl rfl rfl (a0a rfl) (a0a rfl) (fun _ => rfl) (by omega) (by omega)) rfl ?_
  iterate 4 refine z ?_
  refine a1f (ι := Nat × StT) (fun zz => ⟨[(6, .box 6 0), (7, .box 7 0), (8, .box 8 0), (9, .box 9 0), (10, .one (.dv [] (.int .i64 ((((q)).length : Int))))), (33, .one (.dv [] (a3w (((l)).take (min (60) ((((l)).length : Int))).toNat)))), (34, .one (.dv [] (.int .i64 ((((((l)).take (min (60) ((((l)).length : Int))).toNat)).length : Int))))), (35, .one (.dv [] (.int .i64 ((zz.1 : Int)))))], [(3, 27, [(.dv [] (.str (d.1))), (.dv [] (.int .i64 (d.2.1))), (.dv [] (a0k (d.2.2.1))), (.dv [] (a0r (d.2.2.2)))]), (6, 27, [(.dv [] (.str (ByteArray.empty))), (.dv [] (.int .i64 (0))), .nil, .nil]), (7, 30, [.nil]), (8, 27, [(.dv [] (.str (zz.2.1.1))), (.dv [] (.int .i64 (zz.2.1.2.1))), (.key 90031), (.key 90900)]), (9, 30, [(.key 95031)])], [(90031, some (a0b false (.sl 60 3 (zz.2.1.2.2.1.length) (zz.2.1.2.2.1.flatMap a0T)))), (90900, some (a0b false (.sl 78 2 (zz.2.1.2.2.2.length) (zz.2.1.2.2.2.flatMap a1O)))), (95031, some (a0b false (.sl 40 5 (zz.2.2.length) (zz.2.2.flatMap eTx))))]⟩) (fun zz => zz.1 ≤ (l.take (min (60 : Int) (l.length : Int)).toNat).length ∧ zz.2 = chS q.length (d, q) ((l.take (min (60 : Int) (l.length : Int)).toNat).take zz.1)) (fun zz => (l.take (min (60 : Int) (l.length : Int)).toNat).length - zz.1) ((0, d, q)) ?_ (a0e ⟨rfl, rfl, rfl, rfl, rfl, rfl, rfl, rfl, trivial⟩ ⟨rfl, rfl, rfl, rfl, rfl, trivial⟩ ⟨rfl, rfl, rfl, trivial⟩ rfl) (fun zz hx => ?_)
  ·exact ⟨Nat.zero_le _, rfl⟩
  obtain ⟨i, s⟩ := zz
  replace hx : i ≤ (l.take (min (60 : Int) (l.length : Int)).toNat).length ∧ s = chS q.length (d, q) ((l.take (min (60 : Int) (l.length : Int)).toNat).take i) := hx
  obtain ⟨hi, hs⟩ := hx
  obtain ⟨hIs, hw⟩ := c0j hd hq q.length ((l.take (min (60 : Int) (l.length : Int)).toNat).take i)
  rw [← hs] at hIs hw
  have hlb : ((l.take (min (60 : Int) (l.length : Int)).toNat).take i).length ≤ 60 := by rw [List.length_take, List.length_take]; omega
  have hmb := Nat.mul_le_mul_left 30000 hlb
  have hL100 : (l.take (min (60 : Int) (l.length : Int)).toNat).length ≤ 100 := by rw [List.length_take]; omega
  have hsd : a0F s.1 = true := by obtain ⟨cur, h⟩ := hIs; exact h.db
  have hsl : s.2.length = q.length := by obtain ⟨cur, h⟩ := hIs; exact h.len
  have hsw := a6v hsd
  have hse : a2y s.2 = a1a wTx s.2 := rfl
  show Ok _ _ _ _ _ (⟨[(6, .box 6 0), (7, .box 7 0), (8, .box 8 0), (9, .box 9 0), (10, .one (.dv [] (.int .i64 ((((q)).length : Int))))), (33, .one (.dv [] (a3w (((l)).take (min (60) ((((l)).length : Int))).toNat)))), (34, .one (.dv [] (.int .i64 ((((((l)).take (min (60) ((((l)).length : Int))).toNat)).length : Int))))), (35, .one (.dv [] (.int .i64 ((i : Int)))))], [(3, 27, [(.dv [] (.str (d.1))), (.dv [] (.int .i64 (d.2.1))), (.dv [] (a0k (d.2.2.1))), (.dv [] (a0r (d.2.2.2)))]), (6, 27, [(.dv [] (.str (ByteArray.empty))), (.dv [] (.int .i64 (0))), .nil, .nil]), (7, 30, [.nil]), (8, 27, [(.dv [] (.str (s.1.1))), (.dv [] (.int .i64 (s.1.2.1))), (.key 90031), (.key 90900)]), (9, 30, [(.key 95031)])], [(90031, some (a0b false (.sl 60 3 (s.1.2.2.1.length) (s.1.2.2.1.flatMap a0T)))), (90900, some (a0b false (.sl 78 2 (s.1.2.2.2.length) (s.1.2.2.2.flatMap a1O)))), (95031, some (a0b false (.sl 40 5 (s.2.length) (s.2.flatMap eTx))))]⟩ : St)
  iterate 3 refine z ?_
  refine a0p ?_
  refine yQ rfl (fun c2 => ?_) fun c2 => ?_
  ·have d2 := of_decide_eq_true c2
   have hi2 : i < (l.take (min (60 : Int) (l.length : Int)).toNat).length := by omega
   iterate 13 refine z ?_
   refine a1f (ι := Nat) (fun zz => ⟨[(6, .box 6 0), (7, .box 7 0), (8, .box 8 0), (9, .box 9 0), (10, .one (.dv [] (.int .i64 ((((q)).length : Int))))), (12, .one (.dv [] (.int .i64 ((((((l)).take (min (60) ((((l)).length : Int))).toNat)).getD ((i : Int)).toNat default))))), (13, .one (.dv [] (.int .i64 ((zz : Int))))), (33, .one (.dv [] (a3w (((l)).take (min (60) ((((l)).length : Int))).toNat)))), (34, .one (.dv [] (.int .i64 ((((((l)).take (min (60) ((((l)).length : Int))).toNat)).length : Int))))), (35, .one (.dv [] (.int .i64 ((i : Int)))))], [(3, 27, [(.dv [] (.str (d.1))), (.dv [] (.int .i64 (d.2.1))), (.dv [] (a0k (d.2.2.1))), (.dv [] (a0r (d.2.2.2)))]), (6, 27, [(.dv [] (.str (ByteArray.empty))), (.dv [] (.int .i64 (0))), .nil, .nil]), (7, 30, [.nil]), (8, 27, [(.dv [] (.str (s.1.1))), (.dv [] (.int .i64 (s.1.2.1))), (.key 90031), (.key 90900)]), (9, 30, [(.key 95031)])], [(90031, some (a0b false (.sl 60 3 (s.1.2.2.1.length) (s.1.2.2.1.flatMap a0T)))), (90900, some (a0b false (.sl 78 2 (s.1.2.2.2.length) (s.1.2.2.2.flatMap a1O)))), (95031, some (a0b false (.sl 40 5 (s.2.length) (s.2.flatMap eTx))))]⟩) (fun zz => zz ≤ q.length ∧ a2P (q.length : Int) ((l.take (min (60 : Int) (l.length : Int)).toNat).getD (i : Int).toNat default) s q.length 0 = a2P (q.length : Int) ((l.take (min (60 : Int) (l.length : Int)).toNat).getD (i : Int).toNat default) s (q.length - zz) zz) (fun zz => q.length - zz) (0) ?_ (a0e ⟨rfl, rfl, rfl, rfl, rfl, rfl, rfl, rfl, rfl, rfl, trivial⟩ ⟨rfl, rfl, rfl, rfl, rfl, trivial⟩ ⟨rfl, rfl, rfl, trivial⟩ rfl) (fun zz hx => ?_)
   ·exact ⟨Nat.zero_le _, rfl⟩
   obtain ⟨j, rfl⟩ : ∃ v, v = zz := ⟨_, rfl⟩
   replace hx : j ≤ q.length ∧ a2P (q.length : Int) ((l.take (min (60 : Int) (l.length : Int)).toNat).getD (i : Int).toNat default) s q.length 0 = a2P (q.length : Int) ((l.take (min (60 : Int) (l.length : Int)).toNat).getD (i : Int).toNat default) s (q.length - j) j := hx
   obtain ⟨hj, hp⟩ := hx
   show Ok _ _ _ _ _ (⟨[(6, .box 6 0), (7, .box 7 0), (8, .box 8 0), (9, .box 9 0), (10, .one (.dv [] (.int .i64 ((((q)).length : Int))))), (12, .one (.dv [] (.int .i64 ((((((l)).take (min (60) ((((l)).length : Int))).toNat)).getD ((i : Int)).toNat default))))), (13, .one (.dv [] (.int .i64 ((j : Int))))), (33, .one (.dv [] (a3w (((l)).take (min (60) ((((l)).length : Int))).toNat)))), (34, .one (.dv [] (.int .i64 ((((((l)).take (min (60) ((((l)).length : Int))).toNat)).length : Int))))), (35, .one (.dv [] (.int .i64 ((i : Int)))))], [(3, 27, [(.dv [] (.str (d.1))), (.dv [] (.int .i64 (d.2.1))), (.dv [] (a0k (d.2.2.1))), (.dv [] (a0r (d.2.2.2)))]), (6, 27, [(.dv [] (.str (ByteArray.empty))), (.dv [] (.int .i64 (0))), .nil, .nil]), (7, 30, [.nil]), (8, 27, [(.dv [] (.str (s.1.1))), (.dv [] (.int .i64 (s.1.2.1))), (.key 90031), (.key 90900)]), (9, 30, [(.key 95031)])], [(90031, some (a0b false (.sl 60 3 (s.1.2.2.1.length) (s.1.2.2.1.flatMap a0T)))), (90900, some (a0b false (.sl 78 2 (s.1.2.2.2.length) (s.1.2.2.2.flatMap a1O)))), (95031, some (a0b false (.sl 40 5 (s.2.length) (s.2.flatMap eTx))))]⟩ : St)
   iterate 6 refine z ?_
   refine yQ rfl (fun c3 => ?_) fun c3 => ?_
   ·have d3 := of_decide_eq_true c3
    have hj2 : j < q.length := by omega
    have hn0 : (0 : Int) < (q.length : Int) := by omega
    have hm0 : (0 : Int) ≤ max (0 : Int) ((l.take (min (60 : Int) (l.length : Int)).toNat).getD (i : Int).toNat default) := Int.le_max_left _ _
    have hm1 := Int.emod_nonneg (max (0 : Int) ((l.take (min (60 : Int) (l.length : Int)).toNat).getD (i : Int).toNat default)) (Int.ne_of_gt hn0)
    have hm2 := Int.emod_lt_of_pos (max (0 : Int) ((l.take (min (60 : Int) (l.length : Int)).toNat).getD (i : Int).toNat default)) hn0
    have hm3 := Int.emod_nonneg (max (0 : Int) ((l.take (min (60 : Int) (l.length : Int)).toNat).getD (i : Int).toNat default) % (q.length : Int) + (j : Int)) (Int.ne_of_gt hn0)
    have hm4 := Int.emod_lt_of_pos (max (0 : Int) ((l.take (min (60 : Int) (l.length : Int)).toNat).getD (i : Int).toNat default) % (q.length : Int) + (j : Int)) hn0
    obtain ⟨f, hf⟩ : ∃ f, q.length - j = f + 1 := ⟨q.length - j - 1, by omega⟩
    rw [hf] at hp
    iterate 6 refine z ?_
    refine yO rfl rfl (c4e rfl (a0n (a0m rfl)) (a0a rfl)) rfl ?_
    refine z ?_
    refine yO rfl rfl (a9T rfl (a0a rfl) (a0a rfl) (by omega) (by omega)) rfl ?_
    iterate 3 refine z ?_
    refine yO rfl rfl (a9T rfl (a0a rfl) (a0a rfl) (by omega) (by omega)) rfl ?_
    iterate 5 refine z ?_
    refine yO rfl rfl (a4F (dd := a1q (s.2)) (a2H hT rfl rfl (a0a rfl) rfl rfl) rfl rfl) rfl ?_
    iterate 6 refine z ?_
    refine yQ rfl (fun c4 => ?_) fun c4 => ?_
    ·have d4 := of_decide_eq_true c4
     iterate 4 refine z ?_
     refine a3Q 100000 rfl rfl rfl Tryz.call10 (b7o (d := s.1) (q := s.2) (i := (atI (q.length : Int) ((l.take (min (60 : Int) (l.length : Int)).toNat).getD (i : Int).toNat default) j)) (by omega) (by omega)) (a0g (a0a rfl) (a0t (a0d a0c (a0d a0c (a0d (a1d rfl rfl) (a0d (a1d rfl rfl) a0s))))) (a0g (a0a rfl) (a0t (a0d (a1d rfl rfl) a0s)) (a0g (a0a rfl) (a0I a0c) a0w))) rfl rfl rfl ?_
     iterate 15 refine z ?_
     refine a0o ?_
     iterate 3 refine z ?_
     refine ⟨(i + 1, stS s (atI (q.length : Int) ((l.take (min (60 : Int) (l.length : Int)).toNat).getD (i : Int).toNat default) j)), ?_, ?_, a4h (a2i (b := 8) (i := 2) (k := 190031) (k' := 90031) rfl rfl rfl rfl (by simp) rfl rfl) (a4h (a2i (b := 8) (i := 3) (k := 190900) (k' := 90900) rfl rfl rfl rfl (by simp) rfl rfl) (a4h (a2i (b := 9) (i := 0) (k := 195031) (k' := 95031) rfl rfl rfl rfl (by simp) rfl rfl) (a0e ⟨rfl, rfl, rfl, rfl, rfl, rfl, rfl, rfl, trivial⟩ ⟨rfl, rfl, rfl, rfl, rfl, trivial⟩ ⟨rfl, rfl, rfl, trivial⟩ rfl)))⟩
     ·exact ⟨by dsimp only; omega, by rw [b1R hi2, ← hs, hp]; exact (b9Q d4).symm⟩
     ·dsimp only; omega
    ·have d4 := of_decide_eq_false c4
     iterate 5 refine z ?_
     refine a4i rfl rfl rfl Tryz.call7 (b8m (q := s.2) (i := (atI (q.length : Int) ((l.take (min (60 : Int) (l.length : Int)).toNat).getD (i : Int).toNat default) j))) (a0g (a0a rfl) (a0t (a0d (a1d rfl rfl) a0s)) (a0g (a0a rfl) (a0I a0c) a0w)) rfl rfl ?_
     refine z ?_
     refine yQ rfl (fun c5 => ?_) fun c5 => ?_
     ·iterate 4 refine z ?_
      refine a3Q 200000 rfl rfl rfl Tryz.call8 (b4n (d := s.1) (q := s.2) (i := (atI (q.length : Int) ((l.take (min (60 : Int) (l.length : Int)).toNat).getD (i : Int).toNat default) j)) (by omega) (by omega)) (a0g (a0a rfl) (a0t (a0d a0c (a0d a0c (a0d (a1d rfl rfl) (a0d (a1d rfl rfl) a0s))))) (a0g (a0a rfl) (a0t (a0d (a1d rfl rfl) a0s)) (a0g (a0a rfl) (a0I a0c) a0w))) rfl rfl rfl ?_
      iterate 12 refine z ?_
      refine a0o ?_
      iterate 3 refine z ?_
      refine ⟨(i + 1, saS s (atI (q.length : Int) ((l.take (min (60 : Int) (l.length : Int)).toNat).getD (i : Int).toNat default) j)), ?_, ?_, a4h (a2i (b := 9) (i := 0) (k := 295031) (k' := 95031) rfl rfl rfl rfl (by simp) rfl rfl) (a0e ⟨rfl, rfl, rfl, rfl, rfl, rfl, rfl, rfl, trivial⟩ ⟨rfl, rfl, rfl, rfl, rfl, trivial⟩ ⟨rfl, rfl, rfl, trivial⟩ rfl)⟩
      ·exact ⟨by dsimp only; omega, by rw [b1R hi2, ← hs, hp]; exact (c1A c5).symm⟩
      ·dsimp only; omega
     ·iterate 3 refine z ?_
      refine a0o ?_
      iterate 4 refine z ?_
      refine ⟨j + 1, ?_, ?_, a0e ⟨rfl, rfl, rfl, rfl, rfl, rfl, rfl, rfl, rfl, rfl, trivial⟩ ⟨rfl, rfl, rfl, rfl, rfl, trivial⟩ ⟨rfl, rfl, rfl, trivial⟩ rfl⟩
      ·exact ⟨by omega, by rw [hp, c6h (by simpa using c5) d4, show q.length - (j + 1) = f by omega]⟩
      ·omega
   ·have d3 := of_decide_eq_false c3
    have hp2 : a2P (q.length : Int) ((l.take (min (60 : Int) (l.length : Int)).toNat).getD (i : Int).toNat default) s q.length 0 = s := by rw [hp, show q.length - j = 0 by omega]; rfl
    iterate 6 refine z ?_
    refine a0o ?_
    iterate 3 refine z ?_
    refine ⟨(i + 1, s), ?_, ?_, a0e ⟨rfl, rfl, rfl, rfl, rfl, rfl, rfl, rfl, trivial⟩ ⟨rfl, rfl, rfl, rfl, rfl, trivial⟩ ⟨rfl, rfl, rfl, trivial⟩ rfl⟩
    ·exact ⟨by dsimp only; omega, by rw [b1R hi2, ← hs, hp2]⟩
    ·dsimp only; omega
  ·have d2 := of_decide_eq_false c2
   have hs0 : s = chS q.length (d, q) (l.take (min (60 : Int) (l.length : Int)).toNat) := by rw [hs, List.take_of_length_le (by omega)]
   have hI0 := hIs
   rw [hs0] at hI0
   have hw0 : a2y (chS q.length (d, q) (l.take (min (60 : Int) (l.length : Int)).toNat)).2 ≤ a2y q + 30000 * 60 := by rw [← hs0]; omega
   iterate 10 refine z ?_
   refine a1f (ι := Nat × StT) (fun zz => ⟨[(6, .box 6 0), (7, .box 7 0), (8, .box 8 0), (9, .box 9 0), (10, .one (.dv [] (.int .i64 ((((q)).length : Int))))), (15, .one (.dv [] (.int .i64 ((zz.1 : Int)))))], [(3, 27, [(.dv [] (.str (d.1))), (.dv [] (.int .i64 (d.2.1))), (.dv [] (a0k (d.2.2.1))), (.dv [] (a0r (d.2.2.2)))]), (6, 27, [(.dv [] (.str (ByteArray.empty))), (.dv [] (.int .i64 (0))), .nil, .nil]), (7, 30, [.nil]), (8, 27, [(.dv [] (.str (zz.2.1.1))), (.dv [] (.int .i64 (zz.2.1.2.1))), (.key 90031), (.key 90900)]), (9, 30, [(.key 95031)])], [(90031, some (a0b false (.sl 60 3 (zz.2.1.2.2.1.length) (zz.2.1.2.2.1.flatMap a0T)))), (90900, some (a0b false (.sl 78 2 (zz.2.1.2.2.2.length) (zz.2.1.2.2.2.flatMap a1O)))), (95031, some (a0b false (.sl 40 5 (zz.2.2.length) (zz.2.2.flatMap eTx))))]⟩) (fun zz => zz.1 ≤ q.length ∧ zz.2 = a5U (chS q.length (d, q) (l.take (min (60 : Int) (l.length : Int)).toNat)) zz.1) (fun zz => q.length - zz.1) ((0, s)) ?_ (a0e ⟨rfl, rfl, rfl, rfl, rfl, rfl, trivial⟩ ⟨rfl, rfl, rfl, rfl, rfl, trivial⟩ ⟨rfl, rfl, rfl, trivial⟩ rfl) (fun zz hx => ?_)
   ·exact ⟨Nat.zero_le _, hs0⟩
   obtain ⟨i, s⟩ := zz
   replace hx : i ≤ q.length ∧ s = a5U (chS q.length (d, q) (l.take (min (60 : Int) (l.length : Int)).toNat)) i := hx
   obtain ⟨hi2, hs2⟩ := hx
   obtain ⟨hIs, hw⟩ := b4B hd hq hI0 i
   rw [← hs2] at hIs hw
   have hmb := Nat.mul_le_mul_left 30000 (show i ≤ 5 by omega)
   have hsd : a0F s.1 = true := by obtain ⟨cur, h⟩ := hIs; exact h.db
   have hsl : s.2.length = q.length := by obtain ⟨cur, h⟩ := hIs; exact h.len
   have hsw := a6v hsd
   have hse : a2y s.2 = a1a wTx s.2 := rfl
   show Ok _ _ _ _ _ (⟨[(6, .box 6 0), (7, .box 7 0), (8, .box 8 0), (9, .box 9 0), (10, .one (.dv [] (.int .i64 ((((q)).length : Int))))), (15, .one (.dv [] (.int .i64 ((i : Int)))))], [(3, 27, [(.dv [] (.str (d.1))), (.dv [] (.int .i64 (d.2.1))), (.dv [] (a0k (d.2.2.1))), (.dv [] (a0r (d.2.2.2)))]), (6, 27, [(.dv [] (.str (ByteArray.empty))), (.dv [] (.int .i64 (0))), .nil, .nil]), (7, 30, [.nil]), (8, 27, [(.dv [] (.str (s.1.1))), (.dv [] (.int .i64 (s.1.2.1))), (.key 90031), (.key 90900)]), (9, 30, [(.key 95031)])], [(90031, some (a0b false (.sl 60 3 (s.1.2.2.1.length) (s.1.2.2.1.flatMap a0T)))), (90900, some (a0b false (.sl 78 2 (s.1.2.2.2.length) (s.1.2.2.2.flatMap a1O)))), (95031, some (a0b false (.sl 40 5 (s.2.length) (s.2.flatMap eTx))))]⟩ : St)
   iterate 6 refine z ?_
   refine yQ rfl (fun c6 => ?_) fun c6 => ?_
   ·have d6 := of_decide_eq_true c6
    iterate 8 refine z ?_
    refine a3Q 300000 rfl rfl rfl Tryz.call8 (b4n (d := s.1) (q := s.2) (i := (i : Int)) (by omega) (by omega)) (a0g (a0a rfl) (a0t (a0d a0c (a0d a0c (a0d (a1d rfl rfl) (a0d (a1d rfl rfl) a0s))))) (a0g (a0a rfl) (a0t (a0d (a1d rfl rfl) a0s)) (a0g (a0a rfl) (a0I a0c) a0w))) rfl rfl rfl ?_
    iterate 9 refine z ?_
    refine a0h (a2i (b := 9) (i := 0) (k := 395031) (k' := 95031) rfl rfl rfl rfl (by simp) rfl rfl) ?_
    refine a1f (ι := Nat × StT) (fun zz => ⟨[(6, .box 6 0), (7, .box 7 0), (8, .box 8 0), (9, .box 9 0), (10, .one (.dv [] (.int .i64 ((((q)).length : Int))))), (15, .one (.dv [] (.int .i64 ((i : Int))))), (16, .one (.dv [] (.int .i64 ((zz.1 : Int)))))], [(3, 27, [(.dv [] (.str (d.1))), (.dv [] (.int .i64 (d.2.1))), (.dv [] (a0k (d.2.2.1))), (.dv [] (a0r (d.2.2.2)))]), (6, 27, [(.dv [] (.str (ByteArray.empty))), (.dv [] (.int .i64 (0))), .nil, .nil]), (7, 30, [.nil]), (8, 27, [(.dv [] (.str (zz.2.1.1))), (.dv [] (.int .i64 (zz.2.1.2.1))), (.key 90031), (.key 90900)]), (9, 30, [(.key 95031)])], [(90031, some (a0b false (.sl 60 3 (zz.2.1.2.2.1.length) (zz.2.1.2.2.1.flatMap a0T)))), (90900, some (a0b false (.sl 78 2 (zz.2.1.2.2.2.length) (zz.2.1.2.2.2.flatMap a1O)))), (95031, some (a0b false (.sl 40 5 (zz.2.2.length) (zz.2.2.flatMap eTx))))]⟩) (fun zz => zz.1 ≤ 8 ∧ zz.2 = stN (saS s (i : Int)) (i : Int) zz.1) (fun zz => 8 - zz.1) ((0, saS s (i : Int))) ?_ (a0e ⟨rfl, rfl, rfl, rfl, rfl, rfl, rfl, trivial⟩ ⟨rfl, rfl, rfl, rfl, rfl, trivial⟩ ⟨rfl, rfl, rfl, trivial⟩ rfl) (fun zz hx => ?_)
    ·exact ⟨Nat.zero_le _, rfl⟩
    obtain ⟨k, r⟩ := zz
    replace hx : k ≤ 8 ∧ r = stN (saS s (i : Int)) (i : Int) k := hx
    have hwsa := b3D hq hIs (i : Int)
    obtain ⟨hk, hr⟩ := hx
    have hIr := b0h hd hol (i : Int) k (b0W hd hIs (i : Int))
    rw [← hr] at hIr
    have hwr := b2B (s := saS s (i : Int)) (i : Int) k
    rw [← hr] at hwr
    have hrd : a0F r.1 = true := by obtain ⟨cur, h⟩ := hIr; exact h.db
    have hrl : r.2.length = q.length := by obtain ⟨cur, h⟩ := hIr; exact h.len
    have hrw := a6v hrd
    have hre : a2y r.2 = a1a wTx r.2 := rfl
    show Ok _ _ _ _ _ (⟨[(6, .box 6 0), (7, .box 7 0), (8, .box 8 0), (9, .box 9 0), (10, .one (.dv [] (.int .i64 ((((q)).length : Int))))), (15, .one (.dv [] (.int .i64 ((i : Int))))), (16, .one (.dv [] (.int .i64 ((k : Int)))))], [(3, 27, [(.dv [] (.str (d.1))), (.dv [] (.int .i64 (d.2.1))), (.dv [] (a0k (d.2.2.1))), (.dv [] (a0r (d.2.2.2)))]), (6, 27, [(.dv [] (.str (ByteArray.empty))), (.dv [] (.int .i64 (0))), .nil, .nil]), (7, 30, [.nil]), (8, 27, [(.dv [] (.str (r.1.1))), (.dv [] (.int .i64 (r.1.2.1))), (.key 90031), (.key 90900)]), (9, 30, [(.key 95031)])], [(90031, some (a0b false (.sl 60 3 (r.1.2.2.1.length) (r.1.2.2.1.flatMap a0T)))), (90900, some (a0b false (.sl 78 2 (r.1.2.2.2.length) (r.1.2.2.2.flatMap a1O)))), (95031, some (a0b false (.sl 40 5 (r.2.length) (r.2.flatMap eTx))))]⟩ : St)
    iterate 5 refine z ?_
    refine yQ rfl (fun c7 => ?_) fun c7 => ?_
    ·have d7 := of_decide_eq_true c7
     iterate 4 refine z ?_
     refine a0o ?_
     iterate 3 refine z ?_
     refine a3Q 400000 rfl rfl rfl Tryz.call10 (b7o (d := r.1) (q := r.2) (i := (i : Int)) (by omega) (by omega)) (a0g (a0a rfl) (a0t (a0d a0c (a0d a0c (a0d (a1d rfl rfl) (a0d (a1d rfl rfl) a0s))))) (a0g (a0a rfl) (a0t (a0d (a1d rfl rfl) a0s)) (a0g (a0a rfl) (a0I a0c) a0w))) rfl rfl rfl ?_
     iterate 6 refine z ?_
     refine a1z ?_
     iterate 2 refine z ?_
     refine a0o ?_
     iterate 4 refine z ?_
     refine ⟨(k + 1, stS r (i : Int)), ?_, ?_, a4h (a2i (b := 8) (i := 2) (k := 490031) (k' := 90031) rfl rfl rfl rfl (by simp) rfl rfl) (a4h (a2i (b := 8) (i := 3) (k := 490900) (k' := 90900) rfl rfl rfl rfl (by simp) rfl rfl) (a4h (a2i (b := 9) (i := 0) (k := 495031) (k' := 95031) rfl rfl rfl rfl (by simp) rfl rfl) (a0e ⟨rfl, rfl, rfl, rfl, rfl, rfl, rfl, trivial⟩ ⟨rfl, rfl, rfl, rfl, rfl, trivial⟩ ⟨rfl, rfl, rfl, trivial⟩ rfl)))⟩
     ·exact ⟨by dsimp only; omega, by rw [hr]; rfl⟩
     ·dsimp only; omega
    ·have d7 := of_decide_eq_false c7
     iterate 6 refine z ?_
     refine a0o ?_
     iterate 4 refine z ?_
     refine ⟨(i + 1, r), ?_, ?_, a0e ⟨rfl, rfl, rfl, rfl, rfl, rfl, trivial⟩ ⟨rfl, rfl, rfl, rfl, rfl, trivial⟩ ⟨rfl, rfl, rfl, trivial⟩ rfl⟩
     ·exact ⟨by dsimp only; omega, by dsimp only; rw [hr, show k = 8 by omega, hs2]; rfl⟩
     ·dsimp only; omega
   ·have d6 := of_decide_eq_false c6
    iterate 5 refine z ?_
    refine a0p ?_
    refine a5b 6 (oB := [3, 7, 8, 9]) (oK := [90031, 90900, 95031]) (by kernel_rfl) rfl rfl ?_
    refine a1r 0 rfl (by kernel_rfl) rfl rfl (a2v hT rfl rfl (a0a rfl) rfl rfl) rfl rfl rfl rfl rfl ?_
    refine a1r 1 rfl (by kernel_rfl) rfl rfl (a2v hT rfl rfl (a0a rfl) rfl rfl) rfl rfl rfl rfl rfl ?_
    refine a4W 2 rfl (by kernel_rfl) rfl hT rfl rfl rfl (a0a rfl) (a0a rfl) rfl rfl rfl rfl rfl rfl ?_
    refine a4G [3] rfl rfl (by kernel_rfl) ?_
    iterate 2 refine z ?_
    have hL : (l.take (min (60 : Int) (l.length : Int)).toNat) = l.take 60 := by
     rcases Nat.le_total l.length 60 with h | h
     ·rw [List.take_of_length_le (by omega), List.take_of_length_le h]
     ·rw [show (min (60 : Int) (l.length : Int)).toNat = 60 by omega]
    have hfin : a2d d q l = s := by unfold a2d; rw [if_pos hd, hs2, show i = q.length by omega, hL]
    rw [hfin]
    refine a0h (σ' := ⟨[(6, .box 6 0), (7, .box 7 0)], [(6, 27, [(.dv [] (.str (s.1.1))), (.dv [] (.int .i64 (s.1.2.1))), (.key 90031), (.key 90900)]), (7, 30, [(.key 95031)])], [(90031, some (a0b false (a0k (s.1.2.2.1)))), (90900, some (a0b false (a0r (s.1.2.2.2)))), (95031, some (a0b false (a1q (s.2))))]⟩) (a0e ⟨rfl, rfl, trivial⟩ ⟨rfl, rfl, trivial⟩ ⟨rfl, rfl, rfl, trivial⟩ rfl) ?_
    refine z ?_
    refine a1N (a0C hT rfl rfl rfl rfl) (a0C hT rfl rfl rfl rfl) rfl rfl ?_
    first | exact ⟨rfl, rfl⟩ | skip
end Go.Proofs.YtjkpoekgnmgofaaGreat

namespace Go.Proofs.YtjkpoekgnmgofaaGreat
open Go.RowKit
open Go.Proofs
set_option linter.unusedVariables false
set_option linter.unusedSimpArgs false
theorem b9V {x0 : List UInt8}  : PFn Tryz.prog 4 [.one (.dv [] (a1h (x0)))] (.one (.dv [] (.bool (true)))) := by
 refine ⟨a0R Tryz.func4 rfl Tryz.ntmps4 Tryz.results4 rfl (fun C => ?_)⟩
 refine a1i (x := .tmp 0) (a0a rfl) fun f0 => ?_
 iterate 6 refine z ?_
 refine zC Tryz.call5 ?_ (hf := c1n (code := x0) )
 refine z ?_
 refine yQ rfl (fun c1 => ?_) fun c1 => ?_
 ·have d1 := of_decide_eq_true c1
  iterate 6 refine z ?_
  rfl
 ·have d1 := of_decide_eq_false c1
  iterate 4 refine z ?_
  refine b9N 0 rfl rfl rfl Tryz.call6 (b9o (code := x0) (by omega)) (a0g (a0a rfl) (a0I a0c) a0w) rfl (fun _ => rfl) (fun _ => rfl) (fun zz hz17 => ?_)
  obtain ⟨e17_0, e17_1, e17_2⟩ := zz
  replace hz17 : a0F e17_0 = true ∧ a3L e17_1 ∧ e17_1.length ≤ 5 ∧ e17_2.length ≤ 12 := hz17
  have hxw := a6v hz17.1
  have hqw := b3A hz17.2.1.1
  have hend := c3F hz17.1 (a9y hz17.2.1) e17_2
  iterate 14 refine z ?_
  refine a3Q 100000 rfl rfl rfl Tryz.call12 (c4f (d := e17_0) (q := e17_1) (l := e17_2) hz17.1 hz17.2.1 (by omega) (by omega)) (a0g (a0a rfl) (a0t (a0d a0c (a0d a0c (a0d (a1d rfl rfl) (a0d (a1d rfl rfl) a0s))))) (a0g (a0a rfl) (a0t (a0d (a1d rfl rfl) a0s)) (a0g (a0a rfl) (a0I (a1d rfl rfl)) a0w))) rfl rfl rfl ?_
  iterate 8 refine z ?_
  refine a0p ?_
  refine a0p ?_
  refine a1L (oB := [3, 4, 6, 7]) (oK := [90031, 90900, 95031, 97001, 190031, 190900, 195031]) (by kernel_rfl) rfl rfl ?_
  refine zD 0 ?_
  refine zD 1 ?_
  refine zD 2 ?_
  refine a3f 200000 3 rfl (by kernel_rfl) rfl rfl rfl Tryz.call13 (c3q (d := e17_0) (x := e17_1) (by omega)) (a0g (a0a rfl) (a0t (a0d a0c (a0d a0c (a0d (a1d rfl rfl) (a0d (a1d rfl rfl) a0s))))) (a0g (a0a rfl) (a0t (a0d (a1d rfl rfl) a0s)) a0w)) rfl rfl rfl rfl rfl ?_
  refine a4u 4 rfl (by kernel_rfl) rfl rfl rfl Tryz.call11 (c3b (x := (a2d (e17_0) (e17_1) (e17_2)).1) (y := (a3c (e17_0) (e17_1))) ) (a0g (a0a rfl) (a0t (a0d a0c (a0d a0c (a0d (a1d rfl rfl) (a0d (a1d rfl rfl) a0s))))) (a0g (a0a rfl) (a0t (a0d a0c (a0d a0c (a0d (a1d rfl rfl) (a0d (a1d rfl rfl) a0s))))) a0w)) rfl rfl rfl rfl ?_
  refine zD 5 ?_
  refine zD 6 ?_
  refine zDG 7 ?_
  refine a7D 8 rfl (by kernel_rfl) (a1p rfl rfl rfl rfl rfl) rfl (fun hg => a4F (dd := a1q ((a2d e17_0 e17_1 e17_2).2)) (a2H hT rfl rfl (a0z rfl hg) rfl rfl) rfl rfl) rfl rfl rfl rfl ?_
  refine zDG 9 ?_
  refine zDG 10 ?_
  refine a7D 11 rfl (by kernel_rfl) (a1p rfl rfl rfl rfl rfl) rfl (fun hg => a4F (dd := a1q (e17_1)) (a2H hT rfl rfl (a0z rfl hg) rfl rfl) rfl rfl) rfl rfl rfl rfl ?_
  refine zDG 12 ?_
  refine zDG 13 ?_
  refine zD 14 ?_
  refine a2l (by kernel_rfl) ?_
  refine z ?_
  refine yQ rfl (fun c2 => ?_) fun c2 => ?_
  ·iterate 6 refine z ?_
   exfalso; rw [hend.1, b7Q, hend.2.1] at c2; simp at c2
  ·iterate 12 refine z ?_
   refine a0h (b0A (k := 98031) (e := 60) (sz := 3) rfl rfl) ?_
   refine a0h (b1d (b := 8) (i := 2) (k := 90031) [90031, 98031] rfl rfl rfl rfl rfl) ?_
   refine a0h (b0A (k := 98900) (e := 78) (sz := 2) rfl rfl) ?_
   refine a0h (b1d (b := 8) (i := 3) (k := 90900) [90900, 98900] rfl rfl rfl rfl rfl) ?_
   refine a1f (ι := Nat × DbT × List a0u × List a3d) (fun zz => ⟨[(4, .box 4 0), (6, .box 6 0), (7, .box 7 0), (8, .box 8 0), (9, .one (.dv [] (.int .i64 ((zz.1 : Int)))))], [(3, 27, [(.dv [] (.str (e17_0.1))), (.dv [] (.int .i64 (e17_0.2.1))), (.key 90031), (.key 90900)]), (4, 30, [(.key 95031)]), (6, 27, [(.dv [] (.str ((a2d (e17_0) (e17_1) (e17_2)).1.1))), (.dv [] (.int .i64 ((a2d (e17_0) (e17_1) (e17_2)).1.2.1))), (.key 190031), (.key 190900)]), (7, 30, [(.key 195031)]), (8, 27, [(.dv [] (.str (zz.2.1.1))), (.dv [] (.int .i64 (zz.2.1.2.1))), (.dv [90031, 98031] (a0k (zz.2.1.2.2.1))), (.dv [90900, 98900] (a0r (zz.2.1.2.2.2)))])], [(98031, some (a0b false (.sl 60 3 (zz.2.2.1.length) (zz.2.2.1.flatMap a0T)))), (98900, some (a0b false (.sl 78 2 (zz.2.2.2.length) (zz.2.2.2.flatMap a1O)))), (90031, some (a0b false (a0k (e17_0.2.2.1)))), (90900, some (a0b false (a0r (e17_0.2.2.2)))), (95031, some (a0b false (a1q (e17_1)))), (190031, some (a0b false (a0k ((a2d (e17_0) (e17_1) (e17_2)).1.2.2.1)))), (190900, some (a0b false (a0r ((a2d (e17_0) (e17_1) (e17_2)).1.2.2.2)))), (195031, some (a0b false (a1q ((a2d (e17_0) (e17_1) (e17_2)).2))))]⟩) (fun zz => zz.1 ≤ e17_1.length ∧ zz.2.1 = a1V e17_0 e17_1 zz.1) (fun zz => e17_1.length - zz.1) ((0, e17_0, [], [])) ?_ (a0e ⟨rfl, rfl, rfl, rfl, rfl, trivial⟩ ⟨rfl, rfl, rfl, rfl, rfl, trivial⟩ ⟨rfl, rfl, rfl, rfl, rfl, rfl, rfl, rfl, trivial⟩ rfl) (fun zz hx => ?_)
   ·exact ⟨Nat.zero_le _, rfl⟩
   obtain ⟨n, c, zs, zd⟩ := zz
   replace hx : n ≤ e17_1.length ∧ c = a1V e17_0 e17_1 n := hx
   obtain ⟨hn, hc⟩ := hx
   have hcd : a0F c = true := by rw [hc]; exact (a8K hz17.1 n).1
   have hcw := a6v hcd
   show Ok _ _ _ _ _ (⟨[(4, .box 4 0), (6, .box 6 0), (7, .box 7 0), (8, .box 8 0), (9, .one (.dv [] (.int .i64 ((n : Int)))))], [(3, 27, [(.dv [] (.str (e17_0.1))), (.dv [] (.int .i64 (e17_0.2.1))), (.key 90031), (.key 90900)]), (4, 30, [(.key 95031)]), (6, 27, [(.dv [] (.str ((a2d (e17_0) (e17_1) (e17_2)).1.1))), (.dv [] (.int .i64 ((a2d (e17_0) (e17_1) (e17_2)).1.2.1))), (.key 190031), (.key 190900)]), (7, 30, [(.key 195031)]), (8, 27, [(.dv [] (.str (c.1))), (.dv [] (.int .i64 (c.2.1))), (.dv [90031, 98031] (a0k (c.2.2.1))), (.dv [90900, 98900] (a0r (c.2.2.2)))])], [(98031, some (a0b false (.sl 60 3 (zs.length) (zs.flatMap a0T)))), (98900, some (a0b false (.sl 78 2 (zd.length) (zd.flatMap a1O)))), (90031, some (a0b false (a0k (e17_0.2.2.1)))), (90900, some (a0b false (a0r (e17_0.2.2.2)))), (95031, some (a0b false (a1q (e17_1)))), (190031, some (a0b false (a0k ((a2d (e17_0) (e17_1) (e17_2)).1.2.2.1)))), (190900, some (a0b false (a0r ((a2d (e17_0) (e17_1) (e17_2)).1.2.2.2)))), (195031, some (a0b false (a1q ((a2d (e17_0) (e17_1) (e17_2)).2))))]⟩ : St)
   iterate 4 refine z ?_
   refine yO rfl rfl (a4F (dd := a1q ((a2d e17_0 e17_1 e17_2).2)) (a2H hT rfl rfl (a0a rfl) rfl rfl) rfl rfl) rfl ?_
   iterate 3 refine z ?_
   refine yQ rfl (fun c3 => ?_) fun c3 => ?_
   ·have d3 := of_decide_eq_true c3
    have hn2 : n < e17_1.length := by have := hend.2.1; omega
    obtain ⟨hb, hs⟩ := hend.2.2 n hn2
    have hop : a1j e17_1 n = (e17_1.getD (n : Int).toNat default).2.1 := rfl
    rw [← hc, hop] at hs
    have hpl : n < (a2d e17_0 e17_1 e17_2).2.length := by omega
    iterate 4 refine z ?_
    refine a0p ?_
    refine a1L (oB := [3, 4, 6, 7, 8]) (oK := [90031, 90900, 95031, 98031, 98900, 190031, 190900, 195031]) (by kernel_rfl) rfl rfl ?_
    refine zD 0 ?_
    refine zD 1 ?_
    refine a1k 2 rfl (by kernel_rfl) rfl rfl (a4F (dd := a1q (e17_1)) (a2H hT rfl rfl (a0a rfl) rfl rfl) rfl rfl) rfl rfl rfl rfl ?_
    refine zD 3 ?_
    refine zD 4 ?_
    refine zD 5 ?_
    refine zD 6 ?_
    refine a5K (A := [(12, 10, 27, _)]) hT ⟨⟨_, _, rfl⟩, rfl, trivial⟩ ?_
    refine a7N 300000 7 rfl (by kernel_rfl) rfl rfl rfl (vok hT ⟨⟨_, _, rfl⟩, rfl, trivial⟩ (by kernel_rfl) (by kernel_rfl)) (vok hT ⟨⟨_, _, rfl⟩, rfl, trivial⟩ (by kernel_rfl) (by kernel_rfl)) rfl Tryz.call14 (c6g (d := c) (l := (e17_1.getD (n : Int).toNat default).2.1) (by omega)) (a0g (a0a rfl) (a0t (a0d a0c (a0d a0c (a0d a0c (a0d a0c a0s))))) (a0g (a0a rfl) (a0I a0c) a0w)) rfl rfl rfl rfl rfl ?_
    refine a6k 8 rfl (by kernel_rfl) rfl rfl rfl (vok hT ⟨⟨_, _, rfl⟩, rfl, trivial⟩ (by kernel_rfl) (by kernel_rfl)) (vok hT ⟨⟨_, _, rfl⟩, rfl, trivial⟩ (by kernel_rfl) (by kernel_rfl)) (a0U (.inl rfl) (a0a rfl)) rfl rfl rfl rfl ?_
    refine a2G 9 rfl (by kernel_rfl) rfl rfl rfl rfl (vok hT ⟨⟨_, _, rfl⟩, rfl, trivial⟩ (by kernel_rfl) (by kernel_rfl)) (vok hT ⟨⟨_, _, rfl⟩, rfl, trivial⟩ (by kernel_rfl) (by kernel_rfl)) (a3q rfl (a0a rfl) rfl) rfl rfl ?_
    refine a2G 10 rfl (by kernel_rfl) rfl rfl rfl rfl (vok hT ⟨⟨_, _, rfl⟩, rfl, trivial⟩ (by kernel_rfl) (by kernel_rfl)) (vok hT ⟨⟨_, _, rfl⟩, rfl, trivial⟩ (by kernel_rfl) (by kernel_rfl)) (a2L rfl (a0a rfl) rfl) rfl rfl ?_
    refine a2G 11 rfl (by kernel_rfl) rfl rfl rfl rfl (vok hT ⟨⟨_, _, rfl⟩, rfl, trivial⟩ (by kernel_rfl) (by kernel_rfl)) (vok hT ⟨⟨_, _, rfl⟩, rfl, trivial⟩ (by kernel_rfl) (by kernel_rfl)) (a2L rfl (a0a rfl) rfl) rfl rfl ?_
    refine a5Z (vok hT ⟨⟨_, _, rfl⟩, rfl, trivial⟩ (by kernel_rfl) (by kernel_rfl)) rfl rfl (by kernel_rfl) ?_
    dsimp only [a2S, a2R]
    refine a2B [13, 14, 15] rfl rfl (by kernel_rfl) ?_
    iterate 12 refine z ?_
    refine a8U (a1p rfl rfl rfl rfl rfl) rfl (fun hg => a4F (dd := a1q ((a2d e17_0 e17_1 e17_2).2)) (a2H hT rfl rfl (a0z rfl hg) rfl rfl) rfl rfl) rfl rfl ?_
    iterate 11 refine z ?_
    refine a8U (a3s rfl rfl rfl rfl rfl) rfl (fun hg => a4F (dd := a1q ((a2d e17_0 e17_1 e17_2).2)) (a2H hT rfl rfl (a0z rfl hg) rfl rfl) rfl rfl) rfl rfl ?_
    iterate 9 refine z ?_
    refine a8U (a1p rfl rfl rfl rfl rfl) rfl (fun hg => a4F (dd := a1q ((a2d e17_0 e17_1 e17_2).2)) (a2H hT rfl rfl (a0z rfl hg) rfl rfl) rfl rfl) rfl rfl ?_
    iterate 8 refine z ?_
    refine yQ rfl (fun c4 => ?_) fun c4 => ?_
    ·iterate 10 refine z ?_
     exfalso
     have hb2 : ((a2d e17_0 e17_1 e17_2).2.getD (n : Int).toNat default).2.2.2.2 = [] := hb
     rw [hb2] at c4
     rcases hs with ⟨h1, h2⟩ | ⟨h1, h2⟩
     ·have h3 : ((a2d e17_0 e17_1 e17_2).2.getD (n : Int).toNat default).2.2.2.1 = 2 := h2
      rw [h1, h3] at c4; simp at c4
     ·have h3 : ((a2d e17_0 e17_1 e17_2).2.getD (n : Int).toNat default).2.2.2.1 = 3 := h2
      rw [h1, h3] at c4; simp at c4
    ·iterate 3 refine z ?_
     refine a0o ?_
     iterate 4 refine z ?_
     refine ⟨(n + 1, (a1C c (e17_1.getD (n : Int).toNat default).2.1).1, (a1C c (e17_1.getD (n : Int).toNat default).2.1).1.2.2.1, (a1C c (e17_1.getD (n : Int).toNat default).2.1).1.2.2.2), ?_, ?_, a4h (a2i (b := 8) (i := 2) (k := 390031) (k' := 98031) rfl rfl rfl rfl (by simp) rfl rfl) (a4h (b1d (b := 8) (i := 2) (k := 98031) [90031, 98031] rfl rfl rfl rfl rfl) (a4h (a2i (b := 8) (i := 3) (k := 390900) (k' := 98900) rfl rfl rfl rfl (by simp) rfl rfl) (a4h (b1d (b := 8) (i := 3) (k := 98900) [90900, 98900] rfl rfl rfl rfl rfl) (a0e ⟨rfl, rfl, rfl, rfl, rfl, trivial⟩ ⟨rfl, rfl, rfl, rfl, rfl, trivial⟩ ⟨rfl, rfl, rfl, rfl, rfl, rfl, rfl, rfl, trivial⟩ rfl))))⟩
     ·exact ⟨by dsimp only; omega, by rw [hc]; rfl⟩
     ·dsimp only; omega
   ·have d3 := of_decide_eq_false c3
    iterate 8 refine z ?_
    refine a4i rfl rfl rfl Tryz.call15 (c5q (x := (a2d (e17_0) (e17_1) (e17_2)).1) (y := c) ) (a0g (a0a rfl) (a0t (a0d a0c (a0d a0c (a0d (a1d rfl rfl) (a0d (a1d rfl rfl) a0s))))) (a0g (a0a rfl) (a0t (a0d a0c (a0d a0c (a0d a0c (a0d a0c a0s))))) a0w)) rfl rfl ?_
    iterate 4 refine z ?_
    rw [hend.1, b7A, hc, show n = e17_1.length by have := hend.2.1; omega]; exact b7Q _
end Go.Proofs.YtjkpoekgnmgofaaGreat

namespace Go.Proofs.YtjkpoekgnmgofaaGreat
open Go.RowKit Go.ChangeShapes Go.WideShapes Go.Deep

def a3x (W : World) : List DV → List Value → Prop := a1u (fun b => b < W.heap.size) W
structure OpensD (P : Program) (Q : List DV → Prop) (t : TypeId) : Prop where
 run : ∀ {H : Type} (enc : TypeId × Value → H) (W : World) (base : Nat) (spare : Nat → Bool) (held : Bool) (fuel : Nat) (cs : List Value) (y : DataW H × List MemPlace),
  DataW.trod enc P W base spare held fuel t cs = some y → ∃ ds, Q ds ∧ a3x W ds cs
def Is {α : Type} (enc : α → List DV) (ds : List DV) : Prop := ∃ x, ds = enc x
theorem b9g {P : Program} {t : TypeId} (ht : P.underlying t = some (.int .u8)) : OpensD P (Is b2b) t := by
 refine ⟨fun {H} enc W base spare held fuel cs y h => ?_⟩
 obtain ⟨n, rfl, _, hw⟩ := DataW.trod_int ht h
 have hb : 0 ≤ n ∧ n ≤ 255 := by simpa [Lit.wf, IntKind.min, IntKind.max, IntKind.signed, IntKind.bits] using hw
 have e : ((UInt8.ofNat n.toNat).toNat : Int) = n := by
  rw [UInt8.toNat_ofNat']
  have : n.toNat % 2 ^ 8 = n.toNat := Nat.mod_eq_of_lt (by omega)
  rw [this]; omega
 refine ⟨_, ⟨UInt8.ofNat n.toNat, rfl⟩, ?_⟩
 simp only [a3x, a1u, Lay]
 rw [e]
 exact ⟨_, _, rfl, ⟨rfl, by simpa [InR, IntKind.min, IntKind.max, IntKind.signed, IntKind.bits] using hb⟩, rfl⟩
theorem b8x {α : Type} {enc : α → List DV} {W : World} {sz : Nat} {f : Nat → Option Value} (hs : ∀ x, (enc x).length = sz) : ∀ n : Nat,
  (∀ i, i < n → ∃ x ci, a3x W (enc x) ci ∧ ∀ j, j < sz → f (i * sz + j) = ci[j]?) → ∃ (xs : List α) (cells : List Value), xs.length = n ∧ a3x W (xs.flatMap enc) cells ∧ ∀ j u, cells[j]? = some u → f j = some u
 | 0, _ => ⟨[], [], rfl, by simp [a3x, a1u], by simp⟩
 | n + 1, h => by
  obtain ⟨xs, cells, h1, h2, h3⟩ := b8x hs n (fun i hi => h i (by omega))
  obtain ⟨x, ci, g1, g2⟩ := h n (by omega)
  have hl : cells.length = n * sz := by rw [a4c _ _ h2, b0c hs, h1]
  have hci : ci.length = sz := by rw [a4c _ _ g1, hs]
  refine ⟨xs ++ [x], cells ++ ci, by simp [h1], by have := b5o _ _ _ _ h2 g1; simp only [List.flatMap_append, List.flatMap_cons, List.flatMap_nil, List.append_nil]; exact this, fun j u hu => ?_⟩
  rcases Nat.lt_or_ge j cells.length with hj | hj
  ·rw [List.getElem?_append_left hj] at hu; exact h3 j u hu
  ·rw [List.getElem?_append_right hj] at hu
   have hjs : j - cells.length < sz := by rw [← hci]; exact (List.getElem?_eq_some_iff.1 hu).1
   have := g2 (j - cells.length) hjs
   rw [show n * sz + (j - cells.length) = j by omega] at this
   rw [this, hu]
theorem c3I {α : Type} {P : Program} {enc : α → List DV} {t e : TypeId} {sz : Nat} (e' : Nat) (hs : ∀ x, (enc x).length = sz) (hsz : Nat.blt 0 sz = true) (ht : P.underlying t = some (.slice e)) (hc : P.cellsOf e = sz) (he : OpensD P (Is enc) e) : OpensD P (Is fun xs : List α => [a3b e' sz enc xs]) t := by
 refine ⟨fun {H} ench W base spare held fuel cs y h => ?_⟩
 have hpos : 0 < sz := by simpa [Nat.blt_eq] using hsz
 rcases open_slice ht h with ⟨rfl, _⟩ | ⟨a, len, cap, m, n, D, Pl, rfl, _, hl, hm, hmm, _, hi⟩
 ·refine ⟨_, ⟨[], rfl⟩, ?_⟩
  simp only [a3x, a1u, Lay]
  exact ⟨_, _, rfl, ⟨none, 0, [], rfl, Nat.le_refl _, by simp [maxLen], hpos, by simp, by simp [a1u], fun h => by simp at h⟩, rfl⟩
 ·have hlm : len ≤ m := by rw [hmm]; split <;> omega
  obtain ⟨xs, cells, h1, h2, h3⟩ := b8x (W := W) (f := fun j => W.cell? (a.add j)) hs len (fun i hil => by
   obtain ⟨cs', hc1, hc2⟩ := hi i (by omega)
   obtain ⟨ds, ⟨x, rfl⟩, hx⟩ := he.run ench W base spare held n cs' _ hc2
   obtain ⟨_, hcl, hat⟩ := World.cells?_some hc1
   refine ⟨x, cs', hx, fun j hj => ?_⟩
   have := hat j (by rw [hc]; exact hj)
   rw [← Go.Deep.add_add, hc] at *
   exact this)
  refine ⟨_, ⟨xs, rfl⟩, ?_⟩
  simp only [a3x, a1u]
  refine ⟨_, _, rfl, ?_, rfl⟩
  simp only [Lay]
  refine ⟨some a, cap, cells, by rw [h1], by omega, hm, hpos, b0c hs xs, h2, fun hp => ?_⟩
  have hcl : 0 < cells.length := by
   rw [a4c _ _ h2, b0c hs]
   exact Nat.mul_pos hp hpos
  have h0 := h3 0 _ (List.getElem?_eq_getElem hcl)
  have ha0 : a.add 0 = a := by simp [Addr.add]
  simp only [ha0] at h0
  have hsp : a.spot = none := by
   cases hs : a.spot with
   | none => rfl
   | some s =>
    unfold World.cell? at h0
    split at h0
    ·simp [hs] at h0
    ·cases h0
  obtain ⟨b, off, sp⟩ := a
  simp only at hsp
  subst hsp
  refine ⟨b, off, rfl, World.block_lt_of_cell? W _ h0, fun j u hu => ?_⟩
  have := h3 j u hu
  simp only [a5i] at this
  exact this
/-! ### structs -/
theorem OpensD.mono {P : Program} {Q R : List DV → Prop} {t : TypeId} (h : OpensD P Q t) (hq : ∀ ds, Q ds → R ds) : OpensD P R t := by
 refine ⟨fun {H} enc W base spare held fuel cs y h' => ?_⟩
 obtain ⟨ds, h1, h2⟩ := h.run enc W base spare held fuel cs y h'
 exact ⟨ds, hq ds h1, h2⟩
/-! ### a call from the outside -/
def a3B (w : World) : List SV → List Value → Prop
 | [], vs => vs = []
 | .one c :: us, vs => ∃ d v vs', c = .dv [] d ∧ vs = v :: vs' ∧ a3x w [d] [v] ∧ a3B w us vs'
 | .agg cs :: us, vs => ∃ ds xs vs', cs = ds.map (CV.dv []) ∧ vs = .agg xs.toArray :: vs' ∧ a3x w ds xs ∧ a3B w us vs'
 | _ :: _, _ => False
theorem b4Q {w : World} {L : Lyt} {d : DV} {v : Value} (h : a3x w [d] [v]) : CVr ⟨w, [], L.rv⟩ L w (.dv [] d) v := by
 simp only [a3x, a1u] at h
 obtain ⟨v', _, e, h1, rfl⟩ := h
 simp only [List.cons.injEq, and_true] at e
 subst e
 simp only [CVr]
 exact a5I (fun b hb _ => ⟨.inl ⟨hb, by simp⟩, rfl⟩) d _ h1
theorem b6f {w : World} {L : Lyt} : ∀ {ds : List DV} {vs : List Value}, a3x w ds vs → CVL ⟨w, [], L.rv⟩ L w (ds.map (CV.dv [])) vs
 | [], _, h => by simp only [a3x, a1u] at h; subst h; rfl
 | d :: ds, _, h => by
  simp only [a3x, a1u] at h
  obtain ⟨v, vs', rfl, h1, h2⟩ := h
  exact ⟨v, vs', rfl, b4Q (by simp only [a3x, a1u]; exact ⟨v, [], rfl, h1, rfl⟩), b6f h2⟩
theorem b2T {P : Program} {w : World} {L : Lyt} : ∀ {us : List SV} {vs : List Value}, a3B w us vs → vs.length = us.length ∧ (∀ u ∈ us, u.keys = [] ∧ u.boxes = []) ∧ ∀ (i : Nat) (v : SV), us[i]? = some v → ∃ x, vs[i]? = some x ∧ SVr P ⟨w, [], L.rv⟩ L w v x
 | [], _, h => by simp only [a3B] at h; subst h; simp
 | .one c :: us, _, h => by
  simp only [a3B] at h
  obtain ⟨d, v, vs', rfl, rfl, h1, h2⟩ := h
  obtain ⟨g1, g2, g3⟩ := b2T (P := P) (L := L) h2
  refine ⟨by simp [g1], fun u hu => ?_, fun i x hx => ?_⟩
  ·rcases List.mem_cons.1 hu with rfl | hu
   ·exact ⟨rfl, rfl⟩
   ·exact g2 u hu
  ·cases i with
   | zero => simp only [List.getElem?_cons_zero, Option.some.injEq] at hx; subst hx; exact ⟨v, rfl, by simp only [SVr]; exact b4Q h1⟩
   | succ i => simpa using g3 i x (by simpa using hx)
 | .agg cs :: us, _, h => by
  simp only [a3B] at h
  obtain ⟨ds, xs, vs', rfl, rfl, h1, h2⟩ := h
  obtain ⟨g1, g2, g3⟩ := b2T (P := P) (L := L) h2
  refine ⟨by simp [g1], fun u hu => ?_, fun i x hx => ?_⟩
  ·rcases List.mem_cons.1 hu with rfl | hu
   ·refine ⟨?_, rfl⟩
    simp only [SV.keys]
    rw [List.flatMap_eq_nil_iff]
    intro c hc
    obtain ⟨d, _, rfl⟩ := List.mem_map.1 hc
    rfl
   ·exact g2 u hu
  ·cases i with
   | zero => simp only [List.getElem?_cons_zero, Option.some.injEq] at hx; subst hx; exact ⟨_, rfl, by simp only [SVr]; exact ⟨xs, rfl, b6f h1⟩⟩
   | succ i => simpa using g3 i x (by simpa using hx)
 | .tup _ :: _, _, h => by simp [a3B] at h
 | .box _ _ :: _, _, h => by simp [a3B] at h
 | .ref _ _ :: _, _, h => by simp [a3B] at h
 | .eptr _ _ :: _, _, h => by simp [a3B] at h
 | .ksl _ _ _ _ :: _, _, h => by simp [a3B] at h
 | .fn _ _ :: _, _, h => by simp [a3B] at h
 | .clo _ _ :: _, _, h => by simp [a3B] at h
 | .opt _ _ :: _, _, h => by simp [a3B] at h
 | .any :: _, _, h => by simp [a3B] at h
theorem c3d {P : Program} {f : FuncId} {us : List SV} {b : Bool} (hf : PFn P f us (.one (.dv [] (.bool b)))) {w : World} {vs : List Value} (h : a3B w us vs) :
  Calls P f vs.toArray w fun e w' => e = .returned (.bool b) ∧ Below w.heap.size w w' := by
 let L : Lyt := ⟨fun _ => 0, fun _ => [], fun _ => .bool false⟩
 obtain ⟨h1, h2, h3⟩ := b2T (P := P) (L := L) h
 obtain ⟨t1, t2⟩ := b1c us 0 h2
 have hr : Rel P ⟨w, [], L.rv⟩ us.length L ⟨a2k 0 us, [], []⟩ ⟨vs.toArray, []⟩ w := {
  df := rfl
  sz := by simp [h1]
  tm := fun i v hv => by
   obtain ⟨_, h4⟩ := a7y us 0 i v hv
   obtain ⟨x, h5, h6⟩ := h3 i v (by simpa using h4)
   have : vs.toArray.getD i undef = x := by simp [Array.getD_eq_getD_getElem?, h5]
   rw [this]; exact h6
  bx := fun i t cs h => by cases h
  ks := fun k c h => by cases h
  b1 := fun i x h => by cases h
  k1 := fun k c h => by cases h
  kn := fun k c h => by cases h
  bb := fun i j x y h => by cases h
  bk := fun i k x c h => by cases h
  kk := fun k j c d h => by cases h
  lk := fun k hk => by simp only [St.tk, t1, List.flatMap_nil, List.append_nil] at hk; cases hk
  lb := fun b hb => by simp only [St.tb, t2] at hb; cases hb
  s0 := fun b hb => by cases hb
  chg := Chg.refl _ _ }
 refine (hf.ok w [] L vs h1 hr).mono ?_
 rintro e w' ⟨r, res, σ', L', rfl, rfl, hr'⟩
 have hv := hr'.tm 0 _ rfl
 simp only [SVr, CVr, Lay] at hv
 refine ⟨?_, hr'.chg.below⟩
 have : (#[r] : Array Value).getD 0 undef = r := rfl
 rw [this] at hv
 rw [hv]
end Go.Proofs.YtjkpoekgnmgofaaGreat

namespace Go.Proofs.YtjkpoekgnmgofaaGreat
open Go.RowKit
open Go.Proofs
theorem c4b : OpensD Tryz.prog (Is fun xs => [a3b 5 1 b2b xs]) 22 := c3I (sz := 1) 5 (fun _ => rfl) rfl Tryz.underlying22 (by kernel_rfl) (b9g Tryz.underlying5)
end Go.Proofs.YtjkpoekgnmgofaaGreat

