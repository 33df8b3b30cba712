/-
  Contracts of the program's functions for the statements OpenDisk, by the rules of the logic. Conditions: none but those in the theorems.
-/
import Derived.Below
import Derived.Deep.Slices
import Derived.OpenShut
import Derived.ProofKit
import Derived.Test.YtfejjkndbpejbaaGreatQOD2
set_option maxHeartbeats 4000000
set_option maxRecDepth 100000
namespace Go.Proofs.YtfejjkndbpejbaaGreat
open Go.RowKit
open Go.Proofs
set_option linter.unusedVariables false
set_option linter.unusedSimpArgs false
def a3L (x : a0P) (k : a0S) : a0y := if 0 ≤ a0R x k then (x.2.1.getD (a0R x k).toNat default).2 else []
def a4p (r : a0y) (f : Str) : a0y × Bool := a1I r f ((a0Y r f).1 + 1)
def rgK (k : a0S) : a3S := (true, true, k, k)
def rg0 : a3S := (false, false, (0, 0, ByteArray.empty), (0, 0, ByteArray.empty))
def a8b (x : a0P) (k : a0S) : Int := if a0R x k < 0 then -1 else ((x.2.1.getD (a0R x k).toNat default).2.length : Int)
def opI (x : a0P) (o : OpT) : a0P × Int × Bool :=
 if o.1 = 1 then ((a1b x o.2.2.1 o.2.2.2.1).1, 1, (a1b x o.2.2.1 o.2.2.2.1).2)
 else if o.1 = 2 then ((a2I x o.2.2.1 o.2.2.2.1).1, 1, (a2I x o.2.2.1 o.2.2.2.1).2)
 else if o.1 = 3 then ((a1L x (rgK o.2.2.1)).1, (a1L x (rgK o.2.2.1)).2, true)
 else if o.1 = 5 then ((a1L x rg0).1, (a1L x rg0).2, true)
 else if o.1 = 4 then (x, a8b x o.2.2.1, true)
 else if (a4p (a3L x o.2.2.1) o.2.2.2.2).2 = false then (x, 0, false)
 else ((a1b x o.2.2.1 (a4p (a3L x o.2.2.1) o.2.2.2.2).1).1, (a0Y (a3L x o.2.2.1) o.2.2.2.2).1 + 1, (a1b x o.2.2.1 (a4p (a3L x o.2.2.1) o.2.2.2.2).1).2)
def a3y (x : a0P) (k : a0S) (f : Str) : a0P × Int × Bool := ((a1b x k (a4p (a3L x k) f).1).1, (a0Y (a3L x k) f).1 + 1, (a4p (a3L x k) f).2 && (a1b x k (a4p (a3L x k) f).1).2)
def opM (x : a0P) (o : OpT) : a0P × Int × Bool :=
 if o.1 = 1 then ((a1b x o.2.2.1 o.2.2.2.1).1, 1, (a1b x o.2.2.1 o.2.2.2.1).2)
 else if o.1 = 2 then ((a2I x o.2.2.1 o.2.2.2.1).1, 1, (a2I x o.2.2.1 o.2.2.2.1).2)
 else if o.1 = 3 then ((a1L x (rgK o.2.2.1)).1, (a1L x (rgK o.2.2.1)).2, true)
 else if o.1 = 4 then (x, a8b x o.2.2.1, true)
 else if o.1 = 5 then ((a1L x rg0).1, (a1L x rg0).2, true)
 else a3y x o.2.2.1 o.2.2.2.2
theorem b2c (x : a0P) (o : OpT) : opI x o = opM x o ∨ ((opI x o).2.2 = false ∧ (opM x o).2.2 = false) := by
 unfold opI opM
 by_cases h1 : o.1 = 1
 ·simp [h1]
 ·by_cases h2 : o.1 = 2
  ·simp [h2]
  ·by_cases h3 : o.1 = 3
   ·simp [h3]
   ·by_cases h5 : o.1 = 5
    ·simp [h5]
    ·by_cases h4 : o.1 = 4
     ·simp [h4]
     ·rw [if_neg h1, if_neg h2, if_neg h3, if_neg h5, if_neg h4, if_neg h1, if_neg h2, if_neg h3, if_neg h4, if_neg h5]
      by_cases h : (a4p (a3L x o.2.2.1) o.2.2.2.2).2 = false
      ·right; rw [if_pos h]; simp [a3y, h]
      ·left; rw [if_neg h]
       have h' : (a4p (a3L x o.2.2.1) o.2.2.2.2).2 = true := by simpa using h
       simp [a3y, h']
def same (x : a0P) (o : OpT) : Bool := decide (o.1 = 4) || (!decide (o.1 = 1) && !decide (o.1 = 2) && !decide (o.1 = 3) && !decide (o.1 = 5) && !(a4p (a3L x o.2.2.1) o.2.2.2.2).2)
section
variable {x : a0P} {o : OpT}
theorem c1t (h : o.1 = 1) : opI x o = ((a1b x o.2.2.1 o.2.2.2.1).1, 1, (a1b x o.2.2.1 o.2.2.2.1).2) := by rw [opI, if_pos h]
theorem c7W (h : o.1 = 2) : opI x o = ((a2I x o.2.2.1 o.2.2.2.1).1, 1, (a2I x o.2.2.1 o.2.2.2.1).2) := by rw [opI, if_neg (by omega), if_pos h]
theorem c2K (h : o.1 = 3) : opI x o = ((a1L x (rgK o.2.2.1)).1, (a1L x (rgK o.2.2.1)).2, true) := by rw [opI, if_neg (by omega), if_neg (by omega), if_pos h]
theorem c0N (h : o.1 = 5) : opI x o = ((a1L x rg0).1, (a1L x rg0).2, true) := by rw [opI, if_neg (by omega), if_neg (by omega), if_neg (by omega), if_pos h]
theorem c3Z (h : o.1 = 4) (h2 : a0R x o.2.2.1 < 0) : opI x o = (x, -1, true) := by rw [opI, if_neg (by omega), if_neg (by omega), if_neg (by omega), if_neg (by omega), if_pos h, a8b, if_pos h2]
theorem c4b (h : o.1 = 4) (h2 : ¬ a0R x o.2.2.1 < 0) : opI x o = (x, ((x.2.1.getD (a0R x o.2.2.1).toNat default).2.length : Int), true) := by rw [opI, if_neg (by omega), if_neg (by omega), if_neg (by omega), if_neg (by omega), if_pos h, a8b, if_neg h2]
theorem b4B {k : a0S} (h : 0 ≤ a0R x k) : a3L x k = (x.2.1.getD (a0R x k).toNat default).2 := if_pos h
theorem b2A {k : a0S} (h : ¬ 0 ≤ a0R x k) : a3L x k = [] := if_neg h
theorem b5s {r : a0y} (h1 : o.1 ≠ 1) (h2 : o.1 ≠ 2) (h3 : o.1 ≠ 3) (h5 : o.1 ≠ 5) (h4 : o.1 ≠ 4) (hr : a3L x o.2.2.1 = r) (hk : (!(a1I r o.2.2.2.2 ((a0Y r o.2.2.2.2).1 + 1)).2) = true) : opI x o = (x, 0, false) := by
 rw [opI, if_neg h1, if_neg h2, if_neg h3, if_neg h5, if_neg h4, hr, if_pos (by simpa [a4p] using hk)]
theorem b5B {r : a0y} (h1 : o.1 ≠ 1) (h2 : o.1 ≠ 2) (h3 : o.1 ≠ 3) (h5 : o.1 ≠ 5) (h4 : o.1 ≠ 4) (hr : a3L x o.2.2.1 = r) (hk : (!(a1I r o.2.2.2.2 ((a0Y r o.2.2.2.2).1 + 1)).2) = false) :
  opI x o = ((a1b x o.2.2.1 (a1I r o.2.2.2.2 ((a0Y r o.2.2.2.2).1 + 1)).1).1, (a0Y r o.2.2.2.2).1 + 1, (a1b x o.2.2.1 (a1I r o.2.2.2.2 ((a0Y r o.2.2.2.2).1 + 1)).1).2) := by
 rw [opI, if_neg h1, if_neg h2, if_neg h3, if_neg h5, if_neg h4, hr, if_neg (by simpa [a4p] using hk)]
 rfl
theorem b3q {r : a0y} (h : same x o = true) (h4 : o.1 ≠ 4) (hr : a3L x o.2.2.1 = r) : ¬ (!(a1I r o.2.2.2.2 ((a0Y r o.2.2.2.2).1 + 1)).2) = false := by
 unfold same at h
 rw [hr] at h
 intro hk
 simp only [decide_eq_false h4, Bool.false_or, Bool.and_eq_true] at h
 have := h.2
 unfold a4p at this
 rw [hk] at this
 cases this
theorem a7a (h : same x o = true) (h4 : o.1 = 1 ∨ o.1 = 2 ∨ o.1 = 3 ∨ o.1 = 5) : False := by
 unfold same at h
 rw [decide_eq_false (show ¬ o.1 = 4 by omega)] at h
 simp only [Bool.false_or, Bool.and_eq_true, Bool.not_eq_true', decide_eq_false_iff_not] at h
 omega
theorem c6O (h : same x o = false) : o.1 ≠ 4 := by
 intro h4
 simp [same, h4] at h
theorem b6p {r : a0y} (h : same x o = false) (h1 : o.1 ≠ 1) (h2 : o.1 ≠ 2) (h3 : o.1 ≠ 3) (h5 : o.1 ≠ 5) (hr : a3L x o.2.2.1 = r) : ¬ (!(a1I r o.2.2.2.2 ((a0Y r o.2.2.2.2).1 + 1)).2) = true := by
 unfold same at h
 rw [hr] at h
 intro hk
 simp only [decide_eq_false h1, decide_eq_false h2, decide_eq_false h3, decide_eq_false h5, Bool.not_false, Bool.true_and, Bool.or_eq_false_iff] at h
 have := h.2
 unfold a4p at this
 rw [hk] at this
 cases this
end
theorem a8C {r : a0y} {n : Str} (h : a1j r = true) : 0 ≤ (a0Y r n).1 ∧ (a0Y r n).1 ≤ 1000000000 := by
 unfold a0Y
 split
 ·exact ⟨by simp, by simp⟩
 ·rename_i h1
  have hlt := a7S (p := a1Q n) r 0 (by omega)
  rw [a1j, Bool.and_eq_true, List.all_eq_true] at h
  have := h.1 (a0u (a1Q n) r 0).toNat (List.mem_range.2 (by omega))
  simp only [a4T, Bool.not_eq_true', Bool.or_eq_false_iff, Int.toNat_natCast] at this
  have h2 := this.1.2
  simp only [Bool.not_eq_false', Bool.and_eq_true, decide_eq_true_eq] at h2
  exact h2
theorem a7t {r : a0y} (h : a1j r = true) : r.length ≤ 6 := by
 rw [a1j, Bool.and_eq_true, decide_eq_true_eq] at h
 omega
theorem c1O {x : a0P} {i : Nat} (h : a1D x = true) (hi : i < x.2.1.length) : a1j (x.2.1.getD i default).2 = true := by
 rw [a1D, Bool.and_eq_true, List.all_eq_true] at h
 have := h.1 i (List.mem_range.2 hi)
 simp only [a4y, Bool.not_eq_true', Bool.or_eq_false_iff, Int.toNat_natCast] at this
 simpa using this.1.2
theorem b2P {o : OpT} (h : a1E o = true) : o.2.2.2.1.length ≤ 6 := by
 unfold a1E at h
 simp only [Bool.and_eq_true] at h
 exact a7t h.1.2
theorem b3m {x : a0P} {k : a0S} (h : a1D x = true) (h0 : 0 ≤ a0R x k) : a1j (x.2.1.getD (a0R x k).toNat default).2 = true := c1O h (by have := a5J h0; omega)
theorem c5d {x : a0P} {o : OpT} (hs : a1D x = true) (ho : a1E o = true) (hal : same x o = true) : PFn Tryz.prog 98 [.agg [(.dv [] (.str (x.1))), (.arg 0 (a0n (x.2.1))), (.dv [] (.int .i64 (x.2.2)))], .agg [(.dv [] (.int .i64 (o.1))), (.dv [] (.str (o.2.1))), (.dv [] (.int .i64 (o.2.2.1.1))), (.dv [] (.int .i64 (o.2.2.1.2.1))), (.dv [] (.str (o.2.2.1.2.2))), (.dv [] (a0w (o.2.2.2.1))), (.dv [] (.str (o.2.2.2.2)))]] (.tup [(true, [(.dv [] (.str (x.1))), (.arg 0 (a0n (x.2.1))), (.dv [] (.int .i64 (x.2.2)))]), (false, [(.dv [] (.int .i64 ((opI x o).2.1)))]), (false, [(.dv [] (.bool ((opI x o).2.2)))])]) := by
 refine ⟨a0v Tryz.func98 rfl Tryz.ntmps98 Tryz.results98 rfl (fun C => ?_)⟩
 have hsw := a6Y hs
 have hor := b2P ho
 refine yF 0 0 rfl rfl fun f0_0 => ?_
 refine yF 0 2 rfl rfl fun f0_2 => ?_
 refine yF 1 0 rfl rfl fun f1_0 => ?_
 refine yF 1 1 rfl rfl fun f1_1 => ?_
 refine yF 1 2 rfl rfl fun f1_2 => ?_
 refine yF 1 3 rfl rfl fun f1_3 => ?_
 refine yF 1 4 rfl rfl fun f1_4 => ?_
 refine yF 1 5 rfl rfl fun f1_5 => ?_
 refine yF 1 6 rfl rfl fun f1_6 => ?_
 iterate 11 refine z ?_
 refine zC Tryz.call128 ?_ (hf := b2o (x := x) (k := o.2.2.1) )
 iterate 12 refine z ?_
 refine yQ rfl (fun c1 => ?_) fun c1 => ?_
 ·have d1 := of_decide_eq_true c1
  exact absurd d1 (fun h => a7a hal (by omega))
 ·have d1 := of_decide_eq_false c1
  iterate 4 refine z ?_
  refine yQ rfl (fun c2 => ?_) fun c2 => ?_
  ·have d2 := of_decide_eq_true c2
   exact absurd d2 (fun h => a7a hal (by omega))
  ·have d2 := of_decide_eq_false c2
   iterate 4 refine z ?_
   refine yQ rfl (fun c3 => ?_) fun c3 => ?_
   ·have d3 := of_decide_eq_true c3
    exact absurd d3 (fun h => a7a hal (by omega))
   ·have d3 := of_decide_eq_false c3
    iterate 4 refine z ?_
    refine yQ rfl (fun c4 => ?_) fun c4 => ?_
    ·have d4 := of_decide_eq_true c4
     exact absurd d4 (fun h => a7a hal (by omega))
    ·have d4 := of_decide_eq_false c4
     iterate 4 refine z ?_
     refine yQ rfl (fun c5 => ?_) fun c5 => ?_
     ·have d5 := of_decide_eq_true c5
      iterate 5 refine z ?_
      refine yQ rfl (fun c6 => ?_) fun c6 => ?_
      ·have d6 := of_decide_eq_true c6
       iterate 10 refine z ?_
       refine a1K (a0F hT rfl rfl rfl rfl) (a0i rfl) (a0i rfl) rfl rfl rfl ?_
       rw [c3Z d5 d6]
       rfl
      ·have d6 := of_decide_eq_false c6
       have hfx : a0R x o.2.2.1 < x.2.1.length := by have := a5J (x := x) (k := o.2.2.1) (by omega); omega
       iterate 2 refine z ?_
       refine a0q ?_
       refine b0s 4 (oB := [2, 3]) (oK := []) (by kernel_rfl) rfl rfl ?_
       refine a1F 0 rfl (by kernel_rfl) rfl rfl (a6B hT rfl rfl (a0a rfl) rfl rfl) rfl rfl rfl rfl rfl ?_
       refine a1F 1 rfl (by kernel_rfl) rfl rfl (a6w hT rfl rfl rfl (a0a rfl)) rfl rfl rfl rfl rfl ?_
       refine a1F 2 rfl (by kernel_rfl) rfl rfl (a4N hT rfl rfl (a0a rfl) rfl rfl) rfl rfl rfl rfl rfl ?_
       refine a1F 3 rfl (by kernel_rfl) rfl rfl (a2c (.inl rfl) (a0a rfl)) rfl rfl rfl rfl rfl ?_
       refine a1F 4 rfl (by kernel_rfl) rfl rfl (a6o hT rfl rfl rfl (b5X (a0a rfl)) (a0a rfl) (fun _ => rfl) (by omega) (by omega)) rfl rfl rfl rfl rfl ?_
       refine a1F 5 rfl (by kernel_rfl) rfl rfl (a6f hT rfl rfl rfl (a0a rfl)) rfl rfl rfl rfl rfl ?_
       refine a1F 6 rfl (by kernel_rfl) rfl rfl (a6f hT rfl rfl rfl (a0a rfl)) rfl rfl rfl rfl rfl ?_
       refine a1F 7 rfl (by kernel_rfl) rfl rfl (b3n hT rfl rfl (a0a rfl) rfl) rfl rfl rfl rfl rfl ?_
       refine a1F 8 rfl (by kernel_rfl) rfl rfl (a9s hT rfl rfl (a0a rfl)) rfl rfl rfl rfl rfl ?_
       refine a9n 9 rfl (by kernel_rfl) rfl hT rfl rfl rfl (a0a rfl) (a0a rfl) rfl rfl rfl rfl rfl rfl ?_
       refine a9o [10, 11] rfl rfl (by kernel_rfl) ?_
       iterate 6 refine z ?_
       refine a1K (a0F hT rfl rfl rfl rfl) (a0i rfl) (a0i rfl) rfl rfl rfl ?_
       rw [c4b d5 d6]
       rfl
     ·have d5 := of_decide_eq_false c5
      iterate 4 refine z ?_
      refine yO rfl rfl (a1x hT hB rfl rfl rfl a1w) rfl ?_
      iterate 8 refine z ?_
      refine yQ rfl (fun c7 => ?_) fun c7 => ?_
      ·have d7 := of_decide_eq_true c7
       have hb9 := b3m hs d7
       have hgb := a8C (n := o.2.2.2.2) hb9
       have hrl := a7t hb9
       have hrq := b4B d7
       have hlt9 := a5J d7
       refine a0k ?_
       iterate 3 refine z ?_
       refine yO rfl rfl (a6o hT rfl rfl rfl (b5X (a0a rfl)) (a0a rfl) (fun _ => rfl) (by omega) (by omega)) rfl ?_
       iterate 8 refine z ?_
       refine zC Tryz.call127 ?_ (hf := a6m (x := ((x.2.1.getD (a0R x o.2.2.1).toNat default).2)) (n := o.2.2.2.2))
       iterate 12 refine z ?_
       refine zK 499 Tryz.call132 ?_ (hf := b1s (r := ((x.2.1.getD (a0R x o.2.2.1).toNat default).2)) (n := o.2.2.2.2) (v := (a0Y ((x.2.1.getD (a0R x o.2.2.1).toNat default).2) o.2.2.2.2).1 + 1) (by omega))
       iterate 11 refine z ?_
       refine yQ rfl (fun c8 => ?_) fun c8 => ?_
       ·iterate 8 refine z ?_
        refine a1K (a0F hT rfl rfl rfl rfl) (a0i rfl) (a0i rfl) rfl rfl rfl ?_
        rw [b5s d1 d2 d3 d4 d5 hrq c8]
        rfl
       ·exact absurd c8 (b3q hal d5 hrq)
      ·have d7 := of_decide_eq_false c7
       have hb9 : a1j [] = true := rfl
       have hgb := a8C (n := o.2.2.2.2) hb9
       have hrl := a7t hb9
       have hrq := b2A d7
       iterate 6 refine z ?_
       refine a3a rfl rfl rfl Tryz.call127 (a6m (x := ([] : a0y)) (n := o.2.2.2.2)) (a0g (a0a rfl) (a0s (a0d (a5D rfl rfl) a0r)) (a0g (a0a rfl) (a0D a0c) a0m)) rfl rfl ?_
       iterate 12 refine z ?_
       refine a2J 499 rfl rfl rfl Tryz.call132 (b1s (r := ([] : a0y)) (n := o.2.2.2.2) (v := (a0Y ([] : a0y) o.2.2.2.2).1 + 1) (by omega)) (a0g (a0a rfl) (a0s (a0d (a5D rfl rfl) a0r)) (a0g (a0a rfl) (a0D a0c) (a0g (a0a rfl) (a0D a0c) a0m))) rfl rfl rfl ?_
       iterate 11 refine z ?_
       refine yQ rfl (fun c9 => ?_) fun c9 => ?_
       ·iterate 8 refine z ?_
        refine a1K (a0F hT rfl rfl rfl rfl) (a0i rfl) (a0i rfl) rfl rfl rfl ?_
        rw [b5s d1 d2 d3 d4 d5 hrq c9]
        rfl
       ·exact absurd c9 (b3q hal d5 hrq)
theorem c7V {x : a0P} {o : OpT} (hs : a1D x = true) (ho : a1E o = true) (hal : same x o = false) : KFn Tryz.prog 98 [.agg [(.dv [] (.str (x.1))), (.dv [] (a0n (x.2.1))), (.dv [] (.int .i64 (x.2.2)))], .agg [(.dv [] (.int .i64 (o.1))), (.dv [] (.str (o.2.1))), (.dv [] (.int .i64 (o.2.2.1.1))), (.dv [] (.int .i64 (o.2.2.1.2.1))), (.dv [] (.str (o.2.2.1.2.2))), (.dv [] (a0w (o.2.2.2.1))), (.dv [] (.str (o.2.2.2.2)))]] (.tup [(true, [(.dv [] (.str ((opI x o).1.1))), (.key 9001), (.dv [] (.int .i64 ((opI x o).1.2.2)))]), (false, [(.dv [] (.int .i64 ((opI x o).2.1)))]), (false, [(.dv [] (.bool ((opI x o).2.2)))])]) [(9001, some (a0b false (a0n ((opI x o).1.2.1))))] := by
 refine ⟨a0v Tryz.func98 rfl Tryz.ntmps98 Tryz.results98 rfl (fun C => ?_)⟩
 have hsw := a6Y hs
 have hor := b2P ho
 refine yF 0 0 rfl rfl fun f0_0 => ?_
 refine yF 0 1 rfl rfl fun f0_1 => ?_
 refine yF 0 2 rfl rfl fun f0_2 => ?_
 refine yF 1 0 rfl rfl fun f1_0 => ?_
 refine yF 1 1 rfl rfl fun f1_1 => ?_
 refine yF 1 2 rfl rfl fun f1_2 => ?_
 refine yF 1 3 rfl rfl fun f1_3 => ?_
 refine yF 1 4 rfl rfl fun f1_4 => ?_
 refine yF 1 5 rfl rfl fun f1_5 => ?_
 refine yF 1 6 rfl rfl fun f1_6 => ?_
 iterate 11 refine z ?_
 refine zC Tryz.call128 ?_ (hf := b2o (x := x) (k := o.2.2.1) )
 iterate 12 refine z ?_
 refine yQ rfl (fun c1 => ?_) fun c1 => ?_
 ·have d1 := of_decide_eq_true c1
  iterate 6 refine z ?_
  refine zK 0 Tryz.call129 ?_ (hf := b1e (x := x) (k := o.2.2.1) (r := o.2.2.2.1) (by omega) (by omega))
  iterate 14 refine z ?_
  rw [c1t d1]
  refine a0h (σ' := ⟨[(4, .box 4 0), (5, .one (.dv [] (.int .i64 (1)))), (6, .one (.dv [] (.bool ((a1b (x) (o.2.2.1) (o.2.2.2.1)).2))))], [(4, 67, [(.dv [] (.str ((a1b (x) (o.2.2.1) (o.2.2.2.1)).1.1))), (.key 9001), (.dv [] (.int .i64 ((a1b (x) (o.2.2.1) (o.2.2.2.1)).1.2.2)))])], [(9001, some (a0b false (a0n ((a1b x o.2.2.1 o.2.2.2.1).1.2.1))))]⟩) (a0e ⟨rfl, rfl, rfl, trivial⟩ ⟨rfl, trivial⟩ ⟨rfl, trivial⟩ rfl) ?_
  iterate 3 refine z ?_
  refine a1K (a0F hT rfl rfl rfl rfl) (a0i rfl) (a0i rfl) rfl rfl rfl ?_
  first | exact ⟨rfl, rfl⟩ | skip
 ·have d1 := of_decide_eq_false c1
  iterate 4 refine z ?_
  refine yQ rfl (fun c2 => ?_) fun c2 => ?_
  ·have d2 := of_decide_eq_true c2
   iterate 6 refine z ?_
   refine zK 0 Tryz.call130 ?_ (hf := c2c (x := x) (k := o.2.2.1) (r := o.2.2.2.1) (by omega) (by omega))
   iterate 14 refine z ?_
   rw [c7W d2]
   refine a0h (σ' := ⟨[(4, .box 4 0), (5, .one (.dv [] (.int .i64 (1)))), (6, .one (.dv [] (.bool ((a2I (x) (o.2.2.1) (o.2.2.2.1)).2))))], [(4, 67, [(.dv [] (.str ((a2I (x) (o.2.2.1) (o.2.2.2.1)).1.1))), (.key 9001), (.dv [] (.int .i64 ((a2I (x) (o.2.2.1) (o.2.2.2.1)).1.2.2)))])], [(9001, some (a0b false (a0n ((a2I x o.2.2.1 o.2.2.2.1).1.2.1))))]⟩) (a0e ⟨rfl, rfl, rfl, trivial⟩ ⟨rfl, trivial⟩ ⟨rfl, trivial⟩ rfl) ?_
   iterate 3 refine z ?_
   refine a1K (a0F hT rfl rfl rfl rfl) (a0i rfl) (a0i rfl) rfl rfl rfl ?_
   first | exact ⟨rfl, rfl⟩ | skip
  ·have d2 := of_decide_eq_false c2
   iterate 4 refine z ?_
   refine yQ rfl (fun c3 => ?_) fun c3 => ?_
   ·have d3 := of_decide_eq_true c3
    iterate 6 refine z ?_
    refine yO rfl rfl (a1x hT hB rfl rfl rfl (a1r a0J rfl rfl rfl rfl rfl (a1r a0J rfl rfl rfl rfl rfl (a1r (a0a rfl) rfl rfl rfl rfl rfl (a1r (a0a rfl) rfl rfl rfl rfl rfl a1w))))) rfl ?_
    refine zK 0 Tryz.call131 ?_ (hf := b5z (x := x) (r := rgK o.2.2.1) (by omega))
    iterate 14 refine z ?_
    rw [c2K d3]
    refine a0h (σ' := ⟨[(4, .box 4 0), (5, .one (.dv [] (.int .i64 ((a1L (x) (rgK o.2.2.1)).2)))), (6, .one (.dv [] (.bool (true))))], [(4, 67, [(.dv [] (.str ((a1L (x) (rgK o.2.2.1)).1.1))), (.key 9001), (.dv [] (.int .i64 ((a1L (x) (rgK o.2.2.1)).1.2.2)))])], [(9001, some (a0b false (a0n ((a1L x (rgK o.2.2.1)).1.2.1))))]⟩) (a0e ⟨rfl, rfl, rfl, trivial⟩ ⟨rfl, trivial⟩ ⟨rfl, trivial⟩ rfl) ?_
    iterate 3 refine z ?_
    refine a1K (a0F hT rfl rfl rfl rfl) (a0i rfl) (a0i rfl) rfl rfl rfl ?_
    first | exact ⟨rfl, rfl⟩ | skip
   ·have d3 := of_decide_eq_false c3
    iterate 4 refine z ?_
    refine yQ rfl (fun c4 => ?_) fun c4 => ?_
    ·have d4 := of_decide_eq_true c4
     iterate 2 refine z ?_
     refine yO rfl rfl (a1x hT hB rfl rfl rfl a1w) rfl ?_
     refine zK 0 Tryz.call131 ?_ (hf := b5z (x := x) (r := rg0) (by omega))
     iterate 14 refine z ?_
     rw [c0N d4]
     refine a0h (σ' := ⟨[(4, .box 4 0), (5, .one (.dv [] (.int .i64 ((a1L (x) (rg0)).2)))), (6, .one (.dv [] (.bool (true))))], [(4, 67, [(.dv [] (.str ((a1L (x) (rg0)).1.1))), (.key 9001), (.dv [] (.int .i64 ((a1L (x) (rg0)).1.2.2)))])], [(9001, some (a0b false (a0n ((a1L x rg0).1.2.1))))]⟩) (a0e ⟨rfl, rfl, rfl, trivial⟩ ⟨rfl, trivial⟩ ⟨rfl, trivial⟩ rfl) ?_
     iterate 3 refine z ?_
     refine a1K (a0F hT rfl rfl rfl rfl) (a0i rfl) (a0i rfl) rfl rfl rfl ?_
     first | exact ⟨rfl, rfl⟩ | skip
    ·have d4 := of_decide_eq_false c4
     iterate 4 refine z ?_
     refine yQ rfl (fun c5 => ?_) fun c5 => ?_
     ·have d5 := of_decide_eq_true c5
      exact absurd d5 (c6O hal)
     ·have d5 := of_decide_eq_false c5
      iterate 4 refine z ?_
      refine yO rfl rfl (a1x hT hB rfl rfl rfl a1w) rfl ?_
      iterate 8 refine z ?_
      refine yQ rfl (fun c6 => ?_) fun c6 => ?_
      ·have d6 := of_decide_eq_true c6
       have hb9 := b3m hs d6
       have hgb := a8C (n := o.2.2.2.2) hb9
       have hrl := a7t hb9
       have hrq := b4B d6
       have hlt9 := a5J d6
       have hsl := b2d ((x.2.1.getD (a0R x o.2.2.1).toNat default).2) o.2.2.2.2 ((a0Y ((x.2.1.getD (a0R x o.2.2.1).toNat default).2) o.2.2.2.2).1 + 1)
       refine a0k ?_
       iterate 12 refine z ?_
       refine zC Tryz.call127 ?_ (hf := a6m (x := ((x.2.1.getD (a0R x o.2.2.1).toNat default).2)) (n := o.2.2.2.2))
       iterate 12 refine z ?_
       refine zK 499 Tryz.call132 ?_ (hf := b1s (r := ((x.2.1.getD (a0R x o.2.2.1).toNat default).2)) (n := o.2.2.2.2) (v := (a0Y ((x.2.1.getD (a0R x o.2.2.1).toNat default).2) o.2.2.2.2).1 + 1) (by omega))
       iterate 11 refine z ?_
       refine yQ rfl (fun c7 => ?_) fun c7 => ?_
       ·exact absurd c7 (b6p hal d1 d2 d3 d4 hrq)
       ·iterate 7 refine z ?_
        refine a2J 0 rfl rfl rfl Tryz.call129 (b1e (x := x) (k := o.2.2.1) (r := (a1I ((x.2.1.getD (a0R x o.2.2.1).toNat default).2) o.2.2.2.2 ((a0Y ((x.2.1.getD (a0R x o.2.2.1).toNat default).2) o.2.2.2.2).1 + 1)).1) (by omega) (by omega)) (a0g (a0a rfl) (a0s (a0d a0c (a0d a0c (a0d a0c a0r)))) (a0g (a0a rfl) (a0s (a0d a0c (a0d a0c (a0d a0c a0r)))) (a0g (a0a rfl) (a0s (a0d (a0Q rfl rfl) a0r)) a0m))) rfl rfl rfl ?_
        iterate 16 refine z ?_
        rw [b5B d1 d2 d3 d4 d5 hrq c7]
        refine a0h (σ' := ⟨[(4, .box 4 0), (5, .one (.dv [] (.int .i64 (((a0Y ((((x.2.1)).getD (a0R (x) (o.2.2.1)).toNat default).2) (o.2.2.2.2)).1) + (1))))), (6, .one (.dv [] (.bool ((a1b (x) (o.2.2.1) ((a1I ((((x.2.1)).getD (a0R (x) (o.2.2.1)).toNat default).2) (o.2.2.2.2) (((a0Y ((((x.2.1)).getD (a0R (x) (o.2.2.1)).toNat default).2) (o.2.2.2.2)).1) + (1))).1)).2))))], [(4, 67, [(.dv [] (.str ((a1b (x) (o.2.2.1) ((a1I ((((x.2.1)).getD (a0R (x) (o.2.2.1)).toNat default).2) (o.2.2.2.2) (((a0Y ((((x.2.1)).getD (a0R (x) (o.2.2.1)).toNat default).2) (o.2.2.2.2)).1) + (1))).1)).1.1))), (.key 9001), (.dv [] (.int .i64 ((a1b (x) (o.2.2.1) ((a1I ((((x.2.1)).getD (a0R (x) (o.2.2.1)).toNat default).2) (o.2.2.2.2) (((a0Y ((((x.2.1)).getD (a0R (x) (o.2.2.1)).toNat default).2) (o.2.2.2.2)).1) + (1))).1)).1.2.2)))])], [(9001, some (a0b false (a0n ((a1b x o.2.2.1 (a1I ((x.2.1.getD (a0R x o.2.2.1).toNat default).2) o.2.2.2.2 ((a0Y ((x.2.1.getD (a0R x o.2.2.1).toNat default).2) o.2.2.2.2).1 + 1)).1).1.2.1))))]⟩) (a0e ⟨rfl, rfl, rfl, trivial⟩ ⟨rfl, trivial⟩ ⟨rfl, trivial⟩ rfl) ?_
        refine z ?_
        refine a1K (a0F hT rfl rfl rfl rfl) (a0i rfl) (a0i rfl) rfl rfl rfl ?_
        first | exact ⟨rfl, rfl⟩ | skip
      ·have d6 := of_decide_eq_false c6
       have hb9 : a1j [] = true := rfl
       have hgb := a8C (n := o.2.2.2.2) hb9
       have hrl := a7t hb9
       have hrq := b2A d6
       have hsl := b2d ([] : a0y) o.2.2.2.2 ((a0Y ([] : a0y) o.2.2.2.2).1 + 1)
       iterate 6 refine z ?_
       refine a3a rfl rfl rfl Tryz.call127 (a6m (x := ([] : a0y)) (n := o.2.2.2.2)) (a0g (a0a rfl) (a0s (a0d (a5D rfl rfl) a0r)) (a0g (a0a rfl) (a0D a0c) a0m)) rfl rfl ?_
       iterate 12 refine z ?_
       refine a2J 499 rfl rfl rfl Tryz.call132 (b1s (r := ([] : a0y)) (n := o.2.2.2.2) (v := (a0Y ([] : a0y) o.2.2.2.2).1 + 1) (by omega)) (a0g (a0a rfl) (a0s (a0d (a5D rfl rfl) a0r)) (a0g (a0a rfl) (a0D a0c) (a0g (a0a rfl) (a0D a0c) a0m))) rfl rfl rfl ?_
       iterate 11 refine z ?_
       refine yQ rfl (fun c8 => ?_) fun c8 => ?_
       ·exact absurd c8 (b6p hal d1 d2 d3 d4 hrq)
       ·iterate 7 refine z ?_
        refine a2J 0 rfl rfl rfl Tryz.call129 (b1e (x := x) (k := o.2.2.1) (r := (a1I ([] : a0y) o.2.2.2.2 ((a0Y ([] : a0y) o.2.2.2.2).1 + 1)).1) (by omega) (by omega)) (a0g (a0a rfl) (a0s (a0d a0c (a0d a0c (a0d a0c a0r)))) (a0g (a0a rfl) (a0s (a0d a0c (a0d a0c (a0d a0c a0r)))) (a0g (a0a rfl) (a0s (a0d (a0Q rfl rfl) a0r)) a0m))) rfl rfl rfl ?_
        iterate 16 refine z ?_
        rw [b5B d1 d2 d3 d4 d5 hrq c8]
        refine a0h (σ' := ⟨[(4, .box 4 0), (5, .one (.dv [] (.int .i64 (((a0Y ([]) (o.2.2.2.2)).1) + (1))))), (6, .one (.dv [] (.bool ((a1b (x) (o.2.2.1) ((a1I ([]) (o.2.2.2.2) (((a0Y ([]) (o.2.2.2.2)).1) + (1))).1)).2))))], [(4, 67, [(.dv [] (.str ((a1b (x) (o.2.2.1) ((a1I ([]) (o.2.2.2.2) (((a0Y ([]) (o.2.2.2.2)).1) + (1))).1)).1.1))), (.key 9001), (.dv [] (.int .i64 ((a1b (x) (o.2.2.1) ((a1I ([]) (o.2.2.2.2) (((a0Y ([]) (o.2.2.2.2)).1) + (1))).1)).1.2.2)))])], [(9001, some (a0b false (a0n ((a1b x o.2.2.1 (a1I ([] : a0y) o.2.2.2.2 ((a0Y ([] : a0y) o.2.2.2.2).1 + 1)).1).1.2.1))))]⟩) (a0e ⟨rfl, rfl, rfl, trivial⟩ ⟨rfl, trivial⟩ ⟨rfl, trivial⟩ rfl) ?_
        refine z ?_
        refine a1K (a0F hT rfl rfl rfl rfl) (a0i rfl) (a0i rfl) rfl rfl rfl ?_
        first | exact ⟨rfl, rfl⟩ | skip
theorem c0W {x : a0P} {k : a0S} {f : Str} (hs : a1D x = true) : KFn Tryz.prog 115 [.agg [(.dv [] (.str (x.1))), (.dv [] (a0n (x.2.1))), (.dv [] (.int .i64 (x.2.2)))], .agg [(.dv [] (.int .i64 (k.1))), (.dv [] (.int .i64 (k.2.1))), (.dv [] (.str (k.2.2)))], .one (.dv [] (.str (f)))] (.tup [(true, [(.dv [] (.str ((a3y x k f).1.1))), (.key 9001), (.dv [] (.int .i64 ((a3y x k f).1.2.2)))]), (false, [(.dv [] (.int .i64 ((a3y x k f).2.1)))]), (false, [(.dv [] (.bool ((a3y x k f).2.2)))])]) [(9001, some (a0b false (a0n ((a3y x k f).1.2.1))))] := by
 refine ⟨a0v Tryz.func115 rfl Tryz.ntmps115 Tryz.results115 rfl (fun C => ?_)⟩
 have hsw := a6Y hs
 refine yF 0 0 rfl rfl fun f0_0 => ?_
 refine yF 0 1 rfl rfl fun f0_1 => ?_
 refine yF 0 2 rfl rfl fun f0_2 => ?_
 refine yF 1 0 rfl rfl fun f1_0 => ?_
 refine yF 1 1 rfl rfl fun f1_1 => ?_
 refine yF 1 2 rfl rfl fun f1_2 => ?_
 refine a0E (x := .tmp 2) (a0a rfl) fun f2 => ?_
 iterate 8 refine z ?_
 refine yO rfl rfl (a1x hT hB rfl rfl rfl a1w) rfl ?_
 iterate 7 refine z ?_
 refine zC Tryz.call114 ?_ (hf := b0E (x := x) (k := k) )
 iterate 6 refine z ?_
 refine yQ rfl (fun c1 => ?_) fun c1 => ?_
 ·have d1 := of_decide_eq_true c1
  have hb9 := b3m hs d1
  have hgb := a8C (n := f) hb9
  have hrl := a7t hb9
  have hrq := b4B d1
  have hlt9 := a5J d1
  have hsl := b2d ((x.2.1.getD (a0R x k).toNat default).2) f ((a0Y ((x.2.1.getD (a0R x k).toNat default).2) f).1 + 1)
  refine a0k ?_
  iterate 11 refine z ?_
  refine zC Tryz.call110 ?_ (hf := a7o (x := ((x.2.1.getD (a0R x k).toNat default).2)) (n := f))
  iterate 11 refine z ?_
  refine zK 499 Tryz.call139 ?_ (hf := b5A (r := ((x.2.1.getD (a0R x k).toNat default).2)) (n := f) (v := (a0Y ((x.2.1.getD (a0R x k).toNat default).2) f).1 + 1) (by omega))
  iterate 11 refine z ?_
  refine a2J 0 rfl rfl rfl Tryz.call111 (b2t (x := x) (k := k) (r := (a1I ((x.2.1.getD (a0R x k).toNat default).2) f ((a0Y ((x.2.1.getD (a0R x k).toNat default).2) f).1 + 1)).1) (by omega) (by omega)) (a0g (a0a rfl) (a0s (a0d a0c (a0d a0c (a0d a0c a0r)))) (a0g (a0a rfl) (a0s (a0d a0c (a0d a0c (a0d a0c a0r)))) (a0g (a0a rfl) (a0s (a0d (a0Q rfl rfl) a0r)) a0m))) rfl rfl rfl ?_
  iterate 19 refine z ?_
  have hfin : a3y x k f = ((a1b x k (a1I ((x.2.1.getD (a0R x k).toNat default).2) f ((a0Y ((x.2.1.getD (a0R x k).toNat default).2) f).1 + 1)).1).1, (a0Y ((x.2.1.getD (a0R x k).toNat default).2) f).1 + 1, (a1I ((x.2.1.getD (a0R x k).toNat default).2) f ((a0Y ((x.2.1.getD (a0R x k).toNat default).2) f).1 + 1)).2 && (a1b x k (a1I ((x.2.1.getD (a0R x k).toNat default).2) f ((a0Y ((x.2.1.getD (a0R x k).toNat default).2) f).1 + 1)).1).2) := by rw [a3y, hrq]; rfl
  rw [hfin]
  refine a0h (σ' := ⟨[(6, .box 6 0), (7, .one (.dv [] (.int .i64 (((a0Y ((((x.2.1)).getD (a0R (x) (k)).toNat default).2) (f)).1) + (1))))), (8, .one (.dv [] (.bool (((a1I ((((x.2.1)).getD (a0R (x) (k)).toNat default).2) (f) (((a0Y ((((x.2.1)).getD (a0R (x) (k)).toNat default).2) (f)).1) + (1))).2) && ((a1b (x) (k) ((a1I ((((x.2.1)).getD (a0R (x) (k)).toNat default).2) (f) (((a0Y ((((x.2.1)).getD (a0R (x) (k)).toNat default).2) (f)).1) + (1))).1)).2)))))], [(6, 67, [(.dv [] (.str ((a1b (x) (k) ((a1I ((((x.2.1)).getD (a0R (x) (k)).toNat default).2) (f) (((a0Y ((((x.2.1)).getD (a0R (x) (k)).toNat default).2) (f)).1) + (1))).1)).1.1))), (.key 9001), (.dv [] (.int .i64 ((a1b (x) (k) ((a1I ((((x.2.1)).getD (a0R (x) (k)).toNat default).2) (f) (((a0Y ((((x.2.1)).getD (a0R (x) (k)).toNat default).2) (f)).1) + (1))).1)).1.2.2)))])], [(9001, some (a0b false (a0n ((a1b x k (a1I ((x.2.1.getD (a0R x k).toNat default).2) f ((a0Y ((x.2.1.getD (a0R x k).toNat default).2) f).1 + 1)).1).1.2.1))))]⟩) (a0e ⟨rfl, rfl, rfl, trivial⟩ ⟨rfl, trivial⟩ ⟨rfl, trivial⟩ rfl) ?_
  refine z ?_
  refine a1K (a0F hT rfl rfl rfl rfl) (a0i rfl) (a0i rfl) rfl rfl rfl ?_
  first | exact ⟨rfl, rfl⟩ | skip
 ·have d1 := of_decide_eq_false c1
  have hb9 : a1j [] = true := rfl
  have hgb := a8C (n := f) hb9
  have hrl := a7t hb9
  have hrq := b2A d1
  have hsl := b2d ([] : a0y) f ((a0Y ([] : a0y) f).1 + 1)
  iterate 5 refine z ?_
  refine a3a rfl rfl rfl Tryz.call110 (a7o (x := ([] : a0y)) (n := f)) (a0g (a0a rfl) (a0s (a0d (a5D rfl rfl) a0r)) (a0g (a0a rfl) (a0D a0c) a0m)) rfl rfl ?_
  iterate 11 refine z ?_
  refine a2J 499 rfl rfl rfl Tryz.call139 (b5A (r := ([] : a0y)) (n := f) (v := (a0Y ([] : a0y) f).1 + 1) (by omega)) (a0g (a0a rfl) (a0s (a0d (a5D rfl rfl) a0r)) (a0g (a0a rfl) (a0D a0c) (a0g (a0a rfl) (a0D a0c) a0m))) rfl rfl rfl ?_
  iterate 11 refine z ?_
  refine a2J 0 rfl rfl rfl Tryz.call111 (b2t (x := x) (k := k) (r := (a1I ([] : a0y) f ((a0Y ([] : a0y) f).1 + 1)).1) (by omega) (by omega)) (a0g (a0a rfl) (a0s (a0d a0c (a0d a0c (a0d a0c a0r)))) (a0g (a0a rfl) (a0s (a0d a0c (a0d a0c (a0d a0c a0r)))) (a0g (a0a rfl) (a0s (a0d (a0Q rfl rfl) a0r)) a0m))) rfl rfl rfl ?_
  iterate 19 refine z ?_
  have hfin : a3y x k f = ((a1b x k (a1I ([] : a0y) f ((a0Y ([] : a0y) f).1 + 1)).1).1, (a0Y ([] : a0y) f).1 + 1, (a1I ([] : a0y) f ((a0Y ([] : a0y) f).1 + 1)).2 && (a1b x k (a1I ([] : a0y) f ((a0Y ([] : a0y) f).1 + 1)).1).2) := by rw [a3y, hrq]; rfl
  rw [hfin]
  refine a0h (σ' := ⟨[(6, .box 6 0), (7, .one (.dv [] (.int .i64 (((a0Y ([]) (f)).1) + (1))))), (8, .one (.dv [] (.bool (((a1I ([]) (f) (((a0Y ([]) (f)).1) + (1))).2) && ((a1b (x) (k) ((a1I ([]) (f) (((a0Y ([]) (f)).1) + (1))).1)).2)))))], [(6, 67, [(.dv [] (.str ((a1b (x) (k) ((a1I ([]) (f) (((a0Y ([]) (f)).1) + (1))).1)).1.1))), (.key 9001), (.dv [] (.int .i64 ((a1b (x) (k) ((a1I ([]) (f) (((a0Y ([]) (f)).1) + (1))).1)).1.2.2)))])], [(9001, some (a0b false (a0n ((a1b x k (a1I ([] : a0y) f ((a0Y ([] : a0y) f).1 + 1)).1).1.2.1))))]⟩) (a0e ⟨rfl, rfl, rfl, trivial⟩ ⟨rfl, trivial⟩ ⟨rfl, trivial⟩ rfl) ?_
  refine z ?_
  refine a1K (a0F hT rfl rfl rfl rfl) (a0i rfl) (a0i rfl) rfl rfl rfl ?_
  first | exact ⟨rfl, rfl⟩ | skip
section
variable {x : a0P} {o : OpT}
theorem c1P (h : o.1 = 1) : opM x o = ((a1b x o.2.2.1 o.2.2.2.1).1, 1, (a1b x o.2.2.1 o.2.2.2.1).2) := by rw [opM, if_pos h]
theorem c2o (h : o.1 = 2) : opM x o = ((a2I x o.2.2.1 o.2.2.2.1).1, 1, (a2I x o.2.2.1 o.2.2.2.1).2) := by rw [opM, if_neg (by omega), if_pos h]
theorem c1B (h : o.1 = 3) : opM x o = ((a1L x (rgK o.2.2.1)).1, (a1L x (rgK o.2.2.1)).2, true) := by rw [opM, if_neg (by omega), if_neg (by omega), if_pos h]
theorem c1s (h : o.1 = 5) : opM x o = ((a1L x rg0).1, (a1L x rg0).2, true) := by rw [opM, if_neg (by omega), if_neg (by omega), if_neg (by omega), if_neg (by omega), if_pos h]
theorem c2m (h : o.1 = 4) (h2 : a0R x o.2.2.1 < 0) : opM x o = (x, -1, true) := by rw [opM, if_neg (by omega), if_neg (by omega), if_neg (by omega), if_pos h, a8b, if_pos h2]
theorem c1d (h : o.1 = 4) (h2 : ¬ a0R x o.2.2.1 < 0) : opM x o = (x, ((x.2.1.getD (a0R x o.2.2.1).toNat default).2.length : Int), true) := by rw [opM, if_neg (by omega), if_neg (by omega), if_neg (by omega), if_pos h, a8b, if_neg h2]
theorem c4L (h1 : o.1 ≠ 1) (h2 : o.1 ≠ 2) (h3 : o.1 ≠ 3) (h4 : o.1 ≠ 4) (h5 : o.1 ≠ 5) : opM x o = a3y x o.2.2.1 o.2.2.2.2 := by rw [opM, if_neg h1, if_neg h2, if_neg h3, if_neg h4, if_neg h5]
end
theorem c5i {x : a0P} {o : OpT} (hs : a1D x = true) (ho : a1E o = true) : KFn Tryz.prog 78 [.agg [(.dv [] (.str (x.1))), (.dv [] (a0n (x.2.1))), (.dv [] (.int .i64 (x.2.2)))], .agg [(.dv [] (.int .i64 (o.1))), (.dv [] (.str (o.2.1))), (.dv [] (.int .i64 (o.2.2.1.1))), (.dv [] (.int .i64 (o.2.2.1.2.1))), (.dv [] (.str (o.2.2.1.2.2))), (.dv [] (a0w (o.2.2.2.1))), (.dv [] (.str (o.2.2.2.2)))]] (.tup [(true, [(.dv [] (.str ((opM x o).1.1))), (.key 9001), (.dv [] (.int .i64 ((opM x o).1.2.2)))]), (false, [(.dv [] (.int .i64 ((opM x o).2.1)))]), (false, [(.dv [] (.bool ((opM x o).2.2)))])]) [(9001, some (a0b false (a0n ((opM x o).1.2.1))))] := by
 refine ⟨a0v Tryz.func78 rfl Tryz.ntmps78 Tryz.results78 rfl (fun C => ?_)⟩
 have hsw := a6Y hs
 have hor := b2P ho
 refine yF 0 0 rfl rfl fun f0_0 => ?_
 refine yF 0 1 rfl rfl fun f0_1 => ?_
 refine yF 0 2 rfl rfl fun f0_2 => ?_
 refine yF 1 0 rfl rfl fun f1_0 => ?_
 refine yF 1 1 rfl rfl fun f1_1 => ?_
 refine yF 1 2 rfl rfl fun f1_2 => ?_
 refine yF 1 3 rfl rfl fun f1_3 => ?_
 refine yF 1 4 rfl rfl fun f1_4 => ?_
 refine yF 1 5 rfl rfl fun f1_5 => ?_
 refine yF 1 6 rfl rfl fun f1_6 => ?_
 iterate 17 refine z ?_
 refine yQ rfl (fun c1 => ?_) fun c1 => ?_
 ·have d1 := of_decide_eq_true c1
  iterate 6 refine z ?_
  refine zK 0 Tryz.call111 ?_ (hf := b2t (x := x) (k := o.2.2.1) (r := o.2.2.2.1) (by omega) (by omega))
  iterate 14 refine z ?_
  rw [c1P d1]
  refine a0h (σ' := ⟨[(4, .box 4 0), (5, .one (.dv [] (.int .i64 (1)))), (6, .one (.dv [] (.bool ((a1b (x) (o.2.2.1) (o.2.2.2.1)).2))))], [(4, 67, [(.dv [] (.str ((a1b (x) (o.2.2.1) (o.2.2.2.1)).1.1))), (.key 9001), (.dv [] (.int .i64 ((a1b (x) (o.2.2.1) (o.2.2.2.1)).1.2.2)))])], [(9001, some (a0b false (a0n ((a1b x o.2.2.1 o.2.2.2.1).1.2.1))))]⟩) (a0e ⟨rfl, rfl, rfl, trivial⟩ ⟨rfl, trivial⟩ ⟨rfl, trivial⟩ rfl) ?_
  iterate 3 refine z ?_
  refine a1K (a0F hT rfl rfl rfl rfl) (a0i rfl) (a0i rfl) rfl rfl rfl ?_
  first | exact ⟨rfl, rfl⟩ | skip
 ·have d1 := of_decide_eq_false c1
  iterate 4 refine z ?_
  refine yQ rfl (fun c2 => ?_) fun c2 => ?_
  ·have d2 := of_decide_eq_true c2
   iterate 6 refine z ?_
   refine zK 0 Tryz.call112 ?_ (hf := c6R (x := x) (k := o.2.2.1) (r := o.2.2.2.1) (by omega) (by omega))
   iterate 14 refine z ?_
   rw [c2o d2]
   refine a0h (σ' := ⟨[(4, .box 4 0), (5, .one (.dv [] (.int .i64 (1)))), (6, .one (.dv [] (.bool ((a2I (x) (o.2.2.1) (o.2.2.2.1)).2))))], [(4, 67, [(.dv [] (.str ((a2I (x) (o.2.2.1) (o.2.2.2.1)).1.1))), (.key 9001), (.dv [] (.int .i64 ((a2I (x) (o.2.2.1) (o.2.2.2.1)).1.2.2)))])], [(9001, some (a0b false (a0n ((a2I x o.2.2.1 o.2.2.2.1).1.2.1))))]⟩) (a0e ⟨rfl, rfl, rfl, trivial⟩ ⟨rfl, trivial⟩ ⟨rfl, trivial⟩ rfl) ?_
   iterate 3 refine z ?_
   refine a1K (a0F hT rfl rfl rfl rfl) (a0i rfl) (a0i rfl) rfl rfl rfl ?_
   first | exact ⟨rfl, rfl⟩ | skip
  ·have d2 := of_decide_eq_false c2
   iterate 4 refine z ?_
   refine yQ rfl (fun c3 => ?_) fun c3 => ?_
   ·have d3 := of_decide_eq_true c3
    iterate 6 refine z ?_
    refine yO rfl rfl (a1x hT hB rfl rfl rfl (a1r a0J rfl rfl rfl rfl rfl (a1r a0J rfl rfl rfl rfl rfl (a1r (a0a rfl) rfl rfl rfl rfl rfl (a1r (a0a rfl) rfl rfl rfl rfl rfl a1w))))) rfl ?_
    refine zK 0 Tryz.call113 ?_ (hf := b6j (x := x) (r := rgK o.2.2.1) (by omega))
    iterate 14 refine z ?_
    rw [c1B d3]
    refine a0h (σ' := ⟨[(4, .box 4 0), (5, .one (.dv [] (.int .i64 ((a1L (x) (rgK o.2.2.1)).2)))), (6, .one (.dv [] (.bool (true))))], [(4, 67, [(.dv [] (.str ((a1L (x) (rgK o.2.2.1)).1.1))), (.key 9001), (.dv [] (.int .i64 ((a1L (x) (rgK o.2.2.1)).1.2.2)))])], [(9001, some (a0b false (a0n ((a1L x (rgK o.2.2.1)).1.2.1))))]⟩) (a0e ⟨rfl, rfl, rfl, trivial⟩ ⟨rfl, trivial⟩ ⟨rfl, trivial⟩ rfl) ?_
    iterate 3 refine z ?_
    refine a1K (a0F hT rfl rfl rfl rfl) (a0i rfl) (a0i rfl) rfl rfl rfl ?_
    first | exact ⟨rfl, rfl⟩ | skip
   ·have d3 := of_decide_eq_false c3
    iterate 4 refine z ?_
    refine yQ rfl (fun c4 => ?_) fun c4 => ?_
    ·have d4 := of_decide_eq_true c4
     iterate 4 refine z ?_
     refine zC Tryz.call114 ?_ (hf := b0E (x := x) (k := o.2.2.1) )
     iterate 7 refine z ?_
     refine yQ rfl (fun c5 => ?_) fun c5 => ?_
     ·have d5 := of_decide_eq_true c5
      iterate 2 refine z ?_
      refine zK 8971 Tryz.call35 ?_ (hf := a7F (x := x) (by omega))
      iterate 4 refine z ?_
      rw [c2m d4 d5]
      refine a0h (σ' := ⟨[(4, .box 4 0), (5, .one (.dv [] (.int .i64 (-1)))), (6, .one (.dv [] (.bool (true))))], [(4, 67, [(.dv [] (.str ((x).1))), (.key 9001), (.dv [] (.int .i64 ((x).2.2)))])], [(9001, some (a0b false (a0n (x.2.1))))]⟩) (a0e ⟨rfl, rfl, rfl, trivial⟩ ⟨rfl, trivial⟩ ⟨rfl, trivial⟩ rfl) ?_
      iterate 4 refine z ?_
      refine a1K (a0F hT rfl rfl rfl rfl) (a0i rfl) (a0i rfl) rfl rfl rfl ?_
      first | exact ⟨rfl, rfl⟩ | skip
     ·have d5 := of_decide_eq_false c5
      have hfx : a0R x o.2.2.1 < x.2.1.length := by have := a5J (x := x) (k := o.2.2.1) (by omega); omega
      iterate 2 refine z ?_
      refine a0q ?_
      refine b8l 4 [0, 1, 2, 3, 4, 5, 6, 7, 8, 9, 10] (oB := [2, 3]) (oK := []) (by kernel_rfl) rfl rfl ?_
      refine a4X 0 rfl (by kernel_rfl) rfl rfl (a6B hT rfl rfl (a0a rfl) rfl rfl) rfl rfl rfl rfl rfl ?_
      refine a4X 2 rfl (by kernel_rfl) rfl rfl (a6w hT rfl rfl rfl (a0a rfl)) rfl rfl rfl rfl rfl ?_
      refine a4X 3 rfl (by kernel_rfl) rfl rfl (a4N hT rfl rfl (a0a rfl) rfl rfl) rfl rfl rfl rfl rfl ?_
      refine a4X 4 rfl (by kernel_rfl) rfl rfl (a2c (.inl rfl) (a0a rfl)) rfl rfl rfl rfl rfl ?_
      refine a4X 5 rfl (by kernel_rfl) rfl rfl (a6o hT rfl rfl rfl (a0a rfl) (a0a rfl) (fun _ => rfl) (by omega) (by omega)) rfl rfl rfl rfl rfl ?_
      refine a4X 6 rfl (by kernel_rfl) rfl rfl (a6f hT rfl rfl rfl (a0a rfl)) rfl rfl rfl rfl rfl ?_
      refine a4X 7 rfl (by kernel_rfl) rfl rfl (a6f hT rfl rfl rfl (a0a rfl)) rfl rfl rfl rfl rfl ?_
      refine a4X 8 rfl (by kernel_rfl) rfl rfl (b3n hT rfl rfl (a0a rfl) rfl) rfl rfl rfl rfl rfl ?_
      refine a4X 9 rfl (by kernel_rfl) rfl rfl (a9s hT rfl rfl (a0a rfl)) rfl rfl rfl rfl rfl ?_
      refine c3r 8971 1 rfl (by kernel_rfl) rfl rfl rfl Tryz.call35 (a7F (x := x) (by omega)) (a0g (a0a rfl) (a0s (a0d a0c (a0d a0c (a0d a0c a0r)))) a0m) rfl rfl rfl rfl rfl rfl ?_
      refine b7G 10 rfl (by kernel_rfl) rfl hT rfl rfl rfl (a0a rfl) (a0a rfl) rfl rfl rfl rfl rfl rfl ?_
      refine b7v [11, 12] rfl rfl (by kernel_rfl) ?_
      iterate 3 refine z ?_
      rw [c1d d4 d5]
      refine a0h (σ' := ⟨[(4, .box 4 0), (5, .one (.dv [] (.int .i64 (((((((x.2.1)).getD (a0R (x) (o.2.2.1)).toNat default).2)).length : Int))))), (6, .one (.dv [] (.bool (true))))], [(4, 67, [(.dv [] (.str ((x).1))), (.key 9001), (.dv [] (.int .i64 ((x).2.2)))])], [(9001, some (a0b false (a0n (x.2.1))))]⟩) (a0e ⟨rfl, rfl, rfl, trivial⟩ ⟨rfl, trivial⟩ ⟨rfl, trivial⟩ rfl) ?_
      iterate 3 refine z ?_
      refine a1K (a0F hT rfl rfl rfl rfl) (a0i rfl) (a0i rfl) rfl rfl rfl ?_
      first | exact ⟨rfl, rfl⟩ | skip
    ·have d4 := of_decide_eq_false c4
     iterate 4 refine z ?_
     refine yQ rfl (fun c6 => ?_) fun c6 => ?_
     ·have d6 := of_decide_eq_true c6
      iterate 2 refine z ?_
      refine yO rfl rfl (a1x hT hB rfl rfl rfl a1w) rfl ?_
      refine zK 0 Tryz.call113 ?_ (hf := b6j (x := x) (r := rg0) (by omega))
      iterate 14 refine z ?_
      rw [c1s d6]
      refine a0h (σ' := ⟨[(4, .box 4 0), (5, .one (.dv [] (.int .i64 ((a1L (x) (rg0)).2)))), (6, .one (.dv [] (.bool (true))))], [(4, 67, [(.dv [] (.str ((a1L (x) (rg0)).1.1))), (.key 9001), (.dv [] (.int .i64 ((a1L (x) (rg0)).1.2.2)))])], [(9001, some (a0b false (a0n ((a1L x rg0).1.2.1))))]⟩) (a0e ⟨rfl, rfl, rfl, trivial⟩ ⟨rfl, trivial⟩ ⟨rfl, trivial⟩ rfl) ?_
      iterate 3 refine z ?_
      refine a1K (a0F hT rfl rfl rfl rfl) (a0i rfl) (a0i rfl) rfl rfl rfl ?_
      first | exact ⟨rfl, rfl⟩ | skip
     ·have d6 := of_decide_eq_false c6
      iterate 9 refine z ?_
      refine zK 0 Tryz.call115 ?_ (hf := c0W (x := x) (k := o.2.2.1) (f := o.2.2.2.2) hs)
      iterate 7 refine z ?_
      rw [c4L d1 d2 d3 d4 d6]
      refine a0h (σ' := ⟨[(4, .box 4 0), (5, .one (.dv [] (.int .i64 ((a3y (x) (o.2.2.1) (o.2.2.2.2)).2.1)))), (6, .one (.dv [] (.bool ((a3y (x) (o.2.2.1) (o.2.2.2.2)).2.2))))], [(4, 67, [(.dv [] (.str ((a3y (x) (o.2.2.1) (o.2.2.2.2)).1.1))), (.key 9001), (.dv [] (.int .i64 ((a3y (x) (o.2.2.1) (o.2.2.2.2)).1.2.2)))])], [(9001, some (a0b false (a0n ((a3y x o.2.2.1 o.2.2.2.2).1.2.1))))]⟩) (a0e ⟨rfl, rfl, rfl, trivial⟩ ⟨rfl, trivial⟩ ⟨rfl, trivial⟩ rfl) ?_
      refine z ?_
      refine a1K (a0F hT rfl rfl rfl rfl) (a0i rfl) (a0i rfl) rfl rfl rfl ?_
      first | exact ⟨rfl, rfl⟩ | skip
theorem b8f {α : Type} {enc : α → List DV} {sz : Nat} {xs : List α} {i : Nat} (hs : ∀ y, (enc y).length = sz) (hi : i < xs.length) : i * sz + sz ≤ (xs.flatMap enc).length := by
 rw [a5d hs]
 have : (i + 1) * sz ≤ xs.length * sz := Nat.mul_le_mul_right _ hi
 rw [Nat.add_mul, Nat.one_mul] at this
 exact this
section
variable {α : Type} {enc : α → List DV} {sz : Nat} {xs : List α} {i : Nat} [Inhabited α]
theorem b3l (hs : ∀ y, (enc y).length = sz) (hi : i < xs.length) : sub (i * sz) sz (xs.flatMap enc) = enc (xs.getD i default) := by
 obtain ⟨_, h2⟩ := a7I hs i xs
 have e : xs.drop i = xs.getD i default :: xs.drop (i + 1) := by rw [List.drop_eq_getElem_cons hi]; simp [List.getD, List.getElem?_eq_getElem hi]
 rw [sub, h2, e, List.flatMap_cons, List.take_left' (hs _)]
theorem b4V (hs : ∀ y, (enc y).length = sz) (hi : i < xs.length) (y : α) : a1a (i * sz) (enc y) (xs.flatMap enc) = (xs.set i y).flatMap enc := by
 have e : xs.flatMap enc = (xs.take i).flatMap enc ++ (enc (xs.getD i default) ++ (xs.drop (i + 1)).flatMap enc) := by
  have e : xs.drop i = xs.getD i default :: xs.drop (i + 1) := by rw [List.drop_eq_getElem_cons hi]; simp [List.getD, List.getElem?_eq_getElem hi]
  rw [← List.flatMap_cons, ← e, ← List.flatMap_append, List.take_append_drop]
 rw [e, a6U (by rw [a5d hs, List.length_take]; congr 1; omega) (by rw [hs, hs]), List.set_eq_take_append_cons_drop, if_pos hi, List.flatMap_append, List.flatMap_cons]
end
def a3s (d : DbT) (i : Nat) (s : a0P) : DbT := (d.1, d.2.1, d.2.2.1.set i s, d.2.2.2)
def a3d (d : DbT) (o : OpT) : a0P := d.2.2.1.getD (a1Y d o.2.1).toNat default
def a1k (d : DbT) (o : OpT) : DbT × Int × Bool :=
 if ((!a1V d || !a1E o) || decide (a1Y d o.2.1 < 0)) = true then (d, 0, false)
 else if (!(opM (a3d d o) o).2.2 || !a1V (a3s d (a1Y d o.2.1).toNat (opM (a3d d o) o).1)) = true then (d, 0, false)
 else (a3s d (a1Y d o.2.1).toNat (opM (a3d d o) o).1, (opM (a3d d o) o).2.1, true)
theorem b1E {d : DbT} {o : OpT} (h : ((!a1V d || !a1E o) || decide (a1Y d o.2.1 < 0)) = false) : a1V d = true ∧ a1E o = true ∧ 0 ≤ a1Y d o.2.1 := by
 simp only [Bool.or_eq_false_iff, Bool.not_eq_false', decide_eq_false_iff_not] at h
 exact ⟨h.1.1, h.1.2, by omega⟩
theorem b0p {d : DbT} (h : a1V d = true) : a6J d = true := by
 rw [a1V] at h
 simp only [Bool.and_eq_true] at h
 exact h.2.1
theorem b3U {d : DbT} {o : OpT} (h : ((!a1V d || !a1E o) || decide (a1Y d o.2.1 < 0)) = true) : a1k d o = (d, 0, false) := by rw [a1k, if_pos h]
theorem b3C {d : DbT} {o : OpT} {r : a0P × Int × Bool} (h : ((!a1V d || !a1E o) || decide (a1Y d o.2.1 < 0)) = false) (hr : r = opM (a3d d o) o ∨ (r.2.2 = false ∧ (opM (a3d d o) o).2.2 = false)) (h2 : (!r.2.2 || !a1V (a3s d (a1Y d o.2.1).toNat r.1)) = true) : a1k d o = (d, 0, false) := by
 rw [a1k, if_neg (by rw [h]; simp)]
 rcases hr with rfl | ⟨_, hr⟩
 ·rw [if_pos h2]
 ·rw [if_pos (by rw [hr]; rfl)]
theorem b3Q {d : DbT} {o : OpT} {r : a0P × Int × Bool} (h : ((!a1V d || !a1E o) || decide (a1Y d o.2.1 < 0)) = false) (hr : r = opM (a3d d o) o ∨ (r.2.2 = false ∧ (opM (a3d d o) o).2.2 = false)) (h2 : (!r.2.2 || !a1V (a3s d (a1Y d o.2.1).toNat r.1)) = false) : a1k d o = (a3s d (a1Y d o.2.1).toNat r.1, r.2.1, true) := by
 rw [a1k, if_neg (by rw [h]; simp)]
 rcases hr with rfl | ⟨hr, _⟩
 ·rw [if_neg (by rw [h2]; simp)]
 ·rw [hr] at h2; cases h2
theorem c7a {x : a0P} {o : OpT} (h : same x o = true) : (opI x o).1 = x := by
 by_cases h4 : o.1 = 4
 ·unfold opI
  rw [if_neg (by omega), if_neg (by omega), if_neg (by omega), if_neg (by omega), if_pos h4]
 ·have h1 : ¬ o.1 = 1 := fun e => a7a h (by omega)
  have h2 : ¬ o.1 = 2 := fun e => a7a h (by omega)
  have h3 : ¬ o.1 = 3 := fun e => a7a h (by omega)
  have h5 : ¬ o.1 = 5 := fun e => a7a h (by omega)
  unfold opI
  rw [if_neg h1, if_neg h2, if_neg h3, if_neg h5, if_neg h4, if_pos]
  have := b3q h h4 rfl
  unfold a4p
  simpa using this
theorem c1y {d : DbT} {i : Nat} (hi : i < d.2.2.1.length) : a3s d i (d.2.2.1.getD i default) = d := by
 have : d.2.2.1.set i (d.2.2.1.getD i default) = d.2.2.1 := by
  apply List.ext_getElem?
  intro j
  rw [List.getElem?_set]
  by_cases h : i = j
  ·subst h; simp [hi, List.getD]
  ·simp [h]
 unfold a3s
 rw [this]
theorem c4v {d : DbT} {o : OpT} (hb : a0Z d ≤ 1099511627776) : KFn Tryz.prog 43 [.agg [(.dv [] (.str (d.1))), (.dv [] (.int .i64 (d.2.1))), (.dv [] (a0z (d.2.2.1))), (.dv [] (a0B (d.2.2.2)))], .agg [(.dv [] (.int .i64 (o.1))), (.dv [] (.str (o.2.1))), (.dv [] (.int .i64 (o.2.2.1.1))), (.dv [] (.int .i64 (o.2.2.1.2.1))), (.dv [] (.str (o.2.2.1.2.2))), (.dv [] (a0w (o.2.2.2.1))), (.dv [] (.str (o.2.2.2.2)))]] (.tup [(true, [(.dv [] (.str ((a1k d o).1.1))), (.dv [] (.int .i64 ((a1k d o).1.2.1))), (.key 90031), (.key 90900)]), (false, [(.dv [] (.int .i64 ((a1k d o).2.1)))]), (false, [(.dv [] (.bool ((a1k d o).2.2)))])]) [(90031, some (a0b false (a0z ((a1k d o).1.2.2.1)))), (90900, some (a0b false (a0B ((a1k d o).1.2.2.2))))] := by
 refine ⟨a0v Tryz.func43 rfl Tryz.ntmps43 Tryz.results43 rfl (fun C => ?_)⟩
 refine yF 0 0 rfl rfl fun f0_0 => ?_
 refine yF 0 1 rfl rfl fun f0_1 => ?_
 refine yF 0 2 rfl rfl fun f0_2 => ?_
 refine yF 0 3 rfl rfl fun f0_3 => ?_
 refine yF 1 0 rfl rfl fun f1_0 => ?_
 refine yF 1 1 rfl rfl fun f1_1 => ?_
 refine yF 1 2 rfl rfl fun f1_2 => ?_
 refine yF 1 3 rfl rfl fun f1_3 => ?_
 refine yF 1 4 rfl rfl fun f1_4 => ?_
 refine yF 1 5 rfl rfl fun f1_5 => ?_
 refine yF 1 6 rfl rfl fun f1_6 => ?_
 iterate 9 refine z ?_
 refine zK 90000 Tryz.call15 ?_ (hf := a9z (x := d) (by omega))
 iterate 7 refine z ?_
 refine zC Tryz.call74 ?_ (hf := b5y (x := d) (n := o.2.1) )
 iterate 5 refine z ?_
 refine zC Tryz.call42 ?_ (hf := b2I (x := d) )
 iterate 3 refine z ?_
 refine a1N (a1A rfl rfl rfl rfl rfl) rfl rfl Tryz.call69 (b7d (x := o) ) (fun hg => (a0g (a0C rfl hg) (a0s (a0d a0c (a0d a0c (a0d a0c (a0d a0c (a0d a0c (a0d a0c (a0d a0c a0r)))))))) a0m)) rfl rfl ?_
 iterate 7 refine z ?_
 refine yQ rfl (fun c1 => ?_) fun c1 => ?_
 ·iterate 6 refine z ?_
  rw [b3U c1]
  refine a0h (σ' := ⟨[(4, .box 4 0), (5, .one (.dv [] (.int .i64 (0)))), (6, .one (.dv [] (.bool (false))))], [(4, 33, [(.dv [] (.str ((d).1))), (.dv [] (.int .i64 ((d).2.1))), (.key 90031), (.key 90900)])], [(90031, some (a0b false (a0z (d.2.2.1)))), (90900, some (a0b false (a0B (d.2.2.2))))]⟩) (a0e ⟨rfl, rfl, rfl, trivial⟩ ⟨rfl, trivial⟩ ⟨rfl, rfl, trivial⟩ rfl) ?_
  iterate 2 refine z ?_
  refine a1K (a0F hT rfl rfl rfl rfl) (a0i rfl) (a0i rfl) rfl rfl rfl ?_
  first | exact ⟨rfl, rfl⟩ | skip
 ·have hg := b1E c1
  have hlt : a0u (a0G o.2.1) d.2.2.1 0 < d.2.2.1.length := a8I d o.2.1
  have h0k : 0 ≤ a0u (a0G o.2.1) d.2.2.1 0 := hg.2.2
  have hsx := a7f (b0p hg.1) h0k hlt
  have hkn : (a0u (a0G o.2.1) d.2.2.1 0).toNat < d.2.2.1.length := by omega
  iterate 2 refine z ?_
  refine a5O (σ' := ⟨[(2, .box 2 0), (3, .box 3 0), (4, .box 4 0), (5, .one (.dv [] (.int .i64 (0)))), (6, .one (.dv [] (.bool (false)))), (7, .box 7 0), (8, .one (.dv [] (.int .i64 (a0u (a0G (o.2.1)) (d).2.2.1 0)))), (9, .box 9 0), (10, .one (.dv [] (.int .i64 ((opM ((d.2.2.1.getD (a0u (a0G o.2.1) d.2.2.1 0).toNat default)) (o)).2.1)))), (11, .one (.dv [] (.bool ((opM ((d.2.2.1.getD (a0u (a0G o.2.1) d.2.2.1 0).toNat default)) (o)).2.2))))], [(2, 33, [(.dv [] (.str (d.1))), (.dv [] (.int .i64 (d.2.1))), (.dv [] (a0z (d.2.2.1))), (.dv [] (a0B (d.2.2.2)))]), (3, 80, [(.dv [] (.int .i64 (o.1))), (.dv [] (.str (o.2.1))), (.dv [] (.int .i64 (o.2.2.1.1))), (.dv [] (.int .i64 (o.2.2.1.2.1))), (.dv [] (.str (o.2.2.1.2.2))), (.dv [] (a0w (o.2.2.2.1))), (.dv [] (.str (o.2.2.2.2)))]), (4, 33, [(.dv [] (.str (ByteArray.empty))), (.dv [] (.int .i64 (0))), .nil, .nil]), (7, 33, [(.dv [] (.str ((d).1))), (.dv [] (.int .i64 ((d).2.1))), (.key 90031), (.key 90900)]), (9, 67, [(.dv [] (.str ((opM ((d.2.2.1.getD (a0u (a0G o.2.1) d.2.2.1 0).toNat default)) (o)).1.1))), (.key 90501), (.dv [] (.int .i64 ((opM ((d.2.2.1.getD (a0u (a0G o.2.1) d.2.2.1 0).toNat default)) (o)).1.2.2)))])], [(90031, some (a0b false (a0z ((d).2.2.1)))), (90501, some (a0b false (a0n ((opM (d.2.2.1.getD (a0u (a0G o.2.1) d.2.2.1 0).toNat default) o).1.2.1)))), (90900, some (a0b false (a0B ((d).2.2.2))))]⟩) ?_ ?_
  ·refine a1M (oB := [2, 3, 4, 7]) (oK := [90031, 90900]) (by kernel_rfl) rfl rfl ?_
   refine zD 0 ?_
   refine zD 1 ?_
   refine zD 2 ?_
   refine zD 3 ?_
   refine zD 4 ?_
   refine zD 5 ?_
   refine a8D (A := [(11, 9, 67, _)]) hT ⟨⟨_, _, rfl⟩, rfl, trivial⟩ ?_
   refine b3z 81500 6 rfl (by kernel_rfl) rfl rfl rfl (vok hT ⟨⟨_, _, rfl⟩, rfl, trivial⟩ (by kernel_rfl) (by kernel_rfl)) (vok hT ⟨⟨_, _, rfl⟩, rfl, trivial⟩ (by kernel_rfl) (by kernel_rfl)) rfl Tryz.call78 (c5i (x := (d.2.2.1.getD (a0u (a0G o.2.1) d.2.2.1 0).toNat default)) (o := o) hsx hg.2.1) (a0g (a0a rfl) (a0s (a0d a0c (a0d a0c (a0d a0c a0r)))) (a0g (a0a rfl) (a0s (a0d a0c (a0d a0c (a0d a0c (a0d a0c (a0d a0c (a0d a0c (a0d a0c a0r)))))))) a0m)) rfl rfl rfl rfl rfl ?_
   refine a8c 7 rfl (by kernel_rfl) rfl rfl rfl (vok hT ⟨⟨_, _, rfl⟩, rfl, trivial⟩ (by kernel_rfl) (by kernel_rfl)) (vok hT ⟨⟨_, _, rfl⟩, rfl, trivial⟩ (by kernel_rfl) (by kernel_rfl)) (a2c (.inl rfl) (a0a rfl)) rfl rfl rfl rfl ?_
   refine a3E 8 rfl (by kernel_rfl) rfl rfl rfl rfl (vok hT ⟨⟨_, _, rfl⟩, rfl, trivial⟩ (by kernel_rfl) (by kernel_rfl)) (vok hT ⟨⟨_, _, rfl⟩, rfl, trivial⟩ (by kernel_rfl) (by kernel_rfl)) (a5N rfl (a0a rfl) rfl) rfl rfl ?_
   refine a3E 9 rfl (by kernel_rfl) rfl rfl rfl rfl (vok hT ⟨⟨_, _, rfl⟩, rfl, trivial⟩ (by kernel_rfl) (by kernel_rfl)) (vok hT ⟨⟨_, _, rfl⟩, rfl, trivial⟩ (by kernel_rfl) (by kernel_rfl)) (a5k rfl (a0a rfl) rfl) rfl rfl ?_
   refine a3E 10 rfl (by kernel_rfl) rfl rfl rfl rfl (vok hT ⟨⟨_, _, rfl⟩, rfl, trivial⟩ (by kernel_rfl) (by kernel_rfl)) (vok hT ⟨⟨_, _, rfl⟩, rfl, trivial⟩ (by kernel_rfl) (by kernel_rfl)) (a5k rfl (a0a rfl) rfl) rfl rfl ?_
   refine a8v (vok hT ⟨⟨_, _, rfl⟩, rfl, trivial⟩ (by kernel_rfl) (by kernel_rfl)) rfl rfl (by kernel_rfl) ?_
   dsimp only [a3K, a3G]
   refine a4d [12, 13, 14] rfl rfl (by kernel_rfl) ?_
   iterate 3 refine z ?_
   refine a1t ?_
   exact a2p (a0e ⟨rfl, rfl, rfl, rfl, rfl, rfl, rfl, rfl, rfl, rfl, trivial⟩ ⟨rfl, rfl, rfl, rfl, rfl, trivial⟩ ⟨rfl, rfl, rfl, trivial⟩ rfl)
  iterate 5 refine z ?_
  refine yO rfl rfl (a2v (i := (a0u (a0G (o.2.1)) (d).2.2.1 0).toNat) hT rfl rfl rfl (a0a rfl) rfl (a0a rfl) (by omega) (by show _ < (((d).2.2.1)).length; omega)) rfl ?_
  refine a3g (js := [90501]) (cs := (d.2.2.1.set (a0u (a0G o.2.1) d.2.2.1 0).toNat (opM (d.2.2.1.getD (a0u (a0G o.2.1) d.2.2.1 0).toNat default) o).1).flatMap a1n) hT rfl rfl rfl rfl (a0a rfl) (a0a rfl) rfl rfl rfl rfl (a0t (a0W rfl) (a0t (a1i rfl) (a0t (a0W rfl) a1m rfl) rfl) rfl) (by decide) (by decide) rfl (by show _ ≤ List.length (((d).2.2.1).flatMap a1n); show (a0u (a0G o.2.1) d.2.2.1 0).toNat * 3 + 3 ≤ _; rw [a5d (enc := a1n) (sz := 3) (fun _ => rfl)]; omega) (b4V (enc := a1n) (sz := 3) (fun _ => rfl) hkn (opM (d.2.2.1.getD (a0u (a0G o.2.1) d.2.2.1 0).toNat default) o).1) ?_
  simp only [a0l, a0j, SV.kill, CV.kill, kk, Nat.reduceBEq]
  refine z ?_
  refine a0q ?_
  refine a0q ?_
  refine a0h (a5L (k := 90031) (c' := a0b false (a0z (d.2.2.1.set (a0u (a0G o.2.1) d.2.2.1 0).toNat (opM (d.2.2.1.getD (a0u (a0G o.2.1) d.2.2.1 0).toNat default) o).1))) rfl (congrArg (fun m => KC.mk false 67 3 m ((d.2.2.1.set (a0u (a0G o.2.1) d.2.2.1 0).toNat (opM (d.2.2.1.getD (a0u (a0G o.2.1) d.2.2.1 0).toNat default) o).1).flatMap a1n)) (List.length_set).symm) rfl) ?_
  refine a0k ?_
  iterate 4 refine z ?_
  refine a1N (a1A rfl rfl rfl rfl rfl) rfl rfl Tryz.call42 (b2I (x := a3s d (a0u (a0G o.2.1) d.2.2.1 0).toNat (opM (d.2.2.1.getD (a0u (a0G o.2.1) d.2.2.1 0).toNat default) o).1)) (fun hg => (a0g (a0C rfl hg) (a0s (a0d a0c (a0d a0c (a0d (a0Q rfl rfl) (a0d (a0Q rfl rfl) a0r))))) a0m)) rfl rfl ?_
  iterate 3 refine z ?_
  refine yQ rfl (fun c2 => ?_) fun c2 => ?_
  ·refine a0q ?_
   refine a0h (σ' := ⟨[(2, .box 2 0), (4, .box 4 0), (5, .one (.dv [] (.int .i64 (0)))), (6, .one (.dv [] (.bool (false))))], [(2, 33, [(.dv [] (.str (d.1))), (.dv [] (.int .i64 (d.2.1))), (.dv [] (a0z (d.2.2.1))), (.dv [] (a0B (d.2.2.2)))]), (4, 33, [(.dv [] (.str (ByteArray.empty))), (.dv [] (.int .i64 (0))), .nil, .nil])], []⟩) (a0e ⟨rfl, rfl, rfl, rfl, trivial⟩ ⟨rfl, rfl, trivial⟩ trivial rfl) ?_
   refine a0k ?_
   refine z ?_
   refine zK 90000 Tryz.call15 ?_ (hf := a9z (x := d) (by omega))
   iterate 4 refine z ?_
   rw [b3C c1 (r := (opM (d.2.2.1.getD (a0u (a0G o.2.1) d.2.2.1 0).toNat default) o)) (.inl rfl) c2]
   refine a0h (σ' := ⟨[(4, .box 4 0), (5, .one (.dv [] (.int .i64 (0)))), (6, .one (.dv [] (.bool (false))))], [(4, 33, [(.dv [] (.str ((d).1))), (.dv [] (.int .i64 ((d).2.1))), (.key 90031), (.key 90900)])], [(90031, some (a0b false (a0z (d.2.2.1)))), (90900, some (a0b false (a0B (d.2.2.2))))]⟩) (a0e ⟨rfl, rfl, rfl, trivial⟩ ⟨rfl, trivial⟩ ⟨rfl, rfl, trivial⟩ rfl) ?_
   iterate 2 refine z ?_
   refine a1K (a0F hT rfl rfl rfl rfl) (a0i rfl) (a0i rfl) rfl rfl rfl ?_
   first | exact ⟨rfl, rfl⟩ | skip
  ·iterate 9 refine z ?_
   rw [b3Q c1 (r := (opM (d.2.2.1.getD (a0u (a0G o.2.1) d.2.2.1 0).toNat default) o)) (.inl rfl) c2]
   refine a0h (σ' := ⟨[(4, .box 4 0), (5, .one (.dv [] (.int .i64 ((opM ((d.2.2.1.getD (a0u (a0G o.2.1) d.2.2.1 0).toNat default)) (o)).2.1)))), (6, .one (.dv [] (.bool (true))))], [(4, 33, [(.dv [] (.str ((d).1))), (.dv [] (.int .i64 ((d).2.1))), (.key 90031), (.key 90900)])], [(90031, some (a0b false (a0z (d.2.2.1.set (a0u (a0G o.2.1) d.2.2.1 0).toNat (opM (d.2.2.1.getD (a0u (a0G o.2.1) d.2.2.1 0).toNat default) o).1)))), (90900, some (a0b false (a0B (d.2.2.2))))]⟩) (a0e ⟨rfl, rfl, rfl, trivial⟩ ⟨rfl, trivial⟩ ⟨rfl, rfl, trivial⟩ rfl) ?_
   refine z ?_
   refine a1K (a0F hT rfl rfl rfl rfl) (a0i rfl) (a0i rfl) rfl rfl rfl ?_
   first | exact ⟨rfl, rfl⟩ | skip
theorem c3K {d : DbT} {o : OpT} (hb : a0Z d ≤ 1099511627776) (hal : same (d.2.2.1.getD (a0u (a0G o.2.1) d.2.2.1 0).toNat default) o = true) : KFn Tryz.prog 55 [.agg [(.dv [] (.str (d.1))), (.dv [] (.int .i64 (d.2.1))), (.dv [] (a0z (d.2.2.1))), (.dv [] (a0B (d.2.2.2)))], .agg [(.dv [] (.int .i64 (o.1))), (.dv [] (.str (o.2.1))), (.dv [] (.int .i64 (o.2.2.1.1))), (.dv [] (.int .i64 (o.2.2.1.2.1))), (.dv [] (.str (o.2.2.1.2.2))), (.dv [] (a0w (o.2.2.2.1))), (.dv [] (.str (o.2.2.2.2)))]] (.tup [(true, [(.dv [] (.str ((a1k d o).1.1))), (.dv [] (.int .i64 ((a1k d o).1.2.1))), (.key 90031), (.key 90900)]), (false, [(.dv [] (.int .i64 ((a1k d o).2.1)))]), (false, [(.dv [] (.bool ((a1k d o).2.2)))])]) [(90031, some (a0b false (a0z ((a1k d o).1.2.2.1)))), (90900, some (a0b false (a0B ((a1k d o).1.2.2.2))))] := by
 refine ⟨a0v Tryz.func55 rfl Tryz.ntmps55 Tryz.results55 rfl (fun C => ?_)⟩
 refine yF 0 0 rfl rfl fun f0_0 => ?_
 refine yF 0 1 rfl rfl fun f0_1 => ?_
 refine yF 0 2 rfl rfl fun f0_2 => ?_
 refine yF 0 3 rfl rfl fun f0_3 => ?_
 refine yF 1 0 rfl rfl fun f1_0 => ?_
 refine yF 1 1 rfl rfl fun f1_1 => ?_
 refine yF 1 2 rfl rfl fun f1_2 => ?_
 refine yF 1 3 rfl rfl fun f1_3 => ?_
 refine yF 1 4 rfl rfl fun f1_4 => ?_
 refine yF 1 5 rfl rfl fun f1_5 => ?_
 refine yF 1 6 rfl rfl fun f1_6 => ?_
 iterate 9 refine z ?_
 refine zK 90000 Tryz.call21 ?_ (hf := a7B (x := d) (by omega))
 iterate 7 refine z ?_
 refine zC Tryz.call94 ?_ (hf := b2y (x := d) (n := o.2.1) )
 iterate 5 refine z ?_
 refine zC Tryz.call54 ?_ (hf := a9r (x := d) )
 iterate 3 refine z ?_
 refine a1N (a1A rfl rfl rfl rfl rfl) rfl rfl Tryz.call97 (b4w (x := o) ) (fun hg => (a0g (a0C rfl hg) (a0s (a0d a0c (a0d a0c (a0d a0c (a0d a0c (a0d a0c (a0d a0c (a0d a0c a0r)))))))) a0m)) rfl rfl ?_
 iterate 7 refine z ?_
 refine yQ rfl (fun c1 => ?_) fun c1 => ?_
 ·iterate 6 refine z ?_
  rw [b3U c1]
  refine a0h (σ' := ⟨[(4, .box 4 0), (5, .one (.dv [] (.int .i64 (0)))), (6, .one (.dv [] (.bool (false))))], [(4, 33, [(.dv [] (.str ((d).1))), (.dv [] (.int .i64 ((d).2.1))), (.key 90031), (.key 90900)])], [(90031, some (a0b false (a0z (d.2.2.1)))), (90900, some (a0b false (a0B (d.2.2.2))))]⟩) (a0e ⟨rfl, rfl, rfl, trivial⟩ ⟨rfl, trivial⟩ ⟨rfl, rfl, trivial⟩ rfl) ?_
  iterate 2 refine z ?_
  refine a1K (a0F hT rfl rfl rfl rfl) (a0i rfl) (a0i rfl) rfl rfl rfl ?_
  first | exact ⟨rfl, rfl⟩ | skip
 ·have hg := b1E c1
  have hlt : a0u (a0G o.2.1) d.2.2.1 0 < d.2.2.1.length := a8I d o.2.1
  have h0k : 0 ≤ a0u (a0G o.2.1) d.2.2.1 0 := hg.2.2
  have hsx := a7f (b0p hg.1) h0k hlt
  have hkn : (a0u (a0G o.2.1) d.2.2.1 0).toNat < d.2.2.1.length := by omega
  have hps := c1y hkn
  have hs1 := c7a hal
  iterate 2 refine z ?_
  refine a5O (σ' := ⟨[(2, .box 2 0), (3, .box 3 0), (4, .box 4 0), (5, .one (.dv [] (.int .i64 (0)))), (6, .one (.dv [] (.bool (false)))), (7, .box 7 0), (8, .one (.dv [] (.int .i64 (a0u (a0G (o.2.1)) (d).2.2.1 0)))), (9, .box 9 0), (10, .one (.dv [] (.int .i64 ((opI ((d.2.2.1.getD (a0u (a0G o.2.1) d.2.2.1 0).toNat default)) (o)).2.1)))), (11, .one (.dv [] (.bool ((opI ((d.2.2.1.getD (a0u (a0G o.2.1) d.2.2.1 0).toNat default)) (o)).2.2))))], [(2, 33, [(.dv [] (.str (d.1))), (.dv [] (.int .i64 (d.2.1))), (.dv [] (a0z (d.2.2.1))), (.dv [] (a0B (d.2.2.2)))]), (3, 80, [(.dv [] (.int .i64 (o.1))), (.dv [] (.str (o.2.1))), (.dv [] (.int .i64 (o.2.2.1.1))), (.dv [] (.int .i64 (o.2.2.1.2.1))), (.dv [] (.str (o.2.2.1.2.2))), (.dv [] (a0w (o.2.2.2.1))), (.dv [] (.str (o.2.2.2.2)))]), (4, 33, [(.dv [] (.str (ByteArray.empty))), (.dv [] (.int .i64 (0))), .nil, .nil]), (7, 33, [(.dv [] (.str ((d).1))), (.dv [] (.int .i64 ((d).2.1))), (.key 90031), (.key 90900)]), (9, 67, [(.dv [] (.str (((d.2.2.1.getD (a0u (a0G o.2.1) d.2.2.1 0).toNat default)).1))), (.nest 90031 (((a0u (a0G (o.2.1)) (d).2.2.1 0).toNat * 3 + 1)) (a0n ((d.2.2.1.getD (a0u (a0G o.2.1) d.2.2.1 0).toNat default).2.1))), (.dv [] (.int .i64 (((d.2.2.1.getD (a0u (a0G o.2.1) d.2.2.1 0).toNat default)).2.2)))])], [(90031, some (a0b false (a0z ((d).2.2.1)))), (90900, some (a0b false (a0B ((d).2.2.2))))]⟩) ?_ ?_
  ·refine a1M (oB := [2, 3, 4, 7]) (oK := [90031, 90900]) (by kernel_rfl) rfl rfl ?_
   refine zD 0 ?_
   refine zD 1 ?_
   refine zD 2 ?_
   refine a2F 3 rfl (by kernel_rfl) rfl rfl (a2v (i := (a0u (a0G (o.2.1)) (d).2.2.1 0).toNat) hT rfl rfl rfl (a0a rfl) rfl (a0a rfl) (by omega) (by show _ < (((d).2.2.1)).length; omega)) rfl rfl rfl rfl ?_
   refine a2F 4 rfl (by kernel_rfl) rfl rfl (b2x (ds := [.str ((d.2.2.1.getD (a0u (a0G o.2.1) d.2.2.1 0).toNat default).1), a0n ((d.2.2.1.getD (a0u (a0G o.2.1) d.2.2.1 0).toNat default).2.1), .int .i64 ((d.2.2.1.getD (a0u (a0G o.2.1) d.2.2.1 0).toNat default).2.2)]) hT rfl rfl (a0a rfl) rfl rfl (by decide) (b3l (enc := a1n) (sz := 3) (fun _ => rfl) hkn)) rfl rfl rfl rfl ?_
   refine zD 5 ?_
   refine a8D (A := [(11, 9, 67, _)]) hT ⟨⟨_, _, rfl⟩, rfl, trivial⟩ ?_
   refine c7w 6 rfl (by kernel_rfl) rfl rfl rfl (vok hT ⟨⟨_, _, rfl⟩, rfl, trivial⟩ (by kernel_rfl) (by kernel_rfl)) (vok hT ⟨⟨_, _, rfl⟩, rfl, trivial⟩ (by kernel_rfl) (by kernel_rfl)) rfl rfl Tryz.call98 (c5d (x := (d.2.2.1.getD (a0u (a0G o.2.1) d.2.2.1 0).toNat default)) (o := o) hsx hg.2.1 hal) (a0a rfl) a0c a9c a0c (a0g (a0a rfl) (a0s (a0d a0c (a0d a0c (a0d a0c (a0d a0c (a0d a0c (a0d a0c (a0d a0c a0r)))))))) a0m) rfl rfl rfl rfl rfl rfl rfl ?_
   refine a8c 7 rfl (by kernel_rfl) rfl rfl rfl (vok hT ⟨⟨_, _, rfl⟩, rfl, trivial⟩ (by kernel_rfl) (by kernel_rfl)) (vok hT ⟨⟨_, _, rfl⟩, rfl, trivial⟩ (by kernel_rfl) (by kernel_rfl)) (a2c (.inl rfl) (a0a rfl)) rfl rfl rfl rfl ?_
   refine a3E 8 rfl (by kernel_rfl) rfl rfl rfl rfl (vok hT ⟨⟨_, _, rfl⟩, rfl, trivial⟩ (by kernel_rfl) (by kernel_rfl)) (vok hT ⟨⟨_, _, rfl⟩, rfl, trivial⟩ (by kernel_rfl) (by kernel_rfl)) (a5N rfl (a0a rfl) rfl) rfl rfl ?_
   refine a3E 9 rfl (by kernel_rfl) rfl rfl rfl rfl (vok hT ⟨⟨_, _, rfl⟩, rfl, trivial⟩ (by kernel_rfl) (by kernel_rfl)) (vok hT ⟨⟨_, _, rfl⟩, rfl, trivial⟩ (by kernel_rfl) (by kernel_rfl)) (a5k rfl (a0a rfl) rfl) rfl rfl ?_
   refine a3E 10 rfl (by kernel_rfl) rfl rfl rfl rfl (vok hT ⟨⟨_, _, rfl⟩, rfl, trivial⟩ (by kernel_rfl) (by kernel_rfl)) (vok hT ⟨⟨_, _, rfl⟩, rfl, trivial⟩ (by kernel_rfl) (by kernel_rfl)) (a5k rfl (a0a rfl) rfl) rfl rfl ?_
   refine a8v (vok hT ⟨⟨_, _, rfl⟩, rfl, trivial⟩ (by kernel_rfl) (by kernel_rfl)) rfl rfl (by kernel_rfl) ?_
   dsimp only [a3K, a3G]
   refine a4d [12, 13, 14] rfl rfl (by kernel_rfl) ?_
   iterate 3 refine z ?_
   refine a1t ?_
   exact a2p (a0e ⟨rfl, rfl, rfl, rfl, rfl, rfl, rfl, rfl, rfl, rfl, trivial⟩ ⟨rfl, rfl, rfl, rfl, rfl, trivial⟩ ⟨rfl, rfl, trivial⟩ rfl)
  iterate 5 refine z ?_
  refine yO rfl rfl (a2v (i := (a0u (a0G (o.2.1)) (d).2.2.1 0).toNat) hT rfl rfl rfl (a0a rfl) rfl (a0a rfl) (by omega) (by show _ < (((d).2.2.1)).length; omega)) rfl ?_
  refine c3w (ds := [.str ((d.2.2.1.getD (a0u (a0G o.2.1) d.2.2.1 0).toNat default).1), a0n ((d.2.2.1.getD (a0u (a0G o.2.1) d.2.2.1 0).toNat default).2.1), .int .i64 ((d.2.2.1.getD (a0u (a0G o.2.1) d.2.2.1 0).toNat default).2.2)]) hT rfl rfl rfl rfl (a0a rfl) (a0a rfl) rfl rfl (b3l (enc := a1n) (sz := 3) (fun _ => rfl) hkn) (b8f (enc := a1n) (sz := 3) (fun _ => rfl) hkn) ?_
  simp only [a0l, a0j, SV.kill, CV.kill, kk, Nat.reduceBEq]
  iterate 7 refine z ?_
  refine a1N (a1A rfl rfl rfl rfl rfl) rfl rfl Tryz.call54 (a9r (x := d)) (fun hg => (a0g (a0C rfl hg) (a0s (a0d a0c (a0d a0c (a0d (a0Q rfl rfl) (a0d (a0Q rfl rfl) a0r))))) a0m)) rfl rfl ?_
  iterate 3 refine z ?_
  refine yQ rfl (fun c2 => ?_) fun c2 => ?_
  ·refine a0q ?_
   refine a0h (σ' := ⟨[(2, .box 2 0), (4, .box 4 0), (5, .one (.dv [] (.int .i64 (0)))), (6, .one (.dv [] (.bool (false))))], [(2, 33, [(.dv [] (.str (d.1))), (.dv [] (.int .i64 (d.2.1))), (.dv [] (a0z (d.2.2.1))), (.dv [] (a0B (d.2.2.2)))]), (4, 33, [(.dv [] (.str (ByteArray.empty))), (.dv [] (.int .i64 (0))), .nil, .nil])], []⟩) (a0e ⟨rfl, rfl, rfl, rfl, trivial⟩ ⟨rfl, rfl, trivial⟩ trivial rfl) ?_
   refine a0k ?_
   refine z ?_
   refine zK 90000 Tryz.call21 ?_ (hf := a7B (x := d) (by omega))
   iterate 4 refine z ?_
   rw [b3C c1 (b2c (d.2.2.1.getD (a0u (a0G o.2.1) d.2.2.1 0).toNat default) o) (by rw [hs1]; show (_ || !a1V (a3s d (a0u (a0G o.2.1) d.2.2.1 0).toNat (d.2.2.1.getD (a0u (a0G o.2.1) d.2.2.1 0).toNat default))) = true; rw [hps]; exact c2)]
   refine a0h (σ' := ⟨[(4, .box 4 0), (5, .one (.dv [] (.int .i64 (0)))), (6, .one (.dv [] (.bool (false))))], [(4, 33, [(.dv [] (.str ((d).1))), (.dv [] (.int .i64 ((d).2.1))), (.key 90031), (.key 90900)])], [(90031, some (a0b false (a0z (d.2.2.1)))), (90900, some (a0b false (a0B (d.2.2.2))))]⟩) (a0e ⟨rfl, rfl, rfl, trivial⟩ ⟨rfl, trivial⟩ ⟨rfl, rfl, trivial⟩ rfl) ?_
   iterate 2 refine z ?_
   refine a1K (a0F hT rfl rfl rfl rfl) (a0i rfl) (a0i rfl) rfl rfl rfl ?_
   first | exact ⟨rfl, rfl⟩ | skip
  ·iterate 9 refine z ?_
   have hfin : a1k d o = (d, (opI (d.2.2.1.getD (a0u (a0G o.2.1) d.2.2.1 0).toNat default) o).2.1, true) := by rw [b3Q c1 (b2c (d.2.2.1.getD (a0u (a0G o.2.1) d.2.2.1 0).toNat default) o) (by rw [hs1]; show (_ || !a1V (a3s d (a0u (a0G o.2.1) d.2.2.1 0).toNat (d.2.2.1.getD (a0u (a0G o.2.1) d.2.2.1 0).toNat default))) = false; rw [hps]; exact c2), hs1]; show (a3s d (a0u (a0G o.2.1) d.2.2.1 0).toNat (d.2.2.1.getD (a0u (a0G o.2.1) d.2.2.1 0).toNat default), _, _) = _; rw [hps]
   rw [hfin]
   refine a0h (σ' := ⟨[(4, .box 4 0), (5, .one (.dv [] (.int .i64 ((opI ((d.2.2.1.getD (a0u (a0G o.2.1) d.2.2.1 0).toNat default)) (o)).2.1)))), (6, .one (.dv [] (.bool (true))))], [(4, 33, [(.dv [] (.str ((d).1))), (.dv [] (.int .i64 ((d).2.1))), (.key 90031), (.key 90900)])], [(90031, some (a0b false (a0z (d.2.2.1)))), (90900, some (a0b false (a0B (d.2.2.2))))]⟩) (a0e ⟨rfl, rfl, rfl, trivial⟩ ⟨rfl, trivial⟩ ⟨rfl, rfl, trivial⟩ rfl) ?_
   refine z ?_
   refine a1K (a0F hT rfl rfl rfl rfl) (a0i rfl) (a0i rfl) rfl rfl rfl ?_
   first | exact ⟨rfl, rfl⟩ | skip
theorem c3M {d : DbT} {o : OpT} (hb : a0Z d ≤ 1099511627776) (hal : same (d.2.2.1.getD (a0u (a0G o.2.1) d.2.2.1 0).toNat default) o = false) : KFn Tryz.prog 55 [.agg [(.dv [] (.str (d.1))), (.dv [] (.int .i64 (d.2.1))), (.dv [] (a0z (d.2.2.1))), (.dv [] (a0B (d.2.2.2)))], .agg [(.dv [] (.int .i64 (o.1))), (.dv [] (.str (o.2.1))), (.dv [] (.int .i64 (o.2.2.1.1))), (.dv [] (.int .i64 (o.2.2.1.2.1))), (.dv [] (.str (o.2.2.1.2.2))), (.dv [] (a0w (o.2.2.2.1))), (.dv [] (.str (o.2.2.2.2)))]] (.tup [(true, [(.dv [] (.str ((a1k d o).1.1))), (.dv [] (.int .i64 ((a1k d o).1.2.1))), (.key 90031), (.key 90900)]), (false, [(.dv [] (.int .i64 ((a1k d o).2.1)))]), (false, [(.dv [] (.bool ((a1k d o).2.2)))])]) [(90031, some (a0b false (a0z ((a1k d o).1.2.2.1)))), (90900, some (a0b false (a0B ((a1k d o).1.2.2.2))))] := by
 refine ⟨a0v Tryz.func55 rfl Tryz.ntmps55 Tryz.results55 rfl (fun C => ?_)⟩
 refine yF 0 0 rfl rfl fun f0_0 => ?_
 refine yF 0 1 rfl rfl fun f0_1 => ?_
 refine yF 0 2 rfl rfl fun f0_2 => ?_
 refine yF 0 3 rfl rfl fun f0_3 => ?_
 refine yF 1 0 rfl rfl fun f1_0 => ?_
 refine yF 1 1 rfl rfl fun f1_1 => ?_
 refine yF 1 2 rfl rfl fun f1_2 => ?_
 refine yF 1 3 rfl rfl fun f1_3 => ?_
 refine yF 1 4 rfl rfl fun f1_4 => ?_
 refine yF 1 5 rfl rfl fun f1_5 => ?_
 refine yF 1 6 rfl rfl fun f1_6 => ?_
 iterate 9 refine z ?_
 refine zK 90000 Tryz.call21 ?_ (hf := a7B (x := d) (by omega))
 iterate 7 refine z ?_
 refine zC Tryz.call94 ?_ (hf := b2y (x := d) (n := o.2.1) )
 iterate 5 refine z ?_
 refine zC Tryz.call54 ?_ (hf := a9r (x := d) )
 iterate 3 refine z ?_
 refine a1N (a1A rfl rfl rfl rfl rfl) rfl rfl Tryz.call97 (b4w (x := o) ) (fun hg => (a0g (a0C rfl hg) (a0s (a0d a0c (a0d a0c (a0d a0c (a0d a0c (a0d a0c (a0d a0c (a0d a0c a0r)))))))) a0m)) rfl rfl ?_
 iterate 7 refine z ?_
 refine yQ rfl (fun c1 => ?_) fun c1 => ?_
 ·iterate 6 refine z ?_
  rw [b3U c1]
  refine a0h (σ' := ⟨[(4, .box 4 0), (5, .one (.dv [] (.int .i64 (0)))), (6, .one (.dv [] (.bool (false))))], [(4, 33, [(.dv [] (.str ((d).1))), (.dv [] (.int .i64 ((d).2.1))), (.key 90031), (.key 90900)])], [(90031, some (a0b false (a0z (d.2.2.1)))), (90900, some (a0b false (a0B (d.2.2.2))))]⟩) (a0e ⟨rfl, rfl, rfl, trivial⟩ ⟨rfl, trivial⟩ ⟨rfl, rfl, trivial⟩ rfl) ?_
  iterate 2 refine z ?_
  refine a1K (a0F hT rfl rfl rfl rfl) (a0i rfl) (a0i rfl) rfl rfl rfl ?_
  first | exact ⟨rfl, rfl⟩ | skip
 ·have hg := b1E c1
  have hlt : a0u (a0G o.2.1) d.2.2.1 0 < d.2.2.1.length := a8I d o.2.1
  have h0k : 0 ≤ a0u (a0G o.2.1) d.2.2.1 0 := hg.2.2
  have hsx := a7f (b0p hg.1) h0k hlt
  have hkn : (a0u (a0G o.2.1) d.2.2.1 0).toNat < d.2.2.1.length := by omega
  iterate 2 refine z ?_
  refine a5O (σ' := ⟨[(2, .box 2 0), (3, .box 3 0), (4, .box 4 0), (5, .one (.dv [] (.int .i64 (0)))), (6, .one (.dv [] (.bool (false)))), (7, .box 7 0), (8, .one (.dv [] (.int .i64 (a0u (a0G (o.2.1)) (d).2.2.1 0)))), (9, .box 9 0), (10, .one (.dv [] (.int .i64 ((opI ((d.2.2.1.getD (a0u (a0G o.2.1) d.2.2.1 0).toNat default)) (o)).2.1)))), (11, .one (.dv [] (.bool ((opI ((d.2.2.1.getD (a0u (a0G o.2.1) d.2.2.1 0).toNat default)) (o)).2.2))))], [(2, 33, [(.dv [] (.str (d.1))), (.dv [] (.int .i64 (d.2.1))), (.dv [] (a0z (d.2.2.1))), (.dv [] (a0B (d.2.2.2)))]), (3, 80, [(.dv [] (.int .i64 (o.1))), (.dv [] (.str (o.2.1))), (.dv [] (.int .i64 (o.2.2.1.1))), (.dv [] (.int .i64 (o.2.2.1.2.1))), (.dv [] (.str (o.2.2.1.2.2))), (.dv [] (a0w (o.2.2.2.1))), (.dv [] (.str (o.2.2.2.2)))]), (4, 33, [(.dv [] (.str (ByteArray.empty))), (.dv [] (.int .i64 (0))), .nil, .nil]), (7, 33, [(.dv [] (.str ((d).1))), (.dv [] (.int .i64 ((d).2.1))), (.key 90031), (.key 90900)]), (9, 67, [(.dv [] (.str ((opI ((d.2.2.1.getD (a0u (a0G o.2.1) d.2.2.1 0).toNat default)) (o)).1.1))), (.key 90501), (.dv [] (.int .i64 ((opI ((d.2.2.1.getD (a0u (a0G o.2.1) d.2.2.1 0).toNat default)) (o)).1.2.2)))])], [(90031, some (a0b false (a0z ((d).2.2.1)))), (90501, some (a0b false (a0n ((opI (d.2.2.1.getD (a0u (a0G o.2.1) d.2.2.1 0).toNat default) o).1.2.1)))), (90900, some (a0b false (a0B ((d).2.2.2))))]⟩) ?_ ?_
  ·refine a1M (oB := [2, 3, 4, 7]) (oK := [90031, 90900]) (by kernel_rfl) rfl rfl ?_
   refine zD 0 ?_
   refine zD 1 ?_
   refine zD 2 ?_
   refine a2F 3 rfl (by kernel_rfl) rfl rfl (a2v (i := (a0u (a0G (o.2.1)) (d).2.2.1 0).toNat) hT rfl rfl rfl (a0a rfl) rfl (a0a rfl) (by omega) (by show _ < (((d).2.2.1)).length; omega)) rfl rfl rfl rfl ?_
   refine a2F 4 rfl (by kernel_rfl) rfl rfl (b2x (ds := [.str ((d.2.2.1.getD (a0u (a0G o.2.1) d.2.2.1 0).toNat default).1), a0n ((d.2.2.1.getD (a0u (a0G o.2.1) d.2.2.1 0).toNat default).2.1), .int .i64 ((d.2.2.1.getD (a0u (a0G o.2.1) d.2.2.1 0).toNat default).2.2)]) hT rfl rfl (a0a rfl) rfl rfl (by decide) (b3l (enc := a1n) (sz := 3) (fun _ => rfl) hkn)) rfl rfl rfl rfl ?_
   refine zD 5 ?_
   refine a8D (A := [(11, 9, 67, _)]) hT ⟨⟨_, _, rfl⟩, rfl, trivial⟩ ?_
   refine b3z 81500 6 rfl (by kernel_rfl) rfl rfl rfl (vok hT ⟨⟨_, _, rfl⟩, rfl, trivial⟩ (by kernel_rfl) (by kernel_rfl)) (vok hT ⟨⟨_, _, rfl⟩, rfl, trivial⟩ (by kernel_rfl) (by kernel_rfl)) rfl Tryz.call98 (c7V (x := (d.2.2.1.getD (a0u (a0G o.2.1) d.2.2.1 0).toNat default)) (o := o) hsx hg.2.1 hal) (a0g (a0a rfl) (a0s (a0d a0c (a0d a9c (a0d a0c a0r)))) (a0g (a0a rfl) (a0s (a0d a0c (a0d a0c (a0d a0c (a0d a0c (a0d a0c (a0d a0c (a0d a0c a0r)))))))) a0m)) rfl rfl rfl rfl rfl ?_
   refine a8c 7 rfl (by kernel_rfl) rfl rfl rfl (vok hT ⟨⟨_, _, rfl⟩, rfl, trivial⟩ (by kernel_rfl) (by kernel_rfl)) (vok hT ⟨⟨_, _, rfl⟩, rfl, trivial⟩ (by kernel_rfl) (by kernel_rfl)) (a2c (.inl rfl) (a0a rfl)) rfl rfl rfl rfl ?_
   refine a3E 8 rfl (by kernel_rfl) rfl rfl rfl rfl (vok hT ⟨⟨_, _, rfl⟩, rfl, trivial⟩ (by kernel_rfl) (by kernel_rfl)) (vok hT ⟨⟨_, _, rfl⟩, rfl, trivial⟩ (by kernel_rfl) (by kernel_rfl)) (a5N rfl (a0a rfl) rfl) rfl rfl ?_
   refine a3E 9 rfl (by kernel_rfl) rfl rfl rfl rfl (vok hT ⟨⟨_, _, rfl⟩, rfl, trivial⟩ (by kernel_rfl) (by kernel_rfl)) (vok hT ⟨⟨_, _, rfl⟩, rfl, trivial⟩ (by kernel_rfl) (by kernel_rfl)) (a5k rfl (a0a rfl) rfl) rfl rfl ?_
   refine a3E 10 rfl (by kernel_rfl) rfl rfl rfl rfl (vok hT ⟨⟨_, _, rfl⟩, rfl, trivial⟩ (by kernel_rfl) (by kernel_rfl)) (vok hT ⟨⟨_, _, rfl⟩, rfl, trivial⟩ (by kernel_rfl) (by kernel_rfl)) (a5k rfl (a0a rfl) rfl) rfl rfl ?_
   refine a8v (vok hT ⟨⟨_, _, rfl⟩, rfl, trivial⟩ (by kernel_rfl) (by kernel_rfl)) rfl rfl (by kernel_rfl) ?_
   dsimp only [a3K, a3G]
   refine a4d [12, 13, 14] rfl rfl (by kernel_rfl) ?_
   iterate 3 refine z ?_
   refine a1t ?_
   exact a2p (a0e ⟨rfl, rfl, rfl, rfl, rfl, rfl, rfl, rfl, rfl, rfl, trivial⟩ ⟨rfl, rfl, rfl, rfl, rfl, trivial⟩ ⟨rfl, rfl, rfl, trivial⟩ rfl)
  iterate 5 refine z ?_
  refine yO rfl rfl (a2v (i := (a0u (a0G (o.2.1)) (d).2.2.1 0).toNat) hT rfl rfl rfl (a0a rfl) rfl (a0a rfl) (by omega) (by show _ < (((d).2.2.1)).length; omega)) rfl ?_
  refine a3g (js := [90501]) (cs := (d.2.2.1.set (a0u (a0G o.2.1) d.2.2.1 0).toNat (opI (d.2.2.1.getD (a0u (a0G o.2.1) d.2.2.1 0).toNat default) o).1).flatMap a1n) hT rfl rfl rfl rfl (a0a rfl) (a0a rfl) rfl rfl rfl rfl (a0t (a0W rfl) (a0t (a1i rfl) (a0t (a0W rfl) a1m rfl) rfl) rfl) (by decide) (by decide) rfl (by show _ ≤ List.length (((d).2.2.1).flatMap a1n); exact b8f (enc := a1n) (sz := 3) (fun _ => rfl) hkn) (b4V (enc := a1n) (sz := 3) (fun _ => rfl) hkn (opI (d.2.2.1.getD (a0u (a0G o.2.1) d.2.2.1 0).toNat default) o).1) ?_
  simp only [a0l, a0j, SV.kill, CV.kill, kk, Nat.reduceBEq]
  refine z ?_
  refine a0q ?_
  refine a0q ?_
  refine a0h (a5L (k := 90031) (c' := a0b false (a0z (d.2.2.1.set (a0u (a0G o.2.1) d.2.2.1 0).toNat (opI (d.2.2.1.getD (a0u (a0G o.2.1) d.2.2.1 0).toNat default) o).1))) rfl (congrArg (fun m => KC.mk false 67 3 m ((d.2.2.1.set (a0u (a0G o.2.1) d.2.2.1 0).toNat (opI (d.2.2.1.getD (a0u (a0G o.2.1) d.2.2.1 0).toNat default) o).1).flatMap a1n)) (List.length_set).symm) rfl) ?_
  refine a0k ?_
  iterate 4 refine z ?_
  refine a1N (a1A rfl rfl rfl rfl rfl) rfl rfl Tryz.call54 (a9r (x := a3s d (a0u (a0G o.2.1) d.2.2.1 0).toNat (opI (d.2.2.1.getD (a0u (a0G o.2.1) d.2.2.1 0).toNat default) o).1)) (fun hg => (a0g (a0C rfl hg) (a0s (a0d a0c (a0d a0c (a0d (a0Q rfl rfl) (a0d (a0Q rfl rfl) a0r))))) a0m)) rfl rfl ?_
  iterate 3 refine z ?_
  refine yQ rfl (fun c2 => ?_) fun c2 => ?_
  ·refine a0q ?_
   refine a0h (σ' := ⟨[(2, .box 2 0), (4, .box 4 0), (5, .one (.dv [] (.int .i64 (0)))), (6, .one (.dv [] (.bool (false))))], [(2, 33, [(.dv [] (.str (d.1))), (.dv [] (.int .i64 (d.2.1))), (.dv [] (a0z (d.2.2.1))), (.dv [] (a0B (d.2.2.2)))]), (4, 33, [(.dv [] (.str (ByteArray.empty))), (.dv [] (.int .i64 (0))), .nil, .nil])], []⟩) (a0e ⟨rfl, rfl, rfl, rfl, trivial⟩ ⟨rfl, rfl, trivial⟩ trivial rfl) ?_
   refine a0k ?_
   refine z ?_
   refine zK 90000 Tryz.call21 ?_ (hf := a7B (x := d) (by omega))
   iterate 4 refine z ?_
   rw [b3C c1 (b2c (d.2.2.1.getD (a0u (a0G o.2.1) d.2.2.1 0).toNat default) o) c2]
   refine a0h (σ' := ⟨[(4, .box 4 0), (5, .one (.dv [] (.int .i64 (0)))), (6, .one (.dv [] (.bool (false))))], [(4, 33, [(.dv [] (.str ((d).1))), (.dv [] (.int .i64 ((d).2.1))), (.key 90031), (.key 90900)])], [(90031, some (a0b false (a0z (d.2.2.1)))), (90900, some (a0b false (a0B (d.2.2.2))))]⟩) (a0e ⟨rfl, rfl, rfl, trivial⟩ ⟨rfl, trivial⟩ ⟨rfl, rfl, trivial⟩ rfl) ?_
   iterate 2 refine z ?_
   refine a1K (a0F hT rfl rfl rfl rfl) (a0i rfl) (a0i rfl) rfl rfl rfl ?_
   first | exact ⟨rfl, rfl⟩ | skip
  ·iterate 9 refine z ?_
   rw [b3Q c1 (b2c (d.2.2.1.getD (a0u (a0G o.2.1) d.2.2.1 0).toNat default) o) c2]
   refine a0h (σ' := ⟨[(4, .box 4 0), (5, .one (.dv [] (.int .i64 ((opI ((d.2.2.1.getD (a0u (a0G o.2.1) d.2.2.1 0).toNat default)) (o)).2.1)))), (6, .one (.dv [] (.bool (true))))], [(4, 33, [(.dv [] (.str ((d).1))), (.dv [] (.int .i64 ((d).2.1))), (.key 90031), (.key 90900)])], [(90031, some (a0b false (a0z (d.2.2.1.set (a0u (a0G o.2.1) d.2.2.1 0).toNat (opI (d.2.2.1.getD (a0u (a0G o.2.1) d.2.2.1 0).toNat default) o).1)))), (90900, some (a0b false (a0B (d.2.2.2))))]⟩) (a0e ⟨rfl, rfl, rfl, trivial⟩ ⟨rfl, trivial⟩ ⟨rfl, rfl, trivial⟩ rfl) ?_
   refine z ?_
   refine a1K (a0F hT rfl rfl rfl rfl) (a0i rfl) (a0i rfl) rfl rfl rfl ?_
   first | exact ⟨rfl, rfl⟩ | skip
theorem c4B {d : DbT} {o : OpT} (hb : a0Z d ≤ 1099511627776) : KFn Tryz.prog 55 [.agg [(.dv [] (.str (d.1))), (.dv [] (.int .i64 (d.2.1))), (.dv [] (a0z (d.2.2.1))), (.dv [] (a0B (d.2.2.2)))], .agg [(.dv [] (.int .i64 (o.1))), (.dv [] (.str (o.2.1))), (.dv [] (.int .i64 (o.2.2.1.1))), (.dv [] (.int .i64 (o.2.2.1.2.1))), (.dv [] (.str (o.2.2.1.2.2))), (.dv [] (a0w (o.2.2.2.1))), (.dv [] (.str (o.2.2.2.2)))]] (.tup [(true, [.dv [] (.str ((a1k d o).1.1)), .dv [] (.int .i64 ((a1k d o).1.2.1)), .key 90031, .key 90900]), (false, [.dv [] (.int .i64 ((a1k d o).2.1))]), (false, [.dv [] (.bool ((a1k d o).2.2))])]) [(90031, some (a0b false (a0z ((a1k d o).1.2.2.1)))), (90900, some (a0b false (a0B ((a1k d o).1.2.2.2))))] := by
 by_cases h : same (d.2.2.1.getD (a0u (a0G o.2.1) d.2.2.1 0).toNat default) o = true
 ·exact c3K hb h
 ·exact c3M hb (by simpa using h)
theorem b6J {α : Type} [Inhabited α] {w : α → Nat} {y : α} : ∀ (l : List α) (i : Nat), wSum w (l.set i y) ≤ wSum w l + w y
 | [], i => by simp [wSum]
 | x :: l, 0 => by simp [wSum]; omega
 | x :: l, i + 1 => by have := b6J (w := w) (y := y) l i; simp [wSum] at this ⊢; omega
theorem b4Z (d : DbT) (o : OpT) : a0Z (a1k d o).1 ≤ a0Z d + 1000000 := by
 unfold a1k
 split
 ·show a0Z d ≤ _; omega
 ·rename_i h1
  split
  ·show a0Z d ≤ _; omega
  ·rename_i h2
   have h1 : ((!a1V d || !a1E o) || decide (a1Y d o.2.1 < 0)) = false := by simpa using h1
   have hg := b1E h1
   have hlt := a8I d o.2.1
   have h2 : (!(opM (a3d d o) o).2.2 || !a1V (a3s d (a1Y d o.2.1).toNat (opM (a3d d o) o).1)) = false := by simpa using h2
   have hd : a1V (a3s d (a1Y d o.2.1).toNat (opM (a3d d o) o).1) = true := by
    simp only [Bool.or_eq_false_iff, Bool.not_eq_false'] at h2
    exact h2.2
   have hs := a7f (i := a1Y d o.2.1) (b0p hd) hg.2.2 (by show _ < (((d.2.2.1.set _ _).length : Nat) : Int); rw [List.length_set]; exact hlt)
   have e : (a3s d (a1Y d o.2.1).toNat (opM (a3d d o) o).1).2.2.1.getD (a1Y d o.2.1).toNat default = (opM (a3d d o) o).1 := by
    have hl : (a1Y d o.2.1).toNat < d.2.2.1.length := by omega
    simp [a3s, List.getD, hl]
   rw [e] at hs
   have hw := a6Y hs
   have h3 := b6J (w := a0T) (y := (opM (a3d d o) o).1) d.2.2.1 (a1Y d o.2.1).toNat
   have h4 : a0Z d = d.1.size + a1c a0T d.2.2.1 + a1c a1s d.2.2.2 := rfl
   have h5 : a0Z (a3s d (a1Y d o.2.1).toNat (opM (a3d d o) o).1) = d.1.size + a1c a0T (d.2.2.1.set (a1Y d o.2.1).toNat (opM (a3d d o) o).1) + a1c a1s d.2.2.2 := rfl
   have h6 : a1c a0T d.2.2.1 = d.2.2.1.length + wSum a0T d.2.2.1 := rfl
   have h7 : a1c a0T (d.2.2.1.set (a1Y d o.2.1).toNat (opM (a3d d o) o).1) = (d.2.2.1.set (a1Y d o.2.1).toNat (opM (a3d d o) o).1).length + wSum a0T (d.2.2.1.set (a1Y d o.2.1).toNat (opM (a3d d o) o).1) := rfl
   rw [List.length_set] at h7
   show a0Z (a3s d (a1Y d o.2.1).toNat (opM (a3d d o) o).1) ≤ _
   omega
def a2B : DbT → List OpT → Option (DbT × List Int)
 | c, [] => some (c, [])
 | c, o :: os => if (a1k c o).2.2 = true then (a2B (a1k c o).1 os).map fun r => (r.1, (a1k c o).2.1 :: r.2) else none
def b8O (d : DbT) : Option (DbT × List Int) → DbT × List Int × Bool
 | none => (d, [], false)
 | some r => (r.1, r.2, true)
def a2g (d : DbT) (l : List OpT) : DbT × List Int × Bool := if (!a1V d || decide ((6 : Int) < (l.length : Int))) = true then (d, [], false) else b8O d (a2B d l)
def a4L (acc : List Int) (x : Option (DbT × List Int)) : Option (DbT × List Int) := x.map fun r => (r.1, acc ++ r.2)
theorem b5w {d : DbT} {l : List OpT} (h : (!a1V d || decide ((6 : Int) < (l.length : Int))) = false) : l.length ≤ 6 := by
 simp only [Bool.or_eq_false_iff, decide_eq_false_iff_not] at h
 omega
theorem b7q {l : List OpT} {n : Nat} (h : n < l.length) : l.drop n = l.getD (n : Int).toNat default :: l.drop (n + 1) := by
 rw [List.drop_eq_getElem_cons h]
 simp [List.getD, List.getElem?_eq_getElem h]
theorem c6j {l : List OpT} {n : Nat} {c : DbT} (h : n < l.length) (hk : (!(a1k c (l.getD (n : Int).toNat default)).2.2) = true) : a2B c (l.drop n) = none := by
 rw [b7q h, a2B, if_neg (by simpa using hk)]
theorem b8S {l : List OpT} {n : Nat} {c : DbT} {acc : List Int} (h : n < l.length) (hk : (!(a1k c (l.getD (n : Int).toNat default)).2.2) = false) : a4L acc (a2B c (l.drop n)) = a4L (acc ++ [(a1k c (l.getD (n : Int).toNat default)).2.1]) (a2B (a1k c (l.getD (n : Int).toNat default)).1 (l.drop (n + 1))) := by
 rw [b7q h, a2B, if_pos (by simpa using hk)]
 unfold a4L
 cases a2B (a1k c (l.getD (n : Int).toNat default)).1 (l.drop (n + 1)) <;> simp
theorem b8g {d : DbT} {l : List OpT} (h : (!a1V d || decide ((6 : Int) < (l.length : Int))) = true) : a2g d l = (d, [], false) := by rw [a2g, if_pos h]
theorem b7V {d c : DbT} {l : List OpT} {n : Nat} {acc : List Int} (h : (!a1V d || decide ((6 : Int) < (l.length : Int))) = false) (hi : a2B d l = a4L acc (a2B c (l.drop n))) (hn : n < l.length) (hk : (!(a1k c (l.getD (n : Int).toNat default)).2.2) = true) : a2g d l = (d, [], false) := by
 rw [a2g, if_neg (by rw [h]; simp), hi, c6j hn hk]; rfl
theorem c0z {d c : DbT} {l : List OpT} {n : Nat} {acc : List Int} (h : (!a1V d || decide ((6 : Int) < (l.length : Int))) = false) (hi : a2B d l = a4L acc (a2B c (l.drop n))) (hn : n = l.length) : a2g d l = (c, acc, true) := by
 rw [a2g, if_neg (by rw [h]; simp), hi, hn, List.drop_length]
 simp [a2B, a4L, b8O]
theorem c1n {d : DbT} {l : List OpT} (hb : a0Z d ≤ 549755813888) : KFn Tryz.prog 24 [.agg [(.dv [] (.str (d.1))), (.dv [] (.int .i64 (d.2.1))), (.dv [] (a0z (d.2.2.1))), (.dv [] (a0B (d.2.2.2)))], .one (.dv [] (a1T (l)))] (.tup [(true, [(.dv [] (.str ((a2g d l).1.1))), (.dv [] (.int .i64 ((a2g d l).1.2.1))), (.key 90031), (.key 90900)]), (false, [(.key 95000)]), (false, [(.dv [] (.bool ((a2g d l).2.2)))])]) [(90031, some (a0b false (a0z ((a2g d l).1.2.2.1)))), (90900, some (a0b false (a0B ((a2g d l).1.2.2.2)))), (95000, some (a0b false (a6d ((a2g d l).2.1))))] := by
 refine ⟨a0v Tryz.func24 rfl Tryz.ntmps24 Tryz.results24 rfl (fun C => ?_)⟩
 refine yF 0 0 rfl rfl fun f0_0 => ?_
 refine yF 0 1 rfl rfl fun f0_1 => ?_
 refine yF 0 2 rfl rfl fun f0_2 => ?_
 refine yF 0 3 rfl rfl fun f0_3 => ?_
 refine a0E (x := .tmp 1) (a0a rfl) fun f1 => ?_
 iterate 8 refine z ?_
 refine zK 90000 Tryz.call21 ?_ (hf := a7B (x := d) (by omega))
 iterate 4 refine z ?_
 refine a2f (k := 95000) hT rfl rfl rfl rfl rfl rfl rfl rfl ?_
 iterate 5 refine z ?_
 refine zC Tryz.call54 ?_ (hf := a9r (x := d) )
 iterate 7 refine z ?_
 refine yQ rfl (fun c1 => ?_) fun c1 => ?_
 ·iterate 7 refine z ?_
  rw [b8g c1]
  refine a0h (σ' := ⟨[(4, .box 4 0), (5, .one (.key 95000)), (6, .one (.dv [] (.bool (false))))], [(4, 33, [(.dv [] (.str ((d).1))), (.dv [] (.int .i64 ((d).2.1))), (.key 90031), (.key 90900)])], [(90031, some (a0b false (a0z (d.2.2.1)))), (90900, some (a0b false (a0B (d.2.2.2)))), (95000, some (a0b false (a6d ([]))))]⟩) (a0e ⟨rfl, rfl, rfl, trivial⟩ ⟨rfl, trivial⟩ ⟨rfl, rfl, rfl, trivial⟩ rfl) ?_
  iterate 2 refine z ?_
  refine a1K (a0F hT rfl rfl rfl rfl) (a0i rfl) (a0i rfl) rfl rfl rfl ?_
  first | exact ⟨rfl, rfl⟩ | skip
 ·have hl6 := b5w c1
  iterate 9 refine z ?_
  refine a0X (ι := Nat × DbT × List Int) (fun zz => ⟨[(2, .box 2 0), (4, .box 4 0), (7, .box 7 0), (8, .one (.key 95000)), (27, .one (.dv [] (a1T (l)))), (28, .one (.dv [] (.int .i64 ((((l)).length : Int))))), (29, .one (.dv [] (.int .i64 ((zz.1 : Int)))))], [(2, 33, [(.dv [] (.str (d.1))), (.dv [] (.int .i64 (d.2.1))), (.dv [] (a0z (d.2.2.1))), (.dv [] (a0B (d.2.2.2)))]), (4, 33, [(.dv [] (.str (ByteArray.empty))), (.dv [] (.int .i64 (0))), .nil, .nil]), (7, 33, [(.dv [] (.str (zz.2.1.1))), (.dv [] (.int .i64 (zz.2.1.2.1))), (.key 90031), (.key 90900)])], [(90031, some (a0b false (.sl 67 3 (zz.2.1.2.2.1.length) (zz.2.1.2.2.1.flatMap a1n)))), (90900, some (a0b false (.sl 97 2 (zz.2.1.2.2.2.length) (zz.2.1.2.2.2.flatMap a1O)))), (95000, some (a0b false (.sl 3 1 (zz.2.2.length) (zz.2.2.flatMap a4b))))]⟩) (fun zz => zz.1 ≤ l.length ∧ a2B d l = a4L zz.2.2 (a2B zz.2.1 (l.drop zz.1)) ∧ a0Z zz.2.1 ≤ a0Z d + 1000000 * zz.1 ∧ zz.2.2.length = zz.1) (fun zz => l.length - zz.1) ((0, d, [])) ?_ (a0e ⟨rfl, rfl, rfl, rfl, rfl, rfl, rfl, trivial⟩ ⟨rfl, rfl, rfl, trivial⟩ ⟨rfl, rfl, rfl, trivial⟩ rfl) (fun zz hx => ?_)
  ·exact ⟨Nat.zero_le _, by simp [a4L], by dsimp only; omega, rfl⟩
  obtain ⟨n, c, acc⟩ := zz
  replace hx : n ≤ l.length ∧ a2B d l = a4L acc (a2B c (l.drop n)) ∧ a0Z c ≤ a0Z d + 1000000 * n ∧ acc.length = n := hx
  obtain ⟨hn, hi, hw, hal⟩ := hx
  show Ok _ _ _ _ _ (⟨[(2, .box 2 0), (4, .box 4 0), (7, .box 7 0), (8, .one (.key 95000)), (27, .one (.dv [] (a1T (l)))), (28, .one (.dv [] (.int .i64 ((((l)).length : Int))))), (29, .one (.dv [] (.int .i64 ((n : Int)))))], [(2, 33, [(.dv [] (.str (d.1))), (.dv [] (.int .i64 (d.2.1))), (.dv [] (a0z (d.2.2.1))), (.dv [] (a0B (d.2.2.2)))]), (4, 33, [(.dv [] (.str (ByteArray.empty))), (.dv [] (.int .i64 (0))), .nil, .nil]), (7, 33, [(.dv [] (.str (c.1))), (.dv [] (.int .i64 (c.2.1))), (.key 90031), (.key 90900)])], [(90031, some (a0b false (.sl 67 3 (c.2.2.1.length) (c.2.2.1.flatMap a1n)))), (90900, some (a0b false (.sl 97 2 (c.2.2.2.length) (c.2.2.2.flatMap a1O)))), (95000, some (a0b false (.sl 3 1 (acc.length) (acc.flatMap a4b))))]⟩ : St)
  iterate 3 refine z ?_
  refine a0q ?_
  refine yQ rfl (fun c2 => ?_) fun c2 => ?_
  ·have d2 := of_decide_eq_true c2
   have hn2 : n < l.length := by omega
   have hrw := b4Z c (l.getD (n : Int).toNat default)
   have hw2 : a0Z (a1k c (l.getD (n : Int).toNat default)).1 ≤ a0Z d + 1000000 * (n + 1) := Nat.le_trans hrw (by rw [Nat.mul_succ, ← Nat.add_assoc]; exact Nat.add_le_add_right hw _)
   iterate 13 refine z ?_
   refine a2J 1000 rfl rfl rfl Tryz.call55 (c4B (d := c) (o := (l.getD (n : Int).toNat default)) (by omega)) (a0g (a0a rfl) (a0s (a0d a0c (a0d a0c (a0d (a0Q rfl rfl) (a0d (a0Q rfl rfl) a0r))))) (a0g (a0a rfl) (a0s (a0d a0c (a0d a0c (a0d a0c (a0d a0c (a0d a0c (a0d a0c (a0d a0c a0r)))))))) a0m)) rfl rfl rfl ?_
   iterate 14 refine z ?_
   refine yQ rfl (fun c3 => ?_) fun c3 => ?_
   ·refine a0q ?_
    refine a0h (σ' := ⟨[(2, .box 2 0), (4, .box 4 0)], [(2, 33, [(.dv [] (.str (d.1))), (.dv [] (.int .i64 (d.2.1))), (.dv [] (a0z (d.2.2.1))), (.dv [] (a0B (d.2.2.2)))]), (4, 33, [(.dv [] (.str (ByteArray.empty))), (.dv [] (.int .i64 (0))), .nil, .nil])], []⟩) (a0e ⟨rfl, rfl, trivial⟩ ⟨rfl, rfl, trivial⟩ trivial rfl) ?_
    refine a0k ?_
    refine z ?_
    refine zK 90000 Tryz.call21 ?_ (hf := a7B (x := d) (by omega))
    refine a2f (k := 95000) hT rfl rfl rfl rfl rfl rfl rfl rfl ?_
    iterate 4 refine z ?_
    rw [b7V c1 hi hn2 c3]
    refine a0h (σ' := ⟨[(4, .box 4 0), (5, .one (.key 95000)), (6, .one (.dv [] (.bool (false))))], [(4, 33, [(.dv [] (.str ((d).1))), (.dv [] (.int .i64 ((d).2.1))), (.key 90031), (.key 90900)])], [(90031, some (a0b false (a0z (d.2.2.1)))), (90900, some (a0b false (a0B (d.2.2.2)))), (95000, some (a0b false (a6d ([]))))]⟩) (a0e ⟨rfl, rfl, rfl, trivial⟩ ⟨rfl, trivial⟩ ⟨rfl, rfl, rfl, trivial⟩ rfl) ?_
    iterate 7 refine z ?_
    refine a1K (a0F hT rfl rfl rfl rfl) (a0i rfl) (a0i rfl) rfl rfl rfl ?_
    first | exact ⟨rfl, rfl⟩ | skip
   ·iterate 6 refine z ?_
    refine a0h (a5i (b := 7) (i := 2) (k := 91031) (k' := 90031) rfl rfl rfl rfl (by simp) rfl rfl) ?_
    simp only [a0l, a0j, SV.kill, CV.kill, kk, Nat.reduceBEq]
    refine a0h (a5i (b := 7) (i := 3) (k := 91900) (k' := 90900) rfl rfl rfl rfl (by simp) rfl rfl) ?_
    simp only [a0l, a0j, SV.kill, CV.kill, kk, Nat.reduceBEq]
    refine a0k ?_
    iterate 2 refine z ?_
    refine a3B (k := 48) (js := []) hT rfl rfl rfl rfl rfl rfl rfl rfl rfl (a0a rfl) rfl rfl (a0t (a0W rfl) a1m rfl) (by decide) (by decide) rfl rfl ?_
    simp only [a0l, a0j, SV.kill, CV.kill, kk, Nat.reduceBEq]
    refine a3l (k := 95000) (j := 48) (cs := (acc ++ [(a1k c (l.getD (n : Int).toNat default)).2.1]).flatMap a4b) (n := (acc ++ [(a1k c (l.getD (n : Int).toNat default)).2.1]).length) hT rfl rfl rfl rfl rfl rfl rfl (a0a rfl) rfl rfl rfl (a0a rfl) rfl rfl (by decide) (by dsimp only [a0b]; omega) (by dsimp only [a0b]; omega) (by simp) (by rw [List.flatMap_append]; rfl) ?_
    simp only [a0l, a0j, SV.kill, CV.kill, kk, Nat.reduceBEq]
    refine z ?_
    refine a1t ?_
    iterate 2 refine z ?_
    refine a0k ?_
    iterate 3 refine z ?_
    refine ⟨(n + 1, (a1k c (l.getD (n : Int).toNat default)).1, acc ++ [(a1k c (l.getD (n : Int).toNat default)).2.1]), ?_, ?_, a0e ⟨rfl, rfl, rfl, rfl, rfl, rfl, rfl, trivial⟩ ⟨rfl, rfl, rfl, trivial⟩ ⟨rfl, rfl, rfl, trivial⟩ rfl⟩
    ·exact ⟨hn2, by show a2B d l = _; rw [hi]; exact b8S hn2 c3, hw2, by rw [List.length_append, hal]; rfl⟩
    ·dsimp only; omega
  ·have d2 := of_decide_eq_false c2
   iterate 12 refine z ?_
   rw [c0z c1 hi (by omega)]
   refine a0h (σ' := ⟨[(4, .box 4 0), (5, .one (.key 95000)), (6, .one (.dv [] (.bool (true))))], [(4, 33, [(.dv [] (.str (c.1))), (.dv [] (.int .i64 (c.2.1))), (.key 90031), (.key 90900)])], [(90031, some (a0b false (a0z (c.2.2.1)))), (90900, some (a0b false (a0B (c.2.2.2)))), (95000, some (a0b false (a6d (acc))))]⟩) (a0e ⟨rfl, rfl, rfl, trivial⟩ ⟨rfl, trivial⟩ ⟨rfl, rfl, rfl, trivial⟩ rfl) ?_
   refine z ?_
   refine a1K (a0F hT rfl rfl rfl rfl) (a0i rfl) (a0i rfl) rfl rfl rfl ?_
   first | exact ⟨rfl, rfl⟩ | skip
theorem c4n {d : DbT} {l : List OpT} (hb : a0Z d ≤ 549755813888) : KFn Tryz.prog 18 [.agg [(.dv [] (.str (d.1))), (.dv [] (.int .i64 (d.2.1))), (.dv [] (a0z (d.2.2.1))), (.dv [] (a0B (d.2.2.2)))], .one (.dv [] (a1T (l)))] (.tup [(true, [(.dv [] (.str ((a2g d l).1.1))), (.dv [] (.int .i64 ((a2g d l).1.2.1))), (.key 90031), (.key 90900)]), (false, [(.key 95000)]), (false, [(.dv [] (.bool ((a2g d l).2.2)))])]) [(90031, some (a0b false (a0z ((a2g d l).1.2.2.1)))), (90900, some (a0b false (a0B ((a2g d l).1.2.2.2)))), (95000, some (a0b false (a6d ((a2g d l).2.1))))] := by
 refine ⟨a0v Tryz.func18 rfl Tryz.ntmps18 Tryz.results18 rfl (fun C => ?_)⟩
 refine yF 0 0 rfl rfl fun f0_0 => ?_
 refine yF 0 1 rfl rfl fun f0_1 => ?_
 refine yF 0 2 rfl rfl fun f0_2 => ?_
 refine yF 0 3 rfl rfl fun f0_3 => ?_
 refine a0E (x := .tmp 1) (a0a rfl) fun f1 => ?_
 iterate 8 refine z ?_
 refine zK 90000 Tryz.call15 ?_ (hf := a9z (x := d) (by omega))
 iterate 4 refine z ?_
 refine a2f (k := 95000) hT rfl rfl rfl rfl rfl rfl rfl rfl ?_
 iterate 5 refine z ?_
 refine zC Tryz.call42 ?_ (hf := b2I (x := d) )
 iterate 7 refine z ?_
 refine yQ rfl (fun c1 => ?_) fun c1 => ?_
 ·iterate 7 refine z ?_
  rw [b8g c1]
  refine a0h (σ' := ⟨[(4, .box 4 0), (5, .one (.key 95000)), (6, .one (.dv [] (.bool (false))))], [(4, 33, [(.dv [] (.str ((d).1))), (.dv [] (.int .i64 ((d).2.1))), (.key 90031), (.key 90900)])], [(90031, some (a0b false (a0z (d.2.2.1)))), (90900, some (a0b false (a0B (d.2.2.2)))), (95000, some (a0b false (a6d ([]))))]⟩) (a0e ⟨rfl, rfl, rfl, trivial⟩ ⟨rfl, trivial⟩ ⟨rfl, rfl, rfl, trivial⟩ rfl) ?_
  iterate 2 refine z ?_
  refine a1K (a0F hT rfl rfl rfl rfl) (a0i rfl) (a0i rfl) rfl rfl rfl ?_
  first | exact ⟨rfl, rfl⟩ | skip
 ·have hl6 := b5w c1
  iterate 7 refine z ?_
  refine a0X (ι := Nat × DbT × List Int) (fun zz => ⟨[(1, .one (.dv [] (a1T (l)))), (2, .box 2 0), (4, .box 4 0), (7, .box 7 0), (8, .one (.key 95000)), (9, .one (.dv [] (.int .i64 ((zz.1 : Int)))))], [(2, 33, [(.dv [] (.str (d.1))), (.dv [] (.int .i64 (d.2.1))), (.dv [] (a0z (d.2.2.1))), (.dv [] (a0B (d.2.2.2)))]), (4, 33, [(.dv [] (.str (ByteArray.empty))), (.dv [] (.int .i64 (0))), .nil, .nil]), (7, 33, [(.dv [] (.str (zz.2.1.1))), (.dv [] (.int .i64 (zz.2.1.2.1))), (.key 90031), (.key 90900)])], [(90031, some (a0b false (.sl 67 3 (zz.2.1.2.2.1.length) (zz.2.1.2.2.1.flatMap a1n)))), (90900, some (a0b false (.sl 97 2 (zz.2.1.2.2.2.length) (zz.2.1.2.2.2.flatMap a1O)))), (95000, some (a0b false (.sl 3 1 (zz.2.2.length) (zz.2.2.flatMap a4b))))]⟩) (fun zz => zz.1 ≤ l.length ∧ a2B d l = a4L zz.2.2 (a2B zz.2.1 (l.drop zz.1)) ∧ a0Z zz.2.1 ≤ a0Z d + 1000000 * zz.1 ∧ zz.2.2.length = zz.1) (fun zz => l.length - zz.1) ((0, d, [])) ?_ (a0e ⟨rfl, rfl, rfl, rfl, rfl, rfl, trivial⟩ ⟨rfl, rfl, rfl, trivial⟩ ⟨rfl, rfl, rfl, trivial⟩ rfl) (fun zz hx => ?_)
  ·exact ⟨Nat.zero_le _, by simp [a4L], by dsimp only; omega, rfl⟩
  obtain ⟨n, c, acc⟩ := zz
  replace hx : n ≤ l.length ∧ a2B d l = a4L acc (a2B c (l.drop n)) ∧ a0Z c ≤ a0Z d + 1000000 * n ∧ acc.length = n := hx
  obtain ⟨hn, hi, hw, hal⟩ := hx
  show Ok _ _ _ _ _ (⟨[(1, .one (.dv [] (a1T (l)))), (2, .box 2 0), (4, .box 4 0), (7, .box 7 0), (8, .one (.key 95000)), (9, .one (.dv [] (.int .i64 ((n : Int)))))], [(2, 33, [(.dv [] (.str (d.1))), (.dv [] (.int .i64 (d.2.1))), (.dv [] (a0z (d.2.2.1))), (.dv [] (a0B (d.2.2.2)))]), (4, 33, [(.dv [] (.str (ByteArray.empty))), (.dv [] (.int .i64 (0))), .nil, .nil]), (7, 33, [(.dv [] (.str (c.1))), (.dv [] (.int .i64 (c.2.1))), (.key 90031), (.key 90900)])], [(90031, some (a0b false (.sl 67 3 (c.2.2.1.length) (c.2.2.1.flatMap a1n)))), (90900, some (a0b false (.sl 97 2 (c.2.2.2.length) (c.2.2.2.flatMap a1O)))), (95000, some (a0b false (.sl 3 1 (acc.length) (acc.flatMap a4b))))]⟩ : St)
  iterate 7 refine z ?_
  refine yQ rfl (fun c2 => ?_) fun c2 => ?_
  ·have d2 := of_decide_eq_true c2
   have hn2 : n < l.length := by omega
   have hrw := b4Z c (l.getD (n : Int).toNat default)
   have hw2 : a0Z (a1k c (l.getD (n : Int).toNat default)).1 ≤ a0Z d + 1000000 * (n + 1) := Nat.le_trans hrw (by rw [Nat.mul_succ, ← Nat.add_assoc]; exact Nat.add_le_add_right hw _)
   iterate 4 refine z ?_
   refine a5O (σ' := ⟨[(1, .one (.dv [] (a1T (l)))), (2, .box 2 0), (4, .box 4 0), (7, .box 7 0), (8, .one (.key 95000)), (9, .one (.dv [] (.int .i64 ((n : Int))))), (10, .box 10 0), (11, .one (.dv [] (.int .i64 ((a1k (c) ((l.getD (n : Int).toNat default))).2.1)))), (12, .one (.dv [] (.bool ((a1k (c) ((l.getD (n : Int).toNat default))).2.2))))], [(2, 33, [(.dv [] (.str (d.1))), (.dv [] (.int .i64 (d.2.1))), (.dv [] (a0z (d.2.2.1))), (.dv [] (a0B (d.2.2.2)))]), (4, 33, [(.dv [] (.str (ByteArray.empty))), (.dv [] (.int .i64 (0))), .nil, .nil]), (7, 33, [(.dv [] (.str (c.1))), (.dv [] (.int .i64 (c.2.1))), (.key 90031), (.key 90900)]), (10, 33, [(.dv [] (.str ((a1k (c) ((l.getD (n : Int).toNat default))).1.1))), (.dv [] (.int .i64 ((a1k (c) ((l.getD (n : Int).toNat default))).1.2.1))), (.key 91031), (.key 91900)])], [(90031, some (a0b false (.sl 67 3 (c.2.2.1.length) (c.2.2.1.flatMap a1n)))), (90900, some (a0b false (.sl 97 2 (c.2.2.2.length) (c.2.2.2.flatMap a1O)))), (91031, some (a0b false (a0z ((a1k (c) ((l.getD (n : Int).toNat default))).1.2.2.1)))), (91900, some (a0b false (a0B ((a1k (c) ((l.getD (n : Int).toNat default))).1.2.2.2)))), (95000, some (a0b false (.sl 3 1 (acc.length) (acc.flatMap a4b))))]⟩) ?_ ?_
   ·refine a1M (oB := [2, 4, 7]) (oK := [90031, 90900, 95000]) (by kernel_rfl) rfl rfl ?_
    refine zD 0 ?_
    refine zD 1 ?_
    refine zD 2 ?_
    refine zD 3 ?_
    refine zD 4 ?_
    refine a8D (A := [(10, 10, 33, _)]) hT ⟨⟨_, _, rfl⟩, rfl, trivial⟩ ?_
    refine b3z 1000 5 rfl (by kernel_rfl) rfl rfl rfl (vok hT ⟨⟨_, _, rfl⟩, rfl, trivial⟩ (by kernel_rfl) (by kernel_rfl)) (vok hT ⟨⟨_, _, rfl⟩, rfl, trivial⟩ (by kernel_rfl) (by kernel_rfl)) rfl Tryz.call43 (c4v (d := c) (o := (l.getD (n : Int).toNat default)) (by omega)) (a0g (a0a rfl) (a0s (a0d a0c (a0d a0c (a0d (a0Q rfl rfl) (a0d (a0Q rfl rfl) a0r))))) (a0g (a0a rfl) (a0s (a0d a0c (a0d a0c (a0d a0c (a0d a0c (a0d a0c (a0d a0c (a0d a0c a0r)))))))) a0m)) rfl rfl rfl rfl rfl ?_
    refine a8c 6 rfl (by kernel_rfl) rfl rfl rfl (vok hT ⟨⟨_, _, rfl⟩, rfl, trivial⟩ (by kernel_rfl) (by kernel_rfl)) (vok hT ⟨⟨_, _, rfl⟩, rfl, trivial⟩ (by kernel_rfl) (by kernel_rfl)) (a2c (.inl rfl) (a0a rfl)) rfl rfl rfl rfl ?_
    refine a3E 7 rfl (by kernel_rfl) rfl rfl rfl rfl (vok hT ⟨⟨_, _, rfl⟩, rfl, trivial⟩ (by kernel_rfl) (by kernel_rfl)) (vok hT ⟨⟨_, _, rfl⟩, rfl, trivial⟩ (by kernel_rfl) (by kernel_rfl)) (a5N rfl (a0a rfl) rfl) rfl rfl ?_
    refine a3E 8 rfl (by kernel_rfl) rfl rfl rfl rfl (vok hT ⟨⟨_, _, rfl⟩, rfl, trivial⟩ (by kernel_rfl) (by kernel_rfl)) (vok hT ⟨⟨_, _, rfl⟩, rfl, trivial⟩ (by kernel_rfl) (by kernel_rfl)) (a5k rfl (a0a rfl) rfl) rfl rfl ?_
    refine a3E 9 rfl (by kernel_rfl) rfl rfl rfl rfl (vok hT ⟨⟨_, _, rfl⟩, rfl, trivial⟩ (by kernel_rfl) (by kernel_rfl)) (vok hT ⟨⟨_, _, rfl⟩, rfl, trivial⟩ (by kernel_rfl) (by kernel_rfl)) (a5k rfl (a0a rfl) rfl) rfl rfl ?_
    refine a8v (vok hT ⟨⟨_, _, rfl⟩, rfl, trivial⟩ (by kernel_rfl) (by kernel_rfl)) rfl rfl (by kernel_rfl) ?_
    dsimp only [a3K, a3G]
    refine a4d [11, 12, 13] rfl rfl (by kernel_rfl) ?_
    iterate 3 refine z ?_
    refine a1t ?_
    exact a2p (a0e ⟨rfl, rfl, rfl, rfl, rfl, rfl, rfl, rfl, rfl, trivial⟩ ⟨rfl, rfl, rfl, rfl, trivial⟩ ⟨rfl, rfl, rfl, rfl, rfl, trivial⟩ rfl)
   iterate 5 refine z ?_
   refine yQ rfl (fun c3 => ?_) fun c3 => ?_
   ·refine a0q ?_
    refine a0h (σ' := ⟨[(2, .box 2 0), (4, .box 4 0)], [(2, 33, [(.dv [] (.str (d.1))), (.dv [] (.int .i64 (d.2.1))), (.dv [] (a0z (d.2.2.1))), (.dv [] (a0B (d.2.2.2)))]), (4, 33, [(.dv [] (.str (ByteArray.empty))), (.dv [] (.int .i64 (0))), .nil, .nil])], []⟩) (a0e ⟨rfl, rfl, trivial⟩ ⟨rfl, rfl, trivial⟩ trivial rfl) ?_
    refine a0k ?_
    refine z ?_
    refine zK 90000 Tryz.call15 ?_ (hf := a9z (x := d) (by omega))
    refine a2f (k := 95000) hT rfl rfl rfl rfl rfl rfl rfl rfl ?_
    iterate 4 refine z ?_
    rw [b7V c1 hi hn2 c3]
    refine a0h (σ' := ⟨[(4, .box 4 0), (5, .one (.key 95000)), (6, .one (.dv [] (.bool (false))))], [(4, 33, [(.dv [] (.str ((d).1))), (.dv [] (.int .i64 ((d).2.1))), (.key 90031), (.key 90900)])], [(90031, some (a0b false (a0z (d.2.2.1)))), (90900, some (a0b false (a0B (d.2.2.2)))), (95000, some (a0b false (a6d ([]))))]⟩) (a0e ⟨rfl, rfl, rfl, trivial⟩ ⟨rfl, trivial⟩ ⟨rfl, rfl, rfl, trivial⟩ rfl) ?_
    iterate 7 refine z ?_
    refine a1K (a0F hT rfl rfl rfl rfl) (a0i rfl) (a0i rfl) rfl rfl rfl ?_
    first | exact ⟨rfl, rfl⟩ | skip
   ·iterate 6 refine z ?_
    refine a0h (a5i (b := 7) (i := 2) (k := 91031) (k' := 90031) rfl rfl rfl rfl (by simp) rfl rfl) ?_
    simp only [a0l, a0j, SV.kill, CV.kill, kk, Nat.reduceBEq]
    refine a0h (a5i (b := 7) (i := 3) (k := 91900) (k' := 90900) rfl rfl rfl rfl (by simp) rfl rfl) ?_
    simp only [a0l, a0j, SV.kill, CV.kill, kk, Nat.reduceBEq]
    refine a0k ?_
    iterate 2 refine z ?_
    refine a3B (k := 50) (js := []) hT rfl rfl rfl rfl rfl rfl rfl rfl rfl (a0a rfl) rfl rfl (a0t (a0W rfl) a1m rfl) (by decide) (by decide) rfl rfl ?_
    simp only [a0l, a0j, SV.kill, CV.kill, kk, Nat.reduceBEq]
    refine a3l (k := 95000) (j := 50) (cs := (acc ++ [(a1k c (l.getD (n : Int).toNat default)).2.1]).flatMap a4b) (n := (acc ++ [(a1k c (l.getD (n : Int).toNat default)).2.1]).length) hT rfl rfl rfl rfl rfl rfl rfl (a0a rfl) rfl rfl rfl (a0a rfl) rfl rfl (by decide) (by dsimp only [a0b]; omega) (by dsimp only [a0b]; omega) (by simp) (by rw [List.flatMap_append]; rfl) ?_
    simp only [a0l, a0j, SV.kill, CV.kill, kk, Nat.reduceBEq]
    refine z ?_
    refine a1t ?_
    iterate 2 refine z ?_
    refine a0k ?_
    iterate 4 refine z ?_
    refine ⟨(n + 1, (a1k c (l.getD (n : Int).toNat default)).1, acc ++ [(a1k c (l.getD (n : Int).toNat default)).2.1]), ?_, ?_, a0e ⟨rfl, rfl, rfl, rfl, rfl, rfl, trivial⟩ ⟨rfl, rfl, rfl, trivial⟩ ⟨rfl, rfl, rfl, trivial⟩ rfl⟩
    ·exact ⟨hn2, by show a2B d l = _; rw [hi]; exact b8S hn2 c3, hw2, by rw [List.length_append, hal]; rfl⟩
    ·dsimp only; omega
  ·have d2 := of_decide_eq_false c2
   iterate 12 refine z ?_
   rw [c0z c1 hi (by omega)]
   refine a0h (σ' := ⟨[(4, .box 4 0), (5, .one (.key 95000)), (6, .one (.dv [] (.bool (true))))], [(4, 33, [(.dv [] (.str (c.1))), (.dv [] (.int .i64 (c.2.1))), (.key 90031), (.key 90900)])], [(90031, some (a0b false (a0z (c.2.2.1)))), (90900, some (a0b false (a0B (c.2.2.2)))), (95000, some (a0b false (a6d (acc))))]⟩) (a0e ⟨rfl, rfl, rfl, trivial⟩ ⟨rfl, trivial⟩ ⟨rfl, rfl, rfl, trivial⟩ rfl) ?_
   refine z ?_
   refine a1K (a0F hT rfl rfl rfl rfl) (a0i rfl) (a0i rfl) rfl rfl rfl ?_
   first | exact ⟨rfl, rfl⟩ | skip
theorem b3T {α : Type} {w : α → Nat} {B : Nat} : ∀ (l : List α), (∀ x ∈ l, w x ≤ B) → wSum w l ≤ l.length * B
 | [], _ => by simp [wSum]
 | x :: l, h => by
  have h1 := b3T l (fun y hy => h y (by simp [hy]))
  have h2 := h x (by simp)
  have e : wSum w (x :: l) = w x + wSum w l := by simp [wSum]
  rw [e, List.length_cons, Nat.add_mul, Nat.one_mul]; omega
theorem c4K {s : a0P} (h : a1D s = true) : s.1.size ≤ 8 := by
 simp only [a1D, Bool.and_eq_true] at h
 have := h.2.1.1
 simp only [a3b, Bool.and_eq_true, decide_eq_true_eq] at this
 omega
theorem b8R (s : Str) : s.size = s.toList.length := by rw [b4t]; rfl
theorem c2p {d : DbT} (h : a1V d = true) : a0Z d ≤ 5000000 := by
 have hst := b0p h
 rw [a1V] at h
 simp only [Bool.and_eq_true] at h
 obtain ⟨hh, _, hu⟩ := h
 simp only [a8A, Bool.and_eq_true, decide_eq_true_eq] at hh
 obtain ⟨⟨⟨hn, _⟩, hl1⟩, hl2⟩ := hh
 simp only [a3b, Bool.and_eq_true, decide_eq_true_eq] at hn
 have hs : ∀ s ∈ d.2.2.1, a1D s = true := fun s hs => by
  obtain ⟨i, hi, rfl⟩ := List.mem_iff_getElem.1 hs
  have := a7f (d := d) (i := (i : Int)) hst (by omega) (by omega)
  simpa [List.getD, List.getElem?_eq_getElem hi] using this
 have h1 := b3T (w := a0T) (B := 1000 * 1000) d.2.2.1 (fun s hm => a6Y (hs s hm))
 have h2 := b3T (w := a1s) (B := 16) d.2.2.2 (fun x hm => by
  obtain ⟨i, hi, rfl⟩ := List.mem_iff_getElem.1 hm
  simp only [b1x, List.all_eq_true] at hu
  have h3 := hu i (List.mem_range.2 hi)
  have ex : d.2.2.2.getD i default = d.2.2.2[i] := by simp [List.getD, List.getElem?_eq_getElem hi]
  simp only [a3M, Int.toNat_natCast, ex, Bool.not_eq_true', Bool.or_eq_false_iff, decide_eq_false_iff_not, Bool.not_eq_false'] at h3
  obtain ⟨⟨⟨h4, h5⟩, _⟩, _⟩ := h3
  simp only [a3b, Bool.and_eq_true, decide_eq_true_eq] at h5
  rcases a9G (p := a0G d.2.2.2[i].1) (d := default) d.2.2.1 0 (by omega) with ⟨h6, _⟩ | ⟨m, h6, _, _, h7⟩
  ·exact absurd (show a1Y d d.2.2.2[i].1 < 0 by show a0u _ _ _ < 0; omega) h4
  ·have hm' : d.2.2.1.getD m default ∈ d.2.2.1 := by simp [List.getD, List.getElem?_eq_getElem h6]
   have h8 := c4K (hs _ hm')
   have h9 : (d.2.2.1.getD m default).1.toList = d.2.2.2[i].1.toList := by simpa [a0G, sEq] using h7
   have h10 : d.2.2.2[i].1.size ≤ 8 := by rw [b8R, ← h9, ← b8R]; exact h8
   have h11 : a1s d.2.2.2[i] = d.2.2.2[i].1.size + d.2.2.2[i].2.size := rfl
   rw [h11]; omega)
 have h3 : a0Z d = d.1.size + a1c a0T d.2.2.1 + a1c a1s d.2.2.2 := rfl
 have h4 : a1c a0T d.2.2.1 = d.2.2.1.length + wSum a0T d.2.2.1 := rfl
 have h5 : a1c a1s d.2.2.2 = d.2.2.2.length + wSum a1s d.2.2.2 := rfl
 have h6 : d.2.2.1.length ≤ 4 := by omega
 have h7 : d.2.2.2.length ≤ 4 := by omega
 have h8 : d.2.2.1.length * (1000 * 1000) ≤ 4 * (1000 * 1000) := Nat.mul_le_mul_right _ h6
 omega
theorem c2F {d : DbT} {o : OpT} (h : (a1k d o).2.2 = true) : a1V (a1k d o).1 = true := by
 unfold a1k at h ⊢
 split at h
 ·cases h
 ·rename_i h1
  split at h
  ·cases h
  ·rename_i h2
   rw [if_neg h1, if_neg h2]
   have h2 : (!(opM (a3d d o) o).2.2 || !a1V (a3s d (a1Y d o.2.1).toNat (opM (a3d d o) o).1)) = false := by simpa using h2
   simp only [Bool.or_eq_false_iff, Bool.not_eq_false'] at h2
   exact h2.2
theorem b6O : ∀ (l : List OpT) (c c' : DbT) (ns : List Int), a2B c l = some (c', ns) → c' = c ∨ a1V c' = true
 | [], c, c', ns, h => by simp only [a2B, Option.some.injEq, Prod.mk.injEq] at h; exact .inl h.1.symm
 | o :: os, c, c', ns, h => by
  rw [a2B] at h
  split at h
  ·rename_i hk
   cases hq : a2B (a1k c o).1 os with
   | none => rw [hq] at h; cases h
   | some r =>
    rw [hq] at h
    simp only [Option.map_some, Option.some.injEq, Prod.mk.injEq] at h
    rcases b6O os (a1k c o).1 r.1 r.2 hq with h2 | h2
    ·right; rw [← h.1, h2]; exact c2F hk
    ·right; rw [← h.1]; exact h2
  ·cases h
theorem b3y (d : DbT) (l : List OpT) : a0Z (a2g d l).1 ≤ a0Z d ∨ a0Z (a2g d l).1 ≤ 5000000 := by
 unfold a2g
 split
 ·exact .inl (Nat.le_refl _)
 ·cases hq : a2B d l with
  | none => exact .inl (Nat.le_refl _)
  | some r =>
   rcases b6O l d r.1 r.2 hq with h | h
   ·left; show a0Z r.1 ≤ _; rw [h]; exact Nat.le_refl _
   ·right; exact c2p h
theorem b0C (n : Nat) : 0 < (uvL n).length := by
 by_cases h : n < 128
 ·rw [a7E h]; simp
 ·rw [a8R h]; simp
theorem c6e (f k acc n : Nat) (r : List UInt8) (h : n < 128) (hz : 0 < k → 0 < n) (hm : acc + n * 2 ^ (7 * k) ≤ 1000000000000) :
  rdF (f + 1) k acc (UInt8.ofNat n :: r) = some (acc + n * 2 ^ (7 * k), k + 1) := by
 have h1 : (UInt8.ofNat n).toNat = n := by simp; omega
 have h2 : n % 128 = n := Nat.mod_eq_of_lt h
 unfold rdF
 rw [h1, h2, if_pos h, if_neg (by omega)]
theorem c0P (f k acc n : Nat) (r : List UInt8) : rdF (f + 1) k acc (UInt8.ofNat (n % 128 + 128) :: r) = rdF f (k + 1) (acc + (n % 128) * 2 ^ (7 * k)) r := by
 have h1 : (UInt8.ofNat (n % 128 + 128)).toNat = n % 128 + 128 := by simp; omega
 conv => lhs; unfold rdF
 rw [h1, if_neg (by omega), show (n % 128 + 128) % 128 = n % 128 by omega]
theorem b4q (n k : Nat) : n * 2 ^ (7 * k) = (n % 128) * 2 ^ (7 * k) + (n / 128) * 2 ^ (7 * (k + 1)) := by
 rw [show 7 * (k + 1) = 7 + 7 * k by omega, Nat.pow_add, ← Nat.mul_assoc, ← Nat.add_mul]
 congr 1
 omega
theorem c0g : ∀ (f k acc n : Nat) (r : List UInt8), (uvL n).length ≤ f → (0 < k → 0 < n) → acc + n * 2 ^ (7 * k) ≤ 1000000000000 →
  rdF f k acc (uvL n ++ r) = some (acc + n * 2 ^ (7 * k), k + (uvL n).length)
 | 0, k, acc, n, r, h, _, _ => by have := b0C n; omega
 | f + 1, k, acc, n, r, h, hz, hm => by
  by_cases h1 : n < 128
  ·rw [a7E h1, List.singleton_append, c6e f k acc n r h1 hz hm]; rfl
  ·rw [a8R h1] at h ⊢
   rw [List.cons_append, c0P, c0g f (k + 1) _ (n / 128) r (by simpa using h) (by omega) (by rw [Nat.add_assoc, ← b4q]; exact hm), Nat.add_assoc, ← b4q]
   simp only [List.length_cons, Option.some.injEq, Prod.mk.injEq, true_and]
   omega
theorem c7A {n : Nat} (hn : n ≤ 1000000000000) : (uvL n).length ≤ 6 := b4l 5 n (by omega)
theorem a9E {b : List UInt8} {p n : Nat} {r : List UInt8} (h : b.drop p = uvL n ++ r) (hn : n ≤ 1000000000000) : rdU b (p : Int) = some (n, (uvL n).length) ∧ b.drop (p + (uvL n).length) = r ∧ p + (uvL n).length ≤ b.length := by
 have h0 := b0C n
 have hl : (b.drop p).length = (uvL n).length + r.length := by rw [h, List.length_append]
 rw [List.length_drop] at hl
 refine ⟨?_, ?_, by omega⟩
 ·unfold rdU
  rw [if_pos (by omega), Int.toNat_natCast, h, c0g 6 0 0 n r (c7A hn) (by omega) (by simpa using hn)]
  simp
 ·rw [← List.drop_drop, h, List.drop_left]
theorem b4G : ∀ (f k acc : Nat) (l : List UInt8) (v m : Nat), rdF f k acc l = some (v, m) → ∃ n r, v = acc + n * 2 ^ (7 * k) ∧ l = uvL n ++ r ∧ m = k + (uvL n).length ∧ (0 < k → 0 < n)
 | 0, _, _, _, _, _, h => by simp [rdF] at h
 | _ + 1, _, _, [], _, _, h => by simp [rdF] at h
 | f + 1, k, acc, x :: r, v, m, h => by
  unfold rdF at h
  split at h
  ·rename_i hx
   split at h
   ·cases h
   ·rename_i h2
    simp only [Option.some.injEq, Prod.mk.injEq] at h
    have e1 : x.toNat % 128 = x.toNat := Nat.mod_eq_of_lt hx
    refine ⟨x.toNat, r, by rw [← h.1, e1], ?_, ?_, by omega⟩
    ·rw [a7E hx]; simp
    ·rw [a7E hx, ← h.2]; rfl
  ·rename_i hx
   obtain ⟨n, s, h1, h2, h3, h4⟩ := b4G f (k + 1) _ r v m h
   have hxl := x.toNat_lt
   have hn := h4 (by omega)
   have e1 : (x.toNat % 128 + n * 128) % 128 = x.toNat % 128 := by omega
   have e2 : (x.toNat % 128 + n * 128) / 128 = n := by omega
   have e3 : ¬ x.toNat % 128 + n * 128 < 128 := by omega
   refine ⟨x.toNat % 128 + n * 128, s, ?_, ?_, ?_, by omega⟩
   ·rw [h1, b4q (x.toNat % 128 + n * 128) k, e1, e2, Nat.add_assoc]
   ·rw [a8R e3, e1, e2, List.cons_append, ← h2]
    congr 1
    have : x.toNat % 128 + 128 = x.toNat := by omega
    rw [this]; simp
   ·rw [a8R e3, e2, h3, List.length_cons]; omega
theorem b9z {b : List UInt8} {off : Int} {v k : Nat} (h : rdU b off = some (v, k)) : ∃ p : Nat, off = (p : Int) ∧ b.drop p = uvL v ++ b.drop (p + k) ∧ p + k ≤ b.length ∧ v ≤ 1000000000000 ∧ k = (uvL v).length := by
 obtain ⟨o, p, h1, h2, h3, h4, h5⟩ := a6I h
 unfold rdU at h
 split at h
 ·obtain ⟨n, r, g1, g2, g3, _⟩ := b4G _ _ _ _ _ _ h
  have e : v = n := by simpa using g1
  subst e
  have e2 : k = (uvL v).length := by omega
  rw [h1, Int.toNat_natCast] at g2
  refine ⟨o, h1, ?_, by omega, h5, e2⟩
  rw [← List.drop_drop, g2, e2, List.drop_left]
 ·cases h
theorem b0d {b : List UInt8} {p : Nat} {d r : List UInt8} {m : Int} (h : b.drop p = uvL d.length ++ d ++ r) (hd : d.length ≤ 1000000000000) (hm : (d.length : Int) ≤ m) : rdB b (p : Int) m = some (d, p + (uvL d.length).length + d.length) ∧ b.drop (p + (uvL d.length).length + d.length) = r ∧ p + (uvL d.length).length + d.length ≤ b.length := by
 rw [List.append_assoc] at h
 obtain ⟨h1, h2, h3⟩ := a9E h hd
 have hl : (b.drop (p + (uvL d.length).length)).length = d.length + r.length := by rw [h2, List.length_append]
 rw [List.length_drop] at hl
 refine ⟨?_, ?_, by omega⟩
 ·unfold rdB
  rw [h1]
  simp only [Int.toNat_natCast]
  rw [if_pos ⟨hm, by omega⟩, h2, List.take_left]
 ·rw [← List.drop_drop, h2, List.drop_left]
theorem c7o {b : List UInt8} {off m : Int} {d : List UInt8} {q : Nat} (h : rdB b off m = some (d, q)) : ∃ p : Nat, off = (p : Int) ∧ b.drop p = uvL d.length ++ (d ++ b.drop q) ∧ q ≤ b.length ∧ (d.length : Int) ≤ m ∧ d.length ≤ 1000000000000 ∧ p < q := by
 unfold rdB at h
 split at h
 ·cases h
 ·rename_i v k hu
  obtain ⟨p, h1, h2, h3, h4, h5⟩ := b9z hu
  split at h
  ·rename_i hc
   subst h1
   simp only [Option.some.injEq, Prod.mk.injEq, Int.toNat_natCast] at h hc
   obtain ⟨rfl, rfl⟩ := h
   have hl : ((b.drop (p + k)).take v).length = v := by rw [List.length_take, List.length_drop]; omega
   refine ⟨p, rfl, ?_, by omega, by omega, by omega, by have := b0C v; omega⟩
   rw [hl, h2, ← List.drop_drop (i := v), List.take_append_drop]
  ·cases h
theorem b1z (s : Str) : a1u s.data.toList = s := by simp [a1u]
theorem b0o (x y : List UInt8) : eqL a3n x y = decide (x = y) := by
 by_cases h : x = y
 ·subst h
  rw [decide_eq_true rfl]
  refine b9O (k := x.length) rfl ?_ rfl
  rw [List.all_eq_true]
  intro i _
  simp [a3n]
 ·rw [decide_eq_false h]
  cases he : eqL a3n x y with
  | false => rfl
  | true =>
   exfalso
   apply h
   simp only [eqL, Bool.and_eq_true, decide_eq_true_eq, List.all_eq_true] at he
   have hl : x.length = y.length := by omega
   apply List.ext_getElem hl
   intro i h1 h2
   have := he.2 i (List.mem_range.2 h1)
   rw [a4e h1, a4e h2] at this
   simp only [a3n, decide_eq_true_eq] at this
   exact UInt8.toNat_inj.1 (by omega)
def a2A (l : List UInt8) : Nat := l.foldl (fun n x => n * 256 + x.toNat) 0
theorem b8a (l : List UInt8) (x : UInt8) : a2A (l ++ [x]) = a2A l * 256 + x.toNat := by simp [a2A]
theorem b5U {l : List UInt8} {k : Nat} (h : k < l.length) : l.take (k + 1) = l.take k ++ [l.getD (k : Int).toNat default] := by
 rw [List.take_add_one, List.getElem?_eq_getElem h, a4e h]; rfl
theorem b6s {l : List UInt8} {k : Nat} (h : k < l.length) : a2A (l.take (k + 1)) = a2A (l.take k) * 256 + (l.getD (k : Int).toNat default).toNat := by rw [b5U h, b8a]
theorem b3S (l : List UInt8) : a2A l < 256 ^ l.length := by
 have key : ∀ (n : Nat) (l : List UInt8), l.length = n → a2A l < 256 ^ n := by
  intro n
  induction n with
  | zero => intro l h; have : l = [] := List.eq_nil_of_length_eq_zero h; subst this; simp [a2A]
  | succ n ih =>
   intro l h
   have h1 := ih (l.take n) (by rw [List.length_take]; omega)
   have e : l = l.take n ++ [l.getD (n : Int).toNat default] := by rw [← b5U (by omega), List.take_of_length_le (by omega)]
   rw [e, b8a, Nat.pow_succ]
   have := (l.getD (n : Int).toNat default).toNat_lt
   omega
 exact key _ l rfl
theorem c0U {l : List UInt8} (h : l.length = 6) : be6 (a2A l) = l := by
 match l, h with
 | [a, b, c, d, e, f], _ =>
  have ha := a.toNat_lt; have hb := b.toNat_lt; have hc := c.toNat_lt; have hd := d.toNat_lt; have he := e.toNat_lt; have hf := f.toNat_lt
  have e1 : a2A [a, b, c, d, e, f] = ((((a.toNat * 256 + b.toNat) * 256 + c.toNat) * 256 + d.toNat) * 256 + e.toNat) * 256 + f.toNat := by simp [a2A]
  rw [e1]
  have r : List.range 6 = [0, 1, 2, 3, 4, 5] := rfl
  unfold be6
  rw [r]
  simp only [List.map_cons, List.map_nil, List.cons.injEq, and_true]
  refine ⟨?_, ?_, ?_, ?_, ?_, ?_⟩ <;> apply UInt8.toNat_inj.1 <;> simp <;> omega
def kOf (b : List UInt8) : a0S := if ((b.getD 0 default).toNat : Int) = 2 then (2, 0, a1u (b.drop 1)) else (((b.getD 0 default).toNat : Int), (a2A ((b.drop 1).take 6) : Int) - 1000000000000, a1u ((b.drop 1).drop 6))
def a2Y (b : List UInt8) : a0S × Bool :=
 if b.length = 0 then ((0, 0, ByteArray.empty), false)
 else if ¬ ((b.getD 0 default).toNat : Int) = 2 ∧ b.length < 7 then ((0, 0, ByteArray.empty), false)
 else if a1f (kOf b) = true then (kOf b, true) else ((0, 0, ByteArray.empty), false)
theorem b6V {b : List UInt8} (h : b.length ≠ 0) : b.getD 0 default :: b.drop 1 = b := by
 match b, h with
 | x :: xs, _ => rfl
theorem b5j (x : UInt8) : UInt8.ofNat ((x.toNat : Int)).toNat = x := by rw [Int.toNat_natCast]; simp
theorem c5Q {b : List UInt8} (h : b.length ≠ 0) (h7 : ((b.getD 0 default).toNat : Int) = 2 ∨ 7 ≤ b.length) : (a1o (kOf b) = b) ↔ a1f (kOf b) = true := by
 constructor
 ·intro e
  cases hk : a1f (kOf b) with
  | true => rfl
  | false => rw [a5R hk] at e; rw [← e] at h; simp at h
 ·intro hk
  by_cases h2 : ((b.getD 0 default).toNat : Int) = 2
  ·have e : kOf b = (((b.getD 0 default).toNat : Int), 0, a1u (b.drop 1)) := by rw [kOf, if_pos h2, h2]
   rw [e] at hk ⊢
   rw [b2p hk h2]
   simp only [b5j, a8f]
   exact b6V h
  ·have e : kOf b = (((b.getD 0 default).toNat : Int), (a2A ((b.drop 1).take 6) : Int) - 1000000000000, a1u ((b.drop 1).drop 6)) := by rw [kOf, if_neg h2]
   have h7' : 7 ≤ b.length := h7.resolve_left h2
   have hl : ((b.drop 1).take 6).length = 6 := by rw [List.length_take, List.length_drop]; omega
   rw [e] at hk ⊢
   rw [b0A (j := 6) hk h2 (Nat.le_refl _)]
   have e2 : keyN (((b.getD 0 default).toNat : Int), (a2A ((b.drop 1).take 6) : Int) - 1000000000000, a1u ((b.drop 1).drop 6)) = a2A ((b.drop 1).take 6) := by
    show ((a2A ((b.drop 1).take 6) : Int) - 1000000000000 + 1000000000000).toNat = _
    omega
   rw [e2, c0U hl, List.take_of_length_le (l := (b.drop 1).take 6) (i := 6) (by rw [hl]; exact Nat.le_refl _)]
   simp only [b5j, a8f]
   rw [List.cons_append, List.take_append_drop]
   exact b6V h
theorem a8z {b : List UInt8} (h : ((b.getD 0 default).toNat : Int) = 2) : (((b.getD (0 : Int).toNat default).toNat : Int), (0 : Int), a1u (b.drop 1)) = kOf b := by
 rw [kOf, if_pos h]
 show ((((b.getD 0 default).toNat : Int)), _, _) = _
 rw [h]
theorem a8V {b r : List UInt8} {acc : Nat} (h : ¬ ((b.getD 0 default).toNat : Int) = 2) (hf : acc = a2A ((b.drop (1 : Int).toNat).take (6 : Int).toNat)) (hr : r = (b.drop 1).drop 6) : (((b.getD (0 : Int).toNat default).toNat : Int), (acc : Int) - 1000000000000, a1u r) = kOf b := by
 subst hf; subst hr
 rw [kOf, if_neg h]; rfl
theorem b4u {b : List UInt8} (h : b.length = 0) : a2Y b = ((0, 0, ByteArray.empty), false) := by rw [a2Y, if_pos h]
theorem b5E {b : List UInt8} (h : ¬ ((b.getD 0 default).toNat : Int) = 2) (h7 : b.length < 7) : a2Y b = ((0, 0, ByteArray.empty), false) := by
 unfold a2Y
 split
 ·rfl
 ·rw [if_pos ⟨h, h7⟩]
theorem a9k {b : List UInt8} {k : a0S} (h : b.length ≠ 0) (h7 : ((b.getD 0 default).toNat : Int) = 2 ∨ 7 ≤ b.length) (hk : k = kOf b) (hi : a1f k = true) : a2Y b = (k, true) := by
 subst hk
 rw [a2Y, if_neg h, if_neg (by omega), if_pos hi]
theorem b2u {b : List UInt8} {k : a0S} (h : b.length ≠ 0) (h7 : ((b.getD 0 default).toNat : Int) = 2 ∨ 7 ≤ b.length) (hk : k = kOf b) (hi : a1f k = false) : a2Y b = ((0, 0, ByteArray.empty), false) := by
 subst hk
 rw [a2Y, if_neg h, if_neg (by omega), if_neg (by rw [hi]; simp)]
theorem b1D {b : List UInt8} {k : a0S} {c : Bool} (h : b.length ≠ 0) (h7 : ((b.getD 0 default).toNat : Int) = 2 ∨ 7 ≤ b.length) (hk : k = kOf b) (hc : (!eqL a3n (a1o k) b) = c) : a1f k = !c := by
 subst hk
 rw [b0o] at hc
 have := c5Q h h7
 cases hi : a1f (kOf b) with
 | true => rw [hi] at this; rw [← hc, decide_eq_true (this.2 rfl)]; rfl
 | false => rw [hi] at this; rw [← hc, decide_eq_false (fun e => absurd (this.1 e) (by simp))]; rfl
theorem b1b (x : UInt8) : IntKind.i64.wrap ((x.toNat : Nat) : Int) = ((x.toNat : Nat) : Int) := by
 have := x.toNat_lt
 rw [IntKind.wrap_i64]; omega
theorem c6a {b : List UInt8} {k : Nat} (hk : k < 6) (h7 : 7 ≤ b.length) : b.getD ((k : Int) + 1).toNat default = ((b.drop (1 : Int).toNat).take (6 : Int).toNat).getD (k : Int).toNat default := by
 rw [show ((k : Int) + 1).toNat = k + 1 by omega, Int.toNat_natCast, show (1 : Int).toNat = 1 from rfl, show (6 : Int).toNat = 6 from rfl]
 simp only [List.getD, List.getElem?_take, List.getElem?_drop]
 rw [if_pos hk, Nat.add_comm 1 k]
theorem b7C {a x : Nat} (hx : x < 256) (ha : a < 1099511627776) : bits .or .i64 ((a : Int) * 256) (x : Int) = ((a * 256 + x : Nat) : Int) := by
 have h3 := Nat.two_pow_add_eq_or_of_lt (i := 8) (by omega : x < 2 ^ 8) a
 rw [show (a : Int) * 256 = ((a * 256 : Nat) : Int) by omega, b5i (a * 256) x (by omega) (by omega), Nat.mul_comm a 256, show (256 : Nat) = 2 ^ 8 from rfl, ← h3]
theorem b7y {l : List UInt8} {k : Nat} (h : k < 6) : a2A (l.take k) < 1099511627776 := by
 have h1 := b3S (l.take k)
 have h2 : 256 ^ (l.take k).length ≤ 256 ^ 5 := Nat.pow_le_pow_right (by omega) (by rw [List.length_take]; omega)
 omega
theorem b7r {a : Nat} (h : a < 1099511627776) : IntKind.i64.wrap ((a : Int) * ((2 ^ (8 : Int).toNat : Nat) : Int)) = (a : Int) * 256 := by
 rw [show ((2 ^ (8 : Int).toNat : Nat) : Int) = 256 from rfl, IntKind.wrap_i64]; omega
theorem c4x {b : List UInt8} (hb : b.length ≤ 16777216) : PFn Tryz.prog 50 [.one (.dv [] (a0x (b)))] (.tup [(true, [(.dv [] (.int .i64 ((a2Y b).1.1))), (.dv [] (.int .i64 ((a2Y b).1.2.1))), (.dv [] (.str ((a2Y b).1.2.2)))]), (false, [(.dv [] (.bool ((a2Y b).2)))])]) := by
 refine ⟨a0v Tryz.func50 rfl Tryz.ntmps50 Tryz.results50 rfl (fun C => ?_)⟩
 refine a0E (x := .tmp 0) (a0a rfl) fun f0 => ?_
 iterate 10 refine z ?_
 refine yQ rfl (fun c1 => ?_) fun c1 => ?_
 ·have d1 := of_decide_eq_true c1
  refine z ?_
  refine yO rfl rfl (a1x hT hB rfl rfl rfl a1w) rfl ?_
  iterate 5 refine z ?_
  refine a1h (a0F hT rfl rfl rfl rfl) (a0i rfl) rfl rfl ?_
  rw [b4u (by omega)]
  rfl
 ·have d1 := of_decide_eq_false c1
  have hne : b.length ≠ 0 := by omega
  have hdl : (b.drop (1 : Int).toNat).length = b.length - 1 := List.length_drop ..
  iterate 6 refine z ?_
  refine yO rfl rfl (a3e (a4r hT rfl rfl rfl (a0a rfl)) (b1b _)) rfl ?_
  refine yO rfl rfl (a1x hT hB rfl rfl rfl (a1r (a0a rfl) rfl rfl rfl rfl rfl a1w)) rfl ?_
  iterate 5 refine z ?_
  refine yO rfl rfl (b0c hT rfl rfl rfl (a0a rfl) (a0p (a0o rfl)) (fun _ => rfl) (by omega) (by omega)) rfl ?_
  iterate 8 refine z ?_
  refine yQ rfl (fun c2 => ?_) fun c2 => ?_
  ·have d2 := a2D c2
   iterate 6 refine z ?_
   refine yQ rfl (fun c3 => ?_) fun c3 => ?_
   ·have d3 := of_decide_eq_true c3
    refine z ?_
    refine yO rfl rfl (a1x hT hB rfl rfl rfl a1w) rfl ?_
    iterate 6 refine z ?_
    refine a1h (a0F hT rfl rfl rfl rfl) (a0i rfl) rfl rfl ?_
    rw [b5E (show ¬ ((b.getD 0 default).toNat : Int) = 2 from d2) (by omega)]
    rfl
   ·have d3 := of_decide_eq_false c3
    have hxl : ((b.drop (1 : Int).toNat).take (6 : Int).toNat).length = 6 := by rw [List.length_take]; show min 6 (b.drop 1).length = 6; rw [List.length_drop]; omega
    iterate 8 refine z ?_
    refine yO rfl rfl (b3V hT rfl rfl rfl (a0a rfl) (a0p (a0o rfl)) (fun _ => rfl) (by omega) (by omega)) rfl ?_
    iterate 4 refine z ?_
    refine a0X (ι := Nat × Nat) (fun zz => ⟨[(0, .one (.dv [] (a0x (b)))), (2, .box 2 0), (3, .one (.dv [] (.bool (false)))), (4, .box 4 0), (5, .one (.dv [] (a0x (((b)).drop ((1 : Int)).toNat)))), (6, .one (.dv [] (.int .i64 ((zz.2 : Int))))), (28, .one (.dv [] (a0x (((((b)).drop ((1 : Int)).toNat)).take ((6 : Int)).toNat)))), (29, .one (.dv [] (.int .i64 ((((((((b)).drop ((1 : Int)).toNat)).take ((6 : Int)).toNat)).length : Int))))), (30, .one (.dv [] (.int .i64 ((zz.1 : Int)))))], [(2, 75, [(.dv [] (.int .i64 (0))), (.dv [] (.int .i64 (0))), (.dv [] (.str (ByteArray.empty)))]), (4, 75, [(.dv [] (.int .i64 (((b.getD (0 : Int).toNat default).toNat : Int)))), (.dv [] (.int .i64 (0))), (.dv [] (.str (ByteArray.empty)))])], []⟩) (fun zz => zz.1 ≤ 6 ∧ zz.2 = a2A (((b.drop (1 : Int).toNat).take (6 : Int).toNat).take zz.1)) (fun zz => 6 - zz.1) ((0, 0)) ?_ (a0e ⟨rfl, rfl, rfl, rfl, rfl, rfl, rfl, rfl, rfl, trivial⟩ ⟨rfl, rfl, trivial⟩ trivial rfl) (fun zz hx => ?_)
    ·exact ⟨Nat.zero_le _, rfl⟩
    obtain ⟨k, acc⟩ := zz
    replace hx : k ≤ 6 ∧ acc = a2A (((b.drop (1 : Int).toNat).take (6 : Int).toNat).take k) := hx
    obtain ⟨hk, ha⟩ := hx
    show Ok _ _ _ _ _ (⟨[(0, .one (.dv [] (a0x (b)))), (2, .box 2 0), (3, .one (.dv [] (.bool (false)))), (4, .box 4 0), (5, .one (.dv [] (a0x (((b)).drop ((1 : Int)).toNat)))), (6, .one (.dv [] (.int .i64 ((acc : Int))))), (28, .one (.dv [] (a0x (((((b)).drop ((1 : Int)).toNat)).take ((6 : Int)).toNat)))), (29, .one (.dv [] (.int .i64 ((((((((b)).drop ((1 : Int)).toNat)).take ((6 : Int)).toNat)).length : Int))))), (30, .one (.dv [] (.int .i64 ((k : Int)))))], [(2, 75, [(.dv [] (.int .i64 (0))), (.dv [] (.int .i64 (0))), (.dv [] (.str (ByteArray.empty)))]), (4, 75, [(.dv [] (.int .i64 (((b.getD (0 : Int).toNat default).toNat : Int)))), (.dv [] (.int .i64 (0))), (.dv [] (.str (ByteArray.empty)))])], []⟩ : St)
    iterate 3 refine z ?_
    refine a0q ?_
    refine yQ rfl (fun c4 => ?_) fun c4 => ?_
    ·have d4 := of_decide_eq_true c4
     have hk6 : k < 6 := by omega
     have hac : acc < 1099511627776 := by rw [ha]; exact b7y hk6
     have hst := b6s (l := ((b.drop (1 : Int).toNat).take (6 : Int).toNat)) (k := k) (by omega)
     rw [← ha] at hst
     have hxb := (((b.drop (1 : Int).toNat).take (6 : Int).toNat).getD (k : Int).toNat default).toNat_lt
     iterate 9 refine z ?_
     refine a0k ?_
     refine z ?_
     refine yO rfl rfl (a3e (b7p rfl (a0a rfl) (a0p (a0o rfl)) (by omega) (by show _ ≤ 64; omega)) (b7r hac)) rfl ?_
     refine z ?_
     refine yO rfl rfl (a3e (a4r hT rfl rfl rfl (a0a rfl)) (b1b _)) rfl ?_
     iterate 2 refine z ?_
     refine a1t ?_
     iterate 2 refine z ?_
     refine a0k ?_
     iterate 3 refine z ?_
     refine ⟨(k + 1, a2A (((b.drop (1 : Int).toNat).take (6 : Int).toNat).take (k + 1))), ?_, ?_, a0e ⟨rfl, rfl, rfl, rfl, rfl, (a2O (by omega)), rfl, rfl, rfl, trivial⟩ ⟨rfl, rfl, trivial⟩ trivial rfl⟩
     ·exact ⟨by dsimp only; omega, rfl⟩
     ·dsimp only; omega
    ·have d4 := of_decide_eq_false c4
     have hke : k = 6 := by omega
     have hfin : acc = a2A ((b.drop (1 : Int).toNat).take (6 : Int).toNat) := by rw [ha, List.take_of_length_le (by omega)]
     have hfb := b3S ((b.drop (1 : Int).toNat).take (6 : Int).toNat)
     rw [hxl, ← hfin] at hfb
     iterate 11 refine z ?_
     refine a0k ?_
     refine z ?_
     refine yO rfl rfl (b0c hT rfl rfl rfl (a0a rfl) (a0p (a0o rfl)) (fun _ => rfl) (by omega) (by omega)) rfl ?_
     iterate 4 refine z ?_
     refine yO rfl rfl (a4G hT rfl rfl rfl rfl (a0a rfl)) rfl ?_
     iterate 6 refine z ?_
     refine zK 49000 Tryz.call85 ?_ (hf := a7A (k := (((b.getD (0 : Int).toNat default).toNat : Int), (acc : Int) - 1000000000000, a1u ((b.drop 1).drop 6))))
     refine z ?_
     refine a3a rfl rfl rfl Tryz.call52 (b1g (x := a1o ((((b.getD (0 : Int).toNat default).toNat : Int), (((acc : Int)) - (1000000000000), a1u ((((((b)).drop ((1 : Int)).toNat)).drop ((6 : Int)).toNat)))))) (y := b) ) (a0g (a0a rfl) (a0D (a0Q rfl rfl)) (a0g (a0a rfl) (a0D a0c) a0m)) rfl rfl ?_
     iterate 2 refine z ?_
     refine yQ rfl (fun c5 => ?_) fun c5 => ?_
     ·refine z ?_
      refine yO rfl rfl (a1x hT hB rfl rfl rfl a1w) rfl ?_
      iterate 5 refine z ?_
      refine a1h (a0F hT rfl rfl rfl rfl) (a0i rfl) rfl rfl ?_
      rw [b2u (k := (((b.getD (0 : Int).toNat default).toNat : Int), (acc : Int) - 1000000000000, a1u ((b.drop 1).drop 6))) hne (.inr (by omega)) (a8V d2 hfin (by first | rfl | (rw [List.drop_drop]; rfl) | (rw [List.drop_drop]))) (b1D hne (.inr (by omega)) (a8V d2 hfin (by first | rfl | (rw [List.drop_drop]; rfl) | (rw [List.drop_drop]))) c5)]
      rfl
     ·iterate 8 refine z ?_
      refine a1h (a0F hT rfl rfl rfl rfl) (a0i rfl) rfl rfl ?_
      rw [a9k (k := (((b.getD (0 : Int).toNat default).toNat : Int), (acc : Int) - 1000000000000, a1u ((b.drop 1).drop 6))) hne (.inr (by omega)) (a8V d2 hfin (by first | rfl | (rw [List.drop_drop]; rfl) | (rw [List.drop_drop]))) (b1D hne (.inr (by omega)) (a8V d2 hfin (by first | rfl | (rw [List.drop_drop]; rfl) | (rw [List.drop_drop]))) c5)]
      rfl
  ·have d2 := a2E c2
   iterate 4 refine z ?_
   refine yO rfl rfl (a4G hT rfl rfl rfl rfl (a0a rfl)) rfl ?_
   iterate 6 refine z ?_
   refine zK 50000 Tryz.call85 ?_ (hf := a7A (k := (((b.getD (0 : Int).toNat default).toNat : Int), (0 : Int), a1u (b.drop 1))))
   refine z ?_
   refine a3a rfl rfl rfl Tryz.call52 (b1g (x := a1o ((((b.getD (0 : Int).toNat default).toNat : Int), (0, a1u ((((b)).drop ((1 : Int)).toNat)))))) (y := b) ) (a0g (a0a rfl) (a0D (a0Q rfl rfl)) (a0g (a0a rfl) (a0D a0c) a0m)) rfl rfl ?_
   iterate 2 refine z ?_
   refine yQ rfl (fun c6 => ?_) fun c6 => ?_
   ·refine z ?_
    refine yO rfl rfl (a1x hT hB rfl rfl rfl a1w) rfl ?_
    iterate 5 refine z ?_
    refine a1h (a0F hT rfl rfl rfl rfl) (a0i rfl) rfl rfl ?_
    have d2' : ((b.getD 0 default).toNat : Int) = 2 := by
     have h8 := c2
     rw [Bool.not_eq_false'] at h8
     exact of_decide_eq_true h8
    rw [b2u (k := (((b.getD (0 : Int).toNat default).toNat : Int), (0 : Int), a1u (b.drop 1))) hne (.inl d2') (a8z d2') (b1D hne (.inl d2') (a8z d2') c6)]
    rfl
   ·iterate 8 refine z ?_
    refine a1h (a0F hT rfl rfl rfl rfl) (a0i rfl) rfl rfl ?_
    have d2' : ((b.getD 0 default).toNat : Int) = 2 := by
     have h8 := c2
     rw [Bool.not_eq_false'] at h8
     exact of_decide_eq_true h8
    rw [a9k (k := (((b.getD (0 : Int).toNat default).toNat : Int), (0 : Int), a1u (b.drop 1))) hne (.inl d2') (a8z d2') (b1D hne (.inl d2') (a8z d2') c6)]
    rfl
theorem c1i {b : List UInt8} (hb : b.length ≤ 16777216) : PFn Tryz.prog 66 [.one (.dv [] (a0x (b)))] (.tup [(true, [(.dv [] (.int .i64 ((a2Y b).1.1))), (.dv [] (.int .i64 ((a2Y b).1.2.1))), (.dv [] (.str ((a2Y b).1.2.2)))]), (false, [(.dv [] (.bool ((a2Y b).2)))])]) := by
 refine ⟨a0v Tryz.func66 rfl Tryz.ntmps66 Tryz.results66 rfl (fun C => ?_)⟩
 refine a0E (x := .tmp 0) (a0a rfl) fun f0 => ?_
 iterate 10 refine z ?_
 refine yQ rfl (fun c1 => ?_) fun c1 => ?_
 ·have d1 := of_decide_eq_true c1
  refine z ?_
  refine yO rfl rfl (a1x hT hB rfl rfl rfl a1w) rfl ?_
  iterate 5 refine z ?_
  refine a1h (a0F hT rfl rfl rfl rfl) (a0i rfl) rfl rfl ?_
  rw [b4u (by omega)]
  rfl
 ·have d1 := of_decide_eq_false c1
  have hne : b.length ≠ 0 := by omega
  iterate 6 refine z ?_
  refine yO rfl rfl (a3e (a4r hT rfl rfl rfl (a0a rfl)) (b1b _)) rfl ?_
  refine yO rfl rfl (a1x hT hB rfl rfl rfl (a1r (a0a rfl) rfl rfl rfl rfl rfl a1w)) rfl ?_
  iterate 12 refine z ?_
  refine yQ rfl (fun c2 => ?_) fun c2 => ?_
  ·have d2 := a2D c2
   iterate 6 refine z ?_
   refine yQ rfl (fun c3 => ?_) fun c3 => ?_
   ·have d3 := of_decide_eq_true c3
    refine z ?_
    refine yO rfl rfl (a1x hT hB rfl rfl rfl a1w) rfl ?_
    iterate 6 refine z ?_
    refine a1h (a0F hT rfl rfl rfl rfl) (a0i rfl) rfl rfl ?_
    rw [b5E (show ¬ ((b.getD 0 default).toNat : Int) = 2 from d2) (by omega)]
    rfl
   ·have d3 := of_decide_eq_false c3
    have hxl : ((b.drop (1 : Int).toNat).take (6 : Int).toNat).length = 6 := by rw [List.length_take]; show min 6 (b.drop 1).length = 6; rw [List.length_drop]; omega
    iterate 10 refine z ?_
    refine a0X (ι := Nat × Nat) (fun zz => ⟨[(0, .one (.dv [] (a0x (b)))), (2, .box 2 0), (3, .one (.dv [] (.bool (false)))), (4, .box 4 0), (5, .one (.dv [] (.int .i64 (1)))), (6, .one (.dv [] (.int .i64 ((zz.2 : Int))))), (7, .one (.dv [] (.int .i64 (((zz.1 : Int) + 1)))))], [(2, 75, [(.dv [] (.int .i64 (0))), (.dv [] (.int .i64 (0))), (.dv [] (.str (ByteArray.empty)))]), (4, 75, [(.dv [] (.int .i64 (((b.getD (0 : Int).toNat default).toNat : Int)))), (.dv [] (.int .i64 (0))), (.dv [] (.str (ByteArray.empty)))])], []⟩) (fun zz => zz.1 ≤ 6 ∧ zz.2 = a2A (((b.drop (1 : Int).toNat).take (6 : Int).toNat).take zz.1)) (fun zz => 6 - zz.1) ((0, 0)) ?_ (a0e ⟨rfl, rfl, rfl, rfl, rfl, rfl, (a2O (by rfl)), trivial⟩ ⟨rfl, rfl, trivial⟩ trivial rfl) (fun zz hx => ?_)
    ·exact ⟨Nat.zero_le _, rfl⟩
    obtain ⟨k, acc⟩ := zz
    replace hx : k ≤ 6 ∧ acc = a2A (((b.drop (1 : Int).toNat).take (6 : Int).toNat).take k) := hx
    obtain ⟨hk, ha⟩ := hx
    show Ok _ _ _ _ _ (⟨[(0, .one (.dv [] (a0x (b)))), (2, .box 2 0), (3, .one (.dv [] (.bool (false)))), (4, .box 4 0), (5, .one (.dv [] (.int .i64 (1)))), (6, .one (.dv [] (.int .i64 ((acc : Int))))), (7, .one (.dv [] (.int .i64 (((k : Int) + 1)))))], [(2, 75, [(.dv [] (.int .i64 (0))), (.dv [] (.int .i64 (0))), (.dv [] (.str (ByteArray.empty)))]), (4, 75, [(.dv [] (.int .i64 (((b.getD (0 : Int).toNat default).toNat : Int)))), (.dv [] (.int .i64 (0))), (.dv [] (.str (ByteArray.empty)))])], []⟩ : St)
    iterate 5 refine z ?_
    refine yQ rfl (fun c4 => ?_) fun c4 => ?_
    ·have d4 := of_decide_eq_true c4
     have hk6 : k < 6 := by omega
     have hac : acc < 1099511627776 := by rw [ha]; exact b7y hk6
     have hst := b6s (l := ((b.drop (1 : Int).toNat).take (6 : Int).toNat)) (k := k) (by omega)
     rw [← ha] at hst
     have hxb := (((b.drop (1 : Int).toNat).take (6 : Int).toNat).getD (k : Int).toNat default).toNat_lt
     iterate 4 refine z ?_
     refine a0k ?_
     refine z ?_
     refine yO rfl rfl (a3e (b7p rfl (a0a rfl) (a0p (a0o rfl)) (by omega) (by show _ ≤ 64; omega)) (b7r hac)) rfl ?_
     iterate 4 refine z ?_
     refine yO rfl rfl (a3e (a4r hT rfl rfl rfl (a0a rfl)) (by rw [b1b, c6a hk6 (by omega)])) rfl ?_
     refine yO rfl rfl (a3e (b5b rfl (a0a rfl) (a0a rfl) rfl ((by rw [b7C hxb hac]; exact a2y (by omega) (by omega)))) (b7C hxb hac)) rfl ?_
     refine z ?_
     refine a1t ?_
     iterate 2 refine z ?_
     refine a0k ?_
     iterate 4 refine z ?_
     refine ⟨(k + 1, a2A (((b.drop (1 : Int).toNat).take (6 : Int).toNat).take (k + 1))), ?_, ?_, a0e ⟨rfl, rfl, rfl, rfl, rfl, (a2O (by omega)), (a2O (by omega)), trivial⟩ ⟨rfl, rfl, trivial⟩ trivial rfl⟩
     ·exact ⟨by dsimp only; omega, rfl⟩
     ·dsimp only; omega
    ·have d4 := of_decide_eq_false c4
     have hke : k = 6 := by omega
     have hfin : acc = a2A ((b.drop (1 : Int).toNat).take (6 : Int).toNat) := by rw [ha, List.take_of_length_le (by omega)]
     have hfb := b3S ((b.drop (1 : Int).toNat).take (6 : Int).toNat)
     rw [hxl, ← hfin] at hfb
     iterate 11 refine z ?_
     refine a0k ?_
     iterate 5 refine z ?_
     refine yO rfl rfl (b0c hT rfl rfl rfl (a0a rfl) (a0a rfl) (fun _ => rfl) (by omega) (by omega)) rfl ?_
     refine yO rfl rfl (a4G hT rfl rfl rfl rfl (a0a rfl)) rfl ?_
     iterate 6 refine z ?_
     refine zC Tryz.call105 ?_ (hf := a5g (k := (((b.getD (0 : Int).toNat default).toNat : Int), (acc : Int) - 1000000000000, a1u (b.drop 7))))
     iterate 2 refine z ?_
     refine yQ rfl (fun c5 => ?_) fun c5 => ?_
     ·refine z ?_
      refine yO rfl rfl (a1x hT hB rfl rfl rfl a1w) rfl ?_
      iterate 5 refine z ?_
      refine a1h (a0F hT rfl rfl rfl rfl) (a0i rfl) rfl rfl ?_
      rw [b2u (k := (((b.getD (0 : Int).toNat default).toNat : Int), (acc : Int) - 1000000000000, a1u (b.drop 7))) hne (.inr (by omega)) (a8V d2 hfin (by first | rfl | (rw [List.drop_drop]; rfl) | (rw [List.drop_drop]))) (by simpa using c5)]
      rfl
     ·iterate 8 refine z ?_
      refine a1h (a0F hT rfl rfl rfl rfl) (a0i rfl) rfl rfl ?_
      rw [a9k (k := (((b.getD (0 : Int).toNat default).toNat : Int), (acc : Int) - 1000000000000, a1u (b.drop 7))) hne (.inr (by omega)) (a8V d2 hfin (by first | rfl | (rw [List.drop_drop]; rfl) | (rw [List.drop_drop]))) (by simpa using c5)]
      rfl
  ·have d2 := a2E c2
   iterate 5 refine z ?_
   refine yO rfl rfl (b0c hT rfl rfl rfl (a0a rfl) (a0a rfl) (fun _ => rfl) (by omega) (by omega)) rfl ?_
   refine yO rfl rfl (a4G hT rfl rfl rfl rfl (a0a rfl)) rfl ?_
   iterate 6 refine z ?_
   refine zC Tryz.call105 ?_ (hf := a5g (k := (((b.getD (0 : Int).toNat default).toNat : Int), (0 : Int), a1u (b.drop 1))))
   iterate 2 refine z ?_
   refine yQ rfl (fun c6 => ?_) fun c6 => ?_
   ·refine z ?_
    refine yO rfl rfl (a1x hT hB rfl rfl rfl a1w) rfl ?_
    iterate 5 refine z ?_
    refine a1h (a0F hT rfl rfl rfl rfl) (a0i rfl) rfl rfl ?_
    have d2' : ((b.getD 0 default).toNat : Int) = 2 := by
     have h8 := c2
     rw [Bool.not_eq_false'] at h8
     exact of_decide_eq_true h8
    rw [b2u (k := (((b.getD (0 : Int).toNat default).toNat : Int), (0 : Int), a1u (b.drop 1))) hne (.inl d2') (a8z d2') (by simpa using c6)]
    rfl
   ·iterate 8 refine z ?_
    refine a1h (a0F hT rfl rfl rfl rfl) (a0i rfl) rfl rfl ?_
    have d2' : ((b.getD 0 default).toNat : Int) = 2 := by
     have h8 := c2
     rw [Bool.not_eq_false'] at h8
     exact of_decide_eq_true h8
    rw [a9k (k := (((b.getD (0 : Int).toNat default).toNat : Int), (0 : Int), a1u (b.drop 1))) hne (.inl d2') (a8z d2') (by simpa using c6)]
    rfl
def a2o (b : List UInt8) : Nat → Int → a0y → Option (a0y × Int)
 | 0, p, r => some (r, p)
 | n + 1, p, r => if (!(rdB b p 8).isSome || !uvK b (rbP (rdB b p 8))) = true then none else a2o b n (uvP b (rbP (rdB b p 8))) (r ++ [(a1u (a1G (rdB b p 8)), uvV b (rbP (rdB b p 8)))])
def l5R (b : List UInt8) (at0 : Int) : a0y × Int × Bool := if (!uvK b at0 || decide (6 < uvV b at0)) = true then ([], 0, false) else match a2o b (uvV b at0).toNat (uvP b at0) [] with
 | none => ([], 0, false)
 | some (r, p) => (r, p, a1j r)
def a3A (b : List UInt8) : a0y × Bool := if (!(l5R b 0).2.2 || !decide ((l5R b 0).2.1 = (b.length : Int))) = true then ([], false) else ((l5R b 0).1, true)
section
variable {b : List UInt8} {at0 p : Int} {r : a0y} {k n : Nat}
theorem b7Y (hk : k < n) (hc : (!(rdB b p 8).isSome || !uvK b (rbP (rdB b p 8))) = false) : a2o b (n - k) p r = a2o b (n - (k + 1)) (uvP b (rbP (rdB b p 8))) (r ++ [(a1u (a1G (rdB b p 8)), uvV b (rbP (rdB b p 8)))]) := by
 rw [show n - k = (n - (k + 1)) + 1 by omega, a2o, if_neg (by rw [hc]; simp)]
theorem b4s (hk : k < n) (hc : (!(rdB b p 8).isSome || !uvK b (rbP (rdB b p 8))) = true) : a2o b (n - k) p r = none := by
 rw [show n - k = (n - (k + 1)) + 1 by omega, a2o, if_pos hc]
theorem b4W (hk : ¬ k < n) : a2o b (n - k) p r = some (r, p) := by rw [show n - k = 0 by omega, a2o]
theorem b7I (h : (!uvK b at0 || decide (6 < uvV b at0)) = true) : l5R b at0 = ([], 0, false) := by rw [l5R, if_pos h]
theorem b3r (h : (!uvK b at0 || decide (6 < uvV b at0)) = false) (h2 : a2o b (uvV b at0).toNat (uvP b at0) [] = none) : l5R b at0 = ([], 0, false) := by rw [l5R, if_neg (by rw [h]; simp), h2]
theorem b1H (h : (!uvK b at0 || decide (6 < uvV b at0)) = false) (h2 : a2o b (uvV b at0).toNat (uvP b at0) [] = some (r, p)) : l5R b at0 = (r, p, a1j r) := by rw [l5R, if_neg (by rw [h]; simp), h2]
end
def a5s (f : a3c) : List UInt8 := uvL f.1.data.toList.length ++ (f.1.data.toList ++ uvL f.2.toNat)
def inF (f : a3c) : Prop := 0 ≤ f.2 ∧ f.2 ≤ 1000000000000 ∧ f.1.data.toList.length ≤ 1000000000000
theorem b6b {b : List UInt8} {off : Int} (h : uvK b off = true) : ∃ (q v k : Nat), rdU b off = some (v, k) ∧ off = (q : Int) ∧ uvV b off = (v : Int) ∧ uvP b off = ((q + k : Nat) : Int) ∧ b.drop q = uvL v ++ b.drop (q + k) ∧ q + k ≤ b.length ∧ v ≤ 1000000000000 := by
 unfold uvK at h
 obtain ⟨⟨v, k⟩, hr⟩ := Option.isSome_iff_exists.1 h
 obtain ⟨q, h1, h2, h3, h4, _⟩ := b9z hr
 refine ⟨q, v, k, hr, h1, ?_, ?_, h2, h3, h4⟩
 ·unfold uvV; rw [hr]
 ·unfold uvP; rw [hr, h1]; simp
theorem c5C {b : List UInt8} {off m : Int} (h : (rdB b off m).isSome = true) : ∃ (p q : Nat) (d : List UInt8), rdB b off m = some (d, q) ∧ off = (p : Int) ∧ b.drop p = uvL d.length ++ (d ++ b.drop q) ∧ q ≤ b.length ∧ (d.length : Int) ≤ m ∧ d.length ≤ 1000000000000 := by
 obtain ⟨⟨d, q⟩, hr⟩ := Option.isSome_iff_exists.1 h
 obtain ⟨p, h1, h2, h3, h4, h5, _⟩ := c7o hr
 exact ⟨p, q, d, hr, h1, h2, h3, h4, h5⟩
theorem b7L {b : List UInt8} : ∀ (n : Nat) (q : Nat) (r r' : a0y) (p' : Int), q ≤ b.length → a2o b n (q : Int) r = some (r', p') → ∃ (s : a0y) (q' : Nat), r' = r ++ s ∧ s.length = n ∧ p' = (q' : Int) ∧ b.drop q = s.flatMap a5s ++ b.drop q' ∧ q' ≤ b.length ∧ ∀ f ∈ s, inF f
 | 0, q, r, r', p', hq, h => by
  simp only [a2o, Option.some.injEq, Prod.mk.injEq] at h
  exact ⟨[], q, by simp [h.1], rfl, h.2.symm, by simp, hq, by simp⟩
 | n + 1, q, r, r', p', hq, h => by
  rw [a2o] at h
  split at h
  ·cases h
  ·rename_i hc
   simp only [Bool.or_eq_true, Bool.not_eq_true', not_or, Bool.not_eq_false] at hc
   obtain ⟨q0, q1, d, e1, e2, e3, e4, e5, e6⟩ := c5C hc.1
   have e0 : q0 = q := by omega
   subst e0
   rw [e1] at hc h
   simp only [rbP, a1G] at hc h
   obtain ⟨q2, v, k, g1, g2, g3, g4, g5, g6, g7⟩ := b6b hc.2
   have g0 : q2 = q1 := by omega
   subst g0
   rw [g3, g4] at h
   obtain ⟨s, q', s1, s2, s3, s4, s5, s6⟩ := b7L n (q2 + k) _ r' p' g6 h
   refine ⟨(a1u d, (v : Int)) :: s, q', by rw [s1]; simp, by simp [s2], s3, ?_, s5, ?_⟩
   ·rw [e3, g5, s4, List.flatMap_cons]
    simp only [a5s, a8f, Int.toNat_natCast, List.append_assoc]
   ·intro f hf
    rcases List.mem_cons.1 hf with rfl | hf
    ·exact ⟨by simp, by simp only; omega, by simp only [a8f]; exact e6⟩
    ·exact s6 f hf
theorem b2E {r : a0y} (hr : ∀ f ∈ r, inF f) (hl : r.length ≤ 1000000000000) : ∀ k, k ≤ r.length → a2K r k = uvL r.length ++ (r.take k).flatMap a5s
 | 0, _ => by rw [a2K, a7d (by omega)]; simp
 | k + 1, h => by
  have hk : k < r.length := by omega
  have hm : r.getD (k : Int).toNat default ∈ r := by rw [a4e hk]; exact List.getElem_mem hk
  obtain ⟨h1, h2, h3⟩ := hr _ hm
  rw [a2K, b2E hr hl k (by omega), a7d (n := ((r.getD (k : Int).toNat default).1.data.toList.length : Int)) (by omega), a7d ⟨h1, h2⟩]
  rw [List.take_add_one, List.getElem?_eq_getElem hk, ← a4e hk]
  simp only [Option.toList_some, List.flatMap_append, List.flatMap_cons, List.flatMap_nil, List.append_nil, a5s, List.append_assoc, Int.toNat_natCast]
theorem c0p {b : List UInt8} {r : a0y} {p : Int} (h : (!uvK b 0 || decide (6 < uvV b 0)) = false) (h2 : a2o b (uvV b 0).toNat (uvP b 0) [] = some (r, p)) : (a2b r = b) ↔ (a1j r = true ∧ p = (b.length : Int)) := by
 simp only [Bool.or_eq_false_iff, Bool.not_eq_false', decide_eq_false_iff_not] at h
 obtain ⟨q, v, k, g1, g2, g3, g4, g5, g6, g7⟩ := b6b h.1
 obtain rfl : q = 0 := by omega
 rw [g3, g4] at h2
 rw [g3] at h
 obtain ⟨s, q', s1, s2, s3, s4, s5, s6⟩ := b7L _ _ _ _ _ g6 h2
 rw [List.nil_append] at s1
 subst s1
 have s2' : r.length = v := by rw [s2]; omega
 have e : b = a2K r r.length ++ b.drop q' := by
  rw [b2E s6 (by omega) r.length (Nat.le_refl _), List.take_length, s2', List.append_assoc, ← s4, ← g5]; rfl
 have hne : b ≠ [] := by
  intro hb
  have := b0C v
  rw [hb] at g5
  have h9 := congrArg List.length g5
  simp only [List.drop_nil, List.length_append, List.length_nil] at h9
  omega
 constructor
 ·intro h3
  cases hr : a1j r with
  | false => rw [a9h hr] at h3; exact absurd h3.symm hne
  | true =>
   rw [a7n hr rfl] at h3
   refine ⟨rfl, ?_⟩
   have h9 := congrArg List.length e
   rw [h3, List.length_append, List.length_drop] at h9
   omega
 ·rintro ⟨hr, hp⟩
  have hq : b.drop q' = [] := List.drop_eq_nil_of_le (by omega)
  rw [a7n hr rfl]
  rw [hq, List.append_nil] at e
  exact e.symm
theorem c2k {b : List UInt8} (h : (!uvK b 0 || decide (6 < uvV b 0)) = true) : a3A b = ([], false) := by rw [a3A, b7I h]; rfl
theorem c6W {b : List UInt8} (h : (!uvK b 0 || decide (6 < uvV b 0)) = false) (h2 : a2o b (uvV b 0).toNat (uvP b 0) [] = none) : a3A b = ([], false) := by rw [a3A, b3r h h2]; rfl
theorem c7c {b : List UInt8} {r : a0y} {p : Int} (h : (!uvK b 0 || decide (6 < uvV b 0)) = false) (h2 : a2o b (uvV b 0).toNat (uvP b 0) [] = some (r, p)) (h3 : (!eqL a3n (a2b r) b) = true) : a3A b = ([], false) := by
 rw [b0o, Bool.not_eq_true', decide_eq_false_iff_not, c0p h h2] at h3
 rw [a3A, b1H h h2, if_pos]
 simp only [Bool.or_eq_true, Bool.not_eq_true', decide_eq_false_iff_not]
 cases hr : a1j r with
 | false => exact .inl rfl
 | true => exact .inr (fun e => h3 ⟨hr, e⟩)
theorem c8f {b : List UInt8} {r : a0y} {p : Int} (h : (!uvK b 0 || decide (6 < uvV b 0)) = false) (h2 : a2o b (uvV b 0).toNat (uvP b 0) [] = some (r, p)) (h3 : (!eqL a3n (a2b r) b) = false) : a3A b = (r, true) := by
 rw [b0o, Bool.not_eq_false', decide_eq_true_eq, c0p h h2] at h3
 rw [a3A, b1H h h2, if_neg]
 simp only [Bool.or_eq_true, Bool.not_eq_true', decide_eq_false_iff_not, not_or]
 exact ⟨by rw [h3.1]; simp, fun e => e h3.2⟩
theorem c7I {b : List UInt8} (hb : b.length ≤ 16777216) : KFn Tryz.prog 51 [.one (.dv [] (a0x (b)))] (.tup [(true, [(.key 9001)]), (false, [(.dv [] (.bool ((a3A b).2)))])]) [(9001, some (a0b false (a0w ((a3A b).1))))] := by
 refine ⟨a0v Tryz.func51 rfl Tryz.ntmps51 Tryz.results51 rfl (fun C => ?_)⟩
 refine a0E (x := .tmp 0) (a0a rfl) fun f0 => ?_
 iterate 6 refine z ?_
 refine zC Tryz.call48 ?_ (hf := b1G (b := b) (off := 0) (by omega))
 iterate 17 refine z ?_
 refine yQ rfl (fun c1 => ?_) fun c1 => ?_
 ·refine z ?_
  refine yO rfl rfl (a1x hT hB rfl rfl rfl a1w) rfl ?_
  iterate 3 refine z ?_
  rw [c2k c1]
  refine a0h (a4h 9001 (b := 2) (i := 0) (e := 128) (sz := 2) rfl rfl rfl rfl rfl) ?_
  refine a0h (σ' := ⟨[(2, .box 2 0), (3, .one (.dv [] (.bool (false))))], [(2, 78, [(.key 9001)])], [(9001, some (a0b false (a0w ([]))))]⟩) (a0e ⟨rfl, rfl, trivial⟩ ⟨rfl, trivial⟩ ⟨rfl, trivial⟩ rfl) ?_
  iterate 2 refine z ?_
  refine a1h (a0F hT rfl rfl rfl rfl) (a0i rfl) rfl rfl ?_
  first | exact ⟨rfl, rfl⟩ | skip
 ·have hub := a8P b 0
  have hn6 : uvV b 0 ≤ 6 := by have h8 := c1; simp only [Bool.or_eq_false_iff, decide_eq_false_iff_not] at h8; omega
  iterate 3 refine z ?_
  refine yO rfl rfl (a1x hT hB rfl rfl rfl a1w) rfl ?_
  iterate 3 refine z ?_
  refine a0q ?_
  refine a0q ?_
  refine a0h (a4h 9001 (b := 7) (i := 0) (e := 128) (sz := 2) rfl rfl rfl rfl rfl) ?_
  simp only [a0l, a0j, SV.kill, CV.kill, kk, Nat.reduceBEq]
  refine a0k ?_
  iterate 3 refine z ?_
  refine a0X (ι := Nat × Int × a0y) (fun zz => ⟨[(0, .one (.dv [] (a0x (b)))), (2, .box 2 0), (4, .one (.dv [] (.int .i64 (uvV (b) (0))))), (5, .one (.dv [] (.int .i64 (zz.2.1)))), (7, .box 7 0), (8, .one (.dv [] (.int .i64 ((zz.1 : Int)))))], [(2, 78, [.nil]), (7, 78, [(.key 9001)])], [(9001, some (a0b false (.sl 128 2 (zz.2.2.length) (zz.2.2.flatMap a1d))))]⟩) (fun zz => zz.1 ≤ (uvV b 0).toNat ∧ a2o b (uvV b 0).toNat (uvP b 0) [] = a2o b ((uvV b 0).toNat - zz.1) zz.2.1 zz.2.2 ∧ zz.2.2.length = zz.1) (fun zz => (uvV b 0).toNat - zz.1) ((0, uvP b 0, [])) ?_ (a0e ⟨rfl, rfl, rfl, rfl, rfl, rfl, trivial⟩ ⟨rfl, rfl, trivial⟩ ⟨rfl, trivial⟩ rfl) (fun zz hx => ?_)
  ·exact ⟨Nat.zero_le _, rfl, rfl⟩
  obtain ⟨k, p, r⟩ := zz
  replace hx : k ≤ (uvV b 0).toNat ∧ a2o b (uvV b 0).toNat (uvP b 0) [] = a2o b ((uvV b 0).toNat - k) p r ∧ r.length = k := hx
  obtain ⟨hk, hi, hl⟩ := hx
  show Ok _ _ _ _ _ (⟨[(0, .one (.dv [] (a0x (b)))), (2, .box 2 0), (4, .one (.dv [] (.int .i64 (uvV (b) (0))))), (5, .one (.dv [] (.int .i64 (p)))), (7, .box 7 0), (8, .one (.dv [] (.int .i64 ((k : Int)))))], [(2, 78, [.nil]), (7, 78, [(.key 9001)])], [(9001, some (a0b false (.sl 128 2 (r.length) (r.flatMap a1d))))]⟩ : St)
  iterate 6 refine z ?_
  refine yQ rfl (fun c2 => ?_) fun c2 => ?_
  ·have d2 := of_decide_eq_true c2
   have hk2 : k < (uvV b 0).toNat := by omega
   iterate 7 refine z ?_
   refine zK 700 Tryz.call47 ?_ (hf := a9M (b := b) (off := p) (m := 8) (by omega))
   iterate 11 refine z ?_
   refine zC Tryz.call48 ?_ (hf := b1G (b := b) (off := rbP (rdB b p 8)) (by omega))
   iterate 17 refine z ?_
   refine yQ rfl (fun c3 => ?_) fun c3 => ?_
   ·refine a0q ?_
    refine a0h (σ' := ⟨[(0, .one (.dv [] (a0x (b)))), (2, .box 2 0)], [(2, 78, [.nil])], []⟩) (a0e ⟨rfl, rfl, trivial⟩ ⟨rfl, trivial⟩ trivial rfl) ?_
    refine a0k ?_
    refine yO rfl rfl (a1x hT hB rfl rfl rfl a1w) rfl ?_
    iterate 3 refine z ?_
    rw [c6W c1 (hi.trans (b4s hk2 c3))]
    refine a0h (a4h 9001 (b := 2) (i := 0) (e := 128) (sz := 2) rfl rfl rfl rfl rfl) ?_
    refine a0h (σ' := ⟨[(2, .box 2 0), (3, .one (.dv [] (.bool (false))))], [(2, 78, [(.key 9001)])], [(9001, some (a0b false (a0w ([]))))]⟩) (a0e ⟨rfl, rfl, trivial⟩ ⟨rfl, trivial⟩ ⟨rfl, trivial⟩ rfl) ?_
    iterate 7 refine z ?_
    refine a1h (a0F hT rfl rfl rfl rfl) (a0i rfl) rfl rfl ?_
    first | exact ⟨rfl, rfl⟩ | skip
   ·have hc3 := c3
    iterate 6 refine z ?_
    refine yO rfl rfl (a4G (K := [700]) (e := 5) (xs := (a1G (rdB (b) (p) (8)))) hT rfl rfl rfl rfl (a6e (k := 700) (c := a0b false (a0x (a1G (rdB (b) (p) (8))))) (a0a rfl) rfl)) rfl ?_
    refine z ?_
    refine yO rfl rfl (a1x hT hB rfl rfl rfl (a1r (a0a rfl) rfl rfl rfl rfl rfl (a1r (a0a rfl) rfl rfl rfl rfl rfl a1w))) rfl ?_
    refine a3B (k := 61) (js := []) hT rfl rfl rfl rfl rfl rfl rfl rfl rfl (a0a rfl) rfl rfl (a0t (a0W rfl) (a0t (a0W rfl) a1m rfl) rfl) (by decide) (by decide) rfl rfl ?_
    simp only [a0l, a0j, SV.kill, CV.kill, kk, Nat.reduceBEq]
    refine a3l (k := 9001) (j := 61) (cs := (r ++ [(a1u (a1G (rdB b p 8)), uvV b (rbP (rdB b p 8)))]).flatMap a1d) (n := (r ++ [(a1u (a1G (rdB b p 8)), uvV b (rbP (rdB b p 8)))]).length) hT rfl rfl rfl rfl rfl rfl rfl (a0a rfl) rfl rfl rfl (a0a rfl) rfl rfl (by decide) (by dsimp only [a0b, KC.old]; omega) (by dsimp only [a0b, KC.old]; omega) (by rw [List.length_append]; rfl) (by rw [List.flatMap_append]; rfl) ?_
    simp only [a0l, a0j, SV.kill, CV.kill, kk, Nat.reduceBEq]
    iterate 3 refine z ?_
    refine a0k ?_
    iterate 2 refine z ?_
    refine a1t ?_
    iterate 2 refine z ?_
    refine a0k ?_
    iterate 4 refine z ?_
    refine ⟨(k + 1, uvP b (rbP (rdB b p 8)), (r ++ [(a1u (a1G (rdB b p 8)), uvV b (rbP (rdB b p 8)))])), ?_, ?_, a0e ⟨rfl, rfl, rfl, rfl, rfl, rfl, trivial⟩ ⟨rfl, rfl, trivial⟩ ⟨rfl, trivial⟩ rfl⟩
    ·exact ⟨by dsimp only; omega, hi.trans (b7Y hk2 hc3), by show (r ++ _).length = k + 1; rw [List.length_append, hl]; rfl⟩
    ·dsimp only; omega
  ·have d2 := of_decide_eq_false c2
   have hfe := hi.trans (b4W (by omega))
   iterate 8 refine z ?_
   refine a2J 300 rfl rfl rfl Tryz.call86 (a4O (r := r)) (a0g (a0a rfl) (a0s (a0d (a0Q rfl rfl) a0r)) a0m) rfl rfl rfl ?_
   refine z ?_
   refine a3a rfl rfl rfl Tryz.call52 (b1g (x := a2b (r)) (y := b) ) (a0g (a0a rfl) (a0D (a0Q rfl rfl)) (a0g (a0a rfl) (a0D a0c) a0m)) rfl rfl ?_
   iterate 2 refine z ?_
   refine yQ rfl (fun c4 => ?_) fun c4 => ?_
   ·refine a0q ?_
    refine a0h (σ' := ⟨[(0, .one (.dv [] (a0x (b)))), (2, .box 2 0)], [(2, 78, [.nil])], []⟩) (a0e ⟨rfl, rfl, trivial⟩ ⟨rfl, trivial⟩ trivial rfl) ?_
    refine a0k ?_
    refine yO rfl rfl (a1x hT hB rfl rfl rfl a1w) rfl ?_
    iterate 3 refine z ?_
    rw [c7c c1 hfe c4]
    refine a0h (a4h 9001 (b := 2) (i := 0) (e := 128) (sz := 2) rfl rfl rfl rfl rfl) ?_
    refine a0h (σ' := ⟨[(2, .box 2 0), (3, .one (.dv [] (.bool (false))))], [(2, 78, [(.key 9001)])], [(9001, some (a0b false (a0w ([]))))]⟩) (a0e ⟨rfl, rfl, trivial⟩ ⟨rfl, trivial⟩ ⟨rfl, trivial⟩ rfl) ?_
    iterate 2 refine z ?_
    refine a1h (a0F hT rfl rfl rfl rfl) (a0i rfl) rfl rfl ?_
    first | exact ⟨rfl, rfl⟩ | skip
   ·iterate 7 refine z ?_
    rw [c8f c1 hfe c4]
    refine a0h (σ' := ⟨[(2, .box 2 0), (3, .one (.dv [] (.bool (true))))], [(2, 78, [(.key 9001)])], [(9001, some (a0b false (a0w (r))))]⟩) (a0e ⟨rfl, rfl, trivial⟩ ⟨rfl, trivial⟩ ⟨rfl, trivial⟩ rfl) ?_
    refine z ?_
    refine a1h (a0F hT rfl rfl rfl rfl) (a0i rfl) rfl rfl ?_
    first | exact ⟨rfl, rfl⟩ | skip
theorem c4J {b : List UInt8} {at0 : Int} (hb : b.length ≤ 16777216) : KFn Tryz.prog 106 [.one (.dv [] (a0x (b))), .one (.dv [] (.int .i64 (at0)))] (.tup [(true, [(.key 9001)]), (false, [(.dv [] (.int .i64 ((l5R b at0).2.1)))]), (false, [(.dv [] (.bool ((l5R b at0).2.2)))])]) [(9001, some (a0b false (a0w ((l5R b at0).1))))] := by
 refine ⟨a0v Tryz.func106 rfl Tryz.ntmps106 Tryz.results106 rfl (fun C => ?_)⟩
 refine a0E (x := .tmp 0) (a0a rfl) fun f0 => ?_
 refine a0E (x := .tmp 1) (a0a rfl) fun f1 => ?_
 iterate 8 refine z ?_
 refine zC Tryz.call37 ?_ (hf := b1N (b := b) (off := at0) (by omega))
 iterate 17 refine z ?_
 refine yQ rfl (fun c1 => ?_) fun c1 => ?_
 ·refine z ?_
  refine yO rfl rfl (a1x hT hB rfl rfl rfl a1w) rfl ?_
  iterate 4 refine z ?_
  rw [b7I c1]
  refine a0h (a4h 9001 (b := 4) (i := 0) (e := 128) (sz := 2) rfl rfl rfl rfl rfl) ?_
  refine a0h (σ' := ⟨[(4, .box 4 0), (5, .one (.dv [] (.int .i64 (0)))), (6, .one (.dv [] (.bool (false))))], [(4, 78, [(.key 9001)])], [(9001, some (a0b false (a0w ([]))))]⟩) (a0e ⟨rfl, rfl, rfl, trivial⟩ ⟨rfl, trivial⟩ ⟨rfl, trivial⟩ rfl) ?_
  iterate 2 refine z ?_
  refine a1K (a0F hT rfl rfl rfl rfl) (a0i rfl) (a0i rfl) rfl rfl rfl ?_
  first | exact ⟨rfl, rfl⟩ | skip
 ·have hub := a8P b at0
  have hn6 : uvV b at0 ≤ 6 := by have h8 := c1; simp only [Bool.or_eq_false_iff, decide_eq_false_iff_not] at h8; omega
  iterate 3 refine z ?_
  refine yO rfl rfl (a1x hT hB rfl rfl rfl a1w) rfl ?_
  iterate 3 refine z ?_
  refine a0q ?_
  refine a0q ?_
  refine a0h (a4h 9001 (b := 10) (i := 0) (e := 128) (sz := 2) rfl rfl rfl rfl rfl) ?_
  simp only [a0l, a0j, SV.kill, CV.kill, kk, Nat.reduceBEq]
  refine a0k ?_
  iterate 3 refine z ?_
  refine a0X (ι := Nat × Int × a0y) (fun zz => ⟨[(0, .one (.dv [] (a0x (b)))), (4, .box 4 0), (7, .one (.dv [] (.int .i64 (uvV (b) (at0))))), (8, .one (.dv [] (.int .i64 (zz.2.1)))), (10, .box 10 0), (11, .one (.dv [] (.int .i64 ((zz.1 : Int)))))], [(4, 78, [.nil]), (10, 78, [(.key 9001)])], [(9001, some (a0b false (.sl 128 2 (zz.2.2.length) (zz.2.2.flatMap a1d))))]⟩) (fun zz => zz.1 ≤ (uvV b at0).toNat ∧ a2o b (uvV b at0).toNat (uvP b at0) [] = a2o b ((uvV b at0).toNat - zz.1) zz.2.1 zz.2.2 ∧ zz.2.2.length = zz.1) (fun zz => (uvV b at0).toNat - zz.1) ((0, uvP b at0, [])) ?_ (a0e ⟨rfl, rfl, rfl, rfl, rfl, rfl, trivial⟩ ⟨rfl, rfl, trivial⟩ ⟨rfl, trivial⟩ rfl) (fun zz hx => ?_)
  ·exact ⟨Nat.zero_le _, rfl, rfl⟩
  obtain ⟨k, p, r⟩ := zz
  replace hx : k ≤ (uvV b at0).toNat ∧ a2o b (uvV b at0).toNat (uvP b at0) [] = a2o b ((uvV b at0).toNat - k) p r ∧ r.length = k := hx
  obtain ⟨hk, hi, hl⟩ := hx
  show Ok _ _ _ _ _ (⟨[(0, .one (.dv [] (a0x (b)))), (4, .box 4 0), (7, .one (.dv [] (.int .i64 (uvV (b) (at0))))), (8, .one (.dv [] (.int .i64 (p)))), (10, .box 10 0), (11, .one (.dv [] (.int .i64 ((k : Int)))))], [(4, 78, [.nil]), (10, 78, [(.key 9001)])], [(9001, some (a0b false (.sl 128 2 (r.length) (r.flatMap a1d))))]⟩ : St)
  iterate 6 refine z ?_
  refine yQ rfl (fun c2 => ?_) fun c2 => ?_
  ·have d2 := of_decide_eq_true c2
   have hk2 : k < (uvV b at0).toNat := by omega
   iterate 7 refine z ?_
   refine zK 700 Tryz.call36 ?_ (hf := a9O (b := b) (off := p) (m := 8) (by omega))
   iterate 13 refine z ?_
   refine yQ rfl (fun c3 => ?_) fun c3 => ?_
   ·have hc3 : (!(rdB b p 8).isSome || !uvK b (rbP (rdB b p 8))) = true := by rw [c3]; rfl
    refine a0q ?_
    refine a0h (σ' := ⟨[(0, .one (.dv [] (a0x (b)))), (4, .box 4 0)], [(4, 78, [.nil])], []⟩) (a0e ⟨rfl, rfl, trivial⟩ ⟨rfl, trivial⟩ trivial rfl) ?_
    refine a0k ?_
    refine yO rfl rfl (a1x hT hB rfl rfl rfl a1w) rfl ?_
    iterate 4 refine z ?_
    rw [b3r c1 (hi.trans (b4s hk2 hc3))]
    refine a0h (a4h 9001 (b := 4) (i := 0) (e := 128) (sz := 2) rfl rfl rfl rfl rfl) ?_
    refine a0h (σ' := ⟨[(4, .box 4 0), (5, .one (.dv [] (.int .i64 (0)))), (6, .one (.dv [] (.bool (false))))], [(4, 78, [(.key 9001)])], [(9001, some (a0b false (a0w ([]))))]⟩) (a0e ⟨rfl, rfl, rfl, trivial⟩ ⟨rfl, trivial⟩ ⟨rfl, trivial⟩ rfl) ?_
    iterate 7 refine z ?_
    refine a1K (a0F hT rfl rfl rfl rfl) (a0i rfl) (a0i rfl) rfl rfl rfl ?_
    first | exact ⟨rfl, rfl⟩ | skip
   ·iterate 5 refine z ?_
    refine zC Tryz.call37 ?_ (hf := b1N (b := b) (off := rbP (rdB b p 8)) (by omega))
    iterate 13 refine z ?_
    refine yQ rfl (fun c4 => ?_) fun c4 => ?_
    ·have hc3 : (!(rdB b p 8).isSome || !uvK b (rbP (rdB b p 8))) = true := by rw [c4]; simp
     refine a0q ?_
     refine a0h (σ' := ⟨[(0, .one (.dv [] (a0x (b)))), (4, .box 4 0)], [(4, 78, [.nil])], []⟩) (a0e ⟨rfl, rfl, trivial⟩ ⟨rfl, trivial⟩ trivial rfl) ?_
     refine a0k ?_
     refine yO rfl rfl (a1x hT hB rfl rfl rfl a1w) rfl ?_
     iterate 4 refine z ?_
     rw [b3r c1 (hi.trans (b4s hk2 hc3))]
     refine a0h (a4h 9001 (b := 4) (i := 0) (e := 128) (sz := 2) rfl rfl rfl rfl rfl) ?_
     refine a0h (σ' := ⟨[(4, .box 4 0), (5, .one (.dv [] (.int .i64 (0)))), (6, .one (.dv [] (.bool (false))))], [(4, 78, [(.key 9001)])], [(9001, some (a0b false (a0w ([]))))]⟩) (a0e ⟨rfl, rfl, rfl, trivial⟩ ⟨rfl, trivial⟩ ⟨rfl, trivial⟩ rfl) ?_
     iterate 7 refine z ?_
     refine a1K (a0F hT rfl rfl rfl rfl) (a0i rfl) (a0i rfl) rfl rfl rfl ?_
     first | exact ⟨rfl, rfl⟩ | skip
    ·have hc3 : (!(rdB b p 8).isSome || !uvK b (rbP (rdB b p 8))) = false := by rw [c3, c4]; rfl
     iterate 6 refine z ?_
     refine yO rfl rfl (a4G (K := [700]) (e := 5) (xs := (a1G (rdB (b) (p) (8)))) hT rfl rfl rfl rfl (a6e (k := 700) (c := a0b false (a0x (a1G (rdB (b) (p) (8))))) (a0a rfl) rfl)) rfl ?_
     refine z ?_
     refine yO rfl rfl (a1x hT hB rfl rfl rfl (a1r (a0a rfl) rfl rfl rfl rfl rfl (a1r (a0a rfl) rfl rfl rfl rfl rfl a1w))) rfl ?_
     refine a3B (k := 64) (js := []) hT rfl rfl rfl rfl rfl rfl rfl rfl rfl (a0a rfl) rfl rfl (a0t (a0W rfl) (a0t (a0W rfl) a1m rfl) rfl) (by decide) (by decide) rfl rfl ?_
     simp only [a0l, a0j, SV.kill, CV.kill, kk, Nat.reduceBEq]
     refine a3l (k := 9001) (j := 64) (cs := (r ++ [(a1u (a1G (rdB b p 8)), uvV b (rbP (rdB b p 8)))]).flatMap a1d) (n := (r ++ [(a1u (a1G (rdB b p 8)), uvV b (rbP (rdB b p 8)))]).length) hT rfl rfl rfl rfl rfl rfl rfl (a0a rfl) rfl rfl rfl (a0a rfl) rfl rfl (by decide) (by dsimp only [a0b, KC.old]; omega) (by dsimp only [a0b, KC.old]; omega) (by rw [List.length_append]; rfl) (by rw [List.flatMap_append]; rfl) ?_
     simp only [a0l, a0j, SV.kill, CV.kill, kk, Nat.reduceBEq]
     iterate 3 refine z ?_
     refine a0k ?_
     iterate 2 refine z ?_
     refine a1t ?_
     iterate 2 refine z ?_
     refine a0k ?_
     iterate 4 refine z ?_
     refine ⟨(k + 1, uvP b (rbP (rdB b p 8)), (r ++ [(a1u (a1G (rdB b p 8)), uvV b (rbP (rdB b p 8)))])), ?_, ?_, a0e ⟨rfl, rfl, rfl, rfl, rfl, rfl, trivial⟩ ⟨rfl, rfl, trivial⟩ ⟨rfl, trivial⟩ rfl⟩
     ·exact ⟨by dsimp only; omega, hi.trans (b7Y hk2 hc3), by show (r ++ _).length = k + 1; rw [List.length_append, hl]; rfl⟩
     ·dsimp only; omega
  ·have d2 := of_decide_eq_false c2
   have hfe := hi.trans (b4W (by omega))
   iterate 5 refine z ?_
   refine a0q ?_
   refine b8l 4 [0, 1, 2, 3, 4] (oB := [10]) (oK := [9001]) (by kernel_rfl) rfl rfl ?_
   refine a4X 0 rfl (by kernel_rfl) rfl rfl (a6B hT rfl rfl (a0a rfl) rfl rfl) rfl rfl rfl rfl rfl ?_
   refine a4X 1 rfl (by kernel_rfl) rfl rfl (a2c (.inl rfl) (a0a rfl)) rfl rfl rfl rfl rfl ?_
   refine a4X 2 rfl (by kernel_rfl) rfl rfl (a6B hT rfl rfl (a0a rfl) rfl rfl) rfl rfl rfl rfl rfl ?_
   refine c4l 3 rfl (by kernel_rfl) rfl rfl rfl Tryz.call107 (a6g (r := r)) (a0g (a0a rfl) (a0s (a0d (a0Q rfl rfl) a0r)) a0m) rfl rfl rfl rfl rfl ?_
   refine b7G 4 rfl (by kernel_rfl) rfl hT rfl rfl rfl (a0a rfl) (a0a rfl) rfl rfl rfl rfl rfl rfl ?_
   refine b7v [5, 6] rfl rfl (by kernel_rfl) ?_
   iterate 3 refine z ?_
   rw [b1H c1 hfe]
   refine a0h (σ' := ⟨[(4, .box 4 0), (5, .one (.dv [] (.int .i64 (p)))), (6, .one (.dv [] (.bool (a1j (r)))))], [(4, 78, [(.key 9001)])], [(9001, some (a0b false (a0w (r))))]⟩) (a0e ⟨rfl, rfl, rfl, trivial⟩ ⟨rfl, trivial⟩ ⟨rfl, trivial⟩ rfl) ?_
   refine z ?_
   refine a1K (a0F hT rfl rfl rfl rfl) (a0i rfl) (a0i rfl) rfl rfl rfl ?_
   first | exact ⟨rfl, rfl⟩ | skip
theorem c0K {b : List UInt8} (hb : b.length ≤ 16777216) : KFn Tryz.prog 67 [.one (.dv [] (a0x (b)))] (.tup [(true, [(.key 9001)]), (false, [(.dv [] (.bool ((a3A b).2)))])]) [(9001, some (a0b false (a0w ((a3A b).1))))] := by
 refine ⟨a0v Tryz.func67 rfl Tryz.ntmps67 Tryz.results67 rfl (fun C => ?_)⟩
 refine a0E (x := .tmp 0) (a0a rfl) fun f0 => ?_
 iterate 6 refine z ?_
 refine zK 0 Tryz.call106 ?_ (hf := c4J (b := b) (at0 := 0) (by omega))
 iterate 20 refine z ?_
 refine yQ rfl (fun c1 => ?_) fun c1 => ?_
 ·refine a0q ?_
  refine a0h (σ' := ⟨[(0, .one (.dv [] (a0x (b)))), (2, .box 2 0), (3, .one (.dv [] (.bool (false))))], [(2, 78, [.nil])], []⟩) (a0e ⟨rfl, rfl, rfl, trivial⟩ ⟨rfl, trivial⟩ trivial rfl) ?_
  refine a0k ?_
  refine yO rfl rfl (a1x hT hB rfl rfl rfl a1w) rfl ?_
  iterate 3 refine z ?_
  rw [a3A, if_pos c1]
  refine a0h (a4h 9001 (b := 2) (i := 0) (e := 128) (sz := 2) rfl rfl rfl rfl rfl) ?_
  refine a0h (σ' := ⟨[(2, .box 2 0), (3, .one (.dv [] (.bool (false))))], [(2, 78, [(.key 9001)])], [(9001, some (a0b false (a0w ([]))))]⟩) (a0e ⟨rfl, rfl, trivial⟩ ⟨rfl, trivial⟩ ⟨rfl, trivial⟩ rfl) ?_
  iterate 2 refine z ?_
  refine a1h (a0F hT rfl rfl rfl rfl) (a0i rfl) rfl rfl ?_
  first | exact ⟨rfl, rfl⟩ | skip
 ·iterate 7 refine z ?_
  rw [a3A, if_neg (by rw [c1]; simp)]
  refine a0h (σ' := ⟨[(2, .box 2 0), (3, .one (.dv [] (.bool (true))))], [(2, 78, [(.key 9001)])], [(9001, some (a0b false (a0w ((l5R b 0).1))))]⟩) (a0e ⟨rfl, rfl, trivial⟩ ⟨rfl, trivial⟩ ⟨rfl, trivial⟩ rfl) ?_
  refine z ?_
  refine a1h (a0F hT rfl rfl rfl rfl) (a0i rfl) rfl rfl ?_
  first | exact ⟨rfl, rfl⟩ | skip
section
variable (b : List UInt8) (l1 l2 l3 l4 p : Int)
@[reducible] def ox1 : Option (List UInt8 × Nat) := rdB b (uvP b p) l1
@[reducible] def ox2 : Option (List UInt8 × Nat) := rdB b (rbP (ox1 b l1 p)) l2
@[reducible] def ox3 : Option (List UInt8 × Nat) := rdB b (rbP (ox2 b l1 l2 p)) l3
@[reducible] def ox4 : Option (List UInt8 × Nat) := rdB b (rbP (ox3 b l1 l2 l3 p)) l4
def a3p : Bool := (((!uvK b p || !(ox1 b l1 p).isSome) || !(ox2 b l1 l2 p).isSome) || !(ox3 b l1 l2 l3 p).isSome) || !(ox4 b l1 l2 l3 l4 p).isSome
@[reducible] def a6b : OpT := (uvV b p, a1u (a1G (ox1 b l1 p)), (a2Y (a1G (ox2 b l1 l2 p))).1, (a3A (a1G (ox3 b l1 l2 l3 p))).1, a1u (a1G (ox4 b l1 l2 l3 l4 p)))
def l9R : OpT × Int × Bool := if a3p b l1 l2 l3 l4 p = true then ((0, ByteArray.empty, (0, 0, ByteArray.empty), [], ByteArray.empty), 0, false) else (a6b b l1 l2 l3 l4 p, rbP (ox4 b l1 l2 l3 l4 p), true)
end
def a2Q (b : List UInt8) (l1 l2 l3 l4 : Int) : Nat → Int → List OpT → Option (List OpT)
 | 0, _, l => some l
 | n + 1, p, l => if a3p b l1 l2 l3 l4 p = true then none else a2Q b l1 l2 l3 l4 n (rbP (ox4 b l1 l2 l3 l4 p)) (l ++ [a6b b l1 l2 l3 l4 p])
def a3z (b : List UInt8) (l1 l2 l3 l4 : Int) : List OpT × Bool := if (!uvK b 0 || decide (6 < uvV b 0)) = true then ([], false) else match a2Q b l1 l2 l3 l4 (uvV b 0).toNat (uvP b 0) [] with
 | none => ([], false)
 | some l => if a1X l = b then (l, true) else ([], false)
def a2h (b : List UInt8) : List OpT × Bool := a3z b 100 100 200 100
section
variable {b : List UInt8} {l1 l2 l3 l4 p : Int} {k n : Nat} {l : List OpT}
theorem b6B (hk : k < n) (hc : a3p b l1 l2 l3 l4 p = false) : a2Q b l1 l2 l3 l4 (n - k) p l = a2Q b l1 l2 l3 l4 (n - (k + 1)) (rbP (ox4 b l1 l2 l3 l4 p)) (l ++ [a6b b l1 l2 l3 l4 p]) := by
 rw [show n - k = (n - (k + 1)) + 1 by omega, a2Q, if_neg (by rw [hc]; simp)]
theorem c5L (hk : k < n) (hc : a3p b l1 l2 l3 l4 p = false) : a2Q b l1 l2 l3 l4 (n - k) p l = a2Q b l1 l2 l3 l4 (n - (k + 1)) (l9R b l1 l2 l3 l4 p).2.1 (l ++ [(l9R b l1 l2 l3 l4 p).1]) := by
 rw [b6B hk hc, l9R, if_neg (by rw [hc]; simp)]
theorem a7K (hk : k < n) (hc : a3p b l1 l2 l3 l4 p = true) : a2Q b l1 l2 l3 l4 (n - k) p l = none := by
 rw [show n - k = (n - (k + 1)) + 1 by omega, a2Q, if_pos hc]
theorem b9U (hk : ¬ k < n) : a2Q b l1 l2 l3 l4 (n - k) p l = some l := by rw [show n - k = 0 by omega, a2Q]
theorem b5F (h : (!uvK b 0 || decide (6 < uvV b 0)) = true) : a3z b l1 l2 l3 l4 = ([], false) := by rw [a3z, if_pos h]
theorem a8o (h : (!uvK b 0 || decide (6 < uvV b 0)) = false) (h2 : a2Q b l1 l2 l3 l4 (uvV b 0).toNat (uvP b 0) [] = none) : a3z b l1 l2 l3 l4 = ([], false) := by rw [a3z, if_neg (by rw [h]; simp), h2]
theorem b9t (h : (!uvK b 0 || decide (6 < uvV b 0)) = false) (h2 : a2Q b l1 l2 l3 l4 (uvV b 0).toNat (uvP b 0) [] = some l) (h3 : (!eqL a3n (a1X l) b) = true) : a3z b l1 l2 l3 l4 = ([], false) := by
 rw [b0o, Bool.not_eq_true', decide_eq_false_iff_not] at h3
 rw [a3z, if_neg (by rw [h]; simp), h2]
 simp only
 rw [if_neg h3]
theorem b9A (h : (!uvK b 0 || decide (6 < uvV b 0)) = false) (h2 : a2Q b l1 l2 l3 l4 (uvV b 0).toNat (uvP b 0) [] = some l) (h3 : (!eqL a3n (a1X l) b) = false) : a3z b l1 l2 l3 l4 = (l, true) := by
 rw [b0o, Bool.not_eq_false', decide_eq_true_eq] at h3
 rw [a3z, if_neg (by rw [h]; simp), h2]
 simp only
 rw [if_pos h3]
end
def a5a (o : OpT) : List UInt8 := uvL o.1.toNat ++ (uvL o.2.1.data.toList.length ++ o.2.1.data.toList ++ (uvL (a1o o.2.2.1).length ++ a1o o.2.2.1 ++ (uvL (a2b o.2.2.2.1).length ++ a2b o.2.2.2.1 ++ (uvL o.2.2.2.2.data.toList.length ++ o.2.2.2.2.data.toList))))
def a4q (o : OpT) : OpT := (o.1, o.2.1, (a2Y (a1o o.2.2.1)).1, o.2.2.2.1, o.2.2.2.2)
theorem b9V {o : OpT} (h : a1E o = true) : o.2.1.data.toList.length ≤ 8 ∧ (a1o o.2.2.1).length ≤ 19 ∧ (a2b o.2.2.2.1).length ≤ 126 ∧ o.2.2.2.2.data.toList.length ≤ 8 ∧ 1 ≤ o.1 ∧ o.1 ≤ 6 ∧ a1j o.2.2.2.1 = true := by
 have h1 := b1r h
 have h2 := b1t o.2.2.1
 have h3 := b1p o.2.2.2.1
 simp only [a1E, Bool.and_eq_true, decide_eq_true_eq] at h
 exact ⟨h1.1, h2, h3, h1.2, h.1.1.1.1.1, h.1.1.1.1.2, h.1.2⟩
theorem c6l {B : List UInt8} {o : OpT} (h : a1E o = true) : a2N B o 4 = B ++ a5a o := by
 obtain ⟨h1, h2, h3, h4, h5, h6, _⟩ := b9V h
 have e : ∀ (X : List UInt8) (Y : List UInt8), Y.length ≤ 1000 → a9v X Y = X ++ (uvL Y.length ++ Y) := fun X Y hY => by rw [a9v, a7d (by omega), Int.toNat_natCast, List.append_assoc]
 have p0 : (a4B o).getD ((0 : Nat) : Int).toNat default = o.2.1.data.toList := rfl
 have p1 : (a4B o).getD ((1 : Nat) : Int).toNat default = a1o o.2.2.1 := rfl
 have p2 : (a4B o).getD ((2 : Nat) : Int).toNat default = a2b o.2.2.2.1 := rfl
 have p3 : (a4B o).getD ((3 : Nat) : Int).toNat default = o.2.2.2.2.data.toList := rfl
 rw [a2N, a2N, a2N, a2N, a2N, p0, p1, p2, p3, e _ _ (by omega), e _ _ (by omega), e _ _ (by omega), e _ _ (by omega), a7d (by omega)]
 simp only [a5a, List.append_assoc]
theorem b0Y {l : List OpT} (h : a2l l = true) : ∀ k, k ≤ l.length → a1B l k = uvL l.length ++ (l.take k).flatMap a5a
 | 0, _ => by
  have := b3Z h
  rw [a1B, a7d (by omega)]; simp
 | k + 1, hk => by
  have hk2 : k < l.length := by omega
  rw [a1B, b0Y h k (by omega), c6l (b8W h hk2), List.take_add_one, List.getElem?_eq_getElem hk2, ← a4e hk2]
  simp only [Option.toList_some, List.flatMap_append, List.flatMap_cons, List.flatMap_nil, List.append_nil, List.append_assoc]
theorem b1O {b : List UInt8} {off : Int} {v k : Nat} (h : rdU b off = some (v, k)) : uvK b off = true ∧ uvV b off = (v : Int) ∧ uvP b off = off + (k : Int) := by
 unfold uvK uvV uvP
 rw [h]
 exact ⟨rfl, rfl, rfl⟩
theorem b8G {b : List UInt8} : ∀ (s : a0y) (q : Nat) (r : a0y) (rest : List UInt8), (∀ f ∈ s, inF f ∧ f.1.data.toList.length ≤ 8) → q ≤ b.length → b.drop q = s.flatMap a5s ++ rest → ∃ q' : Nat, a2o b s.length (q : Int) r = some (r ++ s, (q' : Int)) ∧ b.drop q' = rest ∧ q' ≤ b.length
 | [], q, r, rest, _, hq, h => ⟨q, by simp [a2o], by simpa using h, hq⟩
 | f :: s, q, r, rest, hs, hq, h => by
  obtain ⟨⟨f1, f2, f3⟩, f4⟩ := hs f (by simp)
  rw [List.flatMap_cons] at h
  have h' : b.drop q = uvL f.1.data.toList.length ++ f.1.data.toList ++ (uvL f.2.toNat ++ (s.flatMap a5s ++ rest)) := by rw [h, a5s]; simp only [List.append_assoc]
  obtain ⟨g1, g2, g3⟩ := b0d (m := 8) h' (by omega) (by omega)
  obtain ⟨k1, k2, k3⟩ := a9E g2 (by omega)
  obtain ⟨u1, u2, u3⟩ := b1O k1
  obtain ⟨q', r1, r2, r3⟩ := b8G s _ (r ++ [f]) rest (fun g hg => hs g (by simp [hg])) k3 k2
  refine ⟨q', ?_, r2, r3⟩
  have eP : rbP (rdB b (q : Int) 8) = ((q + (uvL f.1.data.toList.length).length + f.1.data.toList.length : Nat) : Int) := by rw [g1]; rfl
  have eH : a1G (rdB b (q : Int) 8) = f.1.data.toList := by rw [g1]; rfl
  rw [List.length_cons, a2o, eP, eH, u1, u2, u3, if_neg (by rw [g1]; simp), b1z, show ((f.2.toNat : Nat) : Int) = f.2 by omega]
  have : ((q + (uvL f.1.data.toList.length).length + f.1.data.toList.length : Nat) : Int) + ((uvL f.2.toNat).length : Int) = ((q + (uvL f.1.data.toList.length).length + f.1.data.toList.length + (uvL f.2.toNat).length : Nat) : Int) := by omega
  rw [this, r1]
  simp
theorem c0J {r : a0y} (h : a1j r = true) : a3A (a2b r) = (r, true) := by
 have hl : r.length ≤ 6 := by
  have h0 := h
  simp only [a1j, Bool.and_eq_true, decide_eq_true_eq] at h0; omega
 have hf : ∀ f ∈ r, inF f ∧ f.1.data.toList.length ≤ 8 := fun f hm => by
  obtain ⟨i, hi, rfl⟩ := List.mem_iff_getElem.1 hm
  have h1 := a9l h hi
  rw [a4e hi] at h1
  have h2 := (a6X h1.1).2
  have h3 : r[i].1.data.toList.length ≤ 8 := h2
  exact ⟨⟨h1.2.1, by omega, by omega⟩, h3⟩
 have e : a2b r = uvL r.length ++ r.flatMap a5s := by
  rw [a7n h rfl, b2E (fun f hm => (hf f hm).1) (by omega) r.length (Nat.le_refl _), List.take_length]
 obtain ⟨b, hb⟩ : ∃ b, b = a2b r := ⟨_, rfl⟩
 rw [← hb]
 rw [← hb] at e
 have e0 : b.drop 0 = uvL r.length ++ r.flatMap a5s := by rw [e]; rfl
 obtain ⟨k1, k2, k3⟩ := a9E e0 (by omega)
 obtain ⟨u1, u2, u3⟩ := b1O k1
 have e2 : b.drop (0 + (uvL r.length).length) = r.flatMap a5s ++ [] := by rw [k2, List.append_nil]
 obtain ⟨q', r1, r2, r3⟩ := b8G r _ [] [] hf k3 e2
 have hc : (!uvK b 0 || decide (6 < uvV b 0)) = false := by
  have u1' : uvK b 0 = true := u1
  have u2' : uvV b 0 = (r.length : Int) := u2
  rw [u1', u2', decide_eq_false (by omega)]; rfl
 have h2 : a2o b (uvV b 0).toNat (uvP b 0) [] = some (r, (q' : Int)) := by
  have u2' : uvV b 0 = (r.length : Int) := u2
  have u3' : uvP b 0 = ((0 + (uvL r.length).length : Nat) : Int) := by rw [show uvP b 0 = ((0 : Nat) : Int) + ((uvL r.length).length : Int) from u3]; omega
  rw [u2', u3', Int.toNat_natCast, r1, List.nil_append]
 have hq : q' = b.length := by
  have := congrArg List.length r2
  rw [List.length_drop, List.length_nil] at this; omega
 rw [a3A, b1H hc h2, if_neg]
 simp only [Bool.or_eq_true, Bool.not_eq_true', decide_eq_false_iff_not, not_or]
 exact ⟨by rw [h]; simp, fun e => e (by omega)⟩
theorem c6y {b : List UInt8} {q : Nat} {o : OpT} {rest : List UInt8} {l1 l2 l3 l4 : Int} (ho : a1E o = true) (h : b.drop q = a5a o ++ rest) (m1 : ∀ n : Nat, n ≤ 19 → n ≤ b.length → (n : Int) ≤ l1 ∧ (n : Int) ≤ l2 ∧ (n : Int) ≤ l4) (m3 : ∀ n : Nat, n ≤ 126 → n ≤ b.length → (n : Int) ≤ l3) :
  a3p b l1 l2 l3 l4 (q : Int) = false ∧ a6b b l1 l2 l3 l4 (q : Int) = a4q o ∧ ∃ q' : Nat, rbP (ox4 b l1 l2 l3 l4 (q : Int)) = (q' : Int) ∧ b.drop q' = rest ∧ q' ≤ b.length := by
 obtain ⟨h1, h2, h3, h4, h5, h6, h7⟩ := b9V ho
 rw [a5a] at h
 simp only [List.append_assoc] at h
 obtain ⟨k1, k2, k3⟩ := a9E h (by omega)
 obtain ⟨u1, u2, u3⟩ := b1O k1
 have d2 := k2
 rw [← List.append_assoc] at d2
 have n1 : o.2.1.data.toList.length ≤ b.length := by have := congrArg List.length k2; simp only [List.length_drop, List.length_append] at this; omega
 obtain ⟨a1, a2, a3⟩ := b0d (m := l1) d2 (by omega) (m1 _ (by omega) n1).1
 have d3 := a2
 rw [← List.append_assoc] at d3
 have n2 : (a1o o.2.2.1).length ≤ b.length := by have := congrArg List.length a2; simp only [List.length_drop, List.length_append] at this; omega
 obtain ⟨b1, b2, b3⟩ := b0d (m := l2) d3 (by omega) (m1 _ (by omega) n2).2.1
 have d4 := b2
 rw [← List.append_assoc] at d4
 have n3 : (a2b o.2.2.2.1).length ≤ b.length := by have := congrArg List.length b2; simp only [List.length_drop, List.length_append] at this; omega
 obtain ⟨c1, c2, c3⟩ := b0d (m := l3) d4 (by omega) (m3 _ (by omega) n3)
 have d5 := c2
 rw [← List.append_assoc] at d5
 have n4 : o.2.2.2.2.data.toList.length ≤ b.length := by have := congrArg List.length c2; simp only [List.length_drop, List.length_append] at this; omega
 obtain ⟨e1, e2, e3⟩ := b0d (m := l4) d5 (by omega) (m1 _ (by omega) n4).2.2
 have x1 : ox1 b l1 (q : Int) = rdB b ((q + (uvL o.1.toNat).length : Nat) : Int) l1 := by
  show rdB b (uvP b (q : Int)) l1 = _
  rw [u3, show (q : Int) + ((uvL o.1.toNat).length : Int) = ((q + (uvL o.1.toNat).length : Nat) : Int) by omega]
 rw [a1] at x1
 have x2 : ox2 b l1 l2 (q : Int) = rdB b (rbP (ox1 b l1 (q : Int))) l2 := rfl
 rw [x1, show ∀ (d : List UInt8) (n : Nat), rbP (some (d, n)) = (n : Int) from fun _ _ => rfl, b1] at x2
 have x3 : ox3 b l1 l2 l3 (q : Int) = rdB b (rbP (ox2 b l1 l2 (q : Int))) l3 := rfl
 rw [x2, show ∀ (d : List UInt8) (n : Nat), rbP (some (d, n)) = (n : Int) from fun _ _ => rfl, c1] at x3
 have x4 : ox4 b l1 l2 l3 l4 (q : Int) = rdB b (rbP (ox3 b l1 l2 l3 (q : Int))) l4 := rfl
 rw [x3, show ∀ (d : List UInt8) (n : Nat), rbP (some (d, n)) = (n : Int) from fun _ _ => rfl, e1] at x4
 refine ⟨?_, ?_, ⟨_, ?_, e2, e3⟩⟩
 ·unfold a3p
  rw [x1, x2, x3, x4, u1]; rfl
 ·unfold a6b
  rw [x1, x2, x3, x4, u2]
  simp only [a1G, b1z, c0J h7, a4q]
  rw [show ((o.1.toNat : Nat) : Int) = o.1 by omega]
 ·rw [x4]; rfl
theorem c0y {b : List UInt8} {l1 l2 l3 l4 : Int} (m1 : ∀ n : Nat, n ≤ 19 → n ≤ b.length → (n : Int) ≤ l1 ∧ (n : Int) ≤ l2 ∧ (n : Int) ≤ l4) (m3 : ∀ n : Nat, n ≤ 126 → n ≤ b.length → (n : Int) ≤ l3) : ∀ (s : List OpT) (q : Nat) (l : List OpT), (∀ o ∈ s, a1E o = true) → b.drop q = s.flatMap a5a → a2Q b l1 l2 l3 l4 s.length (q : Int) l = some (l ++ s.map a4q)
 | [], q, l, _, _ => by simp [a2Q]
 | o :: s, q, l, hs, h => by
  rw [List.flatMap_cons] at h
  obtain ⟨g1, g2, q', g3, g4, _⟩ := c6y (hs o (by simp)) h m1 m3
  rw [List.length_cons, a2Q, g1, g2, g3, if_neg (by simp), c0y m1 m3 s q' _ (fun x hx => hs x (by simp [hx])) g4]
  simp
theorem c5R {n : Nat} (h : n < 281474976710656) : a2A (be6 n) = n := by
 have r : List.range 6 = [0, 1, 2, 3, 4, 5] := rfl
 unfold be6
 rw [r]
 simp [a2A]
 omega
theorem c7x {k : a0S} (h : a1f k = true) : a2Y (a1o k) = (k, true) := by
 have hr := a6N h
 have hb0 : (((a1o k).getD 0 default).toNat : Int) = k.1 := by
  rw [a1o, if_pos h]
  simp only [List.cons_append, List.getD_cons_zero]
  rw [show (UInt8.ofNat k.1.toNat).toNat = k.1.toNat % 256 by simp]
  omega
 have hne : (a1o k).length ≠ 0 := by rw [a1o, if_pos h]; simp
 have h7 : (((a1o k).getD 0 default).toNat : Int) = 2 ∨ 7 ≤ (a1o k).length := by
  rw [hb0]
  by_cases h2 : k.1 = 2
  ·exact .inl h2
  ·right
   rw [a1o, if_pos h, if_neg h2]
   simp only [List.length_append, List.length_cons, a6D]; omega
 have hk : k = kOf (a1o k) := by
  rw [kOf]
  by_cases h2 : k.1 = 2
  ·rw [if_pos (by rw [hb0, h2])]
   have e : a1o k = UInt8.ofNat k.1.toNat :: k.2.2.data.toList := by rw [a1o, if_pos h, if_pos h2]; rfl
   have h0 : k.2.1 = 0 := by
    have h9 := h
    simp only [a1f, Bool.and_eq_true, h2] at h9
    have h10 := h9.1.2
    simpa using h10
   rw [e, List.drop_succ_cons, List.drop_zero, b1z]
   obtain ⟨a, b, c⟩ := k
   simp only at h2 h0 ⊢
   rw [h2, h0]
  ·rw [if_neg (by rw [hb0]; exact h2), hb0]
   have e : (a1o k).drop 1 = be6 (keyN k) ++ k.2.2.data.toList := by rw [a1o, if_pos h, if_neg h2]; rfl
   rw [e, List.take_left' (a6D _), List.drop_left' (a6D _), b1z, c5R (by unfold keyN; omega)]
   have : ((keyN k : Nat) : Int) - 1000000000000 = k.2.1 := by unfold keyN; omega
   rw [this]
 exact a9k hne h7 hk h
theorem b6I {o : OpT} : a5a (a4q o) = a5a o ∧ (a1E o = true → a1E (a4q o) = true) := by
 cases hi : a1f o.2.2.1 with
 | false =>
  have e : a2Y (a1o o.2.2.1) = ((0, 0, ByteArray.empty), false) := by rw [a5R hi]; exact b4u rfl
  refine ⟨?_, fun h => ?_⟩
  ·simp only [a5a, a4q, e, a5R hi]
   rw [a5R (by decide)]
  ·simp only [a1E, a4q, Bool.and_eq_true, Bool.or_eq_true, hi] at h ⊢
   refine ⟨⟨⟨h.1.1.1, ?_⟩, h.1.2⟩, h.2⟩
   rcases h.1.1.2 with h1 | h1
   ·exact .inl h1
   ·cases h1
 | true =>
  have e : a4q o = o := by rw [a4q, c7x hi]
  rw [e]
  exact ⟨rfl, fun h => h⟩
theorem b5q {l : List OpT} (h : a2l l = true) : a2l (l.map a4q) = true := by
 simp only [a2l, Bool.and_eq_true, List.all_eq_true, decide_eq_true_eq] at h ⊢
 refine ⟨fun x hx => ?_, by rw [List.length_map]; exact h.2⟩
 obtain ⟨o, ho, rfl⟩ := List.mem_map.1 hx
 exact b6I.2 (h.1 o ho)
theorem c3G {l : List OpT} (h : a2l l = true) : a1X (l.map a4q) = a1X l := by
 rw [a6q (b5q h) rfl, a6q h rfl, b0Y (b5q h) _ (Nat.le_refl _), b0Y h _ (Nat.le_refl _), List.take_length, List.take_length, List.length_map]
 congr 1
 induction l with
 | nil => rfl
 | cons o l ih =>
  rw [List.map_cons, List.flatMap_cons, List.flatMap_cons, b6I.1, ih]
  simp only [a2l, Bool.and_eq_true, List.all_eq_true, decide_eq_true_eq, List.length_cons] at h ⊢
  exact ⟨fun x hx => h.1 x (by simp [hx]), by omega⟩
theorem b9j {l : List OpT} (h : a2l l = true) {l1 l2 l3 l4 : Int} (m1 : ∀ n : Nat, n ≤ 19 → n ≤ (a1X l).length → (n : Int) ≤ l1 ∧ (n : Int) ≤ l2 ∧ (n : Int) ≤ l4) (m3 : ∀ n : Nat, n ≤ 126 → n ≤ (a1X l).length → (n : Int) ≤ l3) : a3z (a1X l) l1 l2 l3 l4 = (l.map a4q, true) := by
 have hl := b3Z h
 have e : a1X l = uvL l.length ++ l.flatMap a5a := by rw [a6q h rfl, b0Y h _ (Nat.le_refl _), List.take_length]
 obtain ⟨b, hb⟩ : ∃ b, b = a1X l := ⟨_, rfl⟩
 have hn := c3G h
 rw [← hb] at m1 m3 e hn ⊢
 have e0 : b.drop 0 = uvL l.length ++ l.flatMap a5a := by rw [e]; rfl
 obtain ⟨k1, k2, k3⟩ := a9E e0 (by omega)
 obtain ⟨u1, u2, u3⟩ := b1O k1
 have u1' : uvK b 0 = true := u1
 have u2' : uvV b 0 = (l.length : Int) := u2
 have u3' : uvP b 0 = ((0 + (uvL l.length).length : Nat) : Int) := by rw [show uvP b 0 = ((0 : Nat) : Int) + ((uvL l.length).length : Int) from u3]; omega
 have ho : ∀ o ∈ l, a1E o = true := fun o ho => by
  simp only [a2l, Bool.and_eq_true, List.all_eq_true] at h
  exact h.1 o ho
 have r1 := c0y m1 m3 l _ [] ho k2
 rw [a3z, if_neg (by rw [u1', u2', decide_eq_false (by omega)]; simp), u2', u3', Int.toNat_natCast, r1]
 simp only [List.nil_append]
 rw [if_pos hn]
theorem b8M {b : List UInt8} {l1 l2 l3 l4 : Int} {l : List OpT} (h : a3z b l1 l2 l3 l4 = (l, true)) : a2l l = true ∧ a1X l = b := by
 unfold a3z at h
 split at h
 ·cases h
 ·rename_i hc
  split at h
  ·cases h
  ·rename_i l' h2
   split at h
   ·rename_i h3
    simp only [Prod.mk.injEq, and_true] at h
    subst h
    refine ⟨?_, h3⟩
    cases ha : a2l l' with
    | true => rfl
    | false =>
     rw [a7W ha] at h3
     subst h3
     exfalso
     apply hc
     have : uvK [] 0 = false := rfl
     rw [this]; rfl
   ·cases h
theorem b9J (b : List UInt8) (l1 l2 l3 l4 : Int) : a3z b l1 l2 l3 l4 = ([], false) ∨ ∃ l, a3z b l1 l2 l3 l4 = (l, true) := by
 unfold a3z
 split
 ·exact .inl rfl
 ·split
  ·exact .inl rfl
  ·split
   ·exact .inr ⟨_, rfl⟩
   ·exact .inl rfl
theorem c2O {l : List OpT} (h : a2l l = true) : a2h (a1X l) = (l.map a4q, true) := b9j h (fun n h1 _ => by omega) (fun n h1 _ => by omega)
theorem b9H {l : List OpT} (h : a2l l = true) : a3z (a1X l) ((a1X l).length : Int) ((a1X l).length : Int) ((a1X l).length : Int) ((a1X l).length : Int) = (l.map a4q, true) := b9j h (fun n _ h1 => by omega) (fun n _ h1 => by omega)
theorem c3Y (b : List UInt8) : a3z b (b.length : Int) (b.length : Int) (b.length : Int) (b.length : Int) = a2h b := by
 rcases b9J b (b.length : Int) (b.length : Int) (b.length : Int) (b.length : Int) with h1 | ⟨l, h1⟩
 ·rcases b9J b 100 100 200 100 with h2 | ⟨l, h2⟩
  ·rw [h1, a2h, h2]
  ·obtain ⟨h3, h4⟩ := b8M h2
   subst h4
   rw [b9H h3] at h1; simp at h1
 ·obtain ⟨h3, h4⟩ := b8M h1
  subst h4
  rw [b9H h3, c2O h3]
theorem c5p {b : List UInt8} {p : Int} (hb : b.length ≤ 16777216) : KFn Tryz.prog 39 [.one (.dv [] (a0x (b))), .one (.dv [] (.int .i64 (p)))] (.tup [(true, [(.dv [] (.int .i64 ((l9R b 100 100 200 100 p).1.1))), (.dv [] (.str ((l9R b 100 100 200 100 p).1.2.1))), (.dv [] (.int .i64 ((l9R b 100 100 200 100 p).1.2.2.1.1))), (.dv [] (.int .i64 ((l9R b 100 100 200 100 p).1.2.2.1.2.1))), (.dv [] (.str ((l9R b 100 100 200 100 p).1.2.2.1.2.2))), (.key 9001), (.dv [] (.str ((l9R b 100 100 200 100 p).1.2.2.2.2)))]), (false, [(.dv [] (.int .i64 ((l9R b 100 100 200 100 p).2.1)))]), (false, [(.dv [] (.bool ((l9R b 100 100 200 100 p).2.2)))])]) [(9001, some (a0b false (a0w ((l9R b 100 100 200 100 p).1.2.2.2.1))))] := by
 refine ⟨a0v Tryz.func39 rfl Tryz.ntmps39 Tryz.results39 rfl (fun C => ?_)⟩
 refine a0E (x := .tmp 0) (a0a rfl) fun f0 => ?_
 refine a0E (x := .tmp 1) (a0a rfl) fun f1 => ?_
 iterate 8 refine z ?_
 refine zC Tryz.call37 ?_ (hf := b1N (b := b) (off := p) (by omega))
 iterate 11 refine z ?_
 refine zK 701 Tryz.call36 ?_ (hf := a9O (b := b) (off := uvP b p) (m := 100) (by omega))
 iterate 11 refine z ?_
 refine zK 702 Tryz.call36 ?_ (hf := a9O (b := b) (off := rbP (ox1 b (100) p)) (m := 100) (by omega))
 iterate 11 refine z ?_
 refine zK 703 Tryz.call36 ?_ (hf := a9O (b := b) (off := rbP (ox2 b (100) (100) p)) (m := 200) (by omega))
 iterate 11 refine z ?_
 refine zK 704 Tryz.call36 ?_ (hf := a9O (b := b) (off := rbP (ox3 b (100) (100) (200) p)) (m := 100) (by omega))
 iterate 29 refine z ?_
 refine yQ rfl (fun c1 => ?_) fun c1 => ?_
 ·refine z ?_
  refine yO rfl rfl (a1x hT hB rfl rfl rfl a1w) rfl ?_
  iterate 4 refine z ?_
  rw [l9R, if_pos (show a3p b 100 100 200 100 p = true from c1)]
  refine a0h (a4h 9001 (b := 4) (i := 5) (e := 128) (sz := 2) rfl rfl rfl rfl rfl) ?_
  refine a0h (σ' := ⟨[(4, .box 4 0), (5, .one (.dv [] (.int .i64 (0)))), (6, .one (.dv [] (.bool (false))))], [(4, 80, [(.dv [] (.int .i64 (0))), (.dv [] (.str (ByteArray.empty))), (.dv [] (.int .i64 (0))), (.dv [] (.int .i64 (0))), (.dv [] (.str (ByteArray.empty))), (.key 9001), (.dv [] (.str (ByteArray.empty)))])], [(9001, some (a0b false (a0w ([]))))]⟩) (a0e ⟨rfl, rfl, rfl, trivial⟩ ⟨rfl, trivial⟩ ⟨rfl, trivial⟩ rfl) ?_
  iterate 2 refine z ?_
  refine a1K (a0F hT rfl rfl rfl rfl) (a0i rfl) (a0i rfl) rfl rfl rfl ?_
  first | exact ⟨rfl, rfl⟩ | skip
 ·iterate 5 refine z ?_
  refine yO rfl rfl (a4G (K := [701]) (e := 5) (xs := (a1G (rdB (b) (uvP b p) (100)))) hT rfl rfl rfl rfl (a6e (k := 701) (c := a0b false (a0x (a1G (rdB (b) (uvP b p) (100))))) (a0a rfl) rfl)) rfl ?_
  refine z ?_
  refine yO rfl rfl (a4G (K := [704]) (e := 5) (xs := (a1G (rdB (b) (rbP (ox3 b (100) (100) (200) p)) (100)))) hT rfl rfl rfl rfl (a6e (k := 704) (c := a0b false (a0x (a1G (rdB (b) (rbP (ox3 b (100) (100) (200) p)) (100))))) (a0a rfl) rfl)) rfl ?_
  refine yO rfl rfl (a1x hT hB rfl rfl rfl (a1r (a0a rfl) rfl rfl rfl rfl rfl (a1r (a0a rfl) rfl rfl rfl rfl rfl (a1r (a0a rfl) rfl rfl rfl rfl rfl a1w)))) rfl ?_
  iterate 5 refine z ?_
  refine a3a rfl rfl rfl Tryz.call66 (c1i (b := a1G (ox2 b (100) (100) p)) (by have := (a8g b (rbP (ox1 b (100) p)) 100).2.2; exact Nat.le_trans this (by omega))) (a0g (a0a rfl) (a0D (a0Q rfl rfl)) a0m) rfl rfl ?_
  iterate 9 refine z ?_
  refine a2J 0 rfl rfl rfl Tryz.call67 (c0K (b := a1G (ox3 b (100) (100) (200) p)) (by have := (a8g b (rbP (ox2 b (100) (100) p)) 200).2.2; exact Nat.le_trans this (by omega))) (a0g (a0a rfl) (a0D (a0Q rfl rfl)) a0m) rfl rfl rfl ?_
  iterate 24 refine z ?_
  rw [l9R, if_neg (by rw [show a3p b 100 100 200 100 p = false from c1]; simp)]
  refine a0h (σ' := ⟨[(4, .box 4 0), (5, .one (.dv [] (.int .i64 (rbP (rdB (b) (rbP (ox3 b (100) (100) (200) p)) (100)))))), (6, .one (.dv [] (.bool (true))))], [(4, 80, [(.dv [] (.int .i64 (uvV (b) (p)))), (.dv [] (.str (a1u ((a1G (rdB (b) (uvP b p) (100))))))), (.dv [] (.int .i64 ((a2Y (a1G (ox2 b (100) (100) p))).1.1))), (.dv [] (.int .i64 ((a2Y (a1G (ox2 b (100) (100) p))).1.2.1))), (.dv [] (.str ((a2Y (a1G (ox2 b (100) (100) p))).1.2.2))), (.key 9001), (.dv [] (.str (a1u ((a1G (rdB (b) (rbP (ox3 b (100) (100) (200) p)) (100)))))))])], [(9001, some (a0b false (a0w ((a3A (a1G (ox3 b (100) (100) (200) p))).1))))]⟩) (a0e ⟨rfl, rfl, rfl, trivial⟩ ⟨rfl, trivial⟩ ⟨rfl, trivial⟩ rfl) ?_
  refine z ?_
  refine a1K (a0F hT rfl rfl rfl rfl) (a0i rfl) (a0i rfl) rfl rfl rfl ?_
  first | exact ⟨rfl, rfl⟩ | skip
theorem c8a {b : List UInt8} (hb : b.length ≤ 16777216) : KFn Tryz.prog 17 [.one (.dv [] (a0x (b)))] (.tup [(false, [(.key 95000)]), (false, [(.dv [] (.bool ((a2h b).2)))])]) [(95000, some (a0b false (a1T ((a2h b).1))))] := by
 refine ⟨a0v Tryz.func17 rfl Tryz.ntmps17 Tryz.results17 rfl (fun C => ?_)⟩
 refine a0E (x := .tmp 0) (a0a rfl) fun f0 => ?_
 iterate 6 refine z ?_
 refine zC Tryz.call37 ?_ (hf := b1N (b := b) (off := 0) (by omega))
 iterate 17 refine z ?_
 refine yQ rfl (fun c1 => ?_) fun c1 => ?_
 ·refine z ?_
  refine a2f (k := 95000) hT rfl rfl rfl rfl rfl rfl rfl rfl ?_
  iterate 3 refine z ?_
  rw [a2h, b5F c1]
  refine a0h (σ' := ⟨[(2, .one (.key 95000)), (3, .one (.dv [] (.bool (false))))], [], [(95000, some (a0b false (a1T ([]))))]⟩) (a0e ⟨rfl, rfl, trivial⟩ trivial ⟨rfl, trivial⟩ rfl) ?_
  iterate 2 refine z ?_
  refine a1h (a0i rfl) (a0i rfl) rfl rfl ?_
  first | exact ⟨rfl, rfl⟩ | skip
 ·have hub := a8P b 0
  have hn6 : uvV b 0 ≤ 6 := by have h8 := c1; simp only [Bool.or_eq_false_iff, decide_eq_false_iff_not] at h8; omega
  iterate 3 refine z ?_
  refine a2f (k := 95000) hT rfl rfl rfl rfl rfl rfl rfl rfl ?_
  iterate 7 refine z ?_
  refine a0X (ι := Nat × Int × List OpT) (fun zz => ⟨[(0, .one (.dv [] (a0x (b)))), (4, .one (.dv [] (.int .i64 (uvV (b) (0))))), (5, .one (.dv [] (.int .i64 (zz.2.1)))), (7, .one (.key 95000)), (8, .one (.dv [] (.int .i64 ((zz.1 : Int)))))], [], [(95000, some (a0b false (.sl 80 7 (zz.2.2.length) (zz.2.2.flatMap eOp))))]⟩) (fun zz => zz.1 ≤ (uvV b 0).toNat ∧ a2Q b (100) (100) (200) (100) (uvV b 0).toNat (uvP b 0) [] = a2Q b (100) (100) (200) (100) ((uvV b 0).toNat - zz.1) zz.2.1 zz.2.2 ∧ zz.2.2.length = zz.1) (fun zz => (uvV b 0).toNat - zz.1) ((0, uvP b 0, [])) ?_ (a0e ⟨rfl, rfl, rfl, rfl, rfl, trivial⟩ trivial ⟨rfl, trivial⟩ rfl) (fun zz hx => ?_)
  ·exact ⟨Nat.zero_le _, rfl, rfl⟩
  obtain ⟨k, p, l⟩ := zz
  replace hx : k ≤ (uvV b 0).toNat ∧ a2Q b (100) (100) (200) (100) (uvV b 0).toNat (uvP b 0) [] = a2Q b (100) (100) (200) (100) ((uvV b 0).toNat - k) p l ∧ l.length = k := hx
  obtain ⟨hk, hi, hl⟩ := hx
  show Ok _ _ _ _ _ (⟨[(0, .one (.dv [] (a0x (b)))), (4, .one (.dv [] (.int .i64 (uvV (b) (0))))), (5, .one (.dv [] (.int .i64 (p)))), (7, .one (.key 95000)), (8, .one (.dv [] (.int .i64 ((k : Int)))))], [], [(95000, some (a0b false (.sl 80 7 (l.length) (l.flatMap eOp))))]⟩ : St)
  iterate 6 refine z ?_
  refine yQ rfl (fun c2 => ?_) fun c2 => ?_
  ·have d2 := of_decide_eq_true c2
   have hk2 : k < (uvV b 0).toNat := by omega
   iterate 7 refine z ?_
   refine zK 90000 Tryz.call39 ?_ (hf := c5p (b := b) (p := p) (by omega))
   iterate 14 refine z ?_
   refine yQ rfl (fun c3 => ?_) fun c3 => ?_
   ·have hc3 : a3p b 100 100 200 100 p = true := by
     cases h9 : a3p b 100 100 200 100 p with
     | true => rfl
     | false => rw [l9R, if_neg (by rw [h9]; simp)] at c3; cases c3
    refine a0q ?_
    refine a0h (σ' := ⟨[(0, .one (.dv [] (a0x (b))))], [], []⟩) (a0e ⟨rfl, trivial⟩ trivial trivial rfl) ?_
    refine a0k ?_
    refine a2f (k := 95000) hT rfl rfl rfl rfl rfl rfl rfl rfl ?_
    iterate 3 refine z ?_
    rw [a2h, a8o c1 (hi.trans (a7K hk2 hc3))]
    refine a0h (σ' := ⟨[(2, .one (.key 95000)), (3, .one (.dv [] (.bool (false))))], [], [(95000, some (a0b false (a1T ([]))))]⟩) (a0e ⟨rfl, rfl, trivial⟩ trivial ⟨rfl, trivial⟩ rfl) ?_
    iterate 7 refine z ?_
    refine a1h (a0i rfl) (a0i rfl) rfl rfl ?_
    first | exact ⟨rfl, rfl⟩ | skip
   ·have hc3 : a3p b 100 100 200 100 p = false := by
     cases h9 : a3p b 100 100 200 100 p with
     | false => rfl
     | true => rw [l9R, if_pos h9] at c3; cases c3
    have hv9 : l9R b 100 100 200 100 p = (a6b b 100 100 200 100 p, rbP (ox4 b 100 100 200 100 p), true) := by rw [l9R, if_neg (by rw [hc3]; simp)]
    iterate 5 refine z ?_
    refine a3B (k := 43) (js := [99001]) hT rfl rfl rfl rfl rfl rfl rfl rfl rfl (a0a rfl) rfl rfl (a0t (a0W rfl) (a0t (a0W rfl) (a0t (a0W rfl) (a0t (a0W rfl) (a0t (a0W rfl) (a0t (a1i rfl) (a0t (a0W rfl) a1m rfl) rfl) rfl) rfl) rfl) rfl) rfl) (by decide) (by decide) rfl rfl ?_
    simp only [a0l, a0j, SV.kill, CV.kill, kk, Nat.reduceBEq]
    refine a3l (k := 95000) (j := 43) (cs := (l ++ [(l9R b 100 100 200 100 p).1]).flatMap eOp) (n := (l ++ [(l9R b 100 100 200 100 p).1]).length) hT rfl rfl rfl rfl rfl rfl rfl (a0a rfl) rfl rfl rfl (a0a rfl) rfl rfl (by decide) (by dsimp only [a0b, KC.old]; omega) (by dsimp only [a0b, KC.old]; omega) (by rw [List.length_append]; rfl) (by rw [List.flatMap_append]; rfl) ?_
    simp only [a0l, a0j, SV.kill, CV.kill, kk, Nat.reduceBEq]
    iterate 2 refine z ?_
    refine a0k ?_
    iterate 2 refine z ?_
    refine a1t ?_
    iterate 2 refine z ?_
    refine a0k ?_
    iterate 4 refine z ?_
    refine ⟨(k + 1, (l9R b 100 100 200 100 p).2.1, l ++ [(l9R b 100 100 200 100 p).1]), ?_, ?_, a0e ⟨rfl, rfl, rfl, rfl, rfl, trivial⟩ trivial ⟨rfl, trivial⟩ rfl⟩
    ·exact ⟨by dsimp only; omega, hi.trans (c5L hk2 hc3), by show (l ++ _).length = k + 1; rw [List.length_append, hl]; rfl⟩
    ·dsimp only; omega
  ·have d2 := of_decide_eq_false c2
   have hfe := hi.trans (b9U (by omega))
   iterate 8 refine z ?_
   refine a2J 47000 rfl rfl rfl Tryz.call41 (c2J (l := l) (by omega)) (a0g (a0a rfl) (a0D (a0Q rfl rfl)) a0m) rfl rfl rfl ?_
   refine z ?_
   refine a3a rfl rfl rfl Tryz.call40 (c2D (x := a1X (l)) (y := b) ) (a0g (a0a rfl) (a0D (a0Q rfl rfl)) (a0g (a0a rfl) (a0D a0c) a0m)) rfl rfl ?_
   iterate 2 refine z ?_
   refine yQ rfl (fun c4 => ?_) fun c4 => ?_
   ·refine a0q ?_
    refine a0h (σ' := ⟨[(0, .one (.dv [] (a0x (b))))], [], []⟩) (a0e ⟨rfl, trivial⟩ trivial trivial rfl) ?_
    refine a0k ?_
    refine a2f (k := 95000) hT rfl rfl rfl rfl rfl rfl rfl rfl ?_
    iterate 3 refine z ?_
    rw [a2h, b9t c1 hfe c4]
    refine a0h (σ' := ⟨[(2, .one (.key 95000)), (3, .one (.dv [] (.bool (false))))], [], [(95000, some (a0b false (a1T ([]))))]⟩) (a0e ⟨rfl, rfl, trivial⟩ trivial ⟨rfl, trivial⟩ rfl) ?_
    iterate 2 refine z ?_
    refine a1h (a0i rfl) (a0i rfl) rfl rfl ?_
    first | exact ⟨rfl, rfl⟩ | skip
   ·iterate 7 refine z ?_
    rw [a2h, b9A c1 hfe c4]
    refine a0h (σ' := ⟨[(2, .one (.key 95000)), (3, .one (.dv [] (.bool (true))))], [], [(95000, some (a0b false (a1T (l))))]⟩) (a0e ⟨rfl, rfl, trivial⟩ trivial ⟨rfl, trivial⟩ rfl) ?_
    refine z ?_
    refine a1h (a0i rfl) (a0i rfl) rfl rfl ?_
    first | exact ⟨rfl, rfl⟩ | skip
theorem c5K {b : List UInt8} (hb : b.length ≤ 16777216) : KFn Tryz.prog 23 [.one (.dv [] (a0x (b)))] (.tup [(false, [(.key 95000)]), (false, [(.dv [] (.bool ((a2h b).2)))])]) [(95000, some (a0b false (a1T ((a2h b).1))))] := by
 refine ⟨a0v Tryz.func23 rfl Tryz.ntmps23 Tryz.results23 rfl (fun C => ?_)⟩
 rw [← c3Y]
 refine a0E (x := .tmp 0) (a0a rfl) fun f0 => ?_
 iterate 6 refine z ?_
 refine zC Tryz.call48 ?_ (hf := b1G (b := b) (off := 0) (by omega))
 iterate 17 refine z ?_
 refine yQ rfl (fun c1 => ?_) fun c1 => ?_
 ·refine z ?_
  refine a2f (k := 95000) hT rfl rfl rfl rfl rfl rfl rfl rfl ?_
  iterate 3 refine z ?_
  rw [b5F c1]
  refine a0h (σ' := ⟨[(2, .one (.key 95000)), (3, .one (.dv [] (.bool (false))))], [], [(95000, some (a0b false (a1T ([]))))]⟩) (a0e ⟨rfl, rfl, trivial⟩ trivial ⟨rfl, trivial⟩ rfl) ?_
  iterate 2 refine z ?_
  refine a1h (a0i rfl) (a0i rfl) rfl rfl ?_
  first | exact ⟨rfl, rfl⟩ | skip
 ·have hub := a8P b 0
  have hn6 : uvV b 0 ≤ 6 := by have h8 := c1; simp only [Bool.or_eq_false_iff, decide_eq_false_iff_not] at h8; omega
  iterate 3 refine z ?_
  refine a2f (k := 95000) hT rfl rfl rfl rfl rfl rfl rfl rfl ?_
  iterate 7 refine z ?_
  refine a0X (ι := Nat × Int × List OpT) (fun zz => ⟨[(0, .one (.dv [] (a0x (b)))), (4, .one (.dv [] (.int .i64 (uvV (b) (0))))), (5, .one (.dv [] (.int .i64 (zz.2.1)))), (7, .one (.key 95000)), (8, .one (.dv [] (.int .i64 ((zz.1 : Int)))))], [], [(95000, some (a0b false (.sl 80 7 (zz.2.2.length) (zz.2.2.flatMap eOp))))]⟩) (fun zz => zz.1 ≤ (uvV b 0).toNat ∧ a2Q b (((b).length : Int)) (((b).length : Int)) (((b).length : Int)) (((b).length : Int)) (uvV b 0).toNat (uvP b 0) [] = a2Q b (((b).length : Int)) (((b).length : Int)) (((b).length : Int)) (((b).length : Int)) ((uvV b 0).toNat - zz.1) zz.2.1 zz.2.2 ∧ zz.2.2.length = zz.1) (fun zz => (uvV b 0).toNat - zz.1) ((0, uvP b 0, [])) ?_ (a0e ⟨rfl, rfl, rfl, rfl, rfl, trivial⟩ trivial ⟨rfl, trivial⟩ rfl) (fun zz hx => ?_)
  ·exact ⟨Nat.zero_le _, rfl, rfl⟩
  obtain ⟨k, p, l⟩ := zz
  replace hx : k ≤ (uvV b 0).toNat ∧ a2Q b (((b).length : Int)) (((b).length : Int)) (((b).length : Int)) (((b).length : Int)) (uvV b 0).toNat (uvP b 0) [] = a2Q b (((b).length : Int)) (((b).length : Int)) (((b).length : Int)) (((b).length : Int)) ((uvV b 0).toNat - k) p l ∧ l.length = k := hx
  obtain ⟨hk, hi, hl⟩ := hx
  show Ok _ _ _ _ _ (⟨[(0, .one (.dv [] (a0x (b)))), (4, .one (.dv [] (.int .i64 (uvV (b) (0))))), (5, .one (.dv [] (.int .i64 (p)))), (7, .one (.key 95000)), (8, .one (.dv [] (.int .i64 ((k : Int)))))], [], [(95000, some (a0b false (.sl 80 7 (l.length) (l.flatMap eOp))))]⟩ : St)
  iterate 6 refine z ?_
  refine yQ rfl (fun c2 => ?_) fun c2 => ?_
  ·have d2 := of_decide_eq_true c2
   have hk2 : k < (uvV b 0).toNat := by omega
   iterate 5 refine z ?_
   refine yO rfl rfl (a1x hT hB rfl rfl rfl a1w) rfl ?_
   iterate 6 refine z ?_
   refine zC Tryz.call48 ?_ (hf := b1G (b := b) (off := p) (by omega))
   iterate 10 refine z ?_
   refine yO rfl rfl (c3v (len := 4) (e := 26) hT rfl rfl (by kernel_rfl) (by kernel_rfl)) rfl ?_
   iterate 8 refine z ?_
   refine c3H 5 ?_
   refine a4m ?_
   iterate 3 refine z ?_
   refine a0q ?_
   refine yQ rfl (fun c3 => ?_) fun c3 => ?_
   ·have d3 := of_decide_eq_true c3
    iterate 11 refine z ?_
    refine yQ rfl (fun c4 => ?_) fun c4 => ?_
    ·refine a0k ?_
     iterate 5 refine z ?_
     refine zK 51000 Tryz.call47 ?_ (hf := a9M (b := b) (off := uvP (b) (p)) (m := (((b)).length : Int)) (by omega))
     iterate 4 refine z ?_
     refine yO rfl rfl (a6V (len := 4) (e := 26) (sz := 1) rfl (by kernel_rfl) (by kernel_rfl) rfl (a0a rfl) (a0a rfl) (by decide) (by decide)) rfl ?_
     iterate 3 refine z ?_
     refine a1t ?_
     iterate 2 refine z ?_
     refine a0k ?_
     refine yO rfl rfl (a3e (n := 1) (a3Q rfl (a0a rfl) (a0p (a0o rfl)) (a2y (by omega) (by omega))) (by decide)) rfl ?_
     iterate 2 refine z ?_
     refine a4m ?_
     iterate 3 refine z ?_
     refine a0q ?_
     refine yQ rfl (fun c5 => ?_) fun c5 => ?_
     ·have d5 := of_decide_eq_true c5
      iterate 11 refine z ?_
      refine yQ rfl (fun c6 => ?_) fun c6 => ?_
      ·refine a0k ?_
       iterate 5 refine z ?_
       refine zK 52000 Tryz.call47 ?_ (hf := a9M (b := b) (off := rbP (rdB (b) (uvP (b) (p)) ((((b)).length : Int)))) (m := (((b)).length : Int)) (by omega))
       iterate 4 refine z ?_
       refine yO rfl rfl (a6V (len := 4) (e := 26) (sz := 1) rfl (by kernel_rfl) (by kernel_rfl) rfl (a0a rfl) (a0a rfl) (by decide) (by decide)) rfl ?_
       iterate 3 refine z ?_
       refine a1t ?_
       iterate 2 refine z ?_
       refine a0k ?_
       refine yO rfl rfl (a3e (n := 2) (a3Q rfl (a0a rfl) (a0p (a0o rfl)) (a2y (by omega) (by omega))) (by decide)) rfl ?_
       iterate 2 refine z ?_
       refine a4m ?_
       iterate 3 refine z ?_
       refine a0q ?_
       refine yQ rfl (fun c7 => ?_) fun c7 => ?_
       ·have d7 := of_decide_eq_true c7
        iterate 11 refine z ?_
        refine yQ rfl (fun c8 => ?_) fun c8 => ?_
        ·refine a0k ?_
         iterate 5 refine z ?_
         refine zK 53000 Tryz.call47 ?_ (hf := a9M (b := b) (off := rbP (rdB (b) (rbP (rdB (b) (uvP (b) (p)) ((((b)).length : Int)))) ((((b)).length : Int)))) (m := (((b)).length : Int)) (by omega))
         iterate 4 refine z ?_
         refine yO rfl rfl (a6V (len := 4) (e := 26) (sz := 1) rfl (by kernel_rfl) (by kernel_rfl) rfl (a0a rfl) (a0a rfl) (by decide) (by decide)) rfl ?_
         iterate 3 refine z ?_
         refine a1t ?_
         iterate 2 refine z ?_
         refine a0k ?_
         refine yO rfl rfl (a3e (n := 3) (a3Q rfl (a0a rfl) (a0p (a0o rfl)) (a2y (by omega) (by omega))) (by decide)) rfl ?_
         iterate 2 refine z ?_
         refine a4m ?_
         iterate 3 refine z ?_
         refine a0q ?_
         refine yQ rfl (fun c9 => ?_) fun c9 => ?_
         ·have d9 := of_decide_eq_true c9
          iterate 11 refine z ?_
          refine yQ rfl (fun c10 => ?_) fun c10 => ?_
          ·refine a0k ?_
           iterate 5 refine z ?_
           refine zK 54000 Tryz.call47 ?_ (hf := a9M (b := b) (off := rbP (rdB (b) (rbP (rdB (b) (rbP (rdB (b) (uvP (b) (p)) ((((b)).length : Int)))) ((((b)).length : Int)))) ((((b)).length : Int)))) (m := (((b)).length : Int)) (by omega))
           iterate 4 refine z ?_
           refine yO rfl rfl (a6V (len := 4) (e := 26) (sz := 1) rfl (by kernel_rfl) (by kernel_rfl) rfl (a0a rfl) (a0a rfl) (by decide) (by decide)) rfl ?_
           iterate 3 refine z ?_
           refine a1t ?_
           iterate 2 refine z ?_
           refine a0k ?_
           refine yO rfl rfl (a3e (n := 4) (a3Q rfl (a0a rfl) (a0p (a0o rfl)) (a2y (by omega) (by omega))) (by decide)) rfl ?_
           iterate 2 refine z ?_
           refine a4m ?_
           iterate 3 refine z ?_
           refine a0q ?_
           refine yQ rfl (fun c11 => ?_) fun c11 => ?_
           ·exact absurd c11 (by decide)
           ·have d11 := of_decide_eq_false c11
            iterate 10 refine z ?_
            refine yQ rfl (fun c12 => ?_) fun c12 => ?_
            ·refine a0q ?_
             refine a0h (σ' := ⟨[(0, .one (.dv [] (a0x (b))))], [], []⟩) (a0e ⟨rfl, trivial⟩ trivial trivial rfl) ?_
             refine a0k ?_
             refine a2f (k := 95000) hT rfl rfl rfl rfl rfl rfl rfl rfl ?_
             iterate 3 refine z ?_
             rw [a8o c1 (hi.trans (a7K hk2 (by simp only [a3p]; simp [*])))]
             refine a0h (σ' := ⟨[(2, .one (.key 95000)), (3, .one (.dv [] (.bool (false))))], [], [(95000, some (a0b false (a1T ([]))))]⟩) (a0e ⟨rfl, rfl, trivial⟩ trivial ⟨rfl, trivial⟩ rfl) ?_
             iterate 7 refine z ?_
             refine a1h (a0i rfl) (a0i rfl) rfl rfl ?_
             first | exact ⟨rfl, rfl⟩ | skip
            ·iterate 3 refine z ?_
             refine yO rfl rfl (a6V (len := 4) (e := 26) (sz := 1) rfl (by kernel_rfl) (by kernel_rfl) rfl (a0a rfl) (a0p (a0o rfl)) (by decide) (by decide)) rfl ?_
             refine z ?_
             refine yO rfl rfl (a4G (K := [51000]) (e := 5) (xs := (a1G (rdB (b) (uvP (b) (p)) ((((b)).length : Int))))) hT rfl rfl rfl rfl (a6e (k := 51000) (c := a0b false (a0x (a1G (rdB (b) (uvP (b) (p)) ((((b)).length : Int)))))) (a0a rfl) rfl)) rfl ?_
             iterate 4 refine z ?_
             refine yO rfl rfl (a6V (len := 4) (e := 26) (sz := 1) rfl (by kernel_rfl) (by kernel_rfl) rfl (a0a rfl) (a0p (a0o rfl)) (by decide) (by decide)) rfl ?_
             refine z ?_
             refine a3a rfl rfl rfl Tryz.call50 (c4x (b := a1G (ox2 b (((b).length : Int)) (((b).length : Int)) p)) (by have := (a8g b (rbP (ox1 b (((b).length : Int)) p)) ((b).length : Int)).2.2; exact Nat.le_trans this (by omega))) (a0g (a0a rfl) (a0D (a0Q rfl rfl)) a0m) rfl rfl ?_
             iterate 7 refine z ?_
             refine yO rfl rfl (a6V (len := 4) (e := 26) (sz := 1) rfl (by kernel_rfl) (by kernel_rfl) rfl (a0a rfl) (a0p (a0o rfl)) (by decide) (by decide)) rfl ?_
             refine z ?_
             refine a2J 74000 rfl rfl rfl Tryz.call51 (c7I (b := a1G (ox3 b (((b).length : Int)) (((b).length : Int)) (((b).length : Int)) p)) (by have := (a8g b (rbP (ox2 b (((b).length : Int)) (((b).length : Int)) p)) ((b).length : Int)).2.2; exact Nat.le_trans this (by omega))) (a0g (a0a rfl) (a0D (a0Q rfl rfl)) a0m) rfl rfl rfl ?_
             iterate 7 refine z ?_
             refine yO rfl rfl (a6V (len := 4) (e := 26) (sz := 1) rfl (by kernel_rfl) (by kernel_rfl) rfl (a0a rfl) (a0p (a0o rfl)) (by decide) (by decide)) rfl ?_
             refine z ?_
             refine yO rfl rfl (a4G (K := [54000]) (e := 5) (xs := (a1G (rdB (b) (rbP (rdB (b) (rbP (rdB (b) (rbP (rdB (b) (uvP (b) (p)) ((((b)).length : Int)))) ((((b)).length : Int)))) ((((b)).length : Int)))) ((((b)).length : Int))))) hT rfl rfl rfl rfl (a6e (k := 54000) (c := a0b false (a0x (a1G (rdB (b) (rbP (rdB (b) (rbP (rdB (b) (rbP (rdB (b) (uvP (b) (p)) ((((b)).length : Int)))) ((((b)).length : Int)))) ((((b)).length : Int)))) ((((b)).length : Int)))))) (a0a rfl) rfl)) rfl ?_
             iterate 3 refine z ?_
             refine a0k ?_
             iterate 2 refine z ?_
             refine a3B (k := 84) (js := [83001]) hT rfl rfl rfl rfl rfl rfl rfl rfl rfl (a0a rfl) rfl rfl (a0t (a0W rfl) (a0t (a0W rfl) (a0t (a0W rfl) (a0t (a0W rfl) (a0t (a0W rfl) (a0t (a1i rfl) (a0t (a0W rfl) a1m rfl) rfl) rfl) rfl) rfl) rfl) rfl) (by decide) (by decide) rfl rfl ?_
             simp only [a0l, a0j, SV.kill, CV.kill, kk, Nat.reduceBEq]
             refine a3l (k := 95000) (j := 84) (cs := (l ++ [(a6b b (((b).length : Int)) (((b).length : Int)) (((b).length : Int)) (((b).length : Int)) p)]).flatMap eOp) (n := (l ++ [(a6b b (((b).length : Int)) (((b).length : Int)) (((b).length : Int)) (((b).length : Int)) p)]).length) hT rfl rfl rfl rfl rfl rfl rfl (a0a rfl) rfl rfl rfl (a0a rfl) rfl rfl (by decide) (by dsimp only [a0b, KC.old]; omega) (by dsimp only [a0b, KC.old]; omega) (by rw [List.length_append]; rfl) (by rw [List.flatMap_append]; rfl) ?_
             simp only [a0l, a0j, SV.kill, CV.kill, kk, Nat.reduceBEq]
             refine z ?_
             refine a1t ?_
             iterate 2 refine z ?_
             refine a0k ?_
             iterate 4 refine z ?_
             refine ⟨(k + 1, rbP (ox4 b (((b).length : Int)) (((b).length : Int)) (((b).length : Int)) (((b).length : Int)) p), l ++ [(a6b b (((b).length : Int)) (((b).length : Int)) (((b).length : Int)) (((b).length : Int)) p)]), ?_, ?_, a0e ⟨rfl, rfl, rfl, rfl, rfl, trivial⟩ trivial ⟨rfl, trivial⟩ rfl⟩
             ·exact ⟨by dsimp only; omega, hi.trans (b6B hk2 (by simp only [a3p]; simp [*])), by show (l ++ _).length = k + 1; rw [List.length_append, hl]; rfl⟩
             ·dsimp only; omega
          ·iterate 3 refine z ?_
           refine a0k ?_
           refine yO rfl rfl (a3e (n := 4) (a3Q rfl (a0a rfl) (a0p (a0o rfl)) (a2y (by omega) (by omega))) (by decide)) rfl ?_
           iterate 2 refine z ?_
           refine a4m ?_
           iterate 3 refine z ?_
           refine a0q ?_
           refine yQ rfl (fun c13 => ?_) fun c13 => ?_
           ·exact absurd c13 (by decide)
           ·have d13 := of_decide_eq_false c13
            iterate 10 refine z ?_
            refine yQ rfl (fun c14 => ?_) fun c14 => ?_
            ·refine a0q ?_
             refine a0h (σ' := ⟨[(0, .one (.dv [] (a0x (b))))], [], []⟩) (a0e ⟨rfl, trivial⟩ trivial trivial rfl) ?_
             refine a0k ?_
             refine a2f (k := 95000) hT rfl rfl rfl rfl rfl rfl rfl rfl ?_
             iterate 3 refine z ?_
             rw [a8o c1 (hi.trans (a7K hk2 (by simp only [a3p]; simp [*])))]
             refine a0h (σ' := ⟨[(2, .one (.key 95000)), (3, .one (.dv [] (.bool (false))))], [], [(95000, some (a0b false (a1T ([]))))]⟩) (a0e ⟨rfl, rfl, trivial⟩ trivial ⟨rfl, trivial⟩ rfl) ?_
             iterate 7 refine z ?_
             refine a1h (a0i rfl) (a0i rfl) rfl rfl ?_
             first | exact ⟨rfl, rfl⟩ | skip
            ·rw [c10] at c14; exact absurd c14 (by decide)
         ·exact absurd c9 (by decide)
        ·iterate 3 refine z ?_
         refine a0k ?_
         refine yO rfl rfl (a3e (n := 3) (a3Q rfl (a0a rfl) (a0p (a0o rfl)) (a2y (by omega) (by omega))) (by decide)) rfl ?_
         iterate 2 refine z ?_
         refine a4m ?_
         iterate 3 refine z ?_
         refine a0q ?_
         refine yQ rfl (fun c15 => ?_) fun c15 => ?_
         ·have d15 := of_decide_eq_true c15
          iterate 11 refine z ?_
          refine yQ rfl (fun c16 => ?_) fun c16 => ?_
          ·exact absurd (c8.symm.trans c16) (by decide)
          ·iterate 3 refine z ?_
           refine a0k ?_
           refine yO rfl rfl (a3e (n := 4) (a3Q rfl (a0a rfl) (a0p (a0o rfl)) (a2y (by omega) (by omega))) (by decide)) rfl ?_
           iterate 2 refine z ?_
           refine a4m ?_
           iterate 3 refine z ?_
           refine a0q ?_
           refine yQ rfl (fun c17 => ?_) fun c17 => ?_
           ·exact absurd c17 (by decide)
           ·have d17 := of_decide_eq_false c17
            iterate 10 refine z ?_
            refine yQ rfl (fun c18 => ?_) fun c18 => ?_
            ·refine a0q ?_
             refine a0h (σ' := ⟨[(0, .one (.dv [] (a0x (b))))], [], []⟩) (a0e ⟨rfl, trivial⟩ trivial trivial rfl) ?_
             refine a0k ?_
             refine a2f (k := 95000) hT rfl rfl rfl rfl rfl rfl rfl rfl ?_
             iterate 3 refine z ?_
             rw [a8o c1 (hi.trans (a7K hk2 (by simp only [a3p]; simp [*])))]
             refine a0h (σ' := ⟨[(2, .one (.key 95000)), (3, .one (.dv [] (.bool (false))))], [], [(95000, some (a0b false (a1T ([]))))]⟩) (a0e ⟨rfl, rfl, trivial⟩ trivial ⟨rfl, trivial⟩ rfl) ?_
             iterate 7 refine z ?_
             refine a1h (a0i rfl) (a0i rfl) rfl rfl ?_
             first | exact ⟨rfl, rfl⟩ | skip
            ·rw [c8] at c18; exact absurd c18 (by decide)
         ·exact absurd c15 (by decide)
       ·exact absurd c7 (by decide)
      ·iterate 3 refine z ?_
       refine a0k ?_
       refine yO rfl rfl (a3e (n := 2) (a3Q rfl (a0a rfl) (a0p (a0o rfl)) (a2y (by omega) (by omega))) (by decide)) rfl ?_
       iterate 2 refine z ?_
       refine a4m ?_
       iterate 3 refine z ?_
       refine a0q ?_
       refine yQ rfl (fun c19 => ?_) fun c19 => ?_
       ·have d19 := of_decide_eq_true c19
        iterate 11 refine z ?_
        refine yQ rfl (fun c20 => ?_) fun c20 => ?_
        ·exact absurd (c6.symm.trans c20) (by decide)
        ·iterate 3 refine z ?_
         refine a0k ?_
         refine yO rfl rfl (a3e (n := 3) (a3Q rfl (a0a rfl) (a0p (a0o rfl)) (a2y (by omega) (by omega))) (by decide)) rfl ?_
         iterate 2 refine z ?_
         refine a4m ?_
         iterate 3 refine z ?_
         refine a0q ?_
         refine yQ rfl (fun c21 => ?_) fun c21 => ?_
         ·have d21 := of_decide_eq_true c21
          iterate 11 refine z ?_
          refine yQ rfl (fun c22 => ?_) fun c22 => ?_
          ·exact absurd (c6.symm.trans c22) (by decide)
          ·iterate 3 refine z ?_
           refine a0k ?_
           refine yO rfl rfl (a3e (n := 4) (a3Q rfl (a0a rfl) (a0p (a0o rfl)) (a2y (by omega) (by omega))) (by decide)) rfl ?_
           iterate 2 refine z ?_
           refine a4m ?_
           iterate 3 refine z ?_
           refine a0q ?_
           refine yQ rfl (fun c23 => ?_) fun c23 => ?_
           ·exact absurd c23 (by decide)
           ·have d23 := of_decide_eq_false c23
            iterate 10 refine z ?_
            refine yQ rfl (fun c24 => ?_) fun c24 => ?_
            ·refine a0q ?_
             refine a0h (σ' := ⟨[(0, .one (.dv [] (a0x (b))))], [], []⟩) (a0e ⟨rfl, trivial⟩ trivial trivial rfl) ?_
             refine a0k ?_
             refine a2f (k := 95000) hT rfl rfl rfl rfl rfl rfl rfl rfl ?_
             iterate 3 refine z ?_
             rw [a8o c1 (hi.trans (a7K hk2 (by simp only [a3p]; simp [*])))]
             refine a0h (σ' := ⟨[(2, .one (.key 95000)), (3, .one (.dv [] (.bool (false))))], [], [(95000, some (a0b false (a1T ([]))))]⟩) (a0e ⟨rfl, rfl, trivial⟩ trivial ⟨rfl, trivial⟩ rfl) ?_
             iterate 7 refine z ?_
             refine a1h (a0i rfl) (a0i rfl) rfl rfl ?_
             first | exact ⟨rfl, rfl⟩ | skip
            ·rw [c6] at c24; exact absurd c24 (by decide)
         ·exact absurd c21 (by decide)
       ·exact absurd c19 (by decide)
     ·exact absurd c5 (by decide)
    ·iterate 3 refine z ?_
     refine a0k ?_
     refine yO rfl rfl (a3e (n := 1) (a3Q rfl (a0a rfl) (a0p (a0o rfl)) (a2y (by omega) (by omega))) (by decide)) rfl ?_
     iterate 2 refine z ?_
     refine a4m ?_
     iterate 3 refine z ?_
     refine a0q ?_
     refine yQ rfl (fun c25 => ?_) fun c25 => ?_
     ·have d25 := of_decide_eq_true c25
      iterate 11 refine z ?_
      refine yQ rfl (fun c26 => ?_) fun c26 => ?_
      ·exact absurd (c4.symm.trans c26) (by decide)
      ·iterate 3 refine z ?_
       refine a0k ?_
       refine yO rfl rfl (a3e (n := 2) (a3Q rfl (a0a rfl) (a0p (a0o rfl)) (a2y (by omega) (by omega))) (by decide)) rfl ?_
       iterate 2 refine z ?_
       refine a4m ?_
       iterate 3 refine z ?_
       refine a0q ?_
       refine yQ rfl (fun c27 => ?_) fun c27 => ?_
       ·have d27 := of_decide_eq_true c27
        iterate 11 refine z ?_
        refine yQ rfl (fun c28 => ?_) fun c28 => ?_
        ·exact absurd (c4.symm.trans c28) (by decide)
        ·iterate 3 refine z ?_
         refine a0k ?_
         refine yO rfl rfl (a3e (n := 3) (a3Q rfl (a0a rfl) (a0p (a0o rfl)) (a2y (by omega) (by omega))) (by decide)) rfl ?_
         iterate 2 refine z ?_
         refine a4m ?_
         iterate 3 refine z ?_
         refine a0q ?_
         refine yQ rfl (fun c29 => ?_) fun c29 => ?_
         ·have d29 := of_decide_eq_true c29
          iterate 11 refine z ?_
          refine yQ rfl (fun c30 => ?_) fun c30 => ?_
          ·exact absurd (c4.symm.trans c30) (by decide)
          ·iterate 3 refine z ?_
           refine a0k ?_
           refine yO rfl rfl (a3e (n := 4) (a3Q rfl (a0a rfl) (a0p (a0o rfl)) (a2y (by omega) (by omega))) (by decide)) rfl ?_
           iterate 2 refine z ?_
           refine a4m ?_
           iterate 3 refine z ?_
           refine a0q ?_
           refine yQ rfl (fun c31 => ?_) fun c31 => ?_
           ·exact absurd c31 (by decide)
           ·have d31 := of_decide_eq_false c31
            iterate 10 refine z ?_
            refine yQ rfl (fun c32 => ?_) fun c32 => ?_
            ·refine a0q ?_
             refine a0h (σ' := ⟨[(0, .one (.dv [] (a0x (b))))], [], []⟩) (a0e ⟨rfl, trivial⟩ trivial trivial rfl) ?_
             refine a0k ?_
             refine a2f (k := 95000) hT rfl rfl rfl rfl rfl rfl rfl rfl ?_
             iterate 3 refine z ?_
             rw [a8o c1 (hi.trans (a7K hk2 (by simp only [a3p]; simp [*])))]
             refine a0h (σ' := ⟨[(2, .one (.key 95000)), (3, .one (.dv [] (.bool (false))))], [], [(95000, some (a0b false (a1T ([]))))]⟩) (a0e ⟨rfl, rfl, trivial⟩ trivial ⟨rfl, trivial⟩ rfl) ?_
             iterate 7 refine z ?_
             refine a1h (a0i rfl) (a0i rfl) rfl rfl ?_
             first | exact ⟨rfl, rfl⟩ | skip
            ·rw [c4] at c32; exact absurd c32 (by decide)
         ·exact absurd c29 (by decide)
       ·exact absurd c27 (by decide)
     ·exact absurd c25 (by decide)
   ·exact absurd c3 (by decide)
  ·have d2 := of_decide_eq_false c2
   have hfe := hi.trans (b9U (by omega))
   iterate 8 refine z ?_
   refine a2J 87000 rfl rfl rfl Tryz.call53 (c2A (l := l)) (a0g (a0a rfl) (a0D (a0Q rfl rfl)) a0m) rfl rfl rfl ?_
   refine z ?_
   refine a3a rfl rfl rfl Tryz.call52 (b1g (x := a1X (l)) (y := b) ) (a0g (a0a rfl) (a0D (a0Q rfl rfl)) (a0g (a0a rfl) (a0D a0c) a0m)) rfl rfl ?_
   iterate 2 refine z ?_
   refine yQ rfl (fun c33 => ?_) fun c33 => ?_
   ·refine a0q ?_
    refine a0h (σ' := ⟨[(0, .one (.dv [] (a0x (b))))], [], []⟩) (a0e ⟨rfl, trivial⟩ trivial trivial rfl) ?_
    refine a0k ?_
    refine a2f (k := 95000) hT rfl rfl rfl rfl rfl rfl rfl rfl ?_
    iterate 3 refine z ?_
    rw [b9t c1 hfe (by assumption)]
    refine a0h (σ' := ⟨[(2, .one (.key 95000)), (3, .one (.dv [] (.bool (false))))], [], [(95000, some (a0b false (a1T ([]))))]⟩) (a0e ⟨rfl, rfl, trivial⟩ trivial ⟨rfl, trivial⟩ rfl) ?_
    iterate 2 refine z ?_
    refine a1h (a0i rfl) (a0i rfl) rfl rfl ?_
    first | exact ⟨rfl, rfl⟩ | skip
   ·iterate 7 refine z ?_
    rw [b9A c1 hfe (by assumption)]
    refine a0h (σ' := ⟨[(2, .one (.key 95000)), (3, .one (.dv [] (.bool (true))))], [], [(95000, some (a0b false (a1T (l))))]⟩) (a0e ⟨rfl, rfl, trivial⟩ trivial ⟨rfl, trivial⟩ rfl) ?_
    refine z ?_
    refine a1h (a0i rfl) (a0i rfl) rfl rfl ?_
    first | exact ⟨rfl, rfl⟩ | skip
@[reducible] def a6h (xs : List (List UInt8)) : DV := a2H 26 1 (fun x => [a0x x]) xs
def goD : DbT → List (List UInt8) → Int → DbT × Int
 | c, [], i => (c, i)
 | c, e :: es, i => if (a2h e).2 = true then goD (a2g c (a2h e).1).1 es (i + 1) else (c, i)
def a1R (x : a5n) : DbT × Int := goD x.1 (rl x.2.1).1 0
theorem b9N {L : List (List UInt8)} {n : Nat} {c : DbT} (h : n < L.length) (hk : (!(a2h (L.getD (n : Int).toNat default)).2) = true) : goD c (L.drop n) (n : Int) = (c, (n : Int)) := by
 have e : L.drop n = L.getD (n : Int).toNat default :: L.drop (n + 1) := by rw [List.drop_eq_getElem_cons h]; simp [List.getD, List.getElem?_eq_getElem h]
 rw [e, goD, if_neg (by simpa using hk)]
theorem b5h {L : List (List UInt8)} {n : Nat} {c : DbT} (h : n < L.length) (hk : (!(a2h (L.getD (n : Int).toNat default)).2) = false) : goD c (L.drop n) (n : Int) = goD (a2g c (a2h (L.getD (n : Int).toNat default)).1).1 (L.drop (n + 1)) ((n + 1 : Nat) : Int) := by
 have e : L.drop n = L.getD (n : Int).toNat default :: L.drop (n + 1) := by rw [List.drop_eq_getElem_cons h]; simp [List.getD, List.getElem?_eq_getElem h]
 rw [e, goD, if_pos (by simpa using hk)]
 rfl
theorem b8H {L : List (List UInt8)} {n : Nat} {c : DbT} (h : L.length ≤ n) (h2 : n ≤ L.length) : goD c (L.drop n) (n : Int) = (c, (L.length : Int)) := by
 rw [List.drop_of_length_le h, goD, show n = L.length by omega]
theorem b9C (bs : List UInt8) : ∀ (f p : Nat) (acc : List (List UInt8)), (∀ d ∈ acc, d.length ≤ 4000) → ∀ d ∈ (a3J bs f p acc).1, d.length ≤ 4000
 | 0, p, acc, h => h
 | f + 1, p, acc, h => by
  cases hb : rdB bs p 4000 with
  | none => rw [a8O hb]; exact h
  | some dn =>
   obtain ⟨d, nx⟩ := dn
   have hbs := a9V hb
   cases hu : rdU bs nx with
   | none => rw [a9J hb hu]; exact h
   | some sk =>
    obtain ⟨s, k⟩ := sk
    by_cases hs : (s : Int) = a5j acc.length d
    ·rw [a9D hb hu hs]
     refine b9C bs f _ _ (fun z hz => ?_)
     rcases List.mem_append.1 hz with h1 | h1
     ·exact h z h1
     ·rw [List.mem_singleton] at h1; rw [h1]; omega
    ·rw [b0i hb hu hs]; exact h
theorem b4I {b : List UInt8} {n : Nat} (h : n < (rl b).1.length) : ((rl b).1.getD (n : Int).toNat default).length ≤ 4000 := by
 rw [Int.toNat_natCast, List.getD_eq_getElem?_getD, List.getElem?_eq_getElem h]
 exact b9C b _ _ [] (fun d hd => by cases hd) _ (List.getElem_mem h)
theorem b4F {x : a5n} (hb : a3R x ≤ 1048576) : KFn Tryz.prog 7 [.agg [(.dv [] (.str (x.1.1))), (.dv [] (.int .i64 (x.1.2.1))), (.dv [] (a0z (x.1.2.2.1))), (.dv [] (a0B (x.1.2.2.2))), (.dv [] (a0x (x.2.1))), (.dv [] (.int .i64 (x.2.2)))]] (.tup [(true, [(.dv [] (.str ((a1R x).1.1))), (.dv [] (.int .i64 ((a1R x).1.2.1))), (.key 90031), (.key 90900)]), (false, [(.dv [] (.int .i64 ((a1R x).2)))])]) [(90031, some (a0b false (a0z ((a1R x).1.2.2.1)))), (90900, some (a0b false (a0B ((a1R x).1.2.2.2))))] := by
 refine ⟨a0v Tryz.func7 rfl Tryz.ntmps7 Tryz.results7 rfl (fun C => ?_)⟩
 have hwk : a3R x = a0Z x.1 + x.2.1.length := rfl
 have hcn := b2e x.2.1
 refine yF 0 0 rfl rfl fun f0_0 => ?_
 refine yF 0 1 rfl rfl fun f0_1 => ?_
 refine yF 0 2 rfl rfl fun f0_2 => ?_
 refine yF 0 3 rfl rfl fun f0_3 => ?_
 refine yF 0 4 rfl rfl fun f0_4 => ?_
 refine yF 0 5 rfl rfl fun f0_5 => ?_
 iterate 8 refine z ?_
 refine zK 90000 Tryz.call21 ?_ (hf := a7B (x := x.1) (by omega))
 iterate 6 refine z ?_
 refine zK 92000 Tryz.call22 ?_ (hf := c4R (b := x.2.1) (by omega))
 iterate 8 refine z ?_
 refine yO rfl rfl (a2c (v := .one (.dv [92000] (a6h ((rl x.2.1).1)))) (.inl rfl) (a3I (a0a rfl) rfl rfl)) rfl ?_
 iterate 4 refine z ?_
 refine a0X (ι := Nat × DbT) (fun zz => ⟨[(2, .box 2 0), (4, .box 4 0), (5, .one (.key 92000)), (20, .one (.dv [92000] (a6h ((rl x.2.1).1)))), (21, .one (.dv [] (.int .i64 (((((rl x.2.1).1)).length : Int))))), (22, .one (.dv [] (.int .i64 ((zz.1 : Int)))))], [(1, 37, [(.dv [] (.str (x.1.1))), (.dv [] (.int .i64 (x.1.2.1))), (.dv [] (a0z (x.1.2.2.1))), (.dv [] (a0B (x.1.2.2.2))), (.dv [] (a0x (x.2.1))), (.dv [] (.int .i64 (x.2.2)))]), (2, 33, [(.dv [] (.str (ByteArray.empty))), (.dv [] (.int .i64 (0))), .nil, .nil]), (4, 33, [(.dv [] (.str (zz.2.1))), (.dv [] (.int .i64 (zz.2.2.1))), (.key 90031), (.key 90900)])], [(90031, some (a0b false (.sl 67 3 (zz.2.2.2.1.length) (zz.2.2.2.1.flatMap a1n)))), (90900, some (a0b false (.sl 97 2 (zz.2.2.2.2.length) (zz.2.2.2.2.flatMap a1O)))), (92000, some (a0b false (a6h ((rl (x.2.1)).1))))]⟩) (fun zz => zz.1 ≤ (rl x.2.1).1.length ∧ a1R x = goD zz.2 ((rl x.2.1).1.drop zz.1) (zz.1 : Int) ∧ (a0Z zz.2 ≤ a0Z x.1 ∨ a0Z zz.2 ≤ 5000000)) (fun zz => (rl x.2.1).1.length - zz.1) ((0, x.1)) ?_ (a0e ⟨rfl, rfl, rfl, rfl, rfl, rfl, trivial⟩ ⟨rfl, rfl, rfl, trivial⟩ ⟨rfl, rfl, rfl, trivial⟩ rfl) (fun zz hx => ?_)
 ·exact ⟨Nat.zero_le _, rfl, .inl (Nat.le_refl _)⟩
 obtain ⟨n, c⟩ := zz
 replace hx : n ≤ (rl x.2.1).1.length ∧ a1R x = goD c ((rl x.2.1).1.drop n) (n : Int) ∧ (a0Z c ≤ a0Z x.1 ∨ a0Z c ≤ 5000000) := hx
 obtain ⟨hn, hi, hw⟩ := hx
 show Ok _ _ _ _ _ (⟨[(2, .box 2 0), (4, .box 4 0), (5, .one (.key 92000)), (20, .one (.dv [92000] (a6h ((rl x.2.1).1)))), (21, .one (.dv [] (.int .i64 (((((rl x.2.1).1)).length : Int))))), (22, .one (.dv [] (.int .i64 ((n : Int)))))], [(1, 37, [(.dv [] (.str (x.1.1))), (.dv [] (.int .i64 (x.1.2.1))), (.dv [] (a0z (x.1.2.2.1))), (.dv [] (a0B (x.1.2.2.2))), (.dv [] (a0x (x.2.1))), (.dv [] (.int .i64 (x.2.2)))]), (2, 33, [(.dv [] (.str (ByteArray.empty))), (.dv [] (.int .i64 (0))), .nil, .nil]), (4, 33, [(.dv [] (.str (c.1))), (.dv [] (.int .i64 (c.2.1))), (.key 90031), (.key 90900)])], [(90031, some (a0b false (.sl 67 3 (c.2.2.1.length) (c.2.2.1.flatMap a1n)))), (90900, some (a0b false (.sl 97 2 (c.2.2.2.length) (c.2.2.2.flatMap a1O)))), (92000, some (a0b false (a6h ((rl (x.2.1)).1))))]⟩ : St)
 iterate 3 refine z ?_
 refine a0q ?_
 refine yQ rfl (fun c1 => ?_) fun c1 => ?_
 ·have d1 := of_decide_eq_true c1
  have hn2 : n < (rl x.2.1).1.length := by omega
  have hel := b4I hn2
  have hrw := b3y c (a2h ((rl x.2.1).1.getD (n : Int).toNat default)).1
  iterate 13 refine z ?_
  refine zK 3000 Tryz.call23 ?_ (hf := c5K (b := ((rl x.2.1).1.getD (n : Int).toNat default)) (by omega))
  iterate 11 refine z ?_
  refine yQ rfl (fun c2 => ?_) fun c2 => ?_
  ·iterate 6 refine z ?_
   have hfin : a1R x = (c, (n : Int)) := by rw [hi]; exact b9N hn2 c2
   rw [hfin]
   refine a0h (σ' := ⟨[(2, .box 2 0), (3, .one (.dv [] (.int .i64 ((n : Int)))))], [(2, 33, [(.dv [] (.str (c.1))), (.dv [] (.int .i64 (c.2.1))), (.key 90031), (.key 90900)])], [(90031, some (a0b false (a0z (c.2.2.1)))), (90900, some (a0b false (a0B (c.2.2.2))))]⟩) (a0e ⟨rfl, rfl, trivial⟩ ⟨rfl, trivial⟩ ⟨rfl, rfl, trivial⟩ rfl) ?_
   iterate 7 refine z ?_
   refine a1h (a0F hT rfl rfl rfl rfl) (a0i rfl) rfl rfl ?_
   first | exact ⟨rfl, rfl⟩ | skip
  ·iterate 2 refine z ?_
   refine a0k ?_
   iterate 2 refine z ?_
   refine a2J 1000 rfl rfl rfl Tryz.call24 (c1n (d := c) (l := (a2h ((rl x.2.1).1.getD (n : Int).toNat default)).1) (by omega)) (a0g (a0a rfl) (a0s (a0d a0c (a0d a0c (a0d (a0Q rfl rfl) (a0d (a0Q rfl rfl) a0r))))) (a0g (a0a rfl) (a0D (a0Q rfl rfl)) a0m)) rfl rfl rfl ?_
   iterate 5 refine z ?_
   refine a1t ?_
   iterate 2 refine z ?_
   refine a0h (a5i (b := 4) (i := 2) (k := 91031) (k' := 90031) rfl rfl rfl rfl (by simp) rfl rfl) ?_
   simp only [a0l, a0j, SV.kill, CV.kill, kk, Nat.reduceBEq]
   refine a0h (a5i (b := 4) (i := 3) (k := 91900) (k' := 90900) rfl rfl rfl rfl (by simp) rfl rfl) ?_
   simp only [a0l, a0j, SV.kill, CV.kill, kk, Nat.reduceBEq]
   refine a0k ?_
   iterate 3 refine z ?_
   refine ⟨(n + 1, (a2g c (a2h ((rl x.2.1).1.getD (n : Int).toNat default)).1).1), ?_, ?_, a0e ⟨rfl, rfl, rfl, rfl, rfl, rfl, trivial⟩ ⟨rfl, rfl, rfl, trivial⟩ ⟨rfl, rfl, rfl, trivial⟩ rfl⟩
   ·exact ⟨hn2, by show a1R x = _; rw [hi]; exact b5h hn2 c2, by dsimp only; omega⟩
   ·dsimp only; omega
 ·have d1 := of_decide_eq_false c1
  iterate 8 refine z ?_
  refine yO rfl rfl (a2S (n := (((rl (x.2.1)).1)).length) hT rfl rfl (a0a rfl) rfl rfl) rfl ?_
  iterate 3 refine z ?_
  have hfin : a1R x = (c, ((rl x.2.1).1.length : Int)) := by rw [hi]; exact b8H (by omega) hn
  rw [hfin]
  refine a0h (σ' := ⟨[(2, .box 2 0), (3, .one (.dv [] (.int .i64 (((((rl (x.2.1)).1)).length : Int)))))], [(2, 33, [(.dv [] (.str (c.1))), (.dv [] (.int .i64 (c.2.1))), (.key 90031), (.key 90900)])], [(90031, some (a0b false (a0z (c.2.2.1)))), (90900, some (a0b false (a0B (c.2.2.2))))]⟩) (a0e ⟨rfl, rfl, trivial⟩ ⟨rfl, trivial⟩ ⟨rfl, rfl, trivial⟩ rfl) ?_
  refine z ?_
  refine a1h (a0F hT rfl rfl rfl rfl) (a0i rfl) rfl rfl ?_
  first | exact ⟨rfl, rfl⟩ | skip
theorem c5J {x : a5n} (hb : a3R x ≤ 1048576) : KFn Tryz.prog 5 [.agg [(.dv [] (.str (x.1.1))), (.dv [] (.int .i64 (x.1.2.1))), (.dv [] (a0z (x.1.2.2.1))), (.dv [] (a0B (x.1.2.2.2))), (.dv [] (a0x (x.2.1))), (.dv [] (.int .i64 (x.2.2)))]] (.tup [(true, [(.dv [] (.str ((a1R x).1.1))), (.dv [] (.int .i64 ((a1R x).1.2.1))), (.key 90031), (.key 90900)]), (false, [(.dv [] (.int .i64 ((a1R x).2)))])]) [(90031, some (a0b false (a0z ((a1R x).1.2.2.1)))), (90900, some (a0b false (a0B ((a1R x).1.2.2.2))))] := by
 refine ⟨a0v Tryz.func5 rfl Tryz.ntmps5 Tryz.results5 rfl (fun C => ?_)⟩
 have hwk : a3R x = a0Z x.1 + x.2.1.length := rfl
 have hcn := b2e x.2.1
 refine yF 0 0 rfl rfl fun f0_0 => ?_
 refine yF 0 1 rfl rfl fun f0_1 => ?_
 refine yF 0 2 rfl rfl fun f0_2 => ?_
 refine yF 0 3 rfl rfl fun f0_3 => ?_
 refine yF 0 4 rfl rfl fun f0_4 => ?_
 refine yF 0 5 rfl rfl fun f0_5 => ?_
 iterate 8 refine z ?_
 refine zK 90000 Tryz.call15 ?_ (hf := a9z (x := x.1) (by omega))
 iterate 6 refine z ?_
 refine zK 92000 Tryz.call16 ?_ (hf := c1e (b := x.2.1) (by omega))
 iterate 11 refine z ?_
 refine a0X (ι := Nat × DbT) (fun zz => ⟨[(2, .box 2 0), (4, .box 4 0), (5, .one (.key 92000)), (7, .one (.dv [] (.int .i64 ((zz.1 : Int)))))], [(1, 37, [(.dv [] (.str (x.1.1))), (.dv [] (.int .i64 (x.1.2.1))), (.dv [] (a0z (x.1.2.2.1))), (.dv [] (a0B (x.1.2.2.2))), (.dv [] (a0x (x.2.1))), (.dv [] (.int .i64 (x.2.2)))]), (2, 33, [(.dv [] (.str (ByteArray.empty))), (.dv [] (.int .i64 (0))), .nil, .nil]), (4, 33, [(.dv [] (.str (zz.2.1))), (.dv [] (.int .i64 (zz.2.2.1))), (.key 90031), (.key 90900)])], [(90031, some (a0b false (.sl 67 3 (zz.2.2.2.1.length) (zz.2.2.2.1.flatMap a1n)))), (90900, some (a0b false (.sl 97 2 (zz.2.2.2.2.length) (zz.2.2.2.2.flatMap a1O)))), (92000, some (a0b false (a6h ((rl (x.2.1)).1))))]⟩) (fun zz => zz.1 ≤ (rl x.2.1).1.length ∧ a1R x = goD zz.2 ((rl x.2.1).1.drop zz.1) (zz.1 : Int) ∧ (a0Z zz.2 ≤ a0Z x.1 ∨ a0Z zz.2 ≤ 5000000)) (fun zz => (rl x.2.1).1.length - zz.1) ((0, x.1)) ?_ (a0e ⟨rfl, rfl, rfl, rfl, trivial⟩ ⟨rfl, rfl, rfl, trivial⟩ ⟨rfl, rfl, rfl, trivial⟩ rfl) (fun zz hx => ?_)
 ·exact ⟨Nat.zero_le _, rfl, .inl (Nat.le_refl _)⟩
 obtain ⟨n, c⟩ := zz
 replace hx : n ≤ (rl x.2.1).1.length ∧ a1R x = goD c ((rl x.2.1).1.drop n) (n : Int) ∧ (a0Z c ≤ a0Z x.1 ∨ a0Z c ≤ 5000000) := hx
 obtain ⟨hn, hi, hw⟩ := hx
 show Ok _ _ _ _ _ (⟨[(2, .box 2 0), (4, .box 4 0), (5, .one (.key 92000)), (7, .one (.dv [] (.int .i64 ((n : Int)))))], [(1, 37, [(.dv [] (.str (x.1.1))), (.dv [] (.int .i64 (x.1.2.1))), (.dv [] (a0z (x.1.2.2.1))), (.dv [] (a0B (x.1.2.2.2))), (.dv [] (a0x (x.2.1))), (.dv [] (.int .i64 (x.2.2)))]), (2, 33, [(.dv [] (.str (ByteArray.empty))), (.dv [] (.int .i64 (0))), .nil, .nil]), (4, 33, [(.dv [] (.str (c.1))), (.dv [] (.int .i64 (c.2.1))), (.key 90031), (.key 90900)])], [(90031, some (a0b false (.sl 67 3 (c.2.2.1.length) (c.2.2.1.flatMap a1n)))), (90900, some (a0b false (.sl 97 2 (c.2.2.2.length) (c.2.2.2.flatMap a1O)))), (92000, some (a0b false (a6h ((rl (x.2.1)).1))))]⟩ : St)
 iterate 4 refine z ?_
 refine yO rfl rfl (a2S (n := (((rl (x.2.1)).1)).length) hT rfl rfl (a0a rfl) rfl rfl) rfl ?_
 iterate 2 refine z ?_
 refine yQ rfl (fun c1 => ?_) fun c1 => ?_
 ·have d1 := of_decide_eq_true c1
  have hn2 : n < (rl x.2.1).1.length := by omega
  have hel := b4I hn2
  have hrw := b3y c (a2h ((rl x.2.1).1.getD (n : Int).toNat default)).1
  iterate 5 refine z ?_
  refine yO rfl rfl (a2c (v := .one (.dv [92000] (a6h ((rl x.2.1).1)))) (.inl rfl) (a3I (a0a rfl) rfl rfl)) rfl ?_
  iterate 3 refine z ?_
  refine zK 3000 Tryz.call17 ?_ (hf := c8a (b := ((rl x.2.1).1.getD (n : Int).toNat default)) (by omega))
  iterate 11 refine z ?_
  refine yQ rfl (fun c2 => ?_) fun c2 => ?_
  ·iterate 6 refine z ?_
   have hfin : a1R x = (c, (n : Int)) := by rw [hi]; exact b9N hn2 c2
   rw [hfin]
   refine a0h (σ' := ⟨[(2, .box 2 0), (3, .one (.dv [] (.int .i64 ((n : Int)))))], [(2, 33, [(.dv [] (.str (c.1))), (.dv [] (.int .i64 (c.2.1))), (.key 90031), (.key 90900)])], [(90031, some (a0b false (a0z (c.2.2.1)))), (90900, some (a0b false (a0B (c.2.2.2))))]⟩) (a0e ⟨rfl, rfl, trivial⟩ ⟨rfl, trivial⟩ ⟨rfl, rfl, trivial⟩ rfl) ?_
   iterate 7 refine z ?_
   refine a1h (a0F hT rfl rfl rfl rfl) (a0i rfl) rfl rfl ?_
   first | exact ⟨rfl, rfl⟩ | skip
  ·iterate 2 refine z ?_
   refine a5O (σ' := ⟨[(2, .box 2 0), (4, .box 4 0), (5, .one (.key 92000)), (7, .one (.dv [] (.int .i64 ((n : Int))))), (8, .one (.key 98000)), (9, .one (.dv [] (.bool ((a2h (((rl x.2.1).1.getD (n : Int).toNat default))).2)))), (10, .box 10 0), (11, .one (.key 96000)), (12, .one (.dv [] (.bool ((a2g (c) ((a2h ((rl x.2.1).1.getD (n : Int).toNat default)).1)).2.2))))], [(1, 37, [(.dv [] (.str (x.1.1))), (.dv [] (.int .i64 (x.1.2.1))), (.dv [] (a0z (x.1.2.2.1))), (.dv [] (a0B (x.1.2.2.2))), (.dv [] (a0x (x.2.1))), (.dv [] (.int .i64 (x.2.2)))]), (2, 33, [(.dv [] (.str (ByteArray.empty))), (.dv [] (.int .i64 (0))), .nil, .nil]), (4, 33, [(.dv [] (.str (c.1))), (.dv [] (.int .i64 (c.2.1))), (.key 90031), (.key 90900)]), (10, 33, [(.dv [] (.str ((a2g (c) ((a2h ((rl x.2.1).1.getD (n : Int).toNat default)).1)).1.1))), (.dv [] (.int .i64 ((a2g (c) ((a2h ((rl x.2.1).1.getD (n : Int).toNat default)).1)).1.2.1))), (.key 91031), (.key 91900)])], [(90031, some (a0b false (.sl 67 3 (c.2.2.1.length) (c.2.2.1.flatMap a1n)))), (90900, some (a0b false (.sl 97 2 (c.2.2.2.length) (c.2.2.2.flatMap a1O)))), (91031, some (a0b false (a0z ((a2g (c) ((a2h ((rl x.2.1).1.getD (n : Int).toNat default)).1)).1.2.2.1)))), (91900, some (a0b false (a0B ((a2g (c) ((a2h ((rl x.2.1).1.getD (n : Int).toNat default)).1)).1.2.2.2)))), (92000, some (a0b false (a6h ((rl (x.2.1)).1)))), (96000, some (a0b false (a6d ((a2g (c) ((a2h ((rl x.2.1).1.getD (n : Int).toNat default)).1)).2.1)))), (98000, some (a0b false (a1T ((a2h (((rl x.2.1).1.getD (n : Int).toNat default))).1))))]⟩) ?_ ?_
   ·refine a0k ?_
    iterate 2 refine z ?_
    refine a2J 1000 rfl rfl rfl Tryz.call18 (c4n (d := c) (l := (a2h ((rl x.2.1).1.getD (n : Int).toNat default)).1) (by omega)) (a0g (a0a rfl) (a0s (a0d a0c (a0d a0c (a0d (a0Q rfl rfl) (a0d (a0Q rfl rfl) a0r))))) (a0g (a0a rfl) (a0D (a0Q rfl rfl)) a0m)) rfl rfl rfl ?_
    iterate 8 refine z ?_
    refine a1t ?_
    exact a2p (a0e ⟨rfl, rfl, rfl, rfl, rfl, rfl, rfl, rfl, rfl, trivial⟩ ⟨rfl, rfl, rfl, rfl, trivial⟩ ⟨rfl, rfl, rfl, rfl, rfl, rfl, rfl, trivial⟩ rfl)
   refine a0k ?_
   iterate 2 refine z ?_
   refine a1t ?_
   iterate 2 refine z ?_
   refine a0h (a5i (b := 4) (i := 2) (k := 91031) (k' := 90031) rfl rfl rfl rfl (by simp) rfl rfl) ?_
   simp only [a0l, a0j, SV.kill, CV.kill, kk, Nat.reduceBEq]
   refine a0h (a5i (b := 4) (i := 3) (k := 91900) (k' := 90900) rfl rfl rfl rfl (by simp) rfl rfl) ?_
   simp only [a0l, a0j, SV.kill, CV.kill, kk, Nat.reduceBEq]
   refine a0k ?_
   iterate 4 refine z ?_
   refine ⟨(n + 1, (a2g c (a2h ((rl x.2.1).1.getD (n : Int).toNat default)).1).1), ?_, ?_, a0e ⟨rfl, rfl, rfl, rfl, trivial⟩ ⟨rfl, rfl, rfl, trivial⟩ ⟨rfl, rfl, rfl, trivial⟩ rfl⟩
   ·exact ⟨hn2, by show a1R x = _; rw [hi]; exact b5h hn2 c2, by dsimp only; omega⟩
   ·dsimp only; omega
 ·have d1 := of_decide_eq_false c1
  iterate 8 refine z ?_
  refine yO rfl rfl (a2S (n := (((rl (x.2.1)).1)).length) hT rfl rfl (a0a rfl) rfl rfl) rfl ?_
  iterate 3 refine z ?_
  have hfin : a1R x = (c, ((rl x.2.1).1.length : Int)) := by rw [hi]; exact b8H (by omega) hn
  rw [hfin]
  refine a0h (σ' := ⟨[(2, .box 2 0), (3, .one (.dv [] (.int .i64 (((((rl (x.2.1)).1)).length : Int)))))], [(2, 33, [(.dv [] (.str (c.1))), (.dv [] (.int .i64 (c.2.1))), (.key 90031), (.key 90900)])], [(90031, some (a0b false (a0z (c.2.2.1)))), (90900, some (a0b false (a0B (c.2.2.2))))]⟩) (a0e ⟨rfl, rfl, trivial⟩ ⟨rfl, trivial⟩ ⟨rfl, rfl, trivial⟩ rfl) ?_
  refine z ?_
  refine a1h (a0F hT rfl rfl rfl rfl) (a0i rfl) rfl rfl ?_
  first | exact ⟨rfl, rfl⟩ | skip
theorem b8t : ∀ (L : List (List UInt8)) (c : DbT) (i : Int), a0Z (goD c L i).1 ≤ a0Z c ∨ a0Z (goD c L i).1 ≤ 5000000
 | [], c, i => .inl (Nat.le_refl _)
 | e :: es, c, i => by
  rw [goD]
  split
  ·have h1 := b8t es (a2g c (a2h e).1).1 (i + 1)
   have h2 := b3y c (a2h e).1
   omega
  ·exact .inl (Nat.le_refl _)
theorem c1A {x0 : a5n}  : PFn Tryz.prog 3 [.agg [(.dv [] (.str (x0.1.1))), (.dv [] (.int .i64 (x0.1.2.1))), (.dv [] (a0z (x0.1.2.2.1))), (.dv [] (a0B (x0.1.2.2.2))), (.dv [] (a0x (x0.2.1))), (.dv [] (.int .i64 (x0.2.2)))]] (.one (.dv [] (.bool (true)))) := by
 refine ⟨a0v Tryz.func3 rfl Tryz.ntmps3 Tryz.results3 rfl (fun C => ?_)⟩
 have hgw : a0Z (a1R x0).1 ≤ a0Z x0.1 ∨ a0Z (a1R x0).1 ≤ 5000000 := b8t _ _ _
 have hwk0 : a3R x0 = a0Z x0.1 + x0.2.1.length := rfl
 have : a3R x0 = a0Z (x0.1) + (x0.2.1).length := rfl
 have : a0Z (x0.1) = ((x0.1).1).size + a1c a0T ((x0.1).2.2.1) + a1c a1s ((x0.1).2.2.2) := rfl
 have : a1c a0T ((x0.1).2.2.1) = ((x0.1).2.2.1).length + wSum a0T ((x0.1).2.2.1) := rfl
 have : a1c a1s ((x0.1).2.2.2) = ((x0.1).2.2.2).length + wSum a1s ((x0.1).2.2.2) := rfl
 have := a7u b7h (x0.1.2.2.1)
 have := a7u b9b (x0.1.2.2.2)
 have : wSum a2X (x0.2.1) = 1 * (x0.2.1).length := b8Q (n := 1) _
 have : a0Z (a1R x0).1 = ((a1R x0).1.1).size + a1c a0T ((a1R x0).1.2.2.1) + a1c a1s ((a1R x0).1.2.2.2) := rfl
 have : a1c a0T ((a1R x0).1.2.2.1) = ((a1R x0).1.2.2.1).length + wSum a0T ((a1R x0).1.2.2.1) := rfl
 have : a1c a1s ((a1R x0).1.2.2.2) = ((a1R x0).1.2.2.2).length + wSum a1s ((a1R x0).1.2.2.2) := rfl
 have := a7u b7h ((a1R x0).1.2.2.1)
 have := a7u b9b ((a1R x0).1.2.2.2)
 refine yF 0 0 rfl rfl fun f0_0 => ?_
 refine yF 0 1 rfl rfl fun f0_1 => ?_
 refine yF 0 2 rfl rfl fun f0_2 => ?_
 refine yF 0 3 rfl rfl fun f0_3 => ?_
 refine yF 0 4 rfl rfl fun f0_4 => ?_
 refine yF 0 5 rfl rfl fun f0_5 => ?_
 iterate 10 refine z ?_
 refine zC Tryz.call4 ?_ (hf := c7p (by omega) (by omega))
 iterate 7 refine z ?_
 refine yQ rfl (fun c1 => ?_) fun c1 => ?_
 ·have d1 := of_decide_eq_true c1
  first | have q1 := a2m d1 | skip
  iterate 6 refine z ?_
  first | rfl | (exfalso; omega) | (exfalso; simp_all; done) | (exfalso; simp_all; omega)
 ·have d1 := of_decide_eq_false c1
  first | have q1 := a2q d1 | skip
  iterate 4 refine z ?_
  refine zK 21000 Tryz.call6 ?_ (hf := b1U (by first | omega | (simp only [a3q, a1S, a2W, a1e, a0T, a1s, a0Z, wOp, wTx, a5o] at hb ⊢; omega) | (have hq := hw (by omega); omega)))
  refine a2J 22000 rfl rfl rfl Tryz.call5 (c5J (by omega)) (a0g (a0a rfl) (a0s (a0d a0c (a0d a0c (a0d (a0Q rfl rfl) (a0d (a0Q rfl rfl) (a0d (a0Q rfl rfl) (a0d a0c a0r))))))) a0m) rfl rfl rfl ?_
  iterate 9 refine z ?_
  refine zK 26000 Tryz.call6 ?_ (hf := b1U (by first | omega | (simp only [a3q, a1S, a2W, a1e, a0T, a1s, a0Z, wOp, wTx, a5o] at hb ⊢; omega) | (have hq := hw (by omega); omega)))
  iterate 5 refine z ?_
  refine a2J 29000 rfl rfl rfl Tryz.call7 (b4F (by omega)) (a0g (a0a rfl) (a0s (a0d a0c (a0d a0c (a0d (a0Q rfl rfl) (a0d (a0Q rfl rfl) (a0d (a0Q rfl rfl) (a0d a0c a0r))))))) a0m) rfl rfl rfl ?_
  iterate 11 refine z ?_
  refine a3a rfl rfl rfl Tryz.call8 b0S (a0g (a0a rfl) (a0s (a0d a0c (a0d a0c (a0d (a0Q rfl rfl) (a0d (a0Q rfl rfl) a0r))))) (a0g (a0a rfl) (a0s (a0d a0c (a0d a0c (a0d (a0Q rfl rfl) (a0d (a0Q rfl rfl) a0r))))) a0m)) rfl rfl ?_
  iterate 7 refine z ?_
  refine yQ rfl (fun c2 => ?_) fun c2 => ?_
  ·iterate 6 refine z ?_
   first | rfl | (exfalso; omega) | (exfalso; simp_all; done) | (exfalso; simp_all; omega)
  ·iterate 2 refine z ?_
   refine a0q ?_
   refine a0q ?_
   refine a1M (oB := [1, 4, 6, 7]) (oK := [31007, 36007, 39007, 43007, 44007, 48007, 112031, 112900, 119031, 119900]) (by kernel_rfl) rfl rfl ?_
   refine zD 0 ?_
   refine zD 1 ?_
   refine a2j 43000 2 rfl (by kernel_rfl) rfl rfl rfl Tryz.call6 (b1U (by first | omega | (simp only [a3q, a1S, a2W, a1e, a0T, a1s, a0Z, wOp, wTx, a5o] at hb ⊢; omega) | (have hq := hw (by omega); omega))) (a0g (a0a rfl) (a0s (a0d a0c (a0d a0c (a0d a0c (a0d a0c (a0d a0c (a0d a0c a0r))))))) a0m) rfl rfl rfl rfl rfl ?_
   refine a3D 3 rfl (by kernel_rfl) rfl rfl rfl Tryz.call9 c4G (a0g (a0a rfl) (a0s (a0d a0c (a0d a0c (a0d (a0Q rfl rfl) (a0d (a0Q rfl rfl) (a0d (a0Q rfl rfl) (a0d a0c a0r))))))) (a0g (a0a rfl) (a0s (a0d a0c (a0d a0c (a0d (a0Q rfl rfl) (a0d (a0Q rfl rfl) (a0d (a0Q rfl rfl) (a0d a0c a0r))))))) a0m)) rfl rfl rfl rfl ?_
   refine zD 4 ?_
   refine a1J (by kernel_rfl) ?_
   refine z ?_
   refine yQ rfl (fun c3 => ?_) fun c3 => ?_
   ·iterate 6 refine z ?_
    first | rfl | (exfalso; omega) | (exfalso; simp_all; done) | (exfalso; simp_all; omega)
   ·iterate 8 refine z ?_
    refine a8w [(0, 44007, ⟨false, _, _, _, _⟩, ⟨false, _, _, _, _⟩), (1, 48007, ⟨false, _, _, _, _⟩, ⟨false, _, _, _, _⟩), (2, 36007, ⟨false, _, _, _, _⟩, ⟨false, _, _, _, _⟩)] rfl rfl rfl Tryz.call10 (c7F (x := x0) (by omega) (by omega)) ⟨rfl, rfl, rfl, trivial⟩ rfl (a3X (a0a rfl) (b2K (a4s (a4l rfl) (a4s (a4l rfl) (a4s (a4M rfl) (a4s (a4M rfl) (a4s (a4M rfl) (a4s (a4l rfl) b3N))))))) (a3X (a0a rfl) (a4D (a4l rfl)) a6s)) rfl rfl ?_
    simp only [a0l, a0j, SV.kill, CV.kill, kk, Nat.reduceBEq]
    iterate 9 refine z ?_
    refine a1N (a1A rfl rfl rfl rfl rfl) rfl rfl Tryz.call8 b0S (fun hg => (a0g (a0C rfl hg) (a0s (a0d a0c (a0d a0c (a0d (a0Q rfl rfl) (a0d (a0Q rfl rfl) a0r))))) (a0g (a0C rfl hg) (a0s (a0d a0c (a0d a0c (a0d (a0Q rfl rfl) (a0d (a0Q rfl rfl) a0r))))) a0m))) rfl rfl ?_
    iterate 8 refine z ?_
    refine yQ rfl (fun c4 => ?_) fun c4 => ?_
    ·iterate 6 refine z ?_
     first | rfl | (exfalso; omega) | (exfalso; simp_all; done) | (exfalso; simp_all; omega)
    ·iterate 8 refine z ?_
     refine a8w [(0, 119031, ⟨false, _, _, _, _⟩, ⟨false, _, _, _, _⟩), (1, 119900, ⟨false, _, _, _, _⟩, ⟨false, _, _, _, _⟩)] rfl rfl rfl Tryz.call11 (b6n (x := (a1R x0).1) (by omega) (by omega)) ⟨rfl, rfl, trivial⟩ rfl (a3X (a0a rfl) (b2K (a4s (a4l rfl) (a4s (a4l rfl) (a4s (a4M rfl) (a4s (a4M rfl) b3N))))) (a3X (a0a rfl) (a4D (a4l rfl)) a6s)) rfl rfl ?_
     simp only [a0l, a0j, SV.kill, CV.kill, kk, Nat.reduceBEq]
     iterate 8 refine z ?_
     refine a3a rfl rfl rfl Tryz.call12 (b9n (x := (a1R x0).1) rfl (by omega) (by omega)) (a0g (a0a rfl) (a0s (a0d a0c (a0d a0c (a0d (a0Q rfl rfl) (a0d (a0Q rfl rfl) a0r))))) (a0g (a0a rfl) (a0D a0c) a0m)) rfl rfl ?_
     iterate 7 refine z ?_
     refine yQ rfl (fun c5 => ?_) fun c5 => ?_
     ·have d5 := of_decide_eq_true c5
      first | have q5 := a2m d5 | skip
      iterate 6 refine z ?_
      first | rfl | (exfalso; omega) | (exfalso; simp_all; done) | (exfalso; simp_all; omega)
     ·have d5 := of_decide_eq_false c5
      first | have q5 := a2q d5 | skip
      iterate 8 refine z ?_
      refine yQ rfl (fun c6 => ?_) fun c6 => ?_
      ·have d6 := a2D c6
       iterate 6 refine z ?_
       first | rfl | (exfalso; omega) | (exfalso; simp_all; done) | (exfalso; simp_all; omega)
      ·have d6 := a2E c6
       iterate 4 refine z ?_
       refine zK 75000 Tryz.call6 ?_ (hf := b1U (by first | omega | (simp only [a3q, a1S, a2W, a1e, a0T, a1s, a0Z, wOp, wTx, a5o] at hb ⊢; omega) | (have hq := hw (by omega); omega)))
       refine a2J 76000 rfl rfl rfl Tryz.call7 (b4F (by omega)) (a0g (a0a rfl) (a0s (a0d a0c (a0d a0c (a0d (a0Q rfl rfl) (a0d (a0Q rfl rfl) (a0d (a0Q rfl rfl) (a0d a0c a0r))))))) a0m) rfl rfl rfl ?_
       iterate 11 refine z ?_
       refine a3a rfl rfl rfl Tryz.call8 b0S (a0g (a0a rfl) (a0s (a0d a0c (a0d a0c (a0d (a0Q rfl rfl) (a0d (a0Q rfl rfl) a0r))))) (a0g (a0a rfl) (a0s (a0d a0c (a0d a0c (a0d (a0Q rfl rfl) (a0d (a0Q rfl rfl) a0r))))) a0m)) rfl rfl ?_
       iterate 7 refine z ?_
       refine yQ rfl (fun c7 => ?_) fun c7 => ?_
       ·iterate 6 refine z ?_
        first | rfl | (exfalso; omega) | (exfalso; simp_all; done) | (exfalso; simp_all; omega)
       ·iterate 8 refine z ?_
        refine a3a rfl rfl rfl Tryz.call12 (b9n (x := (a1R x0).1) rfl (by omega) (by omega)) (a0g (a0a rfl) (a0s (a0d a0c (a0d a0c (a0d (a0Q rfl rfl) (a0d (a0Q rfl rfl) a0r))))) (a0g (a0a rfl) (a0D a0c) a0m)) rfl rfl ?_
        iterate 7 refine z ?_
        refine yQ rfl (fun c8 => ?_) fun c8 => ?_
        ·have d8 := of_decide_eq_true c8
         first | have q8 := a2m d8 | skip
         iterate 6 refine z ?_
         first | rfl | (exfalso; omega) | (exfalso; simp_all; done) | (exfalso; simp_all; omega)
        ·have d8 := of_decide_eq_false c8
         first | have q8 := a2q d8 | skip
         iterate 8 refine z ?_
         refine yQ rfl (fun c9 => ?_) fun c9 => ?_
         ·have d9 := a2D c9
          iterate 6 refine z ?_
          first | rfl | (exfalso; omega) | (exfalso; simp_all; done) | (exfalso; simp_all; omega)
         ·have d9 := a2E c9
          iterate 7 refine z ?_
          first | rfl | (exfalso; omega) | (exfalso; simp_all; done) | (exfalso; simp_all; omega)
open Go.RowKit Go.ChangeShapes Go.WideShapes Go.Deep
def a3i (W : World) : List DV → List Value → Prop := a1g (fun b => b < W.heap.size) W
structure OpensD (P : Program) (Q : List DV → Prop) (t : TypeId) : Prop where
 run : ∀ {H : Type} (enc : TypeId × Value → H) (W : World) (base : Nat) (spare : Nat → Bool) (held : Bool) (fuel : Nat) (cs : List Value) (y : DataW H × List MemPlace),
  DataW.trod enc P W base spare held fuel t cs = some y → ∃ ds, Q ds ∧ a3i W ds cs
def Is {α : Type} (enc : α → List DV) (ds : List DV) : Prop := ∃ x, ds = enc x
theorem a8h {P : Program} {t : TypeId} (ht : P.underlying t = some (.int .i64)) : OpensD P (Is a4b) t := by
 refine ⟨fun {H} enc W base spare held fuel cs y h => ?_⟩
 obtain ⟨n, rfl, _, hw⟩ := DataW.trod_int ht h
 have hb : -9223372036854775808 ≤ n ∧ n ≤ 9223372036854775807 := by simpa [Lit.wf, IntKind.min, IntKind.max, IntKind.signed, IntKind.bits] using hw
 exact ⟨_, ⟨n, rfl⟩, by unfold a3i a1g a1g Lay; exact ⟨_, _, rfl, ⟨rfl, a2y hb.1 hb.2⟩, rfl⟩⟩
theorem c6n {P : Program} {t : TypeId} (ht : P.underlying t = some (.int .u8)) : OpensD P (Is a0V) t := by
 refine ⟨fun {H} enc W base spare held fuel cs y h => ?_⟩
 obtain ⟨n, rfl, _, hw⟩ := DataW.trod_int ht h
 have hb : 0 ≤ n ∧ n ≤ 255 := by simpa [Lit.wf, IntKind.min, IntKind.max, IntKind.signed, IntKind.bits] using hw
 have e : ((UInt8.ofNat n.toNat).toNat : Int) = n := by
  rw [UInt8.toNat_ofNat']
  have : n.toNat % 2 ^ 8 = n.toNat := Nat.mod_eq_of_lt (by omega)
  rw [this]; omega
 refine ⟨_, ⟨UInt8.ofNat n.toNat, rfl⟩, ?_⟩
 simp only [a3i, a1g, Lay]
 rw [e]
 exact ⟨_, _, rfl, ⟨rfl, by simpa [InR, IntKind.min, IntKind.max, IntKind.signed, IntKind.bits] using hb⟩, rfl⟩
theorem a8m {P : Program} {t : TypeId} (ht : P.underlying t = some .string) : OpensD P (Is a7y) t := by
 refine ⟨fun {H} enc W base spare held fuel cs y h => ?_⟩
 obtain ⟨s, rfl, _, hs⟩ := DataW.trod_string ht h
 exact ⟨_, ⟨s, rfl⟩, by simp only [a3i, a1g, Lay]; exact ⟨_, _, rfl, ⟨rfl, by simpa [maxLen] using hs⟩, rfl⟩⟩
theorem b5r {α : Type} {enc : α → List DV} {W : World} {sz : Nat} {f : Nat → Option Value} (hs : ∀ x, (enc x).length = sz) : ∀ n : Nat,
  (∀ i, i < n → ∃ x ci, a3i W (enc x) ci ∧ ∀ j, j < sz → f (i * sz + j) = ci[j]?) → ∃ (xs : List α) (cells : List Value), xs.length = n ∧ a3i W (xs.flatMap enc) cells ∧ ∀ j u, cells[j]? = some u → f j = some u
 | 0, _ => ⟨[], [], rfl, by simp [a3i, a1g], by simp⟩
 | n + 1, h => by
  obtain ⟨xs, cells, h1, h2, h3⟩ := b5r hs n (fun i hi => h i (by omega))
  obtain ⟨x, ci, g1, g2⟩ := h n (by omega)
  have hl : cells.length = n * sz := by rw [a4t _ _ h2, a6W hs, h1]
  have hci : ci.length = sz := by rw [a4t _ _ g1, hs]
  refine ⟨xs ++ [x], cells ++ ci, by simp [h1], by have := b3K _ _ _ _ h2 g1; simp only [List.flatMap_append, List.flatMap_cons, List.flatMap_nil, List.append_nil]; exact this, fun j u hu => ?_⟩
  rcases Nat.lt_or_ge j cells.length with hj | hj
  ·rw [List.getElem?_append_left hj] at hu; exact h3 j u hu
  ·rw [List.getElem?_append_right hj] at hu
   have hjs : j - cells.length < sz := by rw [← hci]; exact (List.getElem?_eq_some_iff.1 hu).1
   have := g2 (j - cells.length) hjs
   rw [show n * sz + (j - cells.length) = j by omega] at this
   rw [this, hu]
theorem a9Q {α : Type} {P : Program} {enc : α → List DV} {t e : TypeId} {sz : Nat} (e' : Nat) (hs : ∀ x, (enc x).length = sz) (hsz : Nat.blt 0 sz = true) (ht : P.underlying t = some (.slice e)) (hc : P.cellsOf e = sz) (he : OpensD P (Is enc) e) : OpensD P (Is fun xs : List α => [a2H e' sz enc xs]) t := by
 refine ⟨fun {H} ench W base spare held fuel cs y h => ?_⟩
 have hpos : 0 < sz := by simpa [Nat.blt_eq] using hsz
 rcases open_slice ht h with ⟨rfl, _⟩ | ⟨a, len, cap, m, n, D, Pl, rfl, _, hl, hm, hmm, _, hi⟩
 ·refine ⟨_, ⟨[], rfl⟩, ?_⟩
  simp only [a3i, a1g, Lay]
  exact ⟨_, _, rfl, ⟨none, 0, [], rfl, Nat.le_refl _, by simp [maxLen], hpos, by simp, by simp [a1g], fun h => by simp at h⟩, rfl⟩
 ·have hlm : len ≤ m := by rw [hmm]; split <;> omega
  obtain ⟨xs, cells, h1, h2, h3⟩ := b5r (W := W) (f := fun j => W.cell? (a.add j)) hs len (fun i hil => by
   obtain ⟨cs', hc1, hc2⟩ := hi i (by omega)
   obtain ⟨ds, ⟨x, rfl⟩, hx⟩ := he.run ench W base spare held n cs' _ hc2
   obtain ⟨_, hcl, hat⟩ := World.cells?_some hc1
   refine ⟨x, cs', hx, fun j hj => ?_⟩
   have := hat j (by rw [hc]; exact hj)
   rw [← Go.Deep.add_add, hc] at *
   exact this)
  refine ⟨_, ⟨xs, rfl⟩, ?_⟩
  simp only [a3i, a1g]
  refine ⟨_, _, rfl, ?_, rfl⟩
  simp only [Lay]
  refine ⟨some a, cap, cells, by rw [h1], by omega, hm, hpos, a6W hs xs, h2, fun hp => ?_⟩
  have hcl : 0 < cells.length := by
   rw [a4t _ _ h2, a6W hs]
   exact Nat.mul_pos hp hpos
  have h0 := h3 0 _ (List.getElem?_eq_getElem hcl)
  have ha0 : a.add 0 = a := by simp [Addr.add]
  simp only [ha0] at h0
  have hsp : a.spot = none := by
   cases hs : a.spot with
   | none => rfl
   | some s =>
    unfold World.cell? at h0
    split at h0
    ·simp [hs] at h0
    ·cases h0
  obtain ⟨b, off, sp⟩ := a
  simp only at hsp
  subst hsp
  refine ⟨b, off, rfl, World.block_lt_of_cell? W _ h0, fun j u hu => ?_⟩
  have := h3 j u hu
  simp only [a4Z] at this
  exact this
/-! ### structs -/
def b4g : List (List DV → Prop) → List DV → Prop
 | [], ds => ds = []
 | Q :: Qs, ds => ∃ a b, ds = a ++ b ∧ Q a ∧ b4g Qs b
def a9q (P : Program) : List Field → Nat → Nat → Bool
 | [], off, n => off == n
 | f :: fs, off, n => f.offset == off && a9q P fs (off + P.cellsOf f.type) n
def b3F (P : Program) : List Field → List (List DV → Prop) → Prop
 | [], [] => True
 | f :: fs, Q :: Qs => OpensD P Q f.type ∧ b3F P fs Qs
 | _, _ => False
theorem b5W {P : Program} {W : World} {H : Type} (enc : TypeId × Value → H) (base : Nat) (spare : Nat → Bool) (held : Bool) (n : Nat) {cs : List Value} : ∀ (fs : List Field) (Qs : List (List DV → Prop)) (off : Nat), a9q P fs off cs.length = true → b3F P fs Qs →
  (∀ f ∈ fs, ∃ y, DataW.trod enc P W base spare held n f.type ((cs.drop f.offset).take (P.cellsOf f.type)) = some y) → ∃ ds, b4g Qs ds ∧ a3i W ds (cs.drop off)
 | [], [], off, h1, _, _ => by
  simp only [a9q, beq_iff_eq] at h1
  subst h1
  exact ⟨[], rfl, by simp [a3i, a1g]⟩
 | [], _ :: _, _, _, h2, _ => h2.elim
 | _ :: _, [], _, _, h2, _ => h2.elim
 | f :: fs, Q :: Qs, off, h1, h2, h3 => by
  simp only [a9q, Bool.and_eq_true, beq_iff_eq] at h1
  obtain ⟨e1, h1⟩ := h1
  obtain ⟨y, hy⟩ := h3 f (by simp)
  rw [e1] at hy
  obtain ⟨a, ha, la⟩ := h2.1.run enc W base spare held n _ _ hy
  obtain ⟨b, hb, lb⟩ := b5W enc base spare held n fs Qs _ h1 h2.2 (fun g hg => h3 g (by simp [hg]))
  refine ⟨a ++ b, ⟨a, b, rfl, ha, hb⟩, ?_⟩
  have := b3K _ _ _ _ la lb
  rw [← List.drop_drop, List.take_append_drop] at this
  exact this
theorem a6z {P : Program} {t : TypeId} {fs : Array Field} {Qs : List (List DV → Prop)} (ht : P.underlying t = some (.struct fs)) (hc : a9q P fs.toList 0 (P.cellsOf t) = true) (h : b3F P fs.toList Qs) : OpensD P (b4g Qs) t := by
 refine ⟨fun {H} enc W base spare held fuel cs y h' => ?_⟩
 obtain ⟨xs, n, _, _, hl, hlen, hf⟩ := DataW.trod_struct ht h'
 have := b5W (cs := cs) enc base spare held n fs.toList Qs 0 (by rw [hl]; exact hc) h (fun f hf' => by
  obtain ⟨i, hi⟩ := List.mem_iff_getElem?.1 hf'
  have hi' : fs[i]? = some f := by simpa using hi
  have h2 := hf i f hi'
  have hlt : i < xs.length := by
   rw [hlen]
   rw [Array.getElem?_eq_some_iff] at hi'
   exact hi'.1
  rw [List.getElem?_eq_getElem hlt] at h2
  exact ⟨_, h2⟩)
 simpa using this
theorem OpensD.mono {P : Program} {Q R : List DV → Prop} {t : TypeId} (h : OpensD P Q t) (hq : ∀ ds, Q ds → R ds) : OpensD P R t := by
 refine ⟨fun {H} enc W base spare held fuel cs y h' => ?_⟩
 obtain ⟨ds, h1, h2⟩ := h.run enc W base spare held fuel cs y h'
 exact ⟨ds, hq ds h1, h2⟩
/-! ### a call from the outside -/
def a3U (w : World) : List SV → List Value → Prop
 | [], vs => vs = []
 | .one c :: us, vs => ∃ d v vs', c = .dv [] d ∧ vs = v :: vs' ∧ a3i w [d] [v] ∧ a3U w us vs'
 | .agg cs :: us, vs => ∃ ds xs vs', cs = ds.map (CV.dv []) ∧ vs = .agg xs.toArray :: vs' ∧ a3i w ds xs ∧ a3U w us vs'
 | _ :: _, _ => False
theorem b9G {w : World} {L : Lyt} {d : DV} {v : Value} (h : a3i w [d] [v]) : CVr ⟨w, [], L.rv⟩ L w (.dv [] d) v := by
 simp only [a3i, a1g] at h
 obtain ⟨v', _, e, h1, rfl⟩ := h
 simp only [List.cons.injEq, and_true] at e
 subst e
 simp only [CVr]
 exact a8u (fun b hb _ => ⟨.inl ⟨hb, by simp⟩, rfl⟩) d _ h1
theorem b5I {w : World} {L : Lyt} : ∀ {ds : List DV} {vs : List Value}, a3i w ds vs → CVL ⟨w, [], L.rv⟩ L w (ds.map (CV.dv [])) vs
 | [], _, h => by simp only [a3i, a1g] at h; subst h; rfl
 | d :: ds, _, h => by
  simp only [a3i, a1g] at h
  obtain ⟨v, vs', rfl, h1, h2⟩ := h
  exact ⟨v, vs', rfl, b9G (by simp only [a3i, a1g]; exact ⟨v, [], rfl, h1, rfl⟩), b5I h2⟩
theorem b3a {P : Program} {w : World} {L : Lyt} : ∀ {us : List SV} {vs : List Value}, a3U w us vs → vs.length = us.length ∧ (∀ u ∈ us, u.keys = [] ∧ u.boxes = []) ∧ ∀ (i : Nat) (v : SV), us[i]? = some v → ∃ x, vs[i]? = some x ∧ SVr P ⟨w, [], L.rv⟩ L w v x
 | [], _, h => by simp only [a3U] at h; subst h; simp
 | .one c :: us, _, h => by
  simp only [a3U] at h
  obtain ⟨d, v, vs', rfl, rfl, h1, h2⟩ := h
  obtain ⟨g1, g2, g3⟩ := b3a (P := P) (L := L) h2
  refine ⟨by simp [g1], fun u hu => ?_, fun i x hx => ?_⟩
  ·rcases List.mem_cons.1 hu with rfl | hu
   ·exact ⟨rfl, rfl⟩
   ·exact g2 u hu
  ·cases i with
   | zero => simp only [List.getElem?_cons_zero, Option.some.injEq] at hx; subst hx; exact ⟨v, rfl, by simp only [SVr]; exact b9G h1⟩
   | succ i => simpa using g3 i x (by simpa using hx)
 | .agg cs :: us, _, h => by
  simp only [a3U] at h
  obtain ⟨ds, xs, vs', rfl, rfl, h1, h2⟩ := h
  obtain ⟨g1, g2, g3⟩ := b3a (P := P) (L := L) h2
  refine ⟨by simp [g1], fun u hu => ?_, fun i x hx => ?_⟩
  ·rcases List.mem_cons.1 hu with rfl | hu
   ·refine ⟨?_, rfl⟩
    simp only [SV.keys]
    rw [List.flatMap_eq_nil_iff]
    intro c hc
    obtain ⟨d, _, rfl⟩ := List.mem_map.1 hc
    rfl
   ·exact g2 u hu
  ·cases i with
   | zero => simp only [List.getElem?_cons_zero, Option.some.injEq] at hx; subst hx; exact ⟨_, rfl, by simp only [SVr]; exact ⟨xs, rfl, b5I h1⟩⟩
   | succ i => simpa using g3 i x (by simpa using hx)
 | .tup _ :: _, _, h => by simp [a3U] at h
 | .box _ _ :: _, _, h => by simp [a3U] at h
 | .ref _ _ :: _, _, h => by simp [a3U] at h
 | .eptr _ _ :: _, _, h => by simp [a3U] at h
 | .ksl _ _ _ _ :: _, _, h => by simp [a3U] at h
 | .fn _ _ :: _, _, h => by simp [a3U] at h
 | .clo _ _ :: _, _, h => by simp [a3U] at h
 | .opt _ _ :: _, _, h => by simp [a3U] at h
 | .any :: _, _, h => by simp [a3U] at h
theorem c6C {P : Program} {f : FuncId} {us : List SV} {b : Bool} (hf : PFn P f us (.one (.dv [] (.bool b)))) {w : World} {vs : List Value} (h : a3U w us vs) :
  Calls P f vs.toArray w fun e w' => e = .returned (.bool b) ∧ Below w.heap.size w w' := by
 let L : Lyt := ⟨fun _ => 0, fun _ => [], fun _ => .bool false⟩
 obtain ⟨h1, h2, h3⟩ := b3a (P := P) (L := L) h
 obtain ⟨t1, t2⟩ := b2f us 0 h2
 have hr : Rel P ⟨w, [], L.rv⟩ us.length L ⟨a2s 0 us, [], []⟩ ⟨vs.toArray, []⟩ w := {
  df := rfl
  sz := by simp [h1]
  tm := fun i v hv => by
   obtain ⟨_, h4⟩ := a7k us 0 i v hv
   obtain ⟨x, h5, h6⟩ := h3 i v (by simpa using h4)
   have : vs.toArray.getD i undef = x := by simp [Array.getD_eq_getD_getElem?, h5]
   rw [this]; exact h6
  bx := fun i t cs h => by cases h
  ks := fun k c h => by cases h
  b1 := fun i x h => by cases h
  k1 := fun k c h => by cases h
  kn := fun k c h => by cases h
  bb := fun i j x y h => by cases h
  bk := fun i k x c h => by cases h
  kk := fun k j c d h => by cases h
  lk := fun k hk => by simp only [St.tk, t1, List.flatMap_nil, List.append_nil] at hk; cases hk
  lb := fun b hb => by simp only [St.tb, t2] at hb; cases hb
  s0 := fun b hb => by cases hb
  chg := Chg.refl _ _ }
 refine (hf.ok w [] L vs h1 hr).mono ?_
 rintro e w' ⟨r, res, σ', L', rfl, rfl, hr'⟩
 have hv := hr'.tm 0 _ rfl
 simp only [SVr, CVr, Lay] at hv
 refine ⟨?_, hr'.chg.below⟩
 have : (#[r] : Array Value).getD 0 undef = r := rfl
 rw [this] at hv
 rw [hv]
end Go.Proofs.YtfejjkndbpejbaaGreat
