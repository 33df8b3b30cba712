/-
  Contracts of the program's functions for the statements RunSchedule, by the rules of the logic. Conditions: none but those in the theorems.
-/
import Derived.Test.YteellmjlalgjaaaGreatQRS2
set_option maxHeartbeats 4000000
set_option maxRecDepth 100000
namespace Go.Proofs.YteellmjlalgjaaaGreat
open Go.RowKit
open Go.Proofs
set_option linter.unusedVariables false
set_option linter.unusedSimpArgs false
def a3M (x : a0I) (k : a1g) : a0J := if 0 ≤ a0X x k then (x.2.1.getD (a0X x k).toNat default).2 else []
def a4q (r : a0J) (f : Str) : a0J × Bool := a1I r f ((a1d r f).1 + 1)
def rgK (k : a1g) : a3V := (true, true, k, k)
def rg0 : a3V := (false, false, (0, 0, ByteArray.empty), (0, 0, ByteArray.empty))
def a8L (x : a0I) (k : a1g) : Int := if a0X x k < 0 then -1 else ((x.2.1.getD (a0X x k).toNat default).2.length : Int)
def opI (x : a0I) (o : OpT) : a0I × Int × Bool :=
 if o.1 = 1 then ((a1f x o.2.2.1 o.2.2.2.1).1, 1, (a1f x o.2.2.1 o.2.2.2.1).2)
 else if o.1 = 2 then ((a2H x o.2.2.1 o.2.2.2.1).1, 1, (a2H x o.2.2.1 o.2.2.2.1).2)
 else if o.1 = 3 then ((a1L x (rgK o.2.2.1)).1, (a1L x (rgK o.2.2.1)).2, true)
 else if o.1 = 5 then ((a1L x rg0).1, (a1L x rg0).2, true)
 else if o.1 = 4 then (x, a8L x o.2.2.1, true)
 else if (a4q (a3M x o.2.2.1) o.2.2.2.2).2 = false then (x, 0, false)
 else ((a1f x o.2.2.1 (a4q (a3M x o.2.2.1) o.2.2.2.2).1).1, (a1d (a3M x o.2.2.1) o.2.2.2.2).1 + 1, (a1f x o.2.2.1 (a4q (a3M x o.2.2.1) o.2.2.2.2).1).2)
def a3y (x : a0I) (k : a1g) (f : Str) : a0I × Int × Bool := ((a1f x k (a4q (a3M x k) f).1).1, (a1d (a3M x k) f).1 + 1, (a4q (a3M x k) f).2 && (a1f x k (a4q (a3M x k) f).1).2)
def opM (x : a0I) (o : OpT) : a0I × Int × Bool :=
 if o.1 = 1 then ((a1f x o.2.2.1 o.2.2.2.1).1, 1, (a1f x o.2.2.1 o.2.2.2.1).2)
 else if o.1 = 2 then ((a2H x o.2.2.1 o.2.2.2.1).1, 1, (a2H x o.2.2.1 o.2.2.2.1).2)
 else if o.1 = 3 then ((a1L x (rgK o.2.2.1)).1, (a1L x (rgK o.2.2.1)).2, true)
 else if o.1 = 4 then (x, a8L x o.2.2.1, true)
 else if o.1 = 5 then ((a1L x rg0).1, (a1L x rg0).2, true)
 else a3y x o.2.2.1 o.2.2.2.2
theorem b0z (x : a0I) (o : OpT) : opI x o = opM x o ∨ ((opI x o).2.2 = false ∧ (opM x o).2.2 = false) := by
 unfold opI opM
 by_cases h1 : o.1 = 1
 ·simp [h1]
 ·by_cases h2 : o.1 = 2
  ·simp [h2]
  ·by_cases h3 : o.1 = 3
   ·simp [h3]
   ·by_cases h5 : o.1 = 5
    ·simp [h5]
    ·by_cases h4 : o.1 = 4
     ·simp [h4]
     ·rw [if_neg h1, if_neg h2, if_neg h3, if_neg h5, if_neg h4, if_neg h1, if_neg h2, if_neg h3, if_neg h4, if_neg h5]
      by_cases h : (a4q (a3M x o.2.2.1) o.2.2.2.2).2 = false
      ·right; rw [if_pos h]; simp [a3y, h]
      ·left; rw [if_neg h]
       have h' : (a4q (a3M x o.2.2.1) o.2.2.2.2).2 = true := by simpa using h
       simp [a3y, h']
def same (x : a0I) (o : OpT) : Bool := decide (o.1 = 4) || (!decide (o.1 = 1) && !decide (o.1 = 2) && !decide (o.1 = 3) && !decide (o.1 = 5) && !(a4q (a3M x o.2.2.1) o.2.2.2.2).2)
section
variable {x : a0I} {o : OpT}
theorem c4L (h : o.1 = 1) : opI x o = ((a1f x o.2.2.1 o.2.2.2.1).1, 1, (a1f x o.2.2.1 o.2.2.2.1).2) := by rw [opI, if_pos h]
theorem c0R (h : o.1 = 2) : opI x o = ((a2H x o.2.2.1 o.2.2.2.1).1, 1, (a2H x o.2.2.1 o.2.2.2.1).2) := by rw [opI, if_neg (by omega), if_pos h]
theorem c3z (h : o.1 = 3) : opI x o = ((a1L x (rgK o.2.2.1)).1, (a1L x (rgK o.2.2.1)).2, true) := by rw [opI, if_neg (by omega), if_neg (by omega), if_pos h]
theorem c1d (h : o.1 = 5) : opI x o = ((a1L x rg0).1, (a1L x rg0).2, true) := by rw [opI, if_neg (by omega), if_neg (by omega), if_neg (by omega), if_pos h]
theorem c5l (h : o.1 = 4) (h2 : a0X x o.2.2.1 < 0) : opI x o = (x, -1, true) := by rw [opI, if_neg (by omega), if_neg (by omega), if_neg (by omega), if_neg (by omega), if_pos h, a8L, if_pos h2]
theorem c1o (h : o.1 = 4) (h2 : ¬ a0X x o.2.2.1 < 0) : opI x o = (x, ((x.2.1.getD (a0X x o.2.2.1).toNat default).2.length : Int), true) := by rw [opI, if_neg (by omega), if_neg (by omega), if_neg (by omega), if_neg (by omega), if_pos h, a8L, if_neg h2]
theorem b1X {k : a1g} (h : 0 ≤ a0X x k) : a3M x k = (x.2.1.getD (a0X x k).toNat default).2 := if_pos h
theorem b2j {k : a1g} (h : ¬ 0 ≤ a0X x k) : a3M x k = [] := if_neg h
theorem b5M {r : a0J} (h1 : o.1 ≠ 1) (h2 : o.1 ≠ 2) (h3 : o.1 ≠ 3) (h5 : o.1 ≠ 5) (h4 : o.1 ≠ 4) (hr : a3M x o.2.2.1 = r) (hk : (!(a1I r o.2.2.2.2 ((a1d r o.2.2.2.2).1 + 1)).2) = true) : opI x o = (x, 0, false) := by
 rw [opI, if_neg h1, if_neg h2, if_neg h3, if_neg h5, if_neg h4, hr, if_pos (by simpa [a4q] using hk)]
theorem b7I {r : a0J} (h1 : o.1 ≠ 1) (h2 : o.1 ≠ 2) (h3 : o.1 ≠ 3) (h5 : o.1 ≠ 5) (h4 : o.1 ≠ 4) (hr : a3M x o.2.2.1 = r) (hk : (!(a1I r o.2.2.2.2 ((a1d r o.2.2.2.2).1 + 1)).2) = false) :
  opI x o = ((a1f x o.2.2.1 (a1I r o.2.2.2.2 ((a1d r o.2.2.2.2).1 + 1)).1).1, (a1d r o.2.2.2.2).1 + 1, (a1f x o.2.2.1 (a1I r o.2.2.2.2 ((a1d r o.2.2.2.2).1 + 1)).1).2) := by
 rw [opI, if_neg h1, if_neg h2, if_neg h3, if_neg h5, if_neg h4, hr, if_neg (by simpa [a4q] using hk)]
 rfl
theorem b2d {r : a0J} (h : same x o = true) (h4 : o.1 ≠ 4) (hr : a3M x o.2.2.1 = r) : ¬ (!(a1I r o.2.2.2.2 ((a1d r o.2.2.2.2).1 + 1)).2) = false := by
 unfold same at h
 rw [hr] at h
 intro hk
 simp only [decide_eq_false h4, Bool.false_or, Bool.and_eq_true] at h
 have := h.2
 unfold a4q at this
 rw [hk] at this
 cases this
theorem a6U (h : same x o = true) (h4 : o.1 = 1 ∨ o.1 = 2 ∨ o.1 = 3 ∨ o.1 = 5) : False := by
 unfold same at h
 rw [decide_eq_false (show ¬ o.1 = 4 by omega)] at h
 simp only [Bool.false_or, Bool.and_eq_true, Bool.not_eq_true', decide_eq_false_iff_not] at h
 omega
theorem c5j (h : same x o = false) : o.1 ≠ 4 := by
 intro h4
 simp [same, h4] at h
theorem b7O {r : a0J} (h : same x o = false) (h1 : o.1 ≠ 1) (h2 : o.1 ≠ 2) (h3 : o.1 ≠ 3) (h5 : o.1 ≠ 5) (hr : a3M x o.2.2.1 = r) : ¬ (!(a1I r o.2.2.2.2 ((a1d r o.2.2.2.2).1 + 1)).2) = true := by
 unfold same at h
 rw [hr] at h
 intro hk
 simp only [decide_eq_false h1, decide_eq_false h2, decide_eq_false h3, decide_eq_false h5, Bool.not_false, Bool.true_and, Bool.or_eq_false_iff] at h
 have := h.2
 unfold a4q at this
 rw [hk] at this
 cases this
end
theorem a8b {r : a0J} {n : Str} (h : a1C r = true) : 0 ≤ (a1d r n).1 ∧ (a1d r n).1 ≤ 1000000000 := by
 unfold a1d
 split
 ·exact ⟨by simp, by simp⟩
 ·rename_i h1
  have hlt := a7W (p := a2d n) r 0 (by omega)
  rw [a1C, Bool.and_eq_true, List.all_eq_true] at h
  have := h.1 (a0q (a2d n) r 0).toNat (List.mem_range.2 (by omega))
  simp only [a4P, Bool.not_eq_true', Bool.or_eq_false_iff, Int.toNat_natCast] at this
  have h2 := this.1.2
  simp only [Bool.not_eq_false', Bool.and_eq_true, decide_eq_true_eq] at h2
  exact h2
theorem a7C {r : a0J} (h : a1C r = true) : r.length ≤ 6 := by
 rw [a1C, Bool.and_eq_true, decide_eq_true_eq] at h
 omega
theorem c3m {x : a0I} {i : Nat} (h : a1E x = true) (hi : i < x.2.1.length) : a1C (x.2.1.getD i default).2 = true := by
 rw [a1E, Bool.and_eq_true, List.all_eq_true] at h
 have := h.1 i (List.mem_range.2 hi)
 simp only [a4u, Bool.not_eq_true', Bool.or_eq_false_iff, Int.toNat_natCast] at this
 simpa using this.1.2
theorem b1U {o : OpT} (h : a3P o = true) : o.2.2.2.1.length ≤ 6 := by
 unfold a3P at h
 simp only [Bool.and_eq_true] at h
 exact a7C h.1.2
theorem b2I {x : a0I} {k : a1g} (h : a1E x = true) (h0 : 0 ≤ a0X x k) : a1C (x.2.1.getD (a0X x k).toNat default).2 = true := c3m h (by have := a5N h0; omega)
theorem c2w {x : a0I} {o : OpT} (hs : a1E x = true) (ho : a3P o = true) (hal : same x o = true) : PFn Tryz.prog 111 [.agg [(.dv [] (.str (x.1))), (.arg 0 (a0t (x.2.1))), (.dv [] (.int .i64 (x.2.2)))], .agg [(.dv [] (.int .i64 (o.1))), (.dv [] (.str (o.2.1))), (.dv [] (.int .i64 (o.2.2.1.1))), (.dv [] (.int .i64 (o.2.2.1.2.1))), (.dv [] (.str (o.2.2.1.2.2))), (.dv [] (a0z (o.2.2.2.1))), (.dv [] (.str (o.2.2.2.2)))]] (.tup [(true, [(.dv [] (.str (x.1))), (.arg 0 (a0t (x.2.1))), (.dv [] (.int .i64 (x.2.2)))]), (false, [(.dv [] (.int .i64 ((opI x o).2.1)))]), (false, [(.dv [] (.bool ((opI x o).2.2)))])]) := by
 refine ⟨a0u Tryz.func111 rfl Tryz.ntmps111 Tryz.results111 rfl (fun C => ?_)⟩
 have hsw := a8N hs
 have hor := b1U ho
 refine yF 0 0 rfl rfl fun f0_0 => ?_
 refine yF 0 2 rfl rfl fun f0_2 => ?_
 refine yF 1 0 rfl rfl fun f1_0 => ?_
 refine yF 1 1 rfl rfl fun f1_1 => ?_
 refine yF 1 2 rfl rfl fun f1_2 => ?_
 refine yF 1 3 rfl rfl fun f1_3 => ?_
 refine yF 1 4 rfl rfl fun f1_4 => ?_
 refine yF 1 5 rfl rfl fun f1_5 => ?_
 refine yF 1 6 rfl rfl fun f1_6 => ?_
 iterate 11 refine z ?_
 refine zC Tryz.call138 ?_ (hf := b1c (x := x) (k := o.2.2.1) )
 iterate 12 refine z ?_
 refine yQ rfl (fun c1 => ?_) fun c1 => ?_
 ·have d1 := c5p c1
  exact absurd d1 (fun h => a6U hal (by omega))
 ·have d1 := c5q c1
  iterate 4 refine z ?_
  refine yQ rfl (fun c2 => ?_) fun c2 => ?_
  ·have d2 := c5p c2
   exact absurd d2 (fun h => a6U hal (by omega))
  ·have d2 := c5q c2
   iterate 4 refine z ?_
   refine yQ rfl (fun c3 => ?_) fun c3 => ?_
   ·have d3 := c5p c3
    exact absurd d3 (fun h => a6U hal (by omega))
   ·have d3 := c5q c3
    iterate 4 refine z ?_
    refine yQ rfl (fun c4 => ?_) fun c4 => ?_
    ·have d4 := c5p c4
     exact absurd d4 (fun h => a6U hal (by omega))
    ·have d4 := c5q c4
     iterate 4 refine z ?_
     refine yQ rfl (fun c5 => ?_) fun c5 => ?_
     ·have d5 := c5p c5
      iterate 5 refine z ?_
      refine yQ rfl (fun c6 => ?_) fun c6 => ?_
      ·have d6 := c5p c6
       iterate 10 refine z ?_
       refine a1V (a0K hT rfl rfl rfl rfl) (a0B rfl) (a0B rfl) rfl rfl rfl ?_
       rw [c5l d5 d6]
       rfl
      ·have d6 := c5q c6
       have hfx : a0X x o.2.2.1 < x.2.1.length := by have := a5N (x := x) (k := o.2.2.1) (by omega); omega
       iterate 2 refine z ?_
       refine a0p ?_
       refine a3p 4 (oB := [2, 3]) (oK := []) (by kernel_rfl) rfl rfl ?_
       refine a1i 0 rfl (by kernel_rfl) rfl rfl (a2i hT rfl rfl (a0a rfl) rfl rfl) rfl rfl rfl rfl rfl ?_
       refine a1i 1 rfl (by kernel_rfl) rfl rfl (a4S hT rfl rfl rfl (a0a rfl)) rfl rfl rfl rfl rfl ?_
       refine a1i 2 rfl (by kernel_rfl) rfl rfl (a3C hT rfl rfl (a0a rfl) rfl rfl) rfl rfl rfl rfl rfl ?_
       refine a1i 3 rfl (by kernel_rfl) rfl rfl (a1Q (.inl rfl) (a0a rfl)) rfl rfl rfl rfl rfl ?_
       refine a1i 4 rfl (by kernel_rfl) rfl rfl (a4t hT rfl rfl rfl (b4W (a0a rfl)) (a0a rfl) (fun _ => rfl) (by omega) (by omega)) rfl rfl rfl rfl rfl ?_
       refine a1i 5 rfl (by kernel_rfl) rfl rfl (a6i hT rfl rfl rfl (a0a rfl)) rfl rfl rfl rfl rfl ?_
       refine a1i 6 rfl (by kernel_rfl) rfl rfl (a6i hT rfl rfl rfl (a0a rfl)) rfl rfl rfl rfl rfl ?_
       refine a1i 7 rfl (by kernel_rfl) rfl rfl (b2c hT rfl rfl (a0a rfl) rfl) rfl rfl rfl rfl rfl ?_
       refine a1i 8 rfl (by kernel_rfl) rfl rfl (a4H hT rfl rfl (a0a rfl)) rfl rfl rfl rfl rfl ?_
       refine a3t 9 rfl (by kernel_rfl) rfl hT rfl rfl rfl (a0a rfl) (a0a rfl) rfl rfl rfl rfl rfl rfl ?_
       refine a3s [10, 11] rfl rfl (by kernel_rfl) ?_
       iterate 6 refine z ?_
       refine a1V (a0K hT rfl rfl rfl rfl) (a0B rfl) (a0B rfl) rfl rfl rfl ?_
       rw [c1o d5 d6]
       rfl
     ·have d5 := c5q c5
      iterate 4 refine z ?_
      refine yO rfl rfl (a2s hT hB rfl rfl rfl a2o) rfl ?_
      iterate 8 refine z ?_
      refine yQ rfl (fun c7 => ?_) fun c7 => ?_
      ·have d7 := c5p c7
       have hb9 := b2I hs d7
       have hgb := a8b (n := o.2.2.2.2) hb9
       have hrl := a7C hb9
       have hrq := b1X d7
       have hlt9 := a5N d7
       refine a0j ?_
       iterate 3 refine z ?_
       refine yO rfl rfl (a4t hT rfl rfl rfl (b4W (a0a rfl)) (a0a rfl) (fun _ => rfl) (by omega) (by omega)) rfl ?_
       iterate 8 refine z ?_
       refine zC Tryz.call109 ?_ (hf := a6j (x := ((x.2.1.getD (a0X x o.2.2.1).toNat default).2)) (n := o.2.2.2.2))
       iterate 12 refine z ?_
       refine zK 499 Tryz.call142 ?_ (hf := b0A (r := ((x.2.1.getD (a0X x o.2.2.1).toNat default).2)) (n := o.2.2.2.2) (v := (a1d ((x.2.1.getD (a0X x o.2.2.1).toNat default).2) o.2.2.2.2).1 + 1) (by omega))
       iterate 11 refine z ?_
       refine yQ rfl (fun c8 => ?_) fun c8 => ?_
       ·iterate 8 refine z ?_
        refine a1V (a0K hT rfl rfl rfl rfl) (a0B rfl) (a0B rfl) rfl rfl rfl ?_
        rw [b5M d1 d2 d3 d4 d5 hrq c8]
        rfl
       ·exact absurd c8 (b2d hal d5 hrq)
      ·have d7 := c5q c7
       have hb9 : a1C [] = true := rfl
       have hgb := a8b (n := o.2.2.2.2) hb9
       have hrl := a7C hb9
       have hrq := b2j d7
       iterate 6 refine z ?_
       refine a3k rfl rfl rfl Tryz.call109 (a6j (x := ([] : a0J)) (n := o.2.2.2.2)) (a0f (a0a rfl) (a0l (a0c (a6E rfl rfl) a0m)) (a0f (a0a rfl) (a0H a0b) a0n)) rfl rfl ?_
       iterate 12 refine z ?_
       refine a2U 499 rfl rfl rfl Tryz.call142 (b0A (r := ([] : a0J)) (n := o.2.2.2.2) (v := (a1d ([] : a0J) o.2.2.2.2).1 + 1) (by omega)) (a0f (a0a rfl) (a0l (a0c (a6E rfl rfl) a0m)) (a0f (a0a rfl) (a0H a0b) (a0f (a0a rfl) (a0H a0b) a0n))) rfl rfl rfl ?_
       iterate 11 refine z ?_
       refine yQ rfl (fun c9 => ?_) fun c9 => ?_
       ·iterate 8 refine z ?_
        refine a1V (a0K hT rfl rfl rfl rfl) (a0B rfl) (a0B rfl) rfl rfl rfl ?_
        rw [b5M d1 d2 d3 d4 d5 hrq c9]
        rfl
       ·exact absurd c9 (b2d hal d5 hrq)
theorem c3q {x : a0I} {o : OpT} (hs : a1E x = true) (ho : a3P o = true) (hal : same x o = false) : KFn Tryz.prog 111 [.agg [(.dv [] (.str (x.1))), (.dv [] (a0t (x.2.1))), (.dv [] (.int .i64 (x.2.2)))], .agg [(.dv [] (.int .i64 (o.1))), (.dv [] (.str (o.2.1))), (.dv [] (.int .i64 (o.2.2.1.1))), (.dv [] (.int .i64 (o.2.2.1.2.1))), (.dv [] (.str (o.2.2.1.2.2))), (.dv [] (a0z (o.2.2.2.1))), (.dv [] (.str (o.2.2.2.2)))]] (.tup [(true, [(.dv [] (.str ((opI x o).1.1))), (.key 9001), (.dv [] (.int .i64 ((opI x o).1.2.2)))]), (false, [(.dv [] (.int .i64 ((opI x o).2.1)))]), (false, [(.dv [] (.bool ((opI x o).2.2)))])]) [(9001, some (a0d false (a0t ((opI x o).1.2.1))))] := by
 refine ⟨a0u Tryz.func111 rfl Tryz.ntmps111 Tryz.results111 rfl (fun C => ?_)⟩
 have hsw := a8N hs
 have hor := b1U ho
 refine yF 0 0 rfl rfl fun f0_0 => ?_
 refine yF 0 1 rfl rfl fun f0_1 => ?_
 refine yF 0 2 rfl rfl fun f0_2 => ?_
 refine yF 1 0 rfl rfl fun f1_0 => ?_
 refine yF 1 1 rfl rfl fun f1_1 => ?_
 refine yF 1 2 rfl rfl fun f1_2 => ?_
 refine yF 1 3 rfl rfl fun f1_3 => ?_
 refine yF 1 4 rfl rfl fun f1_4 => ?_
 refine yF 1 5 rfl rfl fun f1_5 => ?_
 refine yF 1 6 rfl rfl fun f1_6 => ?_
 iterate 11 refine z ?_
 refine zC Tryz.call138 ?_ (hf := b1c (x := x) (k := o.2.2.1) )
 iterate 12 refine z ?_
 refine yQ rfl (fun c1 => ?_) fun c1 => ?_
 ·have d1 := c5p c1
  iterate 6 refine z ?_
  refine zK 0 Tryz.call139 ?_ (hf := a9T (x := x) (k := o.2.2.1) (r := o.2.2.2.1) (by omega) (by omega))
  iterate 14 refine z ?_
  rw [c4L d1]
  refine a0r (σ' := ⟨[(4, .box 4 0), (5, .one (.dv [] (.int .i64 (1)))), (6, .one (.dv [] (.bool ((a1f (x) (o.2.2.1) (o.2.2.2.1)).2))))], [(4, 89, [(.dv [] (.str ((a1f (x) (o.2.2.1) (o.2.2.2.1)).1.1))), (.key 9001), (.dv [] (.int .i64 ((a1f (x) (o.2.2.1) (o.2.2.2.1)).1.2.2)))])], [(9001, some (a0d false (a0t ((a1f x o.2.2.1 o.2.2.2.1).1.2.1))))]⟩) (a0e ⟨rfl, rfl, rfl, trivial⟩ ⟨rfl, trivial⟩ ⟨rfl, trivial⟩ rfl) ?_
  iterate 3 refine z ?_
  refine a1V (a0K hT rfl rfl rfl rfl) (a0B rfl) (a0B rfl) rfl rfl rfl ?_
  first | exact ⟨rfl, rfl⟩ | skip
 ·have d1 := c5q c1
  iterate 4 refine z ?_
  refine yQ rfl (fun c2 => ?_) fun c2 => ?_
  ·have d2 := c5p c2
   iterate 6 refine z ?_
   refine zK 0 Tryz.call140 ?_ (hf := c3a (x := x) (k := o.2.2.1) (r := o.2.2.2.1) (by omega) (by omega))
   iterate 14 refine z ?_
   rw [c0R d2]
   refine a0r (σ' := ⟨[(4, .box 4 0), (5, .one (.dv [] (.int .i64 (1)))), (6, .one (.dv [] (.bool ((a2H (x) (o.2.2.1) (o.2.2.2.1)).2))))], [(4, 89, [(.dv [] (.str ((a2H (x) (o.2.2.1) (o.2.2.2.1)).1.1))), (.key 9001), (.dv [] (.int .i64 ((a2H (x) (o.2.2.1) (o.2.2.2.1)).1.2.2)))])], [(9001, some (a0d false (a0t ((a2H x o.2.2.1 o.2.2.2.1).1.2.1))))]⟩) (a0e ⟨rfl, rfl, rfl, trivial⟩ ⟨rfl, trivial⟩ ⟨rfl, trivial⟩ rfl) ?_
   iterate 3 refine z ?_
   refine a1V (a0K hT rfl rfl rfl rfl) (a0B rfl) (a0B rfl) rfl rfl rfl ?_
   first | exact ⟨rfl, rfl⟩ | skip
  ·have d2 := c5q c2
   iterate 4 refine z ?_
   refine yQ rfl (fun c3 => ?_) fun c3 => ?_
   ·have d3 := c5p c3
    iterate 6 refine z ?_
    refine yO rfl rfl (a2s hT hB rfl rfl rfl (a1x a0P rfl rfl rfl rfl rfl (a1x a0P rfl rfl rfl rfl rfl (a1x (a0a rfl) rfl rfl rfl rfl rfl (a1x (a0a rfl) rfl rfl rfl rfl rfl a2o))))) rfl ?_
    refine zK 0 Tryz.call141 ?_ (hf := b5j (x := x) (r := rgK o.2.2.1) (by omega))
    iterate 14 refine z ?_
    rw [c3z d3]
    refine a0r (σ' := ⟨[(4, .box 4 0), (5, .one (.dv [] (.int .i64 ((a1L (x) (rgK o.2.2.1)).2)))), (6, .one (.dv [] (.bool (true))))], [(4, 89, [(.dv [] (.str ((a1L (x) (rgK o.2.2.1)).1.1))), (.key 9001), (.dv [] (.int .i64 ((a1L (x) (rgK o.2.2.1)).1.2.2)))])], [(9001, some (a0d false (a0t ((a1L x (rgK o.2.2.1)).1.2.1))))]⟩) (a0e ⟨rfl, rfl, rfl, trivial⟩ ⟨rfl, trivial⟩ ⟨rfl, trivial⟩ rfl) ?_
    iterate 3 refine z ?_
    refine a1V (a0K hT rfl rfl rfl rfl) (a0B rfl) (a0B rfl) rfl rfl rfl ?_
    first | exact ⟨rfl, rfl⟩ | skip
   ·have d3 := c5q c3
    iterate 4 refine z ?_
    refine yQ rfl (fun c4 => ?_) fun c4 => ?_
    ·have d4 := c5p c4
     iterate 2 refine z ?_
     refine yO rfl rfl (a2s hT hB rfl rfl rfl a2o) rfl ?_
     refine zK 0 Tryz.call141 ?_ (hf := b5j (x := x) (r := rg0) (by omega))
     iterate 14 refine z ?_
     rw [c1d d4]
     refine a0r (σ' := ⟨[(4, .box 4 0), (5, .one (.dv [] (.int .i64 ((a1L (x) (rg0)).2)))), (6, .one (.dv [] (.bool (true))))], [(4, 89, [(.dv [] (.str ((a1L (x) (rg0)).1.1))), (.key 9001), (.dv [] (.int .i64 ((a1L (x) (rg0)).1.2.2)))])], [(9001, some (a0d false (a0t ((a1L x rg0).1.2.1))))]⟩) (a0e ⟨rfl, rfl, rfl, trivial⟩ ⟨rfl, trivial⟩ ⟨rfl, trivial⟩ rfl) ?_
     iterate 3 refine z ?_
     refine a1V (a0K hT rfl rfl rfl rfl) (a0B rfl) (a0B rfl) rfl rfl rfl ?_
     first | exact ⟨rfl, rfl⟩ | skip
    ·have d4 := c5q c4
     iterate 4 refine z ?_
     refine yQ rfl (fun c5 => ?_) fun c5 => ?_
     ·have d5 := c5p c5
      exact absurd d5 (c5j hal)
     ·have d5 := c5q c5
      iterate 4 refine z ?_
      refine yO rfl rfl (a2s hT hB rfl rfl rfl a2o) rfl ?_
      iterate 8 refine z ?_
      refine yQ rfl (fun c6 => ?_) fun c6 => ?_
      ·have d6 := c5p c6
       have hb9 := b2I hs d6
       have hgb := a8b (n := o.2.2.2.2) hb9
       have hrl := a7C hb9
       have hrq := b1X d6
       have hlt9 := a5N d6
       have hsl := b1h ((x.2.1.getD (a0X x o.2.2.1).toNat default).2) o.2.2.2.2 ((a1d ((x.2.1.getD (a0X x o.2.2.1).toNat default).2) o.2.2.2.2).1 + 1)
       refine a0j ?_
       iterate 12 refine z ?_
       refine zC Tryz.call109 ?_ (hf := a6j (x := ((x.2.1.getD (a0X x o.2.2.1).toNat default).2)) (n := o.2.2.2.2))
       iterate 12 refine z ?_
       refine zK 499 Tryz.call142 ?_ (hf := b0A (r := ((x.2.1.getD (a0X x o.2.2.1).toNat default).2)) (n := o.2.2.2.2) (v := (a1d ((x.2.1.getD (a0X x o.2.2.1).toNat default).2) o.2.2.2.2).1 + 1) (by omega))
       iterate 11 refine z ?_
       refine yQ rfl (fun c7 => ?_) fun c7 => ?_
       ·exact absurd c7 (b7O hal d1 d2 d3 d4 hrq)
       ·iterate 7 refine z ?_
        refine a2U 0 rfl rfl rfl Tryz.call139 (a9T (x := x) (k := o.2.2.1) (r := (a1I ((x.2.1.getD (a0X x o.2.2.1).toNat default).2) o.2.2.2.2 ((a1d ((x.2.1.getD (a0X x o.2.2.1).toNat default).2) o.2.2.2.2).1 + 1)).1) (by omega) (by omega)) (a0f (a0a rfl) (a0l (a0c a0b (a0c a0b (a0c a0b a0m)))) (a0f (a0a rfl) (a0l (a0c a0b (a0c a0b (a0c a0b a0m)))) (a0f (a0a rfl) (a0l (a0c (a0L rfl rfl) a0m)) a0n))) rfl rfl rfl ?_
        iterate 16 refine z ?_
        rw [b7I d1 d2 d3 d4 d5 hrq c7]
        refine a0r (σ' := ⟨[(4, .box 4 0), (5, .one (.dv [] (.int .i64 (((a1d ((((x.2.1)).getD (a0X (x) (o.2.2.1)).toNat default).2) (o.2.2.2.2)).1) + (1))))), (6, .one (.dv [] (.bool ((a1f (x) (o.2.2.1) ((a1I ((((x.2.1)).getD (a0X (x) (o.2.2.1)).toNat default).2) (o.2.2.2.2) (((a1d ((((x.2.1)).getD (a0X (x) (o.2.2.1)).toNat default).2) (o.2.2.2.2)).1) + (1))).1)).2))))], [(4, 89, [(.dv [] (.str ((a1f (x) (o.2.2.1) ((a1I ((((x.2.1)).getD (a0X (x) (o.2.2.1)).toNat default).2) (o.2.2.2.2) (((a1d ((((x.2.1)).getD (a0X (x) (o.2.2.1)).toNat default).2) (o.2.2.2.2)).1) + (1))).1)).1.1))), (.key 9001), (.dv [] (.int .i64 ((a1f (x) (o.2.2.1) ((a1I ((((x.2.1)).getD (a0X (x) (o.2.2.1)).toNat default).2) (o.2.2.2.2) (((a1d ((((x.2.1)).getD (a0X (x) (o.2.2.1)).toNat default).2) (o.2.2.2.2)).1) + (1))).1)).1.2.2)))])], [(9001, some (a0d false (a0t ((a1f x o.2.2.1 (a1I ((x.2.1.getD (a0X x o.2.2.1).toNat default).2) o.2.2.2.2 ((a1d ((x.2.1.getD (a0X x o.2.2.1).toNat default).2) o.2.2.2.2).1 + 1)).1).1.2.1))))]⟩) (a0e ⟨rfl, rfl, rfl, trivial⟩ ⟨rfl, trivial⟩ ⟨rfl, trivial⟩ rfl) ?_
        refine z ?_
        refine a1V (a0K hT rfl rfl rfl rfl) (a0B rfl) (a0B rfl) rfl rfl rfl ?_
        first | exact ⟨rfl, rfl⟩ | skip
      ·have d6 := c5q c6
       have hb9 : a1C [] = true := rfl
       have hgb := a8b (n := o.2.2.2.2) hb9
       have hrl := a7C hb9
       have hrq := b2j d6
       have hsl := b1h ([] : a0J) o.2.2.2.2 ((a1d ([] : a0J) o.2.2.2.2).1 + 1)
       iterate 6 refine z ?_
       refine a3k rfl rfl rfl Tryz.call109 (a6j (x := ([] : a0J)) (n := o.2.2.2.2)) (a0f (a0a rfl) (a0l (a0c (a6E rfl rfl) a0m)) (a0f (a0a rfl) (a0H a0b) a0n)) rfl rfl ?_
       iterate 12 refine z ?_
       refine a2U 499 rfl rfl rfl Tryz.call142 (b0A (r := ([] : a0J)) (n := o.2.2.2.2) (v := (a1d ([] : a0J) o.2.2.2.2).1 + 1) (by omega)) (a0f (a0a rfl) (a0l (a0c (a6E rfl rfl) a0m)) (a0f (a0a rfl) (a0H a0b) (a0f (a0a rfl) (a0H a0b) a0n))) rfl rfl rfl ?_
       iterate 11 refine z ?_
       refine yQ rfl (fun c8 => ?_) fun c8 => ?_
       ·exact absurd c8 (b7O hal d1 d2 d3 d4 hrq)
       ·iterate 7 refine z ?_
        refine a2U 0 rfl rfl rfl Tryz.call139 (a9T (x := x) (k := o.2.2.1) (r := (a1I ([] : a0J) o.2.2.2.2 ((a1d ([] : a0J) o.2.2.2.2).1 + 1)).1) (by omega) (by omega)) (a0f (a0a rfl) (a0l (a0c a0b (a0c a0b (a0c a0b a0m)))) (a0f (a0a rfl) (a0l (a0c a0b (a0c a0b (a0c a0b a0m)))) (a0f (a0a rfl) (a0l (a0c (a0L rfl rfl) a0m)) a0n))) rfl rfl rfl ?_
        iterate 16 refine z ?_
        rw [b7I d1 d2 d3 d4 d5 hrq c8]
        refine a0r (σ' := ⟨[(4, .box 4 0), (5, .one (.dv [] (.int .i64 (((a1d ([]) (o.2.2.2.2)).1) + (1))))), (6, .one (.dv [] (.bool ((a1f (x) (o.2.2.1) ((a1I ([]) (o.2.2.2.2) (((a1d ([]) (o.2.2.2.2)).1) + (1))).1)).2))))], [(4, 89, [(.dv [] (.str ((a1f (x) (o.2.2.1) ((a1I ([]) (o.2.2.2.2) (((a1d ([]) (o.2.2.2.2)).1) + (1))).1)).1.1))), (.key 9001), (.dv [] (.int .i64 ((a1f (x) (o.2.2.1) ((a1I ([]) (o.2.2.2.2) (((a1d ([]) (o.2.2.2.2)).1) + (1))).1)).1.2.2)))])], [(9001, some (a0d false (a0t ((a1f x o.2.2.1 (a1I ([] : a0J) o.2.2.2.2 ((a1d ([] : a0J) o.2.2.2.2).1 + 1)).1).1.2.1))))]⟩) (a0e ⟨rfl, rfl, rfl, trivial⟩ ⟨rfl, trivial⟩ ⟨rfl, trivial⟩ rfl) ?_
        refine z ?_
        refine a1V (a0K hT rfl rfl rfl rfl) (a0B rfl) (a0B rfl) rfl rfl rfl ?_
        first | exact ⟨rfl, rfl⟩ | skip
theorem c2K {x : a0I} {k : a1g} {f : Str} (hs : a1E x = true) : KFn Tryz.prog 128 [.agg [(.dv [] (.str (x.1))), (.dv [] (a0t (x.2.1))), (.dv [] (.int .i64 (x.2.2)))], .agg [(.dv [] (.int .i64 (k.1))), (.dv [] (.int .i64 (k.2.1))), (.dv [] (.str (k.2.2)))], .one (.dv [] (.str (f)))] (.tup [(true, [(.dv [] (.str ((a3y x k f).1.1))), (.key 9001), (.dv [] (.int .i64 ((a3y x k f).1.2.2)))]), (false, [(.dv [] (.int .i64 ((a3y x k f).2.1)))]), (false, [(.dv [] (.bool ((a3y x k f).2.2)))])]) [(9001, some (a0d false (a0t ((a3y x k f).1.2.1))))] := by
 refine ⟨a0u Tryz.func128 rfl Tryz.ntmps128 Tryz.results128 rfl (fun C => ?_)⟩
 have hsw := a8N hs
 refine yF 0 0 rfl rfl fun f0_0 => ?_
 refine yF 0 1 rfl rfl fun f0_1 => ?_
 refine yF 0 2 rfl rfl fun f0_2 => ?_
 refine yF 1 0 rfl rfl fun f1_0 => ?_
 refine yF 1 1 rfl rfl fun f1_1 => ?_
 refine yF 1 2 rfl rfl fun f1_2 => ?_
 refine a0G (x := .tmp 2) (a0a rfl) fun f2 => ?_
 iterate 8 refine z ?_
 refine yO rfl rfl (a2s hT hB rfl rfl rfl a2o) rfl ?_
 iterate 7 refine z ?_
 refine zC Tryz.call127 ?_ (hf := b0R (x := x) (k := k) )
 iterate 6 refine z ?_
 refine yQ rfl (fun c1 => ?_) fun c1 => ?_
 ·have d1 := c5p c1
  have hb9 := b2I hs d1
  have hgb := a8b (n := f) hb9
  have hrl := a7C hb9
  have hrq := b1X d1
  have hlt9 := a5N d1
  have hsl := b1h ((x.2.1.getD (a0X x k).toNat default).2) f ((a1d ((x.2.1.getD (a0X x k).toNat default).2) f).1 + 1)
  refine a0j ?_
  iterate 11 refine z ?_
  refine zC Tryz.call93 ?_ (hf := a7F (x := ((x.2.1.getD (a0X x k).toNat default).2)) (n := f))
  iterate 11 refine z ?_
  refine zK 499 Tryz.call150 ?_ (hf := b8s (r := ((x.2.1.getD (a0X x k).toNat default).2)) (n := f) (v := (a1d ((x.2.1.getD (a0X x k).toNat default).2) f).1 + 1) (by omega))
  iterate 11 refine z ?_
  refine a2U 0 rfl rfl rfl Tryz.call124 (a9M (x := x) (k := k) (r := (a1I ((x.2.1.getD (a0X x k).toNat default).2) f ((a1d ((x.2.1.getD (a0X x k).toNat default).2) f).1 + 1)).1) (by omega) (by omega)) (a0f (a0a rfl) (a0l (a0c a0b (a0c a0b (a0c a0b a0m)))) (a0f (a0a rfl) (a0l (a0c a0b (a0c a0b (a0c a0b a0m)))) (a0f (a0a rfl) (a0l (a0c (a0L rfl rfl) a0m)) a0n))) rfl rfl rfl ?_
  iterate 19 refine z ?_
  have hfin : a3y x k f = ((a1f x k (a1I ((x.2.1.getD (a0X x k).toNat default).2) f ((a1d ((x.2.1.getD (a0X x k).toNat default).2) f).1 + 1)).1).1, (a1d ((x.2.1.getD (a0X x k).toNat default).2) f).1 + 1, (a1I ((x.2.1.getD (a0X x k).toNat default).2) f ((a1d ((x.2.1.getD (a0X x k).toNat default).2) f).1 + 1)).2 && (a1f x k (a1I ((x.2.1.getD (a0X x k).toNat default).2) f ((a1d ((x.2.1.getD (a0X x k).toNat default).2) f).1 + 1)).1).2) := by rw [a3y, hrq]; rfl
  rw [hfin]
  refine a0r (σ' := ⟨[(6, .box 6 0), (7, .one (.dv [] (.int .i64 (((a1d ((((x.2.1)).getD (a0X (x) (k)).toNat default).2) (f)).1) + (1))))), (8, .one (.dv [] (.bool (((a1I ((((x.2.1)).getD (a0X (x) (k)).toNat default).2) (f) (((a1d ((((x.2.1)).getD (a0X (x) (k)).toNat default).2) (f)).1) + (1))).2) && ((a1f (x) (k) ((a1I ((((x.2.1)).getD (a0X (x) (k)).toNat default).2) (f) (((a1d ((((x.2.1)).getD (a0X (x) (k)).toNat default).2) (f)).1) + (1))).1)).2)))))], [(6, 89, [(.dv [] (.str ((a1f (x) (k) ((a1I ((((x.2.1)).getD (a0X (x) (k)).toNat default).2) (f) (((a1d ((((x.2.1)).getD (a0X (x) (k)).toNat default).2) (f)).1) + (1))).1)).1.1))), (.key 9001), (.dv [] (.int .i64 ((a1f (x) (k) ((a1I ((((x.2.1)).getD (a0X (x) (k)).toNat default).2) (f) (((a1d ((((x.2.1)).getD (a0X (x) (k)).toNat default).2) (f)).1) + (1))).1)).1.2.2)))])], [(9001, some (a0d false (a0t ((a1f x k (a1I ((x.2.1.getD (a0X x k).toNat default).2) f ((a1d ((x.2.1.getD (a0X x k).toNat default).2) f).1 + 1)).1).1.2.1))))]⟩) (a0e ⟨rfl, rfl, rfl, trivial⟩ ⟨rfl, trivial⟩ ⟨rfl, trivial⟩ rfl) ?_
  refine z ?_
  refine a1V (a0K hT rfl rfl rfl rfl) (a0B rfl) (a0B rfl) rfl rfl rfl ?_
  first | exact ⟨rfl, rfl⟩ | skip
 ·have d1 := c5q c1
  have hb9 : a1C [] = true := rfl
  have hgb := a8b (n := f) hb9
  have hrl := a7C hb9
  have hrq := b2j d1
  have hsl := b1h ([] : a0J) f ((a1d ([] : a0J) f).1 + 1)
  iterate 5 refine z ?_
  refine a3k rfl rfl rfl Tryz.call93 (a7F (x := ([] : a0J)) (n := f)) (a0f (a0a rfl) (a0l (a0c (a6E rfl rfl) a0m)) (a0f (a0a rfl) (a0H a0b) a0n)) rfl rfl ?_
  iterate 11 refine z ?_
  refine a2U 499 rfl rfl rfl Tryz.call150 (b8s (r := ([] : a0J)) (n := f) (v := (a1d ([] : a0J) f).1 + 1) (by omega)) (a0f (a0a rfl) (a0l (a0c (a6E rfl rfl) a0m)) (a0f (a0a rfl) (a0H a0b) (a0f (a0a rfl) (a0H a0b) a0n))) rfl rfl rfl ?_
  iterate 11 refine z ?_
  refine a2U 0 rfl rfl rfl Tryz.call124 (a9M (x := x) (k := k) (r := (a1I ([] : a0J) f ((a1d ([] : a0J) f).1 + 1)).1) (by omega) (by omega)) (a0f (a0a rfl) (a0l (a0c a0b (a0c a0b (a0c a0b a0m)))) (a0f (a0a rfl) (a0l (a0c a0b (a0c a0b (a0c a0b a0m)))) (a0f (a0a rfl) (a0l (a0c (a0L rfl rfl) a0m)) a0n))) rfl rfl rfl ?_
  iterate 19 refine z ?_
  have hfin : a3y x k f = ((a1f x k (a1I ([] : a0J) f ((a1d ([] : a0J) f).1 + 1)).1).1, (a1d ([] : a0J) f).1 + 1, (a1I ([] : a0J) f ((a1d ([] : a0J) f).1 + 1)).2 && (a1f x k (a1I ([] : a0J) f ((a1d ([] : a0J) f).1 + 1)).1).2) := by rw [a3y, hrq]; rfl
  rw [hfin]
  refine a0r (σ' := ⟨[(6, .box 6 0), (7, .one (.dv [] (.int .i64 (((a1d ([]) (f)).1) + (1))))), (8, .one (.dv [] (.bool (((a1I ([]) (f) (((a1d ([]) (f)).1) + (1))).2) && ((a1f (x) (k) ((a1I ([]) (f) (((a1d ([]) (f)).1) + (1))).1)).2)))))], [(6, 89, [(.dv [] (.str ((a1f (x) (k) ((a1I ([]) (f) (((a1d ([]) (f)).1) + (1))).1)).1.1))), (.key 9001), (.dv [] (.int .i64 ((a1f (x) (k) ((a1I ([]) (f) (((a1d ([]) (f)).1) + (1))).1)).1.2.2)))])], [(9001, some (a0d false (a0t ((a1f x k (a1I ([] : a0J) f ((a1d ([] : a0J) f).1 + 1)).1).1.2.1))))]⟩) (a0e ⟨rfl, rfl, rfl, trivial⟩ ⟨rfl, trivial⟩ ⟨rfl, trivial⟩ rfl) ?_
  refine z ?_
  refine a1V (a0K hT rfl rfl rfl rfl) (a0B rfl) (a0B rfl) rfl rfl rfl ?_
  first | exact ⟨rfl, rfl⟩ | skip
section
variable {x : a0I} {o : OpT}
theorem c0o (h : o.1 = 1) : opM x o = ((a1f x o.2.2.1 o.2.2.2.1).1, 1, (a1f x o.2.2.1 o.2.2.2.1).2) := by rw [opM, if_pos h]
theorem b8I (h : o.1 = 2) : opM x o = ((a2H x o.2.2.1 o.2.2.2.1).1, 1, (a2H x o.2.2.1 o.2.2.2.1).2) := by rw [opM, if_neg (by omega), if_pos h]
theorem c2m (h : o.1 = 3) : opM x o = ((a1L x (rgK o.2.2.1)).1, (a1L x (rgK o.2.2.1)).2, true) := by rw [opM, if_neg (by omega), if_neg (by omega), if_pos h]
theorem c1Q (h : o.1 = 5) : opM x o = ((a1L x rg0).1, (a1L x rg0).2, true) := by rw [opM, if_neg (by omega), if_neg (by omega), if_neg (by omega), if_neg (by omega), if_pos h]
theorem c0J (h : o.1 = 4) (h2 : a0X x o.2.2.1 < 0) : opM x o = (x, -1, true) := by rw [opM, if_neg (by omega), if_neg (by omega), if_neg (by omega), if_pos h, a8L, if_pos h2]
theorem b8Z (h : o.1 = 4) (h2 : ¬ a0X x o.2.2.1 < 0) : opM x o = (x, ((x.2.1.getD (a0X x o.2.2.1).toNat default).2.length : Int), true) := by rw [opM, if_neg (by omega), if_neg (by omega), if_neg (by omega), if_pos h, a8L, if_neg h2]
theorem c3V (h1 : o.1 ≠ 1) (h2 : o.1 ≠ 2) (h3 : o.1 ≠ 3) (h4 : o.1 ≠ 4) (h5 : o.1 ≠ 5) : opM x o = a3y x o.2.2.1 o.2.2.2.2 := by rw [opM, if_neg h1, if_neg h2, if_neg h3, if_neg h4, if_neg h5]
end
theorem c0i {x : a0I} {o : OpT} (hs : a1E x = true) (ho : a3P o = true) : KFn Tryz.prog 96 [.agg [(.dv [] (.str (x.1))), (.dv [] (a0t (x.2.1))), (.dv [] (.int .i64 (x.2.2)))], .agg [(.dv [] (.int .i64 (o.1))), (.dv [] (.str (o.2.1))), (.dv [] (.int .i64 (o.2.2.1.1))), (.dv [] (.int .i64 (o.2.2.1.2.1))), (.dv [] (.str (o.2.2.1.2.2))), (.dv [] (a0z (o.2.2.2.1))), (.dv [] (.str (o.2.2.2.2)))]] (.tup [(true, [(.dv [] (.str ((opM x o).1.1))), (.key 9001), (.dv [] (.int .i64 ((opM x o).1.2.2)))]), (false, [(.dv [] (.int .i64 ((opM x o).2.1)))]), (false, [(.dv [] (.bool ((opM x o).2.2)))])]) [(9001, some (a0d false (a0t ((opM x o).1.2.1))))] := by
 refine ⟨a0u Tryz.func96 rfl Tryz.ntmps96 Tryz.results96 rfl (fun C => ?_)⟩
 have hsw := a8N hs
 have hor := b1U ho
 refine yF 0 0 rfl rfl fun f0_0 => ?_
 refine yF 0 1 rfl rfl fun f0_1 => ?_
 refine yF 0 2 rfl rfl fun f0_2 => ?_
 refine yF 1 0 rfl rfl fun f1_0 => ?_
 refine yF 1 1 rfl rfl fun f1_1 => ?_
 refine yF 1 2 rfl rfl fun f1_2 => ?_
 refine yF 1 3 rfl rfl fun f1_3 => ?_
 refine yF 1 4 rfl rfl fun f1_4 => ?_
 refine yF 1 5 rfl rfl fun f1_5 => ?_
 refine yF 1 6 rfl rfl fun f1_6 => ?_
 iterate 17 refine z ?_
 refine yQ rfl (fun c1 => ?_) fun c1 => ?_
 ·have d1 := c5p c1
  iterate 6 refine z ?_
  refine zK 0 Tryz.call124 ?_ (hf := a9M (x := x) (k := o.2.2.1) (r := o.2.2.2.1) (by omega) (by omega))
  iterate 14 refine z ?_
  rw [c0o d1]
  refine a0r (σ' := ⟨[(4, .box 4 0), (5, .one (.dv [] (.int .i64 (1)))), (6, .one (.dv [] (.bool ((a1f (x) (o.2.2.1) (o.2.2.2.1)).2))))], [(4, 89, [(.dv [] (.str ((a1f (x) (o.2.2.1) (o.2.2.2.1)).1.1))), (.key 9001), (.dv [] (.int .i64 ((a1f (x) (o.2.2.1) (o.2.2.2.1)).1.2.2)))])], [(9001, some (a0d false (a0t ((a1f x o.2.2.1 o.2.2.2.1).1.2.1))))]⟩) (a0e ⟨rfl, rfl, rfl, trivial⟩ ⟨rfl, trivial⟩ ⟨rfl, trivial⟩ rfl) ?_
  iterate 3 refine z ?_
  refine a1V (a0K hT rfl rfl rfl rfl) (a0B rfl) (a0B rfl) rfl rfl rfl ?_
  first | exact ⟨rfl, rfl⟩ | skip
 ·have d1 := c5q c1
  iterate 4 refine z ?_
  refine yQ rfl (fun c2 => ?_) fun c2 => ?_
  ·have d2 := c5p c2
   iterate 6 refine z ?_
   refine zK 0 Tryz.call125 ?_ (hf := c0y (x := x) (k := o.2.2.1) (r := o.2.2.2.1) (by omega) (by omega))
   iterate 14 refine z ?_
   rw [b8I d2]
   refine a0r (σ' := ⟨[(4, .box 4 0), (5, .one (.dv [] (.int .i64 (1)))), (6, .one (.dv [] (.bool ((a2H (x) (o.2.2.1) (o.2.2.2.1)).2))))], [(4, 89, [(.dv [] (.str ((a2H (x) (o.2.2.1) (o.2.2.2.1)).1.1))), (.key 9001), (.dv [] (.int .i64 ((a2H (x) (o.2.2.1) (o.2.2.2.1)).1.2.2)))])], [(9001, some (a0d false (a0t ((a2H x o.2.2.1 o.2.2.2.1).1.2.1))))]⟩) (a0e ⟨rfl, rfl, rfl, trivial⟩ ⟨rfl, trivial⟩ ⟨rfl, trivial⟩ rfl) ?_
   iterate 3 refine z ?_
   refine a1V (a0K hT rfl rfl rfl rfl) (a0B rfl) (a0B rfl) rfl rfl rfl ?_
   first | exact ⟨rfl, rfl⟩ | skip
  ·have d2 := c5q c2
   iterate 4 refine z ?_
   refine yQ rfl (fun c3 => ?_) fun c3 => ?_
   ·have d3 := c5p c3
    iterate 6 refine z ?_
    refine yO rfl rfl (a2s hT hB rfl rfl rfl (a1x a0P rfl rfl rfl rfl rfl (a1x a0P rfl rfl rfl rfl rfl (a1x (a0a rfl) rfl rfl rfl rfl rfl (a1x (a0a rfl) rfl rfl rfl rfl rfl a2o))))) rfl ?_
    refine zK 0 Tryz.call126 ?_ (hf := b7Q (x := x) (r := rgK o.2.2.1) (by omega))
    iterate 14 refine z ?_
    rw [c2m d3]
    refine a0r (σ' := ⟨[(4, .box 4 0), (5, .one (.dv [] (.int .i64 ((a1L (x) (rgK o.2.2.1)).2)))), (6, .one (.dv [] (.bool (true))))], [(4, 89, [(.dv [] (.str ((a1L (x) (rgK o.2.2.1)).1.1))), (.key 9001), (.dv [] (.int .i64 ((a1L (x) (rgK o.2.2.1)).1.2.2)))])], [(9001, some (a0d false (a0t ((a1L x (rgK o.2.2.1)).1.2.1))))]⟩) (a0e ⟨rfl, rfl, rfl, trivial⟩ ⟨rfl, trivial⟩ ⟨rfl, trivial⟩ rfl) ?_
    iterate 3 refine z ?_
    refine a1V (a0K hT rfl rfl rfl rfl) (a0B rfl) (a0B rfl) rfl rfl rfl ?_
    first | exact ⟨rfl, rfl⟩ | skip
   ·have d3 := c5q c3
    iterate 4 refine z ?_
    refine yQ rfl (fun c4 => ?_) fun c4 => ?_
    ·have d4 := c5p c4
     iterate 4 refine z ?_
     refine zC Tryz.call127 ?_ (hf := b0R (x := x) (k := o.2.2.1) )
     iterate 7 refine z ?_
     refine yQ rfl (fun c5 => ?_) fun c5 => ?_
     ·have d5 := c5p c5
      iterate 2 refine z ?_
      refine zK 8971 Tryz.call51 ?_ (hf := a5e (x := x) (by omega))
      iterate 4 refine z ?_
      rw [c0J d4 d5]
      refine a0r (σ' := ⟨[(4, .box 4 0), (5, .one (.dv [] (.int .i64 (-1)))), (6, .one (.dv [] (.bool (true))))], [(4, 89, [(.dv [] (.str ((x).1))), (.key 9001), (.dv [] (.int .i64 ((x).2.2)))])], [(9001, some (a0d false (a0t (x.2.1))))]⟩) (a0e ⟨rfl, rfl, rfl, trivial⟩ ⟨rfl, trivial⟩ ⟨rfl, trivial⟩ rfl) ?_
      iterate 4 refine z ?_
      refine a1V (a0K hT rfl rfl rfl rfl) (a0B rfl) (a0B rfl) rfl rfl rfl ?_
      first | exact ⟨rfl, rfl⟩ | skip
     ·have d5 := c5q c5
      have hfx : a0X x o.2.2.1 < x.2.1.length := by have := a5N (x := x) (k := o.2.2.1) (by omega); omega
      iterate 2 refine z ?_
      refine a0p ?_
      refine b4L 4 [0, 1, 2, 3, 4, 5, 6, 7, 8, 9, 10] (oB := [2, 3]) (oK := []) (by kernel_rfl) rfl rfl ?_
      refine a5n 0 rfl (by kernel_rfl) rfl rfl (a2i hT rfl rfl (a0a rfl) rfl rfl) rfl rfl rfl rfl rfl ?_
      refine a5n 2 rfl (by kernel_rfl) rfl rfl (a4S hT rfl rfl rfl (a0a rfl)) rfl rfl rfl rfl rfl ?_
      refine a5n 3 rfl (by kernel_rfl) rfl rfl (a3C hT rfl rfl (a0a rfl) rfl rfl) rfl rfl rfl rfl rfl ?_
      refine a5n 4 rfl (by kernel_rfl) rfl rfl (a1Q (.inl rfl) (a0a rfl)) rfl rfl rfl rfl rfl ?_
      refine a5n 5 rfl (by kernel_rfl) rfl rfl (a4t hT rfl rfl rfl (a0a rfl) (a0a rfl) (fun _ => rfl) (by omega) (by omega)) rfl rfl rfl rfl rfl ?_
      refine a5n 6 rfl (by kernel_rfl) rfl rfl (a6i hT rfl rfl rfl (a0a rfl)) rfl rfl rfl rfl rfl ?_
      refine a5n 7 rfl (by kernel_rfl) rfl rfl (a6i hT rfl rfl rfl (a0a rfl)) rfl rfl rfl rfl rfl ?_
      refine a5n 8 rfl (by kernel_rfl) rfl rfl (b2c hT rfl rfl (a0a rfl) rfl) rfl rfl rfl rfl rfl ?_
      refine a5n 9 rfl (by kernel_rfl) rfl rfl (a4H hT rfl rfl (a0a rfl)) rfl rfl rfl rfl rfl ?_
      refine b6p 8971 1 rfl (by kernel_rfl) rfl rfl rfl Tryz.call51 (a5e (x := x) (by omega)) (a0f (a0a rfl) (a0l (a0c a0b (a0c a0b (a0c a0b a0m)))) a0n) rfl rfl rfl rfl rfl rfl ?_
      refine b7T 10 rfl (by kernel_rfl) rfl hT rfl rfl rfl (a0a rfl) (a0a rfl) rfl rfl rfl rfl rfl rfl ?_
      refine b5o [11, 12] rfl rfl (by kernel_rfl) ?_
      iterate 3 refine z ?_
      rw [b8Z d4 d5]
      refine a0r (σ' := ⟨[(4, .box 4 0), (5, .one (.dv [] (.int .i64 (((((((x.2.1)).getD (a0X (x) (o.2.2.1)).toNat default).2)).length : Int))))), (6, .one (.dv [] (.bool (true))))], [(4, 89, [(.dv [] (.str ((x).1))), (.key 9001), (.dv [] (.int .i64 ((x).2.2)))])], [(9001, some (a0d false (a0t (x.2.1))))]⟩) (a0e ⟨rfl, rfl, rfl, trivial⟩ ⟨rfl, trivial⟩ ⟨rfl, trivial⟩ rfl) ?_
      iterate 3 refine z ?_
      refine a1V (a0K hT rfl rfl rfl rfl) (a0B rfl) (a0B rfl) rfl rfl rfl ?_
      first | exact ⟨rfl, rfl⟩ | skip
    ·have d4 := c5q c4
     iterate 4 refine z ?_
     refine yQ rfl (fun c6 => ?_) fun c6 => ?_
     ·have d6 := c5p c6
      iterate 2 refine z ?_
      refine yO rfl rfl (a2s hT hB rfl rfl rfl a2o) rfl ?_
      refine zK 0 Tryz.call126 ?_ (hf := b7Q (x := x) (r := rg0) (by omega))
      iterate 14 refine z ?_
      rw [c1Q d6]
      refine a0r (σ' := ⟨[(4, .box 4 0), (5, .one (.dv [] (.int .i64 ((a1L (x) (rg0)).2)))), (6, .one (.dv [] (.bool (true))))], [(4, 89, [(.dv [] (.str ((a1L (x) (rg0)).1.1))), (.key 9001), (.dv [] (.int .i64 ((a1L (x) (rg0)).1.2.2)))])], [(9001, some (a0d false (a0t ((a1L x rg0).1.2.1))))]⟩) (a0e ⟨rfl, rfl, rfl, trivial⟩ ⟨rfl, trivial⟩ ⟨rfl, trivial⟩ rfl) ?_
      iterate 3 refine z ?_
      refine a1V (a0K hT rfl rfl rfl rfl) (a0B rfl) (a0B rfl) rfl rfl rfl ?_
      first | exact ⟨rfl, rfl⟩ | skip
     ·have d6 := c5q c6
      iterate 9 refine z ?_
      refine zK 0 Tryz.call128 ?_ (hf := c2K (x := x) (k := o.2.2.1) (f := o.2.2.2.2) hs)
      iterate 7 refine z ?_
      rw [c3V d1 d2 d3 d4 d6]
      refine a0r (σ' := ⟨[(4, .box 4 0), (5, .one (.dv [] (.int .i64 ((a3y (x) (o.2.2.1) (o.2.2.2.2)).2.1)))), (6, .one (.dv [] (.bool ((a3y (x) (o.2.2.1) (o.2.2.2.2)).2.2))))], [(4, 89, [(.dv [] (.str ((a3y (x) (o.2.2.1) (o.2.2.2.2)).1.1))), (.key 9001), (.dv [] (.int .i64 ((a3y (x) (o.2.2.1) (o.2.2.2.2)).1.2.2)))])], [(9001, some (a0d false (a0t ((a3y x o.2.2.1 o.2.2.2.2).1.2.1))))]⟩) (a0e ⟨rfl, rfl, rfl, trivial⟩ ⟨rfl, trivial⟩ ⟨rfl, trivial⟩ rfl) ?_
      refine z ?_
      refine a1V (a0K hT rfl rfl rfl rfl) (a0B rfl) (a0B rfl) rfl rfl rfl ?_
      first | exact ⟨rfl, rfl⟩ | skip
theorem b0T {α : Type} {enc : α → List DV} {sz : Nat} {xs : List α} {i : Nat} (hs : ∀ y, (enc y).length = sz) (hi : i < xs.length) : i * sz + sz ≤ (xs.flatMap enc).length := by
 rw [a4W hs]
 have : (i + 1) * sz ≤ xs.length * sz := Nat.mul_le_mul_right _ hi
 rw [Nat.add_mul, Nat.one_mul] at this
 exact this
section
variable {α : Type} {enc : α → List DV} {sz : Nat} {xs : List α} {i : Nat} [Inhabited α]
theorem b1Y (hs : ∀ y, (enc y).length = sz) (hi : i < xs.length) : sub (i * sz) sz (xs.flatMap enc) = enc (xs.getD i default) := by
 obtain ⟨_, h2⟩ := a6Z hs i xs
 have e : xs.drop i = xs.getD i default :: xs.drop (i + 1) := by rw [List.drop_eq_getElem_cons hi]; simp [List.getD, List.getElem?_eq_getElem hi]
 rw [sub, h2, e, List.flatMap_cons, List.take_left' (hs _)]
theorem b0S (hs : ∀ y, (enc y).length = sz) (hi : i < xs.length) (y : α) : a1c (i * sz) (enc y) (xs.flatMap enc) = (xs.set i y).flatMap enc := by
 have e : xs.flatMap enc = (xs.take i).flatMap enc ++ (enc (xs.getD i default) ++ (xs.drop (i + 1)).flatMap enc) := by
  have e : xs.drop i = xs.getD i default :: xs.drop (i + 1) := by rw [List.drop_eq_getElem_cons hi]; simp [List.getD, List.getElem?_eq_getElem hi]
  rw [← List.flatMap_cons, ← e, ← List.flatMap_append, List.take_append_drop]
 rw [e, a5P (by rw [a4W hs, c5t]; congr 1; omega) (by rw [hs, hs]), List.set_eq_take_append_cons_drop, if_pos hi, List.flatMap_append, List.flatMap_cons]
end
def a3B (d : DbT) (i : Nat) (s : a0I) : DbT := (d.1, d.2.1, d.2.2.1.set i s, d.2.2.2)
def a5r (d : DbT) (o : OpT) : a0I := d.2.2.1.getD (a1U d o.2.1).toNat default
def a1b (d : DbT) (o : OpT) : DbT × Int × Bool :=
 if ((!a2c d || !a3P o) || decide (a1U d o.2.1 < 0)) = true then (d, 0, false)
 else if (!(opM (a5r d o) o).2.2 || !a2c (a3B d (a1U d o.2.1).toNat (opM (a5r d o) o).1)) = true then (d, 0, false)
 else (a3B d (a1U d o.2.1).toNat (opM (a5r d o) o).1, (opM (a5r d o) o).2.1, true)
theorem b1J {d : DbT} {o : OpT} (h : ((!a2c d || !a3P o) || decide (a1U d o.2.1 < 0)) = false) : a2c d = true ∧ a3P o = true ∧ 0 ≤ a1U d o.2.1 := by
 simp only [Bool.or_eq_false_iff, Bool.not_eq_false', decide_eq_false_iff_not] at h
 exact ⟨h.1.1, h.1.2, by omega⟩
theorem b0J {d : DbT} (h : a2c d = true) : a6e d = true := by
 rw [a2c] at h
 simp only [Bool.and_eq_true] at h
 exact h.2.1
theorem b1L {d : DbT} {o : OpT} (h : ((!a2c d || !a3P o) || decide (a1U d o.2.1 < 0)) = true) : a1b d o = (d, 0, false) := by rw [a1b, if_pos h]
theorem b3h {d : DbT} {o : OpT} {r : a0I × Int × Bool} (h : ((!a2c d || !a3P o) || decide (a1U d o.2.1 < 0)) = false) (hr : r = opM (a5r d o) o ∨ (r.2.2 = false ∧ (opM (a5r d o) o).2.2 = false)) (h2 : (!r.2.2 || !a2c (a3B d (a1U d o.2.1).toNat r.1)) = true) : a1b d o = (d, 0, false) := by
 rw [a1b, if_neg (by rw [h]; simp)]
 rcases hr with rfl | ⟨_, hr⟩
 ·rw [if_pos h2]
 ·rw [if_pos (by rw [hr]; rfl)]
theorem b3w {d : DbT} {o : OpT} {r : a0I × Int × Bool} (h : ((!a2c d || !a3P o) || decide (a1U d o.2.1 < 0)) = false) (hr : r = opM (a5r d o) o ∨ (r.2.2 = false ∧ (opM (a5r d o) o).2.2 = false)) (h2 : (!r.2.2 || !a2c (a3B d (a1U d o.2.1).toNat r.1)) = false) : a1b d o = (a3B d (a1U d o.2.1).toNat r.1, r.2.1, true) := by
 rw [a1b, if_neg (by rw [h]; simp)]
 rcases hr with rfl | ⟨hr, _⟩
 ·rw [if_neg (by rw [h2]; simp)]
 ·rw [hr] at h2; cases h2
theorem c3h {x : a0I} {o : OpT} (h : same x o = true) : (opI x o).1 = x := by
 by_cases h4 : o.1 = 4
 ·unfold opI
  rw [if_neg (by omega), if_neg (by omega), if_neg (by omega), if_neg (by omega), if_pos h4]
 ·have h1 : ¬ o.1 = 1 := fun e => a6U h (by omega)
  have h2 : ¬ o.1 = 2 := fun e => a6U h (by omega)
  have h3 : ¬ o.1 = 3 := fun e => a6U h (by omega)
  have h5 : ¬ o.1 = 5 := fun e => a6U h (by omega)
  unfold opI
  rw [if_neg h1, if_neg h2, if_neg h3, if_neg h5, if_neg h4, if_pos]
  have := b2d h h4 rfl
  unfold a4q
  simpa using this
theorem b8Y {d : DbT} {i : Nat} (hi : i < d.2.2.1.length) : a3B d i (d.2.2.1.getD i default) = d := by
 have : d.2.2.1.set i (d.2.2.1.getD i default) = d.2.2.1 := by
  apply List.ext_getElem?
  intro j
  rw [List.getElem?_set]
  by_cases h : i = j
  ·subst h; simp [hi, List.getD]
  ·simp [h]
 unfold a3B
 rw [this]
theorem c4H {d : DbT} {o : OpT} (hb : a1r d ≤ 1099511627776) : KFn Tryz.prog 61 [.agg [(.dv [] (.str (d.1))), (.dv [] (.int .i64 (d.2.1))), (.dv [] (a0k (d.2.2.1))), (.dv [] (a0A (d.2.2.2)))], .agg [(.dv [] (.int .i64 (o.1))), (.dv [] (.str (o.2.1))), (.dv [] (.int .i64 (o.2.2.1.1))), (.dv [] (.int .i64 (o.2.2.1.2.1))), (.dv [] (.str (o.2.2.1.2.2))), (.dv [] (a0z (o.2.2.2.1))), (.dv [] (.str (o.2.2.2.2)))]] (.tup [(true, [(.dv [] (.str ((a1b d o).1.1))), (.dv [] (.int .i64 ((a1b d o).1.2.1))), (.key 90031), (.key 90900)]), (false, [(.dv [] (.int .i64 ((a1b d o).2.1)))]), (false, [(.dv [] (.bool ((a1b d o).2.2)))])]) [(90031, some (a0d false (a0k ((a1b d o).1.2.2.1)))), (90900, some (a0d false (a0A ((a1b d o).1.2.2.2))))] := by
 refine ⟨a0u Tryz.func61 rfl Tryz.ntmps61 Tryz.results61 rfl (fun C => ?_)⟩
 refine yF 0 0 rfl rfl fun f0_0 => ?_
 refine yF 0 1 rfl rfl fun f0_1 => ?_
 refine yF 0 2 rfl rfl fun f0_2 => ?_
 refine yF 0 3 rfl rfl fun f0_3 => ?_
 refine yF 1 0 rfl rfl fun f1_0 => ?_
 refine yF 1 1 rfl rfl fun f1_1 => ?_
 refine yF 1 2 rfl rfl fun f1_2 => ?_
 refine yF 1 3 rfl rfl fun f1_3 => ?_
 refine yF 1 4 rfl rfl fun f1_4 => ?_
 refine yF 1 5 rfl rfl fun f1_5 => ?_
 refine yF 1 6 rfl rfl fun f1_6 => ?_
 iterate 9 refine z ?_
 refine zK 90000 Tryz.call22 ?_ (hf := a8a (x := d) (by omega))
 iterate 7 refine z ?_
 refine zC Tryz.call55 ?_ (hf := b0b (x := d) (n := o.2.1) )
 iterate 5 refine z ?_
 refine zC Tryz.call24 ?_ (hf := b2Q (x := d) )
 iterate 3 refine z ?_
 refine a1t (a1l rfl rfl rfl rfl rfl) rfl rfl Tryz.call95 (c3d (x := o) ) (fun hg => (a0f (a0x rfl hg) (a0l (a0c a0b (a0c a0b (a0c a0b (a0c a0b (a0c a0b (a0c a0b (a0c a0b a0m)))))))) a0n)) rfl rfl ?_
 iterate 7 refine z ?_
 refine yQ rfl (fun c1 => ?_) fun c1 => ?_
 ·iterate 6 refine z ?_
  rw [b1L c1]
  refine a0r (σ' := ⟨[(4, .box 4 0), (5, .one (.dv [] (.int .i64 (0)))), (6, .one (.dv [] (.bool (false))))], [(4, 35, [(.dv [] (.str ((d).1))), (.dv [] (.int .i64 ((d).2.1))), (.key 90031), (.key 90900)])], [(90031, some (a0d false (a0k (d.2.2.1)))), (90900, some (a0d false (a0A (d.2.2.2))))]⟩) (a0e ⟨rfl, rfl, rfl, trivial⟩ ⟨rfl, trivial⟩ ⟨rfl, rfl, trivial⟩ rfl) ?_
  iterate 2 refine z ?_
  refine a1V (a0K hT rfl rfl rfl rfl) (a0B rfl) (a0B rfl) rfl rfl rfl ?_
  first | exact ⟨rfl, rfl⟩ | skip
 ·have hg := b1J c1
  have hlt : a0q (a0D o.2.1) d.2.2.1 0 < d.2.2.1.length := a5L d o.2.1
  have h0k : 0 ≤ a0q (a0D o.2.1) d.2.2.1 0 := hg.2.2
  have hsx := a6G (b0J hg.1) h0k hlt
  have hkn : (a0q (a0D o.2.1) d.2.2.1 0).toNat < d.2.2.1.length := by omega
  iterate 2 refine z ?_
  refine a7H (σ' := ⟨[(2, .box 2 0), (3, .box 3 0), (4, .box 4 0), (5, .one (.dv [] (.int .i64 (0)))), (6, .one (.dv [] (.bool (false)))), (7, .box 7 0), (8, .one (.dv [] (.int .i64 (a0q (a0D (o.2.1)) (d).2.2.1 0)))), (9, .box 9 0), (10, .one (.dv [] (.int .i64 ((opM ((d.2.2.1.getD (a0q (a0D o.2.1) d.2.2.1 0).toNat default)) (o)).2.1)))), (11, .one (.dv [] (.bool ((opM ((d.2.2.1.getD (a0q (a0D o.2.1) d.2.2.1 0).toNat default)) (o)).2.2))))], [(2, 35, [(.dv [] (.str (d.1))), (.dv [] (.int .i64 (d.2.1))), (.dv [] (a0k (d.2.2.1))), (.dv [] (a0A (d.2.2.2)))]), (3, 111, [(.dv [] (.int .i64 (o.1))), (.dv [] (.str (o.2.1))), (.dv [] (.int .i64 (o.2.2.1.1))), (.dv [] (.int .i64 (o.2.2.1.2.1))), (.dv [] (.str (o.2.2.1.2.2))), (.dv [] (a0z (o.2.2.2.1))), (.dv [] (.str (o.2.2.2.2)))]), (4, 35, [(.dv [] (.str (ByteArray.empty))), (.dv [] (.int .i64 (0))), .nil, .nil]), (7, 35, [(.dv [] (.str ((d).1))), (.dv [] (.int .i64 ((d).2.1))), (.key 90031), (.key 90900)]), (9, 89, [(.dv [] (.str ((opM ((d.2.2.1.getD (a0q (a0D o.2.1) d.2.2.1 0).toNat default)) (o)).1.1))), (.key 90501), (.dv [] (.int .i64 ((opM ((d.2.2.1.getD (a0q (a0D o.2.1) d.2.2.1 0).toNat default)) (o)).1.2.2)))])], [(90031, some (a0d false (a0k ((d).2.2.1)))), (90501, some (a0d false (a0t ((opM (d.2.2.1.getD (a0q (a0D o.2.1) d.2.2.1 0).toNat default) o).1.2.1)))), (90900, some (a0d false (a0A ((d).2.2.2))))]⟩) ?_ ?_
  ·refine a1o (oB := [2, 3, 4, 7]) (oK := [90031, 90900]) (by kernel_rfl) rfl rfl ?_
   refine zD 0 ?_
   refine zD 1 ?_
   refine zD 2 ?_
   refine zD 3 ?_
   refine zD 4 ?_
   refine zD 5 ?_
   refine a5q (A := [(11, 9, 89, _)]) hT ⟨⟨_, _, rfl⟩, rfl, trivial⟩ ?_
   refine a4J 81500 6 rfl (by kernel_rfl) rfl rfl rfl (vok hT ⟨⟨_, _, rfl⟩, rfl, trivial⟩ (by kernel_rfl) (by kernel_rfl)) (vok hT ⟨⟨_, _, rfl⟩, rfl, trivial⟩ (by kernel_rfl) (by kernel_rfl)) rfl Tryz.call96 (c0i (x := (d.2.2.1.getD (a0q (a0D o.2.1) d.2.2.1 0).toNat default)) (o := o) hsx hg.2.1) (a0f (a0a rfl) (a0l (a0c a0b (a0c a0b (a0c a0b a0m)))) (a0f (a0a rfl) (a0l (a0c a0b (a0c a0b (a0c a0b (a0c a0b (a0c a0b (a0c a0b (a0c a0b a0m)))))))) a0n)) rfl rfl rfl rfl rfl ?_
   refine a5U 7 rfl (by kernel_rfl) rfl rfl rfl (vok hT ⟨⟨_, _, rfl⟩, rfl, trivial⟩ (by kernel_rfl) (by kernel_rfl)) (vok hT ⟨⟨_, _, rfl⟩, rfl, trivial⟩ (by kernel_rfl) (by kernel_rfl)) (a1Q (.inl rfl) (a0a rfl)) rfl rfl rfl rfl ?_
   refine a2L 8 rfl (by kernel_rfl) rfl rfl rfl rfl (vok hT ⟨⟨_, _, rfl⟩, rfl, trivial⟩ (by kernel_rfl) (by kernel_rfl)) (vok hT ⟨⟨_, _, rfl⟩, rfl, trivial⟩ (by kernel_rfl) (by kernel_rfl)) (a4z rfl (a0a rfl) rfl) rfl rfl ?_
   refine a2L 9 rfl (by kernel_rfl) rfl rfl rfl rfl (vok hT ⟨⟨_, _, rfl⟩, rfl, trivial⟩ (by kernel_rfl) (by kernel_rfl)) (vok hT ⟨⟨_, _, rfl⟩, rfl, trivial⟩ (by kernel_rfl) (by kernel_rfl)) (a4F rfl (a0a rfl) rfl) rfl rfl ?_
   refine a2L 10 rfl (by kernel_rfl) rfl rfl rfl rfl (vok hT ⟨⟨_, _, rfl⟩, rfl, trivial⟩ (by kernel_rfl) (by kernel_rfl)) (vok hT ⟨⟨_, _, rfl⟩, rfl, trivial⟩ (by kernel_rfl) (by kernel_rfl)) (a4F rfl (a0a rfl) rfl) rfl rfl ?_
   refine a5C (vok hT ⟨⟨_, _, rfl⟩, rfl, trivial⟩ (by kernel_rfl) (by kernel_rfl)) rfl rfl (by kernel_rfl) ?_
   dsimp only [a3j, a2Z]
   refine a3c [12, 13, 14] rfl rfl (by kernel_rfl) ?_
   iterate 3 refine z ?_
   refine a1j ?_
   exact a3W (a0e ⟨rfl, rfl, rfl, rfl, rfl, rfl, rfl, rfl, rfl, rfl, trivial⟩ ⟨rfl, rfl, rfl, rfl, rfl, trivial⟩ ⟨rfl, rfl, rfl, trivial⟩ rfl)
  iterate 5 refine z ?_
  refine yO rfl rfl (a1q (i := (a0q (a0D (o.2.1)) (d).2.2.1 0).toNat) hT rfl rfl rfl (a0a rfl) rfl (a0a rfl) (by omega) (by show _ < (((d).2.2.1)).length; omega)) rfl ?_
  refine a1u (js := [90501]) (cs := (d.2.2.1.set (a0q (a0D o.2.1) d.2.2.1 0).toNat (opM (d.2.2.1.getD (a0q (a0D o.2.1) d.2.2.1 0).toNat default) o).1).flatMap a0U) hT rfl rfl rfl rfl (a0a rfl) (a0a rfl) rfl rfl rfl rfl (a0o (a0C rfl) (a0o (a1Y rfl) (a0o (a0C rfl) a1e rfl) rfl) rfl) (by decide) (by decide) rfl (by show _ ≤ List.length (((d).2.2.1).flatMap a0U); show (a0q (a0D o.2.1) d.2.2.1 0).toNat * 3 + 3 ≤ _; rw [a4W (enc := a0U) (sz := 3) (fun _ => rfl)]; omega) (b0S (enc := a0U) (sz := 3) (fun _ => rfl) hkn (opM (d.2.2.1.getD (a0q (a0D o.2.1) d.2.2.1 0).toNat default) o).1) ?_
  simp only [a0i, a0h, SV.kill, CV.kill, kk, Nat.reduceBEq]
  refine z ?_
  refine a0p ?_
  refine a0p ?_
  refine a0r (a5S (k := 90031) (c' := a0d false (a0k (d.2.2.1.set (a0q (a0D o.2.1) d.2.2.1 0).toNat (opM (d.2.2.1.getD (a0q (a0D o.2.1) d.2.2.1 0).toNat default) o).1))) rfl (congrArg (fun m => KC.mk false 89 3 m ((d.2.2.1.set (a0q (a0D o.2.1) d.2.2.1 0).toNat (opM (d.2.2.1.getD (a0q (a0D o.2.1) d.2.2.1 0).toNat default) o).1).flatMap a0U)) (List.length_set).symm) rfl) ?_
  refine a0j ?_
  iterate 4 refine z ?_
  refine a1t (a1l rfl rfl rfl rfl rfl) rfl rfl Tryz.call24 (b2Q (x := a3B d (a0q (a0D o.2.1) d.2.2.1 0).toNat (opM (d.2.2.1.getD (a0q (a0D o.2.1) d.2.2.1 0).toNat default) o).1)) (fun hg => (a0f (a0x rfl hg) (a0l (a0c a0b (a0c a0b (a0c (a0L rfl rfl) (a0c (a0L rfl rfl) a0m))))) a0n)) rfl rfl ?_
  iterate 3 refine z ?_
  refine yQ rfl (fun c2 => ?_) fun c2 => ?_
  ·refine a0p ?_
   refine a0r (σ' := ⟨[(2, .box 2 0), (4, .box 4 0), (5, .one (.dv [] (.int .i64 (0)))), (6, .one (.dv [] (.bool (false))))], [(2, 35, [(.dv [] (.str (d.1))), (.dv [] (.int .i64 (d.2.1))), (.dv [] (a0k (d.2.2.1))), (.dv [] (a0A (d.2.2.2)))]), (4, 35, [(.dv [] (.str (ByteArray.empty))), (.dv [] (.int .i64 (0))), .nil, .nil])], []⟩) (a0e ⟨rfl, rfl, rfl, rfl, trivial⟩ ⟨rfl, rfl, trivial⟩ trivial rfl) ?_
   refine a0j ?_
   refine z ?_
   refine zK 90000 Tryz.call22 ?_ (hf := a8a (x := d) (by omega))
   iterate 4 refine z ?_
   rw [b3h c1 (r := (opM (d.2.2.1.getD (a0q (a0D o.2.1) d.2.2.1 0).toNat default) o)) (.inl rfl) c2]
   refine a0r (σ' := ⟨[(4, .box 4 0), (5, .one (.dv [] (.int .i64 (0)))), (6, .one (.dv [] (.bool (false))))], [(4, 35, [(.dv [] (.str ((d).1))), (.dv [] (.int .i64 ((d).2.1))), (.key 90031), (.key 90900)])], [(90031, some (a0d false (a0k (d.2.2.1)))), (90900, some (a0d false (a0A (d.2.2.2))))]⟩) (a0e ⟨rfl, rfl, rfl, trivial⟩ ⟨rfl, trivial⟩ ⟨rfl, rfl, trivial⟩ rfl) ?_
   iterate 2 refine z ?_
   refine a1V (a0K hT rfl rfl rfl rfl) (a0B rfl) (a0B rfl) rfl rfl rfl ?_
   first | exact ⟨rfl, rfl⟩ | skip
  ·iterate 9 refine z ?_
   rw [b3w c1 (r := (opM (d.2.2.1.getD (a0q (a0D o.2.1) d.2.2.1 0).toNat default) o)) (.inl rfl) c2]
   refine a0r (σ' := ⟨[(4, .box 4 0), (5, .one (.dv [] (.int .i64 ((opM ((d.2.2.1.getD (a0q (a0D o.2.1) d.2.2.1 0).toNat default)) (o)).2.1)))), (6, .one (.dv [] (.bool (true))))], [(4, 35, [(.dv [] (.str ((d).1))), (.dv [] (.int .i64 ((d).2.1))), (.key 90031), (.key 90900)])], [(90031, some (a0d false (a0k (d.2.2.1.set (a0q (a0D o.2.1) d.2.2.1 0).toNat (opM (d.2.2.1.getD (a0q (a0D o.2.1) d.2.2.1 0).toNat default) o).1)))), (90900, some (a0d false (a0A (d.2.2.2))))]⟩) (a0e ⟨rfl, rfl, rfl, trivial⟩ ⟨rfl, trivial⟩ ⟨rfl, rfl, trivial⟩ rfl) ?_
   refine z ?_
   refine a1V (a0K hT rfl rfl rfl rfl) (a0B rfl) (a0B rfl) rfl rfl rfl ?_
   first | exact ⟨rfl, rfl⟩ | skip
theorem c4J {d : DbT} {o : OpT} (hb : a1r d ≤ 1099511627776) (hal : same (d.2.2.1.getD (a0q (a0D o.2.1) d.2.2.1 0).toNat default) o = true) : KFn Tryz.prog 74 [.agg [(.dv [] (.str (d.1))), (.dv [] (.int .i64 (d.2.1))), (.dv [] (a0k (d.2.2.1))), (.dv [] (a0A (d.2.2.2)))], .agg [(.dv [] (.int .i64 (o.1))), (.dv [] (.str (o.2.1))), (.dv [] (.int .i64 (o.2.2.1.1))), (.dv [] (.int .i64 (o.2.2.1.2.1))), (.dv [] (.str (o.2.2.1.2.2))), (.dv [] (a0z (o.2.2.2.1))), (.dv [] (.str (o.2.2.2.2)))]] (.tup [(true, [(.dv [] (.str ((a1b d o).1.1))), (.dv [] (.int .i64 ((a1b d o).1.2.1))), (.key 90031), (.key 90900)]), (false, [(.dv [] (.int .i64 ((a1b d o).2.1)))]), (false, [(.dv [] (.bool ((a1b d o).2.2)))])]) [(90031, some (a0d false (a0k ((a1b d o).1.2.2.1)))), (90900, some (a0d false (a0A ((a1b d o).1.2.2.2))))] := by
 refine ⟨a0u Tryz.func74 rfl Tryz.ntmps74 Tryz.results74 rfl (fun C => ?_)⟩
 refine yF 0 0 rfl rfl fun f0_0 => ?_
 refine yF 0 1 rfl rfl fun f0_1 => ?_
 refine yF 0 2 rfl rfl fun f0_2 => ?_
 refine yF 0 3 rfl rfl fun f0_3 => ?_
 refine yF 1 0 rfl rfl fun f1_0 => ?_
 refine yF 1 1 rfl rfl fun f1_1 => ?_
 refine yF 1 2 rfl rfl fun f1_2 => ?_
 refine yF 1 3 rfl rfl fun f1_3 => ?_
 refine yF 1 4 rfl rfl fun f1_4 => ?_
 refine yF 1 5 rfl rfl fun f1_5 => ?_
 refine yF 1 6 rfl rfl fun f1_6 => ?_
 iterate 9 refine z ?_
 refine zK 90000 Tryz.call33 ?_ (hf := a8r (x := d) (by omega))
 iterate 7 refine z ?_
 refine zC Tryz.call71 ?_ (hf := a8Q (x := d) (n := o.2.1) )
 iterate 5 refine z ?_
 refine zC Tryz.call35 ?_ (hf := a9A (x := d) )
 iterate 3 refine z ?_
 refine a1t (a1l rfl rfl rfl rfl rfl) rfl rfl Tryz.call110 (b4P (x := o) ) (fun hg => (a0f (a0x rfl hg) (a0l (a0c a0b (a0c a0b (a0c a0b (a0c a0b (a0c a0b (a0c a0b (a0c a0b a0m)))))))) a0n)) rfl rfl ?_
 iterate 7 refine z ?_
 refine yQ rfl (fun c1 => ?_) fun c1 => ?_
 ·iterate 6 refine z ?_
  rw [b1L c1]
  refine a0r (σ' := ⟨[(4, .box 4 0), (5, .one (.dv [] (.int .i64 (0)))), (6, .one (.dv [] (.bool (false))))], [(4, 35, [(.dv [] (.str ((d).1))), (.dv [] (.int .i64 ((d).2.1))), (.key 90031), (.key 90900)])], [(90031, some (a0d false (a0k (d.2.2.1)))), (90900, some (a0d false (a0A (d.2.2.2))))]⟩) (a0e ⟨rfl, rfl, rfl, trivial⟩ ⟨rfl, trivial⟩ ⟨rfl, rfl, trivial⟩ rfl) ?_
  iterate 2 refine z ?_
  refine a1V (a0K hT rfl rfl rfl rfl) (a0B rfl) (a0B rfl) rfl rfl rfl ?_
  first | exact ⟨rfl, rfl⟩ | skip
 ·have hg := b1J c1
  have hlt : a0q (a0D o.2.1) d.2.2.1 0 < d.2.2.1.length := a5L d o.2.1
  have h0k : 0 ≤ a0q (a0D o.2.1) d.2.2.1 0 := hg.2.2
  have hsx := a6G (b0J hg.1) h0k hlt
  have hkn : (a0q (a0D o.2.1) d.2.2.1 0).toNat < d.2.2.1.length := by omega
  have hps := b8Y hkn
  have hs1 := c3h hal
  iterate 2 refine z ?_
  refine a7H (σ' := ⟨[(2, .box 2 0), (3, .box 3 0), (4, .box 4 0), (5, .one (.dv [] (.int .i64 (0)))), (6, .one (.dv [] (.bool (false)))), (7, .box 7 0), (8, .one (.dv [] (.int .i64 (a0q (a0D (o.2.1)) (d).2.2.1 0)))), (9, .box 9 0), (10, .one (.dv [] (.int .i64 ((opI ((d.2.2.1.getD (a0q (a0D o.2.1) d.2.2.1 0).toNat default)) (o)).2.1)))), (11, .one (.dv [] (.bool ((opI ((d.2.2.1.getD (a0q (a0D o.2.1) d.2.2.1 0).toNat default)) (o)).2.2))))], [(2, 35, [(.dv [] (.str (d.1))), (.dv [] (.int .i64 (d.2.1))), (.dv [] (a0k (d.2.2.1))), (.dv [] (a0A (d.2.2.2)))]), (3, 111, [(.dv [] (.int .i64 (o.1))), (.dv [] (.str (o.2.1))), (.dv [] (.int .i64 (o.2.2.1.1))), (.dv [] (.int .i64 (o.2.2.1.2.1))), (.dv [] (.str (o.2.2.1.2.2))), (.dv [] (a0z (o.2.2.2.1))), (.dv [] (.str (o.2.2.2.2)))]), (4, 35, [(.dv [] (.str (ByteArray.empty))), (.dv [] (.int .i64 (0))), .nil, .nil]), (7, 35, [(.dv [] (.str ((d).1))), (.dv [] (.int .i64 ((d).2.1))), (.key 90031), (.key 90900)]), (9, 89, [(.dv [] (.str (((d.2.2.1.getD (a0q (a0D o.2.1) d.2.2.1 0).toNat default)).1))), (.nest 90031 (((a0q (a0D (o.2.1)) (d).2.2.1 0).toNat * 3 + 1)) (a0t ((d.2.2.1.getD (a0q (a0D o.2.1) d.2.2.1 0).toNat default).2.1))), (.dv [] (.int .i64 (((d.2.2.1.getD (a0q (a0D o.2.1) d.2.2.1 0).toNat default)).2.2)))])], [(90031, some (a0d false (a0k ((d).2.2.1)))), (90900, some (a0d false (a0A ((d).2.2.2))))]⟩) ?_ ?_
  ·refine a1o (oB := [2, 3, 4, 7]) (oK := [90031, 90900]) (by kernel_rfl) rfl rfl ?_
   refine zD 0 ?_
   refine zD 1 ?_
   refine zD 2 ?_
   refine a1X 3 rfl (by kernel_rfl) rfl rfl (a1q (i := (a0q (a0D (o.2.1)) (d).2.2.1 0).toNat) hT rfl rfl rfl (a0a rfl) rfl (a0a rfl) (by omega) (by show _ < (((d).2.2.1)).length; omega)) rfl rfl rfl rfl ?_
   refine a1X 4 rfl (by kernel_rfl) rfl rfl (b1p (ds := [.str ((d.2.2.1.getD (a0q (a0D o.2.1) d.2.2.1 0).toNat default).1), a0t ((d.2.2.1.getD (a0q (a0D o.2.1) d.2.2.1 0).toNat default).2.1), .int .i64 ((d.2.2.1.getD (a0q (a0D o.2.1) d.2.2.1 0).toNat default).2.2)]) hT rfl rfl (a0a rfl) rfl rfl (by decide) (b1Y (enc := a0U) (sz := 3) (fun _ => rfl) hkn)) rfl rfl rfl rfl ?_
   refine zD 5 ?_
   refine a5q (A := [(11, 9, 89, _)]) hT ⟨⟨_, _, rfl⟩, rfl, trivial⟩ ?_
   refine c1z 6 rfl (by kernel_rfl) rfl rfl rfl (vok hT ⟨⟨_, _, rfl⟩, rfl, trivial⟩ (by kernel_rfl) (by kernel_rfl)) (vok hT ⟨⟨_, _, rfl⟩, rfl, trivial⟩ (by kernel_rfl) (by kernel_rfl)) rfl rfl Tryz.call111 (c2w (x := (d.2.2.1.getD (a0q (a0D o.2.1) d.2.2.1 0).toNat default)) (o := o) hsx hg.2.1 hal) (a0a rfl) a0b a9l a0b (a0f (a0a rfl) (a0l (a0c a0b (a0c a0b (a0c a0b (a0c a0b (a0c a0b (a0c a0b (a0c a0b a0m)))))))) a0n) rfl rfl rfl rfl rfl rfl rfl ?_
   refine a5U 7 rfl (by kernel_rfl) rfl rfl rfl (vok hT ⟨⟨_, _, rfl⟩, rfl, trivial⟩ (by kernel_rfl) (by kernel_rfl)) (vok hT ⟨⟨_, _, rfl⟩, rfl, trivial⟩ (by kernel_rfl) (by kernel_rfl)) (a1Q (.inl rfl) (a0a rfl)) rfl rfl rfl rfl ?_
   refine a2L 8 rfl (by kernel_rfl) rfl rfl rfl rfl (vok hT ⟨⟨_, _, rfl⟩, rfl, trivial⟩ (by kernel_rfl) (by kernel_rfl)) (vok hT ⟨⟨_, _, rfl⟩, rfl, trivial⟩ (by kernel_rfl) (by kernel_rfl)) (a4z rfl (a0a rfl) rfl) rfl rfl ?_
   refine a2L 9 rfl (by kernel_rfl) rfl rfl rfl rfl (vok hT ⟨⟨_, _, rfl⟩, rfl, trivial⟩ (by kernel_rfl) (by kernel_rfl)) (vok hT ⟨⟨_, _, rfl⟩, rfl, trivial⟩ (by kernel_rfl) (by kernel_rfl)) (a4F rfl (a0a rfl) rfl) rfl rfl ?_
   refine a2L 10 rfl (by kernel_rfl) rfl rfl rfl rfl (vok hT ⟨⟨_, _, rfl⟩, rfl, trivial⟩ (by kernel_rfl) (by kernel_rfl)) (vok hT ⟨⟨_, _, rfl⟩, rfl, trivial⟩ (by kernel_rfl) (by kernel_rfl)) (a4F rfl (a0a rfl) rfl) rfl rfl ?_
   refine a5C (vok hT ⟨⟨_, _, rfl⟩, rfl, trivial⟩ (by kernel_rfl) (by kernel_rfl)) rfl rfl (by kernel_rfl) ?_
   dsimp only [a3j, a2Z]
   refine a3c [12, 13, 14] rfl rfl (by kernel_rfl) ?_
   iterate 3 refine z ?_
   refine a1j ?_
   exact a3W (a0e ⟨rfl, rfl, rfl, rfl, rfl, rfl, rfl, rfl, rfl, rfl, trivial⟩ ⟨rfl, rfl, rfl, rfl, rfl, trivial⟩ ⟨rfl, rfl, trivial⟩ rfl)
  iterate 5 refine z ?_
  refine yO rfl rfl (a1q (i := (a0q (a0D (o.2.1)) (d).2.2.1 0).toNat) hT rfl rfl rfl (a0a rfl) rfl (a0a rfl) (by omega) (by show _ < (((d).2.2.1)).length; omega)) rfl ?_
  refine c0Z (ds := [.str ((d.2.2.1.getD (a0q (a0D o.2.1) d.2.2.1 0).toNat default).1), a0t ((d.2.2.1.getD (a0q (a0D o.2.1) d.2.2.1 0).toNat default).2.1), .int .i64 ((d.2.2.1.getD (a0q (a0D o.2.1) d.2.2.1 0).toNat default).2.2)]) hT rfl rfl rfl rfl (a0a rfl) (a0a rfl) rfl rfl (b1Y (enc := a0U) (sz := 3) (fun _ => rfl) hkn) (b0T (enc := a0U) (sz := 3) (fun _ => rfl) hkn) ?_
  simp only [a0i, a0h, SV.kill, CV.kill, kk, Nat.reduceBEq]
  iterate 7 refine z ?_
  refine a1t (a1l rfl rfl rfl rfl rfl) rfl rfl Tryz.call35 (a9A (x := d)) (fun hg => (a0f (a0x rfl hg) (a0l (a0c a0b (a0c a0b (a0c (a0L rfl rfl) (a0c (a0L rfl rfl) a0m))))) a0n)) rfl rfl ?_
  iterate 3 refine z ?_
  refine yQ rfl (fun c2 => ?_) fun c2 => ?_
  ·refine a0p ?_
   refine a0r (σ' := ⟨[(2, .box 2 0), (4, .box 4 0), (5, .one (.dv [] (.int .i64 (0)))), (6, .one (.dv [] (.bool (false))))], [(2, 35, [(.dv [] (.str (d.1))), (.dv [] (.int .i64 (d.2.1))), (.dv [] (a0k (d.2.2.1))), (.dv [] (a0A (d.2.2.2)))]), (4, 35, [(.dv [] (.str (ByteArray.empty))), (.dv [] (.int .i64 (0))), .nil, .nil])], []⟩) (a0e ⟨rfl, rfl, rfl, rfl, trivial⟩ ⟨rfl, rfl, trivial⟩ trivial rfl) ?_
   refine a0j ?_
   refine z ?_
   refine zK 90000 Tryz.call33 ?_ (hf := a8r (x := d) (by omega))
   iterate 4 refine z ?_
   rw [b3h c1 (b0z (d.2.2.1.getD (a0q (a0D o.2.1) d.2.2.1 0).toNat default) o) (by rw [hs1]; show (_ || !a2c (a3B d (a0q (a0D o.2.1) d.2.2.1 0).toNat (d.2.2.1.getD (a0q (a0D o.2.1) d.2.2.1 0).toNat default))) = true; rw [hps]; exact c2)]
   refine a0r (σ' := ⟨[(4, .box 4 0), (5, .one (.dv [] (.int .i64 (0)))), (6, .one (.dv [] (.bool (false))))], [(4, 35, [(.dv [] (.str ((d).1))), (.dv [] (.int .i64 ((d).2.1))), (.key 90031), (.key 90900)])], [(90031, some (a0d false (a0k (d.2.2.1)))), (90900, some (a0d false (a0A (d.2.2.2))))]⟩) (a0e ⟨rfl, rfl, rfl, trivial⟩ ⟨rfl, trivial⟩ ⟨rfl, rfl, trivial⟩ rfl) ?_
   iterate 2 refine z ?_
   refine a1V (a0K hT rfl rfl rfl rfl) (a0B rfl) (a0B rfl) rfl rfl rfl ?_
   first | exact ⟨rfl, rfl⟩ | skip
  ·iterate 9 refine z ?_
   have hfin : a1b d o = (d, (opI (d.2.2.1.getD (a0q (a0D o.2.1) d.2.2.1 0).toNat default) o).2.1, true) := by rw [b3w c1 (b0z (d.2.2.1.getD (a0q (a0D o.2.1) d.2.2.1 0).toNat default) o) (by rw [hs1]; show (_ || !a2c (a3B d (a0q (a0D o.2.1) d.2.2.1 0).toNat (d.2.2.1.getD (a0q (a0D o.2.1) d.2.2.1 0).toNat default))) = false; rw [hps]; exact c2), hs1]; show (a3B d (a0q (a0D o.2.1) d.2.2.1 0).toNat (d.2.2.1.getD (a0q (a0D o.2.1) d.2.2.1 0).toNat default), _, _) = _; rw [hps]
   rw [hfin]
   refine a0r (σ' := ⟨[(4, .box 4 0), (5, .one (.dv [] (.int .i64 ((opI ((d.2.2.1.getD (a0q (a0D o.2.1) d.2.2.1 0).toNat default)) (o)).2.1)))), (6, .one (.dv [] (.bool (true))))], [(4, 35, [(.dv [] (.str ((d).1))), (.dv [] (.int .i64 ((d).2.1))), (.key 90031), (.key 90900)])], [(90031, some (a0d false (a0k (d.2.2.1)))), (90900, some (a0d false (a0A (d.2.2.2))))]⟩) (a0e ⟨rfl, rfl, rfl, trivial⟩ ⟨rfl, trivial⟩ ⟨rfl, rfl, trivial⟩ rfl) ?_
   refine z ?_
   refine a1V (a0K hT rfl rfl rfl rfl) (a0B rfl) (a0B rfl) rfl rfl rfl ?_
   first | exact ⟨rfl, rfl⟩ | skip
theorem b9b {d : DbT} {o : OpT} (hb : a1r d ≤ 1099511627776) (hal : same (d.2.2.1.getD (a0q (a0D o.2.1) d.2.2.1 0).toNat default) o = false) : KFn Tryz.prog 74 [.agg [(.dv [] (.str (d.1))), (.dv [] (.int .i64 (d.2.1))), (.dv [] (a0k (d.2.2.1))), (.dv [] (a0A (d.2.2.2)))], .agg [(.dv [] (.int .i64 (o.1))), (.dv [] (.str (o.2.1))), (.dv [] (.int .i64 (o.2.2.1.1))), (.dv [] (.int .i64 (o.2.2.1.2.1))), (.dv [] (.str (o.2.2.1.2.2))), (.dv [] (a0z (o.2.2.2.1))), (.dv [] (.str (o.2.2.2.2)))]] (.tup [(true, [(.dv [] (.str ((a1b d o).1.1))), (.dv [] (.int .i64 ((a1b d o).1.2.1))), (.key 90031), (.key 90900)]), (false, [(.dv [] (.int .i64 ((a1b d o).2.1)))]), (false, [(.dv [] (.bool ((a1b d o).2.2)))])]) [(90031, some (a0d false (a0k ((a1b d o).1.2.2.1)))), (90900, some (a0d false (a0A ((a1b d o).1.2.2.2))))] := by
 refine ⟨a0u Tryz.func74 rfl Tryz.ntmps74 Tryz.results74 rfl (fun C => ?_)⟩
 refine yF 0 0 rfl rfl fun f0_0 => ?_
 refine yF 0 1 rfl rfl fun f0_1 => ?_
 refine yF 0 2 rfl rfl fun f0_2 => ?_
 refine yF 0 3 rfl rfl fun f0_3 => ?_
 refine yF 1 0 rfl rfl fun f1_0 => ?_
 refine yF 1 1 rfl rfl fun f1_1 => ?_
 refine yF 1 2 rfl rfl fun f1_2 => ?_
 refine yF 1 3 rfl rfl fun f1_3 => ?_
 refine yF 1 4 rfl rfl fun f1_4 => ?_
 refine yF 1 5 rfl rfl fun f1_5 => ?_
 refine yF 1 6 rfl rfl fun f1_6 => ?_
 iterate 9 refine z ?_
 refine zK 90000 Tryz.call33 ?_ (hf := a8r (x := d) (by omega))
 iterate 7 refine z ?_
 refine zC Tryz.call71 ?_ (hf := a8Q (x := d) (n := o.2.1) )
 iterate 5 refine z ?_
 refine zC Tryz.call35 ?_ (hf := a9A (x := d) )
 iterate 3 refine z ?_
 refine a1t (a1l rfl rfl rfl rfl rfl) rfl rfl Tryz.call110 (b4P (x := o) ) (fun hg => (a0f (a0x rfl hg) (a0l (a0c a0b (a0c a0b (a0c a0b (a0c a0b (a0c a0b (a0c a0b (a0c a0b a0m)))))))) a0n)) rfl rfl ?_
 iterate 7 refine z ?_
 refine yQ rfl (fun c1 => ?_) fun c1 => ?_
 ·iterate 6 refine z ?_
  rw [b1L c1]
  refine a0r (σ' := ⟨[(4, .box 4 0), (5, .one (.dv [] (.int .i64 (0)))), (6, .one (.dv [] (.bool (false))))], [(4, 35, [(.dv [] (.str ((d).1))), (.dv [] (.int .i64 ((d).2.1))), (.key 90031), (.key 90900)])], [(90031, some (a0d false (a0k (d.2.2.1)))), (90900, some (a0d false (a0A (d.2.2.2))))]⟩) (a0e ⟨rfl, rfl, rfl, trivial⟩ ⟨rfl, trivial⟩ ⟨rfl, rfl, trivial⟩ rfl) ?_
  iterate 2 refine z ?_
  refine a1V (a0K hT rfl rfl rfl rfl) (a0B rfl) (a0B rfl) rfl rfl rfl ?_
  first | exact ⟨rfl, rfl⟩ | skip
 ·have hg := b1J c1
  have hlt : a0q (a0D o.2.1) d.2.2.1 0 < d.2.2.1.length := a5L d o.2.1
  have h0k : 0 ≤ a0q (a0D o.2.1) d.2.2.1 0 := hg.2.2
  have hsx := a6G (b0J hg.1) h0k hlt
  have hkn : (a0q (a0D o.2.1) d.2.2.1 0).toNat < d.2.2.1.length := by omega
  iterate 2 refine z ?_
  refine a7H (σ' := ⟨[(2, .box 2 0), (3, .box 3 0), (4, .box 4 0), (5, .one (.dv [] (.int .i64 (0)))), (6, .one (.dv [] (.bool (false)))), (7, .box 7 0), (8, .one (.dv [] (.int .i64 (a0q (a0D (o.2.1)) (d).2.2.1 0)))), (9, .box 9 0), (10, .one (.dv [] (.int .i64 ((opI ((d.2.2.1.getD (a0q (a0D o.2.1) d.2.2.1 0).toNat default)) (o)).2.1)))), (11, .one (.dv [] (.bool ((opI ((d.2.2.1.getD (a0q (a0D o.2.1) d.2.2.1 0).toNat default)) (o)).2.2))))], [(2, 35, [(.dv [] (.str (d.1))), (.dv [] (.int .i64 (d.2.1))), (.dv [] (a0k (d.2.2.1))), (.dv [] (a0A (d.2.2.2)))]), (3, 111, [(.dv [] (.int .i64 (o.1))), (.dv [] (.str (o.2.1))), (.dv [] (.int .i64 (o.2.2.1.1))), (.dv [] (.int .i64 (o.2.2.1.2.1))), (.dv [] (.str (o.2.2.1.2.2))), (.dv [] (a0z (o.2.2.2.1))), (.dv [] (.str (o.2.2.2.2)))]), (4, 35, [(.dv [] (.str (ByteArray.empty))), (.dv [] (.int .i64 (0))), .nil, .nil]), (7, 35, [(.dv [] (.str ((d).1))), (.dv [] (.int .i64 ((d).2.1))), (.key 90031), (.key 90900)]), (9, 89, [(.dv [] (.str ((opI ((d.2.2.1.getD (a0q (a0D o.2.1) d.2.2.1 0).toNat default)) (o)).1.1))), (.key 90501), (.dv [] (.int .i64 ((opI ((d.2.2.1.getD (a0q (a0D o.2.1) d.2.2.1 0).toNat default)) (o)).1.2.2)))])], [(90031, some (a0d false (a0k ((d).2.2.1)))), (90501, some (a0d false (a0t ((opI (d.2.2.1.getD (a0q (a0D o.2.1) d.2.2.1 0).toNat default) o).1.2.1)))), (90900, some (a0d false (a0A ((d).2.2.2))))]⟩) ?_ ?_
  ·refine a1o (oB := [2, 3, 4, 7]) (oK := [90031, 90900]) (by kernel_rfl) rfl rfl ?_
   refine zD 0 ?_
   refine zD 1 ?_
   refine zD 2 ?_
   refine a1X 3 rfl (by kernel_rfl) rfl rfl (a1q (i := (a0q (a0D (o.2.1)) (d).2.2.1 0).toNat) hT rfl rfl rfl (a0a rfl) rfl (a0a rfl) (by omega) (by show _ < (((d).2.2.1)).length; omega)) rfl rfl rfl rfl ?_
   refine a1X 4 rfl (by kernel_rfl) rfl rfl (b1p (ds := [.str ((d.2.2.1.getD (a0q (a0D o.2.1) d.2.2.1 0).toNat default).1), a0t ((d.2.2.1.getD (a0q (a0D o.2.1) d.2.2.1 0).toNat default).2.1), .int .i64 ((d.2.2.1.getD (a0q (a0D o.2.1) d.2.2.1 0).toNat default).2.2)]) hT rfl rfl (a0a rfl) rfl rfl (by decide) (b1Y (enc := a0U) (sz := 3) (fun _ => rfl) hkn)) rfl rfl rfl rfl ?_
   refine zD 5 ?_
   refine a5q (A := [(11, 9, 89, _)]) hT ⟨⟨_, _, rfl⟩, rfl, trivial⟩ ?_
   refine a4J 81500 6 rfl (by kernel_rfl) rfl rfl rfl (vok hT ⟨⟨_, _, rfl⟩, rfl, trivial⟩ (by kernel_rfl) (by kernel_rfl)) (vok hT ⟨⟨_, _, rfl⟩, rfl, trivial⟩ (by kernel_rfl) (by kernel_rfl)) rfl Tryz.call111 (c3q (x := (d.2.2.1.getD (a0q (a0D o.2.1) d.2.2.1 0).toNat default)) (o := o) hsx hg.2.1 hal) (a0f (a0a rfl) (a0l (a0c a0b (a0c a9l (a0c a0b a0m)))) (a0f (a0a rfl) (a0l (a0c a0b (a0c a0b (a0c a0b (a0c a0b (a0c a0b (a0c a0b (a0c a0b a0m)))))))) a0n)) rfl rfl rfl rfl rfl ?_
   refine a5U 7 rfl (by kernel_rfl) rfl rfl rfl (vok hT ⟨⟨_, _, rfl⟩, rfl, trivial⟩ (by kernel_rfl) (by kernel_rfl)) (vok hT ⟨⟨_, _, rfl⟩, rfl, trivial⟩ (by kernel_rfl) (by kernel_rfl)) (a1Q (.inl rfl) (a0a rfl)) rfl rfl rfl rfl ?_
   refine a2L 8 rfl (by kernel_rfl) rfl rfl rfl rfl (vok hT ⟨⟨_, _, rfl⟩, rfl, trivial⟩ (by kernel_rfl) (by kernel_rfl)) (vok hT ⟨⟨_, _, rfl⟩, rfl, trivial⟩ (by kernel_rfl) (by kernel_rfl)) (a4z rfl (a0a rfl) rfl) rfl rfl ?_
   refine a2L 9 rfl (by kernel_rfl) rfl rfl rfl rfl (vok hT ⟨⟨_, _, rfl⟩, rfl, trivial⟩ (by kernel_rfl) (by kernel_rfl)) (vok hT ⟨⟨_, _, rfl⟩, rfl, trivial⟩ (by kernel_rfl) (by kernel_rfl)) (a4F rfl (a0a rfl) rfl) rfl rfl ?_
   refine a2L 10 rfl (by kernel_rfl) rfl rfl rfl rfl (vok hT ⟨⟨_, _, rfl⟩, rfl, trivial⟩ (by kernel_rfl) (by kernel_rfl)) (vok hT ⟨⟨_, _, rfl⟩, rfl, trivial⟩ (by kernel_rfl) (by kernel_rfl)) (a4F rfl (a0a rfl) rfl) rfl rfl ?_
   refine a5C (vok hT ⟨⟨_, _, rfl⟩, rfl, trivial⟩ (by kernel_rfl) (by kernel_rfl)) rfl rfl (by kernel_rfl) ?_
   dsimp only [a3j, a2Z]
   refine a3c [12, 13, 14] rfl rfl (by kernel_rfl) ?_
   iterate 3 refine z ?_
   refine a1j ?_
   exact a3W (a0e ⟨rfl, rfl, rfl, rfl, rfl, rfl, rfl, rfl, rfl, rfl, trivial⟩ ⟨rfl, rfl, rfl, rfl, rfl, trivial⟩ ⟨rfl, rfl, rfl, trivial⟩ rfl)
  iterate 5 refine z ?_
  refine yO rfl rfl (a1q (i := (a0q (a0D (o.2.1)) (d).2.2.1 0).toNat) hT rfl rfl rfl (a0a rfl) rfl (a0a rfl) (by omega) (by show _ < (((d).2.2.1)).length; omega)) rfl ?_
  refine a1u (js := [90501]) (cs := (d.2.2.1.set (a0q (a0D o.2.1) d.2.2.1 0).toNat (opI (d.2.2.1.getD (a0q (a0D o.2.1) d.2.2.1 0).toNat default) o).1).flatMap a0U) hT rfl rfl rfl rfl (a0a rfl) (a0a rfl) rfl rfl rfl rfl (a0o (a0C rfl) (a0o (a1Y rfl) (a0o (a0C rfl) a1e rfl) rfl) rfl) (by decide) (by decide) rfl (by show _ ≤ List.length (((d).2.2.1).flatMap a0U); exact b0T (enc := a0U) (sz := 3) (fun _ => rfl) hkn) (b0S (enc := a0U) (sz := 3) (fun _ => rfl) hkn (opI (d.2.2.1.getD (a0q (a0D o.2.1) d.2.2.1 0).toNat default) o).1) ?_
  simp only [a0i, a0h, SV.kill, CV.kill, kk, Nat.reduceBEq]
  refine z ?_
  refine a0p ?_
  refine a0p ?_
  refine a0r (a5S (k := 90031) (c' := a0d false (a0k (d.2.2.1.set (a0q (a0D o.2.1) d.2.2.1 0).toNat (opI (d.2.2.1.getD (a0q (a0D o.2.1) d.2.2.1 0).toNat default) o).1))) rfl (congrArg (fun m => KC.mk false 89 3 m ((d.2.2.1.set (a0q (a0D o.2.1) d.2.2.1 0).toNat (opI (d.2.2.1.getD (a0q (a0D o.2.1) d.2.2.1 0).toNat default) o).1).flatMap a0U)) (List.length_set).symm) rfl) ?_
  refine a0j ?_
  iterate 4 refine z ?_
  refine a1t (a1l rfl rfl rfl rfl rfl) rfl rfl Tryz.call35 (a9A (x := a3B d (a0q (a0D o.2.1) d.2.2.1 0).toNat (opI (d.2.2.1.getD (a0q (a0D o.2.1) d.2.2.1 0).toNat default) o).1)) (fun hg => (a0f (a0x rfl hg) (a0l (a0c a0b (a0c a0b (a0c (a0L rfl rfl) (a0c (a0L rfl rfl) a0m))))) a0n)) rfl rfl ?_
  iterate 3 refine z ?_
  refine yQ rfl (fun c2 => ?_) fun c2 => ?_
  ·refine a0p ?_
   refine a0r (σ' := ⟨[(2, .box 2 0), (4, .box 4 0), (5, .one (.dv [] (.int .i64 (0)))), (6, .one (.dv [] (.bool (false))))], [(2, 35, [(.dv [] (.str (d.1))), (.dv [] (.int .i64 (d.2.1))), (.dv [] (a0k (d.2.2.1))), (.dv [] (a0A (d.2.2.2)))]), (4, 35, [(.dv [] (.str (ByteArray.empty))), (.dv [] (.int .i64 (0))), .nil, .nil])], []⟩) (a0e ⟨rfl, rfl, rfl, rfl, trivial⟩ ⟨rfl, rfl, trivial⟩ trivial rfl) ?_
   refine a0j ?_
   refine z ?_
   refine zK 90000 Tryz.call33 ?_ (hf := a8r (x := d) (by omega))
   iterate 4 refine z ?_
   rw [b3h c1 (b0z (d.2.2.1.getD (a0q (a0D o.2.1) d.2.2.1 0).toNat default) o) c2]
   refine a0r (σ' := ⟨[(4, .box 4 0), (5, .one (.dv [] (.int .i64 (0)))), (6, .one (.dv [] (.bool (false))))], [(4, 35, [(.dv [] (.str ((d).1))), (.dv [] (.int .i64 ((d).2.1))), (.key 90031), (.key 90900)])], [(90031, some (a0d false (a0k (d.2.2.1)))), (90900, some (a0d false (a0A (d.2.2.2))))]⟩) (a0e ⟨rfl, rfl, rfl, trivial⟩ ⟨rfl, trivial⟩ ⟨rfl, rfl, trivial⟩ rfl) ?_
   iterate 2 refine z ?_
   refine a1V (a0K hT rfl rfl rfl rfl) (a0B rfl) (a0B rfl) rfl rfl rfl ?_
   first | exact ⟨rfl, rfl⟩ | skip
  ·iterate 9 refine z ?_
   rw [b3w c1 (b0z (d.2.2.1.getD (a0q (a0D o.2.1) d.2.2.1 0).toNat default) o) c2]
   refine a0r (σ' := ⟨[(4, .box 4 0), (5, .one (.dv [] (.int .i64 ((opI ((d.2.2.1.getD (a0q (a0D o.2.1) d.2.2.1 0).toNat default)) (o)).2.1)))), (6, .one (.dv [] (.bool (true))))], [(4, 35, [(.dv [] (.str ((d).1))), (.dv [] (.int .i64 ((d).2.1))), (.key 90031), (.key 90900)])], [(90031, some (a0d false (a0k (d.2.2.1.set (a0q (a0D o.2.1) d.2.2.1 0).toNat (opI (d.2.2.1.getD (a0q (a0D o.2.1) d.2.2.1 0).toNat default) o).1)))), (90900, some (a0d false (a0A (d.2.2.2))))]⟩) (a0e ⟨rfl, rfl, rfl, trivial⟩ ⟨rfl, trivial⟩ ⟨rfl, rfl, trivial⟩ rfl) ?_
   refine z ?_
   refine a1V (a0K hT rfl rfl rfl rfl) (a0B rfl) (a0B rfl) rfl rfl rfl ?_
   first | exact ⟨rfl, rfl⟩ | skip
theorem c1N {d : DbT} {o : OpT} (hb : a1r d ≤ 1099511627776) : KFn Tryz.prog 74 [.agg [(.dv [] (.str (d.1))), (.dv [] (.int .i64 (d.2.1))), (.dv [] (a0k (d.2.2.1))), (.dv [] (a0A (d.2.2.2)))], .agg [(.dv [] (.int .i64 (o.1))), (.dv [] (.str (o.2.1))), (.dv [] (.int .i64 (o.2.2.1.1))), (.dv [] (.int .i64 (o.2.2.1.2.1))), (.dv [] (.str (o.2.2.1.2.2))), (.dv [] (a0z (o.2.2.2.1))), (.dv [] (.str (o.2.2.2.2)))]] (.tup [(true, [.dv [] (.str ((a1b d o).1.1)), .dv [] (.int .i64 ((a1b d o).1.2.1)), .key 90031, .key 90900]), (false, [.dv [] (.int .i64 ((a1b d o).2.1))]), (false, [.dv [] (.bool ((a1b d o).2.2))])]) [(90031, some (a0d false (a0k ((a1b d o).1.2.2.1)))), (90900, some (a0d false (a0A ((a1b d o).1.2.2.2))))] := by
 by_cases h : same (d.2.2.1.getD (a0q (a0D o.2.1) d.2.2.1 0).toNat default) o = true
 ·exact c4J hb h
 ·exact b9b hb (by simpa using h)
theorem b9E {x : List (Int)} {k : Int} (h0 : 0 ≤ k) (h1 : k + (wSum a3D x : Int) ≤ 4611686018427387904) : WFn Tryz.prog 16 [.one (.key 0), .one (.dv [] (.int .i64 (k)))] (.one (.dv [] (.int .i64 (k + (wSum a3D x : Int))))) [(0, a0d true (.sl 3 1 (x.length) (x.flatMap a2I)))] [(0, a0d true (a2P (mkL a8t a3D x k)))] := by
 refine ⟨a0u Tryz.func16 rfl Tryz.ntmps16 Tryz.results16 rfl (fun C => ?_)⟩
 have hln : x.length ≤ wSum a3D x := a6M (fun _ => by simp only [a3D]; omega) x
 refine a0G (x := .tmp 1) (a0a rfl) fun f1 => ?_
 iterate 8 refine z ?_
 refine a0W (ι := Nat) (fun zz => ⟨[(0, .one (.key 0)), (1, .one (.dv [] (.int .i64 (k + (wSum a3D (x.take zz) : Int))))), (4, .one (.dv [] (.int .i64 (0)))), (5, .one (.dv [] (.int .i64 ((zz : Int)))))], [], [(0, some ⟨true, 3, 1, x.length, (mkL a8t a3D (x.take zz) k).flatMap a2I ++ (x.drop zz).flatMap a2I⟩)]⟩) (fun zz => zz ≤ x.length) (fun zz => x.length - zz) (0) ?_ (a0e ⟨rfl, (a2E (by simp [wSum])), rfl, rfl, trivial⟩ trivial ⟨rfl, trivial⟩ rfl) (fun zz hx => ?_)
 ·exact Nat.zero_le _
 obtain ⟨j, rfl⟩ : ∃ v, v = zz := ⟨_, rfl⟩
 replace hx : j ≤ x.length := hx
 have hw := fun h => a1T a3D x j h
 show Ok _ _ _ _ _ (⟨[(0, .one (.key 0)), (1, .one (.dv [] (.int .i64 (k + (wSum a3D (x.take j) : Int))))), (4, .one (.dv [] (.int .i64 (0)))), (5, .one (.dv [] (.int .i64 ((j : Int)))))], [], [(0, some ⟨true, 3, 1, x.length, (mkL a8t a3D (x.take j) k).flatMap a2I ++ (x.drop j).flatMap a2I⟩)]⟩ : St)
 iterate 4 refine z ?_
 refine yO rfl rfl (a3S (n := (x.length)) hT rfl rfl (a0a rfl) rfl rfl) rfl ?_
 iterate 2 refine z ?_
 refine yQ rfl (fun c1 => ?_) fun c1 => ?_
 ·have d1 := c5p c1
  have hj : j < x.length := by omega
  obtain ⟨hw1, hw2⟩ := hw hj
  have hc : a3D (x.getD (j : Int).toNat default) = 1 := rfl
  refine a5g (k := 0) (cs' := mid ((mkL a8t a3D (x.take j) k).flatMap a2I) [.int .i64 ((x.getD (j : Int).toNat default))] ((x.drop (j + 1)).flatMap a2I)) rfl (a7L hj) ?_
  iterate 8 refine z ?_
  refine yO rfl rfl (a1q (i := j) hT rfl rfl rfl (a0a rfl) rfl (a0a rfl) rfl (by show _ < (x.length); omega)) rfl ?_
  refine a1u (js := []) (cs := mid ((mkL a8t a3D (x.take j) k).flatMap a2I) [.int .i64 (k + (wSum a3D (x.take j) : Int))] ((x.drop (j + 1)).flatMap a2I)) hT rfl rfl rfl rfl (a0a rfl) (a0a rfl) rfl rfl rfl rfl (a0o (a0C rfl) a1e rfl) (by decide) (by decide) rfl (a2a (off := j * 1) (n := 1) (j := 0) (a1s (sz := 1) (fun _ => rfl) (Nat.le_of_lt hj)) (by omega) (Nat.le_of_ble_eq_true rfl)) (a1S (off := j * 1) (j := 0) (a1s (sz := 1) (fun _ => rfl) (Nat.le_of_lt hj)) (by omega) rfl (Nat.le_of_ble_eq_true rfl)) ?_
  simp only [a0i, a0h, SV.kill, CV.kill, kk, Nat.reduceBEq]
  refine z ?_
  refine a0j ?_
  iterate 3 refine z ?_
  refine a1j ?_
  iterate 2 refine z ?_
  refine a0j ?_
  iterate 4 refine z ?_
  refine ⟨j + 1, ?_, ?_, a0e ⟨rfl, (a2E (by omega)), rfl, rfl, trivial⟩ trivial ⟨(congrArg (fun cs => some (some (KC.mk true 3 1 x.length cs))) (a7B (by omega) (by rfl))), trivial⟩ rfl⟩
  ·omega
  ·omega
 ·have d1 := c5q c1
  iterate 9 refine z ?_
  refine a0r (σ' := ⟨[(4, .one (.dv [] (.int .i64 (k + (wSum a3D (x.take j) : Int)))))], [], [(0, some (a0d true (a2P (mkL a8t a3D x k))))]⟩) (a0e ⟨rfl, trivial⟩ trivial ⟨(a7h (by omega)), trivial⟩ rfl) ?_
  refine z ?_
  refine a1B (a0B rfl) ⟨eqI ?_, a6P rfl⟩
  have hq := a3r a3D x j (by omega); omega
theorem c3x {x : List Int}  : PFn Tryz.prog 13 [.one (.dv [] (a2P (x))), .one (.dv [] (a2P (x)))] (.one (.dv [] (.bool (true)))) := by
 refine ⟨a0u Tryz.func13 rfl Tryz.ntmps13 Tryz.results13 rfl (fun C => ?_)⟩
 refine a0G (x := .tmp 0) (a0a rfl) fun f0 => ?_
 refine a0G (x := .tmp 1) (a0a rfl) fun f1 => ?_
 iterate 11 refine z ?_
 refine yQ rfl (fun c1 => ?_) fun c1 => ?_
 ·have d1 := a2g c1
  iterate 6 refine z ?_
  first | rfl | (exfalso; simp_all)
 ·have d1 := a2j c1
  iterate 7 refine z ?_
  refine a0W (ι := Nat) (fun zz => ⟨[(0, .one (.dv [] (a2P (x)))), (1, .one (.dv [] (a2P (x)))), (5, .one (.dv [] (.int .i64 ((zz : Int)))))], [], []⟩) (fun zz => zz ≤ x.length) (fun zz => x.length - zz) (0) ?_ (a0e ⟨rfl, rfl, rfl, trivial⟩ trivial trivial rfl) (fun zz hx => ?_)
  ·exact Nat.zero_le _
  obtain ⟨k, rfl⟩ : ∃ v, v = zz := ⟨_, rfl⟩
  replace hx : k ≤ x.length := hx
  show Ok _ _ _ _ _ (⟨[(0, .one (.dv [] (a2P (x)))), (1, .one (.dv [] (a2P (x)))), (5, .one (.dv [] (.int .i64 ((k : Int)))))], [], []⟩ : St)
  iterate 7 refine z ?_
  refine yQ rfl (fun c2 => ?_) fun c2 => ?_
  ·have d2 := c5p c2
   iterate 4 refine z ?_
   refine a0p ?_
   refine a1o (oB := []) (oK := []) (by kernel_rfl) rfl rfl ?_
   refine zD 0 ?_
   refine zD 1 ?_
   refine zD 2 ?_
   refine zD 3 ?_
   refine zD 4 ?_
   refine zD 5 ?_
   refine zD 6 ?_
   refine zD 7 ?_
   refine zD 8 ?_
   refine a1R (by kernel_rfl) ?_
   refine z ?_
   refine yQ rfl (fun c3 => ?_) fun c3 => ?_
   ·have d3 := a2g c3
    iterate 10 refine z ?_
    first | rfl | (exfalso; simp_all)
   ·have d3 := a2j c3
    iterate 3 refine z ?_
    refine a0j ?_
    iterate 4 refine z ?_
    refine ⟨k + 1, ?_, ?_, a0e ⟨rfl, rfl, rfl, trivial⟩ trivial trivial rfl⟩
    ·omega
    ·omega
  ·have d2 := c5q c2
   iterate 10 refine z ?_
   first | rfl | (exfalso; simp_all)
theorem c0q {s : a0I} (h : a1E s = true) : s.1.size ≤ 8 := by
 simp only [a1E, Bool.and_eq_true] at h
 have := h.2.1.1
 simp only [a3l, Bool.and_eq_true, decide_eq_true_eq] at this
 omega
theorem b8E {d : DbT} {o : OpT} (h : (a1b d o).2.2 = true) : a2c (a1b d o).1 = true := by
 unfold a1b at h ⊢
 split at h
 ·cases h
 ·rename_i h1
  split at h
  ·cases h
  ·rename_i h2
   rw [if_neg h1, if_neg h2]
   have h2 : (!(opM (a5r d o) o).2.2 || !a2c (a3B d (a1U d o.2.1).toNat (opM (a5r d o) o).1)) = false := by simpa using h2
   simp only [Bool.or_eq_false_iff, Bool.not_eq_false'] at h2
   exact h2.2
section
variable {α : Type} {enc : α → List DV} {sz : Nat} {xs : List α} {n : Nat}
theorem a1h (hs : ∀ y, (enc y).length = sz) (h : n ≤ xs.length) : ((xs.take n).flatMap enc).length = n * sz := by rw [a4W hs, c5t, Nat.min_eq_left h]
theorem b4p (h : n < xs.length) (y : α) : mid ((xs.take n).flatMap enc) (enc y) ((xs.drop (n + 1)).flatMap enc) = (xs.set n y).flatMap enc := by
 rw [List.set_eq_take_append_cons_drop, if_pos h, List.flatMap_append, List.flatMap_cons]; unfold mid; simp
theorem b0O [Inhabited α] {t : α} (h : n < xs.length) (ht : t = xs.getD n default) : xs.flatMap enc = mid ((xs.take n).flatMap enc) (enc t) ((xs.drop (n + 1)).flatMap enc) := by
 rw [b4p h]
 have e : xs.set n t = xs := by
  subst ht
  apply List.ext_getElem?
  intro j
  rw [List.getElem?_set]
  by_cases h' : n = j
  ·subst h'; simp [h, List.getD]
  ·simp [h']
 rw [e]
theorem a5s {e : Nat} (h : n < xs.length) (y : α) : some (some (KC.mk false e sz xs.length (mid ((xs.take n).flatMap enc) (enc y) ((xs.drop (n + 1)).flatMap enc)))) = some (some (KC.mk false e sz (xs.set n y).length ((xs.set n y).flatMap enc))) := by rw [b4p h, List.length_set]
end
def a2y : DbT → List a0I → DbT
 | d, [] => d
 | d, s :: l => a2y (if 0 ≤ a1U d s.1 then a3B d (a1U d s.1).toNat s else d) l
theorem b5N {c : DbT} {l : List a0I} {n : Nat} (h : n < l.length) : a2y c (l.drop n) = a2y (if 0 ≤ a1U c (l.getD (n : Int).toNat default).1 then a3B c (a1U c (l.getD (n : Int).toNat default).1).toNat (l.getD (n : Int).toNat default) else c) (l.drop (n + 1)) := by
 have e : l.drop n = l.getD (n : Int).toNat default :: l.drop (n + 1) := by rw [List.drop_eq_getElem_cons h]; simp [List.getD, List.getElem?_eq_getElem h]
 rw [e, a2y]
theorem b4m {d : DbT} {o : OpT} (h : (a1b d o).2.2 = false) : (a1b d o).1 = d := by
 unfold a1b at h ⊢
 split
 ·rfl
 ·rename_i h1
  rw [if_neg h1] at h
  split
  ·rfl
  ·rename_i h2
   rw [if_neg h2] at h; cases h
def tin (t : TxT) (a : Int) : Bool := decide (0 ≤ a) && decide (a ≤ (t.2.1.length : Int) - 1)
def a7q (t : TxT) : OpT := t.2.1.getD (t.2.2.1).toNat default
def a4g (q : List TxT) (i : Int) : Bool := (decide (i < 0) || decide ((q.length : Int) ≤ i)) || !decide ((q.getD i.toNat default).2.2.2.1 = 1)
def a7a (d : DbT) (q : List TxT) (n : Nat) (t : TxT) : DbT × List TxT × Bool :=
 if tin t t.2.2.1 = true then
  if (a1b d (a7q t)).2.2 = true then ((a1b d (a7q t)).1, q.set n (if tin t (t.2.2.1 + 1) = true then (t.1, t.2.1, t.2.2.1 + 1, t.2.2.2.1, t.2.2.2.2) else (t.1, t.2.1, t.2.2.1 + 1, 2, [])), true)
  else (a2y d t.2.2.2.2, q.set n (t.1, t.2.1, t.2.2.1 + 1, 3, []), true)
 else (d, q.set n (t.1, t.2.1, t.2.2.1, 2, []), true)
def a2O (d : DbT) (q : List TxT) (i : Int) : DbT × List TxT × Bool := if a4g q i = true then (d, q, false) else a7a d q i.toNat (q.getD i.toNat default)
theorem b5J (q : List TxT) (i : Int) : (!(decide (0 ≤ i) && decide (i ≤ (q.length : Int) - 1)) || !decide ((q.getD i.toNat default).2.2.2.1 = 1)) = a4g q i := by
 unfold a4g
 congr 1
 by_cases h1 : 0 ≤ i <;> by_cases h2 : i ≤ (q.length : Int) - 1
 ·simp [h1, h2, show ¬ i < 0 by omega, show ¬ (q.length : Int) ≤ i by omega]
 ·simp [h1, h2, show (q.length : Int) ≤ i by omega]
 ·simp [h1, show i < 0 by omega]
 ·simp [h1, show i < 0 by omega]
theorem b1V {q : List TxT} {i : Int} (h : a4g q i = false) : 0 ≤ i ∧ i < (q.length : Int) ∧ (q.getD i.toNat default).2.2.2.1 = 1 := by
 unfold a4g at h
 simp only [Bool.or_eq_false_iff, decide_eq_false_iff_not, Bool.not_eq_false', decide_eq_true_eq] at h
 omega
section
variable {d : DbT} {q : List TxT} {i : Int} {t : TxT}
theorem b3l (h : a4g q i = true) : a2O d q i = (d, q, false) := by rw [a2O, if_pos h]
theorem a9W (h : a4g q i = false) (ht : t = q.getD i.toNat default) : a2O d q i = a7a d q i.toNat t := by rw [a2O, if_neg (by rw [h]; simp), ht]
theorem b3D (h : a4g q i = false) (ht : t = q.getD i.toNat default) (h1 : tin t t.2.2.1 = false) : a2O d q i = (d, q.set i.toNat (t.1, t.2.1, t.2.2.1, 2, []), true) := by rw [a9W h ht, a7a, if_neg (by rw [h1]; simp)]
theorem b5R (h : a4g q i = false) (ht : t = q.getD i.toNat default) (h1 : tin t t.2.2.1 = true) (h2 : (a1b d (a7q t)).2.2 = false) : a2O d q i = (a2y d t.2.2.2.2, q.set i.toNat (t.1, t.2.1, t.2.2.1 + 1, 3, []), true) := by rw [a9W h ht, a7a, if_pos h1, if_neg (by rw [h2]; simp)]
theorem b5c (h : a4g q i = false) (ht : t = q.getD i.toNat default) (h1 : tin t t.2.2.1 = true) (h2 : (a1b d (a7q t)).2.2 = true) (h3 : tin t (t.2.2.1 + 1) = true) : a2O d q i = ((a1b d (a7q t)).1, q.set i.toNat (t.1, t.2.1, t.2.2.1 + 1, t.2.2.2.1, t.2.2.2.2), true) := by rw [a9W h ht, a7a, if_pos h1, if_pos h2, if_pos h3]
theorem b8c (h : a4g q i = false) (ht : t = q.getD i.toNat default) (h1 : tin t t.2.2.1 = true) (h2 : (a1b d (a7q t)).2.2 = true) (h3 : tin t (t.2.2.1 + 1) = false) : a2O d q i = ((a1b d (a7q t)).1, q.set i.toNat (t.1, t.2.1, t.2.2.1 + 1, 2, []), true) := by rw [a9W h ht, a7a, if_pos h1, if_pos h2, if_neg (by rw [h3]; simp)]
theorem b7U {a : Int} (h : tin t a = true) : 0 ≤ a ∧ a < (t.2.1.length : Int) := by
 unfold tin at h
 simp only [Bool.and_eq_true, decide_eq_true_eq] at h
 omega
theorem c0B {a : Int} (h1 : t.2.2.2.1 = 1) (h : (decide (t.2.2.2.1 = 1) && !(decide (0 ≤ a) && decide (a ≤ (t.2.1.length : Int) - 1))) = true) : tin t a = false := by
 rw [h1] at h
 unfold tin
 simpa only [decide_true, Bool.true_and, Bool.not_eq_true'] using h
theorem c4X {a : Int} (h1 : t.2.2.2.1 = 1) (h : (decide (t.2.2.2.1 = 1) && !(decide (0 ≤ a) && decide (a ≤ (t.2.1.length : Int) - 1))) = false) : tin t a = true := by
 rw [h1] at h
 unfold tin
 simpa only [decide_true, Bool.true_and, Bool.not_eq_false'] using h
theorem b0e (h : i.toNat < q.length) (ht : t = q.getD i.toNat default) : wTx t ≤ a0s wTx q := by
 have h1 := (a1T wTx q i.toNat h).1
 have h2 := a5w wTx q (i.toNat + 1)
 have h3 : a0s wTx q = q.length + wSum wTx q := rfl
 have e : q.getD ((i.toNat : Nat) : Int).toNat default = t := by rw [ht]; congr 1
 rw [e] at h1
 omega
end
theorem c0G {d : DbT} {l : List a0I} (hb : a1r d ≤ 549755813888) (hl : a0s a0v l ≤ 549755813888) : KFn Tryz.prog 62 [.agg [(.dv [] (.str (d.1))), (.dv [] (.int .i64 (d.2.1))), (.dv [] (a0k (d.2.2.1))), (.dv [] (a0A (d.2.2.2)))], .one (.dv [] (a0k (l)))] (.agg [(.dv [] (.str ((a2y d l).1))), (.dv [] (.int .i64 ((a2y d l).2.1))), (.key 90031), (.key 90900)]) [(90031, some (a0d false (a0k ((a2y d l).2.2.1)))), (90900, some (a0d false (a0A ((a2y d l).2.2.2))))] := by
 refine ⟨a0u Tryz.func62 rfl Tryz.ntmps62 Tryz.results62 rfl (fun C => ?_)⟩
 have hwl : a0s a0v l = l.length + wSum a0v l := rfl
 refine yF 0 0 rfl rfl fun f0_0 => ?_
 refine yF 0 1 rfl rfl fun f0_1 => ?_
 refine yF 0 2 rfl rfl fun f0_2 => ?_
 refine yF 0 3 rfl rfl fun f0_3 => ?_
 refine a0G (x := .tmp 1) (a0a rfl) fun f1 => ?_
 iterate 6 refine z ?_
 refine zK 90000 Tryz.call22 ?_ (hf := a8a (x := d) (by omega))
 iterate 8 refine z ?_
 refine a0W (ι := Nat × DbT) (fun zz => ⟨[(1, .one (.dv [] (a0k (l)))), (4, .box 4 0), (5, .box 5 0), (6, .one (.dv [] (.int .i64 ((zz.1 : Int)))))], [(2, 35, [(.dv [] (.str (d.1))), (.dv [] (.int .i64 (d.2.1))), (.dv [] (a0k (d.2.2.1))), (.dv [] (a0A (d.2.2.2)))]), (4, 35, [(.dv [] (.str (ByteArray.empty))), (.dv [] (.int .i64 (0))), .nil, .nil]), (5, 35, [(.dv [] (.str (zz.2.1))), (.dv [] (.int .i64 (zz.2.2.1))), (.key 90031), (.key 90900)])], [(90031, some (a0d false (.sl 89 3 (zz.2.2.2.1.length) (zz.2.2.2.1.flatMap a0U)))), (90900, some (a0d false (.sl 95 2 (zz.2.2.2.2.length) (zz.2.2.2.2.flatMap a1y))))]⟩) (fun zz => zz.1 ≤ l.length ∧ a2y d l = a2y zz.2 (l.drop zz.1)) (fun zz => l.length - zz.1) ((0, d)) ?_ (a0e ⟨rfl, rfl, rfl, rfl, trivial⟩ ⟨rfl, rfl, rfl, trivial⟩ ⟨rfl, rfl, trivial⟩ rfl) (fun zz hx => ?_)
 ·exact ⟨Nat.zero_le _, by simp⟩
 obtain ⟨n, c⟩ := zz
 replace hx : n ≤ l.length ∧ a2y d l = a2y c (l.drop n) := hx
 obtain ⟨hn, hi⟩ := hx
 have hw := fun h => a1T a0v l n h
 have hwle := a5w a0v l (n + 1)
 show Ok _ _ _ _ _ (⟨[(1, .one (.dv [] (a0k (l)))), (4, .box 4 0), (5, .box 5 0), (6, .one (.dv [] (.int .i64 ((n : Int)))))], [(2, 35, [(.dv [] (.str (d.1))), (.dv [] (.int .i64 (d.2.1))), (.dv [] (a0k (d.2.2.1))), (.dv [] (a0A (d.2.2.2)))]), (4, 35, [(.dv [] (.str (ByteArray.empty))), (.dv [] (.int .i64 (0))), .nil, .nil]), (5, 35, [(.dv [] (.str (c.1))), (.dv [] (.int .i64 (c.2.1))), (.key 90031), (.key 90900)])], [(90031, some (a0d false (.sl 89 3 (c.2.2.1.length) (c.2.2.1.flatMap a0U)))), (90900, some (a0d false (.sl 95 2 (c.2.2.2.length) (c.2.2.2.flatMap a1y))))]⟩ : St)
 iterate 7 refine z ?_
 refine yQ rfl (fun c1 => ?_) fun c1 => ?_
 ·have d1 := c5p c1
  have hn2 : n < l.length := by omega
  obtain ⟨hw1, hw2⟩ := hw hn2
  have hrs := b5N (c := c) hn2
  iterate 4 refine z ?_
  refine a0p ?_
  refine a1o (oB := [2, 4, 5]) (oK := [90031, 90900]) (by kernel_rfl) rfl rfl ?_
  refine zD 0 ?_
  refine zD 1 ?_
  refine zD 2 ?_
  refine zD 3 ?_
  refine zD 4 ?_
  refine zD 5 ?_
  refine a2v 6 rfl (by kernel_rfl) rfl rfl rfl Tryz.call55 (b0b (x := c) (n := (l.getD (n : Int).toNat default).1)) (a0f (a0a rfl) (a0l (a0c a0b (a0c a0b (a0c (a0L rfl rfl) (a0c (a0L rfl rfl) a0m))))) (a0f (a0a rfl) (a0H a0b) a0n)) rfl rfl rfl rfl ?_
  refine zD 7 ?_
  refine a1R (by kernel_rfl) ?_
  iterate 5 refine z ?_
  refine yQ rfl (fun c2 => ?_) fun c2 => ?_
  ·have d2 := c5p c2
   have hlt : (a0q (a0D (l.getD (n : Int).toNat default).1) c.2.2.1 0) < c.2.2.1.length := a5L c (l.getD (n : Int).toNat default).1
   have hkn : (a0q (a0D (l.getD (n : Int).toNat default).1) c.2.2.1 0).toNat < c.2.2.1.length := by omega
   rw [if_pos (show 0 ≤ a1U c (l.getD (n : Int).toNat default).1 from d2)] at hrs
   refine a1o (oB := [2, 4, 5]) (oK := [90031, 90900]) (by kernel_rfl) rfl rfl ?_
   refine zD 0 ?_
   refine zD 1 ?_
   refine zD 2 ?_
   refine zD 3 ?_
   refine zD 4 ?_
   refine zD 5 ?_
   refine zD 6 ?_
   refine a3L 96970 7 rfl (by kernel_rfl) rfl rfl rfl Tryz.call51 (a5e (x := (l.getD (n : Int).toNat default)) (by omega)) (a0f (a0a rfl) (a0l (a0c a0b (a0c a0b (a0c a0b a0m)))) a0n) rfl rfl rfl rfl rfl ?_
   refine a1X 8 rfl (by kernel_rfl) rfl rfl (a1q (i := (a0q (a0D ((l.getD (n : Int).toNat default).1)) (c).2.2.1 0).toNat) hT rfl rfl rfl (a0a rfl) rfl (a0a rfl) (by omega) (by show _ < (c.2.2.1.length); omega)) rfl rfl rfl rfl ?_
   refine a3c [9] rfl rfl (by kernel_rfl) ?_
   refine a1u (js := [97000]) (cs := (c.2.2.1.set (a0q (a0D (l.getD (n : Int).toNat default).1) c.2.2.1 0).toNat (l.getD (n : Int).toNat default)).flatMap a0U) hT rfl rfl rfl rfl (a0a rfl) (a0a rfl) rfl rfl rfl rfl (a0o (a0C rfl) (a0o (a1Y rfl) (a0o (a0C rfl) a1e rfl) rfl) rfl) (by decide) (by decide) rfl (by show _ ≤ List.length (c.2.2.1.flatMap a0U); exact b0T (enc := a0U) (sz := 3) (fun _ => rfl) hkn) (b0S (enc := a0U) (sz := 3) (fun _ => rfl) hkn (l.getD (n : Int).toNat default)) ?_
   simp only [a0i, a0h, SV.kill, CV.kill, kk, Nat.reduceBEq]
   refine a1j ?_
   iterate 2 refine z ?_
   refine a0j ?_
   iterate 4 refine z ?_
   refine ⟨(n + 1, a3B c (a0q (a0D (l.getD (n : Int).toNat default).1) c.2.2.1 0).toNat (l.getD (n : Int).toNat default)), ?_, ?_, a0e ⟨rfl, rfl, rfl, rfl, trivial⟩ ⟨rfl, rfl, rfl, trivial⟩ ⟨(congrArg (fun m => some (some (KC.mk false 89 3 m ((c.2.2.1.set (a0q (a0D (l.getD (n : Int).toNat default).1) c.2.2.1 0).toNat (l.getD (n : Int).toNat default)).flatMap a0U)))) (List.length_set).symm), rfl, trivial⟩ rfl⟩
   ·exact ⟨hn2, by rw [hi]; exact hrs⟩
   ·dsimp only; omega
  ·have d2 := c5q c2
   rw [if_neg (show ¬ 0 ≤ a1U c (l.getD (n : Int).toNat default).1 from d2)] at hrs
   iterate 3 refine z ?_
   refine a0j ?_
   iterate 4 refine z ?_
   refine ⟨(n + 1, c), ?_, ?_, a0e ⟨rfl, rfl, rfl, rfl, trivial⟩ ⟨rfl, rfl, rfl, trivial⟩ ⟨rfl, rfl, trivial⟩ rfl⟩
   ·exact ⟨hn2, by rw [hi]; exact hrs⟩
   ·dsimp only; omega
 ·have d1 := c5q c1
  iterate 9 refine z ?_
  have hfin : a2y d l = c := by rw [hi, List.drop_of_length_le (by omega)]; rfl
  rw [hfin]
  refine a0r (σ' := ⟨[(4, .box 4 0)], [(4, 35, [(.dv [] (.str (c.1))), (.dv [] (.int .i64 (c.2.1))), (.key 90031), (.key 90900)])], [(90031, some (a0d false (a0k (c.2.2.1)))), (90900, some (a0d false (a0A (c.2.2.2))))]⟩) (a0e ⟨rfl, trivial⟩ ⟨rfl, trivial⟩ ⟨rfl, rfl, trivial⟩ rfl) ?_
  refine z ?_
  refine a1B (a0K hT rfl rfl rfl rfl) ?_
  first | exact ⟨rfl, rfl⟩ | skip
theorem a6c {d : DbT} {q : List TxT} {i : Int} (hb : a1r d ≤ 549755813888) (hq : a0s wTx q ≤ 549755813888) : KFn Tryz.prog 28 [.agg [(.dv [] (.str (d.1))), (.dv [] (.int .i64 (d.2.1))), (.dv [] (a0k (d.2.2.1))), (.dv [] (a0A (d.2.2.2)))], .agg [(.dv [] (a0Z (q)))], .one (.dv [] (.int .i64 (i)))] (.tup [(true, [(.dv [] (.str ((a2O d q i).1.1))), (.dv [] (.int .i64 ((a2O d q i).1.2.1))), (.key 90031), (.key 90900)]), (true, [(.key 95031)]), (false, [(.dv [] (.bool ((a2O d q i).2.2)))])]) [(90031, some (a0d false (a0k ((a2O d q i).1.2.2.1)))), (90900, some (a0d false (a0A ((a2O d q i).1.2.2.2)))), (95031, some (a0d false (a0Z ((a2O d q i).2.1))))] := by
 refine ⟨a0u Tryz.func28 rfl Tryz.ntmps28 Tryz.results28 rfl (fun C => ?_)⟩
 have hwq : a0s wTx q = q.length + wSum wTx q := rfl
 obtain ⟨t, ht⟩ : ∃ t, t = q.getD i.toNat default := ⟨_, rfl⟩
 have hwt : wTx t = a0s wOp t.2.1 + a0s a0v t.2.2.2.2 := rfl
 have hwo : a0s wOp t.2.1 = t.2.1.length + wSum wOp t.2.1 := rfl
 have hwb : a0s a0v t.2.2.2.2 = t.2.2.2.2.length + wSum a0v t.2.2.2.2 := rfl
 refine yF 0 0 rfl rfl fun f0_0 => ?_
 refine yF 0 1 rfl rfl fun f0_1 => ?_
 refine yF 0 2 rfl rfl fun f0_2 => ?_
 refine yF 0 3 rfl rfl fun f0_3 => ?_
 refine yF 1 0 rfl rfl fun f1_0 => ?_
 refine a0G (x := .tmp 2) (a0a rfl) fun f2 => ?_
 iterate 9 refine z ?_
 refine zK 95000 Tryz.call23 ?_ (hf := b2R (x := q) (by omega))
 iterate 10 refine z ?_
 refine zC Tryz.call58 ?_ (hf := a3Y (n := i) (lo := 0) (hi := ((((q)).length : Int)) - (1)) )
 iterate 11 refine z ?_
 refine yQ rfl (fun c1 => ?_) fun c1 => ?_
 ·have hb1 : a4g q i = true := by rw [← b5J]; exact c1
  refine a0p ?_
  refine b4L 6 [0, 1, 2, 3] (oB := [3, 4, 7, 9]) (oK := [95031]) (by kernel_rfl) rfl rfl ?_
  refine a5n 0 rfl (by kernel_rfl) rfl rfl (a2i hT rfl rfl (a0a rfl) rfl rfl) rfl rfl rfl rfl rfl ?_
  refine a5n 2 rfl (by kernel_rfl) rfl rfl (a2i hT rfl rfl (a0a rfl) rfl rfl) rfl rfl rfl rfl rfl ?_
  refine b6p 90000 1 rfl (by kernel_rfl) rfl rfl rfl Tryz.call22 (a8a (x := d) (by omega)) (a0f (a0a rfl) (a0l (a0c a0b (a0c a0b (a0c a0b (a0c a0b a0m))))) a0n) rfl rfl rfl rfl rfl rfl ?_
  refine b7T 3 rfl (by kernel_rfl) rfl hT rfl rfl rfl (a0a rfl) (a0a rfl) rfl rfl rfl rfl rfl rfl ?_
  refine b5o [4, 5] rfl rfl (by kernel_rfl) ?_
  iterate 3 refine z ?_
  rw [b3l hb1]
  refine a0r (σ' := ⟨[(6, .box 6 0), (7, .box 7 0), (8, .one (.dv [] (.bool (false))))], [(6, 35, [(.dv [] (.str ((d).1))), (.dv [] (.int .i64 ((d).2.1))), (.key 90031), (.key 90900)]), (7, 38, [(.key 95031)])], [(90031, some (a0d false (a0k (d.2.2.1)))), (90900, some (a0d false (a0A (d.2.2.2)))), (95031, some (a0d false (a0Z (q))))]⟩) (a0e ⟨rfl, rfl, rfl, trivial⟩ ⟨rfl, rfl, trivial⟩ ⟨rfl, rfl, rfl, trivial⟩ rfl) ?_
  iterate 2 refine z ?_
  refine a1V (a0K hT rfl rfl rfl rfl) (a0K hT rfl rfl rfl rfl) (a0B rfl) rfl rfl rfl ?_
  first | exact ⟨rfl, rfl⟩ | skip
 ·have hb1 : a4g q i = false := by rw [← b5J]; exact c1
  have hg := b1V hb1
  rw [← ht] at hg
  have hit : i.toNat < q.length := by omega
  have htw := b0e hit ht
  refine a5g (k := 95031) (cs' := mid ((q.take (i).toNat).flatMap eTx) [.int .i64 (t.1), a0F (t.2.1), .int .i64 (t.2.2.1), .int .i64 (t.2.2.2.1), a0k (t.2.2.2.2)] ((q.drop ((i).toNat + 1)).flatMap eTx)) rfl (b0O hit ht) ?_
  iterate 4 refine z ?_
  refine zK 90000 Tryz.call22 ?_ (hf := a8a (x := d) (by omega))
  iterate 7 refine z ?_
  refine yO rfl rfl (a1q (i := (i).toNat) hT rfl rfl rfl (a0a rfl) rfl (a0a rfl) (by omega) (by show _ < (((q)).length); omega)) rfl ?_
  refine yO rfl rfl (b1p (ds := [.int .i64 (t.1), a0F (t.2.1), .int .i64 (t.2.2.1), .int .i64 (t.2.2.2.1), a0k (t.2.2.2.2)]) hT rfl rfl (a0a rfl) rfl rfl (by decide) (a9H (off := (i).toNat * 5) (j := 0) (a1h (sz := 5) (fun _ => rfl) (Nat.le_of_lt hit)) (by omega) rfl (Nat.le_of_ble_eq_true rfl))) rfl ?_
  iterate 9 refine z ?_
  refine yO rfl rfl (a4H hT rfl rfl (a5f (a0a rfl))) rfl ?_
  refine z ?_
  refine zC Tryz.call58 ?_ (hf := a3Y (n := t.2.2.1) (lo := 0) (hi := ((((t.2.1)).length : Int)) - (1)) )
  refine z ?_
  refine yQ rfl (fun c2 => ?_) fun c2 => ?_
  ·have hin : tin t t.2.2.1 = true := c2
   have hop := b7U hin
   refine a7H (σ' := ⟨[(2, .one (.dv [] (.int .i64 (i)))), (3, .box 3 0), (4, .box 4 0), (6, .box 6 0), (7, .box 7 0), (8, .one (.dv [] (.bool (false)))), (9, .box 9 0), (10, .box 10 0), (11, .box 11 0), (12, .box 12 0), (13, .one (.dv [] (.int .i64 ((a1b (d) ((t.2.1.getD (t.2.2.1).toNat default))).2.1)))), (14, .one (.dv [] (.bool ((a1b (d) ((t.2.1.getD (t.2.2.1).toNat default))).2.2))))], [(3, 35, [(.dv [] (.str (d.1))), (.dv [] (.int .i64 (d.2.1))), (.dv [] (a0k (d.2.2.1))), (.dv [] (a0A (d.2.2.2)))]), (4, 38, [(.dv [] (a0Z (q)))]), (6, 35, [(.dv [] (.str (ByteArray.empty))), (.dv [] (.int .i64 (0))), .nil, .nil]), (7, 38, [.nil]), (9, 38, [(.key 95031)]), (10, 35, [(.dv [] (.str ((d).1))), (.dv [] (.int .i64 ((d).2.1))), (.key 90031), (.key 90900)]), (11, 63, [(.dv [] (.int .i64 (t.1))), (.nest 95031 (((i).toNat * 5 + 1)) (a0F (t.2.1))), (.dv [] (.int .i64 (t.2.2.1))), (.dv [] (.int .i64 (t.2.2.2.1))), (.nest 95031 (((i).toNat * 5 + 4)) (a0k (t.2.2.2.2)))]), (12, 35, [(.dv [] (.str ((a1b (d) ((t.2.1.getD (t.2.2.1).toNat default))).1.1))), (.dv [] (.int .i64 ((a1b (d) ((t.2.1.getD (t.2.2.1).toNat default))).1.2.1))), (.key 91031), (.key 91900)])], [(90031, some (a0d false (a0k ((d).2.2.1)))), (90900, some (a0d false (a0A ((d).2.2.2)))), (91031, some (a0d false (a0k ((a1b (d) ((t.2.1.getD (t.2.2.1).toNat default))).1.2.2.1)))), (91900, some (a0d false (a0A ((a1b (d) ((t.2.1.getD (t.2.2.1).toNat default))).1.2.2.2)))), (95031, some (a0d false (.sl 63 5 (((q)).length) (mid ((q.take (i).toNat).flatMap eTx) [.int .i64 (t.1), a0F (t.2.1), .int .i64 (t.2.2.1), .int .i64 (t.2.2.2.1), a0k (t.2.2.2.2)] ((q.drop ((i).toNat + 1)).flatMap eTx)))))]⟩) ?_ ?_
   ·refine a1o (oB := [3, 4, 6, 7, 9, 10, 11]) (oK := [90031, 90900, 95031]) (by kernel_rfl) rfl rfl ?_
    refine zD 0 ?_
    refine zD 1 ?_
    refine zD 2 ?_
    refine zD 3 ?_
    refine zD 4 ?_
    refine a1X 5 rfl (by kernel_rfl) rfl rfl (a4t hT rfl rfl rfl (a5f (a0a rfl)) (a0a rfl) (fun _ => rfl) (by omega) (by omega)) rfl rfl rfl rfl ?_
    refine zD 6 ?_
    refine a5q (A := [(12, 12, 35, _)]) hT ⟨⟨_, _, rfl⟩, rfl, trivial⟩ ?_
    refine a4J 1000 7 rfl (by kernel_rfl) rfl rfl rfl (vok hT ⟨⟨_, _, rfl⟩, rfl, trivial⟩ (by kernel_rfl) (by kernel_rfl)) (vok hT ⟨⟨_, _, rfl⟩, rfl, trivial⟩ (by kernel_rfl) (by kernel_rfl)) rfl Tryz.call61 (c4H (d := d) (o := (t.2.1.getD (t.2.2.1).toNat default)) (by omega)) (a0f (a0a rfl) (a0l (a0c a0b (a0c a0b (a0c a0b (a0c a0b a0m))))) (a0f (a0a rfl) (a0l (a0c a0b (a0c a0b (a0c a0b (a0c a0b (a0c a0b (a0c a0b (a0c a0b a0m)))))))) a0n)) rfl rfl rfl rfl rfl ?_
    refine a5U 8 rfl (by kernel_rfl) rfl rfl rfl (vok hT ⟨⟨_, _, rfl⟩, rfl, trivial⟩ (by kernel_rfl) (by kernel_rfl)) (vok hT ⟨⟨_, _, rfl⟩, rfl, trivial⟩ (by kernel_rfl) (by kernel_rfl)) (a1Q (.inl rfl) (a0a rfl)) rfl rfl rfl rfl ?_
    refine a2L 9 rfl (by kernel_rfl) rfl rfl rfl rfl (vok hT ⟨⟨_, _, rfl⟩, rfl, trivial⟩ (by kernel_rfl) (by kernel_rfl)) (vok hT ⟨⟨_, _, rfl⟩, rfl, trivial⟩ (by kernel_rfl) (by kernel_rfl)) (a4z rfl (a0a rfl) rfl) rfl rfl ?_
    refine a2L 10 rfl (by kernel_rfl) rfl rfl rfl rfl (vok hT ⟨⟨_, _, rfl⟩, rfl, trivial⟩ (by kernel_rfl) (by kernel_rfl)) (vok hT ⟨⟨_, _, rfl⟩, rfl, trivial⟩ (by kernel_rfl) (by kernel_rfl)) (a4F rfl (a0a rfl) rfl) rfl rfl ?_
    refine a2L 11 rfl (by kernel_rfl) rfl rfl rfl rfl (vok hT ⟨⟨_, _, rfl⟩, rfl, trivial⟩ (by kernel_rfl) (by kernel_rfl)) (vok hT ⟨⟨_, _, rfl⟩, rfl, trivial⟩ (by kernel_rfl) (by kernel_rfl)) (a4F rfl (a0a rfl) rfl) rfl rfl ?_
    refine a5C (vok hT ⟨⟨_, _, rfl⟩, rfl, trivial⟩ (by kernel_rfl) (by kernel_rfl)) rfl rfl (by kernel_rfl) ?_
    dsimp only [a3j, a2Z]
    refine a3c [13, 14, 15] rfl rfl (by kernel_rfl) ?_
    iterate 3 refine z ?_
    refine a1j ?_
    exact a3W (a0e ⟨rfl, rfl, rfl, rfl, rfl, rfl, rfl, rfl, rfl, rfl, rfl, rfl, trivial⟩ ⟨rfl, rfl, rfl, rfl, rfl, rfl, rfl, rfl, trivial⟩ ⟨rfl, rfl, rfl, rfl, rfl, trivial⟩ rfl)
   iterate 4 refine z ?_
   refine a0p ?_
   refine a0r (a2D (b := 10) (i := 2) (k := 91031) (k' := 90031) rfl rfl rfl rfl (by simp) rfl rfl) ?_
   simp only [a0i, a0h, SV.kill, CV.kill, kk, Nat.reduceBEq]
   refine a0r (a2D (b := 10) (i := 3) (k := 91900) (k' := 90900) rfl rfl rfl rfl (by simp) rfl rfl) ?_
   simp only [a0i, a0h, SV.kill, CV.kill, kk, Nat.reduceBEq]
   refine a0j ?_
   iterate 10 refine z ?_
   refine yQ rfl (fun c3 => ?_) fun c3 => ?_
   ·have hok : (a1b d (t.2.1.getD (t.2.2.1).toNat default)).2.2 = false := by simpa using c3
    iterate 4 refine z ?_
    refine zK 2000 Tryz.call62 ?_ (hf := c0G (d := d) (l := t.2.2.2.2) (by omega) (by omega))
    iterate 2 refine z ?_
    refine a0r (a2D (b := 10) (i := 2) (k := 92031) (k' := 90031) rfl rfl rfl rfl (by simp) rfl rfl) ?_
    simp only [a0i, a0h, SV.kill, CV.kill, kk, Nat.reduceBEq]
    refine a0j ?_
    refine z ?_
    refine a7D hT rfl rfl rfl rfl (a0a rfl) (a0y (a0w rfl)) rfl rfl rfl rfl rfl rfl ?_
    refine z ?_
    refine a0p ?_
    refine a0p ?_
    refine a0r (a2D (b := 10) (i := 3) (k := 92900) (k' := 90900) rfl rfl rfl rfl (by simp) rfl rfl) ?_
    simp only [a0i, a0h, SV.kill, CV.kill, kk, Nat.reduceBEq]
    refine a0j ?_
    iterate 8 refine z ?_
    refine a8V (a1l rfl rfl rfl rfl rfl) rfl (fun hg => a4H hT rfl rfl (a5f (a0x rfl hg))) rfl rfl ?_
    refine z ?_
    refine a1t (a1l rfl rfl rfl rfl rfl) rfl rfl Tryz.call58 (a3Y (n := (t.2.2.1) + (1)) (lo := 0) (hi := ((((t.2.1)).length : Int)) - (1)) ) (fun hg => (a0f (a0x rfl hg) (a0H a0b) (a0f (a0y (a0w rfl)) (a0H a0b) (a0f (a0x rfl hg) (a0H a0b) a0n)))) rfl rfl ?_
    iterate 3 refine z ?_
    refine yQ rfl (fun c4 => ?_) fun c4 => ?_
    ·exact absurd c4 (by simp)
    ·iterate 8 refine z ?_
     refine yQ rfl (fun c5 => ?_) fun c5 => ?_
     ·have d5 := a2g c5
      refine a0j ?_
      refine z ?_
      refine a7D hT rfl rfl rfl rfl (a0a rfl) a0O rfl rfl rfl rfl rfl rfl ?_
      iterate 6 refine z ?_
      refine yO rfl rfl (a1q (i := (i).toNat) hT rfl rfl rfl (a0a rfl) rfl (a0a rfl) (by omega) (by show _ < (((q)).length); omega)) rfl ?_
      refine b0E (d0s := [.int .i64 (t.1), a0F (t.2.1), .int .i64 (t.2.2.1), .int .i64 (t.2.2.2.1), a0k (t.2.2.2.2)]) (ds := [.int .i64 (t.1), a0F (t.2.1), .int .i64 ((t.2.2.1) + (1)), .int .i64 (3), .sl 89 3 0 []]) (cs := mid ((q.take (i).toNat).flatMap eTx) [.int .i64 (t.1), a0F (t.2.1), .int .i64 ((t.2.2.1) + (1)), .int .i64 (3), .sl 89 3 0 []] ((q.drop ((i).toNat + 1)).flatMap eTx)) hT rfl rfl rfl rfl (a0a rfl) (a0a rfl) rfl rfl rfl rfl (a4o (a0C rfl) (a9v (a4o (a0C rfl) (a4o (a0C rfl) (a4o (a7P (e := 89) (sz := 3) rfl) b1n))) rfl)) rfl (a9H (off := (i).toNat * 5) (j := 0) (a1h (sz := 5) (fun _ => rfl) (Nat.le_of_lt hit)) (by omega) rfl (Nat.le_of_ble_eq_true rfl)) (a2a (off := (i).toNat * 5) (n := 5) (j := 0) (a1h (sz := 5) (fun _ => rfl) (Nat.le_of_lt hit)) (by omega) (Nat.le_of_ble_eq_true rfl)) (a1S (off := (i).toNat * 5) (j := 0) (a1h (sz := 5) (fun _ => rfl) (Nat.le_of_lt hit)) (by omega) rfl (Nat.le_of_ble_eq_true rfl)) ?_
      simp only [a0i, a0h, SV.kill, CV.kill, kk, Nat.reduceBEq]
      refine z ?_
      refine a0p ?_
      refine a3p 6 (oB := [3, 4, 7, 9, 10, 11, 12]) (oK := [90031, 90900, 95031]) (by kernel_rfl) rfl rfl ?_
      refine a1i 0 rfl (by kernel_rfl) rfl rfl (a2i hT rfl rfl (a0a rfl) rfl rfl) rfl rfl rfl rfl rfl ?_
      refine a1i 1 rfl (by kernel_rfl) rfl rfl (a2i hT rfl rfl (a0a rfl) rfl rfl) rfl rfl rfl rfl rfl ?_
      refine a3t 2 rfl (by kernel_rfl) rfl hT rfl rfl rfl (a0a rfl) (a0a rfl) rfl rfl rfl rfl rfl rfl ?_
      refine a3s [3, 4] rfl rfl (by kernel_rfl) ?_
      iterate 3 refine z ?_
      rw [b5R hb1 ht hin hok]
      refine a0r (σ' := ⟨[(6, .box 6 0), (7, .box 7 0), (8, .one (.dv [] (.bool (true))))], [(6, 35, [(.dv [] (.str ((a2y (d) (t.2.2.2.2)).1))), (.dv [] (.int .i64 ((a2y (d) (t.2.2.2.2)).2.1))), (.key 90031), (.key 90900)]), (7, 38, [(.key 95031)])], [(90031, some (a0d false (a0k ((a2y d t.2.2.2.2).2.2.1)))), (90900, some (a0d false (a0A ((a2y d t.2.2.2.2).2.2.2)))), (95031, some (a0d false (a0Z (q.set (i).toNat (t.1, t.2.1, t.2.2.1 + 1, (3 : Int), ([] : List a0I))))))]⟩) (a0e ⟨rfl, rfl, rfl, trivial⟩ ⟨rfl, rfl, trivial⟩ ⟨rfl, rfl, (a5s hit (t.1, t.2.1, t.2.2.1 + 1, (3 : Int), ([] : List a0I))), trivial⟩ rfl) ?_
      refine z ?_
      refine a1V (a0K hT rfl rfl rfl rfl) (a0K hT rfl rfl rfl rfl) (a0B rfl) rfl rfl rfl ?_
      first | exact ⟨rfl, rfl⟩ | skip
     ·exact absurd c5 (by simp)
   ·have hok : (a1b d (t.2.1.getD (t.2.2.1).toNat default)).2.2 = true := by simpa using c3
    iterate 12 refine z ?_
    refine a8V (a1l rfl rfl rfl rfl rfl) rfl (fun hg => a4H hT rfl rfl (a5f (a0x rfl hg))) rfl rfl ?_
    refine z ?_
    refine a1t (a1l rfl rfl rfl rfl rfl) rfl rfl Tryz.call58 (a3Y (n := (t.2.2.1) + (1)) (lo := 0) (hi := ((((t.2.1)).length : Int)) - (1)) ) (fun hg => (a0f (a0x rfl hg) (a0H a0b) (a0f (a0y (a0w rfl)) (a0H a0b) (a0f (a0x rfl hg) (a0H a0b) a0n)))) rfl rfl ?_
    iterate 3 refine z ?_
    refine yQ rfl (fun c6 => ?_) fun c6 => ?_
    ·refine a0j ?_
     refine z ?_
     refine a7D hT rfl rfl rfl rfl (a0a rfl) (a0y (a0w rfl)) rfl rfl rfl rfl rfl rfl ?_
     iterate 7 refine z ?_
     refine yQ rfl (fun c7 => ?_) fun c7 => ?_
     ·have d7 := a2g c7
      refine a0j ?_
      refine z ?_
      refine a7D hT rfl rfl rfl rfl (a0a rfl) a0O rfl rfl rfl rfl rfl rfl ?_
      iterate 6 refine z ?_
      refine yO rfl rfl (a1q (i := (i).toNat) hT rfl rfl rfl (a0a rfl) rfl (a0a rfl) (by omega) (by show _ < (((q)).length); omega)) rfl ?_
      refine b0E (d0s := [.int .i64 (t.1), a0F (t.2.1), .int .i64 (t.2.2.1), .int .i64 (t.2.2.2.1), a0k (t.2.2.2.2)]) (ds := [.int .i64 (t.1), a0F (t.2.1), .int .i64 ((t.2.2.1) + (1)), .int .i64 (2), .sl 89 3 0 []]) (cs := mid ((q.take (i).toNat).flatMap eTx) [.int .i64 (t.1), a0F (t.2.1), .int .i64 ((t.2.2.1) + (1)), .int .i64 (2), .sl 89 3 0 []] ((q.drop ((i).toNat + 1)).flatMap eTx)) hT rfl rfl rfl rfl (a0a rfl) (a0a rfl) rfl rfl rfl rfl (a4o (a0C rfl) (a9v (a4o (a0C rfl) (a4o (a0C rfl) (a4o (a7P (e := 89) (sz := 3) rfl) b1n))) rfl)) rfl (a9H (off := (i).toNat * 5) (j := 0) (a1h (sz := 5) (fun _ => rfl) (Nat.le_of_lt hit)) (by omega) rfl (Nat.le_of_ble_eq_true rfl)) (a2a (off := (i).toNat * 5) (n := 5) (j := 0) (a1h (sz := 5) (fun _ => rfl) (Nat.le_of_lt hit)) (by omega) (Nat.le_of_ble_eq_true rfl)) (a1S (off := (i).toNat * 5) (j := 0) (a1h (sz := 5) (fun _ => rfl) (Nat.le_of_lt hit)) (by omega) rfl (Nat.le_of_ble_eq_true rfl)) ?_
      simp only [a0i, a0h, SV.kill, CV.kill, kk, Nat.reduceBEq]
      refine z ?_
      refine a0p ?_
      refine a3p 6 (oB := [3, 4, 7, 9, 10, 11, 12]) (oK := [90031, 90900, 95031]) (by kernel_rfl) rfl rfl ?_
      refine a1i 0 rfl (by kernel_rfl) rfl rfl (a2i hT rfl rfl (a0a rfl) rfl rfl) rfl rfl rfl rfl rfl ?_
      refine a1i 1 rfl (by kernel_rfl) rfl rfl (a2i hT rfl rfl (a0a rfl) rfl rfl) rfl rfl rfl rfl rfl ?_
      refine a3t 2 rfl (by kernel_rfl) rfl hT rfl rfl rfl (a0a rfl) (a0a rfl) rfl rfl rfl rfl rfl rfl ?_
      refine a3s [3, 4] rfl rfl (by kernel_rfl) ?_
      iterate 3 refine z ?_
      rw [b8c hb1 ht hin hok (c0B hg.2.2 c6)]
      refine a0r (σ' := ⟨[(6, .box 6 0), (7, .box 7 0), (8, .one (.dv [] (.bool (true))))], [(6, 35, [(.dv [] (.str ((a1b (d) ((t.2.1.getD (t.2.2.1).toNat default))).1.1))), (.dv [] (.int .i64 ((a1b (d) ((t.2.1.getD (t.2.2.1).toNat default))).1.2.1))), (.key 90031), (.key 90900)]), (7, 38, [(.key 95031)])], [(90031, some (a0d false (a0k ((a1b d (t.2.1.getD (t.2.2.1).toNat default)).1.2.2.1)))), (90900, some (a0d false (a0A ((a1b d (t.2.1.getD (t.2.2.1).toNat default)).1.2.2.2)))), (95031, some (a0d false (a0Z (q.set (i).toNat (t.1, t.2.1, t.2.2.1 + 1, (2 : Int), ([] : List a0I))))))]⟩) (a0e ⟨rfl, rfl, rfl, trivial⟩ ⟨rfl, rfl, trivial⟩ ⟨rfl, rfl, (a5s hit (t.1, t.2.1, t.2.2.1 + 1, (2 : Int), ([] : List a0I))), trivial⟩ rfl) ?_
      refine z ?_
      refine a1V (a0K hT rfl rfl rfl rfl) (a0K hT rfl rfl rfl rfl) (a0B rfl) rfl rfl rfl ?_
      first | exact ⟨rfl, rfl⟩ | skip
     ·exact absurd c7 (by simp)
    ·iterate 8 refine z ?_
     refine yQ rfl (fun c8 => ?_) fun c8 => ?_
     ·exact absurd c8 (by rw [hg.2.2]; simp)
     ·have d8 := a2j c8
      iterate 7 refine z ?_
      refine yO rfl rfl (a1q (i := (i).toNat) hT rfl rfl rfl (a0a rfl) rfl (a0a rfl) (by omega) (by show _ < (((q)).length); omega)) rfl ?_
      refine b0E (d0s := [.int .i64 (t.1), a0F (t.2.1), .int .i64 (t.2.2.1), .int .i64 (t.2.2.2.1), a0k (t.2.2.2.2)]) (ds := [.int .i64 (t.1), a0F (t.2.1), .int .i64 ((t.2.2.1) + (1)), .int .i64 (t.2.2.2.1), a0k (t.2.2.2.2)]) (cs := mid ((q.take (i).toNat).flatMap eTx) [.int .i64 (t.1), a0F (t.2.1), .int .i64 ((t.2.2.1) + (1)), .int .i64 (t.2.2.2.1), a0k (t.2.2.2.2)] ((q.drop ((i).toNat + 1)).flatMap eTx)) hT rfl rfl rfl rfl (a0a rfl) (a0a rfl) rfl rfl rfl rfl (a4o (a0C rfl) (a9v (a4o (a0C rfl) (a4o (a0C rfl) (a9v b1n rfl))) rfl)) rfl (a9H (off := (i).toNat * 5) (j := 0) (a1h (sz := 5) (fun _ => rfl) (Nat.le_of_lt hit)) (by omega) rfl (Nat.le_of_ble_eq_true rfl)) (a2a (off := (i).toNat * 5) (n := 5) (j := 0) (a1h (sz := 5) (fun _ => rfl) (Nat.le_of_lt hit)) (by omega) (Nat.le_of_ble_eq_true rfl)) (a1S (off := (i).toNat * 5) (j := 0) (a1h (sz := 5) (fun _ => rfl) (Nat.le_of_lt hit)) (by omega) rfl (Nat.le_of_ble_eq_true rfl)) ?_
      simp only [a0i, a0h, SV.kill, CV.kill, kk, Nat.reduceBEq]
      refine z ?_
      refine a0p ?_
      refine a3p 6 (oB := [3, 4, 7, 9, 10, 11, 12]) (oK := [90031, 90900, 95031]) (by kernel_rfl) rfl rfl ?_
      refine a1i 0 rfl (by kernel_rfl) rfl rfl (a2i hT rfl rfl (a0a rfl) rfl rfl) rfl rfl rfl rfl rfl ?_
      refine a1i 1 rfl (by kernel_rfl) rfl rfl (a2i hT rfl rfl (a0a rfl) rfl rfl) rfl rfl rfl rfl rfl ?_
      refine a3t 2 rfl (by kernel_rfl) rfl hT rfl rfl rfl (a0a rfl) (a0a rfl) rfl rfl rfl rfl rfl rfl ?_
      refine a3s [3, 4] rfl rfl (by kernel_rfl) ?_
      iterate 3 refine z ?_
      rw [b5c hb1 ht hin hok (c4X hg.2.2 c6)]
      refine a0r (σ' := ⟨[(6, .box 6 0), (7, .box 7 0), (8, .one (.dv [] (.bool (true))))], [(6, 35, [(.dv [] (.str ((a1b (d) ((t.2.1.getD (t.2.2.1).toNat default))).1.1))), (.dv [] (.int .i64 ((a1b (d) ((t.2.1.getD (t.2.2.1).toNat default))).1.2.1))), (.key 90031), (.key 90900)]), (7, 38, [(.key 95031)])], [(90031, some (a0d false (a0k ((a1b d (t.2.1.getD (t.2.2.1).toNat default)).1.2.2.1)))), (90900, some (a0d false (a0A ((a1b d (t.2.1.getD (t.2.2.1).toNat default)).1.2.2.2)))), (95031, some (a0d false (a0Z (q.set (i).toNat (t.1, t.2.1, t.2.2.1 + 1, t.2.2.2.1, t.2.2.2.2)))))]⟩) (a0e ⟨rfl, rfl, rfl, trivial⟩ ⟨rfl, rfl, trivial⟩ ⟨rfl, rfl, (a5s hit (t.1, t.2.1, t.2.2.1 + 1, t.2.2.2.1, t.2.2.2.2)), trivial⟩ rfl) ?_
      refine z ?_
      refine a1V (a0K hT rfl rfl rfl rfl) (a0K hT rfl rfl rfl rfl) (a0B rfl) rfl rfl rfl ?_
      first | exact ⟨rfl, rfl⟩ | skip
  ·have hin : tin t t.2.2.1 = false := c2
   iterate 12 refine z ?_
   refine a8V (a1l rfl rfl rfl rfl rfl) rfl (fun hg => a4H hT rfl rfl (a5f (a0x rfl hg))) rfl rfl ?_
   refine z ?_
   refine a1t (a1l rfl rfl rfl rfl rfl) rfl rfl Tryz.call58 (a3Y (n := t.2.2.1) (lo := 0) (hi := ((((t.2.1)).length : Int)) - (1)) ) (fun hg => (a0f (a0x rfl hg) (a0H a0b) (a0f (a0y (a0w rfl)) (a0H a0b) (a0f (a0x rfl hg) (a0H a0b) a0n)))) rfl rfl ?_
   iterate 3 refine z ?_
   refine yQ rfl (fun c9 => ?_) fun c9 => ?_
   ·refine a0j ?_
    refine z ?_
    refine a7D hT rfl rfl rfl rfl (a0a rfl) (a0y (a0w rfl)) rfl rfl rfl rfl rfl rfl ?_
    iterate 7 refine z ?_
    refine yQ rfl (fun c10 => ?_) fun c10 => ?_
    ·have d10 := a2g c10
     refine a0j ?_
     refine z ?_
     refine a7D hT rfl rfl rfl rfl (a0a rfl) a0O rfl rfl rfl rfl rfl rfl ?_
     iterate 6 refine z ?_
     refine yO rfl rfl (a1q (i := (i).toNat) hT rfl rfl rfl (a0a rfl) rfl (a0a rfl) (by omega) (by show _ < (((q)).length); omega)) rfl ?_
     refine b0E (d0s := [.int .i64 (t.1), a0F (t.2.1), .int .i64 (t.2.2.1), .int .i64 (t.2.2.2.1), a0k (t.2.2.2.2)]) (ds := [.int .i64 (t.1), a0F (t.2.1), .int .i64 (t.2.2.1), .int .i64 (2), .sl 89 3 0 []]) (cs := mid ((q.take (i).toNat).flatMap eTx) [.int .i64 (t.1), a0F (t.2.1), .int .i64 (t.2.2.1), .int .i64 (2), .sl 89 3 0 []] ((q.drop ((i).toNat + 1)).flatMap eTx)) hT rfl rfl rfl rfl (a0a rfl) (a0a rfl) rfl rfl rfl rfl (a4o (a0C rfl) (a9v (a4o (a0C rfl) (a4o (a0C rfl) (a4o (a7P (e := 89) (sz := 3) rfl) b1n))) rfl)) rfl (a9H (off := (i).toNat * 5) (j := 0) (a1h (sz := 5) (fun _ => rfl) (Nat.le_of_lt hit)) (by omega) rfl (Nat.le_of_ble_eq_true rfl)) (a2a (off := (i).toNat * 5) (n := 5) (j := 0) (a1h (sz := 5) (fun _ => rfl) (Nat.le_of_lt hit)) (by omega) (Nat.le_of_ble_eq_true rfl)) (a1S (off := (i).toNat * 5) (j := 0) (a1h (sz := 5) (fun _ => rfl) (Nat.le_of_lt hit)) (by omega) rfl (Nat.le_of_ble_eq_true rfl)) ?_
     simp only [a0i, a0h, SV.kill, CV.kill, kk, Nat.reduceBEq]
     refine z ?_
     refine a0p ?_
     refine a3p 6 (oB := [3, 4, 7, 9, 10, 11]) (oK := [90031, 90900, 95031]) (by kernel_rfl) rfl rfl ?_
     refine a1i 0 rfl (by kernel_rfl) rfl rfl (a2i hT rfl rfl (a0a rfl) rfl rfl) rfl rfl rfl rfl rfl ?_
     refine a1i 1 rfl (by kernel_rfl) rfl rfl (a2i hT rfl rfl (a0a rfl) rfl rfl) rfl rfl rfl rfl rfl ?_
     refine a3t 2 rfl (by kernel_rfl) rfl hT rfl rfl rfl (a0a rfl) (a0a rfl) rfl rfl rfl rfl rfl rfl ?_
     refine a3s [3, 4] rfl rfl (by kernel_rfl) ?_
     iterate 3 refine z ?_
     rw [b3D hb1 ht hin]
     refine a0r (σ' := ⟨[(6, .box 6 0), (7, .box 7 0), (8, .one (.dv [] (.bool (true))))], [(6, 35, [(.dv [] (.str ((d).1))), (.dv [] (.int .i64 ((d).2.1))), (.key 90031), (.key 90900)]), (7, 38, [(.key 95031)])], [(90031, some (a0d false (a0k (d.2.2.1)))), (90900, some (a0d false (a0A (d.2.2.2)))), (95031, some (a0d false (a0Z (q.set (i).toNat (t.1, t.2.1, t.2.2.1, (2 : Int), ([] : List a0I))))))]⟩) (a0e ⟨rfl, rfl, rfl, trivial⟩ ⟨rfl, rfl, trivial⟩ ⟨rfl, rfl, (a5s hit (t.1, t.2.1, t.2.2.1, (2 : Int), ([] : List a0I))), trivial⟩ rfl) ?_
     refine z ?_
     refine a1V (a0K hT rfl rfl rfl rfl) (a0K hT rfl rfl rfl rfl) (a0B rfl) rfl rfl rfl ?_
     first | exact ⟨rfl, rfl⟩ | skip
    ·exact absurd c10 (by simp)
   ·exact absurd c9 (by rw [hg.2.2, c2]; simp)
theorem b4v {d : DbT} {q : List TxT} {i : Int} (hb : a1r d ≤ 549755813888) (hq : a0s wTx q ≤ 549755813888) : KFn Tryz.prog 36 [.agg [(.dv [] (.str (d.1))), (.dv [] (.int .i64 (d.2.1))), (.dv [] (a0k (d.2.2.1))), (.dv [] (a0A (d.2.2.2)))], .agg [(.dv [] (a0Z (q)))], .one (.dv [] (.int .i64 (i)))] (.tup [(true, [(.dv [] (.str ((a2O d q i).1.1))), (.dv [] (.int .i64 ((a2O d q i).1.2.1))), (.key 90031), (.key 90900)]), (true, [(.key 95031)]), (false, [(.dv [] (.bool ((a2O d q i).2.2)))])]) [(90031, some (a0d false (a0k ((a2O d q i).1.2.2.1)))), (90900, some (a0d false (a0A ((a2O d q i).1.2.2.2)))), (95031, some (a0d false (a0Z ((a2O d q i).2.1))))] := by
 refine ⟨a0u Tryz.func36 rfl Tryz.ntmps36 Tryz.results36 rfl (fun C => ?_)⟩
 have hwq : a0s wTx q = q.length + wSum wTx q := rfl
 obtain ⟨t, ht⟩ : ∃ t, t = q.getD i.toNat default := ⟨_, rfl⟩
 have hwt : wTx t = a0s wOp t.2.1 + a0s a0v t.2.2.2.2 := rfl
 have hwo : a0s wOp t.2.1 = t.2.1.length + wSum wOp t.2.1 := rfl
 have hwb : a0s a0v t.2.2.2.2 = t.2.2.2.2.length + wSum a0v t.2.2.2.2 := rfl
 refine yF 0 0 rfl rfl fun f0_0 => ?_
 refine yF 0 1 rfl rfl fun f0_1 => ?_
 refine yF 0 2 rfl rfl fun f0_2 => ?_
 refine yF 0 3 rfl rfl fun f0_3 => ?_
 refine yF 1 0 rfl rfl fun f1_0 => ?_
 refine a0G (x := .tmp 2) (a0a rfl) fun f2 => ?_
 iterate 9 refine z ?_
 refine zK 90000 Tryz.call33 ?_ (hf := a8r (x := d) (by omega))
 iterate 5 refine z ?_
 refine zK 95000 Tryz.call34 ?_ (hf := b3j (x := q) (by omega))
 iterate 24 refine z ?_
 refine yQ rfl (fun c1 => ?_) fun c1 => ?_
 ·have hb1 : a4g q i = true := c1
  refine a0p ?_
  refine a3p 6 (oB := [3, 4, 7, 9, 10]) (oK := [90031, 90900, 95031]) (by kernel_rfl) rfl rfl ?_
  refine a1i 0 rfl (by kernel_rfl) rfl rfl (a2i hT rfl rfl (a0a rfl) rfl rfl) rfl rfl rfl rfl rfl ?_
  refine a1i 1 rfl (by kernel_rfl) rfl rfl (a2i hT rfl rfl (a0a rfl) rfl rfl) rfl rfl rfl rfl rfl ?_
  refine a3t 2 rfl (by kernel_rfl) rfl hT rfl rfl rfl (a0a rfl) (a0a rfl) rfl rfl rfl rfl rfl rfl ?_
  refine a3s [3, 4] rfl rfl (by kernel_rfl) ?_
  iterate 3 refine z ?_
  rw [b3l hb1]
  refine a0r (σ' := ⟨[(6, .box 6 0), (7, .box 7 0), (8, .one (.dv [] (.bool (false))))], [(6, 35, [(.dv [] (.str ((d).1))), (.dv [] (.int .i64 ((d).2.1))), (.key 90031), (.key 90900)]), (7, 38, [(.key 95031)])], [(90031, some (a0d false (a0k (d.2.2.1)))), (90900, some (a0d false (a0A (d.2.2.2)))), (95031, some (a0d false (a0Z (q))))]⟩) (a0e ⟨rfl, rfl, rfl, trivial⟩ ⟨rfl, rfl, trivial⟩ ⟨rfl, rfl, rfl, trivial⟩ rfl) ?_
  iterate 2 refine z ?_
  refine a1V (a0K hT rfl rfl rfl rfl) (a0K hT rfl rfl rfl rfl) (a0B rfl) rfl rfl rfl ?_
  first | exact ⟨rfl, rfl⟩ | skip
 ·have hb1 : a4g q i = false := c1
  have hg := b1V hb1
  rw [← ht] at hg
  have hit : i.toNat < q.length := by omega
  have htw := b0e hit ht
  refine a5g (k := 95031) (cs' := mid ((q.take (i).toNat).flatMap eTx) [.int .i64 (t.1), a0F (t.2.1), .int .i64 (t.2.2.1), .int .i64 (t.2.2.2.1), a0k (t.2.2.2.2)] ((q.drop ((i).toNat + 1)).flatMap eTx)) rfl (b0O hit ht) ?_
  iterate 6 refine z ?_
  refine yO rfl rfl (a1q (i := (i).toNat) hT rfl rfl rfl (a0a rfl) rfl (a0a rfl) (by omega) (by show _ < (((q)).length); omega)) rfl ?_
  iterate 5 refine z ?_
  refine a0p ?_
  refine a0p ?_
  refine a1o (oB := [3, 4, 6, 7, 9, 10]) (oK := [90031, 90900, 95031]) (by kernel_rfl) rfl rfl ?_
  refine zD 0 ?_
  refine a1X 1 rfl (by kernel_rfl) rfl rfl (a2R rfl (a0a rfl)) rfl rfl rfl rfl ?_
  refine zD 2 ?_
  refine a1X 3 rfl (by kernel_rfl) rfl rfl (a3a hT rfl rfl (a0a rfl) rfl (a2m (off := ((i).toNat * 5 + 2)) (j := 2) (a1h (sz := 5) (fun _ => rfl) (Nat.le_of_lt hit)) (by omega) rfl)) rfl rfl rfl rfl ?_
  refine zD 4 ?_
  refine a1X 5 rfl (by kernel_rfl) rfl rfl (a2R rfl (a0a rfl)) rfl rfl rfl rfl ?_
  refine zD 6 ?_
  refine a1X 7 rfl (by kernel_rfl) rfl rfl (a3a hT rfl rfl (a0a rfl) rfl (a2m (off := ((i).toNat * 5 + 1)) (j := 1) (a1h (sz := 5) (fun _ => rfl) (Nat.le_of_lt hit)) (by omega) rfl)) rfl rfl rfl rfl ?_
  refine a1X 8 rfl (by kernel_rfl) rfl rfl (a4H hT rfl rfl (a5f (a0a rfl))) rfl rfl rfl rfl ?_
  refine zD 9 ?_
  refine a2v 10 rfl (by kernel_rfl) rfl rfl rfl Tryz.call69 (a5k (n := t.2.2.1) (lo := 0) (hi := ((((t.2.1)).length : Int)) - (1)) ) (a0f (a0a rfl) (a0H a0b) (a0f (a0y (a0w rfl)) (a0H a0b) (a0f (a0a rfl) (a0H a0b) a0n))) rfl rfl rfl rfl ?_
  refine a1R (by kernel_rfl) ?_
  refine z ?_
  refine yQ rfl (fun c2 => ?_) fun c2 => ?_
  ·have hin : tin t t.2.2.1 = true := c2
   have hop := b7U hin
   refine a7H (σ' := ⟨[(2, .one (.dv [] (.int .i64 (i)))), (3, .box 3 0), (4, .box 4 0), (6, .box 6 0), (7, .box 7 0), (8, .one (.dv [] (.bool (false)))), (9, .box 9 0), (10, .box 10 0), (11, .eptr 95031 ((i).toNat * 5)), (12, .one (.dv [] (.bool (false)))), (13, .box 13 0), (14, .one (.dv [] (.int .i64 ((a1b (d) ((t.2.1.getD (t.2.2.1).toNat default))).2.1)))), (15, .one (.dv [] (.bool ((a1b (d) ((t.2.1.getD (t.2.2.1).toNat default))).2.2))))], [(3, 35, [(.dv [] (.str (d.1))), (.dv [] (.int .i64 (d.2.1))), (.dv [] (a0k (d.2.2.1))), (.dv [] (a0A (d.2.2.2)))]), (4, 38, [(.dv [] (a0Z (q)))]), (6, 35, [(.dv [] (.str (ByteArray.empty))), (.dv [] (.int .i64 (0))), .nil, .nil]), (7, 38, [.nil]), (9, 35, [(.dv [] (.str ((d).1))), (.dv [] (.int .i64 ((d).2.1))), (.key 90031), (.key 90900)]), (10, 38, [(.key 95031)]), (13, 35, [(.dv [] (.str ((a1b (d) ((t.2.1.getD (t.2.2.1).toNat default))).1.1))), (.dv [] (.int .i64 ((a1b (d) ((t.2.1.getD (t.2.2.1).toNat default))).1.2.1))), (.key 91031), (.key 91900)])], [(90031, some (a0d false (a0k ((d).2.2.1)))), (90900, some (a0d false (a0A ((d).2.2.2)))), (91031, some (a0d false (a0k ((a1b (d) ((t.2.1.getD (t.2.2.1).toNat default))).1.2.2.1)))), (91900, some (a0d false (a0A ((a1b (d) ((t.2.1.getD (t.2.2.1).toNat default))).1.2.2.2)))), (95031, some (a0d false (.sl 63 5 (((q)).length) (mid ((q.take (i).toNat).flatMap eTx) [.int .i64 (t.1), a0F (t.2.1), .int .i64 (t.2.2.1), .int .i64 (t.2.2.2.1), a0k (t.2.2.2.2)] ((q.drop ((i).toNat + 1)).flatMap eTx)))))]⟩) ?_ ?_
   ·refine a1o (oB := [3, 4, 6, 7, 9, 10]) (oK := [90031, 90900, 95031]) (by kernel_rfl) rfl rfl ?_
    refine zD 0 ?_
    refine zD 1 ?_
    refine a1X 2 rfl (by kernel_rfl) rfl rfl (a2R rfl (a0a rfl)) rfl rfl rfl rfl ?_
    refine zD 3 ?_
    refine a1X 4 rfl (by kernel_rfl) rfl rfl (a3a hT rfl rfl (a0a rfl) rfl (a2m (off := ((i).toNat * 5 + 1)) (j := 1) (a1h (sz := 5) (fun _ => rfl) (Nat.le_of_lt hit)) (by omega) rfl)) rfl rfl rfl rfl ?_
    refine zD 5 ?_
    refine a1X 6 rfl (by kernel_rfl) rfl rfl (a2R rfl (a0a rfl)) rfl rfl rfl rfl ?_
    refine zD 7 ?_
    refine a1X 8 rfl (by kernel_rfl) rfl rfl (a3a hT rfl rfl (a0a rfl) rfl (a2m (off := ((i).toNat * 5 + 2)) (j := 2) (a1h (sz := 5) (fun _ => rfl) (Nat.le_of_lt hit)) (by omega) rfl)) rfl rfl rfl rfl ?_
    refine a1X 9 rfl (by kernel_rfl) rfl rfl (a4t hT rfl rfl rfl (a5f (a0a rfl)) (a0a rfl) (fun _ => rfl) (by omega) (by omega)) rfl rfl rfl rfl ?_
    refine zD 10 ?_
    refine a5q (A := [(16, 13, 35, _)]) hT ⟨⟨_, _, rfl⟩, rfl, trivial⟩ ?_
    refine a4J 1000 11 rfl (by kernel_rfl) rfl rfl rfl (vok hT ⟨⟨_, _, rfl⟩, rfl, trivial⟩ (by kernel_rfl) (by kernel_rfl)) (vok hT ⟨⟨_, _, rfl⟩, rfl, trivial⟩ (by kernel_rfl) (by kernel_rfl)) rfl Tryz.call74 (c1N (d := d) (o := (t.2.1.getD (t.2.2.1).toNat default)) (by omega)) (a0f (a0a rfl) (a0l (a0c a0b (a0c a0b (a0c (a0L rfl rfl) (a0c (a0L rfl rfl) a0m))))) (a0f (a0a rfl) (a0l (a0c a0b (a0c a0b (a0c a0b (a0c a0b (a0c a0b (a0c a0b (a0c a0b a0m)))))))) a0n)) rfl rfl rfl rfl rfl ?_
    refine a5U 12 rfl (by kernel_rfl) rfl rfl rfl (vok hT ⟨⟨_, _, rfl⟩, rfl, trivial⟩ (by kernel_rfl) (by kernel_rfl)) (vok hT ⟨⟨_, _, rfl⟩, rfl, trivial⟩ (by kernel_rfl) (by kernel_rfl)) (a1Q (.inl rfl) (a0a rfl)) rfl rfl rfl rfl ?_
    refine a2L 13 rfl (by kernel_rfl) rfl rfl rfl rfl (vok hT ⟨⟨_, _, rfl⟩, rfl, trivial⟩ (by kernel_rfl) (by kernel_rfl)) (vok hT ⟨⟨_, _, rfl⟩, rfl, trivial⟩ (by kernel_rfl) (by kernel_rfl)) (a4z rfl (a0a rfl) rfl) rfl rfl ?_
    refine a2L 14 rfl (by kernel_rfl) rfl rfl rfl rfl (vok hT ⟨⟨_, _, rfl⟩, rfl, trivial⟩ (by kernel_rfl) (by kernel_rfl)) (vok hT ⟨⟨_, _, rfl⟩, rfl, trivial⟩ (by kernel_rfl) (by kernel_rfl)) (a4F rfl (a0a rfl) rfl) rfl rfl ?_
    refine a2L 15 rfl (by kernel_rfl) rfl rfl rfl rfl (vok hT ⟨⟨_, _, rfl⟩, rfl, trivial⟩ (by kernel_rfl) (by kernel_rfl)) (vok hT ⟨⟨_, _, rfl⟩, rfl, trivial⟩ (by kernel_rfl) (by kernel_rfl)) (a4F rfl (a0a rfl) rfl) rfl rfl ?_
    refine a5C (vok hT ⟨⟨_, _, rfl⟩, rfl, trivial⟩ (by kernel_rfl) (by kernel_rfl)) rfl rfl (by kernel_rfl) ?_
    dsimp only [a3j, a2Z]
    refine a3c [17, 18, 19] rfl rfl (by kernel_rfl) ?_
    iterate 3 refine z ?_
    refine a1j ?_
    exact a3W (a0e ⟨rfl, rfl, rfl, rfl, rfl, rfl, rfl, rfl, rfl, rfl, rfl, rfl, rfl, trivial⟩ ⟨rfl, rfl, rfl, rfl, rfl, rfl, rfl, trivial⟩ ⟨rfl, rfl, rfl, rfl, rfl, trivial⟩ rfl)
   iterate 4 refine z ?_
   refine a0p ?_
   refine a0r (a2D (b := 9) (i := 2) (k := 91031) (k' := 90031) rfl rfl rfl rfl (by simp) rfl rfl) ?_
   simp only [a0i, a0h, SV.kill, CV.kill, kk, Nat.reduceBEq]
   refine a0r (a2D (b := 9) (i := 3) (k := 91900) (k' := 90900) rfl rfl rfl rfl (by simp) rfl rfl) ?_
   simp only [a0i, a0h, SV.kill, CV.kill, kk, Nat.reduceBEq]
   refine a0j ?_
   iterate 4 refine z ?_
   refine a0j ?_
   refine z ?_
   refine yO rfl rfl (a2R rfl (a0a rfl)) rfl ?_
   refine z ?_
   refine yO rfl rfl (a3a hT rfl rfl (a0a rfl) rfl (a2m (off := ((i).toNat * 5 + 2)) (j := 2) (a1h (sz := 5) (fun _ => rfl) (Nat.le_of_lt hit)) (by omega) rfl)) rfl ?_
   refine z ?_
   refine yO rfl rfl (a2R rfl (a0a rfl)) rfl ?_
   refine z ?_
   refine a1u (js := []) (cs := mid ((q.take (i).toNat).flatMap eTx) [.int .i64 (t.1), a0F (t.2.1), .int .i64 ((t.2.2.1) + (1)), .int .i64 (t.2.2.2.1), a0k (t.2.2.2.2)] ((q.drop ((i).toNat + 1)).flatMap eTx)) hT rfl rfl rfl rfl (a0a rfl) (a0a rfl) rfl rfl rfl rfl (a0o (a0C rfl) a1e rfl) (by decide) (by decide) rfl (a2a (off := ((i).toNat * 5 + 2)) (n := 1) (j := 2) (a1h (sz := 5) (fun _ => rfl) (Nat.le_of_lt hit)) (by omega) (Nat.le_of_ble_eq_true rfl)) (a1S (off := ((i).toNat * 5 + 2)) (j := 2) (a1h (sz := 5) (fun _ => rfl) (Nat.le_of_lt hit)) (by omega) rfl (Nat.le_of_ble_eq_true rfl)) ?_
   simp only [a0i, a0h, SV.kill, CV.kill, kk, Nat.reduceBEq]
   iterate 5 refine z ?_
   refine yQ rfl (fun c3 => ?_) fun c3 => ?_
   ·have hok : (a1b d (t.2.1.getD (t.2.2.1).toNat default)).2.2 = false := by simpa using c3
    have hsm := b4m hok
    iterate 3 refine z ?_
    refine yO rfl rfl (a2R rfl (a0a rfl)) rfl ?_
    refine z ?_
    refine yO rfl rfl (a3a hT rfl rfl (a0a rfl) rfl (a2m (off := ((i).toNat * 5 + 4)) (j := 4) (a1h (sz := 5) (fun _ => rfl) (Nat.le_of_lt hit)) (by omega) rfl)) rfl ?_
    refine yO rfl rfl (a4H hT rfl rfl (a5f (a0a rfl))) rfl ?_
    iterate 3 refine z ?_
    refine a0W (ι := Nat × DbT) (fun zz => ⟨[(6, .box 6 0), (7, .box 7 0), (8, .one (.dv [] (.bool (false)))), (9, .box 9 0), (10, .box 10 0), (11, .eptr 95031 ((i).toNat * 5)), (88, .one (.nest 95031 (((i).toNat * 5 + 4)) (a0k (t.2.2.2.2)))), (89, .one (.dv [] (.int .i64 ((((t.2.2.2.2)).length : Int))))), (90, .one (.dv [] (.int .i64 ((zz.1 : Int)))))], [(3, 35, [(.dv [] (.str (d.1))), (.dv [] (.int .i64 (d.2.1))), (.dv [] (a0k (d.2.2.1))), (.dv [] (a0A (d.2.2.2)))]), (4, 38, [(.dv [] (a0Z (q)))]), (6, 35, [(.dv [] (.str (ByteArray.empty))), (.dv [] (.int .i64 (0))), .nil, .nil]), (7, 38, [.nil]), (9, 35, [(.dv [] (.str (zz.2.1))), (.dv [] (.int .i64 (zz.2.2.1))), (.key 90031), (.key 90900)]), (10, 38, [(.key 95031)])], [(90031, some (a0d false (.sl 89 3 (zz.2.2.2.1.length) (zz.2.2.2.1.flatMap a0U)))), (90900, some (a0d false (.sl 95 2 (zz.2.2.2.2.length) (zz.2.2.2.2.flatMap a1y)))), (95031, some (a0d false (.sl 63 5 (((q)).length) (mid ((q.take (i).toNat).flatMap eTx) [.int .i64 (t.1), a0F (t.2.1), .int .i64 ((t.2.2.1) + (1)), .int .i64 (t.2.2.2.1), a0k (t.2.2.2.2)] ((q.drop ((i).toNat + 1)).flatMap eTx)))))]⟩) (fun zz => zz.1 ≤ t.2.2.2.2.length ∧ a2y d t.2.2.2.2 = a2y zz.2 (t.2.2.2.2.drop zz.1)) (fun zz => t.2.2.2.2.length - zz.1) ((0, (a1b d (t.2.1.getD (t.2.2.1).toNat default)).1)) ?_ (a0e ⟨rfl, rfl, rfl, rfl, rfl, rfl, rfl, rfl, rfl, trivial⟩ ⟨rfl, rfl, rfl, rfl, rfl, rfl, trivial⟩ ⟨rfl, rfl, rfl, trivial⟩ rfl) (fun zz hx => ?_)
    ·exact ⟨Nat.zero_le _, by dsimp only; rw [hsm]; simp⟩
    obtain ⟨n, c⟩ := zz
    replace hx : n ≤ t.2.2.2.2.length ∧ a2y d t.2.2.2.2 = a2y c (t.2.2.2.2.drop n) := hx
    obtain ⟨hn, hi⟩ := hx
    have hw := fun h => a1T a0v t.2.2.2.2 n h
    have hwle := a5w a0v t.2.2.2.2 (n + 1)
    show Ok _ _ _ _ _ (⟨[(6, .box 6 0), (7, .box 7 0), (8, .one (.dv [] (.bool (false)))), (9, .box 9 0), (10, .box 10 0), (11, .eptr 95031 ((i).toNat * 5)), (88, .one (.nest 95031 (((i).toNat * 5 + 4)) (a0k (t.2.2.2.2)))), (89, .one (.dv [] (.int .i64 ((((t.2.2.2.2)).length : Int))))), (90, .one (.dv [] (.int .i64 ((n : Int)))))], [(3, 35, [(.dv [] (.str (d.1))), (.dv [] (.int .i64 (d.2.1))), (.dv [] (a0k (d.2.2.1))), (.dv [] (a0A (d.2.2.2)))]), (4, 38, [(.dv [] (a0Z (q)))]), (6, 35, [(.dv [] (.str (ByteArray.empty))), (.dv [] (.int .i64 (0))), .nil, .nil]), (7, 38, [.nil]), (9, 35, [(.dv [] (.str (c.1))), (.dv [] (.int .i64 (c.2.1))), (.key 90031), (.key 90900)]), (10, 38, [(.key 95031)])], [(90031, some (a0d false (.sl 89 3 (c.2.2.1.length) (c.2.2.1.flatMap a0U)))), (90900, some (a0d false (.sl 95 2 (c.2.2.2.length) (c.2.2.2.flatMap a1y)))), (95031, some (a0d false (.sl 63 5 (((q)).length) (mid ((q.take (i).toNat).flatMap eTx) [.int .i64 (t.1), a0F (t.2.1), .int .i64 ((t.2.2.1) + (1)), .int .i64 (t.2.2.2.1), a0k (t.2.2.2.2)] ((q.drop ((i).toNat + 1)).flatMap eTx)))))]⟩ : St)
    iterate 3 refine z ?_
    refine a0p ?_
    refine yQ rfl (fun c4 => ?_) fun c4 => ?_
    ·have d4 := c5p c4
     have hn2 : n < t.2.2.2.2.length := by omega
     obtain ⟨hw1, hw2⟩ := hw hn2
     have hrs := b5N (c := c) hn2
     iterate 5 refine z ?_
     refine yO rfl rfl (a4t hT rfl rfl rfl (a5f (a0a rfl)) (a0a rfl) (fun _ => rfl) (by omega) (by omega)) rfl ?_
     iterate 8 refine z ?_
     refine a3k rfl rfl rfl Tryz.call71 (a8Q (x := c) (n := (t.2.2.2.2.getD (n : Int).toNat default).1)) (a0f (a0a rfl) (a0l (a0c a0b (a0c a0b (a0c (a0L rfl rfl) (a0c (a0L rfl rfl) a0m))))) (a0f (a0a rfl) (a0H a0b) a0n)) rfl rfl ?_
     iterate 6 refine z ?_
     refine yQ rfl (fun c5 => ?_) fun c5 => ?_
     ·have d5 := c5p c5
      have hlt : (a0q (a0D (t.2.2.2.2.getD (n : Int).toNat default).1) c.2.2.1 0) < c.2.2.1.length := a5L c (t.2.2.2.2.getD (n : Int).toNat default).1
      have hkn : (a0q (a0D (t.2.2.2.2.getD (n : Int).toNat default).1) c.2.2.1 0).toNat < c.2.2.1.length := by omega
      rw [if_pos (show 0 ≤ a1U c (t.2.2.2.2.getD (n : Int).toNat default).1 from d5)] at hrs
      refine a1o (oB := [3, 4, 6, 7, 9, 10, 17]) (oK := [90031, 90900, 95031]) (by kernel_rfl) rfl rfl ?_
      refine zD 0 ?_
      refine zD 1 ?_
      refine zD 2 ?_
      refine zD 3 ?_
      refine a3L 96970 4 rfl (by kernel_rfl) rfl rfl rfl Tryz.call66 (a5c (x := (t.2.2.2.2.getD (n : Int).toNat default)) (by omega)) (a0f (a0a rfl) (a0l (a0c a0b (a0c a0b (a0c a0b a0m)))) a0n) rfl rfl rfl rfl rfl ?_
      refine a1X 5 rfl (by kernel_rfl) rfl rfl (a1q (i := (a0q (a0D ((t.2.2.2.2.getD (n : Int).toNat default).1)) (c).2.2.1 0).toNat) hT rfl rfl rfl (a0a rfl) rfl (a0a rfl) (by omega) (by show _ < (c.2.2.1.length); omega)) rfl rfl rfl rfl ?_
      refine a3c [6] rfl rfl (by kernel_rfl) ?_
      refine a1u (js := [97000]) (cs := (c.2.2.1.set (a0q (a0D (t.2.2.2.2.getD (n : Int).toNat default).1) c.2.2.1 0).toNat (t.2.2.2.2.getD (n : Int).toNat default)).flatMap a0U) hT rfl rfl rfl rfl (a0a rfl) (a0a rfl) rfl rfl rfl rfl (a0o (a0C rfl) (a0o (a1Y rfl) (a0o (a0C rfl) a1e rfl) rfl) rfl) (by decide) (by decide) rfl (by show _ ≤ List.length (c.2.2.1.flatMap a0U); exact b0T (enc := a0U) (sz := 3) (fun _ => rfl) hkn) (b0S (enc := a0U) (sz := 3) (fun _ => rfl) hkn (t.2.2.2.2.getD (n : Int).toNat default)) ?_
      simp only [a0i, a0h, SV.kill, CV.kill, kk, Nat.reduceBEq]
      refine a1j ?_
      iterate 2 refine z ?_
      refine a0j ?_
      iterate 3 refine z ?_
      refine ⟨(n + 1, a3B c (a0q (a0D (t.2.2.2.2.getD (n : Int).toNat default).1) c.2.2.1 0).toNat (t.2.2.2.2.getD (n : Int).toNat default)), ?_, ?_, a0e ⟨rfl, rfl, rfl, rfl, rfl, rfl, rfl, rfl, rfl, trivial⟩ ⟨rfl, rfl, rfl, rfl, rfl, rfl, trivial⟩ ⟨(congrArg (fun m => some (some (KC.mk false 89 3 m ((c.2.2.1.set (a0q (a0D (t.2.2.2.2.getD (n : Int).toNat default).1) c.2.2.1 0).toNat (t.2.2.2.2.getD (n : Int).toNat default)).flatMap a0U)))) (List.length_set).symm), rfl, rfl, trivial⟩ rfl⟩
      ·exact ⟨hn2, by rw [hi]; exact hrs⟩
      ·dsimp only; omega
     ·have d5 := c5q c5
      rw [if_neg (show ¬ 0 ≤ a1U c (t.2.2.2.2.getD (n : Int).toNat default).1 from d5)] at hrs
      iterate 3 refine z ?_
      refine a0j ?_
      iterate 3 refine z ?_
      refine ⟨(n + 1, c), ?_, ?_, a0e ⟨rfl, rfl, rfl, rfl, rfl, rfl, rfl, rfl, rfl, trivial⟩ ⟨rfl, rfl, rfl, rfl, rfl, rfl, trivial⟩ ⟨rfl, rfl, rfl, trivial⟩ rfl⟩
      ·exact ⟨hn2, by rw [hi]; exact hrs⟩
      ·dsimp only; omega
    ·have d4 := c5q c4
     iterate 7 refine z ?_
     refine yO rfl rfl (a2R rfl (a0a rfl)) rfl ?_
     refine z ?_
     refine a1u (js := []) (cs := mid ((q.take (i).toNat).flatMap eTx) [.int .i64 (t.1), a0F (t.2.1), .int .i64 ((t.2.2.1) + (1)), .int .i64 (3), a0k (t.2.2.2.2)] ((q.drop ((i).toNat + 1)).flatMap eTx)) hT rfl rfl rfl rfl (a0a rfl) (a0y (a0w rfl)) rfl rfl rfl rfl (a0o (a0C rfl) a1e rfl) (by decide) (by decide) rfl (a2a (off := ((i).toNat * 5 + 3)) (n := 1) (j := 3) (a1h (sz := 5) (fun _ => rfl) (Nat.le_of_lt hit)) (by omega) (Nat.le_of_ble_eq_true rfl)) (a1S (off := ((i).toNat * 5 + 3)) (j := 3) (a1h (sz := 5) (fun _ => rfl) (Nat.le_of_lt hit)) (by omega) rfl (Nat.le_of_ble_eq_true rfl)) ?_
     simp only [a0i, a0h, SV.kill, CV.kill, kk, Nat.reduceBEq]
     refine z ?_
     refine a0j ?_
     refine z ?_
     refine yO rfl rfl (a2R rfl (a0a rfl)) rfl ?_
     refine z ?_
     refine a1u (js := []) (cs := mid ((q.take (i).toNat).flatMap eTx) [.int .i64 (t.1), a0F (t.2.1), .int .i64 ((t.2.2.1) + (1)), .int .i64 (3), .sl 89 3 0 []] ((q.drop ((i).toNat + 1)).flatMap eTx)) hT rfl rfl rfl rfl (a0a rfl) a0O rfl rfl rfl rfl (a0o (a7P (e := 89) (sz := 3) rfl) a1e rfl) (by decide) (by decide) rfl (a2a (off := ((i).toNat * 5 + 4)) (n := 1) (j := 4) (a1h (sz := 5) (fun _ => rfl) (Nat.le_of_lt hit)) (by omega) (Nat.le_of_ble_eq_true rfl)) (a1S (off := ((i).toNat * 5 + 4)) (j := 4) (a1h (sz := 5) (fun _ => rfl) (Nat.le_of_lt hit)) (by omega) rfl (Nat.le_of_ble_eq_true rfl)) ?_
     simp only [a0i, a0h, SV.kill, CV.kill, kk, Nat.reduceBEq]
     refine z ?_
     refine a0p ?_
     refine a3p 6 (oB := [3, 4, 7, 9, 10]) (oK := [90031, 90900, 95031]) (by kernel_rfl) rfl rfl ?_
     refine a1i 0 rfl (by kernel_rfl) rfl rfl (a2i hT rfl rfl (a0a rfl) rfl rfl) rfl rfl rfl rfl rfl ?_
     refine a1i 1 rfl (by kernel_rfl) rfl rfl (a2i hT rfl rfl (a0a rfl) rfl rfl) rfl rfl rfl rfl rfl ?_
     refine a3t 2 rfl (by kernel_rfl) rfl hT rfl rfl rfl (a0a rfl) (a0a rfl) rfl rfl rfl rfl rfl rfl ?_
     refine a3s [3, 4] rfl rfl (by kernel_rfl) ?_
     iterate 3 refine z ?_
     have hfin : a2y d t.2.2.2.2 = c := by rw [hi, List.drop_of_length_le (by omega)]; rfl
     rw [b5R hb1 ht hin hok, hfin]
     refine a0r (σ' := ⟨[(6, .box 6 0), (7, .box 7 0), (8, .one (.dv [] (.bool (true))))], [(6, 35, [(.dv [] (.str (c.1))), (.dv [] (.int .i64 (c.2.1))), (.key 90031), (.key 90900)]), (7, 38, [(.key 95031)])], [(90031, some (a0d false (a0k (c.2.2.1)))), (90900, some (a0d false (a0A (c.2.2.2)))), (95031, some (a0d false (a0Z (q.set (i).toNat (t.1, t.2.1, t.2.2.1 + 1, (3 : Int), ([] : List a0I))))))]⟩) (a0e ⟨rfl, rfl, rfl, trivial⟩ ⟨rfl, rfl, trivial⟩ ⟨rfl, rfl, (a5s hit (t.1, t.2.1, t.2.2.1 + 1, (3 : Int), ([] : List a0I))), trivial⟩ rfl) ?_
     refine z ?_
     refine a1V (a0K hT rfl rfl rfl rfl) (a0K hT rfl rfl rfl rfl) (a0B rfl) rfl rfl rfl ?_
     first | exact ⟨rfl, rfl⟩ | skip
   ·have hok : (a1b d (t.2.1.getD (t.2.2.1).toNat default)).2.2 = true := by simpa using c3
    refine a0p ?_
    refine a1o (oB := [3, 4, 6, 7, 9, 10, 13]) (oK := [90031, 90900, 95031]) (by kernel_rfl) rfl rfl ?_
    refine zD 0 ?_
    refine a1X 1 rfl (by kernel_rfl) rfl rfl (a2R rfl (a0a rfl)) rfl rfl rfl rfl ?_
    refine zD 2 ?_
    refine a1X 3 rfl (by kernel_rfl) rfl rfl (a3a hT rfl rfl (a0a rfl) rfl (a2m (off := ((i).toNat * 5 + 2)) (j := 2) (a1h (sz := 5) (fun _ => rfl) (Nat.le_of_lt hit)) (by omega) rfl)) rfl rfl rfl rfl ?_
    refine zD 4 ?_
    refine a1X 5 rfl (by kernel_rfl) rfl rfl (a2R rfl (a0a rfl)) rfl rfl rfl rfl ?_
    refine zD 6 ?_
    refine a1X 7 rfl (by kernel_rfl) rfl rfl (a3a hT rfl rfl (a0a rfl) rfl (a2m (off := ((i).toNat * 5 + 1)) (j := 1) (a1h (sz := 5) (fun _ => rfl) (Nat.le_of_lt hit)) (by omega) rfl)) rfl rfl rfl rfl ?_
    refine a1X 8 rfl (by kernel_rfl) rfl rfl (a4H hT rfl rfl (a5f (a0a rfl))) rfl rfl rfl rfl ?_
    refine zD 9 ?_
    refine a2v 10 rfl (by kernel_rfl) rfl rfl rfl Tryz.call69 (a5k (n := (t.2.2.1) + (1)) (lo := 0) (hi := ((((t.2.1)).length : Int)) - (1)) ) (a0f (a0a rfl) (a0H a0b) (a0f (a0y (a0w rfl)) (a0H a0b) (a0f (a0a rfl) (a0H a0b) a0n))) rfl rfl rfl rfl ?_
    refine zD 11 ?_
    refine a1R (by kernel_rfl) ?_
    refine z ?_
    refine yQ rfl (fun c6 => ?_) fun c6 => ?_
    ·iterate 2 refine z ?_
     refine yO rfl rfl (a2R rfl (a0a rfl)) rfl ?_
     refine z ?_
     refine a1u (js := []) (cs := mid ((q.take (i).toNat).flatMap eTx) [.int .i64 (t.1), a0F (t.2.1), .int .i64 ((t.2.2.1) + (1)), .int .i64 (2), a0k (t.2.2.2.2)] ((q.drop ((i).toNat + 1)).flatMap eTx)) hT rfl rfl rfl rfl (a0a rfl) (a0y (a0w rfl)) rfl rfl rfl rfl (a0o (a0C rfl) a1e rfl) (by decide) (by decide) rfl (a2a (off := ((i).toNat * 5 + 3)) (n := 1) (j := 3) (a1h (sz := 5) (fun _ => rfl) (Nat.le_of_lt hit)) (by omega) (Nat.le_of_ble_eq_true rfl)) (a1S (off := ((i).toNat * 5 + 3)) (j := 3) (a1h (sz := 5) (fun _ => rfl) (Nat.le_of_lt hit)) (by omega) rfl (Nat.le_of_ble_eq_true rfl)) ?_
     simp only [a0i, a0h, SV.kill, CV.kill, kk, Nat.reduceBEq]
     refine z ?_
     refine a0j ?_
     refine z ?_
     refine yO rfl rfl (a2R rfl (a0a rfl)) rfl ?_
     refine z ?_
     refine a1u (js := []) (cs := mid ((q.take (i).toNat).flatMap eTx) [.int .i64 (t.1), a0F (t.2.1), .int .i64 ((t.2.2.1) + (1)), .int .i64 (2), .sl 89 3 0 []] ((q.drop ((i).toNat + 1)).flatMap eTx)) hT rfl rfl rfl rfl (a0a rfl) a0O rfl rfl rfl rfl (a0o (a7P (e := 89) (sz := 3) rfl) a1e rfl) (by decide) (by decide) rfl (a2a (off := ((i).toNat * 5 + 4)) (n := 1) (j := 4) (a1h (sz := 5) (fun _ => rfl) (Nat.le_of_lt hit)) (by omega) (Nat.le_of_ble_eq_true rfl)) (a1S (off := ((i).toNat * 5 + 4)) (j := 4) (a1h (sz := 5) (fun _ => rfl) (Nat.le_of_lt hit)) (by omega) rfl (Nat.le_of_ble_eq_true rfl)) ?_
     simp only [a0i, a0h, SV.kill, CV.kill, kk, Nat.reduceBEq]
     refine z ?_
     refine a0p ?_
     refine a3p 6 (oB := [3, 4, 7, 9, 10, 13]) (oK := [90031, 90900, 95031]) (by kernel_rfl) rfl rfl ?_
     refine a1i 0 rfl (by kernel_rfl) rfl rfl (a2i hT rfl rfl (a0a rfl) rfl rfl) rfl rfl rfl rfl rfl ?_
     refine a1i 1 rfl (by kernel_rfl) rfl rfl (a2i hT rfl rfl (a0a rfl) rfl rfl) rfl rfl rfl rfl rfl ?_
     refine a3t 2 rfl (by kernel_rfl) rfl hT rfl rfl rfl (a0a rfl) (a0a rfl) rfl rfl rfl rfl rfl rfl ?_
     refine a3s [3, 4] rfl rfl (by kernel_rfl) ?_
     iterate 3 refine z ?_
     rw [b8c hb1 ht hin hok (by simpa only [tin, Bool.not_eq_true'] using c6)]
     refine a0r (σ' := ⟨[(6, .box 6 0), (7, .box 7 0), (8, .one (.dv [] (.bool (true))))], [(6, 35, [(.dv [] (.str ((a1b (d) ((t.2.1.getD (t.2.2.1).toNat default))).1.1))), (.dv [] (.int .i64 ((a1b (d) ((t.2.1.getD (t.2.2.1).toNat default))).1.2.1))), (.key 90031), (.key 90900)]), (7, 38, [(.key 95031)])], [(90031, some (a0d false (a0k ((a1b d (t.2.1.getD (t.2.2.1).toNat default)).1.2.2.1)))), (90900, some (a0d false (a0A ((a1b d (t.2.1.getD (t.2.2.1).toNat default)).1.2.2.2)))), (95031, some (a0d false (a0Z (q.set (i).toNat (t.1, t.2.1, t.2.2.1 + 1, (2 : Int), ([] : List a0I))))))]⟩) (a0e ⟨rfl, rfl, rfl, trivial⟩ ⟨rfl, rfl, trivial⟩ ⟨rfl, rfl, (a5s hit (t.1, t.2.1, t.2.2.1 + 1, (2 : Int), ([] : List a0I))), trivial⟩ rfl) ?_
     refine z ?_
     refine a1V (a0K hT rfl rfl rfl rfl) (a0K hT rfl rfl rfl rfl) (a0B rfl) rfl rfl rfl ?_
     first | exact ⟨rfl, rfl⟩ | skip
    ·iterate 2 refine z ?_
     refine a0p ?_
     refine a3p 6 (oB := [3, 4, 7, 9, 10, 13]) (oK := [90031, 90900, 95031]) (by kernel_rfl) rfl rfl ?_
     refine a1i 0 rfl (by kernel_rfl) rfl rfl (a2i hT rfl rfl (a0a rfl) rfl rfl) rfl rfl rfl rfl rfl ?_
     refine a1i 1 rfl (by kernel_rfl) rfl rfl (a2i hT rfl rfl (a0a rfl) rfl rfl) rfl rfl rfl rfl rfl ?_
     refine a3t 2 rfl (by kernel_rfl) rfl hT rfl rfl rfl (a0a rfl) (a0a rfl) rfl rfl rfl rfl rfl rfl ?_
     refine a3s [3, 4] rfl rfl (by kernel_rfl) ?_
     iterate 3 refine z ?_
     rw [b5c hb1 ht hin hok (by simpa only [tin, Bool.not_eq_false'] using c6)]
     refine a0r (σ' := ⟨[(6, .box 6 0), (7, .box 7 0), (8, .one (.dv [] (.bool (true))))], [(6, 35, [(.dv [] (.str ((a1b (d) ((t.2.1.getD (t.2.2.1).toNat default))).1.1))), (.dv [] (.int .i64 ((a1b (d) ((t.2.1.getD (t.2.2.1).toNat default))).1.2.1))), (.key 90031), (.key 90900)]), (7, 38, [(.key 95031)])], [(90031, some (a0d false (a0k ((a1b d (t.2.1.getD (t.2.2.1).toNat default)).1.2.2.1)))), (90900, some (a0d false (a0A ((a1b d (t.2.1.getD (t.2.2.1).toNat default)).1.2.2.2)))), (95031, some (a0d false (a0Z (q.set (i).toNat (t.1, t.2.1, t.2.2.1 + 1, t.2.2.2.1, t.2.2.2.2)))))]⟩) (a0e ⟨rfl, rfl, rfl, trivial⟩ ⟨rfl, rfl, trivial⟩ ⟨rfl, rfl, (a5s hit (t.1, t.2.1, t.2.2.1 + 1, t.2.2.2.1, t.2.2.2.2)), trivial⟩ rfl) ?_
     refine z ?_
     refine a1V (a0K hT rfl rfl rfl rfl) (a0K hT rfl rfl rfl rfl) (a0B rfl) rfl rfl rfl ?_
     first | exact ⟨rfl, rfl⟩ | skip
  ·have hin : tin t t.2.2.1 = false := c2
   iterate 6 refine z ?_
   refine yQ rfl (fun c7 => ?_) fun c7 => ?_
   ·exact absurd c7 (by simp)
   ·refine a0p ?_
    refine a1o (oB := [3, 4, 6, 7, 9, 10]) (oK := [90031, 90900, 95031]) (by kernel_rfl) rfl rfl ?_
    refine zD 0 ?_
    refine a1X 1 rfl (by kernel_rfl) rfl rfl (a2R rfl (a0a rfl)) rfl rfl rfl rfl ?_
    refine zD 2 ?_
    refine a1X 3 rfl (by kernel_rfl) rfl rfl (a3a hT rfl rfl (a0a rfl) rfl (a2m (off := ((i).toNat * 5 + 2)) (j := 2) (a1h (sz := 5) (fun _ => rfl) (Nat.le_of_lt hit)) (by omega) rfl)) rfl rfl rfl rfl ?_
    refine zD 4 ?_
    refine a1X 5 rfl (by kernel_rfl) rfl rfl (a2R rfl (a0a rfl)) rfl rfl rfl rfl ?_
    refine zD 6 ?_
    refine a1X 7 rfl (by kernel_rfl) rfl rfl (a3a hT rfl rfl (a0a rfl) rfl (a2m (off := ((i).toNat * 5 + 1)) (j := 1) (a1h (sz := 5) (fun _ => rfl) (Nat.le_of_lt hit)) (by omega) rfl)) rfl rfl rfl rfl ?_
    refine a1X 8 rfl (by kernel_rfl) rfl rfl (a4H hT rfl rfl (a5f (a0a rfl))) rfl rfl rfl rfl ?_
    refine zD 9 ?_
    refine a2v 10 rfl (by kernel_rfl) rfl rfl rfl Tryz.call69 (a5k (n := t.2.2.1) (lo := 0) (hi := ((((t.2.1)).length : Int)) - (1)) ) (a0f (a0a rfl) (a0H a0b) (a0f (a0y (a0w rfl)) (a0H a0b) (a0f (a0a rfl) (a0H a0b) a0n))) rfl rfl rfl rfl ?_
    refine zD 11 ?_
    refine a1R (by kernel_rfl) ?_
    refine z ?_
    refine yQ rfl (fun c8 => ?_) fun c8 => ?_
    ·iterate 2 refine z ?_
     refine yO rfl rfl (a2R rfl (a0a rfl)) rfl ?_
     refine z ?_
     refine a1u (js := []) (cs := mid ((q.take (i).toNat).flatMap eTx) [.int .i64 (t.1), a0F (t.2.1), .int .i64 (t.2.2.1), .int .i64 (2), a0k (t.2.2.2.2)] ((q.drop ((i).toNat + 1)).flatMap eTx)) hT rfl rfl rfl rfl (a0a rfl) (a0y (a0w rfl)) rfl rfl rfl rfl (a0o (a0C rfl) a1e rfl) (by decide) (by decide) rfl (a2a (off := ((i).toNat * 5 + 3)) (n := 1) (j := 3) (a1h (sz := 5) (fun _ => rfl) (Nat.le_of_lt hit)) (by omega) (Nat.le_of_ble_eq_true rfl)) (a1S (off := ((i).toNat * 5 + 3)) (j := 3) (a1h (sz := 5) (fun _ => rfl) (Nat.le_of_lt hit)) (by omega) rfl (Nat.le_of_ble_eq_true rfl)) ?_
     simp only [a0i, a0h, SV.kill, CV.kill, kk, Nat.reduceBEq]
     refine z ?_
     refine a0j ?_
     refine z ?_
     refine yO rfl rfl (a2R rfl (a0a rfl)) rfl ?_
     refine z ?_
     refine a1u (js := []) (cs := mid ((q.take (i).toNat).flatMap eTx) [.int .i64 (t.1), a0F (t.2.1), .int .i64 (t.2.2.1), .int .i64 (2), .sl 89 3 0 []] ((q.drop ((i).toNat + 1)).flatMap eTx)) hT rfl rfl rfl rfl (a0a rfl) a0O rfl rfl rfl rfl (a0o (a7P (e := 89) (sz := 3) rfl) a1e rfl) (by decide) (by decide) rfl (a2a (off := ((i).toNat * 5 + 4)) (n := 1) (j := 4) (a1h (sz := 5) (fun _ => rfl) (Nat.le_of_lt hit)) (by omega) (Nat.le_of_ble_eq_true rfl)) (a1S (off := ((i).toNat * 5 + 4)) (j := 4) (a1h (sz := 5) (fun _ => rfl) (Nat.le_of_lt hit)) (by omega) rfl (Nat.le_of_ble_eq_true rfl)) ?_
     simp only [a0i, a0h, SV.kill, CV.kill, kk, Nat.reduceBEq]
     refine z ?_
     refine a0p ?_
     refine a3p 6 (oB := [3, 4, 7, 9, 10]) (oK := [90031, 90900, 95031]) (by kernel_rfl) rfl rfl ?_
     refine a1i 0 rfl (by kernel_rfl) rfl rfl (a2i hT rfl rfl (a0a rfl) rfl rfl) rfl rfl rfl rfl rfl ?_
     refine a1i 1 rfl (by kernel_rfl) rfl rfl (a2i hT rfl rfl (a0a rfl) rfl rfl) rfl rfl rfl rfl rfl ?_
     refine a3t 2 rfl (by kernel_rfl) rfl hT rfl rfl rfl (a0a rfl) (a0a rfl) rfl rfl rfl rfl rfl rfl ?_
     refine a3s [3, 4] rfl rfl (by kernel_rfl) ?_
     iterate 3 refine z ?_
     rw [b3D hb1 ht hin]
     refine a0r (σ' := ⟨[(6, .box 6 0), (7, .box 7 0), (8, .one (.dv [] (.bool (true))))], [(6, 35, [(.dv [] (.str ((d).1))), (.dv [] (.int .i64 ((d).2.1))), (.key 90031), (.key 90900)]), (7, 38, [(.key 95031)])], [(90031, some (a0d false (a0k (d.2.2.1)))), (90900, some (a0d false (a0A (d.2.2.2)))), (95031, some (a0d false (a0Z (q.set (i).toNat (t.1, t.2.1, t.2.2.1, (2 : Int), ([] : List a0I))))))]⟩) (a0e ⟨rfl, rfl, rfl, trivial⟩ ⟨rfl, rfl, trivial⟩ ⟨rfl, rfl, (a5s hit (t.1, t.2.1, t.2.2.1, (2 : Int), ([] : List a0I))), trivial⟩ rfl) ?_
     refine z ?_
     refine a1V (a0K hT rfl rfl rfl rfl) (a0K hT rfl rfl rfl rfl) (a0B rfl) rfl rfl rfl ?_
     first | exact ⟨rfl, rfl⟩ | skip
    ·exact absurd c8 (by rw [c2]; simp)
theorem c2j {a b : Str} : sEq a b = true ↔ a = b := by
 unfold sEq
 rw [beq_iff_eq]
 constructor
 ·intro h
  rw [a6D, a6D] at h
  exact ByteArray.ext (Array.toList_inj.1 h)
 ·intro h; rw [h]
theorem c2H (d : DbT) (n : Str) : decide (0 ≤ a1U d n) = d.2.2.1.any (a0D n) := b6r _
theorem c1r {d : DbT} (h : a2c d = true) {x : a2M} (hx : x ∈ d.2.2.2) : 0 ≤ a1U d x.1 := by
 obtain ⟨i, hi, rfl⟩ := List.mem_iff_getElem.1 hx
 rw [a2c, Bool.and_eq_true, Bool.and_eq_true] at h
 have h1 := h.2.2
 rw [a8E, List.all_eq_true] at h1
 have h2 := h1 i (List.mem_range.2 hi)
 unfold a3F at h2
 rw [Int.toNat_natCast, List.getD_eq_getElem?_getD, List.getElem?_eq_getElem hi] at h2
 simp only [Option.getD_some, Bool.not_eq_true', Bool.or_eq_false_iff, decide_eq_false_iff_not] at h2
 have := h2.1.1.1
 omega
theorem c2X {r : a0J} (h : a1C r = true) : a2e r ≤ 54 := by
 have h10 := b7n h
 have h11 : wSum a1v r ≤ 8 * r.length := by
  have key : ∀ r : a0J, (∀ f ∈ r, f.1.size ≤ 8) → wSum a1v r ≤ 8 * r.length := by
   intro r
   induction r with
   | nil => intro _; simp [wSum]
   | cons f r ih =>
    intro hf
    have k1 := ih (fun g hg => hf g (by simp [hg]))
    have k2 := hf f (by simp)
    have k3 : a1v f = f.1.size := rfl
    simp only [wSum, List.map_cons, List.sum_cons, List.length_cons] at *
    omega
  refine key _ (fun f hf => ?_)
  obtain ⟨j, hj, rfl⟩ := List.mem_iff_getElem.1 hf
  have := (a8C (b5S h hj).1).2
  rwa [a4L hj] at this
 have h13 : a2e r = r.length + wSum a1v r := rfl
 omega
theorem b3U {s : a0I} (h : a1E s = true) : a0v s ≤ 1200 := by
 have h0 := h
 simp only [a1E, Bool.and_eq_true, List.all_eq_true, decide_eq_true_eq] at h
 obtain ⟨h1, ⟨h2, h3⟩, h4⟩ := h
 have h5 := a8C h2
 have h6 : ∀ x ∈ s.2.1, a1a x ≤ 70 := fun x hx => by
  obtain ⟨i, hi, rfl⟩ := List.mem_iff_getElem.1 hx
  have h7 := h1 i (List.mem_range.2 hi)
  unfold a4u at h7
  rw [a4L hi] at h7
  simp only [Bool.not_or, Bool.not_not, Bool.and_eq_true] at h7
  have h8 := (b7i h7.1.1).2.2
  have h9 := c2X h7.1.2
  have h12 : a1a s.2.1[i] = s.2.1[i].1.2.2.size + a2e s.2.1[i].2 := rfl
  omega
 have h7 : wSum a1a s.2.1 ≤ 70 * s.2.1.length := by
  have key : ∀ l : List a0Q, (∀ x ∈ l, a1a x ≤ 70) → wSum a1a l ≤ 70 * l.length := by
   intro l
   induction l with
   | nil => intro _; simp [wSum]
   | cons x l ih =>
    intro hx
    have k1 := ih (fun g hg => hx g (by simp [hg]))
    have k2 := hx x (by simp)
    simp only [wSum, List.map_cons, List.sum_cons, List.length_cons] at *
    omega
  exact key _ h6
 have h8 : a0v s = s.1.size + (s.2.1.length + wSum a1a s.2.1) := rfl
 omega
theorem b2E {α : Type} {w : α → Nat} {B : Nat} : ∀ (l : List α), (∀ x ∈ l, w x ≤ B) → wSum w l ≤ B * l.length
 | [], _ => by simp [wSum]
 | x :: l, h => by
  have k1 := b2E l (fun g hg => h g (by simp [hg]))
  have k2 := h x (by simp)
  simp only [wSum, List.map_cons, List.sum_cons, List.length_cons, Nat.mul_add, Nat.mul_one] at *
  omega
theorem c0Q {d : DbT} (h : a2c d = true) : a1r d ≤ 6000 := by
 have h4 : a1r d = d.1.size + (d.2.2.1.length + wSum a0v d.2.2.1) + (d.2.2.2.length + wSum a1m d.2.2.2) := rfl
 have h0 := h
 rw [a2c, Bool.and_eq_true, Bool.and_eq_true] at h
 obtain ⟨h1, h2, h3⟩ := h
 simp only [a6L, Bool.and_eq_true, decide_eq_true_eq] at h1
 have h5 := a8C h1.1.1.1
 have h6 := b2E (w := a0v) (B := 1200) d.2.2.1 (fun s hs => by
  obtain ⟨i, hi, rfl⟩ := List.mem_iff_getElem.1 hs
  have := a6G (i := (i : Int)) h2 (by omega) (by omega)
  rw [Int.toNat_natCast, List.getD_eq_getElem?_getD, List.getElem?_eq_getElem hi] at this
  exact b3U this)
 have h7 := b2E (w := a1m) (B := 16) d.2.2.2 (fun x hx => by
  obtain ⟨i, hi, rfl⟩ := List.mem_iff_getElem.1 hx
  have hq := c1r h0 (List.getElem_mem hi)
  have h8 : d.2.2.1.any (a0D d.2.2.2[i].1) = true := by rw [← c2H]; exact decide_eq_true hq
  obtain ⟨s, hs, hn⟩ := List.any_eq_true.1 h8
  have hn2 : s.1 = d.2.2.2[i].1 := c2j.1 hn
  obtain ⟨j, hj, rfl⟩ := List.mem_iff_getElem.1 hs
  have h9 := a6G (i := (j : Int)) h2 (by omega) (by omega)
  rw [Int.toNat_natCast, List.getD_eq_getElem?_getD, List.getElem?_eq_getElem hj] at h9
  have h10 := c0q h9
  have h11 : d.2.2.1[j].1.size ≤ 8 := h10
  have h12 : (d.2.2.2[i]).2.size ≤ 8 := by
   rw [a8E, List.all_eq_true] at h3
   have h13 := h3 i (List.mem_range.2 hi)
   unfold a3F at h13
   rw [Int.toNat_natCast, List.getD_eq_getElem?_getD, List.getElem?_eq_getElem hi] at h13
   simp only [Option.getD_some, Bool.not_eq_true', Bool.or_eq_false_iff, Bool.not_eq_false'] at h13
   exact (a8C h13.1.1.2).2
  have h14 : a1m d.2.2.2[i] = (d.2.2.2[i]).1.size + (d.2.2.2[i]).2.size := rfl
  rw [hn2] at h11
  omega)
 omega
def a2h : List Str → Str → List Str
 | [], n => [n]
 | x :: xs, n => if sLt x n then x :: a2h xs n else if sEq x n then x :: xs else n :: x :: xs
def a0V (l : List OpT) : List Str := l.foldl (fun out o => a2h out o.2.1) []
theorem b6c {n : Str} : ∀ {l : List Str}, (a2h l n).length ≤ l.length + 1
 | [] => Nat.le_refl _
 | x :: xs => by
  have ih := b6c (n := n) (l := xs)
  rw [a2h]
  split
  ·rw [List.length_cons, List.length_cons]; omega
  ·split
   ·omega
   ·exact Nat.le_refl _
theorem b2e (l : List OpT) : (a0V l).length ≤ l.length := by
 have key : ∀ (l : List OpT) (out : List Str), (l.foldl (fun out o => a2h out o.2.1) out).length ≤ out.length + l.length := by
  intro l
  induction l with
  | nil => exact fun out => Nat.le_refl _
  | cons o l ih =>
   intro out
   have h1 := ih (a2h out o.2.1)
   have h2 := b6c (n := o.2.1) (l := out)
   rw [List.foldl_cons, List.length_cons]; omega
 have := key l []
 rw [List.length_nil, Nat.zero_add] at this
 exact this
theorem c2R {a b : Str} : sEq a b = true ↔ a = b := by
 unfold sEq
 rw [beq_iff_eq]
 constructor
 ·intro h
  rw [a6D, a6D] at h
  exact ByteArray.ext (Array.toList_inj.1 h)
 ·intro h; rw [h]
theorem b2w {n m : Str} : ∀ {l : List Str}, m ∈ a2h l n ↔ m = n ∨ m ∈ l
 | [] => by simp [a2h]
 | x :: xs => by
  have ih := b2w (n := n) (m := m) (l := xs)
  rw [a2h]
  split
  ·simp only [List.mem_cons, ih]
   constructor
   ·rintro (h | h | h)
    ·exact .inr (.inl h)
    ·exact .inl h
    ·exact .inr (.inr h)
   ·rintro (h | h | h)
    ·exact .inr (.inl h)
    ·exact .inl h
    ·exact .inr (.inr h)
  ·split
   ·rename_i h1 h2
    have e := c2R.1 h2
    simp only [List.mem_cons]
    constructor
    ·exact fun h => .inr h
    ·rintro (h | h)
     ·exact .inl (h.trans e.symm)
     ·exact h
   ·simp only [List.mem_cons]
theorem b6X {m : Str} (l : List OpT) : m ∈ a0V l ↔ ∃ o ∈ l, o.2.1 = m := by
 have key : ∀ (l : List OpT) (out : List Str), m ∈ l.foldl (fun out o => a2h out o.2.1) out ↔ (∃ o ∈ l, o.2.1 = m) ∨ m ∈ out := by
  intro l
  induction l with
  | nil => intro out; simp
  | cons o l ih =>
   intro out
   rw [List.foldl_cons, ih, b2w]
   simp only [List.mem_cons]
   constructor
   ·rintro (⟨p, hp, e⟩ | e | h)
    ·exact .inl ⟨p, .inr hp, e⟩
    ·exact .inl ⟨o, .inl rfl, e.symm⟩
    ·exact .inr h
   ·rintro (⟨p, hp | hp, e⟩ | h)
    ·subst hp; exact .inr (.inl e.symm)
    ·exact .inl ⟨p, hp, e⟩
    ·exact .inr (.inr h)
 have := key l []
 simpa [a0V] using this
def bl (x y : List UInt8) : Prop := Op.bytesLess x y = true
theorem b1t (x y : List UInt8) : bl x y ∨ x = y ∨ bl y x := by
 have h := b3e x y
 unfold bl
 cases h1 : Op.bytesLess x y with
 | true => exact .inl rfl
 | false =>
  cases h2 : Op.bytesLess y x with
  | true => exact .inr (.inr rfl)
  | false =>
   rw [h1, h2] at h
   exact .inr (.inl (by simpa using h))
theorem b6E : ∀ (x y : List (List UInt8)), x.Pairwise bl → y.Pairwise bl → (∀ z, z ∈ x ↔ z ∈ y) → x = y
 | [], [], _, _, _ => rfl
 | [], b :: y, _, _, h => absurd ((h b).2 (by simp)) (by simp)
 | a :: x, [], _, _, h => absurd ((h a).1 (by simp)) (by simp)
 | a :: x, b :: y, hx, hy, h => by
  obtain ⟨hx1, hx2⟩ := List.pairwise_cons.1 hx
  obtain ⟨hy1, hy2⟩ := List.pairwise_cons.1 hy
  have irr : ∀ z, ¬ bl z z := fun z hz => by unfold bl at hz; rw [a8e] at hz; cases hz
  have e : a = b := by
   rcases List.mem_cons.1 ((h a).1 (by simp)) with h1 | h1
   ·exact h1
   ·rcases List.mem_cons.1 ((h b).2 (by simp)) with h2 | h2
    ·exact h2.symm
    ·exact absurd (a6s _ _ _ (hy1 a h1) (hx1 b h2)) (irr b)
  subst e
  rw [b6E x y hx2 hy2 (fun z => ?_)]
  constructor
  ·intro hz
   rcases List.mem_cons.1 ((h z).1 (by simp [hz])) with h1 | h1
   ·rw [h1] at hz; exact absurd (hx1 a hz) (irr a)
   ·exact h1
  ·intro hz
   rcases List.mem_cons.1 ((h z).2 (by simp [hz])) with h1 | h1
   ·rw [h1] at hz; exact absurd (hy1 a hz) (irr a)
   ·exact h1
theorem b3H {d : Array (List UInt8)} (hs : ∀ i, i + 1 < d.size → ¬ bl d[i + 1]! d[i]!) : ∀ m, m ≤ d.size → (Lib.compactUpTo d m).Pairwise bl ∧ (∀ z, z ∈ Lib.compactUpTo d m ↔ ∃ j, j < m ∧ z = d[j]!) ∧ (0 < m → ∀ z ∈ Lib.compactUpTo d m, z = d[m - 1]! ∨ bl z d[m - 1]!)
 | 0, _ => ⟨by simp [Lib.compactUpTo], by simp [Lib.compactUpTo], fun h => by omega⟩
 | m + 1, hm => by
  obtain ⟨i1, i2, i3⟩ := b3H hs m (by omega)
  rw [Lib.compactUpTo_succ, Nat.add_sub_cancel]
  by_cases hk : Lib.keeps d m = true
  ·rw [if_pos hk]
   have hlt : ∀ z ∈ Lib.compactUpTo d m, bl z d[m]! := fun z hz => by
    have hm0 : 0 < m := by
     obtain ⟨j, hj, _⟩ := (i2 z).1 hz; omega
    have hne : d[m]! ≠ d[m - 1]! := by
     unfold Lib.keeps at hk
     rcases c5p hk with h | h
     ·omega
     ·exact h
    have hb : bl d[m - 1]! d[m]! := by
     rcases b1t d[m - 1]! d[m]! with h | h | h
     ·exact h
     ·exact absurd h.symm hne
     ·have := hs (m - 1) (by omega)
      rw [show m - 1 + 1 = m by omega] at this
      exact absurd h this
    rcases i3 hm0 z hz with h | h
    ·rw [h]; exact hb
    ·exact a6s _ _ _ h hb
   refine ⟨List.pairwise_append.2 ⟨i1, by simp, fun a ha b hb => ?_⟩, fun z => ?_, fun _ z hz => ?_⟩
   ·rw [List.mem_singleton.1 hb]; exact hlt a ha
   ·rw [List.mem_append, i2, List.mem_singleton]
    constructor
    ·rintro (⟨j, hj, e⟩ | e)
     ·exact ⟨j, by omega, e⟩
     ·exact ⟨m, by omega, e⟩
    ·rintro ⟨j, hj, e⟩
     by_cases h : j = m
     ·subst h; exact .inr e
     ·exact .inl ⟨j, by omega, e⟩
   ·rcases List.mem_append.1 hz with h | h
    ·exact .inr (hlt z h)
    ·exact .inl (List.mem_singleton.1 h)
  ·rw [if_neg hk, List.append_nil]
   have hk' : ¬ m = 0 ∧ d[m]! = d[m - 1]! := by
    unfold Lib.keeps at hk
    simp only [decide_eq_true_eq, not_or, Classical.not_not] at hk
    exact hk
   refine ⟨i1, fun z => ?_, fun _ z hz => ?_⟩
   ·rw [i2]
    constructor
    ·rintro ⟨j, hj, e⟩; exact ⟨j, by omega, e⟩
    ·rintro ⟨j, hj, e⟩
     by_cases h : j = m
     ·subst h; exact ⟨j - 1, by omega, by rw [e, hk'.2]⟩
     ·exact ⟨j, by omega, e⟩
   ·rw [hk'.2]; exact i3 (by omega) z hz
theorem c0k (zs : List (List UInt8)) : (Lib.compact (zs.mergeSort fun x y => decide (x ≤ y))).Pairwise bl ∧ ∀ z, z ∈ Lib.compact (zs.mergeSort fun x y => decide (x ≤ y)) ↔ z ∈ zs := by
 have hle : ∀ x y : List UInt8, decide (x ≤ y) = !Op.bytesLess y x := fun x y => by
  rw [bytesLess_eq]
  by_cases h : y < x
  ·rw [decide_eq_true h, decide_eq_false (fun h2 : x ≤ y => h2 h)]; rfl
  ·rw [decide_eq_false h, decide_eq_true (show x ≤ y from h)]; rfl
 have hp : (zs.mergeSort fun x y => decide (x ≤ y)).Pairwise (fun x y => decide (x ≤ y) = true) := by
  refine List.pairwise_mergeSort (fun a b c h1 h2 => ?_) (fun a b => ?_) zs
  ·rw [hle] at h1 h2 ⊢
   simp only [Bool.not_eq_true'] at h1 h2 ⊢
   cases h3 : Op.bytesLess c a with
   | false => rfl
   | true =>
    exfalso
    rcases b1t a b with h | h | h
    ·have := a6s _ _ _ h3 h
     rw [this] at h2; cases h2
    ·subst h; rw [h3] at h2; cases h2
    ·unfold bl at h; rw [h] at h1; cases h1
  ·rw [hle, hle]
   rcases b1t a b with h | h | h
   ·cases h2 : Op.bytesLess b a with
    | false => simp
    | true => have := a6s _ _ _ h h2; rw [a8e] at this; cases this
   ·subst h; simp [a8e]
   ·cases h2 : Op.bytesLess a b with
    | false => simp
    | true => have := a6s _ _ _ h h2; rw [a8e] at this; cases this
 have hm : ∀ z, z ∈ (zs.mergeSort fun x y => decide (x ≤ y)) ↔ z ∈ zs := fun z => List.mem_mergeSort
 generalize (zs.mergeSort fun x y => decide (x ≤ y)) = s at hp hm
 have hs : ∀ i, i + 1 < s.toArray.size → ¬ bl s.toArray[i + 1]! s.toArray[i]! := fun i hi hb => by
  have hi' : i + 1 < s.length := by simpa using hi
  have h := List.pairwise_iff_getElem.1 hp i (i + 1) (by omega) hi' (by omega)
  rw [hle] at h
  rw [getElem!_pos s.toArray (i + 1) hi, getElem!_pos s.toArray i (by omega)] at hb
  simp only [List.getElem_toArray] at hb
  unfold bl at hb
  rw [hb] at h; cases h
 obtain ⟨h1, h2, _⟩ := b3H hs s.length (by simp)
 refine ⟨h1, fun z => ?_⟩
 rw [← hm z, show Lib.compact s = Lib.compactUpTo s.toArray s.length from rfl, h2]
 constructor
 ·rintro ⟨j, hj, e⟩
  rw [e, getElem!_pos s.toArray j (by simpa using hj)]
  simp
 ·intro hz
  obtain ⟨j, hj, e⟩ := List.mem_iff_getElem.1 hz
  exact ⟨j, hj, by rw [getElem!_pos s.toArray j (by simpa using hj)]; simp [e]⟩
theorem b4x {n : Str} : ∀ {l : List Str}, l.Pairwise (fun a b => sLt a b = true) → (a2h l n).Pairwise (fun a b => sLt a b = true)
 | [], _ => by simp [a2h]
 | x :: xs, h => by
  obtain ⟨h1, h2⟩ := List.pairwise_cons.1 h
  rw [a2h]
  split
  ·rename_i hx
   refine List.pairwise_cons.2 ⟨fun a ha => ?_, b4x h2⟩
   rcases b2w.1 ha with e | e
   ·rw [e]; exact hx
   ·exact h1 a e
  ·split
   ·exact h
   ·rename_i h3 h4
    have hnx : sLt n x = true := by
     have := a7e x n
     rw [Bool.eq_false_iff.2 h3, Bool.eq_false_iff.2 h4] at this
     simpa using this
    refine List.pairwise_cons.2 ⟨fun a ha => ?_, h⟩
    rcases List.mem_cons.1 ha with e | e
    ·rw [e]; exact hnx
    ·exact a6s _ _ _ hnx (h1 a e)
theorem c5i (l : List OpT) : (a0V l).Pairwise (fun a b => sLt a b = true) := by
 have key : ∀ (l : List OpT) (out : List Str), out.Pairwise (fun a b => sLt a b = true) → (l.foldl (fun out o => a2h out o.2.1) out).Pairwise (fun a b => sLt a b = true) := by
  intro l
  induction l with
  | nil => exact fun _ h => h
  | cons o l ih => exact fun out h => ih _ (b4x h)
 exact key l [] .nil
theorem c4m (l : List OpT) : Lib.compact ((l.map fun o => o.2.1.data.toList).mergeSort fun x y => decide (x ≤ y)) = (a0V l).map fun s => s.data.toList := by
 obtain ⟨h1, h2⟩ := c0k (l.map fun o => o.2.1.data.toList)
 refine b6E _ _ h1 ?_ (fun z => ?_)
 ·rw [List.pairwise_map]
  refine (c5i l).imp (fun {a b} h => ?_)
  unfold sLt at h
  rw [a6D, a6D] at h
  exact h
 ·rw [h2, List.mem_map, List.mem_map]
  constructor
  ·rintro ⟨o, ho, e⟩; exact ⟨o.2.1, (b6X l).2 ⟨o, ho, rfl⟩, e⟩
  ·rintro ⟨s, hs, e⟩
   obtain ⟨o, ho, e2⟩ := (b6X l).1 hs
   exact ⟨o, ho, by rw [e2]; exact e⟩
theorem b7q (l : List OpT) : a3J (a3Q (l.map fun o => o.2.1)) = a0V l := by
 unfold a3J a3Q
 rw [b1I, List.map_map]
 have := c4m l
 rw [show ((fun s : ByteArray => s.data.toList) ∘ fun o : OpT => o.2.1) = fun o : OpT => o.2.1.data.toList from rfl, this, List.map_map]
 rw [show (ofB ∘ fun s : ByteArray => s.data.toList) = id from rfl, List.map_id]
theorem b5F {l : List OpT} {k : Nat} (h : k < l.length) : ((l.take (k + 1)).map fun o => o.2.1) = ((l.take k).map fun o => o.2.1) ++ [(l.getD (k : Int).toNat default).2.1] := by
 rw [List.take_add_one, List.getElem?_eq_getElem h, List.map_append, a4L h]; rfl
theorem c1L {l : List OpT} (hl : l.length ≤ 1099511627776) : KFn Tryz.prog 76 [.one (.dv [] (a0F (l)))] (.one (.key 95000)) [(95000, some (a0d false (a4d (a0V l))))] := by
 refine ⟨a0u Tryz.func76 rfl Tryz.ntmps76 Tryz.results76 rfl (fun C => ?_)⟩
 refine a0G (x := .tmp 0) (a0a rfl) fun f0 => ?_
 iterate 4 refine z ?_
 refine a5b (k := 95000) hT rfl rfl rfl rfl rfl rfl rfl rfl ?_
 iterate 9 refine z ?_
 refine a0W (ι := Nat) (fun zz => ⟨[(2, .one .nil), (3, .one (.key 95000)), (7, .one (.dv [] (a0F (l)))), (8, .one (.dv [] (.int .i64 ((((l)).length : Int))))), (9, .one (.dv [] (.int .i64 ((zz : Int)))))], [], [(95000, some (a0d false (.sl 9 1 (((l.take zz).map fun o => o.2.1).length) (((l.take zz).map fun o => o.2.1).flatMap a2G))))]⟩) (fun zz => zz ≤ l.length) (fun zz => l.length - zz) (0) ?_ (a0e ⟨rfl, rfl, rfl, rfl, rfl, trivial⟩ trivial ⟨rfl, trivial⟩ rfl) (fun zz hx => ?_)
 ·exact Nat.zero_le _
 obtain ⟨k, rfl⟩ : ∃ v, v = zz := ⟨_, rfl⟩
 replace hx : k ≤ l.length := hx
 show Ok _ _ _ _ _ (⟨[(2, .one .nil), (3, .one (.key 95000)), (7, .one (.dv [] (a0F (l)))), (8, .one (.dv [] (.int .i64 ((((l)).length : Int))))), (9, .one (.dv [] (.int .i64 ((k : Int)))))], [], [(95000, some (a0d false (.sl 9 1 (((l.take k).map fun o => o.2.1).length) (((l.take k).map fun o => o.2.1).flatMap a2G))))]⟩ : St)
 iterate 3 refine z ?_
 refine a0p ?_
 refine yQ rfl (fun c1 => ?_) fun c1 => ?_
 ·have d1 := c5p c1
  have hk2 : k < l.length := by omega
  iterate 10 refine z ?_
  refine a0j ?_
  iterate 3 refine z ?_
  refine a6n (k := 16) (js := []) hT rfl rfl rfl rfl rfl rfl rfl rfl rfl (a0a rfl) rfl rfl (a0o (a0C rfl) a1e rfl) (by decide) (by decide) rfl rfl ?_
  simp only [a0i, a0h, SV.kill, CV.kill, kk, Nat.reduceBEq]
  refine a4r (k := 95000) (j := 16) (cs := ((l.take (k + 1)).map fun o => o.2.1).flatMap a2G) (n := ((l.take (k + 1)).map fun o => o.2.1).length) hT rfl rfl rfl rfl rfl rfl rfl (a0a rfl) rfl rfl rfl (a0a rfl) rfl rfl (by decide) (by dsimp only [a0d]; rw [List.length_map, c5t]; omega) (by dsimp only [a0d]; rw [List.length_map, c5t]; omega) (by rw [b5F hk2, c5s]; rfl) (by rw [b5F hk2, List.flatMap_append]; rfl) ?_
  simp only [a0i, a0h, SV.kill, CV.kill, kk, Nat.reduceBEq]
  refine z ?_
  refine a1j ?_
  iterate 2 refine z ?_
  refine a0j ?_
  iterate 3 refine z ?_
  refine ⟨k + 1, ?_, ?_, a0e ⟨rfl, rfl, rfl, rfl, rfl, trivial⟩ trivial ⟨rfl, trivial⟩ rfl⟩
  ·omega
  ·omega
 ·have d1 := c5q c1
  have hk2 : l.take k = l := List.take_of_length_le (by omega)
  rw [hk2]
  iterate 7 refine z ?_
  refine c0L (k := 95000) (l := (l.map fun o => o.2.1)) (n := (a3Q (l.map fun o => o.2.1)).length) (cs := a2S (a3Q (l.map fun o => o.2.1))) rfl rfl rfl rfl Tryz.call113 c4s (a0a rfl) rfl rfl rfl (rfl) (rfl) (by rw [List.length_map]; omega) ((b2v _).symm) (rfl) ?_
  simp only [a0i, a0h, SV.kill, CV.kill, kk, Nat.reduceBEq]
  iterate 3 refine z ?_
  refine c0p (k := 95000) (l := (a3Q (l.map fun o => o.2.1))) (n := (a0V l).length) (cs := (a0V l).flatMap a2G) rfl rfl rfl rfl Tryz.call114 c2i (a0a rfl) rfl rfl rfl (rfl) (rfl) (by rw [b2v, List.length_map]; omega) (by rw [b7q]) (by rw [b7q]; rfl) ?_
  simp only [a0i, a0h, SV.kill, CV.kill, kk, Nat.reduceBEq]
  iterate 2 refine z ?_
  refine a0r (σ' := ⟨[(2, .one (.key 95000))], [], [(95000, some (a0d false (a4d (a0V l))))]⟩) (a0e ⟨rfl, trivial⟩ trivial ⟨rfl, trivial⟩ rfl) ?_
  refine z ?_
  refine a1B (a0B rfl) ?_
  exact ⟨rfl, rfl⟩
theorem b0X {o : List Str} {j : Nat} (h : j < o.length) : o.getD (j : Int).toNat default = o[j] := a4L h
theorem c1x {o : List Str} {x : Str} {j : Nat} (hj : j < o.length) (h : sLt (o.getD (j : Int).toNat default) x = true) (hp : a2h o x = o.take j ++ a2h (o.drop j) x) : a2h o x = o.take (j + 1) ++ a2h (o.drop (j + 1)) x := by
 rw [b0X hj] at h
 rw [hp, List.drop_eq_getElem_cons hj, a2h, if_pos h, List.take_add_one, List.getElem?_eq_getElem hj, List.append_assoc]
 rfl
theorem b9q {o : List Str} {x : Str} {j : Nat} (hp : a2h o x = o.take j ++ a2h (o.drop j) x) (h1 : (decide ((j : Int) < (o.length : Int)) && sLt (o.getD (j : Int).toNat default) x) = false) (h2 : (decide ((j : Int) < (o.length : Int)) && sEq (o.getD (j : Int).toNat default) x) = true) : a2h o x = o := by
 rw [Bool.and_eq_true, decide_eq_true_eq] at h2
 have hj : j < o.length := by omega
 rw [decide_eq_true (by omega : (j : Int) < (o.length : Int)), Bool.true_and, b0X hj] at h1
 rw [b0X hj] at h2
 rw [hp, List.drop_eq_getElem_cons hj, a2h, if_neg (by rw [h1]; decide), if_pos h2.2, ← List.drop_eq_getElem_cons hj, List.take_append_drop]
theorem b2A {o : List Str} {x : Str} {j : Nat} (hjl : j ≤ o.length) (hp : a2h o x = o.take j ++ a2h (o.drop j) x) (h1 : (decide ((j : Int) < (o.length : Int)) && sLt (o.getD (j : Int).toNat default) x) = false) (h2 : (decide ((j : Int) < (o.length : Int)) && sEq (o.getD (j : Int).toNat default) x) = false) : a2h o x = o.take j ++ x :: o.drop j := by
 rw [hp]
 by_cases hj : j < o.length
 ·rw [decide_eq_true (by omega : (j : Int) < (o.length : Int)), Bool.true_and, b0X hj] at h1 h2
  rw [List.drop_eq_getElem_cons hj, a2h, if_neg (by rw [h1]; decide), if_neg (by rw [h2]; decide)]
 ·rw [List.drop_of_length_le (by omega)]; rfl
theorem a9P {l : List OpT} {o : List Str} {i : Nat} (h : i < l.length) : (l.drop i).foldl (fun out o => a2h out o.2.1) o = (l.drop (i + 1)).foldl (fun out o => a2h out o.2.1) (a2h o (l.getD (i : Int).toNat default).2.1) := by
 rw [List.drop_eq_getElem_cons h, List.foldl_cons, a4L h]
theorem b9A {l : List OpT} (hl : l.length ≤ 1099511627776) : KFn Tryz.prog 60 [.one (.dv [] (a0F (l)))] (.one (.key 95000)) [(95000, some (a0d false (a4d (a0V l))))] := by
 refine ⟨a0u Tryz.func60 rfl Tryz.ntmps60 Tryz.results60 rfl (fun C => ?_)⟩
 refine a0G (x := .tmp 0) (a0a rfl) fun f0 => ?_
 iterate 4 refine z ?_
 refine a5b (k := 95000) hT rfl rfl rfl rfl rfl rfl rfl rfl ?_
 iterate 7 refine z ?_
 refine a0W (ι := Nat × List Str) (fun zz => ⟨[(0, .one (.dv [] (a0F (l)))), (2, .one .nil), (3, .one (.key 95000)), (4, .one (.dv [] (.int .i64 ((zz.1 : Int)))))], [], [(95000, some (a0d false (.sl 9 1 (zz.2.length) (zz.2.flatMap a2G))))]⟩) (fun zz => zz.1 ≤ l.length ∧ a0V l = (l.drop zz.1).foldl (fun (out : List Str) (z : OpT) => a2h out z.2.1) zz.2 ∧ zz.2.length ≤ zz.1) (fun zz => l.length - zz.1) ((0, [])) ?_ (a0e ⟨rfl, rfl, rfl, rfl, trivial⟩ trivial ⟨rfl, trivial⟩ rfl) (fun zz hx => ?_)
 ·exact ⟨Nat.zero_le _, rfl, Nat.le_refl _⟩
 obtain ⟨i, o⟩ := zz
 replace hx : i ≤ l.length ∧ a0V l = (l.drop i).foldl (fun (out : List Str) (z : OpT) => a2h out z.2.1) o ∧ o.length ≤ i := hx
 obtain ⟨hi, hs, hol⟩ := hx
 show Ok _ _ _ _ _ (⟨[(0, .one (.dv [] (a0F (l)))), (2, .one .nil), (3, .one (.key 95000)), (4, .one (.dv [] (.int .i64 ((i : Int)))))], [], [(95000, some (a0d false (.sl 9 1 (o.length) (o.flatMap a2G))))]⟩ : St)
 iterate 7 refine z ?_
 refine yQ rfl (fun c1 => ?_) fun c1 => ?_
 ·have d1 := c5p c1
  have hi2 : i < l.length := by omega
  iterate 9 refine z ?_
  refine a0W (ι := Nat) (fun zz => ⟨[(0, .one (.dv [] (a0F (l)))), (2, .one .nil), (3, .one (.key 95000)), (4, .one (.dv [] (.int .i64 ((i : Int))))), (5, .one (.dv [] (.int .i64 ((zz : Int)))))], [], [(95000, some (a0d false (.sl 9 1 (o.length) (o.flatMap a2G))))]⟩) (fun zz => zz ≤ o.length ∧ a2h o (l.getD (i : Int).toNat default).2.1 = o.take zz ++ a2h (o.drop zz) (l.getD (i : Int).toNat default).2.1) (fun zz => o.length - zz) (0) ?_ (a0e ⟨rfl, rfl, rfl, rfl, rfl, trivial⟩ trivial ⟨rfl, trivial⟩ rfl) (fun zz hx => ?_)
  ·exact ⟨Nat.zero_le _, rfl⟩
  obtain ⟨j, rfl⟩ : ∃ v, v = zz := ⟨_, rfl⟩
  replace hx : j ≤ o.length ∧ a2h o (l.getD (i : Int).toNat default).2.1 = o.take j ++ a2h (o.drop j) (l.getD (i : Int).toNat default).2.1 := hx
  obtain ⟨hj, hp⟩ := hx
  show Ok _ _ _ _ _ (⟨[(0, .one (.dv [] (a0F (l)))), (2, .one .nil), (3, .one (.key 95000)), (4, .one (.dv [] (.int .i64 ((i : Int))))), (5, .one (.dv [] (.int .i64 ((j : Int)))))], [], [(95000, some (a0d false (.sl 9 1 (o.length) (o.flatMap a2G))))]⟩ : St)
  refine a0p ?_
  refine a0p ?_
  refine a1o (oB := []) (oK := [95000]) (by kernel_rfl) rfl rfl ?_
  refine zD 0 ?_
  refine zD 1 ?_
  refine a1X 2 rfl (by kernel_rfl) rfl rfl (a3S (n := (o.length)) hT rfl rfl (a0a rfl) rfl rfl) rfl rfl rfl rfl ?_
  refine zD 3 ?_
  refine zD 4 ?_
  refine a7k 5 rfl (by kernel_rfl) (a1l rfl rfl rfl rfl rfl) rfl (fun hg => a1Q (v := .one (.dv [95000] (a4d (o)))) (.inl rfl) (a2X (a0a rfl) rfl rfl)) rfl rfl rfl rfl ?_
  refine zDG 6 ?_
  refine zDG 7 ?_
  refine zDG 8 ?_
  refine zDG 9 ?_
  refine zDG 10 ?_
  refine zDG 11 ?_
  refine zDG 12 ?_
  refine zDG 13 ?_
  refine zDG 14 ?_
  refine zD 15 ?_
  refine a1R (by kernel_rfl) ?_
  refine z ?_
  refine yQ rfl (fun c2 => ?_) fun c2 => ?_
  ·have h8 := c2
   rw [Bool.and_eq_true, decide_eq_true_eq] at h8
   have hj2 : j < o.length := by omega
   have hst := c1x hj2 h8.2 hp
   iterate 3 refine z ?_
   refine a0j ?_
   iterate 3 refine z ?_
   refine a1j ?_
   iterate 2 refine z ?_
   refine ⟨j + 1, ?_, ?_, a0e ⟨rfl, rfl, rfl, rfl, rfl, trivial⟩ trivial ⟨rfl, trivial⟩ rfl⟩
   ·exact ⟨by omega, hst⟩
   ·omega
  ·iterate 5 refine z ?_
   refine a0p ?_
   refine a0p ?_
   refine a1o (oB := []) (oK := [95000]) (by kernel_rfl) rfl rfl ?_
   refine zD 0 ?_
   refine zD 1 ?_
   refine a1X 2 rfl (by kernel_rfl) rfl rfl (a3S (n := (o.length)) hT rfl rfl (a0a rfl) rfl rfl) rfl rfl rfl rfl ?_
   refine zD 3 ?_
   refine zD 4 ?_
   refine a7k 5 rfl (by kernel_rfl) (a1l rfl rfl rfl rfl rfl) rfl (fun hg => a1Q (v := .one (.dv [95000] (a4d (o)))) (.inl rfl) (a2X (a0a rfl) rfl rfl)) rfl rfl rfl rfl ?_
   refine zDG 6 ?_
   refine zDG 7 ?_
   refine zDG 8 ?_
   refine zDG 9 ?_
   refine zDG 10 ?_
   refine zDG 11 ?_
   refine zDG 12 ?_
   refine zDG 13 ?_
   refine zDG 14 ?_
   refine zD 15 ?_
   refine a1R (by kernel_rfl) ?_
   refine z ?_
   refine yQ rfl (fun c3 => ?_) fun c3 => ?_
   ·iterate 4 refine z ?_
    refine a0j ?_
    iterate 4 refine z ?_
    refine ⟨(i + 1, o), ?_, ?_, a0e ⟨rfl, rfl, rfl, rfl, trivial⟩ trivial ⟨rfl, trivial⟩ rfl⟩
    ·exact ⟨by dsimp only; omega, by rw [hs, a9P hi2, b9q hp c2 c3], by dsimp only; omega⟩
    ·dsimp only; omega
   ·iterate 2 refine z ?_
    refine a4G [0, 1, 2, 3, 4, 5, 6, 7, 8, 9, 10, 11, 12, 13, 14, 15, 16] (oB := []) (oK := [95000]) (by kernel_rfl) rfl rfl ?_
    refine b0W ?_
    refine a4y 1 rfl (by kernel_rfl) rfl rfl (a1Q (v := .one (.dv [95000] (a4d (o)))) (.inl rfl) (a2X (a0a rfl) rfl rfl)) rfl rfl rfl rfl ?_
    refine zN 2 ?_
    refine a4y 3 rfl (by kernel_rfl) rfl rfl (a8T hT rfl rfl rfl (a0a rfl) (a0a rfl) (fun _ => rfl) (by omega) (by omega)) rfl rfl rfl rfl ?_
    refine zN 5 ?_
    refine zN 6 ?_
    refine zN 7 ?_
    refine zN 8 ?_
    refine zN 9 ?_
    refine a4y 12 rfl (by kernel_rfl) rfl rfl (a1Q (v := .one (.dv [95000] (a4d (o)))) (.inl rfl) (a2X (a0a rfl) rfl rfl)) rfl rfl rfl rfl ?_
    refine zN 13 ?_
    refine a4y 14 rfl (by kernel_rfl) rfl rfl (b8m hT rfl rfl rfl (a0a rfl) (a0a rfl) (fun _ => rfl) (by omega) (by omega)) rfl rfl rfl rfl ?_
    refine a1J 0 [10] (by kernel_rfl) ⟨?_, ?_, trivial⟩
    ·refine a6v (k := 9050) 0 hT rfl rfl rfl rfl rfl rfl rfl rfl rfl rfl rfl rfl ?_
     refine a1J 4 [10] (by kernel_rfl) ⟨?_, ?_, trivial⟩
     ·refine a2T (k := 9050) (cs := (o.take j).flatMap a2G) (n := (o.take j).length) 4 hT rfl rfl rfl rfl rfl rfl rfl rfl (a0a rfl) rfl rfl rfl (a0a rfl) (a3e (fun _ => rfl) _) (by dsimp only [a0d]; simp only [c5t]; omega) (by dsimp only [a0d]; simp only [c5t]; omega) (Nat.zero_add _) (rfl) rfl rfl ?_
      simp only [a0i, a0h, SV.kill, CV.kill, kk, Nat.reduceBEq]
      refine a1J 10 [] (by kernel_rfl) ⟨?_, trivial⟩
      ·refine a8K (k := 9059) (js := []) 10 hT rfl rfl rfl rfl rfl rfl rfl rfl rfl rfl rfl rfl (a4V (a0a rfl) rfl rfl rfl a4Z) (a0o (a0C rfl) a1e rfl) (by decide) (by decide) rfl rfl rfl rfl rfl ?_
       simp only [a0i, a0h, SV.kill, CV.kill, kk, Nat.reduceBEq]
       refine a1J 11 [] (by kernel_rfl) ⟨?_, trivial⟩
       ·refine a2T (k := 9050) (cs := ((o.take j) ++ [(l.getD (i : Int).toNat default).2.1]).flatMap a2G) (n := ((o.take j) ++ [(l.getD (i : Int).toNat default).2.1]).length) (m := 1) (ds := [.str ((((l)).getD ((i : Int)).toNat default).2.1)]) 11 hT rfl rfl rfl rfl rfl rfl rfl rfl (a0a rfl) rfl rfl rfl (a2X (a0a rfl) rfl rfl) rfl (by dsimp only [a0d]; simp only [c5t]; omega) (by dsimp only [a0d]; simp only [c5t]; omega) (by simp) (by rw [List.flatMap_append]; rfl) rfl rfl ?_
        simp only [a0i, a0h, SV.kill, CV.kill, kk, Nat.reduceBEq]
        refine a1J 15 [] (by kernel_rfl) ⟨?_, trivial⟩
        ·refine a2T (k := 9050) (cs := ((o.take j) ++ (l.getD (i : Int).toNat default).2.1 :: o.drop j).flatMap a2G) (n := ((o.take j) ++ (l.getD (i : Int).toNat default).2.1 :: o.drop j).length) 15 hT rfl rfl rfl rfl rfl rfl rfl rfl (a0a rfl) rfl rfl rfl (a0a rfl) (a3e (fun _ => rfl) _) (by dsimp only [a0d]; simp only [c5s, c5t, List.length_drop, List.length_singleton]; omega) (by dsimp only [a0d]; simp only [c5s, c5t, List.length_drop, List.length_singleton]; omega) (by simp; omega) (by rw [← List.flatMap_append, List.append_assoc]; rfl) rfl rfl ?_
         simp only [a0i, a0h, SV.kill, CV.kill, kk, Nat.reduceBEq]
         refine zN 16 ?_
         refine b3p (by kernel_rfl) ?_
         iterate 2 refine z ?_
         refine a0j ?_
         iterate 4 refine z ?_
         refine ⟨(i + 1, (o.take j) ++ (l.getD (i : Int).toNat default).2.1 :: o.drop j), ?_, ?_, a3R (b1f (s := 3) (k := 9050) (k' := 95000) rfl rfl rfl (by simp) rfl) (a0e ⟨rfl, rfl, rfl, rfl, trivial⟩ trivial ⟨rfl, trivial⟩ rfl)⟩
         ·exact ⟨by dsimp only; omega, by rw [hs, a9P hi2, b2A hj hp c2 c3], by dsimp only; rw [c5s, List.length_cons, c5t, List.length_drop]; omega⟩
         ·dsimp only; omega
     ·refine a8K (k := 9059) (js := []) 10 hT rfl rfl rfl rfl rfl rfl rfl rfl rfl rfl rfl rfl (a4V (a0a rfl) rfl rfl rfl a4Z) (a0o (a0C rfl) a1e rfl) (by decide) (by decide) rfl rfl rfl rfl rfl ?_
      simp only [a0i, a0h, SV.kill, CV.kill, kk, Nat.reduceBEq]
      refine a1J 4 [] (by kernel_rfl) ⟨?_, trivial⟩
      ·refine a2T (k := 9050) (cs := (o.take j).flatMap a2G) (n := (o.take j).length) 4 hT rfl rfl rfl rfl rfl rfl rfl rfl (a0a rfl) rfl rfl rfl (a0a rfl) (a3e (fun _ => rfl) _) (by dsimp only [a0d]; simp only [c5t]; omega) (by dsimp only [a0d]; simp only [c5t]; omega) (Nat.zero_add _) (rfl) rfl rfl ?_
       simp only [a0i, a0h, SV.kill, CV.kill, kk, Nat.reduceBEq]
       refine a1J 11 [] (by kernel_rfl) ⟨?_, trivial⟩
       ·refine a2T (k := 9050) (cs := ((o.take j) ++ [(l.getD (i : Int).toNat default).2.1]).flatMap a2G) (n := ((o.take j) ++ [(l.getD (i : Int).toNat default).2.1]).length) (m := 1) (ds := [.str ((((l)).getD ((i : Int)).toNat default).2.1)]) 11 hT rfl rfl rfl rfl rfl rfl rfl rfl (a0a rfl) rfl rfl rfl (a2X (a0a rfl) rfl rfl) rfl (by dsimp only [a0d]; simp only [c5t]; omega) (by dsimp only [a0d]; simp only [c5t]; omega) (by simp) (by rw [List.flatMap_append]; rfl) rfl rfl ?_
        simp only [a0i, a0h, SV.kill, CV.kill, kk, Nat.reduceBEq]
        refine a1J 15 [] (by kernel_rfl) ⟨?_, trivial⟩
        ·refine a2T (k := 9050) (cs := ((o.take j) ++ (l.getD (i : Int).toNat default).2.1 :: o.drop j).flatMap a2G) (n := ((o.take j) ++ (l.getD (i : Int).toNat default).2.1 :: o.drop j).length) 15 hT rfl rfl rfl rfl rfl rfl rfl rfl (a0a rfl) rfl rfl rfl (a0a rfl) (a3e (fun _ => rfl) _) (by dsimp only [a0d]; simp only [c5s, c5t, List.length_drop, List.length_singleton]; omega) (by dsimp only [a0d]; simp only [c5s, c5t, List.length_drop, List.length_singleton]; omega) (by simp; omega) (by rw [← List.flatMap_append, List.append_assoc]; rfl) rfl rfl ?_
         simp only [a0i, a0h, SV.kill, CV.kill, kk, Nat.reduceBEq]
         refine zN 16 ?_
         refine b3p (by kernel_rfl) ?_
         iterate 2 refine z ?_
         refine a0j ?_
         iterate 4 refine z ?_
         refine ⟨(i + 1, (o.take j) ++ (l.getD (i : Int).toNat default).2.1 :: o.drop j), ?_, ?_, a3R (b1f (s := 3) (k := 9050) (k' := 95000) rfl rfl rfl (by simp) rfl) (a0e ⟨rfl, rfl, rfl, rfl, trivial⟩ trivial ⟨rfl, trivial⟩ rfl)⟩
         ·exact ⟨by dsimp only; omega, by rw [hs, a9P hi2, b2A hj hp c2 c3], by dsimp only; rw [c5s, List.length_cons, c5t, List.length_drop]; omega⟩
         ·dsimp only; omega
    ·refine a8K (k := 9059) (js := []) 10 hT rfl rfl rfl rfl rfl rfl rfl rfl rfl rfl rfl rfl (a4V (a0a rfl) rfl rfl rfl a4Z) (a0o (a0C rfl) a1e rfl) (by decide) (by decide) rfl rfl rfl rfl rfl ?_
     simp only [a0i, a0h, SV.kill, CV.kill, kk, Nat.reduceBEq]
     refine a1J 0 [] (by kernel_rfl) ⟨?_, trivial⟩
     ·refine a6v (k := 9050) 0 hT rfl rfl rfl rfl rfl rfl rfl rfl rfl rfl rfl rfl ?_
      refine a1J 4 [] (by kernel_rfl) ⟨?_, trivial⟩
      ·refine a2T (k := 9050) (cs := (o.take j).flatMap a2G) (n := (o.take j).length) 4 hT rfl rfl rfl rfl rfl rfl rfl rfl (a0a rfl) rfl rfl rfl (a0a rfl) (a3e (fun _ => rfl) _) (by dsimp only [a0d]; simp only [c5t]; omega) (by dsimp only [a0d]; simp only [c5t]; omega) (Nat.zero_add _) (rfl) rfl rfl ?_
       simp only [a0i, a0h, SV.kill, CV.kill, kk, Nat.reduceBEq]
       refine a1J 11 [] (by kernel_rfl) ⟨?_, trivial⟩
       ·refine a2T (k := 9050) (cs := ((o.take j) ++ [(l.getD (i : Int).toNat default).2.1]).flatMap a2G) (n := ((o.take j) ++ [(l.getD (i : Int).toNat default).2.1]).length) (m := 1) (ds := [.str ((((l)).getD ((i : Int)).toNat default).2.1)]) 11 hT rfl rfl rfl rfl rfl rfl rfl rfl (a0a rfl) rfl rfl rfl (a2X (a0a rfl) rfl rfl) rfl (by dsimp only [a0d]; simp only [c5t]; omega) (by dsimp only [a0d]; simp only [c5t]; omega) (by simp) (by rw [List.flatMap_append]; rfl) rfl rfl ?_
        simp only [a0i, a0h, SV.kill, CV.kill, kk, Nat.reduceBEq]
        refine a1J 15 [] (by kernel_rfl) ⟨?_, trivial⟩
        ·refine a2T (k := 9050) (cs := ((o.take j) ++ (l.getD (i : Int).toNat default).2.1 :: o.drop j).flatMap a2G) (n := ((o.take j) ++ (l.getD (i : Int).toNat default).2.1 :: o.drop j).length) 15 hT rfl rfl rfl rfl rfl rfl rfl rfl (a0a rfl) rfl rfl rfl (a0a rfl) (a3e (fun _ => rfl) _) (by dsimp only [a0d]; simp only [c5s, c5t, List.length_drop, List.length_singleton]; omega) (by dsimp only [a0d]; simp only [c5s, c5t, List.length_drop, List.length_singleton]; omega) (by simp; omega) (by rw [← List.flatMap_append, List.append_assoc]; rfl) rfl rfl ?_
         simp only [a0i, a0h, SV.kill, CV.kill, kk, Nat.reduceBEq]
         refine zN 16 ?_
         refine b3p (by kernel_rfl) ?_
         iterate 2 refine z ?_
         refine a0j ?_
         iterate 4 refine z ?_
         refine ⟨(i + 1, (o.take j) ++ (l.getD (i : Int).toNat default).2.1 :: o.drop j), ?_, ?_, a3R (b1f (s := 3) (k := 9050) (k' := 95000) rfl rfl rfl (by simp) rfl) (a0e ⟨rfl, rfl, rfl, rfl, trivial⟩ trivial ⟨rfl, trivial⟩ rfl)⟩
         ·exact ⟨by dsimp only; omega, by rw [hs, a9P hi2, b2A hj hp c2 c3], by dsimp only; rw [c5s, List.length_cons, c5t, List.length_drop]; omega⟩
         ·dsimp only; omega
 ·have d1 := c5q c1
  iterate 9 refine z ?_
  have hfin : a0V l = o := by rw [hs, List.drop_of_length_le (by omega)]; rfl
  rw [hfin]
  refine a0r (σ' := ⟨[(2, .one (.key 95000))], [], [(95000, some (a0d false (a4d (o))))]⟩) (a0e ⟨rfl, trivial⟩ trivial ⟨rfl, trivial⟩ rfl) ?_
  refine z ?_
  refine a1B (a0B rfl) ?_
  exact ⟨rfl, rfl⟩
def a1N (d : DbT) (ns : List Str) : List a0I := ns.flatMap fun n => if 0 ≤ a1U d n then [d.2.2.1.getD (a1U d n).toNat default] else []
def a5G (d : DbT) (q : List TxT) (i : Int) : List TxT × Bool := if a2Y q i = true then (q.set i.toNat ((q.getD i.toNat default).1, (q.getD i.toNat default).2.1, (q.getD i.toNat default).2.2.1, 1, a1N d (a0V (q.getD i.toNat default).2.1)), true) else (q, false)
theorem b0V (d : DbT) : ∀ ns : List Str, (a1N d ns).length ≤ ns.length
 | [] => Nat.le_refl _
 | n :: ns => by
  have ih := b0V d ns
  show (List.flatMap _ (n :: ns)).length ≤ _
  rw [List.flatMap_cons, c5s, List.length_cons]
  have : (List.flatMap (fun n => if 0 ≤ a1U d n then [d.2.2.1.getD (a1U d n).toNat default] else []) ns).length ≤ ns.length := ih
  split
  ·rw [List.length_singleton]; omega
  ·rw [List.length_nil]; omega
theorem b0K {d : DbT} {ns : List Str} {k : Nat} (h : k < ns.length) : a1N d (ns.take (k + 1)) = a1N d (ns.take k) ++ (if 0 ≤ a1U d (ns.getD (k : Int).toNat default) then [d.2.2.1.getD (a1U d (ns.getD (k : Int).toNat default)).toNat default] else []) := by
 unfold a1N
 rw [List.take_add_one, List.getElem?_eq_getElem h, List.flatMap_append, a4L h]
 simp
theorem b2M {l : List a0I} {j : Nat} (h : j < l.length) : a0v (l.getD j default) ≤ wSum a0v l := by
 have h1 := a1T a0v l j h
 rw [Int.toNat_natCast] at h1
 omega
theorem b1C {d : DbT} {q : List TxT} {i : Int} (h : a2Y q i = false) : a5G d q i = (q, false) := by unfold a5G; rw [if_neg (by rw [h]; decide)]
theorem b2g {d : DbT} {q : List TxT} {i : Int} {t : TxT} (ht : t = q.getD i.toNat default) (h : a2Y q i = true) : a5G d q i = (q.set i.toNat (t.1, t.2.1, t.2.2.1, 1, a1N d (a0V t.2.1)), true) := by unfold a5G; rw [if_pos h, ht]
theorem b2K {q : List TxT} {i : Int} (h : a2Y q i = true) : 0 ≤ i ∧ i < (q.length : Int) := by
 unfold a2Y at h
 simp only [Bool.and_eq_true, decide_eq_true_eq] at h
 exact h.1.1
theorem b3M {d : DbT} {q : List TxT} {i : Int} (hb : a1r d ≤ 549755813888) (hq : a0s wTx q ≤ 549755813888) : KFn Tryz.prog 38 [.agg [(.dv [] (.str (d.1))), (.dv [] (.int .i64 (d.2.1))), (.dv [] (a0k (d.2.2.1))), (.dv [] (a0A (d.2.2.2)))], .agg [(.dv [] (a0Z (q)))], .one (.dv [] (.int .i64 (i)))] (.tup [(true, [(.key 95031)]), (false, [(.dv [] (.bool ((a5G d q i).2)))])]) [(95031, some (a0d false (a0Z ((a5G d q i).1))))] := by
 refine ⟨a0u Tryz.func38 rfl Tryz.ntmps38 Tryz.results38 rfl (fun C => ?_)⟩
 have hwq : a0s wTx q = q.length + wSum wTx q := rfl
 obtain ⟨t, ht⟩ : ∃ t, t = q.getD i.toNat default := ⟨_, rfl⟩
 have hwt : wTx t = a0s wOp t.2.1 + a0s a0v t.2.2.2.2 := rfl
 have hwo : a0s wOp t.2.1 = t.2.1.length + wSum wOp t.2.1 := rfl
 have hwd : a1r d = d.1.size + a0s a0v d.2.2.1 + a0s a1m d.2.2.2 := rfl
 have hws0 : a0s a0v d.2.2.1 = d.2.2.1.length + wSum a0v d.2.2.1 := rfl
 refine yF 0 0 rfl rfl fun f0_0 => ?_
 refine yF 0 1 rfl rfl fun f0_1 => ?_
 refine yF 0 2 rfl rfl fun f0_2 => ?_
 refine yF 0 3 rfl rfl fun f0_3 => ?_
 refine yF 1 0 rfl rfl fun f1_0 => ?_
 refine a0G (x := .tmp 2) (a0a rfl) fun f2 => ?_
 iterate 8 refine z ?_
 refine zK 95000 Tryz.call34 ?_ (hf := b3j (x := q) (by omega))
 iterate 7 refine z ?_
 refine zC Tryz.call37 ?_ (hf := b5p (q := q) (i := i) )
 iterate 2 refine z ?_
 refine yQ rfl (fun c1 => ?_) fun c1 => ?_
 ·have hcan : a2Y q i = false := by simpa using c1
  iterate 5 refine z ?_
  rw [b1C hcan]
  refine a0r (σ' := ⟨[(6, .box 6 0), (7, .one (.dv [] (.bool (false))))], [(6, 38, [(.key 95031)])], [(95031, some (a0d false (a0Z (q))))]⟩) (a0e ⟨rfl, rfl, trivial⟩ ⟨rfl, trivial⟩ ⟨rfl, trivial⟩ rfl) ?_
  iterate 2 refine z ?_
  refine a1W (a0K hT rfl rfl rfl rfl) (a0B rfl) rfl rfl ?_
  first | exact ⟨rfl, rfl⟩ | skip
 ·have hcan : a2Y q i = true := by simpa using c1
  have hcb := b2K hcan
  have hit : i.toNat < q.length := by omega
  have htw := b0e hit ht
  have hsl := b2e t.2.1
  refine a5g (k := 95031) (cs' := mid ((q.take (i).toNat).flatMap eTx) [.int .i64 (t.1), a0F (t.2.1), .int .i64 (t.2.2.1), .int .i64 (t.2.2.2.1), a0k (t.2.2.2.2)] ((q.drop ((i).toNat + 1)).flatMap eTx)) rfl (b0O hit ht) ?_
  iterate 6 refine z ?_
  refine yO rfl rfl (a1q (i := (i).toNat) hT rfl rfl rfl (a0a rfl) rfl (a0a rfl) (by omega) (by show _ < (((q)).length); omega)) rfl ?_
  iterate 4 refine z ?_
  refine yO rfl rfl (a2R rfl (a0a rfl)) rfl ?_
  refine z ?_
  refine a1u (js := []) (cs := mid ((q.take (i).toNat).flatMap eTx) [.int .i64 (t.1), a0F (t.2.1), .int .i64 (t.2.2.1), .int .i64 (1), a0k (t.2.2.2.2)] ((q.drop ((i).toNat + 1)).flatMap eTx)) hT rfl rfl rfl rfl (a0a rfl) (a0y (a0w rfl)) rfl rfl rfl rfl (a0o (a0C rfl) a1e rfl) (by decide) (by decide) rfl (a2a (off := ((i).toNat * 5 + 3)) (n := 1) (j := 3) (a1h (sz := 5) (fun _ => rfl) (Nat.le_of_lt hit)) (by omega) (Nat.le_of_ble_eq_true rfl)) (a1S (off := ((i).toNat * 5 + 3)) (j := 3) (a1h (sz := 5) (fun _ => rfl) (Nat.le_of_lt hit)) (by omega) rfl (Nat.le_of_ble_eq_true rfl)) ?_
  simp only [a0i, a0h, SV.kill, CV.kill, kk, Nat.reduceBEq]
  iterate 3 refine z ?_
  refine yO rfl rfl (a2R rfl (a0a rfl)) rfl ?_
  refine z ?_
  refine a1u (js := []) (cs := mid ((q.take (i).toNat).flatMap eTx) [.int .i64 (t.1), a0F (t.2.1), .int .i64 (t.2.2.1), .int .i64 (1), .sl 89 3 0 []] ((q.drop ((i).toNat + 1)).flatMap eTx)) hT rfl rfl rfl rfl (a0a rfl) a0O rfl rfl rfl rfl (a0o (a7P (e := 89) (sz := 3) rfl) a1e rfl) (by decide) (by decide) rfl (a2a (off := ((i).toNat * 5 + 4)) (n := 1) (j := 4) (a1h (sz := 5) (fun _ => rfl) (Nat.le_of_lt hit)) (by omega) (Nat.le_of_ble_eq_true rfl)) (a1S (off := ((i).toNat * 5 + 4)) (j := 4) (a1h (sz := 5) (fun _ => rfl) (Nat.le_of_lt hit)) (by omega) rfl (Nat.le_of_ble_eq_true rfl)) ?_
  simp only [a0i, a0h, SV.kill, CV.kill, kk, Nat.reduceBEq]
  iterate 4 refine z ?_
  refine yO rfl rfl (a2R rfl (a0a rfl)) rfl ?_
  refine z ?_
  refine yO rfl rfl (a3a hT rfl rfl (a0a rfl) rfl (a2m (off := ((i).toNat * 5 + 1)) (j := 1) (a1h (sz := 5) (fun _ => rfl) (Nat.le_of_lt hit)) (by omega) rfl)) rfl ?_
  refine zK 0 Tryz.call76 ?_ (hf := c1L (l := t.2.1) (by omega))
  refine yO rfl rfl (a3S (n := ((a0V (t.2.1))).length) hT rfl rfl (a0a rfl) rfl rfl) rfl ?_
  iterate 3 refine z ?_
  refine a0r (c3T (d := 34) (dd := a4d (a0V t.2.1)) rfl rfl (.refl _)) ?_
  refine a0W (ι := Nat) (fun zz => ⟨[(3, .box 3 0), (6, .box 6 0), (7, .one (.dv [] (.bool (false)))), (8, .box 8 0), (9, .eptr 95031 ((i).toNat * 5)), (34, .one (.dv [95000] (a4d (a0V t.2.1)))), (35, .one (.dv [] (.int .i64 ((((a0V (t.2.1))).length : Int))))), (36, .one (.dv [] (.int .i64 ((zz : Int)))))], [(3, 35, [(.dv [] (.str (d.1))), (.dv [] (.int .i64 (d.2.1))), (.dv [] (a0k (d.2.2.1))), (.dv [] (a0A (d.2.2.2)))]), (6, 38, [.nil]), (8, 38, [(.key 95031)])], [(95031, some (a0d false (.sl 63 5 (q.length) (mid ((q.take (i).toNat).flatMap eTx) [.int .i64 (t.1), a0F (t.2.1), .int .i64 (t.2.2.1), .int .i64 (1), a0k ((a1N d ((a0V t.2.1).take zz)))] ((q.drop ((i).toNat + 1)).flatMap eTx))))), (95000, some (a0d false (a4d (a0V (t.2.1)))))]⟩) (fun zz => zz ≤ (a0V t.2.1).length) (fun zz => (a0V t.2.1).length - zz) (0) ?_ (a0e ⟨rfl, rfl, rfl, rfl, rfl, rfl, rfl, rfl, trivial⟩ ⟨rfl, rfl, rfl, trivial⟩ ⟨rfl, rfl, trivial⟩ rfl) (fun zz hx => ?_)
  ·exact Nat.zero_le _
  obtain ⟨k, rfl⟩ : ∃ v, v = zz := ⟨_, rfl⟩
  replace hx : k ≤ (a0V t.2.1).length := hx
  show Ok _ _ _ _ _ (⟨[(3, .box 3 0), (6, .box 6 0), (7, .one (.dv [] (.bool (false)))), (8, .box 8 0), (9, .eptr 95031 ((i).toNat * 5)), (34, .one (.dv [95000] (a4d (a0V t.2.1)))), (35, .one (.dv [] (.int .i64 ((((a0V (t.2.1))).length : Int))))), (36, .one (.dv [] (.int .i64 ((k : Int)))))], [(3, 35, [(.dv [] (.str (d.1))), (.dv [] (.int .i64 (d.2.1))), (.dv [] (a0k (d.2.2.1))), (.dv [] (a0A (d.2.2.2)))]), (6, 38, [.nil]), (8, 38, [(.key 95031)])], [(95031, some (a0d false (.sl 63 5 (q.length) (mid ((q.take (i).toNat).flatMap eTx) [.int .i64 (t.1), a0F (t.2.1), .int .i64 (t.2.2.1), .int .i64 (1), a0k ((a1N d ((a0V t.2.1).take k)))] ((q.drop ((i).toNat + 1)).flatMap eTx))))), (95000, some (a0d false (a4d (a0V (t.2.1)))))]⟩ : St)
  iterate 3 refine z ?_
  refine a0p ?_
  refine yQ rfl (fun c2 => ?_) fun c2 => ?_
  ·have d2 := c5p c2
   have hn2 : k < (a0V t.2.1).length := by omega
   have hbl := b0V d ((a0V t.2.1).take k)
   rw [c5t] at hbl
   iterate 12 refine z ?_
   refine zC Tryz.call71 ?_ (hf := a8Q (x := d) (n := ((a0V t.2.1).getD (k : Int).toNat default)))
   iterate 6 refine z ?_
   refine yQ rfl (fun c3 => ?_) fun c3 => ?_
   ·have d3 := c5p c3
    have hlt : (a0q (a0D ((a0V t.2.1).getD (k : Int).toNat default)) d.2.2.1 0) < d.2.2.1.length := a5L d ((a0V t.2.1).getD (k : Int).toNat default)
    have hkn : (a0q (a0D ((a0V t.2.1).getD (k : Int).toNat default)) d.2.2.1 0).toNat < d.2.2.1.length := by omega
    have hws := b2M hkn
    have hbs := b0K (d := d) hn2
    rw [if_pos (show 0 ≤ a1U d ((a0V t.2.1).getD (k : Int).toNat default) from d3)] at hbs
    refine b3E 95031 [0, 1, 2, 3, 4, 5, 6, 7, 8, 9, 10, 11, 12, 13, 14] (oB := [3, 6, 8]) (oK := [95000]) (by kernel_rfl) rfl rfl rfl ?_
    refine a2k 0 rfl (by kernel_rfl) rfl rfl (a1Q (.inl rfl) (a0a rfl)) rfl rfl rfl rfl ?_
    refine a2k 1 rfl (by kernel_rfl) rfl rfl (a1Q (.inl rfl) (a0a rfl)) rfl rfl rfl rfl ?_
    refine a2k 2 rfl (by kernel_rfl) rfl rfl (a2R rfl (a0a rfl)) rfl rfl rfl rfl ?_
    refine a2k 3 rfl (by kernel_rfl) rfl rfl (a6d hT rfl rfl rfl (a0a rfl)) rfl rfl rfl rfl ?_
    refine a2k 5 rfl (by kernel_rfl) rfl rfl (a4S hT rfl rfl rfl (a0a rfl)) rfl rfl rfl rfl ?_
    refine a2k 6 rfl (by kernel_rfl) rfl rfl (a3C hT rfl rfl (a0a rfl) rfl rfl) rfl rfl rfl rfl ?_
    refine a2k 7 rfl (by kernel_rfl) rfl rfl (a1Q (.inl rfl) (a0a rfl)) rfl rfl rfl rfl ?_
    refine a2k 8 rfl (by kernel_rfl) rfl rfl (a4t hT rfl rfl rfl (a0a rfl) (a0a rfl) (fun _ => rfl) (by omega) (by omega)) rfl rfl rfl rfl ?_
    refine a2k 9 rfl (by kernel_rfl) rfl rfl (a7p hT rfl rfl (a0a rfl) rfl) rfl rfl rfl rfl ?_
    refine a3x 4 [10] (by kernel_rfl) ⟨?_, ?_, trivial⟩
    ·refine a8p 4 rfl rfl rfl (a3a hT rfl rfl (a0a rfl) rfl (a2m (off := ((i).toNat * 5 + 4)) (j := 4) (a1h (sz := 5) (fun _ => rfl) (Nat.le_of_lt hit)) (by omega) rfl)) rfl rfl rfl rfl rfl ?_
     refine a3x 10 [] (by kernel_rfl) ⟨?_, trivial⟩
     ·refine a9Y 96970 10 rfl rfl rfl rfl Tryz.call66 (a5c (x := (d.2.2.1.getD (a0q (a0D ((a0V t.2.1).getD (k : Int).toNat default)) d.2.2.1 0).toNat default)) (by omega)) (a0f (a0a rfl) (a0l (a0c a0b (a0c a0b (a0c a0b a0m)))) a0n) rfl rfl rfl rfl rfl rfl ?_
      refine a3x 11 [] (by kernel_rfl) ⟨?_, trivial⟩
      ·refine a8s (k := 56) (js := [97000]) 11 hT rfl rfl rfl rfl rfl rfl rfl rfl rfl rfl rfl rfl (a4V (a0a rfl) rfl rfl rfl a4Z) (a0o (a0C rfl) (a0o (a1Y rfl) (a0o (a0C rfl) a1e rfl) rfl) rfl) (by decide) (by decide) rfl rfl rfl rfl rfl ?_
       simp only [a0i, a0h, SV.kill, CV.kill, kk, Nat.reduceBEq]
       refine a3x 12 [] (by kernel_rfl) ⟨?_, trivial⟩
       ·refine a7Y (t := 49) (j := 56) (ccs := mid ((q.take (i).toNat).flatMap eTx) [.int .i64 (t.1), a0F (t.2.1), .int .i64 (t.2.2.1), .int .i64 (1), .hole] ((q.drop ((i).toNat + 1)).flatMap eTx)) (n2 := (a1N d ((a0V t.2.1).take (k + 1))).length) (cs2 := (a1N d ((a0V t.2.1).take (k + 1))).flatMap a0U) 98000 12 hT rfl rfl rfl rfl rfl rfl rfl rfl rfl rfl (a2m (off := ((i).toNat * 5 + 4)) (j := 4) (a1h (sz := 5) (fun _ => rfl) (Nat.le_of_lt hit)) (by omega) rfl) rfl (a5l (off := ((i).toNat * 5 + 4)) (j := 4) (a1h (sz := 5) (fun _ => rfl) (Nat.le_of_lt hit)) (by omega) rfl (Nat.lt_of_lt_of_le (Nat.lt_succ_self _) (Nat.le_of_ble_eq_true rfl))) (a0a rfl) rfl rfl rfl (by dsimp only [a0d]; omega) (by dsimp only [a0d]; omega) (by rw [hbs, c5s]; rfl) (by rw [hbs, List.flatMap_append]; rfl) rfl rfl ?_
        simp only [a0i, a0h, SV.kill, CV.kill, kk, Nat.reduceBEq]
        refine a2k 13 rfl (by kernel_rfl) rfl rfl (a2R rfl (a0a rfl)) rfl rfl rfl rfl ?_
        refine a2k 14 rfl (by kernel_rfl) rfl rfl (a6d hT rfl rfl rfl (a0a rfl)) rfl rfl rfl rfl ?_
        refine a8J [15] rfl rfl (by kernel_rfl) ?_
        refine a1u (js := [98000]) (cs := mid ((q.take (i).toNat).flatMap eTx) [.int .i64 (t.1), a0F (t.2.1), .int .i64 (t.2.2.1), .int .i64 (1), .sl 89 3 ((a1N d ((a0V t.2.1).take (k + 1))).length) ((a1N d ((a0V t.2.1).take (k + 1))).flatMap a0U)] ((q.drop ((i).toNat + 1)).flatMap eTx)) hT rfl rfl rfl rfl (a0a rfl) (a0a rfl) rfl rfl rfl rfl (a0o (a1Y rfl) a1e rfl) (by decide) (by decide) rfl (a2a (off := ((i).toNat * 5 + 4)) (n := 1) (j := 4) (a1h (sz := 5) (fun _ => rfl) (Nat.le_of_lt hit)) (by omega) (Nat.le_of_ble_eq_true rfl)) (a1S (off := ((i).toNat * 5 + 4)) (j := 4) (a1h (sz := 5) (fun _ => rfl) (Nat.le_of_lt hit)) (by omega) rfl (Nat.le_of_ble_eq_true rfl)) ?_
        simp only [a0i, a0h, SV.kill, CV.kill, kk, Nat.reduceBEq]
        refine a1j ?_
        iterate 2 refine z ?_
        refine a0j ?_
        iterate 3 refine z ?_
        refine ⟨k + 1, ?_, ?_, a0e ⟨rfl, rfl, rfl, rfl, rfl, rfl, rfl, rfl, trivial⟩ ⟨rfl, rfl, rfl, trivial⟩ ⟨rfl, rfl, trivial⟩ rfl⟩
        ·omega
        ·omega
    ·refine a9Y 96970 10 rfl rfl rfl rfl Tryz.call66 (a5c (x := (d.2.2.1.getD (a0q (a0D ((a0V t.2.1).getD (k : Int).toNat default)) d.2.2.1 0).toNat default)) (by omega)) (a0f (a0a rfl) (a0l (a0c a0b (a0c a0b (a0c a0b a0m)))) a0n) rfl rfl rfl rfl rfl rfl ?_
     refine a3x 4 [11] (by kernel_rfl) ⟨?_, ?_, trivial⟩
     ·refine a8p 4 rfl rfl rfl (a3a hT rfl rfl (a0a rfl) rfl (a2m (off := ((i).toNat * 5 + 4)) (j := 4) (a1h (sz := 5) (fun _ => rfl) (Nat.le_of_lt hit)) (by omega) rfl)) rfl rfl rfl rfl rfl ?_
      refine a3x 11 [] (by kernel_rfl) ⟨?_, trivial⟩
      ·refine a8s (k := 56) (js := [97000]) 11 hT rfl rfl rfl rfl rfl rfl rfl rfl rfl rfl rfl rfl (a4V (a0a rfl) rfl rfl rfl a4Z) (a0o (a0C rfl) (a0o (a1Y rfl) (a0o (a0C rfl) a1e rfl) rfl) rfl) (by decide) (by decide) rfl rfl rfl rfl rfl ?_
       simp only [a0i, a0h, SV.kill, CV.kill, kk, Nat.reduceBEq]
       refine a3x 12 [] (by kernel_rfl) ⟨?_, trivial⟩
       ·refine a7Y (t := 49) (j := 56) (ccs := mid ((q.take (i).toNat).flatMap eTx) [.int .i64 (t.1), a0F (t.2.1), .int .i64 (t.2.2.1), .int .i64 (1), .hole] ((q.drop ((i).toNat + 1)).flatMap eTx)) (n2 := (a1N d ((a0V t.2.1).take (k + 1))).length) (cs2 := (a1N d ((a0V t.2.1).take (k + 1))).flatMap a0U) 98000 12 hT rfl rfl rfl rfl rfl rfl rfl rfl rfl rfl (a2m (off := ((i).toNat * 5 + 4)) (j := 4) (a1h (sz := 5) (fun _ => rfl) (Nat.le_of_lt hit)) (by omega) rfl) rfl (a5l (off := ((i).toNat * 5 + 4)) (j := 4) (a1h (sz := 5) (fun _ => rfl) (Nat.le_of_lt hit)) (by omega) rfl (Nat.lt_of_lt_of_le (Nat.lt_succ_self _) (Nat.le_of_ble_eq_true rfl))) (a0a rfl) rfl rfl rfl (by dsimp only [a0d]; omega) (by dsimp only [a0d]; omega) (by rw [hbs, c5s]; rfl) (by rw [hbs, List.flatMap_append]; rfl) rfl rfl ?_
        simp only [a0i, a0h, SV.kill, CV.kill, kk, Nat.reduceBEq]
        refine a2k 13 rfl (by kernel_rfl) rfl rfl (a2R rfl (a0a rfl)) rfl rfl rfl rfl ?_
        refine a2k 14 rfl (by kernel_rfl) rfl rfl (a6d hT rfl rfl rfl (a0a rfl)) rfl rfl rfl rfl ?_
        refine a8J [15] rfl rfl (by kernel_rfl) ?_
        refine a1u (js := [98000]) (cs := mid ((q.take (i).toNat).flatMap eTx) [.int .i64 (t.1), a0F (t.2.1), .int .i64 (t.2.2.1), .int .i64 (1), .sl 89 3 ((a1N d ((a0V t.2.1).take (k + 1))).length) ((a1N d ((a0V t.2.1).take (k + 1))).flatMap a0U)] ((q.drop ((i).toNat + 1)).flatMap eTx)) hT rfl rfl rfl rfl (a0a rfl) (a0a rfl) rfl rfl rfl rfl (a0o (a1Y rfl) a1e rfl) (by decide) (by decide) rfl (a2a (off := ((i).toNat * 5 + 4)) (n := 1) (j := 4) (a1h (sz := 5) (fun _ => rfl) (Nat.le_of_lt hit)) (by omega) (Nat.le_of_ble_eq_true rfl)) (a1S (off := ((i).toNat * 5 + 4)) (j := 4) (a1h (sz := 5) (fun _ => rfl) (Nat.le_of_lt hit)) (by omega) rfl (Nat.le_of_ble_eq_true rfl)) ?_
        simp only [a0i, a0h, SV.kill, CV.kill, kk, Nat.reduceBEq]
        refine a1j ?_
        iterate 2 refine z ?_
        refine a0j ?_
        iterate 3 refine z ?_
        refine ⟨k + 1, ?_, ?_, a0e ⟨rfl, rfl, rfl, rfl, rfl, rfl, rfl, rfl, trivial⟩ ⟨rfl, rfl, rfl, trivial⟩ ⟨rfl, rfl, trivial⟩ rfl⟩
        ·omega
        ·omega
     ·refine a8s (k := 56) (js := [97000]) 11 hT rfl rfl rfl rfl rfl rfl rfl rfl rfl rfl rfl rfl (a4V (a0a rfl) rfl rfl rfl a4Z) (a0o (a0C rfl) (a0o (a1Y rfl) (a0o (a0C rfl) a1e rfl) rfl) rfl) (by decide) (by decide) rfl rfl rfl rfl rfl ?_
      simp only [a0i, a0h, SV.kill, CV.kill, kk, Nat.reduceBEq]
      refine a3x 4 [] (by kernel_rfl) ⟨?_, trivial⟩
      ·refine a8p 4 rfl rfl rfl (a3a hT rfl rfl (a0a rfl) rfl (a2m (off := ((i).toNat * 5 + 4)) (j := 4) (a1h (sz := 5) (fun _ => rfl) (Nat.le_of_lt hit)) (by omega) rfl)) rfl rfl rfl rfl rfl ?_
       refine a3x 12 [] (by kernel_rfl) ⟨?_, trivial⟩
       ·refine a7Y (t := 49) (j := 56) (ccs := mid ((q.take (i).toNat).flatMap eTx) [.int .i64 (t.1), a0F (t.2.1), .int .i64 (t.2.2.1), .int .i64 (1), .hole] ((q.drop ((i).toNat + 1)).flatMap eTx)) (n2 := (a1N d ((a0V t.2.1).take (k + 1))).length) (cs2 := (a1N d ((a0V t.2.1).take (k + 1))).flatMap a0U) 98000 12 hT rfl rfl rfl rfl rfl rfl rfl rfl rfl rfl (a2m (off := ((i).toNat * 5 + 4)) (j := 4) (a1h (sz := 5) (fun _ => rfl) (Nat.le_of_lt hit)) (by omega) rfl) rfl (a5l (off := ((i).toNat * 5 + 4)) (j := 4) (a1h (sz := 5) (fun _ => rfl) (Nat.le_of_lt hit)) (by omega) rfl (Nat.lt_of_lt_of_le (Nat.lt_succ_self _) (Nat.le_of_ble_eq_true rfl))) (a0a rfl) rfl rfl rfl (by dsimp only [a0d]; omega) (by dsimp only [a0d]; omega) (by rw [hbs, c5s]; rfl) (by rw [hbs, List.flatMap_append]; rfl) rfl rfl ?_
        simp only [a0i, a0h, SV.kill, CV.kill, kk, Nat.reduceBEq]
        refine a2k 13 rfl (by kernel_rfl) rfl rfl (a2R rfl (a0a rfl)) rfl rfl rfl rfl ?_
        refine a2k 14 rfl (by kernel_rfl) rfl rfl (a6d hT rfl rfl rfl (a0a rfl)) rfl rfl rfl rfl ?_
        refine a8J [15] rfl rfl (by kernel_rfl) ?_
        refine a1u (js := [98000]) (cs := mid ((q.take (i).toNat).flatMap eTx) [.int .i64 (t.1), a0F (t.2.1), .int .i64 (t.2.2.1), .int .i64 (1), .sl 89 3 ((a1N d ((a0V t.2.1).take (k + 1))).length) ((a1N d ((a0V t.2.1).take (k + 1))).flatMap a0U)] ((q.drop ((i).toNat + 1)).flatMap eTx)) hT rfl rfl rfl rfl (a0a rfl) (a0a rfl) rfl rfl rfl rfl (a0o (a1Y rfl) a1e rfl) (by decide) (by decide) rfl (a2a (off := ((i).toNat * 5 + 4)) (n := 1) (j := 4) (a1h (sz := 5) (fun _ => rfl) (Nat.le_of_lt hit)) (by omega) (Nat.le_of_ble_eq_true rfl)) (a1S (off := ((i).toNat * 5 + 4)) (j := 4) (a1h (sz := 5) (fun _ => rfl) (Nat.le_of_lt hit)) (by omega) rfl (Nat.le_of_ble_eq_true rfl)) ?_
        simp only [a0i, a0h, SV.kill, CV.kill, kk, Nat.reduceBEq]
        refine a1j ?_
        iterate 2 refine z ?_
        refine a0j ?_
        iterate 3 refine z ?_
        refine ⟨k + 1, ?_, ?_, a0e ⟨rfl, rfl, rfl, rfl, rfl, rfl, rfl, rfl, trivial⟩ ⟨rfl, rfl, rfl, trivial⟩ ⟨rfl, rfl, trivial⟩ rfl⟩
        ·omega
        ·omega
   ·have d3 := c5q c3
    have hbs := b0K (d := d) hn2
    rw [if_neg (show ¬ 0 ≤ a1U d ((a0V t.2.1).getD (k : Int).toNat default) from d3), List.append_nil] at hbs
    iterate 3 refine z ?_
    refine a0j ?_
    iterate 3 refine z ?_
    refine ⟨k + 1, ?_, ?_, a0e ⟨rfl, rfl, rfl, rfl, rfl, rfl, rfl, rfl, trivial⟩ ⟨rfl, rfl, rfl, trivial⟩ ⟨(congrArg (fun z => some (some (KC.mk false 63 5 q.length (mid ((q.take (i).toNat).flatMap eTx) [.int .i64 (t.1), a0F (t.2.1), .int .i64 (t.2.2.1), .int .i64 (1), a0k (z)] ((q.drop ((i).toNat + 1)).flatMap eTx))))) hbs.symm), rfl, trivial⟩ rfl⟩
    ·omega
    ·omega
  ·have d2 := c5q c2
   iterate 10 refine z ?_
   have hall : (a0V t.2.1).take k = (a0V t.2.1) := List.take_of_length_le (by omega)
   rw [b2g ht hcan]
   refine a0r (σ' := ⟨[(6, .box 6 0), (7, .one (.dv [] (.bool (true))))], [(6, 38, [(.key 95031)])], [(95031, some (a0d false (a0Z (q.set (i).toNat (t.1, t.2.1, t.2.2.1, (1 : Int), a1N d (a0V t.2.1))))))]⟩) (a0e ⟨rfl, rfl, trivial⟩ ⟨rfl, trivial⟩ ⟨(by rw [hall]; exact (a5s hit (t.1, t.2.1, t.2.2.1, (1 : Int), a1N d (a0V t.2.1)))), trivial⟩ rfl) ?_
   refine z ?_
   refine a1W (a0K hT rfl rfl rfl rfl) (a0B rfl) rfl rfl ?_
   first | exact ⟨rfl, rfl⟩ | skip
theorem b7M {d : DbT} {q : List TxT} {i : Int} (hb : a1r d ≤ 549755813888) (hq : a0s wTx q ≤ 549755813888) : KFn Tryz.prog 27 [.agg [(.dv [] (.str (d.1))), (.dv [] (.int .i64 (d.2.1))), (.dv [] (a0k (d.2.2.1))), (.dv [] (a0A (d.2.2.2)))], .agg [(.dv [] (a0Z (q)))], .one (.dv [] (.int .i64 (i)))] (.tup [(true, [(.key 95031)]), (false, [(.dv [] (.bool ((a5G d q i).2)))])]) [(95031, some (a0d false (a0Z ((a5G d q i).1))))] := by
 refine ⟨a0u Tryz.func27 rfl Tryz.ntmps27 Tryz.results27 rfl (fun C => ?_)⟩
 have hwq : a0s wTx q = q.length + wSum wTx q := rfl
 obtain ⟨t, ht⟩ : ∃ t, t = q.getD i.toNat default := ⟨_, rfl⟩
 have hwt : wTx t = a0s wOp t.2.1 + a0s a0v t.2.2.2.2 := rfl
 have hwo : a0s wOp t.2.1 = t.2.1.length + wSum wOp t.2.1 := rfl
 have hwd : a1r d = d.1.size + a0s a0v d.2.2.1 + a0s a1m d.2.2.2 := rfl
 have hws0 : a0s a0v d.2.2.1 = d.2.2.1.length + wSum a0v d.2.2.1 := rfl
 refine yF 0 0 rfl rfl fun f0_0 => ?_
 refine yF 0 1 rfl rfl fun f0_1 => ?_
 refine yF 0 2 rfl rfl fun f0_2 => ?_
 refine yF 0 3 rfl rfl fun f0_3 => ?_
 refine yF 1 0 rfl rfl fun f1_0 => ?_
 refine a0G (x := .tmp 2) (a0a rfl) fun f2 => ?_
 iterate 8 refine z ?_
 refine zK 95000 Tryz.call23 ?_ (hf := b2R (x := q) (by omega))
 iterate 7 refine z ?_
 refine zC Tryz.call26 ?_ (hf := b4i (q := q) (i := i) )
 iterate 2 refine z ?_
 refine yQ rfl (fun c1 => ?_) fun c1 => ?_
 ·have hcan : a2Y q i = false := by simpa using c1
  iterate 5 refine z ?_
  rw [b1C hcan]
  refine a0r (σ' := ⟨[(6, .box 6 0), (7, .one (.dv [] (.bool (false))))], [(6, 38, [(.key 95031)])], [(95031, some (a0d false (a0Z (q))))]⟩) (a0e ⟨rfl, rfl, trivial⟩ ⟨rfl, trivial⟩ ⟨rfl, trivial⟩ rfl) ?_
  iterate 2 refine z ?_
  refine a1W (a0K hT rfl rfl rfl rfl) (a0B rfl) rfl rfl ?_
  first | exact ⟨rfl, rfl⟩ | skip
 ·have hcan : a2Y q i = true := by simpa using c1
  have hcb := b2K hcan
  have hit : i.toNat < q.length := by omega
  have htw := b0e hit ht
  have hsl := b2e t.2.1
  have hSQ : (a0V (q.getD (i).toNat default).2.1) = (a0V t.2.1) := by rw [ht]
  rw [← hSQ] at hsl
  refine a5g (k := 95031) (cs' := mid ((q.take (i).toNat).flatMap eTx) [.int .i64 (t.1), a0F (t.2.1), .int .i64 (t.2.2.1), .int .i64 (t.2.2.2.1), a0k (t.2.2.2.2)] ((q.drop ((i).toNat + 1)).flatMap eTx)) rfl (b0O hit ht) ?_
  iterate 6 refine z ?_
  refine yO rfl rfl (a1q (i := (i).toNat) hT rfl rfl rfl (a0a rfl) rfl (a0a rfl) (by omega) (by show _ < (((q)).length); omega)) rfl ?_
  refine z ?_
  refine a1u (js := []) (cs := mid ((q.take (i).toNat).flatMap eTx) [.int .i64 (t.1), a0F (t.2.1), .int .i64 (t.2.2.1), .int .i64 (1), a0k (t.2.2.2.2)] ((q.drop ((i).toNat + 1)).flatMap eTx)) hT rfl rfl rfl rfl (a0a rfl) (a0y (a0w rfl)) rfl rfl rfl rfl (a0o (a0C rfl) a1e rfl) (by decide) (by decide) rfl (a2a (off := ((i).toNat * 5 + 3)) (n := 1) (j := 3) (a1h (sz := 5) (fun _ => rfl) (Nat.le_of_lt hit)) (by omega) (Nat.le_of_ble_eq_true rfl)) (a1S (off := ((i).toNat * 5 + 3)) (j := 3) (a1h (sz := 5) (fun _ => rfl) (Nat.le_of_lt hit)) (by omega) rfl (Nat.le_of_ble_eq_true rfl)) ?_
  simp only [a0i, a0h, SV.kill, CV.kill, kk, Nat.reduceBEq]
  iterate 5 refine z ?_
  refine a5b (k := 96000) hT rfl rfl rfl rfl rfl rfl rfl rfl ?_
  refine yO rfl rfl (a1q (i := (i).toNat) hT rfl rfl rfl (a0a rfl) rfl (a0a rfl) (by omega) (by show _ < (((q)).length); omega)) rfl ?_
  refine z ?_
  refine a1u (js := [96000]) (cs := mid ((q.take (i).toNat).flatMap eTx) [.int .i64 (t.1), a0F (t.2.1), .int .i64 (t.2.2.1), .int .i64 (1), .sl 89 3 (0) ([])] ((q.drop ((i).toNat + 1)).flatMap eTx)) hT rfl rfl rfl rfl (a0a rfl) (a0a rfl) rfl rfl rfl rfl (a0o (a1Y rfl) a1e rfl) (by decide) (by decide) rfl (a2a (off := ((i).toNat * 5 + 4)) (n := 1) (j := 4) (a1h (sz := 5) (fun _ => rfl) (Nat.le_of_lt hit)) (by omega) (Nat.le_of_ble_eq_true rfl)) (a1S (off := ((i).toNat * 5 + 4)) (j := 4) (a1h (sz := 5) (fun _ => rfl) (Nat.le_of_lt hit)) (by omega) rfl (Nat.le_of_ble_eq_true rfl)) ?_
  simp only [a0i, a0h, SV.kill, CV.kill, kk, Nat.reduceBEq]
  iterate 8 refine z ?_
  refine zK 0 Tryz.call60 ?_ (hf := b9A (l := (q.getD (i).toNat default).2.1) (by rw [← ht]; omega))
  iterate 7 refine z ?_
  refine a0W (ι := Nat) (fun zz => ⟨[(2, .one (.dv [] (.int .i64 (i)))), (3, .box 3 0), (6, .box 6 0), (7, .one (.dv [] (.bool (false)))), (8, .box 8 0), (9, .one (.key 95000)), (10, .one (.dv [] (.int .i64 ((zz : Int)))))], [(3, 35, [(.dv [] (.str (d.1))), (.dv [] (.int .i64 (d.2.1))), (.dv [] (a0k (d.2.2.1))), (.dv [] (a0A (d.2.2.2)))]), (6, 38, [.nil]), (8, 38, [(.key 95031)])], [(95031, some (a0d false (.sl 63 5 (q.length) (mid ((q.take (i).toNat).flatMap eTx) [.int .i64 (t.1), a0F (t.2.1), .int .i64 (t.2.2.1), .int .i64 (1), a0k ((a1N d ((a0V (q.getD (i).toNat default).2.1).take zz)))] ((q.drop ((i).toNat + 1)).flatMap eTx))))), (95000, some (a0d false (a4d (a0V ((q.getD (i).toNat default).2.1)))))]⟩) (fun zz => zz ≤ (a0V (q.getD (i).toNat default).2.1).length) (fun zz => (a0V (q.getD (i).toNat default).2.1).length - zz) (0) ?_ (a0e ⟨rfl, rfl, rfl, rfl, rfl, rfl, rfl, trivial⟩ ⟨rfl, rfl, rfl, trivial⟩ ⟨rfl, rfl, trivial⟩ rfl) (fun zz hx => ?_)
  ·exact Nat.zero_le _
  obtain ⟨k, rfl⟩ : ∃ v, v = zz := ⟨_, rfl⟩
  replace hx : k ≤ (a0V (q.getD (i).toNat default).2.1).length := hx
  show Ok _ _ _ _ _ (⟨[(2, .one (.dv [] (.int .i64 (i)))), (3, .box 3 0), (6, .box 6 0), (7, .one (.dv [] (.bool (false)))), (8, .box 8 0), (9, .one (.key 95000)), (10, .one (.dv [] (.int .i64 ((k : Int)))))], [(3, 35, [(.dv [] (.str (d.1))), (.dv [] (.int .i64 (d.2.1))), (.dv [] (a0k (d.2.2.1))), (.dv [] (a0A (d.2.2.2)))]), (6, 38, [.nil]), (8, 38, [(.key 95031)])], [(95031, some (a0d false (.sl 63 5 (q.length) (mid ((q.take (i).toNat).flatMap eTx) [.int .i64 (t.1), a0F (t.2.1), .int .i64 (t.2.2.1), .int .i64 (1), a0k ((a1N d ((a0V (q.getD (i).toNat default).2.1).take k)))] ((q.drop ((i).toNat + 1)).flatMap eTx))))), (95000, some (a0d false (a4d (a0V ((q.getD (i).toNat default).2.1)))))]⟩ : St)
  iterate 4 refine z ?_
  refine yO rfl rfl (a3S (n := ((a0V ((q.getD (i).toNat default).2.1))).length) hT rfl rfl (a0a rfl) rfl rfl) rfl ?_
  iterate 2 refine z ?_
  refine yQ rfl (fun c2 => ?_) fun c2 => ?_
  ·have d2 := c5p c2
   have hn2 : k < (a0V (q.getD (i).toNat default).2.1).length := by omega
   have hbl := b0V d ((a0V (q.getD (i).toNat default).2.1).take k)
   rw [c5t] at hbl
   iterate 4 refine z ?_
   refine a0p ?_
   refine a1o (oB := [3, 6, 8]) (oK := [95000, 95031]) (by kernel_rfl) rfl rfl ?_
   refine zD 0 ?_
   refine a1X 1 rfl (by kernel_rfl) rfl rfl (a1Q (v := .one (.dv [95000] (a4d (a0V (q.getD (i).toNat default).2.1)))) (.inl rfl) (a2X (a0a rfl) rfl rfl)) rfl rfl rfl rfl ?_
   refine zD 2 ?_
   refine zD 3 ?_
   refine zD 4 ?_
   refine a2v 5 rfl (by kernel_rfl) rfl rfl rfl Tryz.call55 (b0b (x := d) (n := ((a0V (q.getD (i).toNat default).2.1).getD (k : Int).toNat default))) (a0f (a0a rfl) (a0l (a0c a0b (a0c a0b (a0c a0b (a0c a0b a0m))))) (a0f (a0a rfl) (a0H a0b) a0n)) rfl rfl rfl rfl ?_
   refine zD 6 ?_
   refine a1R (by kernel_rfl) ?_
   iterate 5 refine z ?_
   refine yQ rfl (fun c3 => ?_) fun c3 => ?_
   ·have d3 := c5p c3
    have hlt : (a0q (a0D ((a0V (q.getD (i).toNat default).2.1).getD (k : Int).toNat default)) d.2.2.1 0) < d.2.2.1.length := a5L d ((a0V (q.getD (i).toNat default).2.1).getD (k : Int).toNat default)
    have hkn : (a0q (a0D ((a0V (q.getD (i).toNat default).2.1).getD (k : Int).toNat default)) d.2.2.1 0).toNat < d.2.2.1.length := by omega
    have hws := b2M hkn
    have hbs := b0K (d := d) hn2
    rw [if_pos (show 0 ≤ a1U d ((a0V (q.getD (i).toNat default).2.1).getD (k : Int).toNat default) from d3)] at hbs
    refine b3E 95031 [0, 1, 2, 3, 4, 5, 6, 7, 8, 9, 10, 11, 12, 13, 14, 15, 16, 17, 18] (oB := [3, 6, 8]) (oK := [95000]) (by kernel_rfl) rfl rfl rfl ?_
    refine a2k 0 rfl (by kernel_rfl) rfl rfl (a4S hT rfl rfl rfl (a0a rfl)) rfl rfl rfl rfl ?_
    refine a2k 1 rfl (by kernel_rfl) rfl rfl (a3C hT rfl rfl (a0a rfl) rfl rfl) rfl rfl rfl rfl ?_
    refine a2k 2 rfl (by kernel_rfl) rfl rfl (a1Q (.inl rfl) (a0a rfl)) rfl rfl rfl rfl ?_
    refine a2k 3 rfl (by kernel_rfl) rfl rfl (a4S hT rfl rfl rfl (a0a rfl)) rfl rfl rfl rfl ?_
    refine a2k 4 rfl (by kernel_rfl) rfl rfl (a3C hT rfl rfl (a0a rfl) rfl rfl) rfl rfl rfl rfl ?_
    refine a2k 5 rfl (by kernel_rfl) rfl rfl (a1Q (.inl rfl) (a0a rfl)) rfl rfl rfl rfl ?_
    refine a2k 6 rfl (by kernel_rfl) rfl rfl (a1q (i := (i).toNat) hT rfl rfl rfl (a0a rfl) rfl (a0a rfl) (by omega) (by show _ < (q.length); omega)) rfl rfl rfl rfl ?_
    refine a2k 7 rfl (by kernel_rfl) rfl rfl (a6d hT rfl rfl rfl (a0a rfl)) rfl rfl rfl rfl ?_
    refine a2k 9 rfl (by kernel_rfl) rfl rfl (a4S hT rfl rfl rfl (a0a rfl)) rfl rfl rfl rfl ?_
    refine a2k 10 rfl (by kernel_rfl) rfl rfl (a3C hT rfl rfl (a0a rfl) rfl rfl) rfl rfl rfl rfl ?_
    refine a2k 11 rfl (by kernel_rfl) rfl rfl (a1Q (.inl rfl) (a0a rfl)) rfl rfl rfl rfl ?_
    refine a2k 12 rfl (by kernel_rfl) rfl rfl (a4t hT rfl rfl rfl (a0a rfl) (a0a rfl) (fun _ => rfl) (by omega) (by omega)) rfl rfl rfl rfl ?_
    refine a2k 13 rfl (by kernel_rfl) rfl rfl (a7p hT rfl rfl (a0a rfl) rfl) rfl rfl rfl rfl ?_
    refine a3x 8 [14] (by kernel_rfl) ⟨?_, ?_, trivial⟩
    ·refine a8p 8 rfl rfl rfl (a3a hT rfl rfl (a0a rfl) rfl (a2m (off := ((i).toNat * 5 + 4)) (j := 4) (a1h (sz := 5) (fun _ => rfl) (Nat.le_of_lt hit)) (by omega) rfl)) rfl rfl rfl rfl rfl ?_
     refine a3x 14 [] (by kernel_rfl) ⟨?_, trivial⟩
     ·refine a9Y 96970 14 rfl rfl rfl rfl Tryz.call51 (a5e (x := (d.2.2.1.getD (a0q (a0D ((a0V (q.getD (i).toNat default).2.1).getD (k : Int).toNat default)) d.2.2.1 0).toNat default)) (by omega)) (a0f (a0a rfl) (a0l (a0c a0b (a0c a0b (a0c a0b a0m)))) a0n) rfl rfl rfl rfl rfl rfl ?_
      refine a3x 15 [] (by kernel_rfl) ⟨?_, trivial⟩
      ·refine a8s (k := 66) (js := [97000]) 15 hT rfl rfl rfl rfl rfl rfl rfl rfl rfl rfl rfl rfl (a4V (a0a rfl) rfl rfl rfl a4Z) (a0o (a0C rfl) (a0o (a1Y rfl) (a0o (a0C rfl) a1e rfl) rfl) rfl) (by decide) (by decide) rfl rfl rfl rfl rfl ?_
       simp only [a0i, a0h, SV.kill, CV.kill, kk, Nat.reduceBEq]
       refine a3x 16 [] (by kernel_rfl) ⟨?_, trivial⟩
       ·refine a7Y (t := 59) (j := 66) (ccs := mid ((q.take (i).toNat).flatMap eTx) [.int .i64 (t.1), a0F (t.2.1), .int .i64 (t.2.2.1), .int .i64 (1), .hole] ((q.drop ((i).toNat + 1)).flatMap eTx)) (n2 := (a1N d ((a0V (q.getD (i).toNat default).2.1).take (k + 1))).length) (cs2 := (a1N d ((a0V (q.getD (i).toNat default).2.1).take (k + 1))).flatMap a0U) 98000 16 hT rfl rfl rfl rfl rfl rfl rfl rfl rfl rfl (a2m (off := ((i).toNat * 5 + 4)) (j := 4) (a1h (sz := 5) (fun _ => rfl) (Nat.le_of_lt hit)) (by omega) rfl) rfl (a5l (off := ((i).toNat * 5 + 4)) (j := 4) (a1h (sz := 5) (fun _ => rfl) (Nat.le_of_lt hit)) (by omega) rfl (Nat.lt_of_lt_of_le (Nat.lt_succ_self _) (Nat.le_of_ble_eq_true rfl))) (a0a rfl) rfl rfl rfl (by dsimp only [a0d]; omega) (by dsimp only [a0d]; omega) (by rw [hbs, c5s]; rfl) (by rw [hbs, List.flatMap_append]; rfl) rfl rfl ?_
        simp only [a0i, a0h, SV.kill, CV.kill, kk, Nat.reduceBEq]
        refine a2k 17 rfl (by kernel_rfl) rfl rfl (a1q (i := (i).toNat) hT rfl rfl rfl (a0a rfl) rfl (a0a rfl) (by omega) (by show _ < (q.length); omega)) rfl rfl rfl rfl ?_
        refine a2k 18 rfl (by kernel_rfl) rfl rfl (a6d hT rfl rfl rfl (a0a rfl)) rfl rfl rfl rfl ?_
        refine a8J [19] rfl rfl (by kernel_rfl) ?_
        refine a1u (js := [98000]) (cs := mid ((q.take (i).toNat).flatMap eTx) [.int .i64 (t.1), a0F (t.2.1), .int .i64 (t.2.2.1), .int .i64 (1), .sl 89 3 ((a1N d ((a0V (q.getD (i).toNat default).2.1).take (k + 1))).length) ((a1N d ((a0V (q.getD (i).toNat default).2.1).take (k + 1))).flatMap a0U)] ((q.drop ((i).toNat + 1)).flatMap eTx)) hT rfl rfl rfl rfl (a0a rfl) (a0a rfl) rfl rfl rfl rfl (a0o (a1Y rfl) a1e rfl) (by decide) (by decide) rfl (a2a (off := ((i).toNat * 5 + 4)) (n := 1) (j := 4) (a1h (sz := 5) (fun _ => rfl) (Nat.le_of_lt hit)) (by omega) (Nat.le_of_ble_eq_true rfl)) (a1S (off := ((i).toNat * 5 + 4)) (j := 4) (a1h (sz := 5) (fun _ => rfl) (Nat.le_of_lt hit)) (by omega) rfl (Nat.le_of_ble_eq_true rfl)) ?_
        simp only [a0i, a0h, SV.kill, CV.kill, kk, Nat.reduceBEq]
        refine a1j ?_
        iterate 2 refine z ?_
        refine a0j ?_
        iterate 4 refine z ?_
        refine ⟨k + 1, ?_, ?_, a0e ⟨rfl, rfl, rfl, rfl, rfl, rfl, rfl, trivial⟩ ⟨rfl, rfl, rfl, trivial⟩ ⟨rfl, rfl, trivial⟩ rfl⟩
        ·omega
        ·omega
    ·refine a9Y 96970 14 rfl rfl rfl rfl Tryz.call51 (a5e (x := (d.2.2.1.getD (a0q (a0D ((a0V (q.getD (i).toNat default).2.1).getD (k : Int).toNat default)) d.2.2.1 0).toNat default)) (by omega)) (a0f (a0a rfl) (a0l (a0c a0b (a0c a0b (a0c a0b a0m)))) a0n) rfl rfl rfl rfl rfl rfl ?_
     refine a3x 8 [15] (by kernel_rfl) ⟨?_, ?_, trivial⟩
     ·refine a8p 8 rfl rfl rfl (a3a hT rfl rfl (a0a rfl) rfl (a2m (off := ((i).toNat * 5 + 4)) (j := 4) (a1h (sz := 5) (fun _ => rfl) (Nat.le_of_lt hit)) (by omega) rfl)) rfl rfl rfl rfl rfl ?_
      refine a3x 15 [] (by kernel_rfl) ⟨?_, trivial⟩
      ·refine a8s (k := 66) (js := [97000]) 15 hT rfl rfl rfl rfl rfl rfl rfl rfl rfl rfl rfl rfl (a4V (a0a rfl) rfl rfl rfl a4Z) (a0o (a0C rfl) (a0o (a1Y rfl) (a0o (a0C rfl) a1e rfl) rfl) rfl) (by decide) (by decide) rfl rfl rfl rfl rfl ?_
       simp only [a0i, a0h, SV.kill, CV.kill, kk, Nat.reduceBEq]
       refine a3x 16 [] (by kernel_rfl) ⟨?_, trivial⟩
       ·refine a7Y (t := 59) (j := 66) (ccs := mid ((q.take (i).toNat).flatMap eTx) [.int .i64 (t.1), a0F (t.2.1), .int .i64 (t.2.2.1), .int .i64 (1), .hole] ((q.drop ((i).toNat + 1)).flatMap eTx)) (n2 := (a1N d ((a0V (q.getD (i).toNat default).2.1).take (k + 1))).length) (cs2 := (a1N d ((a0V (q.getD (i).toNat default).2.1).take (k + 1))).flatMap a0U) 98000 16 hT rfl rfl rfl rfl rfl rfl rfl rfl rfl rfl (a2m (off := ((i).toNat * 5 + 4)) (j := 4) (a1h (sz := 5) (fun _ => rfl) (Nat.le_of_lt hit)) (by omega) rfl) rfl (a5l (off := ((i).toNat * 5 + 4)) (j := 4) (a1h (sz := 5) (fun _ => rfl) (Nat.le_of_lt hit)) (by omega) rfl (Nat.lt_of_lt_of_le (Nat.lt_succ_self _) (Nat.le_of_ble_eq_true rfl))) (a0a rfl) rfl rfl rfl (by dsimp only [a0d]; omega) (by dsimp only [a0d]; omega) (by rw [hbs, c5s]; rfl) (by rw [hbs, List.flatMap_append]; rfl) rfl rfl ?_
        simp only [a0i, a0h, SV.kill, CV.kill, kk, Nat.reduceBEq]
        refine a2k 17 rfl (by kernel_rfl) rfl rfl (a1q (i := (i).toNat) hT rfl rfl rfl (a0a rfl) rfl (a0a rfl) (by omega) (by show _ < (q.length); omega)) rfl rfl rfl rfl ?_
        refine a2k 18 rfl (by kernel_rfl) rfl rfl (a6d hT rfl rfl rfl (a0a rfl)) rfl rfl rfl rfl ?_
        refine a8J [19] rfl rfl (by kernel_rfl) ?_
        refine a1u (js := [98000]) (cs := mid ((q.take (i).toNat).flatMap eTx) [.int .i64 (t.1), a0F (t.2.1), .int .i64 (t.2.2.1), .int .i64 (1), .sl 89 3 ((a1N d ((a0V (q.getD (i).toNat default).2.1).take (k + 1))).length) ((a1N d ((a0V (q.getD (i).toNat default).2.1).take (k + 1))).flatMap a0U)] ((q.drop ((i).toNat + 1)).flatMap eTx)) hT rfl rfl rfl rfl (a0a rfl) (a0a rfl) rfl rfl rfl rfl (a0o (a1Y rfl) a1e rfl) (by decide) (by decide) rfl (a2a (off := ((i).toNat * 5 + 4)) (n := 1) (j := 4) (a1h (sz := 5) (fun _ => rfl) (Nat.le_of_lt hit)) (by omega) (Nat.le_of_ble_eq_true rfl)) (a1S (off := ((i).toNat * 5 + 4)) (j := 4) (a1h (sz := 5) (fun _ => rfl) (Nat.le_of_lt hit)) (by omega) rfl (Nat.le_of_ble_eq_true rfl)) ?_
        simp only [a0i, a0h, SV.kill, CV.kill, kk, Nat.reduceBEq]
        refine a1j ?_
        iterate 2 refine z ?_
        refine a0j ?_
        iterate 4 refine z ?_
        refine ⟨k + 1, ?_, ?_, a0e ⟨rfl, rfl, rfl, rfl, rfl, rfl, rfl, trivial⟩ ⟨rfl, rfl, rfl, trivial⟩ ⟨rfl, rfl, trivial⟩ rfl⟩
        ·omega
        ·omega
     ·refine a8s (k := 66) (js := [97000]) 15 hT rfl rfl rfl rfl rfl rfl rfl rfl rfl rfl rfl rfl (a4V (a0a rfl) rfl rfl rfl a4Z) (a0o (a0C rfl) (a0o (a1Y rfl) (a0o (a0C rfl) a1e rfl) rfl) rfl) (by decide) (by decide) rfl rfl rfl rfl rfl ?_
      simp only [a0i, a0h, SV.kill, CV.kill, kk, Nat.reduceBEq]
      refine a3x 8 [] (by kernel_rfl) ⟨?_, trivial⟩
      ·refine a8p 8 rfl rfl rfl (a3a hT rfl rfl (a0a rfl) rfl (a2m (off := ((i).toNat * 5 + 4)) (j := 4) (a1h (sz := 5) (fun _ => rfl) (Nat.le_of_lt hit)) (by omega) rfl)) rfl rfl rfl rfl rfl ?_
       refine a3x 16 [] (by kernel_rfl) ⟨?_, trivial⟩
       ·refine a7Y (t := 59) (j := 66) (ccs := mid ((q.take (i).toNat).flatMap eTx) [.int .i64 (t.1), a0F (t.2.1), .int .i64 (t.2.2.1), .int .i64 (1), .hole] ((q.drop ((i).toNat + 1)).flatMap eTx)) (n2 := (a1N d ((a0V (q.getD (i).toNat default).2.1).take (k + 1))).length) (cs2 := (a1N d ((a0V (q.getD (i).toNat default).2.1).take (k + 1))).flatMap a0U) 98000 16 hT rfl rfl rfl rfl rfl rfl rfl rfl rfl rfl (a2m (off := ((i).toNat * 5 + 4)) (j := 4) (a1h (sz := 5) (fun _ => rfl) (Nat.le_of_lt hit)) (by omega) rfl) rfl (a5l (off := ((i).toNat * 5 + 4)) (j := 4) (a1h (sz := 5) (fun _ => rfl) (Nat.le_of_lt hit)) (by omega) rfl (Nat.lt_of_lt_of_le (Nat.lt_succ_self _) (Nat.le_of_ble_eq_true rfl))) (a0a rfl) rfl rfl rfl (by dsimp only [a0d]; omega) (by dsimp only [a0d]; omega) (by rw [hbs, c5s]; rfl) (by rw [hbs, List.flatMap_append]; rfl) rfl rfl ?_
        simp only [a0i, a0h, SV.kill, CV.kill, kk, Nat.reduceBEq]
        refine a2k 17 rfl (by kernel_rfl) rfl rfl (a1q (i := (i).toNat) hT rfl rfl rfl (a0a rfl) rfl (a0a rfl) (by omega) (by show _ < (q.length); omega)) rfl rfl rfl rfl ?_
        refine a2k 18 rfl (by kernel_rfl) rfl rfl (a6d hT rfl rfl rfl (a0a rfl)) rfl rfl rfl rfl ?_
        refine a8J [19] rfl rfl (by kernel_rfl) ?_
        refine a1u (js := [98000]) (cs := mid ((q.take (i).toNat).flatMap eTx) [.int .i64 (t.1), a0F (t.2.1), .int .i64 (t.2.2.1), .int .i64 (1), .sl 89 3 ((a1N d ((a0V (q.getD (i).toNat default).2.1).take (k + 1))).length) ((a1N d ((a0V (q.getD (i).toNat default).2.1).take (k + 1))).flatMap a0U)] ((q.drop ((i).toNat + 1)).flatMap eTx)) hT rfl rfl rfl rfl (a0a rfl) (a0a rfl) rfl rfl rfl rfl (a0o (a1Y rfl) a1e rfl) (by decide) (by decide) rfl (a2a (off := ((i).toNat * 5 + 4)) (n := 1) (j := 4) (a1h (sz := 5) (fun _ => rfl) (Nat.le_of_lt hit)) (by omega) (Nat.le_of_ble_eq_true rfl)) (a1S (off := ((i).toNat * 5 + 4)) (j := 4) (a1h (sz := 5) (fun _ => rfl) (Nat.le_of_lt hit)) (by omega) rfl (Nat.le_of_ble_eq_true rfl)) ?_
        simp only [a0i, a0h, SV.kill, CV.kill, kk, Nat.reduceBEq]
        refine a1j ?_
        iterate 2 refine z ?_
        refine a0j ?_
        iterate 4 refine z ?_
        refine ⟨k + 1, ?_, ?_, a0e ⟨rfl, rfl, rfl, rfl, rfl, rfl, rfl, trivial⟩ ⟨rfl, rfl, rfl, trivial⟩ ⟨rfl, rfl, trivial⟩ rfl⟩
        ·omega
        ·omega
   ·have d3 := c5q c3
    have hbs := b0K (d := d) hn2
    rw [if_neg (show ¬ 0 ≤ a1U d ((a0V (q.getD (i).toNat default).2.1).getD (k : Int).toNat default) from d3), List.append_nil] at hbs
    iterate 3 refine z ?_
    refine a0j ?_
    iterate 4 refine z ?_
    refine ⟨k + 1, ?_, ?_, a0e ⟨rfl, rfl, rfl, rfl, rfl, rfl, rfl, trivial⟩ ⟨rfl, rfl, rfl, trivial⟩ ⟨(congrArg (fun z => some (some (KC.mk false 63 5 q.length (mid ((q.take (i).toNat).flatMap eTx) [.int .i64 (t.1), a0F (t.2.1), .int .i64 (t.2.2.1), .int .i64 (1), a0k (z)] ((q.drop ((i).toNat + 1)).flatMap eTx))))) hbs.symm), rfl, trivial⟩ rfl⟩
    ·omega
    ·omega
  ·have d2 := c5q c2
   iterate 10 refine z ?_
   have hall : (a0V (q.getD (i).toNat default).2.1).take k = (a0V (q.getD (i).toNat default).2.1) := List.take_of_length_le (by omega)
   rw [b2g ht hcan]
   refine a0r (σ' := ⟨[(6, .box 6 0), (7, .one (.dv [] (.bool (true))))], [(6, 38, [(.key 95031)])], [(95031, some (a0d false (a0Z (q.set (i).toNat (t.1, t.2.1, t.2.2.1, (1 : Int), a1N d (a0V t.2.1))))))]⟩) (a0e ⟨rfl, rfl, trivial⟩ ⟨rfl, trivial⟩ ⟨(by rw [← hSQ, hall]; exact (a5s hit (t.1, t.2.1, t.2.2.1, (1 : Int), a1N d (a0V (q.getD (i).toNat default).2.1)))), trivial⟩ rfl) ?_
   refine z ?_
   refine a1W (a0K hT rfl rfl rfl rfl) (a0B rfl) rfl rfl ?_
   first | exact ⟨rfl, rfl⟩ | skip
structure SK (d x : DbT) : Prop where
 n : x.1 = d.1
 v : x.2.1 = d.2.1
 s : x.2.2.1.map Prod.fst = d.2.2.1.map Prod.fst
 u : x.2.2.2 = d.2.2.2
theorem SK.refl (d : DbT) : SK d d := ⟨rfl, rfl, rfl, rfl⟩
theorem SK.symm {d x : DbT} (h : SK d x) : SK x d := ⟨h.n.symm, h.v.symm, h.s.symm, h.u.symm⟩
theorem SK.trans {d x y : DbT} (h : SK d x) (h2 : SK x y) : SK d y := ⟨h2.n.trans h.n, h2.v.trans h.v, h2.s.trans h.s, h2.u.trans h.u⟩
theorem SK.len {d x : DbT} (h : SK d x) : x.2.2.1.length = d.2.2.1.length := by have := congrArg List.length h.s; simpa using this
theorem c2l {d : DbT} (h : a2c d = true) : a6L d = true ∧ a6e d = true ∧ a8E d = true := by
 rw [a2c, Bool.and_eq_true, Bool.and_eq_true] at h; exact ⟨h.1, h.2.1, h.2.2⟩
@[reducible] def txA (p : List TxT) (j : Nat) : TxT := p.getD j default
@[reducible] def stt (p : List TxT) (j : Nat) : Int := (txA p j).2.2.2.1
def unf (p : List TxT) (j : Nat) : Prop := stt p j = 0 ∨ stt p j = 1
section
variable {d x : DbT} {q0 p : List TxT} {cur : Nat → DbT}
theorem b1E {t : TxT} {i j : Nat} (hi : i < p.length) : txA (p.set i t) j = if j = i then t else txA p j := by
 unfold txA
 rw [List.getD_eq_getElem?_getD, List.getElem?_set]
 by_cases h : i = j
 ·subst h; simp [hi]
 ·rw [if_neg h, if_neg (fun e => h e.symm), List.getD_eq_getElem?_getD]
theorem c4Z {i : Int} (h : a2Y p i = true) : ∃ j : Nat, i = (j : Int) ∧ j < p.length ∧ stt p j = 0 ∧ ∀ m, m < j → unf p m → b0n (txA p m).2.1 (txA p j).2.1 = false := by
 unfold a2Y at h
 simp only [Bool.and_eq_true, decide_eq_true_eq, Bool.not_eq_true'] at h
 obtain ⟨⟨⟨h1, h2⟩, h3⟩, h4⟩ := h
 refine ⟨i.toNat, by omega, by omega, h3, fun m hm hu => ?_⟩
 rw [List.any_eq_false] at h4
 have hml : m < (p.take i.toNat).length := by rw [c5t]; omega
 have h5 := h4 _ (List.getElem_mem hml)
 have e : (p.take i.toNat)[m] = txA p m := by
  rw [List.getElem_take]; unfold txA; rw [List.getD_eq_getElem?_getD, List.getElem?_eq_getElem (by omega)]; rfl
 rw [e] at h5
 unfold a4x at h5
 rw [Bool.not_eq_true, Bool.and_eq_false_iff] at h5
 rcases h5 with h5 | h5
 ·simp only [Bool.or_eq_false_iff, decide_eq_false_iff_not] at h5
  rcases hu with hu | hu
  ·exact absurd hu h5.1
  ·exact absurd hu h5.2
 ·exact h5
end
@[reducible] def StT := DbT × List TxT
def stS (s : StT) (i : Int) : StT := ((a2O s.1 s.2 i).1, (a2O s.1 s.2 i).2.1)
def saS (s : StT) (i : Int) : StT := (s.1, (a5G s.1 s.2 i).1)
def stN (s : StT) (i : Int) : Nat → StT
 | 0 => s
 | k + 1 => stS (stN s i k) i
def a6t (s : StT) (i : Int) : StT := stN (saS s i) i 8
def a7o (s : StT) : Nat → StT
 | 0 => s
 | k + 1 => a6t (a7o s k) (k : Int)
def atI (n : Int) (c : Int) (j : Nat) : Int := ((max (0 : Int) c) % n + (j : Int)) % n
def a2V (n c : Int) (s : StT) : Nat → Nat → StT
 | 0, _ => s
 | f + 1, j => if a2Y s.2 (atI n c j) = true then saS s (atI n c j) else if (s.2.getD (atI n c j).toNat default).2.2.2.1 = 1 then stS s (atI n c j) else a2V n c s f (j + 1)
def chS (n : Nat) (s : StT) (l : List Int) : StT := l.foldl (fun s c => a2V (n : Int) c s n 0) s
def a1F (d : DbT) (q : List TxT) (ch : List Int) : StT := if a2c d = true then a7o (chS q.length (d, q) (ch.take 60)) q.length else (d, q)
section
variable {d : DbT} {q0 : List TxT} {s : StT}
theorem c2B {p : List TxT} {j : Nat} (h : j < p.length) : txA p j ∈ p := by
 unfold txA
 rw [List.getD_eq_getElem?_getD, List.getElem?_eq_getElem h]; exact List.getElem_mem h
end
def a4b (S : Nat) (l : List a0I) : Prop := ∀ x ∈ l, a0v x ≤ S
structure GI (S : Nat) (d : DbT) (q0 : List TxT) (s : StT) : Prop where
 nm : s.1.1 = d.1
 us : s.1.2.2.2 = d.2.2.2
 dn : s.1.2.2.1.length = d.2.2.1.length
 ds : a4b S s.1.2.2.1
 len : s.2.length = q0.length
 ops : ∀ j, j < q0.length → (txA s.2 j).2.1 = (txA q0 j).2.1
 bk : ∀ j, j < q0.length → a4b S (txA s.2 j).2.2.2.2
 bw : ∀ j, j < q0.length → a0s a0v (txA s.2 j).2.2.2.2 ≤ a0s a0v (txA q0 j).2.2.2.2 + (txA q0 j).2.1.length * (S + 1)
theorem b1F {S : Nat} : ∀ (l : List a0I), a4b S l → wSum a0v l ≤ l.length * S
 | [], _ => by simp [wSum]
 | x :: l, h => by
  have k1 := b1F l (fun g hg => h g (by simp [hg]))
  have k2 := h x (by simp)
  have e : wSum a0v (x :: l) = a0v x + wSum a0v l := by simp [wSum]
  rw [e, List.length_cons, Nat.add_mul, Nat.one_mul]; omega
theorem c1I {S : Nat} {l : List a0I} {i : Nat} {x : a0I} (h : a4b S l) (hx : a0v x ≤ S) : a4b S (l.set i x) := fun y hy => by
 rcases List.mem_or_eq_of_mem_set hy with h1 | h1
 ·exact h y h1
 ·rw [h1]; exact hx
theorem b3N {d : DbT} (h : a2c d = true) : a4b 1200 d.2.2.1 := fun s hs => by
 obtain ⟨i, hi, rfl⟩ := List.mem_iff_getElem.1 hs
 have := a6G (i := (i : Int)) (b0J h) (by omega) (by omega)
 rw [Int.toNat_natCast, List.getD_eq_getElem?_getD, List.getElem?_eq_getElem hi] at this
 exact b3U this
theorem c4P {S : Nat} {d : DbT} {o : OpT} (h : a4b S d.2.2.1) (hS : 1200 ≤ S) : (a1b d o).1.1 = d.1 ∧ (a1b d o).1.2.2.2 = d.2.2.2 ∧ (a1b d o).1.2.2.1.length = d.2.2.1.length ∧ a4b S (a1b d o).1.2.2.1 := by
 cases hk : (a1b d o).2.2 with
 | false => rw [b4m hk]; exact ⟨rfl, rfl, rfl, h⟩
 | true =>
  have hd := b3N (b8E hk)
  refine ⟨?_, ?_, ?_, fun x hx => Nat.le_trans (hd x hx) hS⟩
  ·unfold a1b; split; rfl; split <;> rfl
  ·unfold a1b; split; rfl; split <;> rfl
  ·unfold a1b; split
   ·rfl
   ·split
    ·rfl
    ·exact List.length_set
theorem b3x {S : Nat} : ∀ (l : List a0I) (d : DbT), a4b S d.2.2.1 → a4b S l → (a2y d l).1 = d.1 ∧ (a2y d l).2.2.2 = d.2.2.2 ∧ (a2y d l).2.2.1.length = d.2.2.1.length ∧ a4b S (a2y d l).2.2.1
 | [], d, h, _ => ⟨rfl, rfl, rfl, h⟩
 | s :: l, d, h, hl => by
  rw [a2y]
  split
  ·have h1 := b3x l (a3B d (a1U d s.1).toNat s) (c1I h (hl s (by simp))) (fun y hy => hl y (by simp [hy]))
   refine ⟨h1.1, h1.2.1, ?_, h1.2.2.2⟩
   rw [h1.2.2.1]; exact List.length_set
  ·exact b3x l d h (fun y hy => hl y (by simp [hy]))
theorem c4S {S : Nat} {d : DbT} (h : a4b S d.2.2.1) (ns : List Str) : a4b S (a1N d ns) := fun x hx => by
 unfold a1N at hx
 obtain ⟨n, _, h1⟩ := List.mem_flatMap.1 hx
 split at h1
 ·rename_i h0
  rw [List.mem_singleton] at h1
  subst h1
  have hlt : a1U d n < d.2.2.1.length := a5L d n
  rw [List.getD_eq_getElem?_getD, List.getElem?_eq_getElem (show (a1U d n).toNat < d.2.2.1.length by omega)]
  exact h _ (List.getElem_mem _)
 ·cases h1
section
variable {S : Nat} {d : DbT} {q0 : List TxT} {s : StT}
theorem b0Y (h : GI S d q0 s) {x : DbT} {i : Nat} {t : TxT} (hx : x.1 = s.1.1 ∧ x.2.2.2 = s.1.2.2.2 ∧ x.2.2.1.length = s.1.2.2.1.length ∧ a4b S x.2.2.1) (hi : i < s.2.length)
  (ho : t.2.1 = (txA s.2 i).2.1) (hb : a4b S t.2.2.2.2) (hw : a0s a0v t.2.2.2.2 ≤ a0s a0v (txA q0 i).2.2.2.2 + (txA q0 i).2.1.length * (S + 1)) : GI S d q0 (x, s.2.set i t) := by
 refine ⟨hx.1.trans h.nm, hx.2.1.trans h.us, hx.2.2.1.trans h.dn, hx.2.2.2, ?_, fun j hj => ?_, fun j hj => ?_, fun j hj => ?_⟩
 ·dsimp only; rw [List.length_set]; exact h.len
 ·dsimp only; rw [b1E hi]
  split
  ·rename_i e; rw [e, ho]; exact h.ops _ (by rw [← h.len]; exact hi)
  ·exact h.ops j hj
 ·dsimp only; rw [b1E hi]
  split
  ·exact hb
  ·exact h.bk j hj
 ·dsimp only; rw [b1E hi]
  split
  ·rename_i e; rw [e]; exact hw
  ·exact h.bw j hj
theorem a5R (hS : 1200 ≤ S) (h : GI S d q0 s) (i : Int) : GI S d q0 (stS s i) := by
 cases hb : a4g s.2 i with
 | true => unfold stS; rw [b3l hb]; exact h
 | false =>
  obtain ⟨g1, g2, g3⟩ := b1V hb
  have hi : i.toNat < s.2.length := by omega
  have hiq : i.toNat < q0.length := by rw [← h.len]; exact hi
  unfold stS a2O
  rw [if_neg (by rw [hb]; simp)]
  have hn : a4b S [] := fun x hx => by cases hx
  have hz : a0s a0v [] ≤ a0s a0v (txA q0 i.toNat).2.2.2.2 + (txA q0 i.toNat).2.1.length * (S + 1) := Nat.zero_le _
  unfold a7a
  split
  ·split
   ·refine b0Y h (c4P h.ds hS) hi ?_ ?_ ?_
    ·split <;> rfl
    ·split
     ·exact h.bk _ hiq
     ·exact hn
    ·split
     ·exact h.bw _ hiq
     ·exact hz
   ·exact b0Y h (b3x _ _ h.ds (h.bk _ hiq)) hi rfl hn hz
  ·exact b0Y h ⟨rfl, rfl, rfl, h.ds⟩ hi rfl hn hz
theorem b0o (h : GI S d q0 s) (i : Int) : GI S d q0 (saS s i) := by
 have e0 : saS s i = (s.1, (a5G s.1 s.2 i).1) := rfl
 rw [e0]
 cases hc : a2Y s.2 i with
 | false => rw [b1C hc]; exact h
 | true =>
  obtain ⟨h1, h2⟩ := b2K hc
  have hi : i.toNat < s.2.length := by omega
  have hiq : i.toNat < q0.length := by rw [← h.len]; exact hi
  rw [b2g rfl hc]
  have hb := c4S h.ds (a0V (s.2.getD i.toNat default).2.1)
  refine b0Y h ⟨rfl, rfl, rfl, h.ds⟩ hi rfl hb ?_
  dsimp only
  have hl := b0V s.1 (a0V (s.2.getD i.toNat default).2.1)
  have hs := b2e (s.2.getD i.toNat default).2.1
  have ho : (s.2.getD i.toNat default).2.1 = (txA q0 i.toNat).2.1 := h.ops _ hiq
  have hw := b1F _ hb
  have e : a0s a0v (a1N s.1 (a0V (s.2.getD i.toNat default).2.1)) = (a1N s.1 (a0V (s.2.getD i.toNat default).2.1)).length + wSum a0v (a1N s.1 (a0V (s.2.getD i.toNat default).2.1)) := rfl
  have hm : (a1N s.1 (a0V (s.2.getD i.toNat default).2.1)).length * (S + 1) ≤ (txA q0 i.toNat).2.1.length * (S + 1) := Nat.mul_le_mul_right _ (by rw [← ho]; omega)
  rw [Nat.mul_succ] at hm
  omega
theorem b2Z (hS : 1200 ≤ S) (h : GI S d q0 s) (i : Int) : ∀ k, GI S d q0 (stN s i k)
 | 0 => h
 | k + 1 => a5R hS (b2Z hS h i k) i
theorem b6T (hS : 1200 ≤ S) (h : GI S d q0 s) (n c : Int) : ∀ f j, GI S d q0 (a2V n c s f j)
 | 0, _ => h
 | f + 1, j => by
  rw [a2V]
  split
  ·exact b0o h _
  ·split
   ·exact a5R hS h _
   ·exact b6T hS h n c f (j + 1)
theorem b1b (hS : 1200 ≤ S) (n : Nat) : ∀ (l : List Int) {s : StT}, GI S d q0 s → GI S d q0 (chS n s l)
 | [], _, h => h
 | c :: l, _, h => b1b hS n l (b6T hS h n c n 0)
theorem b0t (hS : 1200 ≤ S) (h : GI S d q0 s) : ∀ k, GI S d q0 (a7o s k)
 | 0 => h
 | k + 1 => b2Z hS (b0o (b0t hS h k) _) _ 8
end
theorem b5Y {f g : TxT → Nat} : ∀ (l l' : List TxT), l.length = l'.length → (∀ j, j < l.length → f (txA l j) ≤ g (txA l' j)) → wSum f l ≤ wSum g l'
 | [], [], _, _ => by simp [wSum]
 | [], _ :: _, h, _ => by simp at h
 | _ :: _, [], h, _ => by simp at h
 | x :: l, y :: l', h, hp => by
  have h0 : f x ≤ g y := hp 0 (by simp)
  have h1 := b5Y (f := f) (g := g) l l' (by simpa using h) (fun j hj => hp (j + 1) (by simpa using hj))
  have e1 : wSum f (x :: l) = f x + wSum f l := by simp [wSum]
  have e2 : wSum g (y :: l') = g y + wSum g l' := by simp [wSum]
  omega
def a3X (t : TxT) : Nat := t.2.1.length
def bkN (t : TxT) : Nat := a0s a0v t.2.2.2.2
theorem b0L : ∀ (l : List TxT) (B : Nat), wSum (fun t => wTx t + a3X t * B) l = wSum wTx l + wSum a3X l * B ∧ wSum a3X l + wSum bkN l ≤ wSum wTx l ∧ ∀ t ∈ l, bkN t ≤ wSum bkN l
 | [], B => ⟨by simp [wSum], by simp [wSum], fun t ht => by cases ht⟩
 | x :: l, B => by
  obtain ⟨h1, h2, h3⟩ := b0L l B
  have e1 : wSum (fun t => wTx t + a3X t * B) (x :: l) = wTx x + a3X x * B + wSum (fun t => wTx t + a3X t * B) l := by simp [wSum]
  have e2 : wSum wTx (x :: l) = wTx x + wSum wTx l := by simp [wSum]
  have e3 : wSum a3X (x :: l) = a3X x + wSum a3X l := by simp [wSum]
  have e4 : wSum bkN (x :: l) = bkN x + wSum bkN l := by simp [wSum]
  have e5 : wTx x = a0s wOp x.2.1 + a0s a0v x.2.2.2.2 := rfl
  have e6 : a0s wOp x.2.1 = x.2.1.length + wSum wOp x.2.1 := rfl
  have e7 : a3X x = x.2.1.length := rfl
  have e8 : bkN x = a0s a0v x.2.2.2.2 := rfl
  refine ⟨?_, by omega, fun t ht => ?_⟩
  ·rw [e1, e2, e3, h1, Nat.add_mul]; omega
  ·rcases List.mem_cons.1 ht with rfl | h4
   ·omega
   ·have := h3 t h4; omega
theorem b8C {a b N : Nat} (h : a + b ≤ N) : 4 * (a * b) ≤ N * N := by
 have h1 := Nat.mul_le_mul h h
 have key : 4 * (a * b) ≤ (a + b) * (a + b) := by
  rcases Nat.le_total a b with h2 | h2
  ·obtain ⟨c, rfl⟩ := Nat.exists_eq_add_of_le h2
   simp only [Nat.add_mul, Nat.mul_add]
   rw [Nat.mul_comm c a]
   have := Nat.zero_le (c * c)
   omega
  ·obtain ⟨c, rfl⟩ := Nat.exists_eq_add_of_le h2
   simp only [Nat.add_mul, Nat.mul_add]
   rw [Nat.mul_comm c b]
   have := Nat.zero_le (c * c)
   omega
 exact Nat.le_trans key h1
def a4i (q0 : List TxT) : Nat := 1200 + wSum bkN q0
theorem b2p {d : DbT} {q0 : List TxT} (hd : a2c d = true) : GI (a4i q0) d q0 (d, q0) := by
 have h9 : 1200 ≤ a4i q0 := Nat.le_add_right _ _
 refine ⟨rfl, rfl, rfl, fun x hx => Nat.le_trans (b3N hd x hx) h9, rfl, fun _ _ => rfl, fun j hj x hx => ?_, fun j hj => Nat.le_add_right _ _⟩
 have h1 := (b0L q0 0).2.2 _ (c2B hj)
 have h2 : a0v x ≤ wSum a0v (txA q0 j).2.2.2.2 := by
  obtain ⟨i, hi, rfl⟩ := List.mem_iff_getElem.1 hx
  have := b2M (l := (txA q0 j).2.2.2.2) hi
  rw [List.getD_eq_getElem?_getD, List.getElem?_eq_getElem hi] at this
  exact this
 have h3 : bkN (txA q0 j) = (txA q0 j).2.2.2.2.length + wSum a0v (txA q0 j).2.2.2.2 := rfl
 unfold a4i
 omega
theorem a4j {d : DbT} {q0 : List TxT} {s : StT} (hd : a2c d = true) (hq : a1z q0 ≤ 1048576) (h : GI (a4i q0) d q0 s) : a1r s.1 ≤ 5000000 ∧ a1z s.2 ≤ 300000000000 := by
 have hS : a4i q0 ≤ 1049776 := by
  have h1 := (b0L q0 0).2.1
  have h2 : a1z q0 = q0.length + wSum wTx q0 := rfl
  unfold a4i
  omega
 constructor
 ·have h1 := b1F _ h.ds
  have h2 := c0Q hd
  have h3 : a1r d = d.1.size + (d.2.2.1.length + wSum a0v d.2.2.1) + (d.2.2.2.length + wSum a1m d.2.2.2) := rfl
  have h4 : a1r s.1 = s.1.1.size + (s.1.2.2.1.length + wSum a0v s.1.2.2.1) + (s.1.2.2.2.length + wSum a1m s.1.2.2.2) := rfl
  have h5 : d.2.2.1.length ≤ 4 := by
   have h6 := (c2l hd).1
   simp only [a6L, Bool.and_eq_true, decide_eq_true_eq] at h6
   omega
  have h7 : s.1.2.2.1.length * a4i q0 ≤ 4 * 1049776 := Nat.mul_le_mul (by rw [h.dn]; exact h5) hS
  rw [h.nm, h.us, h.dn] at h4
  omega
 ·have h1 : wSum wTx s.2 ≤ wSum (fun t => wTx t + a3X t * (a4i q0 + 1)) q0 := b5Y s.2 q0 h.len (fun j hj => by
   have hj' : j < q0.length := by rw [← h.len]; exact hj
   have k1 := h.bw j hj'
   have k2 : wTx (txA s.2 j) = a0s wOp (txA s.2 j).2.1 + a0s a0v (txA s.2 j).2.2.2.2 := rfl
   have k3 : wTx (txA q0 j) = a0s wOp (txA q0 j).2.1 + a0s a0v (txA q0 j).2.2.2.2 := rfl
   have k4 : a3X (txA q0 j) = (txA q0 j).2.1.length := rfl
   rw [h.ops j hj'] at k2
   rw [k4]
   omega)
  obtain ⟨h2, h3, _⟩ := b0L q0 (a4i q0 + 1)
  have h4 : a1z q0 = q0.length + wSum wTx q0 := rfl
  have h5 : a1z s.2 = s.2.length + wSum wTx s.2 := rfl
  have h6 := h.len
  have h7 := b8C (a := wSum a3X q0) (b := wSum bkN q0) (N := 1048576) (by omega)
  have h8 : wSum a3X q0 * (a4i q0 + 1) = wSum a3X q0 * 1201 + wSum a3X q0 * wSum bkN q0 := by
   unfold a4i
   rw [← Nat.mul_add]
   congr 1
   omega
  omega
end Go.Proofs.YteellmjlalgjaaaGreat
