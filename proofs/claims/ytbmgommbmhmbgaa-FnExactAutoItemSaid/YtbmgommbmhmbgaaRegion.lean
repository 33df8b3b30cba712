/-
  A region that draws its order: operations that only look are taken first; those that write what was there (the tail) wait for them. The effects in between add new blocks alone.
-/
import Derived.Test.YtbmgommbmhmbgaaLaws
import Derived.OrdersHeld
namespace Go.Proofs.Ytbmgommbmhmbgaa
open Go.RowKit

section
variable {P : Program} {ops : Array Oper} {Q : Exit → Act → World → Prop} {md : Region.Mode} {S : World → Prop} {hd : Nat → Bool}

/-- j waits for i, over however many steps -/
def behind (md : Region.Mode) (ops : Array Oper) : Nat → Nat → Nat → Bool
  | 0, _, _ => false
  | f + 1, j, i => match ops[j]? with
    | none => false
    | some oj => oj.after.any fun e => Region.binds md e && (e.on == i || behind md ops f e.on i)
/-- what has come up has come up with all that it waited for -/
def closedB (md : Region.Mode) (ops : Array Oper) (listed : Array Bool) : Bool :=
  (List.range ops.size).all fun j => !listed.getD j false || (match ops[j]? with
    | none => true
    | some oj => oj.after.all fun e => !Region.binds md e || listed.getD e.on false)
def Closed (md : Region.Mode) (ops : Array Oper) (listed : Array Bool) : Prop :=
  ∀ j oj, ops[j]? = some oj → listed.getD j false = true → ∀ e ∈ oj.after, Region.binds md e = true → listed.getD e.on false = true
theorem closed_of {listed : Array Bool} (h : closedB md ops listed = true) : Closed md ops listed := by
  intro j oj hj hl e he hb
  have h1 := List.all_eq_true.1 h j (List.mem_range.2 (Array.getElem?_eq_some_iff.1 hj).1)
  simp only [hl, hj, Bool.not_true, Bool.false_or] at h1
  have h2 := Array.all_eq_true'.1 h1 e he
  simpa [hb] using h2
theorem closed_set {listed : Array Bool} {i : Nat} (hc : Closed md ops listed) (hi : i ∈ Region.ready md ops listed) : Closed md ops (listed.setIfInBounds i true) := by
  obtain ⟨_, oi, hoi, hall⟩ := mem_ready.1 hi
  intro j oj hj hl e he hb
  by_cases hij : i = j
  · subst hij
    have : oj = oi := Option.some.inj (hj.symm.trans hoi)
    subst this
    exact getD_set_true (hall e he hb)
  · rw [getD_set_ne false hij] at hl
    exact getD_set_true (hc j oj hj hl e he hb)
theorem not_behind {listed : Array Bool} {i : Nat} (hc : Closed md ops listed) (hun : listed.getD i true = false) : ∀ (f j : Nat) (oj : Oper), ops[j]? = some oj →
    (∀ e ∈ oj.after, Region.binds md e = true → listed.getD e.on false = true) → behind md ops f j i = false
  | 0, _, _, _, _ => rfl
  | f + 1, j, oj, hj, hall => by
    simp only [behind, hj]
    rw [Array.any_eq_false']
    intro e he
    cases hb : Region.binds md e with
    | false => simp
    | true =>
      have hl := hall e he hb
      have hne : (e.on == i) = false := by
        rw [beq_eq_false_iff_ne]
        rintro rfl
        rcases Nat.lt_or_ge e.on listed.size with h' | h'
        · simp [h'] at hun hl; rw [hun] at hl; cases hl
        · simp [Array.getElem?_eq_none h'] at hun
      have hbeh : behind md ops f e.on i = false := by
        cases ho : ops[e.on]? with
        | none => cases f <;> simp [behind, ho]
        | some oe => exact not_behind hc hun f e.on oe ho (fun e' he' hb' => hc e.on oe ho hl e' he' hb')
      simp [hne, hbeh]
/-- whoever may come before i keeps S -/
def calmB (md : Region.Mode) (ops : Array Oper) (hd : Nat → Bool) (listed : Array Bool) (i : Nat) : Bool :=
  (List.range ops.size).all fun j => j == i || listed.getD j true || hd j || behind md ops ops.size j i

/-- Whatever order is picked from here on; behind each operation of the head S holds. -/
def wpAnyT (P : Program) (md : Region.Mode) (ops : Array Oper) (Q : Exit → Act → World → Prop) (S : World → Prop) (hd : Nat → Bool) : Nat → Array Bool → Act → World → Prop
  | 0, listed, a, w => Region.ready md ops listed = [] ∧ Q .normal a w
  | fuel + 1, listed, a, w =>
    (Region.ready md ops listed = [] → Q .normal a w) ∧
    ∀ i ∈ Region.ready md ops listed, wpOp P ops Q i (fun a' w' => (hd i = true → S w') ∧ wpAnyT P md ops Q S hd fuel (listed.setIfInBounds i true) a' w') a w
theorem wpAny_of_T : ∀ (fuel : Nat) (listed : Array Bool) (a : Act) (w : World), wpAnyT P md ops Q S hd fuel listed a w → wpAny P md ops Q fuel listed a w
  | 0, _, _, _, h => h
  | fuel + 1, _, _, _, h => ⟨h.1, fun i hi => wpOp_mono (fun a' w' h' => wpAny_of_T fuel _ a' w' h'.2) (h.2 i hi)⟩

theorem wpAnyT_first {i : Nat} {oi : Oper} {v : Value} (hi : ops[i]? = some oi) (hsel : ∀ (j : Nat) (o : Oper) cs b, ops[j]? = some o → o.op ≠ .select cs b)
    (hQ : ∀ c a w, Q (.panic c) (a.put oi.dst v) w → Q (.panic c) a w) :
    ∀ (fuel : Nat) (listed : Array Bool) (a : Act) (w : World), Closed md ops listed →
      (∀ j, j < ops.size → j ≠ i → listed.getD j true = false → hd j = true ∨ behind md ops ops.size j i = true) →
      (∀ j oj, ops[j]? = some oj → j ≠ i → listed.getD j true = false → (∀ e ∈ oj.after, Region.binds md e = true → e.on ≠ i) → oi.apart ops oj = true) →
      i ∈ Region.ready md ops listed → YieldsIf P ops S oi v a → S w →
      wpAnyT P md ops Q S hd fuel (listed.setIfInBounds i true) (a.put oi.dst v) w → wpAnyT P md ops Q S hd (fuel + 1) listed a w := by
  intro fuel
  induction fuel with
  | zero =>
    intro listed a w _ _ hfree hr hy hS H
    refine ⟨fun h => (by rw [h] at hr; cases hr), fun j hj => ?_⟩
    by_cases hji : j = i
    · subst hji; exact hy.wpOp hi hS ⟨fun _ => hS, H⟩
    · have := ready_mono hj hji
      rw [H.1] at this
      cases this
  | succ fuel ih =>
    intro listed a w hcl hcalm hfree hr hy hS H
    refine ⟨fun h => (by rw [h] at hr; cases hr), fun j hj => ?_⟩
    by_cases hji : j = i
    · subst hji; exact hy.wpOp hi hS ⟨fun _ => hS, H⟩
    · have h1 := H.2 j (ready_mono hj hji)
      obtain ⟨hjun, oj, hoj, hall⟩ := mem_ready.1 hj
      have hnot : ∀ e ∈ oj.after, Region.binds md e = true → e.on ≠ i := fun e he hb heq => by
        have h1 := hall e he hb
        have h0 := (mem_ready.1 hr).1
        rw [heq] at h1
        rcases Nat.lt_or_ge i listed.size with h' | h'
        · simp [h'] at h0 h1; rw [h0] at h1; cases h1
        · simp [Array.getElem?_eq_none h'] at h1
      have hdj : hd j = true := by
        rcases hcalm j (Array.getElem?_eq_some_iff.1 hoj).1 hji hjun with h | h
        · exact h
        · rw [not_behind hcl (mem_ready.1 hr).1 ops.size j oj hoj hall] at h
          cases h
      have h2 := wpOp_putIf hoj (hfree j oj hoj hji hjun hnot) (fun cs b => hsel i oi cs b hi) (fun cs b => hsel j oj cs b hoj) hQ hy h1
      have hfree' : ∀ k ok, ops[k]? = some ok → k ≠ i → (listed.setIfInBounds j true).getD k true = false →
          (∀ e ∈ ok.after, Region.binds md e = true → e.on ≠ i) → oi.apart ops ok = true := fun k ok hk hki hun hno => by
        refine hfree k ok hk hki ?_ hno
        by_cases hjk : j = k
        · subst hjk; exact hjun
        · rw [getD_set_ne true hjk] at hun; exact hun
      have hcalm' : ∀ k, k < ops.size → k ≠ i → (listed.setIfInBounds j true).getD k true = false → hd k = true ∨ behind md ops ops.size k i = true := fun k hk hki hun => by
        refine hcalm k hk hki ?_
        by_cases hjk : j = k
        · subst hjk; exact hjun
        · rw [getD_set_ne true hjk] at hun; exact hun
      refine wpOp_mono (fun a' w' h3 => ⟨h3.2.1, ih (listed.setIfInBounds j true) a' w' (closed_set hcl hj) hcalm' hfree' (ready_mono hr (Ne.symm hji)) h3.1 (h3.2.1 hdj) ?_⟩) h2
      rw [Array.setIfInBounds_comm _ _ hji]
      exact h3.2.2

/-- one that does not look at the world at all comes first, whoever stands before it -/
theorem wpAnyT_firstX {i : Nat} {oi : Oper} {v : Value} (hi : ops[i]? = some oi) (hsel : ∀ (j : Nat) (o : Oper) cs b, ops[j]? = some o → o.op ≠ .select cs b)
    (hQ : ∀ c a w, Q (.panic c) (a.put oi.dst v) w → Q (.panic c) a w) (hdi : hd i = false) :
    ∀ (fuel : Nat) (listed : Array Bool) (a : Act) (w : World), Closed md ops listed →
      (∀ j oj, ops[j]? = some oj → j ≠ i → listed.getD j true = false → (∀ e ∈ oj.after, Region.binds md e = true → e.on ≠ i) → oi.apart ops oj = true) →
      i ∈ Region.ready md ops listed → YieldsIf P ops (fun _ => True) oi v a →
      wpAnyT P md ops Q S hd fuel (listed.setIfInBounds i true) (a.put oi.dst v) w → wpAnyT P md ops Q S hd (fuel + 1) listed a w := by
  intro fuel
  induction fuel with
  | zero =>
    intro listed a w _ hfree hr hy H
    refine ⟨fun h => (by rw [h] at hr; cases hr), fun j hj => ?_⟩
    by_cases hji : j = i
    · subst hji; exact hy.wpOp hi trivial ⟨fun e => (by rw [hdi] at e; cases e), H⟩
    · have := ready_mono hj hji
      rw [H.1] at this
      cases this
  | succ fuel ih =>
    intro listed a w hcl hfree hr hy H
    refine ⟨fun h => (by rw [h] at hr; cases hr), fun j hj => ?_⟩
    by_cases hji : j = i
    · subst hji; exact hy.wpOp hi trivial ⟨fun e => (by rw [hdi] at e; cases e), H⟩
    · have h1 := H.2 j (ready_mono hj hji)
      obtain ⟨hjun, oj, hoj, hall⟩ := mem_ready.1 hj
      have hnot : ∀ e ∈ oj.after, Region.binds md e = true → e.on ≠ i := fun e he hb heq => by
        have h1 := hall e he hb
        have h0 := (mem_ready.1 hr).1
        rw [heq] at h1
        rcases Nat.lt_or_ge i listed.size with h' | h'
        · simp [h'] at h0 h1; rw [h0] at h1; cases h1
        · simp [Array.getElem?_eq_none h'] at h1
      have h2 := wpOp_putIf hoj (hfree j oj hoj hji hjun hnot) (fun cs b => hsel i oi cs b hi) (fun cs b => hsel j oj cs b hoj) hQ hy h1
      have hfree' : ∀ k ok, ops[k]? = some ok → k ≠ i → (listed.setIfInBounds j true).getD k true = false →
          (∀ e ∈ ok.after, Region.binds md e = true → e.on ≠ i) → oi.apart ops ok = true := fun k ok hk hki hun hno => by
        refine hfree k ok hk hki ?_ hno
        by_cases hjk : j = k
        · subst hjk; exact hjun
        · rw [getD_set_ne true hjk] at hun; exact hun
      refine wpOp_mono (fun a' w' h3 => ⟨h3.2.1, ih (listed.setIfInBounds j true) a' w' (closed_set hcl hj) hfree' (ready_mono hr (Ne.symm hji)) h3.1 ?_⟩) h2
      rw [Array.setIfInBounds_comm _ _ hji]
      exact h3.2.2

def takeXB (md : Region.Mode) (ops : Array Oper) (hd : Nat → Bool) (listed : Array Bool) (i : Nat) : Bool :=
  Region.noSelect ops && Region.free md ops listed i && (Region.ready md ops listed).contains i && closedB md ops listed && !(hd i)
theorem T_takeX (i : Nat) {oi : Oper} {v : Value} {fuel : Nat} {listed : Array Bool} {a : Act} {w : World} (hi : ops[i]? = some oi)
    (hb : takeXB md ops hd listed i = true)
    (hQ : ∀ c a w, Q (.panic c) (a.put oi.dst v) w → Q (.panic c) a w) (hy : YieldsIf P ops (fun _ => True) oi v a)
    (h : wpAnyT P md ops Q S hd fuel (listed.setIfInBounds i true) (a.put oi.dst v) w) : wpAnyT P md ops Q S hd (fuel + 1) listed a w := by
  simp only [takeXB, Bool.and_eq_true, Bool.not_eq_true'] at hb
  obtain ⟨⟨⟨⟨hs, hf⟩, hr⟩, hc⟩, hca⟩ := hb
  exact wpAnyT_firstX hi (Region.noSelect_spec hs) hQ hca fuel listed a w (closed_of hc) (Region.free_spec hi hf) (by simpa using hr) hy h
/-- the checks of a take, by the kernel -/
def takeB (md : Region.Mode) (ops : Array Oper) (hd : Nat → Bool) (listed : Array Bool) (i : Nat) : Bool :=
  Region.noSelect ops && Region.free md ops listed i && (Region.ready md ops listed).contains i && closedB md ops listed && calmB md ops hd listed i
/-- take number i first -/
theorem T_take (i : Nat) {oi : Oper} {v : Value} {fuel : Nat} {listed : Array Bool} {a : Act} {w : World} (hi : ops[i]? = some oi)
    (hb : takeB md ops hd listed i = true)
    (hQ : ∀ c a w, Q (.panic c) (a.put oi.dst v) w → Q (.panic c) a w) (hS : S w) (hy : YieldsIf P ops S oi v a)
    (h : wpAnyT P md ops Q S hd fuel (listed.setIfInBounds i true) (a.put oi.dst v) w) : wpAnyT P md ops Q S hd (fuel + 1) listed a w := by
  simp only [takeB, Bool.and_eq_true] at hb
  obtain ⟨⟨⟨⟨hs, hf⟩, hr⟩, hc⟩, hca⟩ := hb
  refine wpAnyT_first hi (Region.noSelect_spec hs) hQ fuel listed a w (closed_of hc) (fun j hj hne hun => ?_) (Region.free_spec hi hf) (by simpa using hr) hy hS h
  have h1 := List.all_eq_true.1 hca j (List.mem_range.2 hj)
  simp only [Bool.or_eq_true, beq_iff_eq, hne, false_or, hun, Bool.false_eq_true] at h1
  exact h1
/-- only number i may come up -/
theorem T_one (i : Nat) {oi : Oper} {fuel : Nat} {listed : Array Bool} {a : Act} {w : World} (hi : ops[i]? = some oi) (hg : oi.guard = none)
    (hr : (Region.ready md ops listed == [i]) = true)
    (h : ∀ K : Act → World → Prop, (∀ a' w', (hd i = true → S w') → wpAnyT P md ops Q S hd fuel (listed.setIfInBounds i true) a' w' → K a' w') → oi.wp P a w K Q) :
    wpAnyT P md ops Q S hd (fuel + 1) listed a w := by
  have hr' : Region.ready md ops listed = [i] := by simpa using hr
  refine ⟨fun h0 => (by rw [hr'] at h0; cases h0), fun j hj => ?_⟩
  rw [hr', List.mem_singleton] at hj
  subst hj
  unfold wpOp
  simp only [hi]
  have hw : Region.wanted oi (yielded ops a.tmps) = true := by simp [Region.wanted, hg]
  rw [if_pos hw]
  exact .inl (h _ (fun a' w' h1 h2 => ⟨h1, h2⟩))
/-- all have come up -/
theorem T_done {listed : Array Bool} {a : Act} {w : World} (hr : (Region.ready md ops listed).isEmpty = true) (h : Q .normal a w) :
    ∀ fuel, wpAnyT P md ops Q S hd fuel listed a w
  | 0 => ⟨by simpa using hr, h⟩
  | _ + 1 => ⟨fun _ => h, by rw [show Region.ready md ops listed = [] by simpa using hr]; simp⟩
/-- one after the other may come up, each alone -/
def chainB (md : Region.Mode) (ops : Array Oper) (hd : Nat → Bool) : List Nat → Array Bool → Bool
  | [], listed => (Region.ready md ops listed).isEmpty
  | i :: is, listed => (Region.ready md ops listed == [i]) && !hd i && chainB md ops hd is (listed.setIfInBounds i true)
theorem T_chain : ∀ (is : List Nat) (rest : List Oper) (listed : Array Bool) (fuel : Nat) (a : Act) (w : World), is.map (fun i => ops[i]?) = rest.map some → is.length ≤ fuel → chainB md ops hd is listed = true → wpList P ops Q rest a w → wpAnyT P md ops Q S hd fuel listed a w
  | [], rest, listed, fuel, a, w, hm, _, hc, h => by
    have : rest = [] := by cases rest <;> simp_all
    subst this
    exact T_done hc h fuel
  | i :: is, rest, listed, fuel, a, w, hm, hf, hc, h => by
    cases rest with
    | nil => simp at hm
    | cons o rest =>
      simp only [List.map_cons, List.cons.injEq] at hm
      cases fuel with
      | zero => simp at hf
      | succ fuel =>
        simp only [chainB, Bool.and_eq_true, Bool.not_eq_true'] at hc
        obtain ⟨⟨h1, h2⟩, h3⟩ := hc
        have hr' : Region.ready md ops listed = [i] := by simpa using h1
        refine ⟨fun h0 => (by rw [hr'] at h0; cases h0), fun j hj => ?_⟩
        rw [hr', List.mem_singleton] at hj
        subst hj
        have ih : ∀ a' w', wpList P ops Q rest a' w' → (hd j = true → S w') ∧ wpAnyT P md ops Q S hd fuel (listed.setIfInBounds j true) a' w' := fun a' w' h' =>
          ⟨fun e => (by rw [h2] at e; cases e), T_chain is rest _ fuel a' w' hm.2 (by simpa using hf) h3 h'⟩
        unfold wpOp
        simp only [hm.1]
        unfold wpList at h
        split
        · rename_i e
          rw [if_pos e] at h
          rcases h with h | h
          · exact .inl (Oper.wp_mono ih h)
          · exact .inr h
        · rename_i e
          rw [if_neg e] at h
          exact ih _ _ h
/-- the beginning -/
theorem T_begin (S : World → Prop) (hd : Nat → Bool) {id : Nat} {a : Act} {w : World} (hm : P.follows .mixedOrders = true)
    (h : wpAnyT P .any ops Q S hd ops.size (Array.replicate ops.size false) a w.drew) : (Code.region id ops true).wp P Q a w :=
  wp_region_any hm (wpAny_of_T _ _ _ _ h)
end
/-- whatever was there is as it was -/
def Keeps (W w : World) : Prop := ∀ b off, b < W.heap.size → w.cell? ⟨b, off, none⟩ = W.cell? ⟨b, off, none⟩
theorem Chg.keeps {W w : World} (h : Chg [] W w) : Keeps W w := fun _ _ hb => h.cell hb (by simp)
theorem Keeps.refl (W : World) : Keeps W W := fun _ _ _ => rfl
theorem Keeps.drew (W : World) : Keeps W W.drew := fun _ _ _ => rfl
theorem Keeps.chg {W w w' : World} (h : Keeps W w) (hs : W.heap.size ≤ w.heap.size) (hc : Chg [] w w') : Keeps W w' := fun b off hb => (hc.cell (by omega) (by simp)).trans (h b off hb)
/-- the beginning, S being 'what was there is as it was' -/
theorem T_keep {P : Program} {ops : Array Oper} {Q : Exit → Act → World → Prop} (hd : Nat → Bool) {id : Nat} {a : Act} {w : World} (hm : P.follows .mixedOrders = true)
    (h : wpAnyT P .any ops Q (Keeps w) hd ops.size (Array.replicate ops.size false) a w.drew) : (Code.region id ops true).wp P Q a w :=
  T_begin (Keeps w) hd hm h
end Go.Proofs.Ytbmgommbmhmbgaa
