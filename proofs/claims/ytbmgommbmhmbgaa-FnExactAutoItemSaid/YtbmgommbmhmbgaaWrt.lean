/-
  The rules of the abstract logic for calls that write what they are handed: several keys are changed at once, and keep their roots.
-/
import Derived.Test.YtbmgommbmhmbgaaBld
namespace Go.Proofs.Ytbmgommbmhmbgaa
open Go.RowKit
set_option linter.unusedVariables false
set_option linter.unusedSimpArgs false

section
variable {P : Program} {C : Ctx} {nt : Nat} {L : Lyt} {σ : St} {a : Act} {w w' : World}
/-- the keys ups are changed: new content and blocks, the same roots -/
def St.muts (σ : St) (ups : List (Nat × KC × List Nat)) : St :=
  ⟨killT (ups.map (·.1)) [] σ.tm, killB (ups.map (·.1)) [] σ.bx, (ups.map fun u => (u.1, some u.2.1)) ++ σ.ks⟩
def newFp (L : Lyt) (ups : List (Nat × KC × List Nat)) (i : Nat) : List Nat := match look ups i with
  | some u => u.2
  | none => L.fp i
theorem look_none {α : Type} {l : List (Nat × α)} {i : Nat} : look l i = none ↔ i ∉ l.map (·.1) := by
  induction l with
  | nil => simp [look]
  | cons p l ih =>
    obtain ⟨k, v⟩ := p
    rw [look_cons]
    by_cases h : i = k
    · simp [h]
    · simp only [if_neg h, ih, List.map_cons, List.mem_cons, not_or]
      exact ⟨fun h' => ⟨h, h'⟩, fun h' => h'.2⟩
theorem lkk_muts {ups : List (Nat × KC × List Nat)} (i : Nat) : lkk (σ.muts ups) i = match look ups i with | some u => some u.1 | none => lkk σ i := by
  simp only [lkk, St.muts]
  rw [look_append, look_map (fun u : KC × List Nat => some u.1) ups i]
  cases look ups i with
  | none => simp
  | some u => simp
theorem Rel.setkeys (h : Rel P C nt L σ a w) {ups : List (Nat × KC × List Nat)} (hc : Chg (ups.flatMap fun u => L.fp u.1) w w')
    (hu : ∀ i u, look ups i = some u → ∃ c, lkk σ i = some c ∧ Own w' (.sl u.1.e u.1.sz u.1.n u.1.cs) (L.rv i) u.2 ∧ u.2.Nodup ∧ (∀ b ∈ u.2, (b ∈ ups.flatMap fun u => L.fp u.1) ∨ w.heap.size ≤ b) ∧ (u.1.h = true → c.h = true))
    (hd : ∀ i j u v, look ups i = some u → look ups j = some v → i ≠ j → ∀ b ∈ u.2, b ∉ v.2) :
    Rel P C nt { L with fp := newFp L ups } (σ.muts ups) a w' := by
  have hin : ∀ p ∈ ups, ∃ u, look ups p.1 = some u := fun p hp => by
    cases hq : look ups p.1 with
    | none => exact absurd (List.mem_map.2 ⟨p, hp, rfl⟩) (look_none.1 hq)
    | some u => exact ⟨u, rfl⟩
  have hout : ∀ i c, lkk σ i = some c → look ups i = none → ∀ b ∈ L.fp i, b ∉ ups.flatMap fun u => L.fp u.1 := fun i c hi hn b hb hm => by
    obtain ⟨p, hp, hb'⟩ := List.mem_flatMap.1 hm
    obtain ⟨u, hu'⟩ := hin p hp
    obtain ⟨c', hc', _⟩ := hu p.1 u hu'
    have hne : i ≠ p.1 := fun e => by rw [e, hu'] at hn; cases hn
    exact h.kk i p.1 c c' hi hc' hne b hb hb'
  have hfr : ∀ b ∈ ups.flatMap fun u => L.fp u.1, fresh C b := fun b hm => by
    obtain ⟨p, hp, hb'⟩ := List.mem_flatMap.1 hm
    obtain ⟨u, hu'⟩ := hin p hp
    obtain ⟨c', hc', _⟩ := hu p.1 u hu'
    exact h.k1 p.1 c' hc' b hb'
  have hnf : ∀ i, look ups i = none → newFp L ups i = L.fp i := fun i hi => by simp only [newFp, hi]
  have hnf' : ∀ i u, look ups i = some u → newFp L ups i = u.2 := fun i u hi => by simp only [newFp, hi]
  have hK : KillOk C L { L with fp := newFp L ups } w w' (fun i => (lkk σ i).isSome = true) (ups.map (·.1)) [] := {
    key := fun i hi hv => by
      have hn := look_none.2 hv
      obtain ⟨d, hd'⟩ := Option.isSome_iff_exists.1 hi
      exact ⟨hnf i hn, fun b hb hlt => hc.block b hlt (hout i d hd' hn b hb)⟩
    root := fun i _ _ => rfl
    sub := fun i _ hr => by simp at hr
    old := fun b hb hs0 => hc.block b (Nat.lt_of_lt_of_le hb h.chg.size) (fun hm => by
      rcases hfr b hm with h1 | h1
      · omega
      · exact hs0 h1) }
  have hcase : ∀ i d, lkk (σ.muts ups) i = some d → (∃ u, look ups i = some u ∧ d = u.1) ∨ (look ups i = none ∧ lkk σ i = some d) := fun i d hd' => by
    rw [lkk_muts] at hd'
    cases hq : look ups i with
    | none => rw [hq] at hd'; exact .inr ⟨rfl, hd'⟩
    | some u => rw [hq] at hd'; exact .inl ⟨u, rfl, (Option.some.inj hd').symm⟩
  have hlive : ∀ i, (lkk σ i).isSome = true → (lkk (σ.muts ups) i).isSome = true := fun i hi => by
    rw [lkk_muts]
    cases look ups i with
    | none => exact hi
    | some u => rfl
  have hbx : ∀ i t cs, look (killB (ups.map (·.1)) [] σ.bx) i = some (t, cs) → ∃ cs0, look σ.bx i = some (t, cs0) ∧ cs = cs0.map (CV.kill (ups.map (·.1)) []) := fun i t cs hx => by
    have := look_map (fun q : TypeId × List CV => (q.1, q.2.map (CV.kill (ups.map (·.1)) []))) σ.bx i
    change look (killB (ups.map (·.1)) [] σ.bx) i = _ at this
    rw [this] at hx
    cases hy : look σ.bx i with
    | none => rw [hy] at hx; cases hx
    | some q =>
      rw [hy] at hx
      simp only [Option.map_some, Option.some.injEq, Prod.mk.injEq] at hx
      exact ⟨q.2, by rw [← hx.1], hx.2.symm⟩
  have hbx' : ∀ i, (look σ.bx i).isSome = true → (look (killB (ups.map (·.1)) [] σ.bx) i).isSome = true := fun i hi => by
    have := look_map (fun q : TypeId × List CV => (q.1, q.2.map (CV.kill (ups.map (·.1)) []))) σ.bx i
    change look (killB (ups.map (·.1)) [] σ.bx) i = _ at this
    rw [this]
    simpa using hi
  have hbb : ∀ i x, look (killB (ups.map (·.1)) [] σ.bx) i = some x → ∃ y, look σ.bx i = some y := fun i x hx => by
    obtain ⟨cs0, h1, _⟩ := hbx i x.1 x.2 hx
    exact ⟨_, h1⟩
  exact {
    df := h.df, sz := h.sz
    tm := fun i u hu' => by
      have := look_map (SV.kill (ups.map (·.1)) []) σ.tm i
      change look (killT (ups.map (·.1)) [] σ.tm) i = _ at this
      change look (killT (ups.map (·.1)) [] σ.tm) i = some u at hu'
      rw [this] at hu'
      cases hy : look σ.tm i with
      | none => rw [hy] at hu'; cases hu'
      | some v =>
        rw [hy] at hu'
        simp only [Option.map_some, Option.some.injEq] at hu'
        subst hu'
        exact sv_kill h hK rfl (fun j hj => h.lk j (tk_tm hy j hj)) (h.tm i v hy)
    bx := fun i t cs hx => by
      obtain ⟨cs0, h1, rfl⟩ := hbx i t cs hx
      obtain ⟨us, h2, h3⟩ := h.bx i t cs0 h1
      have hl' : ∀ j ∈ cs0.flatMap CV.keys, (lkk σ j).isSome = true := fun j hj => h.lk j (tk_bx h1 j hj)
      refine ⟨us, (hc.block _ (heap_lt h2) (fun hm => ?_)).trans h2, (cvL_kill hK hl' (cvL_cells h hl' h3) h3).1⟩
      obtain ⟨p, hp, hb'⟩ := List.mem_flatMap.1 hm
      obtain ⟨u, hu'⟩ := hin p hp
      obtain ⟨c', hc', _⟩ := hu p.1 u hu'
      exact h.bk i p.1 _ c' h1 hc' hb'
    ks := fun i d hd' => by
      rcases hcase i d hd' with ⟨u, h1, rfl⟩ | ⟨h1, h2⟩
      · obtain ⟨c, k1, k2, k3, k4, k5⟩ := hu i u h1
        rw [show ({ L with fp := newFp L ups } : Lyt).fp i = u.2 from hnf' i u h1]
        exact ⟨k2, fun e => (h.ks i c k1).2 (k5 e)⟩
      · rw [show ({ L with fp := newFp L ups } : Lyt).fp i = L.fp i from hnf i h1]
        exact ⟨own_keep _ _ _ (h.ks i d h2).1 (fun b hb => hc.block b (h.k_lt h2 b hb) (hout i d h2 h1 b hb)), (h.ks i d h2).2⟩
    b1 := fun i x hx => by obtain ⟨y, hy⟩ := hbb i x hx; exact h.b1 i y hy
    k1 := fun i d hd' b hb => by
      rcases hcase i d hd' with ⟨u, h1, rfl⟩ | ⟨h1, h2⟩
      · obtain ⟨c, k1, k2, k3, k4, k5⟩ := hu i u h1
        rw [show ({ L with fp := newFp L ups } : Lyt).fp i = u.2 from hnf' i u h1] at hb
        rcases k4 b hb with h3 | h3
        · exact hfr b h3
        · exact .inl (Nat.le_trans h.chg.size h3)
      · rw [show ({ L with fp := newFp L ups } : Lyt).fp i = L.fp i from hnf i h1] at hb
        exact h.k1 i d h2 b hb
    kn := fun i d hd' => by
      rcases hcase i d hd' with ⟨u, h1, rfl⟩ | ⟨h1, h2⟩
      · rw [show ({ L with fp := newFp L ups } : Lyt).fp i = u.2 from hnf' i u h1]
        obtain ⟨c, k1, k2, k3, k4, k5⟩ := hu i u h1
        exact k3
      · rw [show ({ L with fp := newFp L ups } : Lyt).fp i = L.fp i from hnf i h1]
        exact h.kn i d h2
    bb := fun i j x y hx hy => by
      obtain ⟨x', hx'⟩ := hbb i x hx
      obtain ⟨y', hy'⟩ := hbb j y hy
      exact h.bb i j x' y' hx' hy'
    bk := fun i j x d hx hd' hm => by
      obtain ⟨x', hx'⟩ := hbb i x hx
      rcases hcase j d hd' with ⟨u, h1, rfl⟩ | ⟨h1, h2⟩
      · rw [show ({ L with fp := newFp L ups } : Lyt).fp j = u.2 from hnf' j u h1] at hm
        obtain ⟨c, k1, k2, k3, k4, k5⟩ := hu j u h1
        rcases k4 _ hm with h3 | h3
        · obtain ⟨p, hp, hb'⟩ := List.mem_flatMap.1 h3
          obtain ⟨u', hu'⟩ := hin p hp
          obtain ⟨c', hc', _⟩ := hu p.1 u' hu'
          exact h.bk i p.1 x' c' hx' hc' hb'
        · have := h.bx_lt hx'
          have e : ({ L with fp := newFp L ups } : Lyt).bb i = L.bb i := rfl
          omega
      · rw [show ({ L with fp := newFp L ups } : Lyt).fp j = L.fp j from hnf j h1] at hm
        exact h.bk i j x' d hx' h2 hm
    kk := fun i j x y hx hy hij b hb hm => by
      rcases hcase i x hx with ⟨u, h1, rfl⟩ | ⟨h1, h2⟩ <;> rcases hcase j y hy with ⟨v, h3, rfl⟩ | ⟨h3, h4⟩
      · rw [show ({ L with fp := newFp L ups } : Lyt).fp i = u.2 from hnf' i u h1] at hb
        rw [show ({ L with fp := newFp L ups } : Lyt).fp j = v.2 from hnf' j v h3] at hm
        exact hd i j u v h1 h3 hij b hb hm
      · rw [show ({ L with fp := newFp L ups } : Lyt).fp i = u.2 from hnf' i u h1] at hb
        rw [show ({ L with fp := newFp L ups } : Lyt).fp j = L.fp j from hnf j h3] at hm
        obtain ⟨c, k1, k2, k3, k4, k5⟩ := hu i u h1
        rcases k4 b hb with h5 | h5
        · exact hout j y h4 h3 b hm h5
        · have := h.k_lt h4 b hm; omega
      · rw [show ({ L with fp := newFp L ups } : Lyt).fp i = L.fp i from hnf i h1] at hb
        rw [show ({ L with fp := newFp L ups } : Lyt).fp j = v.2 from hnf' j v h3] at hm
        obtain ⟨c, k1, k2, k3, k4, k5⟩ := hu j v h3
        rcases k4 b hm with h5 | h5
        · exact hout i x h2 h1 b hb h5
        · have := h.k_lt h2 b hb; omega
      · rw [show ({ L with fp := newFp L ups } : Lyt).fp i = L.fp i from hnf i h1] at hb
        rw [show ({ L with fp := newFp L ups } : Lyt).fp j = L.fp j from hnf j h3] at hm
        exact h.kk i j x y h2 h4 hij b hb hm
    lk := fun i hi => by
      simp only [St.tk, St.muts, List.mem_append, List.mem_flatMap] at hi
      rcases hi with ⟨p, hp, hi⟩ | ⟨p, hp, hi⟩
      · obtain ⟨q, hq, rfl⟩ := List.mem_map.1 hp
        obtain ⟨g1, _⟩ := (kill_keysS hK.sub q.2).1 i hi
        exact hlive i (h.lk i (by simp only [St.tk, List.mem_append, List.mem_flatMap]; exact .inl ⟨q, hq, g1⟩))
      · obtain ⟨q, hq, rfl⟩ := List.mem_map.1 hp
        obtain ⟨g1, _⟩ := kill_keysL hK.sub q.2.2 i (List.mem_flatMap.2 (by simpa using hi))
        exact hlive i (h.lk i (by simp only [St.tk, List.mem_append, List.mem_flatMap]; exact .inr ⟨q, hq, by simpa using g1⟩))
    lb := fun b hb => by
      simp only [St.tb, St.muts, List.mem_flatMap] at hb
      obtain ⟨p, hp, hb⟩ := hb
      obtain ⟨q, hq, rfl⟩ := List.mem_map.1 hp
      have := List.all_eq_true.1 (kill_keysS hK.sub q.2).2 b hb
      exact hbx' b (h.lb b (by simp only [St.tb, List.mem_flatMap]; exact ⟨q, hq, by simpa using this⟩))
    s0 := h.s0
    chg := h.chg.andThen hc (fun x hx => (hfr x hx).symm) }
/-! ### calls that write what they are handed -/
/-- callee's key of a caller's key -/
def ArgWc (km : List (Nat × Nat)) : CV → CV → Prop
  | .key k, u => ∃ i, look km i = some k ∧ u = .key i
  | .dv _ d, u => d.plain = true ∧ u = .dv [] d
  | _, _ => False
def ArgWcs (km : List (Nat × Nat)) : List CV → List CV → Prop
  | [], us => us = []
  | c :: cs, us => ∃ u us', us = u :: us' ∧ ArgWc km c u ∧ ArgWcs km cs us'
def ArgW (km : List (Nat × Nat)) : SV → SV → Prop
  | .one c, u => ∃ c', ArgWc km c c' ∧ u = .one c'
  | .agg cs, u => ∃ cs', ArgWcs km cs cs' ∧ u = .agg cs'
  | _, _ => False
def ArgWs (P : Program) (C : Ctx) (nt : Nat) (σ : St) (km : List (Nat × Nat)) : List Operand → List SV → Prop
  | [], us => us = []
  | x :: xs, us => ∃ v u us', us = u :: us' ∧ Ev P C nt σ x v ∧ ArgW km v u ∧ ArgWs P C nt σ km xs us'
/-- a function that writes the keys ks0, so that they hold ks1 -/
structure WFn (P : Program) (f : FuncId) (us : List SV) (X : SV) (ks0 ks1 : List (Nat × KC)) : Prop where
  ok : FnOk P f [] (ks0.map fun q => (q.1, some q.2)) us fun v σ' => v = X ∧ ∀ i c, look ks1 i = some c → lkk σ' i = some c
/-- the layout that the callee sees -/
def wLyt (L : Lyt) (km : List (Nat × Nat)) : Lyt := { L with fp := fun i => match look km i with | some k => L.fp k | none => [], rv := fun i => match look km i with | some k => L.rv k | none => .bool false }
theorem plain_layW {ok ok' : Nat → Prop} {w w' : World} {d : DV} {v : Value} (hp : d.plain = true) (h : Lay ok w d v) : Lay ok' w' d v :=
  own_lay _ _ _ (lay_plain hp h) (fun b hb => by simp at hb)
theorem argWc_lay {km : List (Nat × Nat)} {C' : Ctx} {c u : CV} {v : Value} (h : ArgWc km c u) (hv : CVr C L w c v) : CVr C' (wLyt L km) w u v ∧ (∀ j ∈ u.keys, (look km j).isSome = true) := by
  cases c with
  | dv K d =>
    simp only [ArgWc] at h
    obtain ⟨h1, rfl⟩ := h
    exact ⟨plain_layW h1 hv, by simp [CV.keys]⟩
  | key k =>
    simp only [ArgWc] at h
    obtain ⟨i, h1, rfl⟩ := h
    simp only [CVr] at hv ⊢
    exact ⟨by simp only [wLyt, h1]; exact hv, by simp [CV.keys, h1]⟩
  | _ => simp [ArgWc] at h
theorem argWcs_lay {km : List (Nat × Nat)} {C' : Ctx} : ∀ {cs us : List CV} {vs : List Value}, ArgWcs km cs us → CVL C L w cs vs → CVL C' (wLyt L km) w us vs ∧ (∀ j ∈ us.flatMap CV.keys, (look km j).isSome = true)
  | [], _, _, h, hv => by simp only [ArgWcs] at h; subst h; exact ⟨hv, by simp⟩
  | c :: cs, _, _, ⟨u, us', e, h1, h2⟩, ⟨v, vs', e', h3, h4⟩ => by
    subst e; subst e'
    obtain ⟨g1, g2⟩ := argWc_lay (C' := C') h1 h3
    obtain ⟨k1, k2⟩ := argWcs_lay (C' := C') h2 h4
    refine ⟨⟨v, vs', rfl, g1, k1⟩, fun j hj => ?_⟩
    simp only [List.flatMap_cons, List.mem_append] at hj
    rcases hj with hj | hj
    · exact g2 j hj
    · exact k2 j hj
theorem argW_lay {km : List (Nat × Nat)} {C' : Ctx} {v u : SV} {r : Value} (h : ArgW km v u) (hv : SVr P C L w v r) : SVr P C' (wLyt L km) w u r ∧ (∀ j ∈ u.keys, (look km j).isSome = true) ∧ u.boxes = [] := by
  cases v with
  | one c =>
    simp only [ArgW] at h
    obtain ⟨c', h1, rfl⟩ := h
    simp only [SVr] at hv ⊢
    obtain ⟨g1, g2⟩ := argWc_lay (C' := C') h1 hv
    exact ⟨g1, g2, rfl⟩
  | agg cs =>
    simp only [ArgW] at h
    obtain ⟨cs', h1, rfl⟩ := h
    simp only [SVr] at hv ⊢
    obtain ⟨vs, e, h2⟩ := hv
    obtain ⟨g1, g2⟩ := argWcs_lay (C' := C') h1 h2
    exact ⟨⟨vs, e, g1⟩, g2, rfl⟩
  | _ => simp [ArgW] at h
theorem argWs_lay (hr : Rel P C nt L σ a w) {km : List (Nat × Nat)} {C' : Ctx} : ∀ {xs : List Operand} {us : List SV}, ArgWs P C nt σ km xs us →
    us.length = xs.length ∧ (∀ (i : Nat) u, us[i]? = some u → ∃ x, xs[i]? = some x ∧ SVr P C' (wLyt L km) w u (a.eval x) ∧ (∀ j ∈ u.keys, (look km j).isSome = true) ∧ u.boxes = [])
  | [], _, h => by simp only [ArgWs] at h; subst h; exact ⟨rfl, fun i u hu => by simp at hu⟩
  | x :: xs, _, ⟨v, u, us', e, h1, h2, h3⟩ => by
    subst e
    obtain ⟨k1, k2⟩ := argWs_lay (C' := C') hr h3
    refine ⟨by simp [k1], fun i u' hu => ?_⟩
    cases i with
    | zero =>
      simp only [List.getElem?_cons_zero, Option.some.injEq] at hu
      subst hu
      exact ⟨x, rfl, argW_lay (C' := C') h2 (h1.run L a w hr)⟩
    | succ i => simpa using k2 i u' (by simpa using hu)
@[reducible] def itK (it : List (Nat × Nat × KC × KC)) : List (Nat × Nat) := it.map fun q => (q.1, q.2.1)
@[reducible] def it0 (it : List (Nat × Nat × KC × KC)) : List (Nat × KC) := it.map fun q => (q.1, { q.2.2.1 with h := true })
@[reducible] def it1 (it : List (Nat × Nat × KC × KC)) : List (Nat × KC) := it.map fun q => (q.1, { q.2.2.2 with h := true })
theorem look_it {β : Type} (g : Nat × KC × KC → β) : ∀ {it : List (Nat × Nat × KC × KC)} {i : Nat} {v : β}, look (it.map fun q => (q.1, g q.2)) i = some v → ∃ q, look it i = some q ∧ v = g q := fun {it i v} h => by
  rw [look_map g it i] at h
  cases hq : look it i with
  | none => rw [hq] at h; cases h
  | some q => rw [hq] at h; exact ⟨q, rfl, (Option.some.inj h).symm⟩
theorem look_itS {β : Type} (g : Nat × KC × KC → β) {it : List (Nat × Nat × KC × KC)} {i : Nat} {q : Nat × KC × KC} (h : look it i = some q) : look (it.map fun q => (q.1, g q.2)) i = some (g q) := by
  rw [look_map g it i, h]; rfl
theorem rel_enterW (hr : Rel P C nt L σ a w) {it : List (Nat × Nat × KC × KC)} {us : List SV} {vs : List Value} (hl : vs.length = us.length) (hlive : ∀ i q, look it i = some q → lkk σ q.1 = some q.2.1) (hmem : ∀ q ∈ it, look it q.1 = some q.2) (hinj : ∀ i j q r, look it i = some q → look it j = some r → q.1 = r.1 → i = j)
    (h : ∀ (i : Nat) u, us[i]? = some u → ∃ x, vs[i]? = some x ∧ SVr P ⟨w, it.flatMap fun q => L.fp q.2.1, (wLyt L (itK it)).rv⟩ (wLyt L (itK it)) w u x ∧ (∀ j ∈ u.keys, (look (itK it) j).isSome = true) ∧ u.boxes = []) :
    Rel P ⟨w, it.flatMap fun q => L.fp q.2.1, (wLyt L (itK it)).rv⟩ us.length (wLyt L (itK it)) ⟨enumS 0 us, [], (it0 it).map fun q => (q.1, some q.2)⟩ ⟨vs.toArray, []⟩ w := by
  have hlk : ∀ i c, lkk ⟨enumS 0 us, [], (it0 it).map fun q => (q.1, some q.2)⟩ i = some c → ∃ q, look it i = some q ∧ c = { q.2.1 with h := true } := fun i c hc => by
    simp only [lkk] at hc
    rw [look_map (fun q : KC => some q) (it0 it) i] at hc
    cases hq : look (it0 it) i with
    | none => rw [hq] at hc; cases hc
    | some d =>
      rw [hq] at hc
      obtain ⟨q, h1, h2⟩ := look_it (fun q => { q.2.1 with h := true }) hq
      exact ⟨q, h1, by rw [← h2]; exact (Option.some.inj hc).symm⟩
  have hfp : ∀ i q, look it i = some q → (wLyt L (itK it)).fp i = L.fp q.1 ∧ (wLyt L (itK it)).rv i = L.rv q.1 := fun i q hq => by
    have : look (itK it) i = some q.1 := look_itS (fun q => q.1) hq
    simp only [wLyt, this]; exact ⟨trivial, trivial⟩
  have hmem' : ∀ i q, look it i = some q → ∀ b ∈ L.fp q.1, b ∈ it.flatMap fun q => L.fp q.2.1 := fun i q hq b hb => List.mem_flatMap.2 ⟨(i, q), look_mem hq, hb⟩
  have hb0 : ∀ u ∈ us, u.boxes = [] := fun u hu => by
    obtain ⟨i, hi⟩ := List.mem_iff_getElem?.1 hu
    obtain ⟨_, _, _, _, h4⟩ := h i u hi
    exact h4
  have hkeys : ∀ p ∈ enumS 0 us, (∀ j ∈ p.2.keys, (look (itK it) j).isSome = true) ∧ p.2.boxes = [] := fun p hp => by
    have key : ∀ (us' : List SV) (n : Nat), (∀ u ∈ us', (∀ j ∈ u.keys, (look (itK it) j).isSome = true) ∧ u.boxes = []) → ∀ p ∈ enumS n us', (∀ j ∈ p.2.keys, (look (itK it) j).isSome = true) ∧ p.2.boxes = [] := fun us' => by
      induction us' with
      | nil => intro n _ p hp; simp [enumS] at hp
      | cons u us' ih =>
        intro n hu p hp
        simp only [enumS, List.mem_cons] at hp
        rcases hp with rfl | hp
        · exact hu u (by simp)
        · exact ih (n + 1) (fun v hv => hu v (by simp [hv])) p hp
    exact key us 0 (fun u hu => by
      obtain ⟨i, hi⟩ := List.mem_iff_getElem?.1 hu
      obtain ⟨_, _, _, h3, h4⟩ := h i u hi
      exact ⟨h3, h4⟩) p hp
  exact {
    df := rfl
    sz := by simp [hl]
    tm := fun i v hv => by
      obtain ⟨_, h4⟩ := enumS_look us 0 i v hv
      obtain ⟨x, h5, h6, _⟩ := h i v (by simpa using h4)
      have : vs.toArray.getD i undef = x := by simp [Array.getD_eq_getD_getElem?, h5]
      rw [this]; exact h6
    bx := fun i t cs h => by cases h
    ks := fun k c hc => by
      obtain ⟨q, h1, rfl⟩ := hlk k c hc
      obtain ⟨f1, f2⟩ := hfp k q h1
      rw [f1, f2]
      exact ⟨(hr.ks q.1 q.2.1 (hlive k q h1)).1, fun _ => f2.symm⟩
    b1 := fun i x h => by cases h
    k1 := fun k c hc b hb => by
      obtain ⟨q, h1, rfl⟩ := hlk k c hc
      rw [(hfp k q h1).1] at hb
      exact .inr (hmem' k q h1 b hb)
    kn := fun k c hc => by
      obtain ⟨q, h1, rfl⟩ := hlk k c hc
      rw [(hfp k q h1).1]
      exact hr.kn q.1 q.2.1 (hlive k q h1)
    bb := fun i j x y h => by cases h
    bk := fun i k x c h => by cases h
    kk := fun i j c d hc hd hij b hb hm => by
      obtain ⟨q, h1, rfl⟩ := hlk i c hc
      obtain ⟨r, h2, rfl⟩ := hlk j d hd
      rw [(hfp i q h1).1] at hb
      rw [(hfp j r h2).1] at hm
      exact hr.kk q.1 r.1 q.2.1 r.2.1 (hlive i q h1) (hlive j r h2) (fun e => hij (hinj i j q r h1 h2 e)) b hb hm
    lk := fun k hk => by
      simp only [St.tk, List.flatMap_nil, List.append_nil, List.mem_flatMap] at hk
      obtain ⟨p, hp, hk⟩ := hk
      have h1 := (hkeys p hp).1 k hk
      obtain ⟨k', hk'⟩ := Option.isSome_iff_exists.1 h1
      obtain ⟨q, h2, _⟩ := look_it (fun q => q.1) hk'
      simp only [lkk]
      have h3 : look (it0 it) k = some { q.2.1 with h := true } := look_itS (fun q => ({ q.2.1 with h := true } : KC)) h2
      rw [look_map (fun q : KC => some q) (it0 it) k, h3]
      rfl
    lb := fun b hb => by
      simp only [St.tb, List.mem_flatMap] at hb
      obtain ⟨p, hp, hb⟩ := hb
      rw [(hkeys p hp).2] at hb
      cases hb
    s0 := fun b hb => by
      obtain ⟨q, hq, hb⟩ := List.mem_flatMap.1 hb
      exact hr.k_lt (hlive q.1 q.2 (hmem q hq)) b hb
    chg := Chg.refl _ _ }
def upsOf (L'' : Lyt) (it : List (Nat × Nat × KC × KC)) : List (Nat × KC × List Nat) := it.map fun q => (q.2.1, { q.2.2.2 with h := q.2.2.1.h }, L''.fp q.1)
/-- the state behind the call -/
def St.wrote (σ : St) (it : List (Nat × Nat × KC × KC)) : St :=
  ⟨killT (it.map fun q => q.2.1) [] σ.tm, killB (it.map fun q => q.2.1) [] σ.bx, (it.map fun q => (q.2.1, some { q.2.2.2 with h := q.2.2.1.h })) ++ σ.ks⟩
theorem muts_wrote {L'' : Lyt} {it : List (Nat × Nat × KC × KC)} : σ.muts (upsOf L'' it) = σ.wrote it := by
  simp only [St.muts, St.wrote, upsOf, List.map_map, Function.comp_def]
theorem callW_wp {o : Oper} {f : FuncId} {xs : List Operand} {ats : Array TypeId} {us : List SV} {X : SV} {it : List (Nat × Nat × KC × KC)} {d : Nat} (ho : o.op = .call { callee := .value (.func f), args := xs.toArray, argTypes := ats }) (hd : o.dst = some d) (hn : Nat.blt d nt = true)
    (hc : ∀ (args : Array Value) (w : World), (callFunc f args).run P w = .ok (.enter f args) w) (hf : WFn P f us X (it0 it) (it1 it)) (ha : ArgWs P C nt σ (itK it) xs us) (hX : X.plain = true)
    (hlive : ∀ i q, look it i = some q → lkk σ q.1 = some q.2.1) (hmem : ∀ q ∈ it, look it q.1 = some q.2) (hinj : ∀ i j q r, look it i = some q → look it j = some r → q.1 = r.1 → i = j) 
    (hr : Rel P C nt L σ a w) {K : Act → World → Prop} {Q' : Exit → Act → World → Prop} (hK : ∀ L2 a' w', Rel P C nt L2 ((σ.wrote it).put d X) a' w' → L2.rv = L.rv → Chg (it.flatMap fun q => L.fp q.2.1) w w' → K a' w') : o.wp P a w K Q' := by
  refine wp_callGo ho hc ?_
  obtain ⟨g1, g2⟩ := argWs_lay (C' := ⟨w, it.flatMap fun q => L.fp q.2.1, (wLyt L (itK it)).rv⟩) hr ha
  have hent := rel_enterW hr (us := us) (vs := xs.map a.eval) (by simp [g1]) hlive hmem hinj (fun i u hu => by
    obtain ⟨x, k1, k2⟩ := g2 i u hu
    exact ⟨a.eval x, by simp [k1], k2⟩)
  refine (hf.ok w _ (wLyt L (itK it)) (xs.map a.eval) (by simp [g1]) hent).mono ?_
  rintro e w' ⟨r, res, σ', L'', rfl, ⟨rfl, h2⟩, h3⟩
  obtain ⟨p1, p2, p3, p4⟩ := sv_plain_ret hX
  have hfp : ∀ i q, look it i = some q → (wLyt L (itK it)).fp i = L.fp q.1 ∧ (wLyt L (itK it)).rv i = L.rv q.1 := fun i q hq => by
    have : look (itK it) i = some q.1 := look_itS (fun q => q.1) hq
    simp only [wLyt, this]; exact ⟨trivial, trivial⟩
  have hk' : ∀ i q, look it i = some q → lkk { σ' with tm := [(0, res)] } i = some { q.2.2 with h := true } := fun i q hq => h2 i _ (look_itS (fun q => ({ q.2.2 with h := true } : KC)) hq)
  have hlu : ∀ k u, look (upsOf L'' it) k = some u → ∃ i q, look it i = some q ∧ q.1 = k ∧ u = ({ q.2.2 with h := q.2.1.h }, L''.fp i) := fun k u hu => by
    have := look_mem hu
    obtain ⟨p, hp, he⟩ := List.mem_map.1 this
    simp only [Prod.mk.injEq] at he
    exact ⟨p.1, p.2, hmem p hp, he.1, he.2.symm⟩
  have hset := hr.setkeys (ups := upsOf L'' it) (w' := w')
    (h3.chg.mono (fun b hb => by
      obtain ⟨q, hq, hb⟩ := List.mem_flatMap.1 hb
      exact List.mem_flatMap.2 ⟨_, List.mem_map.2 ⟨q, hq, rfl⟩, hb⟩))
    (fun k u hu => by
      obtain ⟨i, q, hq, rfl, rfl⟩ := hlu k u hu
      obtain ⟨o1, o2⟩ := h3.ks i _ (hk' i q hq)
      refine ⟨q.2.1, hlive i q hq, ?_, h3.kn i _ (hk' i q hq), fun b hb => ?_, fun e => e⟩
      · have o1' : Own w' (.sl q.2.2.e q.2.2.sz q.2.2.n q.2.2.cs) (L''.rv i) (L''.fp i) := o1
        have o2' : L''.rv i = L.rv q.1 := (o2 rfl).trans (hfp i q hq).2
        show Own w' (.sl q.2.2.e q.2.2.sz q.2.2.n q.2.2.cs) (L.rv q.1) (L''.fp i)
        rw [← o2']; exact o1'
      · rcases h3.k1 i _ (hk' i q hq) b hb with h4 | h4
        · exact .inr h4
        · obtain ⟨p, hp, hb'⟩ := List.mem_flatMap.1 h4
          exact .inl (List.mem_flatMap.2 ⟨_, List.mem_map.2 ⟨p, hp, rfl⟩, hb'⟩))
    (fun k l u v hu hv hkl b hb hm => by
      obtain ⟨i, q, hq, rfl, rfl⟩ := hlu k u hu
      obtain ⟨j, r', hr', rfl, rfl⟩ := hlu l v hv
      exact h3.kk i j _ _ (hk' i q hq) (hk' j r' hr') (fun e => hkl (by subst e; rw [hq] at hr'; rw [Option.some.inj hr'])) b hb hm)
  rw [muts_wrote] at hset
  refine ⟨r, rfl, hK { L with fp := newFp L (upsOf L'' it) } _ _ ?_ rfl h3.chg⟩
  rw [hd]
  refine hset.put (v := res) (by simpa [Nat.blt_eq] using hn) ?_ (by rw [p2]; simp) (by rw [p3]; simp)
  have := sv_ret (C := C) (L := { L with fp := newFp L (upsOf L'' it) }) (m := 0) p1 (by rw [p2]; simp) (h3.tm 0 res (by simp [look_cons]))
  rwa [p4] at this
theorem ef_callW {o : Oper} {f : FuncId} {xs : List Operand} {ats : Array TypeId} {us : List SV} {X : SV} {it : List (Nat × Nat × KC × KC)} {d : Nat} (ho : o.op = .call { callee := .value (.func f), args := xs.toArray, argTypes := ats }) (hd : o.dst = some d) (hn : Nat.blt d nt = true)
    (hc : ∀ (args : Array Value) (w : World), (callFunc f args).run P w = .ok (.enter f args) w) (hf : WFn P f us X (it0 it) (it1 it)) (ha : ArgWs P C nt σ (itK it) xs us) (hX : X.plain = true)
    (hlive : ∀ i q, look it i = some q → lkk σ q.1 = some q.2.1) (hmem : ∀ q ∈ it, look it q.1 = some q.2) (hinj : ∀ i j q r, look it i = some q → look it j = some r → q.1 = r.1 → i = j) :
    Ef P C nt o σ (fun σ' => σ' = (σ.wrote it).put d X) := Ef.mk fun L a w hr K Q' hK => callW_wp ho hd hn hc hf ha hX hlive hmem hinj hr (fun L2 a' w' h _ _ => hK L2 _ a' w' rfl h)
end
end Go.Proofs.Ytbmgommbmhmbgaa
