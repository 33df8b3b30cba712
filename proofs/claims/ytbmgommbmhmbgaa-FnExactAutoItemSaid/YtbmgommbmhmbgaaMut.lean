/-
  The rules of the abstract logic for keys that are written: stores into elements, appends; slices that are made.
-/
import Derived.Test.YtbmgommbmhmbgaaDraw
namespace Go.Proofs.Ytbmgommbmhmbgaa
open Go.RowKit
set_option linter.unusedVariables false
set_option linter.unusedSimpArgs false

def CV.kill (vs rs : List Nat) : CV → CV
  | .dv K d => bif K.any (fun k => vs.contains k) then .any else .dv K d
  | .key k => bif rs.contains k then .any else .key k
  | .nest k o d => bif vs.contains k then .any else .nest k o d
  | c => c
def SV.kill (vs rs : List Nat) : SV → SV
  | .one c => .one (c.kill vs rs)
  | .agg cs => .agg (cs.map (CV.kill vs rs))
  | .tup ts => .tup (ts.map fun t => (t.1, t.2.map (CV.kill vs rs)))
  | .ref K ds => bif K.any (fun k => vs.contains k) then .any else .ref K ds
  | .eptr k o => bif rs.contains k then .any else .eptr k o
  | .opt g v => .opt g (v.kill vs rs)
  | v => v
def killT (vs rs : List Nat) (tm : List (Nat × SV)) : List (Nat × SV) := tm.map fun p => (p.1, p.2.kill vs rs)
def killB (vs rs : List Nat) (bx : List (Nat × TypeId × List CV)) : List (Nat × TypeId × List CV) := bx.map fun p => (p.1, p.2.1, p.2.2.map (CV.kill vs rs))
section
variable {P : Program} {C : Ctx} {nt : Nat} {L L' : Lyt} {σ : St} {a : Act} {w w' : World} {vs rs : List Nat}
structure KillOk (C : Ctx) (L L' : Lyt) (w w' : World) (live : Nat → Prop) (vs rs : List Nat) : Prop where
  key : ∀ k, live k → k ∉ vs → L'.fp k = L.fp k ∧ ∀ b ∈ L.fp k, b < w.heap.size → w'.heap[b]? = w.heap[b]?
  root : ∀ k, live k → k ∉ rs → L'.rv k = L.rv k
  sub : ∀ k, k ∉ vs → k ∉ rs
  old : ∀ b, b < C.w0.heap.size → b ∉ C.S0 → w'.heap[b]? = w.heap[b]?
theorem KillOk.keeps {live : Nat → Prop} (h : KillOk C L L' w w' live vs rs) {ks : List Nat} (hl : ∀ k ∈ ks, live k) (hv : ∀ k ∈ ks, k ∉ vs) : Keeps2 C L L' w w' ks :=
  ⟨fun k hk => ⟨(h.key k (hl k hk) (hv k hk)).1, h.root k (hl k hk) (h.sub k (hv k hk)), (h.key k (hl k hk) (hv k hk)).2⟩, h.old⟩
theorem any_false {K vs : List Nat} (h : (K.any fun k => vs.contains k) = false) : ∀ k ∈ K, k ∉ vs := by
  intro k hk hv
  rw [List.any_eq_false] at h
  exact h k hk (by simpa using hv)
theorem cv_kill {live : Nat → Prop} (h : KillOk C L L' w w' live vs rs) {c : CV} {v : Value} (hl : ∀ k ∈ c.keys, live k) (h1 : v.oneCell' = true) (hc : CVr C L w c v) : CVr C L' w' (c.kill vs rs) v ∧ (c.kill vs rs).keys.all (fun k => c.keys.contains k && !rs.contains k) = true := by
  cases c with
  | dv K d =>
    simp only [CV.kill]
    cases hb : K.any fun k => vs.contains k with
    | true => exact ⟨h1, rfl⟩
    | false =>
      have h2 := any_false hb
      refine ⟨cv_conv (c := .dv K d) (h.keeps hl h2) hc, ?_⟩
      rw [List.all_eq_true]
      intro k hk
      have := h.sub k (h2 k hk)
      simp only [cond_false, CV.keys] at hk
      simp [CV.keys, hk, this]
  | key k =>
    simp only [CV.kill]
    cases hb : rs.contains k with
    | true => exact ⟨h1, rfl⟩
    | false =>
      have h2 : k ∉ rs := by simpa using hb
      simp only [CVr] at hc
      refine ⟨?_, by simp [CV.keys, h2]⟩
      simp only [cond_false, CVr]
      rw [hc, h.root k (hl k (by simp [CV.keys])) h2]
  | nest k o d =>
    simp only [CV.kill]
    cases hb : vs.contains k with
    | true => exact ⟨h1, rfl⟩
    | false =>
      have h2 : k ∉ vs := by simpa using hb
      have h3 := h.sub k h2
      refine ⟨cv_conv (c := .nest k o d) (h.keeps hl (by intro j hj; simp only [CV.keys, List.mem_singleton] at hj; rw [hj]; exact h2)) hc, by simp [CV.keys, h3]⟩
  | nil => exact ⟨hc, rfl⟩
  | any => exact ⟨hc, rfl⟩
theorem cvL_kill {live : Nat → Prop} (h : KillOk C L L' w w' live vs rs) : ∀ {cs : List CV} {us : List Value}, (∀ k ∈ cs.flatMap CV.keys, live k) → (∀ u ∈ us, u.oneCell' = true) → CVL C L w cs us → CVL C L' w' (cs.map (CV.kill vs rs)) us ∧ ∀ k ∈ (cs.map (CV.kill vs rs)).flatMap CV.keys, k ∈ cs.flatMap CV.keys ∧ k ∉ rs
  | [], _, _, _, hc => ⟨hc, by simp⟩
  | c :: cs, _, hl, h1, ⟨v, us', e, h2, h3⟩ => by
    subst e
    obtain ⟨g1, g2⟩ := cv_kill h (fun k hk => hl k (by simp only [List.flatMap_cons, List.mem_append]; exact .inl hk)) (h1 v (by simp)) h2
    obtain ⟨k1, k2⟩ := cvL_kill h (fun k hk => hl k (by simp only [List.flatMap_cons, List.mem_append]; exact .inr hk)) (fun u hu => h1 u (by simp [hu])) h3
    refine ⟨⟨v, us', rfl, g1, k1⟩, fun k hk => ?_⟩
    simp only [List.map_cons, List.flatMap_cons, List.mem_append] at hk ⊢
    rcases hk with hk | hk
    · have := List.all_eq_true.1 g2 k hk
      simp only [Bool.and_eq_true, List.contains_iff_mem, Bool.not_eq_true', ← Bool.not_eq_true] at this
      exact ⟨.inl this.1, this.2⟩
    · exact ⟨.inr (k2 k hk).1, (k2 k hk).2⟩
theorem tvL_kill {live : Nat → Prop} (h : KillOk C L L' w w' live vs rs) : ∀ {ts : List (Bool × List CV)} {us : List Value}, (∀ k ∈ ts.flatMap (fun t => t.2.flatMap CV.keys), live k) → (∀ g cs xs, (g, cs) ∈ ts → CVL C L w cs xs → ∀ u ∈ xs, u.oneCell' = true) → TVL C L w ts us →
    TVL C L' w' (ts.map fun t => (t.1, t.2.map (CV.kill vs rs))) us ∧ ∀ k ∈ (ts.map fun t => (t.1, t.2.map (CV.kill vs rs))).flatMap (fun t => t.2.flatMap CV.keys), k ∈ ts.flatMap (fun t => t.2.flatMap CV.keys) ∧ k ∉ rs
  | [], _, _, _, hc => ⟨hc, by simp⟩
  | (g, cs) :: ts, _, hl, h1, ⟨xs, v, us', e, h2, h3, h4⟩ => by
    subst e
    obtain ⟨g1, g2⟩ := cvL_kill h (fun k hk => hl k (by simp only [List.flatMap_cons, List.mem_append]; exact .inl hk)) (h1 g cs xs (by simp) h2) h2
    obtain ⟨k1, k2⟩ := tvL_kill h (fun k hk => hl k (by simp only [List.flatMap_cons, List.mem_append]; exact .inr hk)) (fun g' cs' xs' hm => h1 g' cs' xs' (by simp [hm])) h4
    refine ⟨⟨xs, v, us', rfl, g1, h3, k1⟩, fun k hk => ?_⟩
    simp only [List.map_cons, List.flatMap_cons, List.mem_append] at hk ⊢
    rcases hk with hk | hk
    · exact ⟨.inl (g2 k hk).1, (g2 k hk).2⟩
    · exact ⟨.inr (k2 k hk).1, (k2 k hk).2⟩
theorem kill_keysC (hsub : ∀ k, k ∉ vs → k ∉ rs) (c : CV) : ∀ k ∈ (c.kill vs rs).keys, k ∈ c.keys ∧ k ∉ rs := by
  intro k hk
  cases c with
  | dv K d =>
    simp only [CV.kill] at hk
    cases hbb : K.any fun k => vs.contains k with
    | true => rw [hbb] at hk; simp [CV.keys] at hk
    | false => rw [hbb] at hk; simp only [cond_false] at hk; exact ⟨hk, hsub k (any_false hbb k hk)⟩
  | key j =>
    simp only [CV.kill] at hk
    cases hbb : rs.contains j with
    | true => rw [hbb] at hk; simp [CV.keys] at hk
    | false => rw [hbb] at hk; simp only [cond_false, CV.keys, List.mem_singleton] at hk ⊢; exact ⟨hk, by rw [hk]; simpa using hbb⟩
  | nest j o d =>
    simp only [CV.kill] at hk
    cases hbb : vs.contains j with
    | true => rw [hbb] at hk; simp [CV.keys] at hk
    | false => rw [hbb] at hk; simp only [cond_false, CV.keys, List.mem_singleton] at hk ⊢; exact ⟨hk, by rw [hk]; exact hsub j (by simpa using hbb)⟩
  | nil => simp [CV.kill, CV.keys] at hk
  | any => simp [CV.kill, CV.keys] at hk
theorem kill_keysL (hsub : ∀ k, k ∉ vs → k ∉ rs) (cs : List CV) : ∀ k ∈ (cs.map (CV.kill vs rs)).flatMap CV.keys, k ∈ cs.flatMap CV.keys ∧ k ∉ rs := by
  intro k hk
  obtain ⟨c', hc', hk'⟩ := List.mem_flatMap.1 hk
  obtain ⟨c, hc, rfl⟩ := List.mem_map.1 hc'
  exact ⟨List.mem_flatMap.2 ⟨c, hc, (kill_keysC hsub c k hk').1⟩, (kill_keysC hsub c k hk').2⟩
theorem kill_keysS (hsub : ∀ k, k ∉ vs → k ∉ rs) : ∀ s : SV, (∀ k ∈ (s.kill vs rs).keys, k ∈ s.keys ∧ k ∉ rs) ∧ (s.kill vs rs).boxes.all (fun b => s.boxes.contains b) = true
  | .one c => ⟨kill_keysC hsub c, rfl⟩
  | .agg cs => ⟨kill_keysL hsub cs, rfl⟩
  | .tup ts => by
    refine ⟨fun k hk => ?_, rfl⟩
    simp only [SV.kill, SV.keys] at hk ⊢
    obtain ⟨t', ht', hk'⟩ := List.mem_flatMap.1 hk
    obtain ⟨t, ht, rfl⟩ := List.mem_map.1 ht'
    exact ⟨List.mem_flatMap.2 ⟨t, ht, (kill_keysL hsub t.2 k hk').1⟩, (kill_keysL hsub t.2 k hk').2⟩
  | .box b off => ⟨by simp [SV.kill, SV.keys], by simp [SV.kill, SV.boxes]⟩
  | .ref K ds => by
    simp only [SV.kill]
    cases hbb : K.any fun k => vs.contains k with
    | true => exact ⟨by simp [SV.keys], by simp [SV.boxes]⟩
    | false => exact ⟨fun k hk => ⟨hk, hsub k (any_false hbb k hk)⟩, by simp [SV.boxes]⟩
  | .eptr j o => by
    simp only [SV.kill]
    cases hbb : rs.contains j with
    | true => exact ⟨by simp [SV.keys], by simp [SV.boxes]⟩
    | false => exact ⟨fun k hk => by simp only [cond_false, SV.keys, List.mem_singleton] at hk ⊢; exact ⟨hk, by rw [hk]; simpa using hbb⟩, by simp [SV.boxes]⟩
  | .fn f caps => ⟨by simp [SV.kill, SV.keys], by simp [SV.kill, SV.boxes]⟩
  | .clo f caps => ⟨by simp [SV.kill, SV.keys], by simp [SV.kill, SV.boxes]⟩
  | .opt g v => kill_keysS hsub v
  | .any => ⟨by simp [SV.kill, SV.keys], by simp [SV.kill, SV.boxes]⟩
theorem sv_kill (hr : Rel P C nt L σ a w) (h : KillOk C L L' w w' (fun k => (lkk σ k).isSome = true) vs rs) (hb : L'.bb = L.bb) : ∀ {s : SV} {r : Value}, (∀ k ∈ s.keys, (lkk σ k).isSome = true) → SVr P C L w s r → SVr P C L' w' (s.kill vs rs) r
  | .one c, r, hl, hs => by
    simp only [SVr, SV.kill] at hs ⊢
    exact (cv_kill h hl (cv_cell hr hl hs) hs).1
  | .agg cs, r, hl, hs => by
    simp only [SVr, SV.kill] at hs ⊢
    obtain ⟨us, e, h1⟩ := hs
    exact ⟨us, e, (cvL_kill h hl (cvL_cells hr hl h1) h1).1⟩
  | .tup ts, r, hl, hs => by
    simp only [SVr, SV.kill] at hs ⊢
    obtain ⟨us, e, h1⟩ := hs
    exact ⟨us, e, (tvL_kill h hl (fun g cs xs hm hx => cvL_cells hr (fun k hk => hl k (List.mem_flatMap.2 ⟨_, hm, hk⟩)) hx) h1).1⟩
  | .box b off, r, hl, hs => by
    simp only [SVr, SV.kill] at hs ⊢
    rw [hb]; exact hs
  | .ref K ds, r, hl, hs => by
    simp only [SV.kill]
    cases hbb : K.any fun k => vs.contains k with
    | true => simp only [cond_true, SVr]
    | false => exact sv_conv (s := .ref K ds) (h.keeps hl (any_false hbb)) (by simp [SV.boxes]) hs
  | .eptr k o, r, hl, hs => by
    simp only [SV.kill]
    cases hbb : rs.contains k with
    | true => simp only [cond_true, SVr]
    | false =>
      have h2 : k ∉ rs := by simpa using hbb
      simp only [SVr, cond_false] at hs ⊢
      obtain ⟨g, n, c, e1, e2⟩ := hs
      exact ⟨g, n, c, by rw [h.root k (hl k (by simp [SV.keys])) h2]; exact e1, e2⟩
  | .fn f caps, r, _, hs => by simp only [SVr, SV.kill] at hs ⊢; obtain ⟨vs, e, h1⟩ := hs; exact ⟨vs, e, refL_conv (h.keeps (ks := []) (by simp) (by simp)) h1⟩
  | .clo f caps, r, _, hs => by simp only [SVr, SV.kill] at hs ⊢; rw [hb]; exact hs
  | .opt g v, r, hl, hs => by
    simp only [SVr, SV.kill] at hs ⊢
    exact ⟨fun e => sv_kill hr h hb (s := v) hl (hs.1 e), hs.2⟩
  | .any, _, _, _ => by simp only [SVr, SV.kill]
/-- key k is written, and the keys js have gone into it -/
def St.mut (σ : St) (k : Nat) (js : List Nat) (same : Bool) (c' : KC) : St :=
  ⟨killT (k :: js) (bif same then js else k :: js) σ.tm, killB (k :: js) (bif same then js else k :: js) σ.bx, (k, some c') :: (js.map fun j => (j, none)) ++ σ.ks⟩
theorem look_dead (js : List Nat) (l : List (Nat × Option KC)) (i : Nat) : look ((js.map fun j => (j, none)) ++ l) i = if i ∈ js then some none else look l i := by
  induction js with
  | nil => simp
  | cons j js ih =>
    rw [List.map_cons, List.cons_append, look_cons, ih]
    by_cases h : i = j
    · simp [h]
    · simp [h]
theorem Rel.setkey (h : Rel P C nt L σ a w) {k : Nat} {c c' : KC} {js : List Nat} {same : Bool} {v' : Value} {f' : List Nat} (hk : lkk σ k = some c) (hkj : k ∉ js) (hc : Chg (L.fp k) w w') (ho : Own w' (.sl c'.e c'.sz c'.n c'.cs) v' f') (hn : f'.Nodup)
    (hf : ∀ b ∈ f', b ∈ L.fp k ∨ (∃ j ∈ js, b ∈ L.fp j) ∨ w.heap.size ≤ b) (hj : ∀ j ∈ js, (lkk σ j).isSome = true) (hs : same = true → v' = L.rv k) (hh : c'.h = true → c.h = true ∧ same = true) :
    Rel P C nt { L with fp := fun i => if i = k then f' else L.fp i, rv := fun i => if i = k then v' else L.rv i } (σ.mut k js same c') a w' := by
  let L' : Lyt := { L with fp := fun i => if i = k then f' else L.fp i, rv := fun i => if i = k then v' else L.rv i }
  let rs := bif same then js else k :: js
  have hl : ∀ i, lkk (σ.mut k js same c') i = if i = k then some c' else if i ∈ js then none else lkk σ i := fun i => by
    simp only [lkk, St.mut, List.cons_append, look_cons, look_dead]
    split
    · rfl
    · split <;> rfl
  have hlive : ∀ i, (lkk σ i).isSome = true → i ∉ rs → (lkk (σ.mut k js same c') i).isSome = true := fun i hi hr => by
    rw [hl]
    split
    · rfl
    · rw [if_neg]
      · exact hi
      · intro hm
        apply hr
        simp only [rs]
        cases same <;> simp [hm]
  have hK : KillOk C L L' w w' (fun i => (lkk σ i).isSome = true) (k :: js) rs := {
    key := fun i hi hv => by
      have hik : i ≠ k := fun e => hv (by simp [e])
      obtain ⟨d, hd⟩ := Option.isSome_iff_exists.1 hi
      exact ⟨if_neg hik, fun b hb hlt => hc.block b hlt (fun hm => h.kk i k d c hd hk hik b hb hm)⟩
    root := fun i hi hv => by
      by_cases hik : i = k
      · subst hik
        have : same = true := by
          cases hsm : same with
          | true => rfl
          | false => exact absurd (by simp [rs, hsm]) hv
        simp only [L', if_true]; exact hs this
      · exact if_neg hik
    sub := fun i hi hr => hi (by
      simp only [rs] at hr
      cases same with
      | true => simp only [cond_true] at hr; simp [hr]
      | false => simpa using hr)
    old := fun b hb hs0 => hc.block b (Nat.lt_of_lt_of_le hb h.chg.size) (fun hm => by
      rcases h.k1 k c hk b hm with h1 | h1
      · omega
      · exact hs0 h1) }
  have hfp : ∀ i d, lkk σ i = some d → i ≠ k → i ∉ js → ∀ b ∈ f', b ∉ L.fp i := fun i d hd hik hij b hb hm => by
    rcases hf b hb with h1 | ⟨j, hj', h1⟩ | h1
    · exact h.kk i k d c hd hk hik b hm h1
    · obtain ⟨e, he⟩ := Option.isSome_iff_exists.1 (hj j hj')
      exact h.kk i j d e hd he (fun e => hij (by rw [e]; exact hj')) b hm h1
    · have := h.k_lt hd b hm; omega
  have hcase : ∀ i d, lkk (σ.mut k js same c') i = some d → (i = k ∧ d = c') ∨ (i ≠ k ∧ i ∉ js ∧ lkk σ i = some d) := fun i d hd => by
    rw [hl] at hd
    split at hd
    · rename_i e; exact .inl ⟨e, by simpa using hd.symm⟩
    · rename_i e
      split at hd
      · cases hd
      · rename_i e2; exact .inr ⟨e, e2, hd⟩
  have hbx : ∀ i t cs, look (killB (k :: js) rs σ.bx) i = some (t, cs) → ∃ cs0, look σ.bx i = some (t, cs0) ∧ cs = cs0.map (CV.kill (k :: js) rs) := fun i t cs hx => by
    have := look_map (fun q : TypeId × List CV => (q.1, q.2.map (CV.kill (k :: js) rs))) σ.bx i
    change look (killB (k :: js) rs σ.bx) i = _ at this
    rw [this] at hx
    cases hy : look σ.bx i with
    | none => rw [hy] at hx; cases hx
    | some q =>
      rw [hy] at hx
      simp only [Option.map_some, Option.some.injEq, Prod.mk.injEq] at hx
      exact ⟨q.2, by rw [← hx.1], hx.2.symm⟩
  have hbx' : ∀ i, (look σ.bx i).isSome = true → (look (killB (k :: js) rs σ.bx) i).isSome = true := fun i hi => by
    have := look_map (fun q : TypeId × List CV => (q.1, q.2.map (CV.kill (k :: js) rs))) σ.bx i
    change look (killB (k :: js) rs σ.bx) i = _ at this
    rw [this]
    simpa using hi
  have hbb : ∀ i x, look (killB (k :: js) rs σ.bx) i = some x → ∃ y, look σ.bx i = some y := fun i x hx => by
    obtain ⟨cs0, h1, _⟩ := hbx i x.1 x.2 hx
    exact ⟨_, h1⟩
  exact {
    df := h.df, sz := h.sz
    tm := fun i u hu => by
      have := look_map (SV.kill (k :: js) rs) σ.tm i
      change look (killT (k :: js) rs σ.tm) i = _ at this
      change look (killT (k :: js) rs σ.tm) i = some u at hu
      rw [this] at hu
      cases hy : look σ.tm i with
      | none => rw [hy] at hu; cases hu
      | some v =>
        rw [hy] at hu
        simp only [Option.map_some, Option.some.injEq] at hu
        subst hu
        exact sv_kill h hK rfl (fun j hj => h.lk j (tk_tm hy j hj)) (h.tm i v hy)
    bx := fun i t cs hx => by
      obtain ⟨cs0, h1, rfl⟩ := hbx i t cs hx
      obtain ⟨us, h2, h3⟩ := h.bx i t cs0 h1
      have hl' : ∀ j ∈ cs0.flatMap CV.keys, (lkk σ j).isSome = true := fun j hj => h.lk j (tk_bx h1 j hj)
      exact ⟨us, (hc.block _ (heap_lt h2) (h.bk i k _ c h1 hk)).trans h2, (cvL_kill hK hl' (cvL_cells h hl' h3) h3).1⟩
    ks := fun i d hd => by
      rcases hcase i d hd with ⟨rfl, rfl⟩ | ⟨h1, h2, h3⟩
      · simp only [if_true]
        refine ⟨ho, fun e => ?_⟩
        obtain ⟨e1, e2⟩ := hh e
        rw [hs e2]; exact (h.ks i c hk).2 e1
      · simp only [if_neg h1]
        exact ⟨own_keep _ _ _ (h.ks i d h3).1 (fun b hb => hc.block b (h.k_lt h3 b hb) (fun hm => h.kk i k d c h3 hk h1 b hb hm)), (h.ks i d h3).2⟩
    b1 := fun i x hx => by obtain ⟨y, hy⟩ := hbb i x hx; exact h.b1 i y hy
    k1 := fun i d hd => by
      rcases hcase i d hd with ⟨rfl, rfl⟩ | ⟨h1, h2, h3⟩
      · simp only [if_true]
        intro b hb
        rcases hf b hb with h1 | ⟨j, hj', h1⟩ | h1
        · exact h.k1 i c hk b h1
        · obtain ⟨e, he⟩ := Option.isSome_iff_exists.1 (hj j hj')
          exact h.k1 j e he b h1
        · exact .inl (Nat.le_trans h.chg.size h1)
      · simp only [if_neg h1]; exact h.k1 i d h3
    kn := fun i d hd => by
      rcases hcase i d hd with ⟨rfl, rfl⟩ | ⟨h1, h2, h3⟩
      · simp only [if_true]; exact hn
      · simp only [if_neg h1]; exact h.kn i d h3
    bb := fun i j x y hx hy => by
      obtain ⟨x', hx'⟩ := hbb i x hx
      obtain ⟨y', hy'⟩ := hbb j y hy
      exact h.bb i j x' y' hx' hy'
    bk := fun i j x d hx hd => by
      obtain ⟨x', hx'⟩ := hbb i x hx
      rcases hcase j d hd with ⟨rfl, rfl⟩ | ⟨h1, h2, h3⟩
      · simp only [if_true]
        intro hm
        rcases hf _ hm with h1 | ⟨l, hl', h1⟩ | h1
        · exact h.bk i j x' c hx' hk h1
        · obtain ⟨e, he⟩ := Option.isSome_iff_exists.1 (hj l hl')
          exact h.bk i l x' e hx' he h1
        · have := h.bx_lt hx'; omega
      · simp only [if_neg h1]; exact h.bk i j x' d hx' h3
    kk := fun i j x y hx hy hij => by
      rcases hcase i x hx with ⟨rfl, rfl⟩ | ⟨h1, h2, h3⟩ <;> rcases hcase j y hy with ⟨rfl, rfl⟩ | ⟨h4, h5, h6⟩
      · exact absurd rfl hij
      · simp only [if_true, if_neg h4]; exact fun b hb => hfp j y h6 h4 h5 b hb
      · simp only [if_true, if_neg h1]; exact fun b hb hb' => hfp i x h3 h1 h2 b hb' hb
      · simp only [if_neg h1, if_neg h4]; exact h.kk i j x y h3 h6 hij
    lk := fun i hi => by
      simp only [St.tk, St.mut, List.mem_append, List.mem_flatMap] at hi
      rcases hi with ⟨p, hp, hi⟩ | ⟨p, hp, hi⟩
      · obtain ⟨q, hq, rfl⟩ := List.mem_map.1 hp
        have hl' : ∀ j ∈ q.2.keys, (lkk σ j).isSome = true := fun j hj => h.lk j (by simp only [St.tk, List.mem_append, List.mem_flatMap]; exact .inl ⟨q, hq, hj⟩)
        obtain ⟨g1, g2⟩ := (kill_keysS hK.sub q.2).1 i hi
        exact hlive i (hl' i g1) g2
      · obtain ⟨q, hq, rfl⟩ := List.mem_map.1 hp
        obtain ⟨g1, g2⟩ := kill_keysL hK.sub q.2.2 i (List.mem_flatMap.2 (by simpa using hi))
        exact hlive i (h.lk i (by simp only [St.tk, List.mem_append, List.mem_flatMap]; exact .inr ⟨q, hq, by simpa using g1⟩)) g2
    lb := fun b hb => by
      simp only [St.tb, St.mut, List.mem_flatMap] at hb
      obtain ⟨p, hp, hb⟩ := hb
      obtain ⟨q, hq, rfl⟩ := List.mem_map.1 hp
      have := List.all_eq_true.1 (kill_keysS hK.sub q.2).2 b hb
      exact hbx' b (h.lb b (by simp only [St.tb, List.mem_flatMap]; exact ⟨q, hq, by simpa using this⟩))
    s0 := h.s0
    chg := h.chg.andThen hc (fun x hx => (h.k1 k c hk x hx).symm) }
/-! ### cells that may be handed over to a key -/
def OwC (σ : St) : CV → DV → List Nat → Prop
  | .dv _ d', d, js => d' = d ∧ d.plain = true ∧ js = []
  | .key j, d, js => (∃ c, lkk σ j = some c ∧ d = .sl c.e c.sz c.n c.cs) ∧ js = [j]
  | .nil, d, js => (∃ e sz, 0 < sz ∧ d = .sl e sz 0 []) ∧ js = []
  | _, _, _ => False
def OwCs (σ : St) : List CV → List DV → List Nat → Prop
  | [], ds, js => ds = [] ∧ js = []
  | c :: cs, ds, js => ∃ d ds' j1 j2, ds = d :: ds' ∧ js = j1 ++ j2 ∧ OwC σ c d j1 ∧ OwCs σ cs ds' j2
theorem owC_own (hr : Rel P C nt L σ a w) {c : CV} {d : DV} {js : List Nat} {v : Value} (h : OwC σ c d js) (hv : CVr C L w c v) : Own w d v (js.flatMap L.fp) ∧ ∀ j ∈ js, (lkk σ j).isSome = true := by
  cases c with
  | dv K d' =>
    simp only [OwC] at h
    obtain ⟨rfl, h1, rfl⟩ := h
    exact ⟨lay_plain h1 hv, by simp⟩
  | key j =>
    simp only [OwC] at h
    obtain ⟨⟨c, h1, rfl⟩, rfl⟩ := h
    simp only [CVr] at hv
    subst hv
    simp only [List.flatMap_cons, List.flatMap_nil, List.append_nil]
    exact ⟨(hr.ks j c h1).1, by simp [h1]⟩
  | nil =>
    simp only [OwC] at h
    obtain ⟨⟨e, sz, h1, rfl⟩, rfl⟩ := h
    simp only [CVr] at hv
    subst hv
    exact ⟨own_nil w e sz h1, by simp⟩
  | nest => simp [OwC] at h
  | any => simp [OwC] at h
theorem owCs_own (hr : Rel P C nt L σ a w) : ∀ {cs : List CV} {ds : List DV} {js : List Nat} {vs : List Value}, OwCs σ cs ds js → CVL C L w cs vs → OwnL w ds vs (js.flatMap L.fp) ∧ (∀ j ∈ js, (lkk σ j).isSome = true) ∧ ds.length = cs.length
  | [], _, _, _, h, hv => by
    simp only [OwCs] at h; obtain ⟨rfl, rfl⟩ := h
    simp only [CVL] at hv; subst hv
    simp [OwnL]
  | c :: cs, _, _, _, ⟨d, ds', j1, j2, e1, e2, h1, h2⟩, ⟨v, vs', e3, h3, h4⟩ => by
    subst e1; subst e2; subst e3
    obtain ⟨g1, g2⟩ := owC_own hr h1 h3
    obtain ⟨k1, k2, k3⟩ := owCs_own hr h2 h4
    refine ⟨?_, fun j hj => ?_, by simp [k3]⟩
    · simp only [OwnL]
      exact ⟨v, vs', _, _, rfl, by rw [List.flatMap_append], g1, k1⟩
    · rcases List.mem_append.1 hj with hj | hj
      · exact g2 j hj
      · exact k2 j hj
theorem nodup_flat (hr : Rel P C nt L σ a w) : ∀ {js : List Nat}, js.Nodup → (∀ j ∈ js, (lkk σ j).isSome = true) → (js.flatMap L.fp).Nodup
  | [], _, _ => by simp
  | j :: js, hn, hl => by
    obtain ⟨h1, h2⟩ := List.nodup_cons.1 hn
    obtain ⟨c, hc⟩ := Option.isSome_iff_exists.1 (hl j (by simp))
    rw [List.flatMap_cons, List.nodup_append]
    refine ⟨hr.kn j c hc, nodup_flat hr h2 (fun i hi => hl i (by simp [hi])), fun x hx y hy e => ?_⟩
    subst e
    obtain ⟨i, hi, hy'⟩ := List.mem_flatMap.1 hy
    obtain ⟨d, hd⟩ := Option.isSome_iff_exists.1 (hl i (by simp [hi]))
    exact hr.kk j i c d hc hd (fun e => h1 (by rw [e]; exact hi)) x hx hy'
theorem ownL_setR {w : World} {cs ds : List DV} {vs us : List Value} {f g : List Nat} {off : Nat} (h : OwnL w cs vs f) (h2 : OwnL w ds us g) (hle : off + ds.length ≤ cs.length) : ∃ f1 f3, (∀ b, b ∈ f1 ++ f3 → b ∈ f) ∧ (f.Nodup → (f1 ++ f3).Nodup) ∧ OwnL w (setR off ds cs) (setR off us vs) (f1 ++ g ++ f3) := by
  have e1 : cs = cs.take off ++ ((cs.drop off).take ds.length ++ cs.drop (off + ds.length)) := by
    rw [← List.drop_drop, List.take_append_drop, List.take_append_drop]
  rw [e1] at h
  obtain ⟨u1, u2, f1, f2, rfl, rfl, k1, k2⟩ := ownL_split _ _ _ _ h
  obtain ⟨u3, u4, f3, f4, rfl, rfl, k3, k4⟩ := ownL_split _ _ _ _ k2
  have l1 := ownL_len _ _ _ k1
  have l3 := ownL_len _ _ _ k3
  have l2 := ownL_len _ _ _ h2
  simp only [List.length_take, List.length_drop] at l1 l3
  refine ⟨f1, f4, fun b hb => ?_, fun hn => ?_, ?_⟩
  · simp only [List.mem_append] at hb ⊢
    rcases hb with hb | hb
    · exact .inl hb
    · exact .inr (.inr hb)
  · rw [List.nodup_append] at hn ⊢
    obtain ⟨n1, n2, n3⟩ := hn
    rw [List.nodup_append] at n2
    exact ⟨n1, n2.2.1, fun x hx y hy => n3 x hx y (by simp [hy])⟩
  · unfold setR
    have e2 : (u1 ++ (u3 ++ u4)).take off = u1 := List.take_left' (by omega)
    have e3 : (u1 ++ (u3 ++ u4)).drop (off + us.length) = u4 := by
      rw [← List.append_assoc]
      exact List.drop_left' (by simp; omega)
    rw [e2, e3]
    exact ownL_append _ _ _ _ _ _ (ownL_append _ _ _ _ _ _ k1 h2) k4
theorem setR_len {α : Type} {off : Nat} {us cs : List α} (h : off + us.length ≤ cs.length) : (setR off us cs).length = cs.length := by
  simp [setR]; omega
/-- an element's cells are written -/
theorem ef_storeE {T : TT} {o : Oper} {x y : Operand} (hT : TTOk P T) {t k off sz by_ : Nat} {zc : List CV} {v : SV} {p : Bool × List CV} {c : KC} {ds : List DV} {js : List Nat} (ho : o.op = .store t x y) (hd : o.dst = none) (ht : look T.el t = some (sz, by_, zc)) (hx : Ev P C nt σ x (.eptr k off)) (hy : Ev P C nt σ y v) (hp : v.part = some p) (hkv : svOk σ v = true)
    (hk : lkk σ k = some c) (hE : Nat.blt c.e 1000000 = true) (how : OwCs σ p.2 ds js) (hn : js.Nodup) (hkj : k ∉ js) (hl : p.2.length = sz) (hle : off + sz ≤ c.cs.length) : Ef P C nt o σ (fun σ' => σ' = σ.mut k js true { c with cs := setR off ds c.cs }) := Ef.mk fun L a w hr K Q hK => by
  obtain ⟨us, h1, h2, h3⟩ := sv_cells hr hp hkv (hy.run L a w hr)
  have h4 := hx.run L a w hr
  simp only [SVr] at h4
  obtain ⟨g, n, cap0, e1, e2⟩ := h4
  obtain ⟨o1, o2, o3⟩ := owCs_own hr how h2
  have hown := (hr.ks k c hk).1
  simp only [Own] at hown
  obtain ⟨vs, f, e3, h5, h6, h7, h8⟩ := hown
  obtain ⟨inf, z, g1, g2, _⟩ := hT.el t sz by_ zc ht
  have hus : us.length = sz := by rw [cvL_len h2]; exact hl
  have hvl : vs.length = c.cs.length := ownL_len _ _ _ h8
  have hE' : c.e < 1000000 := by simpa [Nat.blt_eq] using hE
  have h7 := h7.1 hE'
  rcases h7.2 with ⟨e4, _⟩ | ⟨g', cap, cur, e4, _, hg, hnc, hcm, hsz, htake⟩
  · rw [e1] at e4; cases e4
  rw [e1] at e4
  simp only [Value.slice.injEq, Option.some.injEq, Addr.mk.injEq, and_true, true_and] at e4
  obtain ⟨rfl, rfl, rfl⟩ := e4
  have hcl : c.cs.length ≤ cur.toList.length := by
    rw [h6, Array.length_toList, hsz]; exact Nat.mul_le_mul_right _ hnc
  have hrun := run_store_row (P := P) (vs := cur.toList) (z := z) (off := off) (t' := c.e) g1 g2 h1 hus h3 (by simpa using hg) (by omega)
  have hgm : g ∈ L.fp k := by rw [e3, e1]; simp [Value.ownBlock]
  have hnd := hr.kn k c hk
  rw [e3, e1] at hnd
  simp only [Value.ownBlock, Option.toList_some, List.singleton_append, List.nodup_cons] at hnd
  let w' := w.setRow g (setR off us cur.toList).toArray
  have hchg : Chg [g] w w' := chg_setRow w g _
  have hdis : ∀ b ∈ js.flatMap L.fp, b ∉ L.fp k := fun b hb hm => by
    obtain ⟨j, hj, hb'⟩ := List.mem_flatMap.1 hb
    obtain ⟨d, hd'⟩ := Option.isSome_iff_exists.1 (o2 j hj)
    exact hr.kk j k d c hd' hk (fun e => hkj (by rw [← e]; exact hj)) b hb' hm
  have o1' : OwnL w' ds us (js.flatMap L.fp) := ownL_keep _ _ _ o1 (fun b hb => hchg.block b (ownL_lt _ _ _ o1 b hb) (by
    simp only [List.mem_singleton]; rintro rfl; exact hdis _ hb hgm))
  have h8' : OwnL w' c.cs vs f := ownL_keep _ _ _ h8 (fun b hb => hchg.block b (ownL_lt _ _ _ h8 b hb) (by
    simp only [List.mem_singleton]; rintro rfl; exact hnd.1 hb))
  obtain ⟨f1, f3, s1, s2, s3⟩ := ownL_setR h8' o1' (off := off) (by rw [o3, hl]; exact hle)
  have hlen : (setR off us vs).length = c.cs.length := by rw [setR_len (by omega)]; exact hvl
  have hown' : Own w' (.sl c.e c.sz c.n (setR off ds c.cs)) (L.rv k) (g :: (f1 ++ js.flatMap L.fp ++ f3)) := by
    unfold Own
    refine ⟨setR off us vs, f1 ++ js.flatMap L.fp ++ f3, by rw [e1]; simp [Value.ownBlock], h5, by rw [setR_len (by rw [o3, hl]; exact hle)]; exact h6, ?_, s3⟩
    rw [e1]
    refine rowE_of hE' ⟨by rw [hlen]; exact h6, .inr ⟨g, cap0, (setR off us cur.toList).toArray, rfl, Nat.zero_le _, setRow_heap _ _ _ _ _ _ hg, hnc, hcm, ?_, ?_⟩⟩
    · rw [List.size_toArray, setR_len (by omega), Array.length_toList, hsz]
    · have htk : cur.toList.take (c.n * c.sz) = vs := htake
      have hb1 : off ≤ c.n * c.sz := by omega
      have hb2 : off + us.length ≤ c.n * c.sz := by omega
      rw [List.toList_toArray]
      unfold setR
      rw [← htk]
      apply List.ext_getElem?
      intro i
      simp only [List.getElem?_take, List.getElem?_append, List.getElem?_drop, List.length_append, List.length_take]
      have hm1 : min off cur.toList.length = off := by omega
      have hm2 : min off (min (c.n * c.sz) cur.toList.length) = off := by omega
      rw [hm1, hm2]
      by_cases hi : i < c.n * c.sz
      · simp only [hi, if_true]
        by_cases hi2 : i < off + us.length
        · simp only [hi2, if_true]
        · simp only [hi2, if_false]
          have : off + us.length + (i - (off + us.length)) < c.n * c.sz := by omega
          simp only [this, if_true]
      · have h9 : ¬ i < off + us.length := by omega
        have h10 : ¬ i < off := by omega
        have h11 : ¬ off + us.length + (i - (off + us.length)) < c.n * c.sz := by omega
        simp only [hi, h9, h11, if_false]
  unfold Oper.wp execOp
  simp only [ho, e2, Sem.run_bind, hrun, Result.andThen_ok, Sem.run_pure, Oper.upon, hd, Act.put]
  refine hK _ _ _ _ rfl (hr.setkey hk hkj (hchg.mono (by simpa using hgm)) hown' ?_ ?_ o2 (fun _ => rfl) (fun e => ⟨e, rfl⟩))
  · have hfn := s2 hnd.2
    have hjn := nodup_flat hr hn o2
    rw [List.nodup_cons]
    constructor
    · simp only [List.mem_append]
      rintro ((hm | hm) | hm)
      · exact hnd.1 (s1 g (by simp [hm]))
      · exact hdis g hm hgm
      · exact hnd.1 (s1 g (by simp [hm]))
    · rw [List.nodup_append] at hfn
      rw [List.nodup_append, List.nodup_append]
      have hin : ∀ b, b ∈ f1 ++ f3 → b ∈ L.fp k := fun b hb => by rw [e3]; simp [s1 b hb]
      refine ⟨⟨hfn.1, hjn, fun a ha b hb e => ?_⟩, hfn.2.1, fun a ha b hb e => ?_⟩
      · subst e; exact hdis a hb (hin a (by simp [ha]))
      · subst e
        rcases List.mem_append.1 ha with ha | ha
        · exact hfn.2.2 a ha a hb rfl
        · exact hdis a ha (hin a (by simp [hb]))
  · intro b hb
    simp only [List.mem_cons, List.mem_append] at hb
    rcases hb with rfl | (hb | hb) | hb
    · exact .inl hgm
    · exact .inl (by rw [e3]; simp [s1 b (by simp [hb])])
    · obtain ⟨j, hj, hb'⟩ := List.mem_flatMap.1 hb
      exact .inr (.inl ⟨j, hj, hb'⟩)
    · exact .inl (by rw [e3]; simp [s1 b (by simp [hb])])
end
end Go.Proofs.Ytbmgommbmhmbgaa
