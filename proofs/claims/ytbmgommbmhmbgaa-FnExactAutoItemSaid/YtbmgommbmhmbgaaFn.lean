/-
  Functions and their contracts in the abstract logic; calls.
-/
import Derived.Test.YtbmgommbmhmbgaaCode
namespace Go.Proofs.Ytbmgommbmhmbgaa
open Go.RowKit
set_option linter.unusedVariables false
set_option linter.unusedSimpArgs false

def enumS : Nat → List SV → List (Nat × SV)
  | _, [] => []
  | i, v :: vs => (i, v) :: enumS (i + 1) vs
/-- called with arguments args over the boxes bx0 and the keys ks0, f returns, and Q holds of the result and the state -/
def FnOk (P : Program) (f : FuncId) (bx0 : List (Nat × TypeId × List CV)) (ks0 : List (Nat × Option KC)) (args : List SV) (Q : SV → St → Prop) : Prop :=
  ∀ (w : World) (S0 : List Nat) (L : Lyt) (vals : List Value), vals.length = args.length →
    Rel P ⟨w, S0, L.rv⟩ args.length L ⟨enumS 0 args, bx0, ks0⟩ ⟨vals.toArray, []⟩ w →
    Calls P f vals.toArray w fun e w' => ∃ r res σ' L', e = .returned r ∧ Q res σ' ∧ Rel P ⟨w, S0, L.rv⟩ 1 L' { σ' with tm := [(0, res)] } ⟨#[r], []⟩ w'
def aggB : TypeDesc → Bool
  | .struct _ | .array _ _ => true
  | _ => false
def AggT (P : Program) (ty : TypeId) (n : Nat) : Prop := (∃ d, P.underlying ty = some d ∧ aggB d = true) ∧ (P.info? ty).map (·.size) = some n
/-- what stands in a result's place -/
def ResJ (P : Program) (σ : St) : ResultVar → SV → Prop
  | .tmp t, v => look σ.tm t = some v
  | .cell p ty, v => ∃ b t cs, look σ.tm p = some (.box b 0) ∧ look σ.bx b = some (t, cs) ∧ AggT P ty cs.length ∧ v = .agg cs
def SV.part : SV → Option (Bool × List CV)
  | .one c => some (false, [c])
  | .agg cs => some (true, cs)
  | _ => none
/-- the end of a body -/
def Fin (P : Program) (rs : List ResultVar) (Post : SV → St → Prop) : Exit → St → Prop
  | .normal, σ | .ret, σ => match rs with
    | [x] => ∃ v, ResJ P σ x v ∧ Post v σ
    | [x, y] => ∃ u v p q, ResJ P σ x u ∧ ResJ P σ y v ∧ u.part = some p ∧ v.part = some q ∧ Post (.tup [p, q]) σ
    | [x, y, z] => ∃ u v t p q s, ResJ P σ x u ∧ ResJ P σ y v ∧ ResJ P σ z t ∧ u.part = some p ∧ v.part = some q ∧ t.part = some s ∧ Post (.tup [p, q, s]) σ
    | _ => False
  | _, _ => False
section
variable {P : Program} {C : Ctx} {nt : Nat} {σ : St}
theorem enumS_look : ∀ (args : List SV) (j i : Nat) (v : SV), look (enumS j args) i = some v → j ≤ i ∧ args[i - j]? = some v
  | [], _, _, _, h => by cases h
  | a :: as, j, i, v, h => by
    simp only [enumS, look_cons] at h
    split at h
    · rename_i e; subst e; simp only [Option.some.injEq] at h; subst h; simp
    · obtain ⟨h1, h2⟩ := enumS_look as (j + 1) i v h
      refine ⟨by omega, ?_⟩
      rw [show i - j = (i - (j + 1)) + 1 by omega]
      simpa using h2
theorem tvL_part {L : Lyt} {w : World} {v : SV} {r : Value} {p : Bool × List CV} (h : SVr P C L w v r) (hp : v.part = some p) : ∃ us, CVL C L w p.2 us ∧ (if p.1 then r = .agg us.toArray else us = [r]) := by
  cases v with
  | one c =>
    simp only [SV.part, Option.some.injEq] at hp; subst hp
    simp only [SVr] at h
    exact ⟨[r], ⟨r, [], rfl, h, rfl⟩, by simp⟩
  | agg cs =>
    simp only [SV.part, Option.some.injEq] at hp; subst hp
    simp only [SVr] at h
    obtain ⟨us, e, h1⟩ := h
    exact ⟨us, h1, by simp [e]⟩
  | _ => simp [SV.part] at hp
theorem part_keys {v : SV} {p : Bool × List CV} (hp : v.part = some p) : p.2.flatMap CV.keys = v.keys := by
  cases v with
  | one c => simp only [SV.part, Option.some.injEq] at hp; subst hp; simp [SV.keys]
  | agg cs => simp only [SV.part, Option.some.injEq] at hp; subst hp; simp [SV.keys]
  | _ => simp [SV.part] at hp
def resF (tmps : Array Value) : ResultVar → Sem Value
  | .tmp t => pure (tmps.getD t undef)
  | .cell p t => do loadVar t (← asAddr (tmps.getD p undef))
theorem results_eq (fn : Func) (tmps : Array Value) : results fn tmps = (do
    let vs ← fn.results.mapM (resF tmps)
    pure (if h : vs.size = 1 then vs[0] else .tuple vs)) := rfl
theorem run_loadVar_agg {w : World} {g : Nat} {t ty : TypeId} {cs : Array Value} {fr : Nat × Nat} (hg : w.heap[g]? = some (.cells cs t fr)) (h : AggT P ty cs.size) : (loadVar ty ⟨g, 0, none⟩).run P w = .ok (.agg cs) w := by
  obtain ⟨⟨d, h3, h4⟩, h5⟩ := h
  exact run_loadVar_row w g t ty cs fr d hg h3 (by cases d <;> first | rfl | cases h4) h5
theorem res_run {L : Lyt} {a : Act} {w : World} (hr : Rel P C nt L σ a w) {x : ResultVar} {v : SV} (h : ResJ P σ x v) : ∃ r, SVr P C L w v r ∧ (∀ k ∈ v.keys, (lkk σ k).isSome = true) ∧ (∀ b ∈ v.boxes, (look σ.bx b).isSome = true) ∧
    (resF a.tmps x).run P w = .ok r w := by
  cases x with
  | tmp t =>
    simp only [ResJ] at h
    exact ⟨_, hr.tm t v h, fun k hk => hr.lk k (tk_tm h k hk), fun b hb => hr.lb b (tb_tm h b hb), rfl⟩
  | cell p ty =>
    simp only [ResJ] at h
    obtain ⟨b, t, cs, h1, h2, h3, rfl⟩ := h
    obtain ⟨vs, h6, h7⟩ := hr.bx b t cs h2
    have h8 := hr.tm p _ h1
    simp only [SVr] at h8
    have hl := cvL_len h7
    refine ⟨.agg vs.toArray, by simp only [SVr]; exact ⟨vs, rfl, h7⟩, fun k hk => hr.lk k (tk_bx h2 k hk), by simp [SV.boxes], ?_⟩
    simp only [resF, h8, asAddr, Sem.run_bind, Sem.run_pure, Result.andThen_ok]
    exact run_loadVar_agg h6 (by rw [List.size_toArray, hl]; exact h3)
theorem fn_intro {f : FuncId} {fn : Func} {c : Code} {rs : List ResultVar} {bx0 : List (Nat × TypeId × List CV)} {ks0 : List (Nat × Option KC)} {args : List SV} {Post : SV → St → Prop} (hf : P.funcs[f]? = some fn) (hb : fn.body = some c) (hn : fn.ntmps = nt) (hrs : fn.results = rs.toArray) (hl : Nat.ble args.length nt = true)
    (h : ∀ C, Ok P C nt (Fin P rs Post) c ⟨enumS 0 args, bx0, ks0⟩) : FnOk P f bx0 ks0 args Post := by
  intro w S0 L vals hlen hr
  refine calls_of_wp hf hb ?_
  have hl' : args.length ≤ nt := by simpa [Nat.ble_eq] using hl
  have hr' : Rel P ⟨w, S0, L.rv⟩ nt L ⟨enumS 0 args, bx0, ks0⟩ ⟨vals.toArray ++ Array.replicate (fn.ntmps - vals.toArray.size) undef, []⟩ w := {
    df := rfl
    sz := by simp [hn, hlen]; omega
    tm := fun i v hv => by
      have h1 := hr.tm i v hv
      obtain ⟨_, h2⟩ := enumS_look args 0 i v hv
      have h3 : i < vals.toArray.size := by simp [hlen]; exact (List.getElem?_eq_some_iff.1 h2).1
      rw [Array.getD_eq_getD_getElem?] at h1 ⊢
      rwa [Array.getElem?_append_left h3]
    bx := hr.bx, ks := hr.ks, b1 := hr.b1, k1 := hr.k1, kn := hr.kn, bb := hr.bb, bk := hr.bk, kk := hr.kk, lk := hr.lk, lb := hr.lb, s0 := hr.s0, chg := hr.chg }
  refine wp_mono ((h ⟨w, S0, L.rv⟩).run L _ w hr') ?_
  intro e a w' hq
  have fin : ∀ (σ : St) (L' : Lyt) (v : SV) (r : Value), Rel P ⟨w, S0, L.rv⟩ nt L' σ a w' → SVr P ⟨w, S0, L.rv⟩ L' w' v r → (∀ k ∈ v.keys, (lkk σ k).isSome = true) → (∀ b ∈ v.boxes, (look σ.bx b).isSome = true) → Rel P ⟨w, S0, L.rv⟩ 1 L' { σ with tm := [(0, v)] } ⟨#[r], []⟩ w' := fun σ L' v r hr hv hk hb => {
    df := rfl
    sz := rfl
    tm := fun i u hu => by
      simp only [look_cons] at hu
      split at hu
      · rename_i e; subst e; simp only [Option.some.injEq] at hu; subst hu; exact hv
      · cases hu
    bx := hr.bx, ks := hr.ks, b1 := hr.b1, k1 := hr.k1, kn := hr.kn, bb := hr.bb, bk := hr.bk, kk := hr.kk
    lk := fun k hm => by
      simp only [St.tk, List.flatMap_cons, List.flatMap_nil, List.append_nil, List.mem_append] at hm
      rcases hm with hm | hm
      · exact hk k hm
      · exact hr.lk k (by simp only [St.tk, List.mem_append]; exact .inr hm)
    lb := fun b hm => by
      simp only [St.tb, List.flatMap_cons, List.flatMap_nil, List.append_nil] at hm
      exact hb b hm
    s0 := hr.s0, chg := hr.chg }
  have key : ∀ σ L', Rel P ⟨w, S0, L.rv⟩ nt L' σ a w' → Fin P rs Post .ret σ → a.defers = [] ∧ ∃ v, (results fn a.tmps).run P w' = .ok v w' ∧
      ∃ r res σ' L', Ending.returned v = .returned r ∧ Post res σ' ∧ Rel P ⟨w, S0, L.rv⟩ 1 L' { σ' with tm := [(0, res)] } ⟨#[r], []⟩ w' := by
    intro σ L' hr hF
    refine ⟨hr.df, ?_⟩
    match rs, hrs, hF with
    | [x], hrs, ⟨v, h1, h2⟩ =>
      obtain ⟨r, g1, g2, g3, g4⟩ := res_run hr h1
      refine ⟨r, ?_, r, v, σ, L', rfl, h2, fin σ L' v r hr g1 g2 g3⟩
      simp [results_eq, hrs, g4]
    | [x, y], hrs, ⟨u, v, p, q, h1, h2, h3, h4, h5⟩ =>
      obtain ⟨r1, g1, g2, g3, g4⟩ := res_run hr h1
      obtain ⟨r2, k1, k2, k3, k4⟩ := res_run hr h2
      obtain ⟨us, e1, e2⟩ := tvL_part g1 h3
      obtain ⟨vs, f1, f2⟩ := tvL_part k1 h4
      refine ⟨.tuple #[r1, r2], ?_, _, .tup [p, q], σ, L', rfl, h5, fin σ L' _ _ hr ?_ ?_ (by simp [SV.boxes])⟩
      · simp [results_eq, hrs, g4, k4]
      · simp only [SVr]
        exact ⟨[r1, r2], rfl, us, r1, [r2], rfl, e1, e2, vs, r2, [], rfl, f1, f2, rfl⟩
      · intro k hk
        simp only [SV.keys, List.flatMap_cons, List.flatMap_nil, List.append_nil, List.mem_append, part_keys h3, part_keys h4] at hk
        rcases hk with hk | hk
        · exact g2 k hk
        · exact k2 k hk
    | [x, y, z], hrs, ⟨u, v, t, p, q, s, h1, h2, h0, h3, h4, h6, h5⟩ =>
      obtain ⟨r1, g1, g2, g3, g4⟩ := res_run hr h1
      obtain ⟨r2, k1, k2, k3, k4⟩ := res_run hr h2
      obtain ⟨r3, l1, l2, l3, l4⟩ := res_run hr h0
      obtain ⟨us, e1, e2⟩ := tvL_part g1 h3
      obtain ⟨vs, f1, f2⟩ := tvL_part k1 h4
      obtain ⟨ts, j1, j2⟩ := tvL_part l1 h6
      refine ⟨.tuple #[r1, r2, r3], ?_, _, .tup [p, q, s], σ, L', rfl, h5, fin σ L' _ _ hr ?_ ?_ (by simp [SV.boxes])⟩
      · simp [results_eq, hrs, g4, k4, l4]
      · simp only [SVr]
        exact ⟨[r1, r2, r3], rfl, us, r1, [r2, r3], rfl, e1, e2, vs, r2, [r3], rfl, f1, f2, ts, r3, [], rfl, j1, j2, rfl⟩
      · intro k hk
        simp only [SV.keys, List.flatMap_cons, List.flatMap_nil, List.append_nil, List.mem_append, part_keys h3, part_keys h4, part_keys h6] at hk
        rcases hk with hk | hk | hk
        · exact g2 k hk
        · exact k2 k hk
        · exact l2 k hk
  cases e with
  | normal => obtain ⟨L', σ, h1, h2⟩ := hq; exact key σ L' h1 h2
  | ret => obtain ⟨L', σ, h1, h2⟩ := hq; exact key σ L' h1 h2
  | exit => obtain ⟨L', σ, h1, h2⟩ := hq; exact h2.elim
  | goto => obtain ⟨L', σ, h1, h2⟩ := hq; exact h2.elim
  | panic => exact hq.elim
  | outgrown => exact hq.elim
end
/-! ### arguments -/
def ArgC (σ : St) : CV → CV → Prop
  | .dv _ d, u => u = .dv [] d
  | .nest _ _ d, u => u = .dv [] d
  | .key k, u => ∃ c, lkk σ k = some c ∧ u = .dv [] (.sl c.e c.sz c.n c.cs)
  | .nil, u => ∃ e sz, 0 < sz ∧ u = .dv [] (.sl e sz 0 [])
  | .any, u => u = .any
def ArgCs (σ : St) : List CV → List CV → Prop
  | [], us => us = []
  | c :: cs, us => ∃ u us', us = u :: us' ∧ ArgC σ c u ∧ ArgCs σ cs us'
/-- boxes whose content is handed over for reading -/
def CloB (σ : St) : List Nat → List (List DV) → Prop
  | [], dss => dss = []
  | b :: bs, dss => ∃ ds dss' t, dss = ds :: dss' ∧ look σ.bx b = some (t, ds.map (CV.dv [])) ∧ CloB σ bs dss'
def ArgS (σ : St) : SV → SV → Prop
  | .one c, u => ∃ c', ArgC σ c c' ∧ u = .one c'
  | .agg cs, u => ∃ cs', ArgCs σ cs cs' ∧ u = .agg cs'
  | .ref _ ds, u => u = .ref [] ds
  | .fn f caps, u => u = .fn f caps
  | .clo f bs, u => ∃ caps, CloB σ bs caps ∧ u = .fn f caps
  | _, _ => False
def ArgSs (P : Program) (C : Ctx) (nt : Nat) (σ : St) : List Operand → List SV → Prop
  | [], us => us = []
  | x :: xs, us => ∃ v u us', us = u :: us' ∧ Ev P C nt σ x v ∧ ArgS σ v u ∧ ArgSs P C nt σ xs us'
section
variable {P : Program} {C : Ctx} {nt : Nat} {σ : St} {L : Lyt} {a : Act} {w : World}
theorem okB_lt (hr : Rel P C nt L σ a w) {K : List Nat} : ∀ b, b < w.heap.size → okB C L K b → okB ⟨w, [], fun _ => undef⟩ L [] b ∧ w.heap[b]? = w.heap[b]? := fun b hb _ => ⟨.inl ⟨hb, by simp⟩, rfl⟩
theorem lay_arg {ok : Nat → Prop} {d : DV} {v : Value} (L' : Lyt) (h : Lay ok w d v) : Lay (okB ⟨w, [], L'.rv⟩ L' []) w d v := lay_conv (fun b hb _ => ⟨.inl ⟨hb, by simp⟩, rfl⟩) d v h
theorem layL_arg {ok : Nat → Prop} {ds : List DV} {vs : List Value} (L' : Lyt) (h : LayL ok w ds vs) : LayL (okB ⟨w, [], L'.rv⟩ L' []) w ds vs := layL_conv (fun b hb _ => ⟨.inl ⟨hb, by simp⟩, rfl⟩) ds vs h
theorem argC_lay (hr : Rel P C nt L σ a w) (L' : Lyt) {c u : CV} {v : Value} (h : ArgC σ c u) (hv : CVr C L w c v) : CVr ⟨w, [], L'.rv⟩ L' w u v ∧ u.keys = [] := by
  cases c with
  | dv K d => simp only [ArgC] at h; subst h; exact ⟨lay_arg L' hv, rfl⟩
  | nest k o d => simp only [ArgC] at h; subst h; exact ⟨lay_arg L' hv.1, rfl⟩
  | key k =>
    simp only [ArgC] at h
    obtain ⟨c, h1, rfl⟩ := h
    simp only [CVr] at hv
    subst hv
    exact ⟨lay_arg (ok := fun _ => True) L' (own_lay _ _ _ (hr.ks k c h1).1 (fun _ _ => trivial)), rfl⟩
  | nil =>
    simp only [ArgC] at h
    obtain ⟨e, sz, h1, rfl⟩ := h
    simp only [CVr] at hv
    subst hv
    simp only [CVr, Lay]
    exact ⟨⟨none, 0, [], rfl, Nat.le_refl _, by simp [maxLen], h1, by simp, by simp [LayL], fun h => by omega⟩, rfl⟩
  | any => simp only [ArgC] at h; subst h; exact ⟨hv, rfl⟩
theorem argCs_lay (hr : Rel P C nt L σ a w) (L' : Lyt) : ∀ {cs us : List CV} {vs : List Value}, ArgCs σ cs us → CVL C L w cs vs → CVL ⟨w, [], L'.rv⟩ L' w us vs ∧ us.flatMap CV.keys = []
  | [], _, _, h, hv => by simp only [ArgCs] at h; subst h; exact ⟨hv, rfl⟩
  | c :: cs, _, _, ⟨u, us', e, h1, h2⟩, ⟨v, vs', e', h3, h4⟩ => by
    subst e; subst e'
    obtain ⟨g1, g2⟩ := argC_lay hr L' h1 h3
    obtain ⟨k1, k2⟩ := argCs_lay hr L' h2 h4
    exact ⟨⟨v, vs', rfl, g1, k1⟩, by simp only [List.flatMap_cons, g2, k2, List.append_nil]⟩
theorem refV_arg {ds : List DV} {r : Value} (L' : Lyt) (hv : RefV C L w ds r) : RefV ⟨w, [], L'.rv⟩ L' w ds r := by
  obtain ⟨b, off, vs, e, h1, h2, h3⟩ := hv
  refine ⟨b, off, vs, e, fun hvs => ?_, layL_arg L' h2, h3⟩
  have hlt : b < w.heap.size := cell_lt (h3 0 _ (List.getElem?_eq_getElem (List.length_pos_iff.2 hvs)))
  exact .inl ⟨hlt, by simp⟩
theorem refL_arg (L' : Lyt) : ∀ {dss : List (List DV)} {vs : List Value}, RefL C L w dss vs → RefL ⟨w, [], L'.rv⟩ L' w dss vs
  | [], _, h => h
  | ds :: dss, _, ⟨v, vs', e, h1, h2⟩ => ⟨v, vs', e, refV_arg L' h1, refL_arg L' h2⟩
theorem cvL_dv {ds : List DV} : ∀ {vs : List Value}, CVL C L w (ds.map (CV.dv [])) vs → LayL (okB C L []) w ds vs := by
  induction ds with
  | nil => intro vs h; simpa [CVL, LayL] using h
  | cons d ds ih =>
    intro vs h
    simp only [List.map_cons, CVL] at h
    obtain ⟨v, vs', e, h1, h2⟩ := h
    exact ⟨v, vs', e, h1, ih h2⟩
theorem clo_arg (hr : Rel P C nt L σ a w) (L' : Lyt) : ∀ {bs : List Nat} {dss : List (List DV)}, CloB σ bs dss → RefL ⟨w, [], L'.rv⟩ L' w dss (bs.map fun b => Value.pointer (some ⟨L.bb b, 0, none⟩))
  | [], _, h => by simp only [CloB] at h; subst h; rfl
  | b :: bs, _, ⟨ds, dss', t, e, h1, h2⟩ => by
    subst e
    obtain ⟨vs, h3, h4⟩ := hr.bx b t _ h1
    refine ⟨_, _, rfl, ⟨L.bb b, 0, vs, rfl, fun _ => .inl ⟨?_, by simp⟩, layL_arg L' (cvL_dv h4), fun j u hu => ?_⟩, clo_arg hr L' h2⟩
    · exact heap_lt h3
    · rw [Nat.zero_add, cell_of_row w _ j vs.toArray t (0, 0) h3]
      simpa using hu
theorem argS_lay (hr : Rel P C nt L σ a w) (L' : Lyt) {v u : SV} {r : Value} (h : ArgS σ v u) (hv : SVr P C L w v r) : SVr P ⟨w, [], L'.rv⟩ L' w u r ∧ u.keys = [] ∧ u.boxes = [] := by
  cases v with
  | one c =>
    simp only [ArgS] at h
    obtain ⟨c', h1, rfl⟩ := h
    simp only [SVr] at hv ⊢
    obtain ⟨g1, g2⟩ := argC_lay hr L' h1 hv
    exact ⟨g1, by simpa [SV.keys] using g2, rfl⟩
  | agg cs =>
    simp only [ArgS] at h
    obtain ⟨cs', h1, rfl⟩ := h
    simp only [SVr] at hv ⊢
    obtain ⟨vs, e, h2⟩ := hv
    obtain ⟨g1, g2⟩ := argCs_lay hr L' h1 h2
    exact ⟨⟨vs, e, g1⟩, by simpa only [SV.keys] using g2, rfl⟩
  | ref K ds =>
    simp only [ArgS] at h
    subst h
    simp only [SVr] at hv ⊢
    obtain ⟨b, off, vs, e, h1, h2, h3⟩ := hv
    refine ⟨⟨b, off, vs, e, fun hvs => ?_, layL_arg L' h2, h3⟩, rfl, rfl⟩
    have hlt : b < w.heap.size := cell_lt (h3 0 _ (List.getElem?_eq_getElem (List.length_pos_iff.2 hvs)))
    exact .inl ⟨hlt, by simp⟩
  | fn f caps =>
    simp only [ArgS] at h
    subst h
    simp only [SVr] at hv ⊢
    obtain ⟨vs, e, h1⟩ := hv
    exact ⟨⟨vs, e, refL_arg L' h1⟩, rfl, rfl⟩
  | clo f bs =>
    simp only [ArgS] at h
    obtain ⟨caps, h1, rfl⟩ := h
    simp only [SVr] at hv ⊢
    exact ⟨⟨_, hv, clo_arg hr L' h1⟩, rfl, rfl⟩
  | _ => simp only [ArgS] at h
end
end Go.Proofs.Ytbmgommbmhmbgaa
