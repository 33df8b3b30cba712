/-
  The rules of the abstract logic for function values: closures over variables that are only read, and their calls.
-/
import Derived.Test.YtbmgommbmhmbgaaMk
namespace Go.Proofs.Ytbmgommbmhmbgaa
open Go.RowKit

section
variable {P : Program} {C : Ctx} {nt : Nat} {L : Lyt} {σ : St} {a : Act} {w : World} {o : Oper} {x y : Operand}
theorem rel_enter {us : List SV} {vs : List Value} (hl : vs.length = us.length) (h : ∀ (i : Nat) u, us[i]? = some u → ∃ x, vs[i]? = some x ∧ SVr P ⟨w, [], L.rv⟩ L w u x ∧ u.keys = [] ∧ u.boxes = []) : Rel P ⟨w, [], L.rv⟩ us.length L ⟨enumS 0 us, [], []⟩ ⟨vs.toArray, []⟩ w := by
  have h3 : ∀ u ∈ us, u.keys = [] ∧ u.boxes = [] := fun u hu => by
    obtain ⟨i, hi⟩ := List.mem_iff_getElem?.1 hu
    obtain ⟨_, _, _, h4⟩ := h i u hi
    exact h4
  obtain ⟨t1, t2⟩ := enum_tk us 0 h3
  exact {
    df := rfl
    sz := by simp [hl]
    tm := fun i v hv => by
      obtain ⟨_, h4⟩ := enumS_look us 0 i v hv
      obtain ⟨x, h5, h6, _⟩ := h i v (by simpa using h4)
      have : vs.toArray.getD i undef = x := by simp [Array.getD_eq_getD_getElem?, h5]
      rw [this]; exact h6
    bx := fun i t cs h => by cases h
    ks := fun k c h => by cases h
    b1 := fun i x h => by cases h
    k1 := fun k c h => by cases h
    kn := fun k c h => by cases h
    bb := fun i j x y h => by cases h
    bk := fun i k x c h => by cases h
    kk := fun k j c d h => by cases h
    lk := fun k hk => by simp only [St.tk, t1, List.flatMap_nil, List.append_nil] at hk; cases hk
    lb := fun b hb => by simp only [St.tb, t2] at hb; cases hb
    s0 := fun b hb => by cases hb
    chg := Chg.refl _ _ }
theorem refL_len : ∀ {dss : List (List DV)} {vs : List Value}, RefL C L w dss vs → vs.length = dss.length
  | [], _, h => by simp only [RefL] at h; simp [h]
  | ds :: dss, _, ⟨v, vs', e, _, h2⟩ => by rw [e]; simp [refL_len h2]
theorem refL_get : ∀ {dss : List (List DV)} {vs : List Value}, RefL C L w dss vs → ∀ (i : Nat) ds, dss[i]? = some ds → ∃ v, vs[i]? = some v ∧ RefV C L w ds v
  | [], _, _, i, ds, h => by simp at h
  | d :: dss, _, ⟨v, vs', e, h1, h2⟩, 0, ds, h => by
    simp only [List.getElem?_cons_zero, Option.some.injEq] at h
    subst h; subst e
    exact ⟨v, rfl, h1⟩
  | d :: dss, _, ⟨v, vs', e, h1, h2⟩, i + 1, ds, h => by
    subst e
    simpa using refL_get h2 i ds (by simpa using h)
theorem wp_callV {f : FuncId} {xs : List Operand} {ats : Array TypeId} {caps : List Value} {K : Act → World → Prop} {Q : Exit → Act → World → Prop} (ho : o.op = .call { callee := .value y, args := xs.toArray, argTypes := ats })
    (hy : a.eval y = .func (.func f) #[] caps.toArray) (hc : ∀ (args : Array Value) (w : World), (callFunc f args).run P w = .ok (.enter f args) w)
    (h : Calls P f (xs.map a.eval ++ caps).toArray w fun e w' => ∃ r, e = .returned r ∧ K (a.put o.dst r) w') : o.wp P a w K Q := by
  unfold Oper.wp execOp
  have hi : ∀ args : Array Value, (invoke (.fn (.func f) caps.toArray) args).run P w = .ok (.enter f (args ++ caps.toArray)) w := fun args => by
    simp only [invoke]; exact hc _ w
  have he : ∀ args : Array Value, Deferred.ofValue (a.eval y) args = pure { target := .fn (.func f) caps.toArray, args := args } := fun args => by
    rw [hy]; simp [Deferred.ofValue]
  simp only [ho, resolve, he, Sem.run_bind, Sem.run_pure, Result.andThen_ok, hi, Oper.upon]
  refine Calls.mono (by simpa using h) ?_
  rintro e w' ⟨r, rfl, h1⟩
  exact h1
theorem pc_callV {f : FuncId} {xs : List Operand} {ats : Array TypeId} {us : List SV} {caps : List (List DV)} {X : SV} (ho : o.op = .call { callee := .value y, args := xs.toArray, argTypes := ats }) (hy : Ev P C nt σ y (.fn f caps))
    (hc : ∀ (args : Array Value) (w : World), (callFunc f args).run P w = .ok (.enter f args) w) (hf : PFn P f (us ++ caps.map (SV.ref [])) X) (hp : X.plain = true) (ha : ArgSs P C nt σ xs us) : Pc P C nt o σ (fun v => v = X) := Pc.mk fun L a w hr K Q' hk => by
  have h1 := hy.run L a w hr
  simp only [SVr] at h1
  obtain ⟨vs, e, h2⟩ := h1
  refine wp_callV ho e hc ?_
  obtain ⟨g1, g2⟩ := args_rel hr L xs us ha
  have h2' := refL_arg L h2
  have hent := rel_enter (P := P) (w := w) (L := L) (us := us ++ caps.map (SV.ref [])) (vs := xs.map a.eval ++ vs) (by simp [g1, refL_len h2]) (fun i u hu => by
    rcases Nat.lt_or_ge i us.length with hi | hi
    · rw [List.getElem?_append_left hi] at hu
      obtain ⟨x, k1, k2⟩ := g2 i u hu
      refine ⟨a.eval x, ?_, k2⟩
      rw [List.getElem?_append_left (by simp; omega)]
      simp [k1]
    · rw [List.getElem?_append_right hi, List.getElem?_map] at hu
      cases hq : caps[i - us.length]? with
      | none => rw [hq] at hu; cases hu
      | some ds =>
        rw [hq] at hu
        simp only [Option.map_some, Option.some.injEq] at hu
        subst hu
        obtain ⟨v, k1, k2⟩ := refL_get h2' _ _ hq
        refine ⟨v, ?_, by simp only [SVr]; exact k2, rfl, rfl⟩
        rw [List.getElem?_append_right (by simp; omega)]
        simpa [g1] using k1)
  refine (hf.ok w [] L _ (by simp [g1, refL_len h2]) hent).mono ?_
  rintro e' w' ⟨r, res, σ', L', rfl, rfl, h3⟩
  obtain ⟨p1, p2, p3, p4⟩ := sv_plain_ret hp
  refine ⟨r, rfl, hk res r w' rfl ⟨p2, p3⟩ ?_ h3.chg⟩
  have := sv_ret (C := C) (L := L) (m := 0) p1 (by rw [p2]; simp) (h3.tm 0 res (by simp [look_cons]))
  rwa [p4] at this
theorem ev_func {f : FuncId} : Ev P C nt σ (.func f) (.fn f []) := Ev.mk fun L a w hr => by
  simp only [SVr, RefL]; exact ⟨[], rfl, rfl⟩
theorem a_fn {f : FuncId} {caps : List (List DV)} : ArgS σ (.fn f caps) (.fn f caps) := rfl
theorem a_clo {f : FuncId} {bs : List Nat} {caps : List (List DV)} (h : CloB σ bs caps) : ArgS σ (.clo f bs) (.fn f caps) := ⟨caps, h, rfl⟩
theorem clo_nil : CloB σ [] [] := rfl
theorem clo_cons {b t : Nat} {bs : List Nat} {cs : List CV} {ds : List DV} {dss : List (List DV)} (h : look σ.bx b = some (t, cs)) (h1 : cs = ds.map (CV.dv [])) (h2 : CloB σ bs dss) : CloB σ (b :: bs) (ds :: dss) := ⟨ds, dss, t, rfl, by rw [h, h1], h2⟩
theorem pu_clo1 {f : FuncId} {b : Nat} (ho : o.op = .makeFunc (.func f) #[] #[x]) (hx : Ev P C nt σ x (.box b 0)) : Pu P C nt o σ (.clo f [b]) [] [] := pu_clo (cxs := #[x]) ho fun L a w hr => by
  have := hx.run L a w hr
  simp only [SVr] at this
  simp [this]
theorem pu_clo2 {f : FuncId} {b c : Nat} (ho : o.op = .makeFunc (.func f) #[] #[x, y]) (hx : Ev P C nt σ x (.box b 0)) (hy : Ev P C nt σ y (.box c 0)) : Pu P C nt o σ (.clo f [b, c]) [] [] := pu_clo (cxs := #[x, y]) ho fun L a w hr => by
  have h1 := hx.run L a w hr
  have h2 := hy.run L a w hr
  simp only [SVr] at h1 h2
  simp [h1, h2]
section
variable {Q : Exit → St → Prop} {all : Array Oper} {rest : List Oper} {tm : List (Nat × SV)} {bx : List (Nat × TypeId × List CV)} {ks : List (Nat × Option KC)} {d : Nat} {X : SV} {g : Bool} {oB oK : List Nat} {listed : Array Bool} {fuel : Nat}
theorem o_callV {f : FuncId} {xs : List Operand} {ats : Array TypeId} {us : List SV} {caps : List (List DV)} (hg : o.guard = none) (hd : o.dst = some d) (ho : o.op = .call { callee := .value y, args := xs.toArray, argTypes := ats }) (hy : Ev P C nt ⟨tm, bx, ks⟩ y (.fn f caps))
    (hc : ∀ (args : Array Value) (w : World), (callFunc f args).run P w = .ok (.enter f args) w) (hf : PFn P f (us ++ caps.map (SV.ref [])) X) (ha : ArgSs P C nt ⟨tm, bx, ks⟩ xs us) (hp : X.plain = true) (hn : Nat.blt d nt = true) (h : Ops P C nt Q all rest ⟨(d, X) :: tm, bx, ks⟩) : Ops P C nt Q all (o :: rest) ⟨tm, bx, ks⟩ :=
  ops_ef hg ((pc_callV ho hy hc hf hp ha).efg hd hn).ef fun σ' ⟨v, hv, e⟩ => by rw [e, hv]; exact h
end
end
end Go.Proofs.Ytbmgommbmhmbgaa
