/-
  The rules of the abstract logic for the nested cells of keys: they are read, taken out and put back, and handed to calls that write them.
-/
import Derived.Test.YtbmgommbmhmbgaaWrt
namespace Go.Proofs.Ytbmgommbmhmbgaa
open Go.RowKit
set_option linter.unusedVariables false
set_option linter.unusedSimpArgs false

/-! ### ownership of one cell -/
theorem ownL_out {w : World} : ∀ {ds : List DV} {vs : List Value} {fp : List Nat} {i : Nat} {d : DV}, OwnL w ds vs fp → ds[i]? = some d → ∃ v fa fd fb, vs[i]? = some v ∧ fp = fa ++ (fd ++ fb) ∧ Own w d v fd ∧ OwnL w (ds.set i .hole) vs (fa ++ fb)
  | [], _, _, _, _, _, hd => by simp at hd
  | x :: xs, _, _, 0, d, h, hd => by
    simp only [List.getElem?_cons_zero, Option.some.injEq] at hd
    subst hd
    simp only [OwnL] at h
    obtain ⟨v, vs', f1, f2, rfl, rfl, h1, h2⟩ := h
    refine ⟨v, [], f1, f2, rfl, rfl, h1, ?_⟩
    simp only [List.set_cons_zero, OwnL, List.nil_append]
    exact ⟨v, vs', [], f2, rfl, rfl, by unfold Own; exact ⟨lay_one _ _ (own_lay (ok := fun _ => True) _ _ _ h1 (fun _ _ => trivial)), rfl⟩, h2⟩
  | x :: xs, _, _, i + 1, d, h, hd => by
    simp only [List.getElem?_cons_succ] at hd
    simp only [OwnL] at h
    obtain ⟨v, vs', f1, f2, rfl, rfl, h1, h2⟩ := h
    obtain ⟨u, fa, fd, fb, g1, rfl, g3, g4⟩ := ownL_out h2 hd
    refine ⟨u, f1 ++ fa, fd, fb, by simpa using g1, by simp, g3, ?_⟩
    simp only [List.set_cons_succ, OwnL]
    exact ⟨v, vs', f1, fa ++ fb, rfl, by simp, h1, g4⟩
theorem ownL_in {w : World} {d : DV} {v : Value} {fd : List Nat} (ho : Own w d v fd) : ∀ {ds : List DV} {vs : List Value} {fp : List Nat} {i : Nat}, OwnL w ds vs fp → ds[i]? = some .hole → vs[i]? = some v → ∃ fa fb, fp = fa ++ fb ∧ OwnL w (ds.set i d) vs (fa ++ (fd ++ fb))
  | [], _, _, _, _, hd, _ => by simp at hd
  | x :: xs, _, _, 0, h, hd, hv => by
    simp only [List.getElem?_cons_zero, Option.some.injEq] at hd
    subst hd
    simp only [OwnL] at h
    obtain ⟨u, vs', f1, f2, rfl, rfl, h1, h2⟩ := h
    simp only [List.getElem?_cons_zero, Option.some.injEq] at hv
    subst hv
    simp only [Own] at h1
    obtain ⟨_, rfl⟩ := h1
    refine ⟨[], f2, rfl, ?_⟩
    simp only [List.set_cons_zero, OwnL, List.nil_append]
    exact ⟨u, vs', fd, f2, rfl, rfl, ho, h2⟩
  | x :: xs, _, _, i + 1, h, hd, hv => by
    simp only [List.getElem?_cons_succ] at hd
    simp only [OwnL] at h
    obtain ⟨u, vs', f1, f2, rfl, rfl, h1, h2⟩ := h
    simp only [List.getElem?_cons_succ] at hv
    obtain ⟨fa, fb, rfl, g⟩ := ownL_in ho h2 hd hv
    refine ⟨f1 ++ fa, fb, by simp, ?_⟩
    simp only [List.set_cons_succ, OwnL]
    exact ⟨u, vs', f1, fa ++ (fd ++ fb), rfl, by simp, h1, g⟩
theorem ownE_row {w : World} {e sz n o : Nat} {cs : List DV} {v : Value} {fp : List Nat} (h : Own w (.sl e sz n cs) v fp) (ho : o < cs.length) : ∃ g cap vs f, v = .slice (some ⟨g, 0, none⟩) n cap ∧ fp = g :: f ∧ OwnL w cs vs f ∧ (∀ j u, vs[j]? = some u → w.cell? ⟨g, j, none⟩ = some u) := by
  simp only [Own] at h
  obtain ⟨vs, f, rfl, h1, h2, h3, h4⟩ := h
  rcases (rowE_open h3).2 with ⟨rfl, rfl⟩ | ⟨g, cap, cur, t, fz, rfl, hg, _, _, _, ht⟩
  · simp at h2; subst h2; simp at ho
  · refine ⟨g, cap, vs, f, rfl, by simp [Value.ownBlock], h4, fun j u hu => ?_⟩
    rw [cell_of_row _ g j cur t fz hg]
    rw [← ht, List.getElem?_take] at hu
    split at hu
    · simpa using hu
    · cases hu
/-- a cell of key k at offset o, as it is read -/
def dvE (k o : Nat) (d : DV) : CV := bif d.plain then .dv [] d else .nest k o d
def dvEs (k : Nat) : Nat → List DV → List CV
  | _, [] => []
  | o, d :: ds => dvE k o d :: dvEs k (o + 1) ds
section
variable {P : Program} {C : Ctx} {nt : Nat} {L : Lyt} {σ : St} {a : Act} {w : World} {o : Oper} {x y : Operand} {T : TT}
theorem dvE_cv {k off g n c : Nat} {d : DV} {v : Value} {fd : List Nat} (ho : Own w d v fd) (hf : ∀ b ∈ fd, b ∈ L.fp k) (hr : L.rv k = .slice (some ⟨g, 0, none⟩) n c) (hg : g ∈ L.fp k) (hc : w.cell? ⟨g, off, none⟩ = some v) : CVr C L w (dvE k off d) v := by
  unfold dvE
  have hl : Lay (okB C L [k]) w d v := own_lay _ _ _ ho (fun b hb => .inr ⟨k, by simp, hf b hb⟩)
  cases hp : d.plain with
  | true =>
    simp only [cond_true, CVr]
    exact own_lay _ _ _ (lay_plain (w' := w) hp hl) (by simp)
  | false => exact ⟨hl, g, n, c, hr, hg, hc⟩
theorem dvE_keys {k off : Nat} {d : DV} : ∀ j ∈ (dvE k off d).keys, j = k := by
  unfold dvE
  cases d.plain <;> simp [CV.keys]
theorem pu_loadE1 (hT : TTOk P T) {t k off : Nat} {d : DV} {c : KC} {u : Unit} (ho : o.op = .load t x) (ht : look T.on t = some u) (hx : Ev P C nt σ x (.eptr k off)) (hk : lkk σ k = some c) (hd : c.cs[off]? = some d) : Pu P C nt o σ (.one (dvE k off d)) [k] [] := Pu.mk fun L a w hr => by
  have h1 := hx.run L a w hr
  simp only [SVr] at h1
  obtain ⟨g, n, cap, e1, e2⟩ := h1
  have hlt : off < c.cs.length := (List.getElem?_eq_some_iff.1 hd).1
  obtain ⟨g', cap', vs, f, k1, k2, k3, k4⟩ := ownE_row (hr.ks k c hk).1 hlt
  rw [e1] at k1
  simp only [Value.slice.injEq, Option.some.injEq, Addr.mk.injEq, and_true, true_and] at k1
  obtain ⟨rfl, rfl, rfl⟩ := k1
  obtain ⟨v, fa, fd, fb, m1, m2, m3, _⟩ := ownL_out k3 hd
  have hc := k4 off v m1
  have hgm : g ∈ L.fp k := by rw [k2]; simp
  refine ⟨v, by simp only [SVr]; exact dvE_cv m3 (fun b hb => by rw [k2, m2]; simp [hb]) e1 hgm hc, fun w' hw => ?_⟩
  have hc' : w'.cell? ⟨g, off, none⟩ = some v := (World.cell?_of_block (a := ⟨g, off, none⟩) (hw g (cell_lt hc) (.inl (.inr ⟨k, by simp, hgm⟩)))).trans hc
  unfold execOp
  simp only [ho, e2, Instr.loadAt, Instr.sureAddr, Sem.run_bind, Sem.run_pure, Result.andThen_ok]
  rw [run_loadVar_cell (hT.on t u ht) hc']
  rfl
theorem dvEs_cv {k g n c : Nat} (hr : L.rv k = .slice (some ⟨g, 0, none⟩) n c) (hg : g ∈ L.fp k) : ∀ {ds : List DV} {vs : List Value} {f : List Nat} {off : Nat}, OwnL w ds vs f → (∀ b ∈ f, b ∈ L.fp k) → (∀ j u, vs[j]? = some u → w.cell? ⟨g, off + j, none⟩ = some u) → CVL C L w (dvEs k off ds) vs
  | [], _, _, _, h, _, _ => by simp only [OwnL] at h; obtain ⟨rfl, _⟩ := h; rfl
  | d :: ds, _, _, off, h, hf, hc => by
    simp only [OwnL] at h
    obtain ⟨v, vs', f1, f2, rfl, rfl, h1, h2⟩ := h
    refine ⟨v, vs', rfl, dvE_cv h1 (fun b hb => hf b (by simp [hb])) hr hg (by simpa using hc 0 v rfl), dvEs_cv hr hg h2 (fun b hb => hf b (by simp [hb])) (fun j u hu => ?_)⟩
    have := hc (j + 1) u (by simpa using hu)
    rwa [show off + 1 + j = off + (j + 1) by omega]
theorem dvEs_keys {k : Nat} : ∀ {ds : List DV} {off : Nat}, ∀ j ∈ (dvEs k off ds).flatMap CV.keys, j = k
  | [], _, j, hj => by simp [dvEs] at hj
  | d :: ds, off, j, hj => by
    simp only [dvEs, List.flatMap_cons, List.mem_append] at hj
    rcases hj with hj | hj
    · exact dvE_keys j hj
    · exact dvEs_keys j hj
theorem pu_loadEA (hT : TTOk P T) {t k off n : Nat} {c : KC} {ds : List DV} (ho : o.op = .load t x) (ht : look T.ag t = some n) (hx : Ev P C nt σ x (.eptr k off)) (hk : lkk σ k = some c) (hl : ds.length = n) (hpos : 0 < n) (hd : sub off n c.cs = ds) : Pu P C nt o σ (.agg (dvEs k off ds)) [k] [] := Pu.mk fun L a w hr => by
  subst hd
  have h1 := hx.run L a w hr
  simp only [SVr] at h1
  obtain ⟨g, m, cap, e1, e2⟩ := h1
  have hle : off + n ≤ c.cs.length := by
    simp only [sub, List.length_take, List.length_drop] at hl
    omega
  obtain ⟨g', cap', vs, f, k1, k2, k3, k4⟩ := ownE_row (hr.ks k c hk).1 (show off < c.cs.length by omega)
  rw [e1] at k1
  simp only [Value.slice.injEq, Option.some.injEq, Addr.mk.injEq, and_true, true_and] at k1
  obtain ⟨rfl, rfl, rfl⟩ := k1
  have hgm : g ∈ L.fp k := by rw [k2]; simp
  have hsp : c.cs = c.cs.take off ++ (sub off n c.cs ++ (c.cs.drop off).drop n) := by rw [sub, List.take_append_drop, List.take_append_drop]
  have k3' := k3
  rw [hsp] at k3'
  obtain ⟨u1, u2, f1, f2, rfl, rfl, q1, q2⟩ := ownL_split _ _ _ _ k3'
  obtain ⟨u3, u4, f3, f4, rfl, rfl, q3, q4⟩ := ownL_split _ _ _ _ q2
  have l1 : u1.length = off := by rw [ownL_len _ _ _ q1]; simp; omega
  have l3 : u3.length = n := by rw [ownL_len _ _ _ q3]; exact hl
  have hcell : ∀ j u, u3[j]? = some u → w.cell? ⟨g, off + j, none⟩ = some u := fun j u hu => k4 (off + j) u (by
    have hj : j < u3.length := (List.getElem?_eq_some_iff.1 hu).1
    rw [List.getElem?_append_right (by omega), List.getElem?_append_left (by omega), show off + j - u1.length = j by omega]
    exact hu)
  refine ⟨.agg u3.toArray, by simp only [SVr]; exact ⟨u3, rfl, dvEs_cv e1 hgm q3 (fun b hb => by rw [k2]; simp [hb]) hcell⟩, fun w' hw => ?_⟩
  have hb' : w'.heap[g]? = w.heap[g]? := hw g (hr.k_lt hk g hgm) (.inl (.inr ⟨k, by simp, hgm⟩))
  unfold execOp
  simp only [ho, e2, Instr.loadAt, Instr.sureAddr, Sem.run_bind, Sem.run_pure, Result.andThen_ok]
  rw [run_loadVar_cells (us := u3) (hT.ag t n ht) l3 (fun j u hu => (World.cell?_of_block (a := ⟨g, off + j, none⟩) hb').trans (hcell j u hu))]
  rfl
/-! ### a nested cell, taken out and put back -/
theorem Rel.split (h : Rel P C nt L σ a w) {k k' off e sz n : Nat} {c : KC} {cs : List DV} (hk : lkk σ k = some c) (hd : c.cs[off]? = some (.sl e sz n cs)) (hk' : lkk σ k' = none) :
    ∃ L' v g m cap, L.rv k = .slice (some ⟨g, 0, none⟩) m cap ∧ w.cell? ⟨g, off, none⟩ = some v ∧ L'.rv k = L.rv k ∧ L'.rv k' = v ∧ g ∈ L'.fp k ∧
      Rel P C nt L' ⟨(σ.mut k [] true { c with cs := c.cs.set off .hole }).tm, (σ.mut k [] true { c with cs := c.cs.set off .hole }).bx, (k', some ⟨false, e, sz, n, cs⟩) :: (k, some { c with cs := c.cs.set off .hole }) :: σ.ks⟩ a w := by
  have hlt : off < c.cs.length := (List.getElem?_eq_some_iff.1 hd).1
  have hown := (h.ks k c hk).1
  obtain ⟨g, cap, vs, f, k1, k2, k3, k4⟩ := ownE_row hown hlt
  obtain ⟨v, fa, fd, fb, m1, m2, m3, m4⟩ := ownL_out k3 hd
  have hkk : k ≠ k' := fun e' => by rw [← e', hk] at hk'; cases hk'
  have hgm : g ∈ L.fp k := by rw [k2]; simp
  have hnd := h.kn k c hk
  rw [k2, m2] at hnd
  simp only [List.nodup_cons, List.mem_append, not_or] at hnd
  obtain ⟨nd1, nd2⟩ := hnd
  rw [List.nodup_append] at nd2
  obtain ⟨nd2, nd3, nd4⟩ := nd2
  rw [List.nodup_append] at nd3
  obtain ⟨nd3, nd5, nd6⟩ := nd3
  have hown1 : Own w (.sl c.e c.sz c.n (c.cs.set off .hole)) (L.rv k) (g :: (fa ++ fb)) := by
    unfold Own at hown ⊢
    obtain ⟨vs2, f2, p1, p2, p3, p4, p5⟩ := hown
    have hvs : vs2 = vs := by
      rcases (rowE_open p4).2 with ⟨q1, q2⟩ | ⟨g2, cap2, cur, t2, fz2, q1, q3, q4, q5, q6, q7⟩
      · rw [k1] at q1; cases q1
      · rw [k1] at q1
        simp only [Value.slice.injEq, Option.some.injEq, Addr.mk.injEq, and_true, true_and] at q1
        obtain ⟨rfl, rfl⟩ := q1
        apply List.ext_getElem (by rw [ownL_len _ _ _ p5, ownL_len _ _ _ k3])
        intro i i1 i2
        have r1 := k4 i _ (List.getElem?_eq_getElem i2)
        rw [cell_of_row _ g i cur t2 fz2 q3] at r1
        have r3 : i < c.n * c.sz := by rw [← p3, ← ownL_len _ _ _ p5]; exact i1
        have r2 : vs2[i]? = cur[i]? := by rw [← q7, List.getElem?_take, if_pos r3, Array.getElem?_toList]
        rw [List.getElem?_eq_getElem i1] at r2
        rw [← r2] at r1
        exact Option.some.inj r1
    subst hvs
    exact ⟨vs2, fa ++ fb, by rw [k1]; simp [Value.ownBlock], p2, by simpa using p3, p4, m4⟩
  have hrel := h.setkey (k := k) (c := c) (c' := { c with cs := c.cs.set off .hole }) (js := []) (same := true) (v' := L.rv k) (f' := g :: (fa ++ fb)) hk (by simp) (Chg.refl _ _) hown1
    (by
      rw [List.nodup_cons, List.nodup_append]
      refine ⟨fun hm => ?_, nd2, nd5, fun x hx y hy => nd4 x hx y (by simp [hy])⟩
      simp only [List.mem_append] at hm
      rcases hm with hm | hm
      · exact nd1.1 hm
      · exact nd1.2.2 hm)
    (fun b hb => .inl (by
      rw [k2, m2]
      simp only [List.mem_cons, List.mem_append] at hb ⊢
      rcases hb with hb | hb | hb
      · exact .inl hb
      · exact .inr (.inl hb)
      · exact .inr (.inr (.inr hb)))) (by simp) (fun _ => rfl) (fun e' => ⟨e', rfl⟩)
  have hfd : ∀ b ∈ fd, b ∈ L.fp k := fun b hb => by rw [k2, m2]; simp [hb]
  have hnew := hrel.newkey (k := k') (c := ⟨false, e, sz, n, cs⟩) (v := v) (f := fd)
    (by
      simp only [lkk, St.mut, List.map_nil, List.nil_append, List.cons_append, look_cons]
      rw [if_neg (fun e' => hkk e'.symm)]
      exact hk') m3 rfl nd3 (fun b hb => h.k1 k c hk b (hfd b hb))
    (fun b hb i x hx e' => by
      have hx' : ∃ y, look σ.bx i = some y := by
        have := look_map (fun q : TypeId × List CV => (q.1, q.2.map (CV.kill [k] []))) σ.bx i
        change look (killB [k] [] σ.bx) i = _ at this
        change look (killB [k] [] σ.bx) i = some x at hx
        rw [this] at hx
        cases hy : look σ.bx i with
        | none => rw [hy] at hx; cases hx
        | some q => exact ⟨q, rfl⟩
      obtain ⟨y, hy⟩ := hx'
      exact h.bk i k y c hy hk (by rw [show L.bb i = b from e']; exact hfd b hb))
    (fun b hb j d' hj => by
      simp only [lkk, St.mut, List.map_nil, List.nil_append, List.cons_append, look_cons] at hj
      by_cases hjk : j = k
      · subst hjk
        simp only [if_true]
        intro hm
        simp only [List.mem_cons, List.mem_append] at hm
        rcases hm with hm | hm | hm
        · exact nd1.2.1 (hm ▸ hb)
        · exact nd4 b hm b (by simp [hb]) rfl
        · exact nd6 b hb b hm rfl
      · rw [if_neg hjk] at hj
        simp only [if_neg hjk]
        exact fun hm => h.kk j k d' c hj hk hjk b hm (hfd b hb))
  refine ⟨_, v, g, c.n, cap, k1, k4 off v m1, ?_, ?_, ?_, hnew⟩
  · simp [hkk]
  · simp
  · simp [hkk]
theorem Rel.join (h : Rel P C nt L σ a w) {k k' off g m cap : Nat} {c c' : KC} (hk : lkk σ k = some c) (hk' : lkk σ k' = some c') (hkk : k ≠ k') (ho : c.cs[off]? = some .hole) (hr : L.rv k = .slice (some ⟨g, 0, none⟩) m cap) (hc : w.cell? ⟨g, off, none⟩ = some (L.rv k')) :
    ∃ L', Rel P C nt L' (σ.mut k [k'] true { c with cs := c.cs.set off (.sl c'.e c'.sz c'.n c'.cs) }) a w := by
  have hlt : off < c.cs.length := (List.getElem?_eq_some_iff.1 ho).1
  have hown := (h.ks k c hk).1
  obtain ⟨g', cap', vs, f, k1, k2, k3, k4⟩ := ownE_row hown hlt
  rw [hr] at k1
  simp only [Value.slice.injEq, Option.some.injEq, Addr.mk.injEq, and_true, true_and] at k1
  obtain ⟨rfl, rfl, rfl⟩ := k1
  have hown' := (h.ks k' c' hk').1
  have hv : vs[off]? = some (L.rv k') := by
    have hl : off < vs.length := by rw [ownL_len _ _ _ k3]; exact hlt
    have := k4 off _ (List.getElem?_eq_getElem hl)
    rw [hc] at this
    rw [List.getElem?_eq_getElem hl, ← Option.some.inj this]
  obtain ⟨fa, fb, e1, e2⟩ := ownL_in hown' k3 ho hv
  have hnd := h.kn k c hk
  rw [k2, e1] at hnd
  simp only [List.nodup_cons, List.mem_append, not_or] at hnd
  obtain ⟨nd1, nd2⟩ := hnd
  rw [List.nodup_append] at nd2
  obtain ⟨nd2, nd3, nd4⟩ := nd2
  have hdis : ∀ b ∈ L.fp k', b ∉ L.fp k := fun b hb hm => h.kk k' k c' c hk' hk (fun e' => hkk e'.symm) b hb hm
  have hin : ∀ b, b ∈ fa ∨ b ∈ fb → b ∈ L.fp k := fun b hb => by
    rw [k2, e1]
    rcases hb with hb | hb <;> simp [hb]
  have hset := h.setkey (k := k) (c := c) (c' := { c with cs := c.cs.set off (.sl c'.e c'.sz c'.n c'.cs) }) (js := [k']) (same := true) (v' := L.rv k) (f' := g :: (fa ++ (L.fp k' ++ fb))) hk (by simpa using hkk) (Chg.refl _ _)
    (by
      unfold Own at hown ⊢
      obtain ⟨vs2, f2, p1, p2, p3, p4, p5⟩ := hown
      have hvs : vs2 = vs := by
        rcases (rowE_open p4).2 with ⟨q1, q2⟩ | ⟨g2, cap2, cur, t2, fz2, q1, q3, q4, q5, q6, q7⟩
        · rw [hr] at q1; cases q1
        · rw [hr] at q1
          simp only [Value.slice.injEq, Option.some.injEq, Addr.mk.injEq, and_true, true_and] at q1
          obtain ⟨rfl, rfl⟩ := q1
          apply List.ext_getElem (by rw [ownL_len _ _ _ p5, ownL_len _ _ _ k3])
          intro i i1 i2
          have r1 := k4 i _ (List.getElem?_eq_getElem i2)
          rw [cell_of_row _ g i cur t2 fz2 q3] at r1
          have r3 : i < c.n * c.sz := by rw [← p3, ← ownL_len _ _ _ p5]; exact i1
          have r2 : vs2[i]? = cur[i]? := by rw [← q7, List.getElem?_take, if_pos r3, Array.getElem?_toList]
          rw [List.getElem?_eq_getElem i1] at r2
          rw [← r2] at r1
          exact Option.some.inj r1
      subst hvs
      exact ⟨vs2, fa ++ (L.fp k' ++ fb), by rw [hr]; simp [Value.ownBlock], p2, by simpa using p3, p4, e2⟩)
    (by
      rw [List.nodup_cons, List.nodup_append, List.nodup_append]
      refine ⟨fun hm => ?_, nd2, ⟨h.kn k' c' hk', nd3, fun x hx y hy e' => hdis x hx (hin x (.inr (e' ▸ hy)))⟩, fun x hx y hy e' => ?_⟩
      · simp only [List.mem_append] at hm
        rcases hm with hm | hm | hm
        · exact nd1.1 hm
        · exact hdis g hm (by rw [k2]; simp)
        · exact nd1.2 hm
      · rcases List.mem_append.1 hy with hy | hy
        · exact hdis y hy (hin y (.inl (e' ▸ hx)))
        · exact nd4 x hx y hy e')
    (fun b hb => by
      simp only [List.mem_cons, List.mem_append] at hb
      rcases hb with hb | hb | hb | hb
      · exact .inl (by rw [k2, hb]; simp)
      · exact .inl (hin b (.inl hb))
      · exact .inr (.inl ⟨k', by simp, hb⟩)
      · exact .inl (hin b (.inr hb)))
    (fun j hj => by simp only [List.mem_singleton] at hj; subst hj; simp [hk']) (fun _ => rfl) (fun e' => ⟨e', rfl⟩)
  exact ⟨_, hset⟩
/-- a nested cell becomes a key of its own; a hole is left -/
theorem weak_out {t k k' off e sz n : Nat} {c : KC} {cs : List DV} (ht : look σ.tm t = some (.one (.nest k off (.sl e sz n cs)))) (hk : lkk σ k = some c) (hd : c.cs[off]? = some (.sl e sz n cs)) (hk' : lkk σ k' = none) :
    Weak P C nt σ ⟨(t, .one (.key k')) :: killT [k] [] σ.tm, killB [k] [] σ.bx, (k', some ⟨false, e, sz, n, cs⟩) :: (k, some { c with cs := c.cs.set off .hole }) :: σ.ks⟩ := Weak.mk fun L a w hr => by
  have h1 := hr.tm t _ ht
  simp only [SVr, CVr] at h1
  obtain ⟨_, g, m, cap, e1, e2, e3⟩ := h1
  obtain ⟨L', v, g', m', cap', q1, q2, q3, q4, q5, q6⟩ := hr.split hk hd hk'
  rw [e1] at q1
  simp only [Value.slice.injEq, Option.some.injEq, Addr.mk.injEq, and_true, true_and] at q1
  obtain ⟨rfl, rfl, rfl⟩ := q1
  rw [e3] at q2
  have hv := Option.some.inj q2
  exact ⟨L', q6.also (v := .one (.key k')) (by simp only [SVr, CVr]; rw [q4]; exact hv) (by simp [SV.keys, CV.keys, lkk, look_cons]) (by simp [SV.boxes])⟩
/-- the state in which a nested cell of key k is a key k' of its own -/
@[reducible] def St.outs (σ : St) (t k k' off e sz n : Nat) (c : KC) (cs : List DV) : St :=
  ⟨(t, .one (.key k')) :: killT [k] [] σ.tm, killB [k] [] σ.bx, (k', some ⟨false, e, sz, n, cs⟩) :: (k, some { c with cs := c.cs.set off .hole }) :: σ.ks⟩
/-- a call that writes a nested cell of key k -/
theorem ef_callN {f : FuncId} {xs : List Operand} {ats : Array TypeId} {us : List SV} {X : SV} {t k k' off e sz n n2 d : Nat} {c : KC} {cs cs2 : List DV} (ho : o.op = .call { callee := .value (.func f), args := xs.toArray, argTypes := ats }) (hd : o.dst = some d) (hn : Nat.blt d nt = true)
    (hc : ∀ (args : Array Value) (w : World), (callFunc f args).run P w = .ok (.enter f args) w) (hf : WFn P f us X [(0, ⟨true, e, sz, n, cs⟩)] [(0, ⟨true, e, sz, n2, cs2⟩)])
    (ht : look σ.tm t = some (.one (.nest k off (.sl e sz n cs)))) (hk : lkk σ k = some c) (hcs : c.cs[off]? = some (.sl e sz n cs)) (hk' : lkk σ k' = none)
    (ha : ArgWs P C nt (σ.outs t k k' off e sz n c cs) [(0, k')] xs us) (hX : X.plain = true) :
    Ef P C nt o σ (fun σ' => σ' = ((((σ.outs t k k' off e sz n c cs).wrote [(0, k', ⟨false, e, sz, n, cs⟩, ⟨false, e, sz, n2, cs2⟩)]).put d X).mut k [k'] true { c with cs := c.cs.set off (.sl e sz n2 cs2) })) := Ef.mk fun L a w hr K Q' hK => by
  have h1 := hr.tm t _ ht
  simp only [SVr, CVr] at h1
  obtain ⟨_, g, m, cap, e1, e2, e3⟩ := h1
  have hkk : k ≠ k' := fun e' => by rw [← e', hk] at hk'; cases hk'
  have hlt : off < c.cs.length := (List.getElem?_eq_some_iff.1 hcs).1
  obtain ⟨L', v, g', m', cap', q1, q2, q3, q4, q5, q6⟩ := hr.split hk hcs hk'
  rw [e1] at q1
  simp only [Value.slice.injEq, Option.some.injEq, Addr.mk.injEq, and_true, true_and] at q1
  obtain ⟨rfl, rfl, rfl⟩ := q1
  rw [e3] at q2
  have hv := Option.some.inj q2
  have hr1 : Rel P C nt L' (σ.outs t k k' off e sz n c cs) a w := q6.also (d := t) (v := .one (.key k')) (by simp only [SVr, CVr]; rw [q4]; exact hv) (by simp [SV.keys, CV.keys, lkk, look_cons]) (by simp [SV.boxes])
  have hlk' : lkk (σ.outs t k k' off e sz n c cs) k' = some ⟨false, e, sz, n, cs⟩ := by simp [lkk, look_cons]
  have hlk : lkk (σ.outs t k k' off e sz n c cs) k = some { c with cs := c.cs.set off .hole } := by simp [lkk, look_cons, hkk]
  refine callW_wp (it := [(0, k', ⟨false, e, sz, n, cs⟩, ⟨false, e, sz, n2, cs2⟩)]) ho hd hn hc hf ha hX ?_ ?_ ?_ hr1 ?_
  · intro i q hq
    simp only [look_cons] at hq
    split at hq
    · simp only [Option.some.injEq] at hq; subst hq; exact hlk'
    · cases hq
  · intro q hq
    simp only [List.mem_singleton] at hq
    subst hq; rfl
  · intro i j q r hq hr' _
    simp only [look_cons] at hq hr'
    split at hq <;> split at hr'
    · rename_i a1 a2; rw [a1, a2]
    · cases hr'
    · cases hq
    · cases hq
  · intro L2 a' w' hr2 hrv hchg
    simp only [List.flatMap_cons, List.flatMap_nil, List.append_nil] at hchg
    have hgn : g ∉ L'.fp k' := fun hm => hr1.kk k' k _ _ hlk' hlk (fun e' => hkk e'.symm) g hm q5
    have hcell : w'.cell? ⟨g, off, none⟩ = some (L2.rv k') := by
      rw [hrv, q4]
      exact (World.cell?_of_block (a := ⟨g, off, none⟩) (hchg.block g (cell_lt e3) hgn)).trans (hv ▸ e3)
    obtain ⟨L3, hr3⟩ := hr2.join (k := k) (k' := k') (off := off) (g := g) (m := m) (cap := cap) (c := { c with cs := c.cs.set off .hole }) (c' := ⟨false, e, sz, n2, cs2⟩)
      (by simp [lkk, St.put, St.wrote, look_cons, hkk]) (by simp [lkk, St.put, St.wrote, look_cons]) hkk (by simp [hlt]) (by rw [hrv, q3]; exact e1) hcell
    simp only [List.set_set] at hr3
    exact hK L3 _ a' w' rfl hr3
section
variable {Q : Exit → St → Prop} {all : Array Oper} {rest : List Oper} {tm : List (Nat × SV)} {bx : List (Nat × TypeId × List CV)} {ks : List (Nat × Option KC)}
theorem o_callN {f : FuncId} {xs : List Operand} {ats : Array TypeId} {us : List SV} {X : SV} {t k off e sz n n2 d : Nat} {c : KC} {cs cs2 ccs : List DV} (k' : Nat) (hg : o.guard = none) (hd : o.dst = some d) (ho : o.op = .call { callee := .value (.func f), args := xs.toArray, argTypes := ats })
    (hc : ∀ (args : Array Value) (w : World), (callFunc f args).run P w = .ok (.enter f args) w) (hf : WFn P f us X [(0, ⟨true, e, sz, n, cs⟩)] [(0, ⟨true, e, sz, n2, cs2⟩)])
    (ht : look tm t = some (.one (.nest k off (.sl e sz n cs)))) (hk : lkk ⟨tm, bx, ks⟩ k = some c) (hcs : c.cs[off]? = some (.sl e sz n cs)) (hk' : lkk ⟨tm, bx, ks⟩ k' = none)
    (ha : ArgWs P C nt (St.outs ⟨tm, bx, ks⟩ t k k' off e sz n c cs) [(0, k')] xs us) (hX : X.plain = true) (hn : Nat.blt d nt = true) (hcc : c.cs.set off (.sl e sz n2 cs2) = ccs)
    (h : Ops P C nt Q all rest ⟨killT [k, k'] [k'] ((d, X) :: killT [k'] [] ((t, .one (.key k')) :: killT [k] [] tm)), killB [k, k'] [k'] (killB [k'] [] (killB [k] [] bx)), (k, some { c with cs := ccs }) :: (k', none) :: (k', some ⟨false, e, sz, n2, cs2⟩) :: (k', some ⟨false, e, sz, n, cs⟩) :: (k, some { c with cs := c.cs.set off .hole }) :: ks⟩) : Ops P C nt Q all (o :: rest) ⟨tm, bx, ks⟩ :=
  ops_ef1 hg (ef_callN ho hd hn hc hf ht hk hcs hk' ha hX) (by subst hcc; exact h)
/-- the keys that a call writes -/
def ItOk (σ : St) : List (Nat × Nat × KC × KC) → Prop
  | [] => True
  | q :: l => lkk σ q.2.1 = some q.2.2.1 ∧ ItOk σ l
def nodupB : List Nat → Bool
  | [] => true
  | x :: xs => !(xs.any fun y => Nat.beq x y) && nodupB xs
theorem nodupB_spec : ∀ {xs : List Nat}, nodupB xs = true → xs.Nodup
  | [], _ => List.nodup_nil
  | x :: xs, h => by
    simp only [nodupB, Bool.and_eq_true, Bool.not_eq_true', List.any_eq_false] at h
    refine List.nodup_cons.2 ⟨fun hm => ?_, nodupB_spec h.2⟩
    have := h.1 x hm
    simp at this
def itDist (it : List (Nat × Nat × KC × KC)) : Bool := nodupB (it.map fun q => q.1) && nodupB (it.map fun q => q.2.1)
theorem itOk_mem {σ : St} : ∀ {it : List (Nat × Nat × KC × KC)}, ItOk σ it → ∀ q ∈ it, lkk σ q.2.1 = some q.2.2.1
  | [], _, q, hq => by simp at hq
  | p :: l, ⟨h1, h2⟩, q, hq => by
    rcases List.mem_cons.1 hq with rfl | hq
    · exact h1
    · exact itOk_mem h2 q hq
theorem look_of_mem {α : Type} : ∀ {l : List (Nat × α)}, (l.map fun q => q.1).Nodup → ∀ q ∈ l, look l q.1 = some q.2
  | [], _, q, hq => by simp at hq
  | p :: l, h, q, hq => by
    simp only [List.map_cons, List.nodup_cons] at h
    obtain ⟨i, v⟩ := p
    rw [look_cons]
    rcases List.mem_cons.1 hq with rfl | hq
    · simp
    · have : q.1 ≠ i := fun e => h.1 (by rw [← e]; exact List.mem_map.2 ⟨q, hq, rfl⟩)
      rw [if_neg this]
      exact look_of_mem h.2 q hq
theorem inj_of_nodup : ∀ {it : List (Nat × Nat × KC × KC)}, (it.map fun q => q.2.1).Nodup → ∀ p ∈ it, ∀ q ∈ it, p.2.1 = q.2.1 → p = q
  | [], _, p, hp, _, _, _ => by simp at hp
  | x :: l, h, p, hp, q, hq, e => by
    simp only [List.map_cons, List.nodup_cons] at h
    rcases List.mem_cons.1 hp with h1 | h1 <;> rcases List.mem_cons.1 hq with h2 | h2
    · rw [h1, h2]
    · exact absurd (List.mem_map.2 ⟨q, h2, by rw [← e, h1]⟩ : x.2.1 ∈ l.map fun q => q.2.1) h.1
    · exact absurd (List.mem_map.2 ⟨p, h1, by rw [e, h2]⟩ : x.2.1 ∈ l.map fun q => q.2.1) h.1
    · exact inj_of_nodup h.2 p h1 q h2 e
theorem o_callW {f : FuncId} {xs : List Operand} {ats : Array TypeId} {us : List SV} {X : SV} {d : Nat} (it : List (Nat × Nat × KC × KC)) (hg : o.guard = none) (hd : o.dst = some d) (ho : o.op = .call { callee := .value (.func f), args := xs.toArray, argTypes := ats })
    (hc : ∀ (args : Array Value) (w : World), (callFunc f args).run P w = .ok (.enter f args) w) (hf : WFn P f us X (it0 it) (it1 it)) (hi : ItOk ⟨tm, bx, ks⟩ it) (hdi : itDist it = true) (ha : ArgWs P C nt ⟨tm, bx, ks⟩ (itK it) xs us) (hX : X.plain = true) (hn : Nat.blt d nt = true)
    (h : Ops P C nt Q all rest ⟨(d, X) :: killT (it.map fun q => q.2.1) [] tm, killB (it.map fun q => q.2.1) [] bx, (it.map fun q => (q.2.1, some { q.2.2.2 with h := q.2.2.1.h })) ++ ks⟩) : Ops P C nt Q all (o :: rest) ⟨tm, bx, ks⟩ := by
  simp only [itDist, Bool.and_eq_true] at hdi
  replace hdi := And.intro (nodupB_spec hdi.1) (nodupB_spec hdi.2)
  refine ops_ef1 hg (ef_callW (it := it) ho hd hn hc hf ha hX (fun i q hq => itOk_mem hi _ (look_mem hq)) (fun q hq => look_of_mem hdi.1 q hq) (fun i j q r hq hr e => ?_)) h
  have := inj_of_nodup hdi.2 _ (look_mem hq) _ (look_mem hr) e
  exact congrArg Prod.fst this
theorem aw_nil {σ : St} {km : List (Nat × Nat)} : ArgWs P C nt σ km [] [] := rfl
theorem aw_cons {σ : St} {km : List (Nat × Nat)} {x : Operand} {xs : List Operand} {us : List SV} {v u : SV} (h1 : Ev P C nt σ x v) (h2 : ArgW km v u) (h3 : ArgWs P C nt σ km xs us) : ArgWs P C nt σ km (x :: xs) (u :: us) := ⟨v, u, us, rfl, h1, h2, h3⟩
theorem aw_one {km : List (Nat × Nat)} {c c' : CV} (h : ArgWc km c c') : ArgW km (.one c) (.one c') := ⟨c', h, rfl⟩
theorem aw_agg {km : List (Nat × Nat)} {cs cs' : List CV} (h : ArgWcs km cs cs') : ArgW km (.agg cs) (.agg cs') := ⟨cs', h, rfl⟩
theorem awc_nil {km : List (Nat × Nat)} : ArgWcs km [] [] := rfl
theorem awc_cons {km : List (Nat × Nat)} {c u : CV} {cs us : List CV} (h1 : ArgWc km c u) (h2 : ArgWcs km cs us) : ArgWcs km (c :: cs) (u :: us) := ⟨u, us, rfl, h1, h2⟩
theorem awc_key {km : List (Nat × Nat)} {i k : Nat} (h : look km i = some k) : ArgWc km (.key k) (.key i) := ⟨i, h, rfl⟩
theorem awc_dv {km : List (Nat × Nat)} {K : List Nat} {d : DV} (h : d.plain = true) : ArgWc km (.dv K d) (.dv [] d) := ⟨h, rfl⟩
end
/-! ### contents written out at an element -/
/-- a content, written out at an element -/
def mid (pre B post : List DV) : List DV := pre ++ (B ++ post)
theorem get_mid {pre B post : List DV} {m off j : Nat} {d : DV} (hp : pre.length = m) (ho : off = m + j) (hB : B[j]? = some d) : (mid pre B post)[off]? = some d := by
  unfold mid
  have hj : j < B.length := (List.getElem?_eq_some_iff.1 hB).1
  rw [List.getElem?_append_right (by omega), List.getElem?_append_left (by omega), show off - pre.length = j by omega]
  exact hB
theorem set_mid {pre B B' post : List DV} {m off j : Nat} {d : DV} (hp : pre.length = m) (ho : off = m + j) (hB : B.set j d = B') (hj : j < B.length) : (mid pre B post).set off d = mid pre B' post := by
  unfold mid
  rw [List.set_append_right _ _ (by omega), List.set_append_left _ _ (by omega), show off - pre.length = j by omega, hB]
theorem setR_mid {pre B B' post ds : List DV} {m off j : Nat} (hp : pre.length = m) (ho : off = m + j) (hB : setR j ds B = B') (hj : j + ds.length ≤ B.length) : setR off ds (mid pre B post) = mid pre B' post := by
  subst hB
  subst ho
  subst hp
  unfold setR mid
  rw [List.take_length_add_append, Nat.add_assoc, ← List.drop_drop, List.drop_left, List.take_append_of_le_length (by omega), List.drop_append_of_le_length (by omega)]
  simp
theorem sub_mid {pre B B' post : List DV} {m off j n : Nat} (hp : pre.length = m) (ho : off = m + j) (hB : sub j n B = B') (hj : j + n ≤ B.length) : sub off n (mid pre B post) = B' := by
  subst hB
  subst ho
  subst hp
  unfold sub mid
  rw [← List.drop_drop, List.drop_left, List.drop_append_of_le_length (by omega), List.take_append_of_le_length (by simp; omega)]
theorem le_mid {pre B post : List DV} {m off j n : Nat} (hp : pre.length = m) (ho : off = m + j) (hj : j + n ≤ B.length) : off + n ≤ (mid pre B post).length := by
  simp only [mid, List.length_append]
  omega
theorem Rel.same (h : Rel P C nt L σ a w) {ks : List (Nat × Option KC)} (e : ∀ i, lkk ⟨σ.tm, σ.bx, ks⟩ i = lkk σ i) : Rel P C nt L ⟨σ.tm, σ.bx, ks⟩ a w where
  df := h.df
  sz := h.sz
  tm := h.tm
  bx := h.bx
  ks := fun k c hc => h.ks k c (by rw [← e]; exact hc)
  b1 := h.b1
  k1 := fun k c hc => h.k1 k c (by rw [← e]; exact hc)
  kn := fun k c hc => h.kn k c (by rw [← e]; exact hc)
  bb := h.bb
  bk := fun i k x c hx hc => h.bk i k x c hx (by rw [← e]; exact hc)
  kk := fun k j c d hc hd => h.kk k j c d (by rw [← e]; exact hc) (by rw [← e]; exact hd)
  lk := fun k hk => by rw [e]; exact h.lk k hk
  lb := h.lb
  s0 := h.s0
  chg := h.chg
theorem ok_kcs {Q : Exit → St → Prop} {c : Code} {tm : List (Nat × SV)} {bx : List (Nat × TypeId × List CV)} {ks : List (Nat × Option KC)} {k : Nat} {kc : KC} {cs' : List DV} (hk : lkk ⟨tm, bx, ks⟩ k = some kc) (e : kc.cs = cs')
    (h : Ok P C nt Q c ⟨tm, bx, (k, some { kc with cs := cs' }) :: ks⟩) : Ok P C nt Q c ⟨tm, bx, ks⟩ := by
  subst e
  refine ok_weak (Weak.mk fun L a w hr => ⟨L, hr.same (ks := (k, some kc) :: ks) fun i => ?_⟩) h
  simp only [lkk, look_cons] at hk ⊢
  split
  · rename_i e'; rw [e', hk]; rfl
  · rfl
theorem w1_ok {σ' : St} {i : Nat} {c : KC} (h : lkk σ' i = some c) : ∀ j d, look [(i, c)] j = some d → lkk σ' j = some d := by
  intro j d hj
  simp only [look_cons] at hj
  split at hj
  · rename_i e; rw [e, h]; exact hj
  · cases hj
theorem w2_ok {σ' : St} {i i2 : Nat} {c c2 : KC} (h : lkk σ' i = some c) (h2 : lkk σ' i2 = some c2) : ∀ j d, look [(i, c), (i2, c2)] j = some d → lkk σ' j = some d := by
  intro j d hj
  simp only [look_cons] at hj
  split at hj
  · rename_i e; rw [e, h]; exact hj
  · split at hj
    · rename_i e; rw [e, h2]; exact hj
    · cases hj
theorem w3_ok {σ' : St} {i i2 i3 : Nat} {c c2 c3 : KC} (h : lkk σ' i = some c) (h2 : lkk σ' i2 = some c2) (h3 : lkk σ' i3 = some c3) : ∀ j d, look [(i, c), (i2, c2), (i3, c3)] j = some d → lkk σ' j = some d := by
  intro j d hj
  simp only [look_cons] at hj
  split at hj
  · rename_i e; rw [e, h]; exact hj
  · split at hj
    · rename_i e; rw [e, h2]; exact hj
    · split at hj
      · rename_i e; rw [e, h3]; exact hj
      · cases hj
end
end Go.Proofs.Ytbmgommbmhmbgaa
