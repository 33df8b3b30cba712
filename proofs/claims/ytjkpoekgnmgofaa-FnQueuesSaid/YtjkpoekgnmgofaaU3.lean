/-
  The rules of a small program logic over abstract states: no program is in sight but in the table of its types. Conditions: none.
-/
import Derived.Test.YtjkpoekgnmgofaaU2
namespace Go.Proofs.Ytjkpoekgnmgofaa
open Go.RowKit
set_option linter.unusedVariables false
set_option linter.unusedSimpArgs false
section
variable {P : Program} {C : Ctx} {nt : Nat} {Q : Exit → St → Prop} {all : Array Oper} {rest : List Oper} {tm : List (Nat × SV)} {bx : List (Nat × TypeId × List CV)} {ks : List (Nat × Option KC)}
end
section
variable {P : Program} {C : Ctx} {nt : Nat} {σ : St}
end
/-! ### regions that draw their order and append to a nested cell of a key -/
section
variable {P : Program} {C : Ctx} {nt : Nat} {σ : St} {L : Lyt} {a : Act} {w : World} {o : Oper} {x y : Operand} {T : TT}
theorem Rel.splitX (h : Rel P C nt L σ a w) {k k' off e sz n : Nat} {c : KC} {cs : List DV} (hk : lkk σ k = some c) (hd : c.cs[off]? = some (.sl e sz n cs)) (hk' : lkk σ k' = none) :
  ∃ L' v g m cap, L.rv k = .slice (some ⟨g, 0, none⟩) m cap ∧ w.cell? ⟨g, off, none⟩ = some v ∧ L'.rv k = L.rv k ∧ L'.rv k' = v ∧ g ∈ L'.fp k ∧
   (L'.bb = L.bb ∧ (∀ i, i ≠ k → i ≠ k' → L'.fp i = L.fp i) ∧ (∀ b ∈ L'.fp k, b ∈ L.fp k) ∧ (∀ b ∈ L'.fp k', b ∈ L.fp k)) ∧ Rel P C nt L' ⟨(σ.mut k [] true { c with cs := c.cs.set off .hole }).tm, (σ.mut k [] true { c with cs := c.cs.set off .hole }).bx, (k', some ⟨false, e, sz, n, cs⟩) :: (k, some { c with cs := c.cs.set off .hole }) :: σ.ks⟩ a w := by
 have hlt : off < c.cs.length := (List.getElem?_eq_some_iff.1 hd).1
 have hown := (h.ks k c hk).1
 obtain ⟨g, cap, vs, f, k1, k2, k3, k4⟩ := ownE_row hown hlt
 obtain ⟨v, fa, fd, fb, m1, m2, m3, m4⟩ := ownL_out k3 hd
 have hkk : k ≠ k' := fun e' => by rw [← e', hk] at hk'; cases hk'
 have hgm : g ∈ L.fp k := by rw [k2]; simp
 have hnd := h.kn k c hk
 rw [k2, m2] at hnd
 simp only [List.nodup_cons, List.mem_append, not_or] at hnd
 obtain ⟨nd1, nd2⟩ := hnd
 rw [List.nodup_append] at nd2
 obtain ⟨nd2, nd3, nd4⟩ := nd2
 rw [List.nodup_append] at nd3
 obtain ⟨nd3, nd5, nd6⟩ := nd3
 have hown1 : Own w (.sl c.e c.sz c.n (c.cs.set off .hole)) (L.rv k) (g :: (fa ++ fb)) := by
  unfold Own at hown ⊢
  obtain ⟨vs2, f2, p1, p2, p3, p4, p5⟩ := hown
  have hvs : vs2 = vs := by
   rcases (rowE_open p4).2 with ⟨q1, q2⟩ | ⟨g2, cap2, cur, t2, fz2, q1, q3, q4, q5, q6, q7⟩
   ·rw [k1] at q1; cases q1
   ·rw [k1] at q1
    simp only [Value.slice.injEq, Option.some.injEq, Addr.mk.injEq, and_true, true_and] at q1
    obtain ⟨rfl, rfl⟩ := q1
    apply List.ext_getElem (by rw [ownL_len _ _ _ p5, ownL_len _ _ _ k3])
    intro i i1 i2
    have r1 := k4 i _ (List.getElem?_eq_getElem i2)
    rw [cell_of_row _ g i cur t2 fz2 q3] at r1
    have r3 : i < c.n * c.sz := by rw [← p3, ← ownL_len _ _ _ p5]; exact i1
    have r2 : vs2[i]? = cur[i]? := by rw [← q7, List.getElem?_take, if_pos r3, Array.getElem?_toList]
    rw [List.getElem?_eq_getElem i1] at r2
    rw [← r2] at r1
    exact Option.some.inj r1
  subst hvs
  exact ⟨vs2, fa ++ fb, by rw [k1]; simp [Value.ownBlock], p2, by simpa using p3, p4, m4⟩
 have hrel := h.setkey (k := k) (c := c) (c' := { c with cs := c.cs.set off .hole }) (js := []) (same := true) (v' := L.rv k) (f' := g :: (fa ++ fb)) hk (by simp) (Chg.refl _ _) hown1
  (by
   rw [List.nodup_cons, List.nodup_append]
   refine ⟨fun hm => ?_, nd2, nd5, fun x hx y hy => nd4 x hx y (by simp [hy])⟩
   simp only [List.mem_append] at hm
   rcases hm with hm | hm
   ·exact nd1.1 hm
   ·exact nd1.2.2 hm)
  (fun b hb => .inl (by
   rw [k2, m2]
   simp only [List.mem_cons, List.mem_append] at hb ⊢
   rcases hb with hb | hb | hb
   ·exact .inl hb
   ·exact .inr (.inl hb)
   ·exact .inr (.inr (.inr hb)))) (by simp) (fun _ => rfl) (fun e' => ⟨e', rfl⟩)
 have hfd : ∀ b ∈ fd, b ∈ L.fp k := fun b hb => by rw [k2, m2]; simp [hb]
 have hnew := hrel.newkey (k := k') (c := ⟨false, e, sz, n, cs⟩) (v := v) (f := fd)
  (by
   simp only [lkk, St.mut, List.map_nil, List.nil_append, List.cons_append, look_cons]
   rw [if_neg (fun e' => hkk e'.symm)]
   exact hk') m3 rfl nd3 (fun b hb => h.k1 k c hk b (hfd b hb))
  (fun b hb i x hx e' => by
   have hx' : ∃ y, look σ.bx i = some y := by
    have := look_map (fun q : TypeId × List CV => (q.1, q.2.map (CV.kill [k] []))) σ.bx i
    change look (killB [k] [] σ.bx) i = _ at this
    change look (killB [k] [] σ.bx) i = some x at hx
    rw [this] at hx
    cases hy : look σ.bx i with
    | none => rw [hy] at hx; cases hx
    | some q => exact ⟨q, rfl⟩
   obtain ⟨y, hy⟩ := hx'
   exact h.bk i k y c hy hk (by rw [show L.bb i = b from e']; exact hfd b hb))
  (fun b hb j d' hj => by
   simp only [lkk, St.mut, List.map_nil, List.nil_append, List.cons_append, look_cons] at hj
   by_cases hjk : j = k
   ·subst hjk
    simp only [if_true]
    intro hm
    simp only [List.mem_cons, List.mem_append] at hm
    rcases hm with hm | hm | hm
    ·exact nd1.2.1 (hm ▸ hb)
    ·exact nd4 b hm b (by simp [hb]) rfl
    ·exact nd6 b hb b hm rfl
   ·rw [if_neg hjk] at hj
    simp only [if_neg hjk]
    exact fun hm => h.kk j k d' c hj hk hjk b hm (hfd b hb))
 refine ⟨_, v, g, c.n, cap, k1, k4 off v m1, ?_, ?_, ?_, ?_, hnew⟩
 ·simp [hkk]
 ·simp
 ·simp [hkk]
 refine ⟨rfl, fun i h1 h2 => ?_, fun b hb => ?_, fun b hb => ?_⟩
 ·simp [h1, h2]
 ·simp only [if_neg hkk, if_true] at hb
  rw [k2, m2]
  simp only [List.mem_cons, List.mem_append] at hb ⊢
  rcases hb with hb | hb | hb
  ·exact .inl hb
  ·exact .inr (.inl hb)
  ·exact .inr (.inr (.inr hb))
 ·simp only [if_true] at hb
  exact hfd b hb

theorem app_wpK (hT : TTOk P T) {t e sz by_ d k j : Nat} {zc : List CV} {c c2 : KC} (ho : o.op = .call { callee := .builtin .append, args := #[x, y], argTypes := #[t, t] }) (hd : o.dst = some d) (hnt : Nat.blt d nt = true) (ht : look T.sl t = some e) (he : look T.el e = some (sz, by_, zc)) (hl0 : zc.length = sz)
  (hx : Ev P C nt σ x (.one (.key k))) (hk : lkk σ k = some c) (hce : c.e = e) (hcs : c.sz = sz) (hy : Ev P C nt σ y (.one (.key j))) (hj : lkk σ j = some c2) (hcs2 : c2.sz = sz) (hkj : k ∉ [j]) (hb : (c.n + c2.n) * by_ ≤ 140737488355328) (h63 : c.n + c2.n ≤ 9223372036854775807)
  {L : Lyt} {a : Act} {w : World} {K : Act → World → Prop} {Q : Exit → Act → World → Prop} (hr : Rel P C nt L σ a w) (hK : ∀ L' a' w', Rel P C nt L' ((σ.mut k [j] false ⟨false, e, sz, c.n + c2.n, c.cs ++ c2.cs⟩).put d (.one (.key k))) a' w' → AppF L L' w w' k [j] → K a' w') : o.wp P a w K Q := by
 have h1 := hx.run L a w hr
 have h2 := hy.run L a w hr
 simp only [SVr, CVr] at h1 h2
 have hown := (hr.ks j c2 hj).1
 have hlay := own_lay (ok := fun _ => True) _ _ _ hown (fun _ _ => trivial)
 rw [hcs2] at hlay
 simp only [Own] at hown
 obtain ⟨vs, f, e3, h5, h6, h7, h8⟩ := hown
 obtain ⟨A, cap, vs', e1, hrow, hlay'⟩ := lay_row hlay
 have hvs : vs' = vs := by
  have h7' := rowE_open h7
  rcases h7'.2 with ⟨g1, g2⟩ | ⟨g, cap2, cur, t', fz', g1, g2, g3, g4, g5, g6⟩
  ·have l1 : vs.length = 0 := by rw [h7'.1, g2]; simp
   have l2 : vs'.length = 0 := by rw [hrow.1, g2]; simp
   rw [List.eq_nil_of_length_eq_zero l1, List.eq_nil_of_length_eq_zero l2]
  ·rw [e1] at g1
   simp only [Value.slice.injEq, true_and] at g1
   obtain ⟨rfl, rfl⟩ := g1
   rcases Nat.eq_zero_or_pos c2.n with h0 | h0
   ·have l1 : vs.length = 0 := by rw [h7'.1, h0]; simp
    have l2 : vs'.length = 0 := by rw [hrow.1, h0]; simp
    rw [List.eq_nil_of_length_eq_zero l1, List.eq_nil_of_length_eq_zero l2]
   ·obtain ⟨b, off, k1, k2⟩ := hrow.2 h0
    simp only [Option.some.injEq, Addr.mk.injEq, and_true] at k1
    obtain ⟨rfl, rfl⟩ := k1
    apply List.ext_getElem (by rw [hrow.1, h7'.1, hcs2])
    intro i i1 i2
    have q1 := k2 i _ (List.getElem?_eq_getElem i1)
    rw [Nat.zero_add, cell_of_row w _ i cur t' fz' g2] at q1
    have q3 : i < c2.n * c2.sz := by rw [← h7'.1]; exact i2
    have q2 : vs[i]? = cur[i]? := by rw [← g6, List.getElem?_take, if_pos q3, Array.getElem?_toList]
    rw [List.getElem?_eq_getElem i2] at q2
    rw [← q2] at q1
    exact (Option.some.inj q1).symm
 subst hvs
 have hnf : f.Nodup := by
  have := hr.kn j c2 hj
  rw [e3] at this
  exact (List.nodup_append.1 this).2.1
 exact app_wpX hT ho hd (by simpa [Nat.blt_eq] using hnt) ht he hl0 hr hk hce hcs h1 (by rw [h2]; exact e1) hkj (by simp [hj]) hrow h8 (fun b hb' => ⟨j, by simp, by rw [e3]; simp [hb']⟩) hnf (by simpa [maxLen] using h63) hb hK
end
structure OpsK (P : Program) (C : Ctx) (nt : Nat) (Q : Exit → St → Prop) (all : Array Oper) (oB oK : List Nat) (k0 : Nat) (hd' : Nat → Bool) (listed : Array Bool) (fuel : Nat) (σ : St) : Prop where
 run : ∀ Bs wb L a w, Rel P C nt L σ a w → SWL Bs wb w → C.w0.heap.size ≤ wb.heap.size → (∀ i ∈ oB, L.bb i < wb.heap.size ∧ L.bb i ∉ Bs) → (∀ k ∈ oK, ∀ b ∈ L.fp k, b < wb.heap.size ∧ b ∉ Bs) → (∀ b ∈ L.fp k0, b ∈ Bs) → (∀ b ∈ Bs, fresh C b) → wpAnyT P .any all (QQ P C nt Q) (SWL Bs wb) hd' fuel listed a w
structure OpsKJ (P : Program) (C : Ctx) (nt : Nat) (Q : Exit → St → Prop) (all : Array Oper) (oB oK : List Nat) (k0 : Nat) (hd' : Nat → Bool) (listed : Array Bool) (fuel : Nat) (i : Nat) (σ : St) : Prop where
 run : ∀ Bs wb L a w, Rel P C nt L σ a w → SWL Bs wb w → C.w0.heap.size ≤ wb.heap.size → (∀ i ∈ oB, L.bb i < wb.heap.size ∧ L.bb i ∉ Bs) → (∀ k ∈ oK, ∀ b ∈ L.fp k, b < wb.heap.size ∧ b ∉ Bs) → (∀ b ∈ L.fp k0, b ∈ Bs) → (∀ b ∈ Bs, fresh C b) →
  wpOp P all (QQ P C nt Q) i (fun a' w' => (hd' i = true → SWL Bs wb w') ∧ wpAnyT P .any all (QQ P C nt Q) (SWL Bs wb) hd' fuel (listed.setIfInBounds i true) a' w') a w
def AllKJ (P : Program) (C : Ctx) (nt : Nat) (Q : Exit → St → Prop) (all : Array Oper) (oB oK : List Nat) (k0 : Nat) (hd' : Nat → Bool) (listed : Array Bool) (fuel : Nat) (σ : St) : List Nat → Prop
 | [] => True
 | i :: is => OpsKJ P C nt Q all oB oK k0 hd' listed fuel i σ ∧ AllKJ P C nt Q all oB oK k0 hd' listed fuel σ is
section
variable {P : Program} {C : Ctx} {nt : Nat} {Q : Exit → St → Prop} {all : Array Oper} {oB oK : List Nat} {k0 : Nat} {listed : Array Bool} {fuel : Nat} {hd' : Nat → Bool} {tm : List (Nat × SV)} {bx : List (Nat × TypeId × List CV)} {ks : List (Nat × Option KC)} {o : Oper} {d : Nat} {v X : SV} {Ks Bs0 : List Nat} {x y : Operand} {T : TT}
theorem allKJ_mem {σ : St} : ∀ {is : List Nat}, AllKJ P C nt Q all oB oK k0 hd' listed fuel σ is → ∀ i ∈ is, OpsKJ P C nt Q all oB oK k0 hd' listed fuel i σ
 | [], _, _, hi => by cases hi
 | j :: is, h, i, hi => by
  rcases List.mem_cons.1 hi with rfl | hi
  ·exact h.1
  ·exact allKJ_mem h.2 i hi
theorem ok_regionK (k0 : Nat) (hs : List Nat) {id : Nat} {l : List Oper} (hm : P.follows .mixedOrders = true) (hb : (oB.all fun i => (look bx i).isSome) = true) (hk : (oK.all fun k => (lkk ⟨tm, bx, ks⟩ k).isSome && !(Nat.beq k k0)) = true) (h0 : (lkk ⟨tm, bx, ks⟩ k0).isSome = true)
  (h : OpsK P C nt Q l.toArray oB oK k0 (fun i => hs.contains i) (Array.replicate l.length false) l.length ⟨tm, bx, ks⟩) : Ok P C nt Q (.region id l.toArray true) ⟨tm, bx, ks⟩ := Ok.mk fun L a w hr => by
 have hr' := rel_drew hr
 obtain ⟨c0, hc0⟩ := Option.isSome_iff_exists.1 h0
 refine T_begin (SWL (L.fp k0) w.drew) (fun i => hs.contains i) hm ?_
 have := h.run (L.fp k0) w.drew L a w.drew hr' (SWL.refl _ _) hr'.chg.size (fun i hi => ?_) (fun k hk' b hb' => ?_) (fun b hb' => hb') (fun b hb' => hr.k1 k0 c0 hc0 b hb')
 ·simpa using this
 ·obtain ⟨x, hx⟩ := Option.isSome_iff_exists.1 (List.all_eq_true.1 hb i hi)
  exact ⟨hr'.bx_lt hx, hr.bk i k0 x c0 hx hc0⟩
 ·have h1 := List.all_eq_true.1 hk k hk'
  simp only [Bool.and_eq_true, Bool.not_eq_true'] at h1
  obtain ⟨c, hc⟩ := Option.isSome_iff_exists.1 h1.1
  have hne : k ≠ k0 := fun e => by rw [e] at h1; simp at h1
  exact ⟨hr'.k_lt hc b hb', hr.kk k k0 c c0 hc hc0 hne b hb'⟩
theorem k_take (i : Nat) (hi : all[i]? = some o) (ht : takeB .any all hd' listed i = true) (hg : o.guard = none) (hd : o.dst = some d) (hp : Pu P C nt o ⟨tm, bx, ks⟩ v Ks Bs0) (h1 : (Ks.all fun k => oK.contains k) = true) (h2 : (Bs0.all fun k => oB.contains k) = true) (hn : Nat.blt d nt = true) (hk : svOk ⟨tm, bx, ks⟩ v = true)
  (h : OpsK P C nt Q all oB oK k0 hd' (listed.setIfInBounds i true) fuel ⟨(d, v) :: tm, bx, ks⟩) : OpsK P C nt Q all oB oK k0 hd' listed (fuel + 1) ⟨tm, bx, ks⟩ := ⟨fun Bs wb L a w hr hs hw hB hK h0 hF => by
 obtain ⟨r, q3, q4⟩ := hp.run L a w hr
 have hy : ∀ w', SWL Bs wb w' → (execOp a.eval o).run P w' = .ok (.value r) w' := fun w' hs' => q4 w' fun z _ hu => by
  have hz : z < wb.heap.size ∧ z ∉ Bs := by
   rcases hu with (⟨h5, h6⟩ | ⟨k, hk, hb⟩) | ⟨i, hi, rfl⟩
   ·refine ⟨by omega, fun hb => ?_⟩
    rcases hF z hb with g | g
    ·omega
    ·exact h6 g
   ·exact hK k (List.contains_iff_mem.1 (List.all_eq_true.1 h1 k hk)) z hb
   ·exact hB i (List.contains_iff_mem.1 (List.all_eq_true.1 h2 i hi))
  rw [hs'.2 z hz.1 hz.2, hs.2 z hz.1 hz.2]
 refine T_take i (v := r) hi ht (fun _ _ _ h => h) hs (.inl ⟨by simp [Region.wanted, hg], hy⟩) ?_
 rw [hd]
 exact h.run Bs wb L _ w (hr.put (by simpa [Nat.blt_eq] using hn) q3 (svOk_spec hk).1 (svOk_spec hk).2) hs hw hB hK h0 hF⟩
theorem k_split {σ : St} (i : Nat) (is : List Nat) (hr : (Region.ready .any all listed == i :: is) = true) (h : AllKJ P C nt Q all oB oK k0 hd' listed fuel σ (i :: is)) : OpsK P C nt Q all oB oK k0 hd' listed (fuel + 1) σ := ⟨fun Bs wb L a w hrel hs hw hB hK h0 hF => by
 have hr' : Region.ready .any all listed = i :: is := by simpa using hr
 refine ⟨fun h0 => (by rw [hr'] at h0; cases h0), fun j hj => ?_⟩
 rw [hr'] at hj
 exact (allKJ_mem h j hj).run Bs wb L a w hrel hs hw hB hK h0 hF⟩
theorem kj_of (i : Nat) {σ : St} (hi : all[i]? = some o) (hg : o.guard = none) (h : ∀ Bs wb L a w, Rel P C nt L σ a w → SWL Bs wb w → C.w0.heap.size ≤ wb.heap.size → (∀ i ∈ oB, L.bb i < wb.heap.size ∧ L.bb i ∉ Bs) → (∀ k ∈ oK, ∀ b ∈ L.fp k, b < wb.heap.size ∧ b ∉ Bs) → (∀ b ∈ L.fp k0, b ∈ Bs) → (∀ b ∈ Bs, fresh C b) →
   o.wp P a w (fun a' w' => (hd' i = true → SWL Bs wb w') ∧ wpAnyT P .any all (QQ P C nt Q) (SWL Bs wb) hd' fuel (listed.setIfInBounds i true) a' w') (QQ P C nt Q)) : OpsKJ P C nt Q all oB oK k0 hd' listed fuel i σ := ⟨fun Bs wb L a w hr hs hw hB hK h0 hF => by
 unfold wpOp
 simp only [hi]
 have hw' : Region.wanted o (yielded all a.tmps) = true := by simp [Region.wanted, hg]
 rw [if_pos hw']
 exact .inl (h Bs wb L a w hr hs hw hB hK h0 hF)⟩
theorem kj_efg (i : Nat) {R : St → Prop} (hi : all[i]? = some o) (hg : o.guard = none) (hp : EfG P C nt o ⟨tm, bx, ks⟩ R) (hb : (oB.all fun i => (look bx i).isSome) = true) (hk : (oK.all fun k => (lkk ⟨tm, bx, ks⟩ k).isSome) = true) (hk0 : (lkk ⟨tm, bx, ks⟩ k0).isSome = true)
  (h : ∀ σ', R σ' → OpsK P C nt Q all oB oK k0 hd' (listed.setIfInBounds i true) fuel σ') : OpsKJ P C nt Q all oB oK k0 hd' listed fuel i ⟨tm, bx, ks⟩ :=
 kj_of i hi hg fun Bs wb L a w hr hs hw hB hK h0 hF => hp.run L a w hr _ _ fun L' σ' a' w' h1 h2 h3 => by
  have hs' := hs.chg h3.chg (by simp)
  refine ⟨fun _ => hs', (h σ' h1).run Bs wb L' a' w' h2 hs' hw (fun j hj => ?_) (fun k hk' b' hb' => ?_) (fun b' hb' => ?_) hF⟩
  ·obtain ⟨x, hx⟩ := Option.isSome_iff_exists.1 (List.all_eq_true.1 hb j hj)
   rw [h3.box j x hx]; exact hB j hj
  ·obtain ⟨c, hc⟩ := Option.isSome_iff_exists.1 (List.all_eq_true.1 hk k hk')
   rw [h3.key k c hc] at hb'; exact hK k hk' b' hb'
  ·obtain ⟨c, hc⟩ := Option.isSome_iff_exists.1 hk0
   rw [h3.key k0 c hc] at hb'; exact h0 b' hb'
theorem kj_pure (i : Nat) (hi : all[i]? = some o) (hg : o.guard = none) (hd : o.dst = some d) (hp : Pu P C nt o ⟨tm, bx, ks⟩ v Ks Bs0) (hn : Nat.blt d nt = true) (hk : svOk ⟨tm, bx, ks⟩ v = true) (hb : (oB.all fun i => (look bx i).isSome) = true) (hk' : (oK.all fun k => (lkk ⟨tm, bx, ks⟩ k).isSome) = true) (hk0 : (lkk ⟨tm, bx, ks⟩ k0).isSome = true)
  (h : OpsK P C nt Q all oB oK k0 hd' (listed.setIfInBounds i true) fuel ⟨(d, v) :: tm, bx, ks⟩) : OpsKJ P C nt Q all oB oK k0 hd' listed fuel i ⟨tm, bx, ks⟩ :=
 kj_efg i hi hg (efg_pure hd hn hp hk) hb hk' hk0 fun σ' e => by rw [e]; exact h
theorem kj_callK (m i : Nat) {f : FuncId} {xs : List Operand} {ats : Array TypeId} {us : List SV} {kk : List (Nat × Option KC)} (hi : all[i]? = some o) (hg : o.guard = none) (hd : o.dst = some d) (ho : o.op = .call { callee := .value (.func f), args := xs.toArray, argTypes := ats })
  (hc : ∀ (args : Array Value) (w : World), (callFunc f args).run P w = .ok (.enter f args) w) (hf : KFn P f us v kk) (ha : ArgSs P C nt ⟨tm, bx, ks⟩ xs us) (hn : Nat.blt d nt = true) (hres : v.retOk = true) (hfree : (kk.all fun q => (lkk ⟨tm, bx, ks⟩ (m + q.1)).isNone) = true)
  (hb : (oB.all fun i => (look bx i).isSome) = true) (hk : (oK.all fun k => (lkk ⟨tm, bx, ks⟩ k).isSome) = true) (hk0 : (lkk ⟨tm, bx, ks⟩ k0).isSome = true)
  (h : OpsK P C nt Q all oB oK k0 hd' (listed.setIfInBounds i true) fuel ⟨(d, v.sh m) :: tm, bx, shK m kk ++ ks⟩) : OpsKJ P C nt Q all oB oK k0 hd' listed fuel i ⟨tm, bx, ks⟩ :=
 kj_efg i hi hg (efg_call (ι := Unit) (v := fun _ => v) (kk := fun _ => kk) (p := fun _ => True) m ho hd hn hc hf.ok ha (fun u σ' h => ⟨(), h.1, h.2, trivial⟩) (fun _ => hres) (fun _ => hfree)) hb hk hk0 fun σ' ⟨_, _, e⟩ => by rw [e]; exact h
theorem kj_buildN (i : Nat) (hT : TTOk P T) {t e sz by_ d k n : Nat} {zc cs : List CV} {ds : List DV} {js : List Nat} {ps : List (Nat × Operand)} (hi : all[i]? = some o) (hg : o.guard = none) (hd : o.dst = some d) (ho : o.op = .buildSlice t n ps.toArray) (hn : Nat.blt d nt = true) (ht : look T.sl t = some e) (he : look T.el e = some (sz, by_, zc)) (hl0 : zc.length = sz) (hsz : Nat.blt 0 sz = true) (hsm : Nat.ble (n * sz) 16777216 = true) (hps : ps.length = n) (hn0 : Nat.blt 0 n = true)
  (hx : EvParts P C nt ⟨tm, bx, ks⟩ sz 0 ps cs) (how : OwCs ⟨tm, bx, ks⟩ cs ds js) (hnj : js.Nodup) (hkj : k ∉ js) (hcl : cs.length = n * sz) (hk : lkk ⟨tm, bx, ks⟩ k = none)
  (hb : (oB.all fun i => (look bx i).isSome) = true) (hk' : (oK.all fun k => (lkk ⟨tm, bx, ks⟩ k).isSome) = true) (hk0 : (lkk ⟨tm, bx, ks⟩ k0).isSome = true)
  (h : OpsK P C nt Q all oB oK k0 hd' (listed.setIfInBounds i true) fuel ⟨(d, .one (.key k)) :: killT (k :: js) (k :: js) tm, killB (k :: js) (k :: js) bx, (k, some ⟨false, e, sz, n, ds⟩) :: ((js.map fun j => (j, none)) ++ (k, some ⟨false, e, sz, 0, []⟩) :: ks)⟩) : OpsKJ P C nt Q all oB oK k0 hd' listed fuel i ⟨tm, bx, ks⟩ :=
 kj_efg i hi hg (efg_buildN hT ho hd hn ht he hl0 hsz hsm hps hn0 hx how hnj hkj hcl hk) hb hk' hk0 fun σ' e => by rw [e]; exact h
theorem kj_appN (k' i : Nat) (hT : TTOk P T) {t tt e sz by_ d j off n n2 : Nat} {zc : List CV} {c c2 : KC} {cs ccs cs2 : List DV} (hi : all[i]? = some o) (hg : o.guard = none) (hd : o.dst = some d) (ho : o.op = .call { callee := .builtin .append, args := #[.tmp t, y], argTypes := #[tt, tt] }) (hnt : Nat.blt d nt = true) (ht : look T.sl tt = some e) (he : look T.el e = some (sz, by_, zc)) (hl0 : zc.length = sz)
  (hx : look tm t = some (.one (.nest k0 off (.sl e sz n cs)))) (hk : lkk ⟨tm, bx, ks⟩ k0 = some c) (hcs : c.cs[off]? = some (.sl e sz n cs)) (hk' : lkk ⟨tm, bx, ks⟩ k' = none) (hcc : c.cs.set off .hole = ccs)
  (hy : Ev P C nt (St.outs ⟨tm, bx, ks⟩ t k0 k' off e sz n c cs) y (.one (.key j))) (hj : lkk ⟨tm, bx, ks⟩ j = some c2) (hcs2 : c2.sz = sz) (hj0 : Nat.beq j k0 = false) (hb : (n + c2.n) * by_ ≤ 140737488355328) (h63 : n + c2.n ≤ 9223372036854775807) (hn2 : n + c2.n = n2) (hcs3 : cs ++ c2.cs = cs2)
  (hbb : (oB.all fun i => (look bx i).isSome) = true) (hkk : (oK.all fun k => (lkk ⟨tm, bx, ks⟩ k).isSome && (!(Nat.beq k k0) && !(Nat.beq k j))) = true)
  (h : OpsK P C nt Q all oB oK k0 hd' (listed.setIfInBounds i true) fuel ⟨(d, .one (.key k')) :: killT [k', j] [k', j] ((t, .one (.key k')) :: killT [k0] [] tm), killB [k', j] [k', j] (killB [k0] [] bx), (k', some ⟨false, e, sz, n2, cs2⟩) :: (j, none) :: (k', some ⟨false, e, sz, n, cs⟩) :: (k0, some { c with cs := ccs }) :: ks⟩) : OpsKJ P C nt Q all oB oK k0 hd' listed fuel i ⟨tm, bx, ks⟩ := by
 subst hcc; subst hn2; subst hcs3
 refine kj_of i hi hg fun Bs wb L a w hr hs hw hB hK h0 hF => ?_
 have h1 := hr.tm t _ hx
 simp only [SVr, CVr] at h1
 obtain ⟨_, g, m, cap, e1, e2, e3⟩ := h1
 obtain ⟨L', v, g', m', cap', q1, q2, q3, q4, q5, ⟨s1, s2, s3, s4⟩, q6⟩ := hr.splitX hk hcs hk'
 rw [e1] at q1
 simp only [Value.slice.injEq, Option.some.injEq, Addr.mk.injEq, and_true, true_and] at q1
 obtain ⟨rfl, rfl, rfl⟩ := q1
 rw [e3] at q2
 have hv := Option.some.inj q2
 have hne : j ≠ k0 := fun e => by rw [e] at hj0; simp at hj0
 have hjk' : j ≠ k' := fun e => by rw [e, hk'] at hj; cases hj
 have hk0' : k0 ≠ k' := fun e => by rw [← e, hk] at hk'; cases hk'
 have hr1 : Rel P C nt L' (St.outs ⟨tm, bx, ks⟩ t k0 k' off e sz n c cs) a w := q6.also (d := t) (v := .one (.key k')) (by simp only [SVr, CVr]; rw [q4]; exact hv) (by simp [SV.keys, CV.keys, lkk, look_cons]) (by simp [SV.boxes])
 have hlk' : lkk (St.outs ⟨tm, bx, ks⟩ t k0 k' off e sz n c cs) k' = some ⟨false, e, sz, n, cs⟩ := by simp [lkk, look_cons]
 have hlj : lkk (St.outs ⟨tm, bx, ks⟩ t k0 k' off e sz n c cs) j = some c2 := by
  have : lkk ⟨tm, bx, ks⟩ j = some c2 := hj
  simp only [lkk, look_cons, if_neg hjk', if_neg hne] at this ⊢
  exact this
 refine app_wpK hT ho hd hnt ht he hl0 (ev_tmp (by simp [look_cons])) hlk' rfl rfl hy hlj hcs2 (by simpa using hjk'.symm) hb h63 hr1 (fun L2 a' w' hr2 hf => ?_)
 have hsub : ∀ b ∈ L'.fp k', b ∈ Bs := fun b hb' => h0 b (s4 b hb')
 have hs' := hs.chg hf.chg hsub
 refine ⟨fun _ => hs', h.run Bs wb L2 a' w' hr2 hs' hw (fun z hz => ?_) (fun z hz b hb' => ?_) (fun b hb' => ?_) hF⟩
 ·rw [hf.bb, s1]; exact hB z hz
 ·have h5 := List.all_eq_true.1 hkk z hz
  simp only [Bool.and_eq_true, Bool.not_eq_true'] at h5
  have z1 : z ≠ k0 := fun e => by rw [e] at h5; simp at h5
  obtain ⟨c5, hc5⟩ := Option.isSome_iff_exists.1 h5.1
  have z2 : z ≠ k' := fun e => by rw [e, hk'] at hc5; cases hc5
  rw [hf.fp z z2, s2 z z1 z2] at hb'
  exact hK z hz b hb'
 ·rw [hf.fp k0 hk0'] at hb'
  exact h0 b (s3 b hb')
theorem k_chain (is : List Nat) (hm : (is.all fun i => (all[i]?).isSome) = true) (hf : Nat.ble is.length fuel = true) (hc : chainB .any all hd' is listed = true) (h : Ops P C nt Q all (is.filterMap fun i => all[i]?) ⟨tm, bx, ks⟩) : OpsK P C nt Q all oB oK k0 hd' listed fuel ⟨tm, bx, ks⟩ := ⟨fun _ wb L a w hr _ _ _ _ _ _ =>
 T_chain is _ listed fuel a w (chain_map hm) (by simpa [Nat.ble_eq] using hf) hc (h.run L a w hr)⟩
end
end Go.Proofs.Ytjkpoekgnmgofaa

namespace Go.Proofs.Ytjkpoekgnmgofaa
open Go.RowKit
open Go.Proofs
set_option linter.unusedVariables false
section
variable {C : Ctx} {nt : Nat} {x y : Operand} {σ : St} {ty0 : TypeId} {ps : String} {af : Array Edge} {dd : Option Tmp} {gg : Option (Nat × Bool)}
theorem qA {v : SV} (hx : Ev Try.prog C nt σ x v) : Pu Try.prog C nt ⟨dd, .move x, ty0, ps, af, gg⟩ σ v [] [] := pu_move (.inl rfl) hx
theorem qB {v : SV} (hx : Ev Try.prog C nt σ x v) : Pu Try.prog C nt ⟨dd, .assign x, ty0, ps, af, gg⟩ σ v [] [] := pu_move (.inr rfl) hx
theorem qC {s f off b i : Nat} (hx : Ev Try.prog C nt σ x (.box b i)) (h : look TTab.of (1000 * s + f) = some off) (hf : Nat.blt f 1000 = true) : Pu Try.prog C nt ⟨dd, .fieldAddr s x f, ty0, ps, af, gg⟩ σ (.box b (i + off)) [] [] := pu_fieldBox hT rfl h hf hx
theorem qC2 {s f off : Nat} {K : List Nat} {ds : List DV} (hx : Ev Try.prog C nt σ x (.ref K ds)) (h : look TTab.of (1000 * s + f) = some off) (hf : Nat.blt f 1000 = true) : Pu Try.prog C nt ⟨dd, .fieldAddr s x f, ty0, ps, af, gg⟩ σ (.ref K (ds.drop off)) [] [] := pu_fieldRef hT rfl h hf hx
theorem qC3 {s f off k i : Nat} (hx : Ev Try.prog C nt σ x (.eptr k i)) (h : look TTab.of (1000 * s + f) = some off) (hf : Nat.blt f 1000 = true) : Pu Try.prog C nt ⟨dd, .fieldAddr s x f, ty0, ps, af, gg⟩ σ (.eptr k (i + off)) [] [] := pu_fieldE hT rfl h hf hx
theorem qD {t n b i t' : Nat} {cs : List CV} (ht : look TTab.ag t = some n) (hx : Ev Try.prog C nt σ x (.box b i)) (hb : look σ.bx b = some (t', cs)) (hl : Nat.ble (i + n) cs.length = true) : Pu Try.prog C nt ⟨dd, .load t x, ty0, ps, af, gg⟩ σ (.agg (sub i n cs)) [] [b] := pu_loadBoxA hT rfl ht hx hb hl
theorem qD2 {t b i t' : Nat} {cs : List CV} {c : CV} {u : Unit} (ht : look TTab.on t = some u) (hx : Ev Try.prog C nt σ x (.box b i)) (hb : look σ.bx b = some (t', cs)) (hl : cs[i]? = some c) : Pu Try.prog C nt ⟨dd, .load t x, ty0, ps, af, gg⟩ σ (.one c) [] [b] := pu_loadBox1 hT rfl ht hx hb hl
theorem qD3 {t n : Nat} {K : List Nat} {ds : List DV} (ht : look TTab.ag t = some n) (hx : Ev Try.prog C nt σ x (.ref K ds)) (hl : Nat.ble n ds.length = true) : Pu Try.prog C nt ⟨dd, .load t x, ty0, ps, af, gg⟩ σ (.agg ((ds.take n).map (dvK K))) K [] := pu_loadRefA hT rfl ht hx hl
theorem qD4 {t : Nat} {K : List Nat} {dv : DV} {ds : List DV} {u : Unit} (ht : look TTab.on t = some u) (hx : Ev Try.prog C nt σ x (.ref K ds)) (hd : ds[0]? = some dv) : Pu Try.prog C nt ⟨dd, .load t x, ty0, ps, af, gg⟩ σ (.one (dvK K dv)) K [] := pu_loadRef1 hT rfl ht hx hd
theorem qE {i : Nat} {ts : List (Bool × List CV)} {c : CV} (hx : Ev Try.prog C nt σ x (.tup ts)) (h : ts[i]? = some (false, [c])) : Pu Try.prog C nt ⟨dd, .extract x i, ty0, ps, af, gg⟩ σ (.one c) [] [] := pu_extract1 rfl hx h
theorem qE2 {i : Nat} {ts : List (Bool × List CV)} {cs : List CV} (hx : Ev Try.prog C nt σ x (.tup ts)) (h : ts[i]? = some (true, cs)) : Pu Try.prog C nt ⟨dd, .extract x i, ty0, ps, af, gg⟩ σ (.agg cs) [] [] := pu_extractA rfl hx h
theorem qN {t : TypeId} {K : List Nat} {b : Bool} (hx : Ev Try.prog C nt σ x (.one (.dv K (.bool b)))) : Pu Try.prog C nt ⟨dd, .unOp .not t x, ty0, ps, af, gg⟩ σ (.one (.dv [] (.bool (!b)))) [] [] := pu_not rfl hx
theorem qG {c : Operand} {K J : List Nat} {b b2 : Bool} (hc : Ev Try.prog C nt σ c (.one (.dv K (.bool b)))) (hy : b = true → Ev Try.prog C nt σ y (.one (.dv J (.bool b2)))) : Pu Try.prog C nt ⟨dd, .pick c y (.const (.bool false)), ty0, ps, af, gg⟩ σ (.one (.dv [] (.bool (b && b2)))) [] [] := pu_and rfl hc hy
theorem qH {c : Operand} {K J : List Nat} {b b2 : Bool} (hc : Ev Try.prog C nt σ c (.one (.dv K (.bool b)))) (hy : b = false → Ev Try.prog C nt σ y (.one (.dv J (.bool b2)))) : Pu Try.prog C nt ⟨dd, .pick c (.const (.bool true)) y, ty0, ps, af, gg⟩ σ (.one (.dv [] (.bool (b || b2)))) [] [] := pu_or rfl hc hy
theorem qIlss {t ty : TypeId} {K J : List Nat} {k : IntKind} {m n : Int} (hx : Ev Try.prog C nt σ x (.one (.dv K (.int k m)))) (hy : Ev Try.prog C nt σ y (.one (.dv J (.int k n)))) : Pu Try.prog C nt ⟨dd, .binOp .lss t x y ty, ty0, ps, af, gg⟩ σ (.one (.dv [] (.bool (decide (m < n))))) [] [] := pu_lss rfl hx hy
theorem qIleq {t ty : TypeId} {K J : List Nat} {k : IntKind} {m n : Int} (hx : Ev Try.prog C nt σ x (.one (.dv K (.int k m)))) (hy : Ev Try.prog C nt σ y (.one (.dv J (.int k n)))) : Pu Try.prog C nt ⟨dd, .binOp .leq t x y ty, ty0, ps, af, gg⟩ σ (.one (.dv [] (.bool (decide (m ≤ n))))) [] [] := pu_leq rfl hx hy
theorem qIgtr {t ty : TypeId} {K J : List Nat} {k : IntKind} {m n : Int} (hx : Ev Try.prog C nt σ x (.one (.dv K (.int k m)))) (hy : Ev Try.prog C nt σ y (.one (.dv J (.int k n)))) : Pu Try.prog C nt ⟨dd, .binOp .gtr t x y ty, ty0, ps, af, gg⟩ σ (.one (.dv [] (.bool (decide (n < m))))) [] [] := pu_gtr rfl hx hy
theorem qIgeq {t ty : TypeId} {K J : List Nat} {k : IntKind} {m n : Int} (hx : Ev Try.prog C nt σ x (.one (.dv K (.int k m)))) (hy : Ev Try.prog C nt σ y (.one (.dv J (.int k n)))) : Pu Try.prog C nt ⟨dd, .binOp .geq t x y ty, ty0, ps, af, gg⟩ σ (.one (.dv [] (.bool (decide (n ≤ m))))) [] [] := pu_geq rfl hx hy
theorem qIeql {t ty : TypeId} {K J : List Nat} {k : IntKind} {m n : Int} (hx : Ev Try.prog C nt σ x (.one (.dv K (.int k m)))) (hy : Ev Try.prog C nt σ y (.one (.dv J (.int k n)))) : Pu Try.prog C nt ⟨dd, .binOp .eql t x y ty, ty0, ps, af, gg⟩ σ (.one (.dv [] (.bool (decide (m = n))))) [] [] := pu_eql rfl hx hy
theorem qIneq {t ty : TypeId} {K J : List Nat} {k : IntKind} {m n : Int} (hx : Ev Try.prog C nt σ x (.one (.dv K (.int k m)))) (hy : Ev Try.prog C nt σ y (.one (.dv J (.int k n)))) : Pu Try.prog C nt ⟨dd, .binOp .neq t x y ty, ty0, ps, af, gg⟩ σ (.one (.dv [] (.bool (!decide (m = n))))) [] [] := pu_neq rfl hx hy
theorem qSeql {t ty : TypeId} {K J : List Nat} {m n : ByteArray} (hx : Ev Try.prog C nt σ x (.one (.dv K (.str m)))) (hy : Ev Try.prog C nt σ y (.one (.dv J (.str n)))) : Pu Try.prog C nt ⟨dd, .binOp .eql t x y ty, ty0, ps, af, gg⟩ σ (.one (.dv [] (.bool (sEq m n)))) [] [] := pu_seq rfl hx hy
theorem qSneq {t ty : TypeId} {K J : List Nat} {m n : ByteArray} (hx : Ev Try.prog C nt σ x (.one (.dv K (.str m)))) (hy : Ev Try.prog C nt σ y (.one (.dv J (.str n)))) : Pu Try.prog C nt ⟨dd, .binOp .neq t x y ty, ty0, ps, af, gg⟩ σ (.one (.dv [] (.bool (!sEq m n)))) [] [] := pu_sne rfl hx hy
theorem qSlss {t ty : TypeId} {K J : List Nat} {m n : ByteArray} (hx : Ev Try.prog C nt σ x (.one (.dv K (.str m)))) (hy : Ev Try.prog C nt σ y (.one (.dv J (.str n)))) : Pu Try.prog C nt ⟨dd, .binOp .lss t x y ty, ty0, ps, af, gg⟩ σ (.one (.dv [] (.bool (sLt m n)))) [] [] := pu_slt rfl hx hy
theorem qSleq {t ty : TypeId} {K J : List Nat} {m n : ByteArray} (hx : Ev Try.prog C nt σ x (.one (.dv K (.str m)))) (hy : Ev Try.prog C nt σ y (.one (.dv J (.str n)))) : Pu Try.prog C nt ⟨dd, .binOp .leq t x y ty, ty0, ps, af, gg⟩ σ (.one (.dv [] (.bool (sLt m n || sEq m n)))) [] [] := pu_sle rfl hx hy
theorem qSgtr {t ty : TypeId} {K J : List Nat} {m n : ByteArray} (hx : Ev Try.prog C nt σ x (.one (.dv K (.str m)))) (hy : Ev Try.prog C nt σ y (.one (.dv J (.str n)))) : Pu Try.prog C nt ⟨dd, .binOp .gtr t x y ty, ty0, ps, af, gg⟩ σ (.one (.dv [] (.bool (!(sLt m n || sEq m n))))) [] [] := pu_sgt rfl hx hy
theorem qSgeq {t ty : TypeId} {K J : List Nat} {m n : ByteArray} (hx : Ev Try.prog C nt σ x (.one (.dv K (.str m)))) (hy : Ev Try.prog C nt σ y (.one (.dv J (.str n)))) : Pu Try.prog C nt ⟨dd, .binOp .geq t x y ty, ty0, ps, af, gg⟩ σ (.one (.dv [] (.bool (!sLt m n)))) [] [] := pu_sge rfl hx hy
theorem qIadd {t ty : TypeId} {K J : List Nat} {m n : Int} (hx : Ev Try.prog C nt σ x (.one (.dv K (.int .i64 m)))) (hy : Ev Try.prog C nt σ y (.one (.dv J (.int .i64 n)))) (h1 : -9223372036854775808 ≤ m + n) (h2 : m + n ≤ 9223372036854775807) : Pu Try.prog C nt ⟨dd, .binOp .add t x y ty, ty0, ps, af, gg⟩ σ (.one (.dv [] (.int .i64 (m + n)))) [] [] := pu_addR rfl hx hy (inR64 h1 h2)
theorem qIsub {t ty : TypeId} {K J : List Nat} {m n : Int} (hx : Ev Try.prog C nt σ x (.one (.dv K (.int .i64 m)))) (hy : Ev Try.prog C nt σ y (.one (.dv J (.int .i64 n)))) (h1 : -9223372036854775808 ≤ m - n) (h2 : m - n ≤ 9223372036854775807) : Pu Try.prog C nt ⟨dd, .binOp .sub t x y ty, ty0, ps, af, gg⟩ σ (.one (.dv [] (.int .i64 (m - n)))) [] [] := pu_subR rfl hx hy (inR64 h1 h2)
theorem qL {t e' e sz n : Nat} {K : List Nat} {cs : List DV} (hx : Ev Try.prog C nt σ x (.one (.dv K (.sl e sz n cs)))) (h : look TTab.sl t = some e') : Pu Try.prog C nt ⟨dd, .call { callee := .builtin .len, args := #[x], argTypes := #[t] }, ty0, ps, af, gg⟩ σ (.one (.dv [] (.int .i64 (n : Int)))) [] [] := pu_lenV hT rfl h hx
theorem qL2 {t : Nat} {u : Unit} {s : ByteArray} {K : List Nat} (hx : Ev Try.prog C nt σ x (.one (.dv K (.str s)))) (h : look TTab.st t = some u) : Pu Try.prog C nt ⟨dd, .call { callee := .builtin .len, args := #[x], argTypes := #[t] }, ty0, ps, af, gg⟩ σ (.one (.dv [] (.int .i64 (s.size : Int)))) [] [] := pu_lenS hT rfl h hx
theorem qL3 {t e' : Nat} (hx : Ev Try.prog C nt σ x (.one .nil)) (h : look TTab.sl t = some e') : Pu Try.prog C nt ⟨dd, .call { callee := .builtin .len, args := #[x], argTypes := #[t] }, ty0, ps, af, gg⟩ σ (.one (.dv [] (.int .i64 0))) [] [] := pu_lenN hT rfl h hx
end
section
variable {P : Program} {C : Ctx} {nt : Nat} {o : Oper} {x y : Operand} {T : TT} {Q : Exit → St → Prop} {N : St → Prop} {all : Array Oper} {rest : List Oper} {σ : St} {tm : List (Nat × SV)} {bx : List (Nat × TypeId × List CV)} {ks : List (Nat × Option KC)} {d t : Nat} {v X : SV} {ty : TypeId} {ps : String} {af : Array Edge} {Ks Bs oB oK : List Nat} {g : Bool} {listed : Array Bool} {fuel : Nat} {hd' : Nat → Bool}
theorem zp (hp : Pu P C nt o σ v Ks Bs := by
  first
  | (apply qA; (first | exact ev_tmp rfl | exact ev_int (inR_lit rfl) | exact ev_bool | exact ev_str (str_lit rfl) | exact ev_nil | exact ev_func))
  | (apply qB; (first | exact ev_tmp rfl | exact ev_int (inR_lit rfl) | exact ev_bool | exact ev_str (str_lit rfl) | exact ev_nil | exact ev_func))
  | (apply qC; (first | exact ev_tmp rfl | exact ev_int (inR_lit rfl) | exact ev_bool | exact ev_str (str_lit rfl) | exact ev_nil | exact ev_func); exact rfl; exact rfl)
  | (apply qC2; (first | exact ev_tmp rfl | exact ev_int (inR_lit rfl) | exact ev_bool | exact ev_str (str_lit rfl) | exact ev_nil | exact ev_func); exact rfl; exact rfl)
  | (apply qC3; (first | exact ev_tmp rfl | exact ev_int (inR_lit rfl) | exact ev_bool | exact ev_str (str_lit rfl) | exact ev_nil | exact ev_func); exact rfl; exact rfl)
  | (apply qD; exact rfl; (first | exact ev_tmp rfl | exact ev_int (inR_lit rfl) | exact ev_bool | exact ev_str (str_lit rfl) | exact ev_nil | exact ev_func); exact rfl; exact rfl)
  | (apply qD2; exact rfl; (first | exact ev_tmp rfl | exact ev_int (inR_lit rfl) | exact ev_bool | exact ev_str (str_lit rfl) | exact ev_nil | exact ev_func); exact rfl; exact rfl)
  | (apply qD3; exact rfl; (first | exact ev_tmp rfl | exact ev_int (inR_lit rfl) | exact ev_bool | exact ev_str (str_lit rfl) | exact ev_nil | exact ev_func); exact rfl)
  | (apply qD4; exact rfl; (first | exact ev_tmp rfl | exact ev_int (inR_lit rfl) | exact ev_bool | exact ev_str (str_lit rfl) | exact ev_nil | exact ev_func); exact rfl)
  | (apply qE; (first | exact ev_tmp rfl | exact ev_int (inR_lit rfl) | exact ev_bool | exact ev_str (str_lit rfl) | exact ev_nil | exact ev_func); exact rfl)
  | (apply qE2; (first | exact ev_tmp rfl | exact ev_int (inR_lit rfl) | exact ev_bool | exact ev_str (str_lit rfl) | exact ev_nil | exact ev_func); exact rfl)
  | (apply qN; (first | exact ev_tmp rfl | exact ev_int (inR_lit rfl) | exact ev_bool | exact ev_str (str_lit rfl) | exact ev_nil | exact ev_func))
  | (apply qG; (first | exact ev_tmp rfl | exact ev_int (inR_lit rfl) | exact ev_bool | exact ev_str (str_lit rfl) | exact ev_nil | exact ev_func); (intro hb; first | (refine ev_opt rfl ?_; first | exact beq_t hb | exact beq_f hb) | exact ev_tmp rfl | exact ev_int (inR_lit rfl) | exact ev_bool | exact ev_str (str_lit rfl) | exact ev_nil | exact ev_func))
  | (apply qH; (first | exact ev_tmp rfl | exact ev_int (inR_lit rfl) | exact ev_bool | exact ev_str (str_lit rfl) | exact ev_nil | exact ev_func); (intro hb; first | (refine ev_opt rfl ?_; first | exact beq_t hb | exact beq_f hb) | exact ev_tmp rfl | exact ev_int (inR_lit rfl) | exact ev_bool | exact ev_str (str_lit rfl) | exact ev_nil | exact ev_func))
  | (apply qIlss; (first | exact ev_tmp rfl | exact ev_int (inR_lit rfl) | exact ev_bool | exact ev_str (str_lit rfl) | exact ev_nil | exact ev_func); (first | exact ev_tmp rfl | exact ev_int (inR_lit rfl) | exact ev_bool | exact ev_str (str_lit rfl) | exact ev_nil | exact ev_func))
  | (apply qIleq; (first | exact ev_tmp rfl | exact ev_int (inR_lit rfl) | exact ev_bool | exact ev_str (str_lit rfl) | exact ev_nil | exact ev_func); (first | exact ev_tmp rfl | exact ev_int (inR_lit rfl) | exact ev_bool | exact ev_str (str_lit rfl) | exact ev_nil | exact ev_func))
  | (apply qIgtr; (first | exact ev_tmp rfl | exact ev_int (inR_lit rfl) | exact ev_bool | exact ev_str (str_lit rfl) | exact ev_nil | exact ev_func); (first | exact ev_tmp rfl | exact ev_int (inR_lit rfl) | exact ev_bool | exact ev_str (str_lit rfl) | exact ev_nil | exact ev_func))
  | (apply qIgeq; (first | exact ev_tmp rfl | exact ev_int (inR_lit rfl) | exact ev_bool | exact ev_str (str_lit rfl) | exact ev_nil | exact ev_func); (first | exact ev_tmp rfl | exact ev_int (inR_lit rfl) | exact ev_bool | exact ev_str (str_lit rfl) | exact ev_nil | exact ev_func))
  | (apply qIeql; (first | exact ev_tmp rfl | exact ev_int (inR_lit rfl) | exact ev_bool | exact ev_str (str_lit rfl) | exact ev_nil | exact ev_func); (first | exact ev_tmp rfl | exact ev_int (inR_lit rfl) | exact ev_bool | exact ev_str (str_lit rfl) | exact ev_nil | exact ev_func))
  | (apply qIneq; (first | exact ev_tmp rfl | exact ev_int (inR_lit rfl) | exact ev_bool | exact ev_str (str_lit rfl) | exact ev_nil | exact ev_func); (first | exact ev_tmp rfl | exact ev_int (inR_lit rfl) | exact ev_bool | exact ev_str (str_lit rfl) | exact ev_nil | exact ev_func))
  | (apply qSeql; (first | exact ev_tmp rfl | exact ev_int (inR_lit rfl) | exact ev_bool | exact ev_str (str_lit rfl) | exact ev_nil | exact ev_func); (first | exact ev_tmp rfl | exact ev_int (inR_lit rfl) | exact ev_bool | exact ev_str (str_lit rfl) | exact ev_nil | exact ev_func))
  | (apply qSneq; (first | exact ev_tmp rfl | exact ev_int (inR_lit rfl) | exact ev_bool | exact ev_str (str_lit rfl) | exact ev_nil | exact ev_func); (first | exact ev_tmp rfl | exact ev_int (inR_lit rfl) | exact ev_bool | exact ev_str (str_lit rfl) | exact ev_nil | exact ev_func))
  | (apply qSlss; (first | exact ev_tmp rfl | exact ev_int (inR_lit rfl) | exact ev_bool | exact ev_str (str_lit rfl) | exact ev_nil | exact ev_func); (first | exact ev_tmp rfl | exact ev_int (inR_lit rfl) | exact ev_bool | exact ev_str (str_lit rfl) | exact ev_nil | exact ev_func))
  | (apply qSleq; (first | exact ev_tmp rfl | exact ev_int (inR_lit rfl) | exact ev_bool | exact ev_str (str_lit rfl) | exact ev_nil | exact ev_func); (first | exact ev_tmp rfl | exact ev_int (inR_lit rfl) | exact ev_bool | exact ev_str (str_lit rfl) | exact ev_nil | exact ev_func))
  | (apply qSgtr; (first | exact ev_tmp rfl | exact ev_int (inR_lit rfl) | exact ev_bool | exact ev_str (str_lit rfl) | exact ev_nil | exact ev_func); (first | exact ev_tmp rfl | exact ev_int (inR_lit rfl) | exact ev_bool | exact ev_str (str_lit rfl) | exact ev_nil | exact ev_func))
  | (apply qSgeq; (first | exact ev_tmp rfl | exact ev_int (inR_lit rfl) | exact ev_bool | exact ev_str (str_lit rfl) | exact ev_nil | exact ev_func); (first | exact ev_tmp rfl | exact ev_int (inR_lit rfl) | exact ev_bool | exact ev_str (str_lit rfl) | exact ev_nil | exact ev_func))
  | (apply qIadd; (first | exact ev_tmp rfl | exact ev_int (inR_lit rfl) | exact ev_bool | exact ev_str (str_lit rfl) | exact ev_nil | exact ev_func); (first | exact ev_tmp rfl | exact ev_int (inR_lit rfl) | exact ev_bool | exact ev_str (str_lit rfl) | exact ev_nil | exact ev_func); omega; omega)
  | (apply qIsub; (first | exact ev_tmp rfl | exact ev_int (inR_lit rfl) | exact ev_bool | exact ev_str (str_lit rfl) | exact ev_nil | exact ev_func); (first | exact ev_tmp rfl | exact ev_int (inR_lit rfl) | exact ev_bool | exact ev_str (str_lit rfl) | exact ev_nil | exact ev_func); omega; omega)
  | (apply qL; (first | exact ev_tmp rfl | exact ev_int (inR_lit rfl) | exact ev_bool | exact ev_str (str_lit rfl) | exact ev_nil | exact ev_func); exact rfl)
  | (apply qL2; (first | exact ev_tmp rfl | exact ev_int (inR_lit rfl) | exact ev_bool | exact ev_str (str_lit rfl) | exact ev_nil | exact ev_func); exact rfl)
  | (apply qL3; (first | exact ev_tmp rfl | exact ev_int (inR_lit rfl) | exact ev_bool | exact ev_str (str_lit rfl) | exact ev_nil | exact ev_func); exact rfl)
  | exact pu_indexD hT rfl rfl rfl (by first | exact ev_tmp rfl | exact ev_int (inR_lit rfl) | exact ev_bool | exact ev_str (str_lit rfl) | exact ev_nil | exact ev_func) (by first | exact ev_tmp rfl | exact ev_int (inR_lit rfl) | exact ev_bool | exact ev_str (str_lit rfl) | exact ev_nil | exact ev_func) (fun _ => rfl) (by omega) (by omega)
  | exact pu_indexS hT rfl rfl (by first | exact ev_tmp rfl | exact ev_int (inR_lit rfl) | exact ev_bool | exact ev_str (str_lit rfl) | exact ev_nil | exact ev_func) (by first | exact ev_tmp rfl | exact ev_int (inR_lit rfl) | exact ev_bool | exact ev_str (str_lit rfl) | exact ev_nil | exact ev_func) (by omega) (by omega)) : Pu P C nt o σ v Ks Bs := hp
theorem zq {g : Bool} (hg : g = true) (hp : Pu P C nt o σ v Ks Bs := by
  first
  | (apply qA; (first | (refine ev_opt rfl ?_; first | exact hg | exact and_l hg | exact and_l (and_l hg) | exact and_l (and_l (and_l hg))) | exact ev_tmp rfl | exact ev_int (inR_lit rfl) | exact ev_bool | exact ev_str (str_lit rfl) | exact ev_nil | exact ev_func))
  | (apply qB; (first | (refine ev_opt rfl ?_; first | exact hg | exact and_l hg | exact and_l (and_l hg) | exact and_l (and_l (and_l hg))) | exact ev_tmp rfl | exact ev_int (inR_lit rfl) | exact ev_bool | exact ev_str (str_lit rfl) | exact ev_nil | exact ev_func))
  | (apply qC; (first | (refine ev_opt rfl ?_; first | exact hg | exact and_l hg | exact and_l (and_l hg) | exact and_l (and_l (and_l hg))) | exact ev_tmp rfl | exact ev_int (inR_lit rfl) | exact ev_bool | exact ev_str (str_lit rfl) | exact ev_nil | exact ev_func); exact rfl; exact rfl)
  | (apply qC2; (first | (refine ev_opt rfl ?_; first | exact hg | exact and_l hg | exact and_l (and_l hg) | exact and_l (and_l (and_l hg))) | exact ev_tmp rfl | exact ev_int (inR_lit rfl) | exact ev_bool | exact ev_str (str_lit rfl) | exact ev_nil | exact ev_func); exact rfl; exact rfl)
  | (apply qC3; (first | (refine ev_opt rfl ?_; first | exact hg | exact and_l hg | exact and_l (and_l hg) | exact and_l (and_l (and_l hg))) | exact ev_tmp rfl | exact ev_int (inR_lit rfl) | exact ev_bool | exact ev_str (str_lit rfl) | exact ev_nil | exact ev_func); exact rfl; exact rfl)
  | (apply qD; exact rfl; (first | (refine ev_opt rfl ?_; first | exact hg | exact and_l hg | exact and_l (and_l hg) | exact and_l (and_l (and_l hg))) | exact ev_tmp rfl | exact ev_int (inR_lit rfl) | exact ev_bool | exact ev_str (str_lit rfl) | exact ev_nil | exact ev_func); exact rfl; exact rfl)
  | (apply qD2; exact rfl; (first | (refine ev_opt rfl ?_; first | exact hg | exact and_l hg | exact and_l (and_l hg) | exact and_l (and_l (and_l hg))) | exact ev_tmp rfl | exact ev_int (inR_lit rfl) | exact ev_bool | exact ev_str (str_lit rfl) | exact ev_nil | exact ev_func); exact rfl; exact rfl)
  | (apply qD3; exact rfl; (first | (refine ev_opt rfl ?_; first | exact hg | exact and_l hg | exact and_l (and_l hg) | exact and_l (and_l (and_l hg))) | exact ev_tmp rfl | exact ev_int (inR_lit rfl) | exact ev_bool | exact ev_str (str_lit rfl) | exact ev_nil | exact ev_func); exact rfl)
  | (apply qD4; exact rfl; (first | (refine ev_opt rfl ?_; first | exact hg | exact and_l hg | exact and_l (and_l hg) | exact and_l (and_l (and_l hg))) | exact ev_tmp rfl | exact ev_int (inR_lit rfl) | exact ev_bool | exact ev_str (str_lit rfl) | exact ev_nil | exact ev_func); exact rfl)
  | (apply qE; (first | (refine ev_opt rfl ?_; first | exact hg | exact and_l hg | exact and_l (and_l hg) | exact and_l (and_l (and_l hg))) | exact ev_tmp rfl | exact ev_int (inR_lit rfl) | exact ev_bool | exact ev_str (str_lit rfl) | exact ev_nil | exact ev_func); exact rfl)
  | (apply qE2; (first | (refine ev_opt rfl ?_; first | exact hg | exact and_l hg | exact and_l (and_l hg) | exact and_l (and_l (and_l hg))) | exact ev_tmp rfl | exact ev_int (inR_lit rfl) | exact ev_bool | exact ev_str (str_lit rfl) | exact ev_nil | exact ev_func); exact rfl)
  | (apply qN; (first | (refine ev_opt rfl ?_; first | exact hg | exact and_l hg | exact and_l (and_l hg) | exact and_l (and_l (and_l hg))) | exact ev_tmp rfl | exact ev_int (inR_lit rfl) | exact ev_bool | exact ev_str (str_lit rfl) | exact ev_nil | exact ev_func))
  | (apply qG; (first | (refine ev_opt rfl ?_; first | exact hg | exact and_l hg | exact and_l (and_l hg) | exact and_l (and_l (and_l hg))) | exact ev_tmp rfl | exact ev_int (inR_lit rfl) | exact ev_bool | exact ev_str (str_lit rfl) | exact ev_nil | exact ev_func); (intro hb; first | (refine ev_opt rfl ?_; first | exact beq_t hb | exact beq_f hb | exact and_mk hg (beq_t hb) | exact and_mk hg (beq_f hb) | exact and_mk (and_l hg) (beq_t hb) | exact and_mk (and_l hg) (beq_f hb) | exact hg | exact and_l hg) | exact ev_tmp rfl | exact ev_int (inR_lit rfl) | exact ev_bool | exact ev_str (str_lit rfl) | exact ev_nil | exact ev_func))
  | (apply qH; (first | (refine ev_opt rfl ?_; first | exact hg | exact and_l hg | exact and_l (and_l hg) | exact and_l (and_l (and_l hg))) | exact ev_tmp rfl | exact ev_int (inR_lit rfl) | exact ev_bool | exact ev_str (str_lit rfl) | exact ev_nil | exact ev_func); (intro hb; first | (refine ev_opt rfl ?_; first | exact beq_t hb | exact beq_f hb | exact and_mk hg (beq_t hb) | exact and_mk hg (beq_f hb) | exact and_mk (and_l hg) (beq_t hb) | exact and_mk (and_l hg) (beq_f hb) | exact hg | exact and_l hg) | exact ev_tmp rfl | exact ev_int (inR_lit rfl) | exact ev_bool | exact ev_str (str_lit rfl) | exact ev_nil | exact ev_func))
  | (apply qIlss; (first | (refine ev_opt rfl ?_; first | exact hg | exact and_l hg | exact and_l (and_l hg) | exact and_l (and_l (and_l hg))) | exact ev_tmp rfl | exact ev_int (inR_lit rfl) | exact ev_bool | exact ev_str (str_lit rfl) | exact ev_nil | exact ev_func); (first | (refine ev_opt rfl ?_; first | exact hg | exact and_l hg | exact and_l (and_l hg) | exact and_l (and_l (and_l hg))) | exact ev_tmp rfl | exact ev_int (inR_lit rfl) | exact ev_bool | exact ev_str (str_lit rfl) | exact ev_nil | exact ev_func))
  | (apply qIleq; (first | (refine ev_opt rfl ?_; first | exact hg | exact and_l hg | exact and_l (and_l hg) | exact and_l (and_l (and_l hg))) | exact ev_tmp rfl | exact ev_int (inR_lit rfl) | exact ev_bool | exact ev_str (str_lit rfl) | exact ev_nil | exact ev_func); (first | (refine ev_opt rfl ?_; first | exact hg | exact and_l hg | exact and_l (and_l hg) | exact and_l (and_l (and_l hg))) | exact ev_tmp rfl | exact ev_int (inR_lit rfl) | exact ev_bool | exact ev_str (str_lit rfl) | exact ev_nil | exact ev_func))
  | (apply qIgtr; (first | (refine ev_opt rfl ?_; first | exact hg | exact and_l hg | exact and_l (and_l hg) | exact and_l (and_l (and_l hg))) | exact ev_tmp rfl | exact ev_int (inR_lit rfl) | exact ev_bool | exact ev_str (str_lit rfl) | exact ev_nil | exact ev_func); (first | (refine ev_opt rfl ?_; first | exact hg | exact and_l hg | exact and_l (and_l hg) | exact and_l (and_l (and_l hg))) | exact ev_tmp rfl | exact ev_int (inR_lit rfl) | exact ev_bool | exact ev_str (str_lit rfl) | exact ev_nil | exact ev_func))
  | (apply qIgeq; (first | (refine ev_opt rfl ?_; first | exact hg | exact and_l hg | exact and_l (and_l hg) | exact and_l (and_l (and_l hg))) | exact ev_tmp rfl | exact ev_int (inR_lit rfl) | exact ev_bool | exact ev_str (str_lit rfl) | exact ev_nil | exact ev_func); (first | (refine ev_opt rfl ?_; first | exact hg | exact and_l hg | exact and_l (and_l hg) | exact and_l (and_l (and_l hg))) | exact ev_tmp rfl | exact ev_int (inR_lit rfl) | exact ev_bool | exact ev_str (str_lit rfl) | exact ev_nil | exact ev_func))
  | (apply qIeql; (first | (refine ev_opt rfl ?_; first | exact hg | exact and_l hg | exact and_l (and_l hg) | exact and_l (and_l (and_l hg))) | exact ev_tmp rfl | exact ev_int (inR_lit rfl) | exact ev_bool | exact ev_str (str_lit rfl) | exact ev_nil | exact ev_func); (first | (refine ev_opt rfl ?_; first | exact hg | exact and_l hg | exact and_l (and_l hg) | exact and_l (and_l (and_l hg))) | exact ev_tmp rfl | exact ev_int (inR_lit rfl) | exact ev_bool | exact ev_str (str_lit rfl) | exact ev_nil | exact ev_func))
  | (apply qIneq; (first | (refine ev_opt rfl ?_; first | exact hg | exact and_l hg | exact and_l (and_l hg) | exact and_l (and_l (and_l hg))) | exact ev_tmp rfl | exact ev_int (inR_lit rfl) | exact ev_bool | exact ev_str (str_lit rfl) | exact ev_nil | exact ev_func); (first | (refine ev_opt rfl ?_; first | exact hg | exact and_l hg | exact and_l (and_l hg) | exact and_l (and_l (and_l hg))) | exact ev_tmp rfl | exact ev_int (inR_lit rfl) | exact ev_bool | exact ev_str (str_lit rfl) | exact ev_nil | exact ev_func))
  | (apply qSeql; (first | (refine ev_opt rfl ?_; first | exact hg | exact and_l hg | exact and_l (and_l hg) | exact and_l (and_l (and_l hg))) | exact ev_tmp rfl | exact ev_int (inR_lit rfl) | exact ev_bool | exact ev_str (str_lit rfl) | exact ev_nil | exact ev_func); (first | (refine ev_opt rfl ?_; first | exact hg | exact and_l hg | exact and_l (and_l hg) | exact and_l (and_l (and_l hg))) | exact ev_tmp rfl | exact ev_int (inR_lit rfl) | exact ev_bool | exact ev_str (str_lit rfl) | exact ev_nil | exact ev_func))
  | (apply qSneq; (first | (refine ev_opt rfl ?_; first | exact hg | exact and_l hg | exact and_l (and_l hg) | exact and_l (and_l (and_l hg))) | exact ev_tmp rfl | exact ev_int (inR_lit rfl) | exact ev_bool | exact ev_str (str_lit rfl) | exact ev_nil | exact ev_func); (first | (refine ev_opt rfl ?_; first | exact hg | exact and_l hg | exact and_l (and_l hg) | exact and_l (and_l (and_l hg))) | exact ev_tmp rfl | exact ev_int (inR_lit rfl) | exact ev_bool | exact ev_str (str_lit rfl) | exact ev_nil | exact ev_func))
  | (apply qSlss; (first | (refine ev_opt rfl ?_; first | exact hg | exact and_l hg | exact and_l (and_l hg) | exact and_l (and_l (and_l hg))) | exact ev_tmp rfl | exact ev_int (inR_lit rfl) | exact ev_bool | exact ev_str (str_lit rfl) | exact ev_nil | exact ev_func); (first | (refine ev_opt rfl ?_; first | exact hg | exact and_l hg | exact and_l (and_l hg) | exact and_l (and_l (and_l hg))) | exact ev_tmp rfl | exact ev_int (inR_lit rfl) | exact ev_bool | exact ev_str (str_lit rfl) | exact ev_nil | exact ev_func))
  | (apply qSleq; (first | (refine ev_opt rfl ?_; first | exact hg | exact and_l hg | exact and_l (and_l hg) | exact and_l (and_l (and_l hg))) | exact ev_tmp rfl | exact ev_int (inR_lit rfl) | exact ev_bool | exact ev_str (str_lit rfl) | exact ev_nil | exact ev_func); (first | (refine ev_opt rfl ?_; first | exact hg | exact and_l hg | exact and_l (and_l hg) | exact and_l (and_l (and_l hg))) | exact ev_tmp rfl | exact ev_int (inR_lit rfl) | exact ev_bool | exact ev_str (str_lit rfl) | exact ev_nil | exact ev_func))
  | (apply qSgtr; (first | (refine ev_opt rfl ?_; first | exact hg | exact and_l hg | exact and_l (and_l hg) | exact and_l (and_l (and_l hg))) | exact ev_tmp rfl | exact ev_int (inR_lit rfl) | exact ev_bool | exact ev_str (str_lit rfl) | exact ev_nil | exact ev_func); (first | (refine ev_opt rfl ?_; first | exact hg | exact and_l hg | exact and_l (and_l hg) | exact and_l (and_l (and_l hg))) | exact ev_tmp rfl | exact ev_int (inR_lit rfl) | exact ev_bool | exact ev_str (str_lit rfl) | exact ev_nil | exact ev_func))
  | (apply qSgeq; (first | (refine ev_opt rfl ?_; first | exact hg | exact and_l hg | exact and_l (and_l hg) | exact and_l (and_l (and_l hg))) | exact ev_tmp rfl | exact ev_int (inR_lit rfl) | exact ev_bool | exact ev_str (str_lit rfl) | exact ev_nil | exact ev_func); (first | (refine ev_opt rfl ?_; first | exact hg | exact and_l hg | exact and_l (and_l hg) | exact and_l (and_l (and_l hg))) | exact ev_tmp rfl | exact ev_int (inR_lit rfl) | exact ev_bool | exact ev_str (str_lit rfl) | exact ev_nil | exact ev_func))
  | (apply qIadd; (first | (refine ev_opt rfl ?_; first | exact hg | exact and_l hg | exact and_l (and_l hg) | exact and_l (and_l (and_l hg))) | exact ev_tmp rfl | exact ev_int (inR_lit rfl) | exact ev_bool | exact ev_str (str_lit rfl) | exact ev_nil | exact ev_func); (first | (refine ev_opt rfl ?_; first | exact hg | exact and_l hg | exact and_l (and_l hg) | exact and_l (and_l (and_l hg))) | exact ev_tmp rfl | exact ev_int (inR_lit rfl) | exact ev_bool | exact ev_str (str_lit rfl) | exact ev_nil | exact ev_func); omega; omega)
  | (apply qIsub; (first | (refine ev_opt rfl ?_; first | exact hg | exact and_l hg | exact and_l (and_l hg) | exact and_l (and_l (and_l hg))) | exact ev_tmp rfl | exact ev_int (inR_lit rfl) | exact ev_bool | exact ev_str (str_lit rfl) | exact ev_nil | exact ev_func); (first | (refine ev_opt rfl ?_; first | exact hg | exact and_l hg | exact and_l (and_l hg) | exact and_l (and_l (and_l hg))) | exact ev_tmp rfl | exact ev_int (inR_lit rfl) | exact ev_bool | exact ev_str (str_lit rfl) | exact ev_nil | exact ev_func); omega; omega)
  | (apply qL; (first | (refine ev_opt rfl ?_; first | exact hg | exact and_l hg | exact and_l (and_l hg) | exact and_l (and_l (and_l hg))) | exact ev_tmp rfl | exact ev_int (inR_lit rfl) | exact ev_bool | exact ev_str (str_lit rfl) | exact ev_nil | exact ev_func); exact rfl)
  | (apply qL2; (first | (refine ev_opt rfl ?_; first | exact hg | exact and_l hg | exact and_l (and_l hg) | exact and_l (and_l (and_l hg))) | exact ev_tmp rfl | exact ev_int (inR_lit rfl) | exact ev_bool | exact ev_str (str_lit rfl) | exact ev_nil | exact ev_func); exact rfl)
  | (apply qL3; (first | (refine ev_opt rfl ?_; first | exact hg | exact and_l hg | exact and_l (and_l hg) | exact and_l (and_l (and_l hg))) | exact ev_tmp rfl | exact ev_int (inR_lit rfl) | exact ev_bool | exact ev_str (str_lit rfl) | exact ev_nil | exact ev_func); exact rfl)
  | exact pu_indexD hT rfl rfl rfl (by first | (refine ev_opt rfl ?_; first | exact hg | exact and_l hg | exact and_l (and_l hg) | exact and_l (and_l (and_l hg))) | exact ev_tmp rfl | exact ev_int (inR_lit rfl) | exact ev_bool | exact ev_str (str_lit rfl) | exact ev_nil | exact ev_func) (by first | (refine ev_opt rfl ?_; first | exact hg | exact and_l hg | exact and_l (and_l hg) | exact and_l (and_l (and_l hg))) | exact ev_tmp rfl | exact ev_int (inR_lit rfl) | exact ev_bool | exact ev_str (str_lit rfl) | exact ev_nil | exact ev_func) (fun _ => rfl) (by first | omega | (simp only [Bool.and_eq_true, Bool.or_eq_true, Bool.or_eq_false_iff, Bool.and_eq_false_iff, Bool.not_eq_true', Bool.not_eq_false', beq_iff_eq, decide_eq_true_eq, decide_eq_false_iff_not] at hg; omega) | (have hh := of_decide_eq_true (beq_tt hg); omega) | (have hh := of_decide_eq_true (beq_tt (and_r hg)); omega)) (by first | omega | (simp only [Bool.and_eq_true, Bool.or_eq_true, Bool.or_eq_false_iff, Bool.and_eq_false_iff, Bool.not_eq_true', Bool.not_eq_false', beq_iff_eq, decide_eq_true_eq, decide_eq_false_iff_not] at hg; omega) | (have hh := of_decide_eq_true (beq_tt hg); omega) | (have hh := of_decide_eq_true (beq_tt (and_r hg)); omega))
  | exact pu_indexS hT rfl rfl (by first | (refine ev_opt rfl ?_; first | exact hg | exact and_l hg | exact and_l (and_l hg) | exact and_l (and_l (and_l hg))) | exact ev_tmp rfl | exact ev_int (inR_lit rfl) | exact ev_bool | exact ev_str (str_lit rfl) | exact ev_nil | exact ev_func) (by first | (refine ev_opt rfl ?_; first | exact hg | exact and_l hg | exact and_l (and_l hg) | exact and_l (and_l (and_l hg))) | exact ev_tmp rfl | exact ev_int (inR_lit rfl) | exact ev_bool | exact ev_str (str_lit rfl) | exact ev_nil | exact ev_func) (by first | omega | (simp only [Bool.and_eq_true, Bool.or_eq_true, Bool.or_eq_false_iff, Bool.and_eq_false_iff, Bool.not_eq_true', Bool.not_eq_false', beq_iff_eq, decide_eq_true_eq, decide_eq_false_iff_not] at hg; omega) | (have hh := of_decide_eq_true (beq_tt hg); omega) | (have hh := of_decide_eq_true (beq_tt (and_r hg)); omega)) (by first | omega | (simp only [Bool.and_eq_true, Bool.or_eq_true, Bool.or_eq_false_iff, Bool.and_eq_false_iff, Bool.not_eq_true', Bool.not_eq_false', beq_iff_eq, decide_eq_true_eq, decide_eq_false_iff_not] at hg; omega) | (have hh := of_decide_eq_true (beq_tt hg); omega) | (have hh := of_decide_eq_true (beq_tt (and_r hg)); omega))) : Pu P C nt o σ v Ks Bs := hp
theorem zr {xs : List Operand} {us : List SV} (ha : ArgSs P C nt σ xs us := by repeat' (first | exact as_nil | refine as_cons (by first | exact ev_tmp rfl | exact ev_int (inR_lit rfl) | exact ev_bool | exact ev_str (str_lit rfl) | exact ev_nil | exact ev_func) ?_ ?_ | exact ag_one ac_dv | exact ag_one (ac_key' rfl rfl) | exact ag_one (ac_nil' rfl rfl) | exact ag_one ac_nest | exact ag_one ac_arg | refine ag_agg ?_ | exact ag_nil | refine ag_cons ?_ ?_ | exact ac_dv | exact ac_key' rfl rfl | exact ac_nil' rfl rfl | exact ac_nest | exact ac_arg)) : ArgSs P C nt σ xs us := ha
theorem zO (h : Ops P C nt Q all rest ⟨(d, v) :: tm, bx, ks⟩) (hg : o.guard = none := by exact rfl) (hd : o.dst = some d := by exact rfl) (hp : Pu P C nt o ⟨tm, bx, ks⟩ v Ks Bs := by
  exact zp) (hk : (Nat.blt d nt && svOk ⟨tm, bx, ks⟩ v) = true := by exact rfl) : Ops P C nt Q all (o :: rest) ⟨tm, bx, ks⟩ := yO hg hd hp hk h
theorem zG (h : Ops P C nt Q all rest ⟨(d, .opt g v) :: tm, bx, ks⟩) (hd : o.dst = some d := by exact rfl) (hG : Gd P C nt ⟨tm, bx, ks⟩ all o g := by first | exact gd_bool rfl rfl rfl rfl rfl | exact gd_opt rfl rfl rfl rfl rfl) (hp : g = true → Pu P C nt o ⟨tm, bx, ks⟩ v Ks Bs := by
  intro hg
  exact zq hg) (hk : (Nat.blt d nt && svOk ⟨tm, bx, ks⟩ v) = true := by exact rfl) : Ops P C nt Q all (o :: rest) ⟨tm, bx, ks⟩ := o_pureG hG hd hp (Bool.and_eq_true_iff.1 hk).1 (Bool.and_eq_true_iff.1 hk).2 h
theorem zD (i : Nat) (h : OpsD P C nt Q all oB oK hd' (listed.setIfInBounds i true) fuel ⟨(d, v) :: tm, bx, ks⟩) (hi : all[i]? = some o := by exact rfl) (hg : o.guard = none := by exact rfl) (hd : o.dst = some d := by exact rfl) (hp : Pu P C nt o ⟨tm, bx, ks⟩ v Ks Bs := by
  exact zp) (hk : (Nat.blt d nt && svOk ⟨tm, bx, ks⟩ v) = true := by exact rfl) (h1 : (Ks.all fun k => oK.contains k) = true := by exact rfl) (h2 : (Bs.all fun k => oB.contains k) = true := by exact rfl) (ht : takeB .any all hd' listed i = true := by kernel_rfl) : OpsD P C nt Q all oB oK hd' listed (fuel + 1) ⟨tm, bx, ks⟩ := d_take i hi ht hg hd hp h1 h2 (Bool.and_eq_true_iff.1 hk).1 (Bool.and_eq_true_iff.1 hk).2 h
theorem zDG (i : Nat) (h : OpsD P C nt Q all oB oK hd' (listed.setIfInBounds i true) fuel ⟨(d, .opt g v) :: tm, bx, ks⟩) (hi : all[i]? = some o := by exact rfl) (hd : o.dst = some d := by exact rfl) (hG : Gd P C nt ⟨tm, bx, ks⟩ all o g := by first | exact gd_bool rfl rfl rfl rfl rfl | exact gd_opt rfl rfl rfl rfl rfl) (hp : g = true → Pu P C nt o ⟨tm, bx, ks⟩ v Ks Bs := by
  intro hg
  exact zq hg) (hk : (Nat.blt d nt && svOk ⟨tm, bx, ks⟩ v) = true := by exact rfl) (h1 : (Ks.all fun k => oK.contains k) = true := by exact rfl) (h2 : (Bs.all fun k => oB.contains k) = true := by exact rfl) (ht : takeB .any all hd' listed i = true := by kernel_rfl) : OpsD P C nt Q all oB oK hd' listed (fuel + 1) ⟨tm, bx, ks⟩ := d_takeG i hi ht hG hd hp h1 h2 (Bool.and_eq_true_iff.1 hk).1 (Bool.and_eq_true_iff.1 hk).2 h
theorem zDX (i : Nat) (h : OpsD P C nt Q all oB oK hd' (listed.setIfInBounds i true) fuel ⟨(d, v) :: tm, bx, ks⟩) (hi : all[i]? = some o := by exact rfl) (hg : o.guard = none := by exact rfl) (hd : o.dst = some d := by exact rfl) (hp : Pu P C nt o ⟨tm, bx, ks⟩ v Ks Bs := by
  exact zp) (hk : (Nat.blt d nt && svOk ⟨tm, bx, ks⟩ v) = true := by exact rfl) (hx : extO o = true := by exact rfl) (ht : takeXB .any all hd' listed i = true := by kernel_rfl) : OpsD P C nt Q all oB oK hd' listed (fuel + 1) ⟨tm, bx, ks⟩ := d_takeX i hi ht hx hg hd hp (Bool.and_eq_true_iff.1 hk).1 (Bool.and_eq_true_iff.1 hk).2 h
theorem zN {nK : List Nat} (i : Nat) (h : OpsN P C nt Q all oB oK nK hd' (listed.setIfInBounds i true) fuel ⟨(d, v) :: tm, bx, ks⟩) (hi : all[i]? = some o := by exact rfl) (hg : o.guard = none := by exact rfl) (hd : o.dst = some d := by exact rfl) (hp : Pu P C nt o ⟨tm, bx, ks⟩ v Ks Bs := by
  exact zp) (hk : (Nat.blt d nt && svOk ⟨tm, bx, ks⟩ v) = true := by exact rfl) (h1 : (Ks.all fun k => oK.contains k) = true := by exact rfl) (h2 : (Bs.all fun k => oB.contains k) = true := by exact rfl) (ht : takeB .any all hd' listed i = true := by kernel_rfl) : OpsN P C nt Q all oB oK nK hd' listed (fuel + 1) ⟨tm, bx, ks⟩ := n_take i hi ht hg hd hp h1 h2 (Bool.and_eq_true_iff.1 hk).1 (Bool.and_eq_true_iff.1 hk).2 h
theorem zC {f : FuncId} {xs : List Operand} {ats : Array TypeId} {us : List SV} (hc : ∀ (args : Array Value) (w : World), (callFunc f args).run P w = .ok (.enter f args) w) (h : Ops P C nt Q all rest ⟨(d, X) :: tm, bx, ks⟩) (hg : o.guard = none := by exact rfl) (hd : o.dst = some d := by exact rfl) (ho : o.op = .call { callee := .value (.func f), args := xs.toArray, argTypes := ats } := by exact rfl)
  (ha : ArgSs P C nt ⟨tm, bx, ks⟩ xs us := by exact zr) (hf : PFn P f us X) (hp : X.plain = true := by exact rfl) (hn : Nat.blt d nt = true := by exact rfl) : Ops P C nt Q all (o :: rest) ⟨tm, bx, ks⟩ := o_call hg hd ho hc hf ha hp hn h
theorem zK {f : FuncId} {xs : List Operand} {ats : Array TypeId} {us : List SV} {kk : List (Nat × Option KC)} (m : Nat) (hc : ∀ (args : Array Value) (w : World), (callFunc f args).run P w = .ok (.enter f args) w) (h : Ops P C nt Q all rest ⟨(d, v.sh m) :: tm, bx, shK m kk ++ ks⟩) (hg : o.guard = none := by exact rfl) (hd : o.dst = some d := by exact rfl) (ho : o.op = .call { callee := .value (.func f), args := xs.toArray, argTypes := ats } := by exact rfl)
  (ha : ArgSs P C nt ⟨tm, bx, ks⟩ xs us := by exact zr) (hf : KFn P f us v kk) (hn : Nat.blt d nt = true := by exact rfl) (hres : v.retOk = true := by exact rfl) (hfree : (kk.all fun q => (lkk ⟨tm, bx, ks⟩ (m + q.1)).isNone) = true := by exact rfl) : Ops P C nt Q all (o :: rest) ⟨tm, bx, ks⟩ := o_callK m hg hd ho hc hf ha hn hres hfree h
theorem z {p q : Prop} (h : q) (s : q → p := by
  first
  | with_reducible exact yN
  | with_reducible exact yR
  | with_reducible exact ok_seq
  | with_reducible exact then_n
  | with_reducible exact ok_ret
  | with_reducible exact then_r
  | with_reducible exact ok_skip
  | with_reducible exact ok_block
  | with_reducible exact then_e
  | with_reducible exact ok_exit
  | with_reducible exact blk_r
  | with_reducible exact blk_n
  | (with_reducible refine fun h => blk_e ?_ h) <;> exact rfl
  | (with_reducible refine fun h => blk_o ?_ h) <;> exact rfl
  | exact fun h => yA rfl rfl rfl h
  | exact fun h => yX rfl rfl rfl rfl rfl rfl h
  | exact fun h => o_alloc hT rfl rfl rfl rfl rfl rfl h
  | exact fun h => yS hT rfl rfl rfl rfl rfl rfl rfl rfl h
  | exact fun h => zO h
  | exact fun h => zG h
  | exact yN
  | exact fun h => fin1 (res_tmp rfl) (eqB h)
  | exact fun h => fin1 (res_tmp rfl) (eqI h)
  | exact fun h => fin1 (res_tmp rfl) (eqS h)
  | exact fun h => fin1n (res_tmp rfl) (eqB h)
  | exact fun h => fin1n (res_tmp rfl) (eqI h)
  | exact fun h => fin1n (res_tmp rfl) (eqS h)) : p := s h
end
end Go.Proofs.Ytjkpoekgnmgofaa

