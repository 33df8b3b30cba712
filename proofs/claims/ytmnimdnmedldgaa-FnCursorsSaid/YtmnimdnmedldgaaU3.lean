/-
  The rules of a small program logic over abstract states: no program is in sight but in the table of its types. Conditions: none.
-/
import Derived.LoopN
import Derived.Test.YtmnimdnmedldgaaU2
namespace Go.Proofs.Ytmnimdnmedldgaa
open Go.RowKit
open Go.Proofs
set_option linter.unusedVariables false
set_option linter.unusedSimpArgs false
section
variable {P : Program} {C : Ctx} {nt : Nat} {Q : Exit → St → Prop} {all : Array Oper} {oB oK : List Nat} {hd' : Nat → Bool} {listed : Array Bool} {fuel b : Nat} {tm : List (Nat × SV)} {bx : List (Nat × TypeId × List CV)} {ks : List (Nat × Option KC)} {o : Oper} {d : Nat} {v X : SV} {Ks Bs : List Nat} {g : Bool} {x y : Operand} {T : TT}
def SWL (Bs : List Nat) (wb w : World) : Prop := wb.heap.size ≤ w.heap.size ∧ ∀ k, k < wb.heap.size → k ∉ Bs → w.heap[k]? = wb.heap[k]?
theorem SWL.refl (Bs : List Nat) (w : World) : SWL Bs w w := ⟨Nat.le_refl _, fun _ _ _ => rfl⟩
theorem SWL.chg {Bs cs : List Nat} {wb w w' : World} (h : SWL Bs wb w) (hc : Chg cs w w') (hs : ∀ x ∈ cs, x ∈ Bs) : SWL Bs wb w' := ⟨Nat.le_trans h.1 hc.size, fun k hk hn => (hc.block k (Nat.lt_of_lt_of_le hk h.1) (fun hm => hn (hs k hm))).trans (h.2 k hk hn)⟩
structure OpsL (P : Program) (C : Ctx) (nt : Nat) (Q : Exit → St → Prop) (all : Array Oper) (oB oK : List Nat) (bs : List Nat) (hd' : Nat → Bool) (listed : Array Bool) (fuel : Nat) (σ : St) : Prop where
 run : ∀ wb L a w, Rel P C nt L σ a w → SWL (bs.map L.bb) wb w → C.w0.heap.size ≤ wb.heap.size → (∀ i ∈ oB, L.bb i < wb.heap.size) → (∀ k ∈ oK, ∀ b ∈ L.fp k, b < wb.heap.size) → wpAnyT P .any all (QQ P C nt Q) (SWL (bs.map L.bb) wb) hd' fuel listed a w
structure OpsLJ (P : Program) (C : Ctx) (nt : Nat) (Q : Exit → St → Prop) (all : Array Oper) (oB oK : List Nat) (bs : List Nat) (hd' : Nat → Bool) (listed : Array Bool) (fuel : Nat) (i : Nat) (σ : St) : Prop where
 run : ∀ wb L a w, Rel P C nt L σ a w → SWL (bs.map L.bb) wb w → C.w0.heap.size ≤ wb.heap.size → (∀ i ∈ oB, L.bb i < wb.heap.size) → (∀ k ∈ oK, ∀ b ∈ L.fp k, b < wb.heap.size) →
  wpOp P all (QQ P C nt Q) i (fun a' w' => (hd' i = true → SWL (bs.map L.bb) wb w') ∧ wpAnyT P .any all (QQ P C nt Q) (SWL (bs.map L.bb) wb) hd' fuel (listed.setIfInBounds i true) a' w') a w
def AllLJ (P : Program) (C : Ctx) (nt : Nat) (Q : Exit → St → Prop) (all : Array Oper) (oB oK : List Nat) (bs : List Nat) (hd' : Nat → Bool) (listed : Array Bool) (fuel : Nat) (σ : St) : List Nat → Prop
 | [] => True
 | i :: is => OpsLJ P C nt Q all oB oK bs hd' listed fuel i σ ∧ AllLJ P C nt Q all oB oK bs hd' listed fuel σ is
section
variable {bs : List Nat}
theorem allLJ_mem {σ : St} : ∀ {is : List Nat}, AllLJ P C nt Q all oB oK bs hd' listed fuel σ is → ∀ i ∈ is, OpsLJ P C nt Q all oB oK bs hd' listed fuel i σ
 | [], _, _, hi => by cases hi
 | j :: is, h, i, hi => by
  rcases List.mem_cons.1 hi with rfl | hi
  ·exact h.1
  ·exact allLJ_mem h.2 i hi
theorem ok_regionL (bs hs : List Nat) {id : Nat} {l : List Oper} (hm : P.follows .mixedOrders = true) (hb : (oB.all fun i => (look bx i).isSome) = true) (hk : (oK.all fun k => (lkk ⟨tm, bx, ks⟩ k).isSome) = true)
  (h : OpsL P C nt Q l.toArray oB oK bs (fun i => hs.contains i) (Array.replicate l.length false) l.length ⟨tm, bx, ks⟩) : Ok P C nt Q (.region id l.toArray true) ⟨tm, bx, ks⟩ := Ok.mk fun L a w hr => by
 have hr' := rel_drew hr
 refine T_begin (SWL (bs.map L.bb) w.drew) (fun i => hs.contains i) hm ?_
 have := h.run w.drew L a w.drew hr' (SWL.refl _ _) hr'.chg.size (fun i hi => ?_) (fun k hk' b hb' => ?_)
 ·simpa using this
 ·obtain ⟨x, hx⟩ := Option.isSome_iff_exists.1 (List.all_eq_true.1 hb i hi)
  exact hr'.bx_lt hx
 ·obtain ⟨c, hc⟩ := Option.isSome_iff_exists.1 (List.all_eq_true.1 hk k hk')
  exact hr'.k_lt hc b hb'
theorem l_take (i : Nat) (hi : all[i]? = some o) (ht : takeB .any all hd' listed i = true) (hg : o.guard = none) (hd : o.dst = some d) (hp : Pu P C nt o ⟨tm, bx, ks⟩ v Ks Bs) (h1 : (Ks.all fun k => oK.contains k && (lkk ⟨tm, bx, ks⟩ k).isSome) = true) (h2 : (Bs.all fun k => oB.contains k && (!(bs.contains k) && (look bx k).isSome)) = true) (h3 : (bs.all fun b => (look bx b).isSome) = true) (hn : Nat.blt d nt = true) (hk : svOk ⟨tm, bx, ks⟩ v = true)
  (h : OpsL P C nt Q all oB oK bs hd' (listed.setIfInBounds i true) fuel ⟨(d, v) :: tm, bx, ks⟩) : OpsL P C nt Q all oB oK bs hd' listed (fuel + 1) ⟨tm, bx, ks⟩ := ⟨fun wb L a w hr hs hw hB hK => by
 obtain ⟨r, q3, q4⟩ := hp.run L a w hr
 have hy : ∀ w', SWL (bs.map L.bb) wb w' → (execOp a.eval o).run P w' = .ok (.value r) w' := fun w' hs' => q4 w' fun z _ hu => by
  have hz : z < wb.heap.size ∧ ∀ b ∈ bs, z ≠ L.bb b := by
   rcases hu with (⟨h5, h6⟩ | ⟨k, hk, hb⟩) | ⟨i, hi, rfl⟩
   ·refine ⟨by omega, fun b hb e => ?_⟩
    obtain ⟨xb, hxb⟩ := Option.isSome_iff_exists.1 (List.all_eq_true.1 h3 b hb)
    rcases hr.b1 b xb hxb with g | g
    ·omega
    ·exact h6 (by rw [e]; exact g)
   ·have := List.all_eq_true.1 h1 k hk
    simp only [Bool.and_eq_true, List.contains_iff_mem] at this
    obtain ⟨c, hc⟩ := Option.isSome_iff_exists.1 this.2
    exact ⟨hK k this.1 z hb, fun b hb' e => by
     obtain ⟨xb, hxb⟩ := Option.isSome_iff_exists.1 (List.all_eq_true.1 h3 b hb')
     exact hr.bk b k xb c hxb hc (by rw [← e]; exact hb)⟩
   ·have := List.all_eq_true.1 h2 i hi
    simp only [Bool.and_eq_true, List.contains_iff_mem, Bool.not_eq_true'] at this
    obtain ⟨c, hc⟩ := Option.isSome_iff_exists.1 this.2.2
    exact ⟨hB i this.1, fun b hb' => by
     obtain ⟨xb, hxb⟩ := Option.isSome_iff_exists.1 (List.all_eq_true.1 h3 b hb')
     exact hr.bb i b c xb hc hxb (fun e => by
      have h7 := this.2.1
      rw [e] at h7
      have h8 : bs.contains b = true := List.contains_iff_mem.2 hb'
      rw [h7] at h8; cases h8)⟩
  have hz2 : z ∉ bs.map L.bb := fun hm => by
   obtain ⟨b, hb, e⟩ := List.mem_map.1 hm
   exact hz.2 b hb e.symm
  rw [hs'.2 z hz.1 hz2, hs.2 z hz.1 hz2]
 refine T_take i (v := r) hi ht (fun _ _ _ h => h) hs (.inl ⟨by simp [Region.wanted, hg], hy⟩) ?_
 rw [hd]
 exact h.run wb L _ w (hr.put (by simpa [Nat.blt_eq] using hn) q3 (svOk_spec hk).1 (svOk_spec hk).2) hs hw hB hK⟩
theorem l_split {σ : St} (i : Nat) (is : List Nat) (hr : (Region.ready .any all listed == i :: is) = true) (h : AllLJ P C nt Q all oB oK bs hd' listed fuel σ (i :: is)) : OpsL P C nt Q all oB oK bs hd' listed (fuel + 1) σ := ⟨fun wb L a w hrel hs hw hB hK => by
 have hr' : Region.ready .any all listed = i :: is := by simpa using hr
 refine ⟨fun h0 => (by rw [hr'] at h0; cases h0), fun j hj => ?_⟩
 rw [hr'] at hj
 exact (allLJ_mem h j hj).run wb L a w hrel hs hw hB hK⟩
theorem map_bb {L L' : Lyt} (h : ∀ b ∈ bs, L'.bb b = L.bb b) : bs.map L'.bb = bs.map L.bb := List.map_congr_left h
theorem y_efb (b i : Nat) {R : St → Prop} (hbs : bs.contains b = true) (hi : all[i]? = some o) (hg : o.guard = none) (hp : EfB P C nt o ⟨tm, bx, ks⟩ b R) (hk : (oK.all fun k => (lkk ⟨tm, bx, ks⟩ k).isSome) = true)
  (h : ∀ σ', R σ' → OpsL P C nt Q all oB oK bs hd' (listed.setIfInBounds i true) fuel σ') : OpsLJ P C nt Q all oB oK bs hd' listed fuel i ⟨tm, bx, ks⟩ := ⟨fun wb L a w hr hs hw hB hK => by
 unfold wpOp
 simp only [hi]
 have hw' : Region.wanted o (yielded all a.tmps) = true := by simp [Region.wanted, hg]
 rw [if_pos hw']
 refine .inl (hp.run L a w hr _ _ fun L' σ' a' w' h1 h2 h3 h4 h5 => ?_)
 have hs' : SWL (bs.map L.bb) wb w' := hs.chg h3 (fun x hx => by
  rw [List.mem_singleton] at hx; subst hx
  exact List.mem_map_of_mem (List.contains_iff_mem.1 hbs))
 refine ⟨fun _ => hs', ?_⟩
 have em : bs.map L'.bb = bs.map L.bb := map_bb fun b _ => h5 b
 have := (h σ' h1).run wb L' a' w' h2 (by rw [em]; exact hs') hw (fun j hj => by rw [h5]; exact hB j hj) (fun k hk' b hb' => by
  obtain ⟨c, hc⟩ := Option.isSome_iff_exists.1 (List.all_eq_true.1 hk k hk')
  rw [h4 k c hc] at hb'; exact hK k hk' b hb')
 rwa [em] at this⟩
theorem y_efg (i : Nat) {R : St → Prop} (hi : all[i]? = some o) (hg : o.guard = none) (hp : EfG P C nt o ⟨tm, bx, ks⟩ R) (hb : (oB.all fun i => (look bx i).isSome) = true) (hk : (oK.all fun k => (lkk ⟨tm, bx, ks⟩ k).isSome) = true) (hbb : (bs.all fun b => (look bx b).isSome) = true)
  (h : ∀ σ', R σ' → OpsL P C nt Q all oB oK bs hd' (listed.setIfInBounds i true) fuel σ') : OpsLJ P C nt Q all oB oK bs hd' listed fuel i ⟨tm, bx, ks⟩ := ⟨fun wb L a w hr hs hw hB hK => by
 unfold wpOp
 simp only [hi]
 have hw' : Region.wanted o (yielded all a.tmps) = true := by simp [Region.wanted, hg]
 rw [if_pos hw']
 refine .inl (hp.run L a w hr _ _ fun L' σ' a' w' h1 h2 h3 => ?_)
 have em : bs.map L'.bb = bs.map L.bb := map_bb fun b hb' => by
  obtain ⟨xb, hxb⟩ := Option.isSome_iff_exists.1 (List.all_eq_true.1 hbb b hb')
  exact h3.box b xb hxb
 have hs' : SWL (bs.map L.bb) wb w' := hs.chg h3.chg (by simp)
 refine ⟨fun _ => hs', ?_⟩
 have := (h σ' h1).run wb L' a' w' h2 (by rw [em]; exact hs') hw (fun j hj => ?_) (fun k hk' b' hb' => ?_)
 ·rwa [em] at this
 ·obtain ⟨x, hx⟩ := Option.isSome_iff_exists.1 (List.all_eq_true.1 hb j hj)
  rw [h3.box j x hx]; exact hB j hj
 ·obtain ⟨c, hc⟩ := Option.isSome_iff_exists.1 (List.all_eq_true.1 hk k hk')
  rw [h3.key k c hc] at hb'; exact hK k hk' b' hb'⟩
theorem efg_pure (hd : o.dst = some d) (hn : Nat.blt d nt = true) (hp : Pu P C nt o ⟨tm, bx, ks⟩ v Ks Bs) (hk : svOk ⟨tm, bx, ks⟩ v = true) : EfG P C nt o ⟨tm, bx, ks⟩ (fun σ' => σ' = ⟨(d, v) :: tm, bx, ks⟩) := EfG.mk fun L a w hr K Q' hK => by
 obtain ⟨r, h1, h2⟩ := hp.run L a w hr
 unfold Oper.wp
 rw [h2 w (fun _ _ _ => rfl)]
 simp only [Oper.upon]
 rw [hd]
 exact hK L _ _ _ rfl (hr.put (by simpa [Nat.blt_eq] using hn) h1 (svOk_spec hk).1 (svOk_spec hk).2) ⟨Chg.refl [] w, fun _ _ _ => rfl, fun _ _ _ => rfl⟩
theorem y_pure (i : Nat) (hi : all[i]? = some o) (hg : o.guard = none) (hd : o.dst = some d) (hp : Pu P C nt o ⟨tm, bx, ks⟩ v Ks Bs) (hn : Nat.blt d nt = true) (hk : svOk ⟨tm, bx, ks⟩ v = true) (hb : (oB.all fun i => (look bx i).isSome) = true) (hk' : (oK.all fun k => (lkk ⟨tm, bx, ks⟩ k).isSome) = true) (hbb : (bs.all fun b => (look bx b).isSome) = true)
  (h : OpsL P C nt Q all oB oK bs hd' (listed.setIfInBounds i true) fuel ⟨(d, v) :: tm, bx, ks⟩) : OpsLJ P C nt Q all oB oK bs hd' listed fuel i ⟨tm, bx, ks⟩ :=
 y_efg i hi hg (efg_pure hd hn hp hk) hb hk' hbb fun σ' e => by rw [e]; exact h
theorem y_store (b i : Nat) {t j t' sz by_ : Nat} {zc cs : List CV} {p : Bool × List CV} (hbs : bs.contains b = true) (hi : all[i]? = some o) (hg : o.guard = none) (hT : TTOk P T) (ho : o.op = .store t x y) (hd : o.dst = none) (hte : look T.el t = some (sz, by_, zc)) (hx : Ev P C nt ⟨tm, bx, ks⟩ x (.box b j)) (hy : Ev P C nt ⟨tm, bx, ks⟩ y v) (hp : v.part = some p) (hk : svOk ⟨tm, bx, ks⟩ v = true)
  (hb : look bx b = some (t', cs)) (hl : p.2.length = sz) (hle : Nat.ble (j + sz) cs.length = true) (hkc : (cs.flatMap CV.keys).all (fun k => (lkk ⟨tm, bx, ks⟩ k).isSome) = true)
  (h : OpsL P C nt Q all oB oK bs hd' (listed.setIfInBounds i true) fuel ⟨tm, (b, t', setR j p.2 cs) :: bx, ks⟩) : OpsLJ P C nt Q all oB oK bs hd' listed fuel i ⟨tm, bx, ks⟩ := ⟨fun wb L a w hr hs hw hB hK => by
 unfold wpOp
 simp only [hi]
 have hw' : Region.wanted o (yielded all a.tmps) = true := by simp [Region.wanted, hg]
 rw [if_pos hw']
 obtain ⟨us, h1, h2, h3⟩ := sv_cells hr hp hk (hy.run L a w hr)
 have h4 := hx.run L a w hr
 simp only [SVr] at h4
 obtain ⟨vs, h5, h6⟩ := hr.bx b t' cs hb
 obtain ⟨inf, z, g1, g2, _⟩ := hT.el t sz by_ zc hte
 have hrun := run_store_row (z := z) g1 g2 h1 (by rw [cvL_len h2]; exact hl) h3 h5 (off := j) (by rw [cvL_len h6]; simpa [Nat.ble_eq] using hle)
 refine .inl ?_
 unfold Oper.wp execOp
 simp only [ho, h4, Sem.run_bind, hrun, Result.andThen_ok, Sem.run_pure, Oper.upon, hd, Act.put]
 have hs' := hs.chg (chg_setRow w (L.bb b) (setR j us vs).toArray) (fun x hx => by
  rw [List.mem_singleton] at hx; subst hx
  exact List.mem_map_of_mem (List.contains_iff_mem.1 hbs))
 refine ⟨fun _ => hs', h.run wb L _ _ (hr.setbox hb (chg_setRow _ _ _) (setRow_heap _ _ _ _ _ _ h5) (cvL_setR j h6 h2) ?_) hs' hw hB hK⟩
 intro k hm
 simp only [setR, List.flatMap_append, List.mem_append, or_assoc] at hm
 simp only [List.all_eq_true] at hkc
 rcases hm with hm | hm | hm
 ·exact hkc k (by
   obtain ⟨c, hc, hk'⟩ := List.mem_flatMap.1 hm
   exact List.mem_flatMap.2 ⟨c, List.mem_of_mem_take hc, hk'⟩)
 ·rw [part_keys hp] at hm; exact (svOk_spec hk).1 k hm
 ·exact hkc k (by
   obtain ⟨c, hc, hk'⟩ := List.mem_flatMap.1 hm
   exact List.mem_flatMap.2 ⟨c, List.mem_of_mem_drop hc, hk'⟩)⟩
theorem l_chain (is : List Nat) (hm : (is.all fun i => (all[i]?).isSome) = true) (hf : Nat.ble is.length fuel = true) (hc : chainB .any all hd' is listed = true) (h : Ops P C nt Q all (is.filterMap fun i => all[i]?) ⟨tm, bx, ks⟩) : OpsL P C nt Q all oB oK bs hd' listed fuel ⟨tm, bx, ks⟩ := ⟨fun wb L a w hr _ _ _ _ =>
 T_chain is _ listed fuel a w (chain_map hm) (by simpa [Nat.ble_eq] using hf) hc (h.run L a w hr)⟩
theorem y_callK (m i : Nat) {f : FuncId} {xs : List Operand} {ats : Array TypeId} {us : List SV} {kk : List (Nat × Option KC)} (hi : all[i]? = some o) (hg : o.guard = none) (hd : o.dst = some d) (ho : o.op = .call { callee := .value (.func f), args := xs.toArray, argTypes := ats })
  (hc : ∀ (args : Array Value) (w : World), (callFunc f args).run P w = .ok (.enter f args) w) (hf : KFn P f us v kk) (ha : ArgSs P C nt ⟨tm, bx, ks⟩ xs us) (hn : Nat.blt d nt = true) (hres : v.retOk = true) (hfree : (kk.all fun q => (lkk ⟨tm, bx, ks⟩ (m + q.1)).isNone) = true)
  (hb : (oB.all fun i => (look bx i).isSome) = true) (hk : (oK.all fun k => (lkk ⟨tm, bx, ks⟩ k).isSome) = true) (hbb : (bs.all fun b => (look bx b).isSome) = true)
  (h : OpsL P C nt Q all oB oK bs hd' (listed.setIfInBounds i true) fuel ⟨(d, v.sh m) :: tm, bx, shK m kk ++ ks⟩) : OpsLJ P C nt Q all oB oK bs hd' listed fuel i ⟨tm, bx, ks⟩ :=
 y_efg i hi hg (efg_call (ι := Unit) (v := fun _ => v) (kk := fun _ => kk) (p := fun _ => True) m ho hd hn hc hf.ok ha (fun u σ' h => ⟨(), h.1, h.2, trivial⟩) (fun _ => hres) (fun _ => hfree)) hb hk hbb fun σ' ⟨_, _, e⟩ => by rw [e]; exact h
theorem y_callB (m i : Nat) {f : FuncId} {xs : List Operand} {ats : Array TypeId} {us : List SV} {ι : Type} {p : ι → Prop} {v : ι → SV} {kk : ι → List (Nat × Option KC)} {qs : ι → List CV} {t : TypeId} {dd : DV} {ps : List CV} {c0 : CV} (hbs : bs.contains b = true) (hi : all[i]? = some o)
  (hg : o.guard = none) (hd : o.dst = some d) (ho : o.op = .call { callee := .value (.func f), args := (x :: xs).toArray, argTypes := ats }) (hc : ∀ (args : Array Value) (w : World), (callFunc f args).run P w = .ok (.enter f args) w) (hf : BFn P f us t dd ps p v kk qs)
  (hx : Ev P C nt ⟨tm, bx, ks⟩ x (.box b 0)) (hb : look bx b = some (t, c0 :: ps)) (h0 : ArgC ⟨tm, bx, ks⟩ c0 (.dv [] dd)) (hps : ps.all CV.plain = true) (hqs : ∀ i, (qs i).all CV.plain = true) (ha : ArgSD P C nt ⟨tm, bx, ks⟩ xs us) (hn : Nat.blt d nt = true) (hres : ∀ i, (v i).retOk = true) (hfree : ∀ i, ((kk i).all fun q => (lkk ⟨tm, bx, ks⟩ (m + q.1)).isNone) = true) (hk : (oK.all fun k => (lkk ⟨tm, bx, ks⟩ k).isSome) = true)
  (h : ∀ z, p z → OpsL P C nt Q all oB oK bs hd' (listed.setIfInBounds i true) fuel ⟨(d, (v z).sh m) :: tm, (b, t, c0 :: qs z) :: bx, shK m (kk z) ++ ks⟩) : OpsLJ P C nt Q all oB oK bs hd' listed fuel i ⟨tm, bx, ks⟩ :=
 y_efb b i hbs hi hg (efB m ho hd hn hc hf hx hb h0 hps hqs ha hres hfree) hk fun σ' ⟨z, hz, e⟩ => by rw [e]; exact h z hz
theorem y_buildN (i : Nat) (hT : TTOk P T) {t e sz by_ d k n : Nat} {zc cs : List CV} {ds : List DV} {js : List Nat} {ps : List (Nat × Operand)} (hi : all[i]? = some o) (hg : o.guard = none) (hd : o.dst = some d) (ho : o.op = .buildSlice t n ps.toArray) (hn : Nat.blt d nt = true) (ht : look T.sl t = some e) (he : look T.el e = some (sz, by_, zc)) (hl0 : zc.length = sz) (hsz : Nat.blt 0 sz = true) (hsm : Nat.ble (n * sz) 16777216 = true) (hps : ps.length = n) (hn0 : Nat.blt 0 n = true)
  (hx : EvParts P C nt ⟨tm, bx, ks⟩ sz 0 ps cs) (how : OwCs ⟨tm, bx, ks⟩ cs ds js) (hnj : js.Nodup) (hkj : k ∉ js) (hcl : cs.length = n * sz) (hk : lkk ⟨tm, bx, ks⟩ k = none)
  (hb : (oB.all fun i => (look bx i).isSome) = true) (hk' : (oK.all fun k => (lkk ⟨tm, bx, ks⟩ k).isSome) = true) (hbb : (bs.all fun b => (look bx b).isSome) = true)
  (h : OpsL P C nt Q all oB oK bs hd' (listed.setIfInBounds i true) fuel ⟨(d, .one (.key k)) :: killT (k :: js) (k :: js) tm, killB (k :: js) (k :: js) bx, (k, some ⟨false, e, sz, n, ds⟩) :: ((js.map fun j => (j, none)) ++ (k, some ⟨false, e, sz, 0, []⟩) :: ks)⟩) : OpsLJ P C nt Q all oB oK bs hd' listed fuel i ⟨tm, bx, ks⟩ :=
 y_efg i hi hg (efg_buildN hT ho hd hn ht he hl0 hsz hsm hps hn0 hx how hnj hkj hcl hk) hb hk' hbb fun σ' e => by rw [e]; exact h
theorem l_takeX (i : Nat) (hi : all[i]? = some o) (ht : takeXB .any all hd' listed i = true) (hx : extO o = true) (hg : o.guard = none) (hd : o.dst = some d) (hp : Pu P C nt o ⟨tm, bx, ks⟩ v Ks Bs) (hn : Nat.blt d nt = true) (hk : svOk ⟨tm, bx, ks⟩ v = true)
  (h : OpsL P C nt Q all oB oK bs hd' (listed.setIfInBounds i true) fuel ⟨(d, v) :: tm, bx, ks⟩) : OpsL P C nt Q all oB oK bs hd' listed (fuel + 1) ⟨tm, bx, ks⟩ := ⟨fun wb L a w hr hs hw hB hK => by
 obtain ⟨r, h3, h4⟩ := hp.run L a w hr
 refine T_takeX i (v := r) hi ht (fun _ _ _ h => h) (.inl ⟨by simp [Region.wanted, hg], fun w' _ => ext_any hx (h4 w fun _ _ _ => rfl) w'⟩) ?_
 rw [hd]
 exact h.run wb L _ w (hr.put (by simpa [Nat.blt_eq] using hn) h3 (svOk_spec hk).1 (svOk_spec hk).2) hs hw hB hK⟩
theorem l_done (ht : (Region.ready .any all listed).isEmpty = true) (h : Q .normal ⟨tm, bx, ks⟩) : OpsL P C nt Q all oB oK bs hd' listed fuel ⟨tm, bx, ks⟩ := ⟨fun _ L _ _ hr _ _ _ _ => T_done ht ⟨L, _, hr, h⟩ fuel⟩
end
end
section
variable {P : Program} {C : Ctx} {nt : Nat} {σ : St} {o : Oper} {x y : Operand}
theorem weak_then {σ' σ'' : St} (h1 : Weak P C nt σ σ') (h2 : Weak P C nt σ' σ'') : Weak P C nt σ σ'' := Weak.mk fun L a w hr => by
 obtain ⟨L', h⟩ := h1.run L a w hr
 exact h2.run L' a w h
theorem ev_any {p : Option Addr} : Ev P C nt σ (.const (.pointer p)) (.one .any) := Ev.mk fun _ _ _ _ => by simp only [SVr, CVr]; rfl
theorem div_rng {m : Int} {p : Nat} (hp : 0 < p) (h : InR .i64 m) : InR .i64 (m / (p : Int)) := by
 simp only [InR, IntKind.min, IntKind.max, IntKind.signed, IntKind.bits] at h ⊢
 obtain ⟨h1, h2⟩ := h
 simp at h1 h2 ⊢
 exact ⟨Int.le_ediv_of_mul_le (by omega) (by omega), Int.ediv_le_of_le_mul (by omega) (by omega)⟩
theorem pu_shrZ {t ty : TypeId} {K J : List Nat} {j : IntKind} {m n : Int} (ho : o.op = .binOp .shr t x y ty) (hx : Ev P C nt σ x (.one (.dv K (.int .i64 m)))) (hy : Ev P C nt σ y (.one (.dv J (.int j n)))) (hn : 0 ≤ n) (hn2 : n.toNat ≤ 64) : Pu P C nt o σ (.one (.dv [] (.int .i64 (m / (2 ^ n.toNat : Nat))))) [] [] := Pu.mk fun L a w hr => by
 have h1 := hx.run L a w hr
 have h2 := hy.run L a w hr
 simp only [SVr, CVr, Lay] at h1 h2
 have hp : (0 : Int) < ((2 ^ n.toNat : Nat) : Int) := by have : 0 < 2 ^ n.toNat := Nat.two_pow_pos _; omega
 have e : m.fdiv (2 ^ n.toNat) = m / ((2 ^ n.toNat : Nat) : Int) := by
  have : ((2 ^ n.toNat : Nat) : Int) = (2 : Int) ^ n.toNat := by simp
  rw [← this, Int.fdiv_eq_ediv_of_nonneg _ (by omega)]
 have h3 : InR .i64 (m / ((2 ^ n.toNat : Nat) : Int)) := div_rng (Nat.two_pow_pos _) h1.2
 refine ⟨.int .i64 (m / ((2 ^ n.toNat : Nat) : Int)), by simp only [SVr, CVr, Lay]; exact ⟨trivial, h3⟩, fun w' _ => ?_⟩
 unfold execOp
 simp only [ho, h1.1, h2.1, Sem.run_bind]
 have hg : (eqGuard .shr t x y (.int .i64 m) (.int j n)).run P w' = .ok () w' := by unfold eqGuard; rfl
 have hb : (binOp .shr t (.int .i64 m) (.int j n)).run P w' = .ok (.int .i64 (m / ((2 ^ n.toNat : Nat) : Int))) w' := by
  simp only [binOp, Op.shift]
  rw [if_neg (by omega), Nat.min_eq_left (show n.toNat ≤ IntKind.i64.bits from hn2), e]
  rfl
 simp only [hg, Result.andThen_ok, hb, Sem.run_pure]
theorem pu_xorZ {t ty : TypeId} {K J : List Nat} {m n : Int} (ho : o.op = .binOp .xor t x y ty) (hx : Ev P C nt σ x (.one (.dv K (.int .i64 m)))) (hy : Ev P C nt σ y (.one (.dv J (.int .i64 n)))) : Pu P C nt o σ (.one (.dv [] (.int .i64 (bits .xor .i64 m n)))) [] [] :=
 pu_int ho hx hy fun _ _ => ⟨_, fun ok w => by unfold Lay; exact ⟨rfl, inR_wrap _ _⟩, fun w => by simp [binOp, Op.intBits, bits]⟩
theorem pu_andZ {t ty : TypeId} {K J : List Nat} {m n : Int} (ho : o.op = .binOp .and t x y ty) (hx : Ev P C nt σ x (.one (.dv K (.int .i64 m)))) (hy : Ev P C nt σ y (.one (.dv J (.int .i64 n)))) : Pu P C nt o σ (.one (.dv [] (.int .i64 (bits .and .i64 m n)))) [] [] :=
 pu_int ho hx hy fun _ _ => ⟨_, fun ok w => by unfold Lay; exact ⟨rfl, inR_wrap _ _⟩, fun w => by simp [binOp, Op.intBits, bits]⟩
theorem and255_rng (m : Int) : 0 ≤ bits .and .i64 m 255 ∧ bits .and .i64 m 255 ≤ 255 := by
 have h : (BitVec.ofInt 64 m &&& BitVec.ofInt 64 255).toNat ≤ 255 := by
  rw [BitVec.toNat_and]
  exact Nat.le_trans Nat.and_le_right (by decide)
 show 0 ≤ IntKind.i64.wrap ((BitVec.ofInt 64 m &&& BitVec.ofInt 64 255).toNat : Int) ∧ IntKind.i64.wrap ((BitVec.ofInt 64 m &&& BitVec.ofInt 64 255).toNat : Int) ≤ 255
 rw [IntKind.wrap_i64]
 omega
end
end Go.Proofs.Ytmnimdnmedldgaa

namespace Go.Proofs.Ytmnimdnmedldgaa
open Go.RowKit
open Go.Proofs
set_option linter.unusedVariables false
set_option linter.unusedSimpArgs false
section
variable {P : Program} {C : Ctx} {nt : Nat} {Q : Exit → St → Prop} {all : Array Oper} {rest : List Oper} {σ : St} {o : Oper} {g : Bool}
theorem o_ung (hG : Gd P C nt σ all o g) (hgt : g = true) (h : Ops P C nt Q all ({ o with guard := none } :: rest) σ) : Ops P C nt Q all (o :: rest) σ := Ops.mk fun L a w hr => by
 have h1 := h.run L a w hr
 have hw := hG.run L a w hr
 unfold wpList at h1 ⊢
 rw [hw, hgt, if_pos rfl]
 have hw2 : Region.wanted { o with guard := none } (yielded all a.tmps) = true := by simp [Region.wanted]
 rw [hw2, if_pos rfl] at h1
 exact h1
section
variable {tm : List (Nat × SV)} {bx : List (Nat × TypeId × List CV)} {ks : List (Nat × Option KC)} {oB oK : List Nat} {hd' : Nat → Bool} {listed : Array Bool} {fuel : Nat} {d : Nat} {v X : SV} {Ks Bs : List Nat}
theorem d_efgT (i : Nat) {R : St → Prop} (hi : all[i]? = some o) (ht : (Region.ready .any all listed == [i]) = true) (hG : Gd P C nt ⟨tm, bx, ks⟩ all o g) (hgt : g = true) (hp : EfG P C nt o ⟨tm, bx, ks⟩ R) (hb : (oB.all fun i => (look bx i).isSome) = true) (hk : (oK.all fun k => (lkk ⟨tm, bx, ks⟩ k).isSome) = true)
  (h : ∀ σ', R σ' → OpsD P C nt Q all oB oK hd' (listed.setIfInBounds i true) fuel σ') : OpsD P C nt Q all oB oK hd' listed (fuel + 1) ⟨tm, bx, ks⟩ := ⟨fun wb L a w hr hs hw hB hK => by
 have hG' := hG.run L a w hr
 refine T_oneG i hi ht fun K hK' => ?_
 rw [hG', if_pos hgt]
 refine hp.run L a w hr _ _ fun L' σ' a' w' h1 h2 h3 => hK' _ _ (fun _ => hs.chg h3.chg) ((h σ' h1).run wb L' _ w' h2 (hs.chg h3.chg) hw (fun j hj => ?_) (fun k hk' b hb' => ?_))
 ·obtain ⟨x, hx⟩ := Option.isSome_iff_exists.1 (List.all_eq_true.1 hb j hj)
  rw [h3.box j x hx]; exact hB j hj
 ·obtain ⟨c, hc⟩ := Option.isSome_iff_exists.1 (List.all_eq_true.1 hk k hk')
  rw [h3.key k c hc] at hb'; exact hK k hk' b hb'⟩
theorem d_callKT (m i : Nat) {f : FuncId} {xs : List Operand} {ats : Array TypeId} {us : List SV} {kk : List (Nat × Option KC)} (hi : all[i]? = some o) (ht : (Region.ready .any all listed == [i]) = true) (hG : Gd P C nt ⟨tm, bx, ks⟩ all o g) (hgt : g = true) (hd : o.dst = some d) (ho : o.op = .call { callee := .value (.func f), args := xs.toArray, argTypes := ats })
  (hc : ∀ (args : Array Value) (w : World), (callFunc f args).run P w = .ok (.enter f args) w) (hf : KFn P f us v kk) (ha : ArgSs P C nt ⟨tm, bx, ks⟩ xs us) (hn : Nat.blt d nt = true) (hres : v.retOk = true) (hfree : (kk.all fun q => (lkk ⟨tm, bx, ks⟩ (m + q.1)).isNone) = true) (hb : (oB.all fun i => (look bx i).isSome) = true) (hk : (oK.all fun k => (lkk ⟨tm, bx, ks⟩ k).isSome) = true)
  (h : OpsD P C nt Q all oB oK hd' (listed.setIfInBounds i true) fuel ⟨(d, v.sh m) :: tm, bx, shK m kk ++ ks⟩) : OpsD P C nt Q all oB oK hd' listed (fuel + 1) ⟨tm, bx, ks⟩ :=
 d_efgT i hi ht hG hgt (efg_call (ι := Unit) (v := fun _ => v) (kk := fun _ => kk) (p := fun _ => True) m ho hd hn hc hf.ok ha (fun u σ' h => ⟨(), h.1, h.2, trivial⟩) (fun _ => hres) (fun _ => hfree)) hb hk fun σ' ⟨_, _, e⟩ => by rw [e]; exact h
end
end
end Go.Proofs.Ytmnimdnmedldgaa

namespace Go.Proofs.Ytmnimdnmedldgaa
open Go.RowKit
open Go.Proofs
set_option linter.unusedVariables false
section
variable {C : Ctx} {nt : Nat} {x y : Operand} {σ : St} {ty0 : TypeId} {ps : String} {af : Array Edge} {dd : Option Tmp} {gg : Option (Nat × Bool)}
theorem qA {v : SV} (hx : Ev Try.prog C nt σ x v) : Pu Try.prog C nt ⟨dd, .move x, ty0, ps, af, gg⟩ σ v [] [] := pu_move (.inl rfl) hx
theorem qB {v : SV} (hx : Ev Try.prog C nt σ x v) : Pu Try.prog C nt ⟨dd, .assign x, ty0, ps, af, gg⟩ σ v [] [] := pu_move (.inr rfl) hx
theorem qC {s f off b i : Nat} (hx : Ev Try.prog C nt σ x (.box b i)) (h : look TTab.of (1000 * s + f) = some off) (hf : Nat.blt f 1000 = true) : Pu Try.prog C nt ⟨dd, .fieldAddr s x f, ty0, ps, af, gg⟩ σ (.box b (i + off)) [] [] := pu_fieldBox hT rfl h hf hx
theorem qC2 {s f off : Nat} {K : List Nat} {ds : List DV} (hx : Ev Try.prog C nt σ x (.ref K ds)) (h : look TTab.of (1000 * s + f) = some off) (hf : Nat.blt f 1000 = true) : Pu Try.prog C nt ⟨dd, .fieldAddr s x f, ty0, ps, af, gg⟩ σ (.ref K (ds.drop off)) [] [] := pu_fieldRef hT rfl h hf hx
theorem qC3 {s f off k i : Nat} (hx : Ev Try.prog C nt σ x (.eptr k i)) (h : look TTab.of (1000 * s + f) = some off) (hf : Nat.blt f 1000 = true) : Pu Try.prog C nt ⟨dd, .fieldAddr s x f, ty0, ps, af, gg⟩ σ (.eptr k (i + off)) [] [] := pu_fieldE hT rfl h hf hx
theorem qD {t n b i t' : Nat} {cs : List CV} (ht : look TTab.ag t = some n) (hx : Ev Try.prog C nt σ x (.box b i)) (hb : look σ.bx b = some (t', cs)) (hl : Nat.ble (i + n) cs.length = true) : Pu Try.prog C nt ⟨dd, .load t x, ty0, ps, af, gg⟩ σ (.agg (sub i n cs)) [] [b] := pu_loadBoxA hT rfl ht hx hb hl
theorem qD2 {t b i t' : Nat} {cs : List CV} {c : CV} {u : Unit} (ht : look TTab.on t = some u) (hx : Ev Try.prog C nt σ x (.box b i)) (hb : look σ.bx b = some (t', cs)) (hl : cs[i]? = some c) : Pu Try.prog C nt ⟨dd, .load t x, ty0, ps, af, gg⟩ σ (.one c) [] [b] := pu_loadBox1 hT rfl ht hx hb hl
theorem qD3 {t n : Nat} {K : List Nat} {ds : List DV} (ht : look TTab.ag t = some n) (hx : Ev Try.prog C nt σ x (.ref K ds)) (hl : Nat.ble n ds.length = true) : Pu Try.prog C nt ⟨dd, .load t x, ty0, ps, af, gg⟩ σ (.agg ((ds.take n).map (dvK K))) K [] := pu_loadRefA hT rfl ht hx hl
theorem qD4 {t : Nat} {K : List Nat} {dv : DV} {ds : List DV} {u : Unit} (ht : look TTab.on t = some u) (hx : Ev Try.prog C nt σ x (.ref K ds)) (hd : ds[0]? = some dv) : Pu Try.prog C nt ⟨dd, .load t x, ty0, ps, af, gg⟩ σ (.one (dvK K dv)) K [] := pu_loadRef1 hT rfl ht hx hd
theorem qE {i : Nat} {ts : List (Bool × List CV)} {c : CV} (hx : Ev Try.prog C nt σ x (.tup ts)) (h : ts[i]? = some (false, [c])) : Pu Try.prog C nt ⟨dd, .extract x i, ty0, ps, af, gg⟩ σ (.one c) [] [] := pu_extract1 rfl hx h
theorem qE2 {i : Nat} {ts : List (Bool × List CV)} {cs : List CV} (hx : Ev Try.prog C nt σ x (.tup ts)) (h : ts[i]? = some (true, cs)) : Pu Try.prog C nt ⟨dd, .extract x i, ty0, ps, af, gg⟩ σ (.agg cs) [] [] := pu_extractA rfl hx h
theorem qN {t : TypeId} {K : List Nat} {b : Bool} (hx : Ev Try.prog C nt σ x (.one (.dv K (.bool b)))) : Pu Try.prog C nt ⟨dd, .unOp .not t x, ty0, ps, af, gg⟩ σ (.one (.dv [] (.bool (!b)))) [] [] := pu_not rfl hx
theorem qG {c : Operand} {K J : List Nat} {b b2 : Bool} (hc : Ev Try.prog C nt σ c (.one (.dv K (.bool b)))) (hy : b = true → Ev Try.prog C nt σ y (.one (.dv J (.bool b2)))) : Pu Try.prog C nt ⟨dd, .pick c y (.const (.bool false)), ty0, ps, af, gg⟩ σ (.one (.dv [] (.bool (b && b2)))) [] [] := pu_and rfl hc hy
theorem qH {c : Operand} {K J : List Nat} {b b2 : Bool} (hc : Ev Try.prog C nt σ c (.one (.dv K (.bool b)))) (hy : b = false → Ev Try.prog C nt σ y (.one (.dv J (.bool b2)))) : Pu Try.prog C nt ⟨dd, .pick c (.const (.bool true)) y, ty0, ps, af, gg⟩ σ (.one (.dv [] (.bool (b || b2)))) [] [] := pu_or rfl hc hy
theorem qIlss {t ty : TypeId} {K J : List Nat} {k : IntKind} {m n : Int} (hx : Ev Try.prog C nt σ x (.one (.dv K (.int k m)))) (hy : Ev Try.prog C nt σ y (.one (.dv J (.int k n)))) : Pu Try.prog C nt ⟨dd, .binOp .lss t x y ty, ty0, ps, af, gg⟩ σ (.one (.dv [] (.bool (decide (m < n))))) [] [] := pu_lss rfl hx hy
theorem qIleq {t ty : TypeId} {K J : List Nat} {k : IntKind} {m n : Int} (hx : Ev Try.prog C nt σ x (.one (.dv K (.int k m)))) (hy : Ev Try.prog C nt σ y (.one (.dv J (.int k n)))) : Pu Try.prog C nt ⟨dd, .binOp .leq t x y ty, ty0, ps, af, gg⟩ σ (.one (.dv [] (.bool (decide (m ≤ n))))) [] [] := pu_leq rfl hx hy
theorem qIgtr {t ty : TypeId} {K J : List Nat} {k : IntKind} {m n : Int} (hx : Ev Try.prog C nt σ x (.one (.dv K (.int k m)))) (hy : Ev Try.prog C nt σ y (.one (.dv J (.int k n)))) : Pu Try.prog C nt ⟨dd, .binOp .gtr t x y ty, ty0, ps, af, gg⟩ σ (.one (.dv [] (.bool (decide (n < m))))) [] [] := pu_gtr rfl hx hy
theorem qIgeq {t ty : TypeId} {K J : List Nat} {k : IntKind} {m n : Int} (hx : Ev Try.prog C nt σ x (.one (.dv K (.int k m)))) (hy : Ev Try.prog C nt σ y (.one (.dv J (.int k n)))) : Pu Try.prog C nt ⟨dd, .binOp .geq t x y ty, ty0, ps, af, gg⟩ σ (.one (.dv [] (.bool (decide (n ≤ m))))) [] [] := pu_geq rfl hx hy
theorem qIeql {t ty : TypeId} {K J : List Nat} {k : IntKind} {m n : Int} (hx : Ev Try.prog C nt σ x (.one (.dv K (.int k m)))) (hy : Ev Try.prog C nt σ y (.one (.dv J (.int k n)))) : Pu Try.prog C nt ⟨dd, .binOp .eql t x y ty, ty0, ps, af, gg⟩ σ (.one (.dv [] (.bool (decide (m = n))))) [] [] := pu_eql rfl hx hy
theorem qIneq {t ty : TypeId} {K J : List Nat} {k : IntKind} {m n : Int} (hx : Ev Try.prog C nt σ x (.one (.dv K (.int k m)))) (hy : Ev Try.prog C nt σ y (.one (.dv J (.int k n)))) : Pu Try.prog C nt ⟨dd, .binOp .neq t x y ty, ty0, ps, af, gg⟩ σ (.one (.dv [] (.bool (!decide (m = n))))) [] [] := pu_neq rfl hx hy
theorem qSeql {t ty : TypeId} {K J : List Nat} {m n : ByteArray} (hx : Ev Try.prog C nt σ x (.one (.dv K (.str m)))) (hy : Ev Try.prog C nt σ y (.one (.dv J (.str n)))) : Pu Try.prog C nt ⟨dd, .binOp .eql t x y ty, ty0, ps, af, gg⟩ σ (.one (.dv [] (.bool (sEq m n)))) [] [] := pu_seq rfl hx hy
theorem qSneq {t ty : TypeId} {K J : List Nat} {m n : ByteArray} (hx : Ev Try.prog C nt σ x (.one (.dv K (.str m)))) (hy : Ev Try.prog C nt σ y (.one (.dv J (.str n)))) : Pu Try.prog C nt ⟨dd, .binOp .neq t x y ty, ty0, ps, af, gg⟩ σ (.one (.dv [] (.bool (!sEq m n)))) [] [] := pu_sne rfl hx hy
theorem qSlss {t ty : TypeId} {K J : List Nat} {m n : ByteArray} (hx : Ev Try.prog C nt σ x (.one (.dv K (.str m)))) (hy : Ev Try.prog C nt σ y (.one (.dv J (.str n)))) : Pu Try.prog C nt ⟨dd, .binOp .lss t x y ty, ty0, ps, af, gg⟩ σ (.one (.dv [] (.bool (sLt m n)))) [] [] := pu_slt rfl hx hy
theorem qSleq {t ty : TypeId} {K J : List Nat} {m n : ByteArray} (hx : Ev Try.prog C nt σ x (.one (.dv K (.str m)))) (hy : Ev Try.prog C nt σ y (.one (.dv J (.str n)))) : Pu Try.prog C nt ⟨dd, .binOp .leq t x y ty, ty0, ps, af, gg⟩ σ (.one (.dv [] (.bool (sLt m n || sEq m n)))) [] [] := pu_sle rfl hx hy
theorem qSgtr {t ty : TypeId} {K J : List Nat} {m n : ByteArray} (hx : Ev Try.prog C nt σ x (.one (.dv K (.str m)))) (hy : Ev Try.prog C nt σ y (.one (.dv J (.str n)))) : Pu Try.prog C nt ⟨dd, .binOp .gtr t x y ty, ty0, ps, af, gg⟩ σ (.one (.dv [] (.bool (!(sLt m n || sEq m n))))) [] [] := pu_sgt rfl hx hy
theorem qSgeq {t ty : TypeId} {K J : List Nat} {m n : ByteArray} (hx : Ev Try.prog C nt σ x (.one (.dv K (.str m)))) (hy : Ev Try.prog C nt σ y (.one (.dv J (.str n)))) : Pu Try.prog C nt ⟨dd, .binOp .geq t x y ty, ty0, ps, af, gg⟩ σ (.one (.dv [] (.bool (!sLt m n)))) [] [] := pu_sge rfl hx hy
theorem qIadd {t ty : TypeId} {K J : List Nat} {m n : Int} (hx : Ev Try.prog C nt σ x (.one (.dv K (.int .i64 m)))) (hy : Ev Try.prog C nt σ y (.one (.dv J (.int .i64 n)))) (h1 : -9223372036854775808 ≤ m + n) (h2 : m + n ≤ 9223372036854775807) : Pu Try.prog C nt ⟨dd, .binOp .add t x y ty, ty0, ps, af, gg⟩ σ (.one (.dv [] (.int .i64 (m + n)))) [] [] := pu_addR rfl hx hy (inR64 h1 h2)
theorem qIsub {t ty : TypeId} {K J : List Nat} {m n : Int} (hx : Ev Try.prog C nt σ x (.one (.dv K (.int .i64 m)))) (hy : Ev Try.prog C nt σ y (.one (.dv J (.int .i64 n)))) (h1 : -9223372036854775808 ≤ m - n) (h2 : m - n ≤ 9223372036854775807) : Pu Try.prog C nt ⟨dd, .binOp .sub t x y ty, ty0, ps, af, gg⟩ σ (.one (.dv [] (.int .i64 (m - n)))) [] [] := pu_subR rfl hx hy (inR64 h1 h2)
theorem qL {t e' e sz n : Nat} {K : List Nat} {cs : List DV} (hx : Ev Try.prog C nt σ x (.one (.dv K (.sl e sz n cs)))) (h : look TTab.sl t = some e') : Pu Try.prog C nt ⟨dd, .call { callee := .builtin .len, args := #[x], argTypes := #[t] }, ty0, ps, af, gg⟩ σ (.one (.dv [] (.int .i64 (n : Int)))) [] [] := pu_lenV hT rfl h hx
theorem qL2 {t : Nat} {u : Unit} {s : ByteArray} {K : List Nat} (hx : Ev Try.prog C nt σ x (.one (.dv K (.str s)))) (h : look TTab.st t = some u) : Pu Try.prog C nt ⟨dd, .call { callee := .builtin .len, args := #[x], argTypes := #[t] }, ty0, ps, af, gg⟩ σ (.one (.dv [] (.int .i64 (s.size : Int)))) [] [] := pu_lenS hT rfl h hx
theorem qL3 {t e' : Nat} (hx : Ev Try.prog C nt σ x (.one .nil)) (h : look TTab.sl t = some e') : Pu Try.prog C nt ⟨dd, .call { callee := .builtin .len, args := #[x], argTypes := #[t] }, ty0, ps, af, gg⟩ σ (.one (.dv [] (.int .i64 0))) [] [] := pu_lenN hT rfl h hx
end
section
variable {P : Program} {C : Ctx} {nt : Nat} {o : Oper} {x y : Operand} {T : TT} {Q : Exit → St → Prop} {N : St → Prop} {all : Array Oper} {rest : List Oper} {σ : St} {tm : List (Nat × SV)} {bx : List (Nat × TypeId × List CV)} {ks : List (Nat × Option KC)} {d t : Nat} {v X : SV} {ty : TypeId} {ps : String} {af : Array Edge} {Ks Bs oB oK : List Nat} {g : Bool} {listed : Array Bool} {fuel : Nat} {hd' : Nat → Bool}
theorem zp (hp : Pu P C nt o σ v Ks Bs := by
  first
  | (apply qA; (first | exact ev_tmp rfl | exact ev_int (inR_lit rfl) | exact ev_bool | exact ev_str (str_lit rfl) | exact ev_nil | exact ev_func))
  | (apply qB; (first | exact ev_tmp rfl | exact ev_int (inR_lit rfl) | exact ev_bool | exact ev_str (str_lit rfl) | exact ev_nil | exact ev_func))
  | (apply qC; (first | exact ev_tmp rfl | exact ev_int (inR_lit rfl) | exact ev_bool | exact ev_str (str_lit rfl) | exact ev_nil | exact ev_func); exact rfl; exact rfl)
  | (apply qC2; (first | exact ev_tmp rfl | exact ev_int (inR_lit rfl) | exact ev_bool | exact ev_str (str_lit rfl) | exact ev_nil | exact ev_func); exact rfl; exact rfl)
  | (apply qC3; (first | exact ev_tmp rfl | exact ev_int (inR_lit rfl) | exact ev_bool | exact ev_str (str_lit rfl) | exact ev_nil | exact ev_func); exact rfl; exact rfl)
  | (apply qD; exact rfl; (first | exact ev_tmp rfl | exact ev_int (inR_lit rfl) | exact ev_bool | exact ev_str (str_lit rfl) | exact ev_nil | exact ev_func); exact rfl; exact rfl)
  | (apply qD2; exact rfl; (first | exact ev_tmp rfl | exact ev_int (inR_lit rfl) | exact ev_bool | exact ev_str (str_lit rfl) | exact ev_nil | exact ev_func); exact rfl; exact rfl)
  | (apply qD3; exact rfl; (first | exact ev_tmp rfl | exact ev_int (inR_lit rfl) | exact ev_bool | exact ev_str (str_lit rfl) | exact ev_nil | exact ev_func); exact rfl)
  | (apply qD4; exact rfl; (first | exact ev_tmp rfl | exact ev_int (inR_lit rfl) | exact ev_bool | exact ev_str (str_lit rfl) | exact ev_nil | exact ev_func); exact rfl)
  | (apply qE; (first | exact ev_tmp rfl | exact ev_int (inR_lit rfl) | exact ev_bool | exact ev_str (str_lit rfl) | exact ev_nil | exact ev_func); exact rfl)
  | (apply qE2; (first | exact ev_tmp rfl | exact ev_int (inR_lit rfl) | exact ev_bool | exact ev_str (str_lit rfl) | exact ev_nil | exact ev_func); exact rfl)
  | (apply qN; (first | exact ev_tmp rfl | exact ev_int (inR_lit rfl) | exact ev_bool | exact ev_str (str_lit rfl) | exact ev_nil | exact ev_func))
  | (apply qG; (first | exact ev_tmp rfl | exact ev_int (inR_lit rfl) | exact ev_bool | exact ev_str (str_lit rfl) | exact ev_nil | exact ev_func); (intro hb; first | (refine ev_opt rfl ?_; first | exact beq_t hb | exact beq_f hb) | exact ev_tmp rfl | exact ev_int (inR_lit rfl) | exact ev_bool | exact ev_str (str_lit rfl) | exact ev_nil | exact ev_func))
  | (apply qH; (first | exact ev_tmp rfl | exact ev_int (inR_lit rfl) | exact ev_bool | exact ev_str (str_lit rfl) | exact ev_nil | exact ev_func); (intro hb; first | (refine ev_opt rfl ?_; first | exact beq_t hb | exact beq_f hb) | exact ev_tmp rfl | exact ev_int (inR_lit rfl) | exact ev_bool | exact ev_str (str_lit rfl) | exact ev_nil | exact ev_func))
  | (apply qIlss; (first | exact ev_tmp rfl | exact ev_int (inR_lit rfl) | exact ev_bool | exact ev_str (str_lit rfl) | exact ev_nil | exact ev_func); (first | exact ev_tmp rfl | exact ev_int (inR_lit rfl) | exact ev_bool | exact ev_str (str_lit rfl) | exact ev_nil | exact ev_func))
  | (apply qIleq; (first | exact ev_tmp rfl | exact ev_int (inR_lit rfl) | exact ev_bool | exact ev_str (str_lit rfl) | exact ev_nil | exact ev_func); (first | exact ev_tmp rfl | exact ev_int (inR_lit rfl) | exact ev_bool | exact ev_str (str_lit rfl) | exact ev_nil | exact ev_func))
  | (apply qIgtr; (first | exact ev_tmp rfl | exact ev_int (inR_lit rfl) | exact ev_bool | exact ev_str (str_lit rfl) | exact ev_nil | exact ev_func); (first | exact ev_tmp rfl | exact ev_int (inR_lit rfl) | exact ev_bool | exact ev_str (str_lit rfl) | exact ev_nil | exact ev_func))
  | (apply qIgeq; (first | exact ev_tmp rfl | exact ev_int (inR_lit rfl) | exact ev_bool | exact ev_str (str_lit rfl) | exact ev_nil | exact ev_func); (first | exact ev_tmp rfl | exact ev_int (inR_lit rfl) | exact ev_bool | exact ev_str (str_lit rfl) | exact ev_nil | exact ev_func))
  | (apply qIeql; (first | exact ev_tmp rfl | exact ev_int (inR_lit rfl) | exact ev_bool | exact ev_str (str_lit rfl) | exact ev_nil | exact ev_func); (first | exact ev_tmp rfl | exact ev_int (inR_lit rfl) | exact ev_bool | exact ev_str (str_lit rfl) | exact ev_nil | exact ev_func))
  | (apply qIneq; (first | exact ev_tmp rfl | exact ev_int (inR_lit rfl) | exact ev_bool | exact ev_str (str_lit rfl) | exact ev_nil | exact ev_func); (first | exact ev_tmp rfl | exact ev_int (inR_lit rfl) | exact ev_bool | exact ev_str (str_lit rfl) | exact ev_nil | exact ev_func))
  | (apply qSeql; (first | exact ev_tmp rfl | exact ev_int (inR_lit rfl) | exact ev_bool | exact ev_str (str_lit rfl) | exact ev_nil | exact ev_func); (first | exact ev_tmp rfl | exact ev_int (inR_lit rfl) | exact ev_bool | exact ev_str (str_lit rfl) | exact ev_nil | exact ev_func))
  | (apply qSneq; (first | exact ev_tmp rfl | exact ev_int (inR_lit rfl) | exact ev_bool | exact ev_str (str_lit rfl) | exact ev_nil | exact ev_func); (first | exact ev_tmp rfl | exact ev_int (inR_lit rfl) | exact ev_bool | exact ev_str (str_lit rfl) | exact ev_nil | exact ev_func))
  | (apply qSlss; (first | exact ev_tmp rfl | exact ev_int (inR_lit rfl) | exact ev_bool | exact ev_str (str_lit rfl) | exact ev_nil | exact ev_func); (first | exact ev_tmp rfl | exact ev_int (inR_lit rfl) | exact ev_bool | exact ev_str (str_lit rfl) | exact ev_nil | exact ev_func))
  | (apply qSleq; (first | exact ev_tmp rfl | exact ev_int (inR_lit rfl) | exact ev_bool | exact ev_str (str_lit rfl) | exact ev_nil | exact ev_func); (first | exact ev_tmp rfl | exact ev_int (inR_lit rfl) | exact ev_bool | exact ev_str (str_lit rfl) | exact ev_nil | exact ev_func))
  | (apply qSgtr; (first | exact ev_tmp rfl | exact ev_int (inR_lit rfl) | exact ev_bool | exact ev_str (str_lit rfl) | exact ev_nil | exact ev_func); (first | exact ev_tmp rfl | exact ev_int (inR_lit rfl) | exact ev_bool | exact ev_str (str_lit rfl) | exact ev_nil | exact ev_func))
  | (apply qSgeq; (first | exact ev_tmp rfl | exact ev_int (inR_lit rfl) | exact ev_bool | exact ev_str (str_lit rfl) | exact ev_nil | exact ev_func); (first | exact ev_tmp rfl | exact ev_int (inR_lit rfl) | exact ev_bool | exact ev_str (str_lit rfl) | exact ev_nil | exact ev_func))
  | (apply qIadd; (first | exact ev_tmp rfl | exact ev_int (inR_lit rfl) | exact ev_bool | exact ev_str (str_lit rfl) | exact ev_nil | exact ev_func); (first | exact ev_tmp rfl | exact ev_int (inR_lit rfl) | exact ev_bool | exact ev_str (str_lit rfl) | exact ev_nil | exact ev_func); omega; omega)
  | (apply qIsub; (first | exact ev_tmp rfl | exact ev_int (inR_lit rfl) | exact ev_bool | exact ev_str (str_lit rfl) | exact ev_nil | exact ev_func); (first | exact ev_tmp rfl | exact ev_int (inR_lit rfl) | exact ev_bool | exact ev_str (str_lit rfl) | exact ev_nil | exact ev_func); omega; omega)
  | (apply qL; (first | exact ev_tmp rfl | exact ev_int (inR_lit rfl) | exact ev_bool | exact ev_str (str_lit rfl) | exact ev_nil | exact ev_func); exact rfl)
  | (apply qL2; (first | exact ev_tmp rfl | exact ev_int (inR_lit rfl) | exact ev_bool | exact ev_str (str_lit rfl) | exact ev_nil | exact ev_func); exact rfl)
  | (apply qL3; (first | exact ev_tmp rfl | exact ev_int (inR_lit rfl) | exact ev_bool | exact ev_str (str_lit rfl) | exact ev_nil | exact ev_func); exact rfl)
  | exact pu_indexD hT rfl rfl rfl (by first | exact ev_tmp rfl | exact ev_int (inR_lit rfl) | exact ev_bool | exact ev_str (str_lit rfl) | exact ev_nil | exact ev_func) (by first | exact ev_tmp rfl | exact ev_int (inR_lit rfl) | exact ev_bool | exact ev_str (str_lit rfl) | exact ev_nil | exact ev_func) (fun _ => rfl) (by omega) (by omega)
  | exact pu_indexS hT rfl rfl (by first | exact ev_tmp rfl | exact ev_int (inR_lit rfl) | exact ev_bool | exact ev_str (str_lit rfl) | exact ev_nil | exact ev_func) (by first | exact ev_tmp rfl | exact ev_int (inR_lit rfl) | exact ev_bool | exact ev_str (str_lit rfl) | exact ev_nil | exact ev_func) (by omega) (by omega)) : Pu P C nt o σ v Ks Bs := hp
theorem zq {g : Bool} (hg : g = true) (hp : Pu P C nt o σ v Ks Bs := by
  first
  | (apply qA; (first | (refine ev_opt rfl ?_; first | exact hg | exact and_l hg | exact and_l (and_l hg) | exact and_l (and_l (and_l hg))) | exact ev_tmp rfl | exact ev_int (inR_lit rfl) | exact ev_bool | exact ev_str (str_lit rfl) | exact ev_nil | exact ev_func))
  | (apply qB; (first | (refine ev_opt rfl ?_; first | exact hg | exact and_l hg | exact and_l (and_l hg) | exact and_l (and_l (and_l hg))) | exact ev_tmp rfl | exact ev_int (inR_lit rfl) | exact ev_bool | exact ev_str (str_lit rfl) | exact ev_nil | exact ev_func))
  | (apply qC; (first | (refine ev_opt rfl ?_; first | exact hg | exact and_l hg | exact and_l (and_l hg) | exact and_l (and_l (and_l hg))) | exact ev_tmp rfl | exact ev_int (inR_lit rfl) | exact ev_bool | exact ev_str (str_lit rfl) | exact ev_nil | exact ev_func); exact rfl; exact rfl)
  | (apply qC2; (first | (refine ev_opt rfl ?_; first | exact hg | exact and_l hg | exact and_l (and_l hg) | exact and_l (and_l (and_l hg))) | exact ev_tmp rfl | exact ev_int (inR_lit rfl) | exact ev_bool | exact ev_str (str_lit rfl) | exact ev_nil | exact ev_func); exact rfl; exact rfl)
  | (apply qC3; (first | (refine ev_opt rfl ?_; first | exact hg | exact and_l hg | exact and_l (and_l hg) | exact and_l (and_l (and_l hg))) | exact ev_tmp rfl | exact ev_int (inR_lit rfl) | exact ev_bool | exact ev_str (str_lit rfl) | exact ev_nil | exact ev_func); exact rfl; exact rfl)
  | (apply qD; exact rfl; (first | (refine ev_opt rfl ?_; first | exact hg | exact and_l hg | exact and_l (and_l hg) | exact and_l (and_l (and_l hg))) | exact ev_tmp rfl | exact ev_int (inR_lit rfl) | exact ev_bool | exact ev_str (str_lit rfl) | exact ev_nil | exact ev_func); exact rfl; exact rfl)
  | (apply qD2; exact rfl; (first | (refine ev_opt rfl ?_; first | exact hg | exact and_l hg | exact and_l (and_l hg) | exact and_l (and_l (and_l hg))) | exact ev_tmp rfl | exact ev_int (inR_lit rfl) | exact ev_bool | exact ev_str (str_lit rfl) | exact ev_nil | exact ev_func); exact rfl; exact rfl)
  | (apply qD3; exact rfl; (first | (refine ev_opt rfl ?_; first | exact hg | exact and_l hg | exact and_l (and_l hg) | exact and_l (and_l (and_l hg))) | exact ev_tmp rfl | exact ev_int (inR_lit rfl) | exact ev_bool | exact ev_str (str_lit rfl) | exact ev_nil | exact ev_func); exact rfl)
  | (apply qD4; exact rfl; (first | (refine ev_opt rfl ?_; first | exact hg | exact and_l hg | exact and_l (and_l hg) | exact and_l (and_l (and_l hg))) | exact ev_tmp rfl | exact ev_int (inR_lit rfl) | exact ev_bool | exact ev_str (str_lit rfl) | exact ev_nil | exact ev_func); exact rfl)
  | (apply qE; (first | (refine ev_opt rfl ?_; first | exact hg | exact and_l hg | exact and_l (and_l hg) | exact and_l (and_l (and_l hg))) | exact ev_tmp rfl | exact ev_int (inR_lit rfl) | exact ev_bool | exact ev_str (str_lit rfl) | exact ev_nil | exact ev_func); exact rfl)
  | (apply qE2; (first | (refine ev_opt rfl ?_; first | exact hg | exact and_l hg | exact and_l (and_l hg) | exact and_l (and_l (and_l hg))) | exact ev_tmp rfl | exact ev_int (inR_lit rfl) | exact ev_bool | exact ev_str (str_lit rfl) | exact ev_nil | exact ev_func); exact rfl)
  | (apply qN; (first | (refine ev_opt rfl ?_; first | exact hg | exact and_l hg | exact and_l (and_l hg) | exact and_l (and_l (and_l hg))) | exact ev_tmp rfl | exact ev_int (inR_lit rfl) | exact ev_bool | exact ev_str (str_lit rfl) | exact ev_nil | exact ev_func))
  | (apply qG; (first | (refine ev_opt rfl ?_; first | exact hg | exact and_l hg | exact and_l (and_l hg) | exact and_l (and_l (and_l hg))) | exact ev_tmp rfl | exact ev_int (inR_lit rfl) | exact ev_bool | exact ev_str (str_lit rfl) | exact ev_nil | exact ev_func); (intro hb; first | (refine ev_opt rfl ?_; first | exact beq_t hb | exact beq_f hb | exact and_mk hg (beq_t hb) | exact and_mk hg (beq_f hb) | exact and_mk (and_l hg) (beq_t hb) | exact and_mk (and_l hg) (beq_f hb) | exact hg | exact and_l hg) | exact ev_tmp rfl | exact ev_int (inR_lit rfl) | exact ev_bool | exact ev_str (str_lit rfl) | exact ev_nil | exact ev_func))
  | (apply qH; (first | (refine ev_opt rfl ?_; first | exact hg | exact and_l hg | exact and_l (and_l hg) | exact and_l (and_l (and_l hg))) | exact ev_tmp rfl | exact ev_int (inR_lit rfl) | exact ev_bool | exact ev_str (str_lit rfl) | exact ev_nil | exact ev_func); (intro hb; first | (refine ev_opt rfl ?_; first | exact beq_t hb | exact beq_f hb | exact and_mk hg (beq_t hb) | exact and_mk hg (beq_f hb) | exact and_mk (and_l hg) (beq_t hb) | exact and_mk (and_l hg) (beq_f hb) | exact hg | exact and_l hg) | exact ev_tmp rfl | exact ev_int (inR_lit rfl) | exact ev_bool | exact ev_str (str_lit rfl) | exact ev_nil | exact ev_func))
  | (apply qIlss; (first | (refine ev_opt rfl ?_; first | exact hg | exact and_l hg | exact and_l (and_l hg) | exact and_l (and_l (and_l hg))) | exact ev_tmp rfl | exact ev_int (inR_lit rfl) | exact ev_bool | exact ev_str (str_lit rfl) | exact ev_nil | exact ev_func); (first | (refine ev_opt rfl ?_; first | exact hg | exact and_l hg | exact and_l (and_l hg) | exact and_l (and_l (and_l hg))) | exact ev_tmp rfl | exact ev_int (inR_lit rfl) | exact ev_bool | exact ev_str (str_lit rfl) | exact ev_nil | exact ev_func))
  | (apply qIleq; (first | (refine ev_opt rfl ?_; first | exact hg | exact and_l hg | exact and_l (and_l hg) | exact and_l (and_l (and_l hg))) | exact ev_tmp rfl | exact ev_int (inR_lit rfl) | exact ev_bool | exact ev_str (str_lit rfl) | exact ev_nil | exact ev_func); (first | (refine ev_opt rfl ?_; first | exact hg | exact and_l hg | exact and_l (and_l hg) | exact and_l (and_l (and_l hg))) | exact ev_tmp rfl | exact ev_int (inR_lit rfl) | exact ev_bool | exact ev_str (str_lit rfl) | exact ev_nil | exact ev_func))
  | (apply qIgtr; (first | (refine ev_opt rfl ?_; first | exact hg | exact and_l hg | exact and_l (and_l hg) | exact and_l (and_l (and_l hg))) | exact ev_tmp rfl | exact ev_int (inR_lit rfl) | exact ev_bool | exact ev_str (str_lit rfl) | exact ev_nil | exact ev_func); (first | (refine ev_opt rfl ?_; first | exact hg | exact and_l hg | exact and_l (and_l hg) | exact and_l (and_l (and_l hg))) | exact ev_tmp rfl | exact ev_int (inR_lit rfl) | exact ev_bool | exact ev_str (str_lit rfl) | exact ev_nil | exact ev_func))
  | (apply qIgeq; (first | (refine ev_opt rfl ?_; first | exact hg | exact and_l hg | exact and_l (and_l hg) | exact and_l (and_l (and_l hg))) | exact ev_tmp rfl | exact ev_int (inR_lit rfl) | exact ev_bool | exact ev_str (str_lit rfl) | exact ev_nil | exact ev_func); (first | (refine ev_opt rfl ?_; first | exact hg | exact and_l hg | exact and_l (and_l hg) | exact and_l (and_l (and_l hg))) | exact ev_tmp rfl | exact ev_int (inR_lit rfl) | exact ev_bool | exact ev_str (str_lit rfl) | exact ev_nil | exact ev_func))
  | (apply qIeql; (first | (refine ev_opt rfl ?_; first | exact hg | exact and_l hg | exact and_l (and_l hg) | exact and_l (and_l (and_l hg))) | exact ev_tmp rfl | exact ev_int (inR_lit rfl) | exact ev_bool | exact ev_str (str_lit rfl) | exact ev_nil | exact ev_func); (first | (refine ev_opt rfl ?_; first | exact hg | exact and_l hg | exact and_l (and_l hg) | exact and_l (and_l (and_l hg))) | exact ev_tmp rfl | exact ev_int (inR_lit rfl) | exact ev_bool | exact ev_str (str_lit rfl) | exact ev_nil | exact ev_func))
  | (apply qIneq; (first | (refine ev_opt rfl ?_; first | exact hg | exact and_l hg | exact and_l (and_l hg) | exact and_l (and_l (and_l hg))) | exact ev_tmp rfl | exact ev_int (inR_lit rfl) | exact ev_bool | exact ev_str (str_lit rfl) | exact ev_nil | exact ev_func); (first | (refine ev_opt rfl ?_; first | exact hg | exact and_l hg | exact and_l (and_l hg) | exact and_l (and_l (and_l hg))) | exact ev_tmp rfl | exact ev_int (inR_lit rfl) | exact ev_bool | exact ev_str (str_lit rfl) | exact ev_nil | exact ev_func))
  | (apply qSeql; (first | (refine ev_opt rfl ?_; first | exact hg | exact and_l hg | exact and_l (and_l hg) | exact and_l (and_l (and_l hg))) | exact ev_tmp rfl | exact ev_int (inR_lit rfl) | exact ev_bool | exact ev_str (str_lit rfl) | exact ev_nil | exact ev_func); (first | (refine ev_opt rfl ?_; first | exact hg | exact and_l hg | exact and_l (and_l hg) | exact and_l (and_l (and_l hg))) | exact ev_tmp rfl | exact ev_int (inR_lit rfl) | exact ev_bool | exact ev_str (str_lit rfl) | exact ev_nil | exact ev_func))
  | (apply qSneq; (first | (refine ev_opt rfl ?_; first | exact hg | exact and_l hg | exact and_l (and_l hg) | exact and_l (and_l (and_l hg))) | exact ev_tmp rfl | exact ev_int (inR_lit rfl) | exact ev_bool | exact ev_str (str_lit rfl) | exact ev_nil | exact ev_func); (first | (refine ev_opt rfl ?_; first | exact hg | exact and_l hg | exact and_l (and_l hg) | exact and_l (and_l (and_l hg))) | exact ev_tmp rfl | exact ev_int (inR_lit rfl) | exact ev_bool | exact ev_str (str_lit rfl) | exact ev_nil | exact ev_func))
  | (apply qSlss; (first | (refine ev_opt rfl ?_; first | exact hg | exact and_l hg | exact and_l (and_l hg) | exact and_l (and_l (and_l hg))) | exact ev_tmp rfl | exact ev_int (inR_lit rfl) | exact ev_bool | exact ev_str (str_lit rfl) | exact ev_nil | exact ev_func); (first | (refine ev_opt rfl ?_; first | exact hg | exact and_l hg | exact and_l (and_l hg) | exact and_l (and_l (and_l hg))) | exact ev_tmp rfl | exact ev_int (inR_lit rfl) | exact ev_bool | exact ev_str (str_lit rfl) | exact ev_nil | exact ev_func))
  | (apply qSleq; (first | (refine ev_opt rfl ?_; first | exact hg | exact and_l hg | exact and_l (and_l hg) | exact and_l (and_l (and_l hg))) | exact ev_tmp rfl | exact ev_int (inR_lit rfl) | exact ev_bool | exact ev_str (str_lit rfl) | exact ev_nil | exact ev_func); (first | (refine ev_opt rfl ?_; first | exact hg | exact and_l hg | exact and_l (and_l hg) | exact and_l (and_l (and_l hg))) | exact ev_tmp rfl | exact ev_int (inR_lit rfl) | exact ev_bool | exact ev_str (str_lit rfl) | exact ev_nil | exact ev_func))
  | (apply qSgtr; (first | (refine ev_opt rfl ?_; first | exact hg | exact and_l hg | exact and_l (and_l hg) | exact and_l (and_l (and_l hg))) | exact ev_tmp rfl | exact ev_int (inR_lit rfl) | exact ev_bool | exact ev_str (str_lit rfl) | exact ev_nil | exact ev_func); (first | (refine ev_opt rfl ?_; first | exact hg | exact and_l hg | exact and_l (and_l hg) | exact and_l (and_l (and_l hg))) | exact ev_tmp rfl | exact ev_int (inR_lit rfl) | exact ev_bool | exact ev_str (str_lit rfl) | exact ev_nil | exact ev_func))
  | (apply qSgeq; (first | (refine ev_opt rfl ?_; first | exact hg | exact and_l hg | exact and_l (and_l hg) | exact and_l (and_l (and_l hg))) | exact ev_tmp rfl | exact ev_int (inR_lit rfl) | exact ev_bool | exact ev_str (str_lit rfl) | exact ev_nil | exact ev_func); (first | (refine ev_opt rfl ?_; first | exact hg | exact and_l hg | exact and_l (and_l hg) | exact and_l (and_l (and_l hg))) | exact ev_tmp rfl | exact ev_int (inR_lit rfl) | exact ev_bool | exact ev_str (str_lit rfl) | exact ev_nil | exact ev_func))
  | (apply qIadd; (first | (refine ev_opt rfl ?_; first | exact hg | exact and_l hg | exact and_l (and_l hg) | exact and_l (and_l (and_l hg))) | exact ev_tmp rfl | exact ev_int (inR_lit rfl) | exact ev_bool | exact ev_str (str_lit rfl) | exact ev_nil | exact ev_func); (first | (refine ev_opt rfl ?_; first | exact hg | exact and_l hg | exact and_l (and_l hg) | exact and_l (and_l (and_l hg))) | exact ev_tmp rfl | exact ev_int (inR_lit rfl) | exact ev_bool | exact ev_str (str_lit rfl) | exact ev_nil | exact ev_func); omega; omega)
  | (apply qIsub; (first | (refine ev_opt rfl ?_; first | exact hg | exact and_l hg | exact and_l (and_l hg) | exact and_l (and_l (and_l hg))) | exact ev_tmp rfl | exact ev_int (inR_lit rfl) | exact ev_bool | exact ev_str (str_lit rfl) | exact ev_nil | exact ev_func); (first | (refine ev_opt rfl ?_; first | exact hg | exact and_l hg | exact and_l (and_l hg) | exact and_l (and_l (and_l hg))) | exact ev_tmp rfl | exact ev_int (inR_lit rfl) | exact ev_bool | exact ev_str (str_lit rfl) | exact ev_nil | exact ev_func); omega; omega)
  | (apply qL; (first | (refine ev_opt rfl ?_; first | exact hg | exact and_l hg | exact and_l (and_l hg) | exact and_l (and_l (and_l hg))) | exact ev_tmp rfl | exact ev_int (inR_lit rfl) | exact ev_bool | exact ev_str (str_lit rfl) | exact ev_nil | exact ev_func); exact rfl)
  | (apply qL2; (first | (refine ev_opt rfl ?_; first | exact hg | exact and_l hg | exact and_l (and_l hg) | exact and_l (and_l (and_l hg))) | exact ev_tmp rfl | exact ev_int (inR_lit rfl) | exact ev_bool | exact ev_str (str_lit rfl) | exact ev_nil | exact ev_func); exact rfl)
  | (apply qL3; (first | (refine ev_opt rfl ?_; first | exact hg | exact and_l hg | exact and_l (and_l hg) | exact and_l (and_l (and_l hg))) | exact ev_tmp rfl | exact ev_int (inR_lit rfl) | exact ev_bool | exact ev_str (str_lit rfl) | exact ev_nil | exact ev_func); exact rfl)
  | exact pu_indexD hT rfl rfl rfl (by first | (refine ev_opt rfl ?_; first | exact hg | exact and_l hg | exact and_l (and_l hg) | exact and_l (and_l (and_l hg))) | exact ev_tmp rfl | exact ev_int (inR_lit rfl) | exact ev_bool | exact ev_str (str_lit rfl) | exact ev_nil | exact ev_func) (by first | (refine ev_opt rfl ?_; first | exact hg | exact and_l hg | exact and_l (and_l hg) | exact and_l (and_l (and_l hg))) | exact ev_tmp rfl | exact ev_int (inR_lit rfl) | exact ev_bool | exact ev_str (str_lit rfl) | exact ev_nil | exact ev_func) (fun _ => rfl) (by first | omega | (simp only [Bool.and_eq_true, Bool.or_eq_true, Bool.or_eq_false_iff, Bool.and_eq_false_iff, Bool.not_eq_true', Bool.not_eq_false', beq_iff_eq, decide_eq_true_eq, decide_eq_false_iff_not] at hg; omega) | (have hh := of_decide_eq_true (beq_tt hg); omega) | (have hh := of_decide_eq_true (beq_tt (and_r hg)); omega)) (by first | omega | (simp only [Bool.and_eq_true, Bool.or_eq_true, Bool.or_eq_false_iff, Bool.and_eq_false_iff, Bool.not_eq_true', Bool.not_eq_false', beq_iff_eq, decide_eq_true_eq, decide_eq_false_iff_not] at hg; omega) | (have hh := of_decide_eq_true (beq_tt hg); omega) | (have hh := of_decide_eq_true (beq_tt (and_r hg)); omega))
  | exact pu_indexS hT rfl rfl (by first | (refine ev_opt rfl ?_; first | exact hg | exact and_l hg | exact and_l (and_l hg) | exact and_l (and_l (and_l hg))) | exact ev_tmp rfl | exact ev_int (inR_lit rfl) | exact ev_bool | exact ev_str (str_lit rfl) | exact ev_nil | exact ev_func) (by first | (refine ev_opt rfl ?_; first | exact hg | exact and_l hg | exact and_l (and_l hg) | exact and_l (and_l (and_l hg))) | exact ev_tmp rfl | exact ev_int (inR_lit rfl) | exact ev_bool | exact ev_str (str_lit rfl) | exact ev_nil | exact ev_func) (by first | omega | (simp only [Bool.and_eq_true, Bool.or_eq_true, Bool.or_eq_false_iff, Bool.and_eq_false_iff, Bool.not_eq_true', Bool.not_eq_false', beq_iff_eq, decide_eq_true_eq, decide_eq_false_iff_not] at hg; omega) | (have hh := of_decide_eq_true (beq_tt hg); omega) | (have hh := of_decide_eq_true (beq_tt (and_r hg)); omega)) (by first | omega | (simp only [Bool.and_eq_true, Bool.or_eq_true, Bool.or_eq_false_iff, Bool.and_eq_false_iff, Bool.not_eq_true', Bool.not_eq_false', beq_iff_eq, decide_eq_true_eq, decide_eq_false_iff_not] at hg; omega) | (have hh := of_decide_eq_true (beq_tt hg); omega) | (have hh := of_decide_eq_true (beq_tt (and_r hg)); omega))) : Pu P C nt o σ v Ks Bs := hp
theorem zr {xs : List Operand} {us : List SV} (ha : ArgSs P C nt σ xs us := by repeat' (first | exact as_nil | refine as_cons (by first | exact ev_tmp rfl | exact ev_int (inR_lit rfl) | exact ev_bool | exact ev_str (str_lit rfl) | exact ev_nil | exact ev_func) ?_ ?_ | exact ag_one ac_dv | exact ag_one (ac_key' rfl rfl) | exact ag_one (ac_nil' rfl rfl) | exact ag_one ac_nest | exact ag_one ac_arg | refine ag_agg ?_ | exact ag_nil | refine ag_cons ?_ ?_ | exact ac_dv | exact ac_key' rfl rfl | exact ac_nil' rfl rfl | exact ac_nest | exact ac_arg)) : ArgSs P C nt σ xs us := ha
theorem zO (h : Ops P C nt Q all rest ⟨(d, v) :: tm, bx, ks⟩) (hg : o.guard = none := by exact rfl) (hd : o.dst = some d := by exact rfl) (hp : Pu P C nt o ⟨tm, bx, ks⟩ v Ks Bs := by
  exact zp) (hk : (Nat.blt d nt && svOk ⟨tm, bx, ks⟩ v) = true := by exact rfl) : Ops P C nt Q all (o :: rest) ⟨tm, bx, ks⟩ := yO hg hd hp hk h
theorem zG (h : Ops P C nt Q all rest ⟨(d, .opt g v) :: tm, bx, ks⟩) (hd : o.dst = some d := by exact rfl) (hG : Gd P C nt ⟨tm, bx, ks⟩ all o g := by first | exact gd_bool rfl rfl rfl rfl rfl | exact gd_opt rfl rfl rfl rfl rfl) (hp : g = true → Pu P C nt o ⟨tm, bx, ks⟩ v Ks Bs := by
  intro hg
  exact zq hg) (hk : (Nat.blt d nt && svOk ⟨tm, bx, ks⟩ v) = true := by exact rfl) : Ops P C nt Q all (o :: rest) ⟨tm, bx, ks⟩ := o_pureG hG hd hp (Bool.and_eq_true_iff.1 hk).1 (Bool.and_eq_true_iff.1 hk).2 h
theorem zD (i : Nat) (h : OpsD P C nt Q all oB oK hd' (listed.setIfInBounds i true) fuel ⟨(d, v) :: tm, bx, ks⟩) (hi : all[i]? = some o := by exact rfl) (hg : o.guard = none := by exact rfl) (hd : o.dst = some d := by exact rfl) (hp : Pu P C nt o ⟨tm, bx, ks⟩ v Ks Bs := by
  exact zp) (hk : (Nat.blt d nt && svOk ⟨tm, bx, ks⟩ v) = true := by exact rfl) (h1 : (Ks.all fun k => oK.contains k) = true := by exact rfl) (h2 : (Bs.all fun k => oB.contains k) = true := by exact rfl) (ht : takeB .any all hd' listed i = true := by kernel_rfl) : OpsD P C nt Q all oB oK hd' listed (fuel + 1) ⟨tm, bx, ks⟩ := d_take i hi ht hg hd hp h1 h2 (Bool.and_eq_true_iff.1 hk).1 (Bool.and_eq_true_iff.1 hk).2 h
theorem zDG (i : Nat) (h : OpsD P C nt Q all oB oK hd' (listed.setIfInBounds i true) fuel ⟨(d, .opt g v) :: tm, bx, ks⟩) (hi : all[i]? = some o := by exact rfl) (hd : o.dst = some d := by exact rfl) (hG : Gd P C nt ⟨tm, bx, ks⟩ all o g := by first | exact gd_bool rfl rfl rfl rfl rfl | exact gd_opt rfl rfl rfl rfl rfl) (hp : g = true → Pu P C nt o ⟨tm, bx, ks⟩ v Ks Bs := by
  intro hg
  exact zq hg) (hk : (Nat.blt d nt && svOk ⟨tm, bx, ks⟩ v) = true := by exact rfl) (h1 : (Ks.all fun k => oK.contains k) = true := by exact rfl) (h2 : (Bs.all fun k => oB.contains k) = true := by exact rfl) (ht : takeB .any all hd' listed i = true := by kernel_rfl) : OpsD P C nt Q all oB oK hd' listed (fuel + 1) ⟨tm, bx, ks⟩ := d_takeG i hi ht hG hd hp h1 h2 (Bool.and_eq_true_iff.1 hk).1 (Bool.and_eq_true_iff.1 hk).2 h
theorem zDX (i : Nat) (h : OpsD P C nt Q all oB oK hd' (listed.setIfInBounds i true) fuel ⟨(d, v) :: tm, bx, ks⟩) (hi : all[i]? = some o := by exact rfl) (hg : o.guard = none := by exact rfl) (hd : o.dst = some d := by exact rfl) (hp : Pu P C nt o ⟨tm, bx, ks⟩ v Ks Bs := by
  exact zp) (hk : (Nat.blt d nt && svOk ⟨tm, bx, ks⟩ v) = true := by exact rfl) (hx : extO o = true := by exact rfl) (ht : takeXB .any all hd' listed i = true := by kernel_rfl) : OpsD P C nt Q all oB oK hd' listed (fuel + 1) ⟨tm, bx, ks⟩ := d_takeX i hi ht hx hg hd hp (Bool.and_eq_true_iff.1 hk).1 (Bool.and_eq_true_iff.1 hk).2 h
theorem zN {nK : List Nat} (i : Nat) (h : OpsN P C nt Q all oB oK nK hd' (listed.setIfInBounds i true) fuel ⟨(d, v) :: tm, bx, ks⟩) (hi : all[i]? = some o := by exact rfl) (hg : o.guard = none := by exact rfl) (hd : o.dst = some d := by exact rfl) (hp : Pu P C nt o ⟨tm, bx, ks⟩ v Ks Bs := by
  exact zp) (hk : (Nat.blt d nt && svOk ⟨tm, bx, ks⟩ v) = true := by exact rfl) (h1 : (Ks.all fun k => oK.contains k) = true := by exact rfl) (h2 : (Bs.all fun k => oB.contains k) = true := by exact rfl) (ht : takeB .any all hd' listed i = true := by kernel_rfl) : OpsN P C nt Q all oB oK nK hd' listed (fuel + 1) ⟨tm, bx, ks⟩ := n_take i hi ht hg hd hp h1 h2 (Bool.and_eq_true_iff.1 hk).1 (Bool.and_eq_true_iff.1 hk).2 h
theorem zC {f : FuncId} {xs : List Operand} {ats : Array TypeId} {us : List SV} (hc : ∀ (args : Array Value) (w : World), (callFunc f args).run P w = .ok (.enter f args) w) (h : Ops P C nt Q all rest ⟨(d, X) :: tm, bx, ks⟩) (hg : o.guard = none := by exact rfl) (hd : o.dst = some d := by exact rfl) (ho : o.op = .call { callee := .value (.func f), args := xs.toArray, argTypes := ats } := by exact rfl)
  (ha : ArgSs P C nt ⟨tm, bx, ks⟩ xs us := by exact zr) (hf : PFn P f us X) (hp : X.plain = true := by exact rfl) (hn : Nat.blt d nt = true := by exact rfl) : Ops P C nt Q all (o :: rest) ⟨tm, bx, ks⟩ := o_call hg hd ho hc hf ha hp hn h
theorem zK {f : FuncId} {xs : List Operand} {ats : Array TypeId} {us : List SV} {kk : List (Nat × Option KC)} (m : Nat) (hc : ∀ (args : Array Value) (w : World), (callFunc f args).run P w = .ok (.enter f args) w) (h : Ops P C nt Q all rest ⟨(d, v.sh m) :: tm, bx, shK m kk ++ ks⟩) (hg : o.guard = none := by exact rfl) (hd : o.dst = some d := by exact rfl) (ho : o.op = .call { callee := .value (.func f), args := xs.toArray, argTypes := ats } := by exact rfl)
  (ha : ArgSs P C nt ⟨tm, bx, ks⟩ xs us := by exact zr) (hf : KFn P f us v kk) (hn : Nat.blt d nt = true := by exact rfl) (hres : v.retOk = true := by exact rfl) (hfree : (kk.all fun q => (lkk ⟨tm, bx, ks⟩ (m + q.1)).isNone) = true := by exact rfl) : Ops P C nt Q all (o :: rest) ⟨tm, bx, ks⟩ := o_callK m hg hd ho hc hf ha hn hres hfree h
theorem z {p q : Prop} (h : q) (s : q → p := by
  first
  | with_reducible exact yN
  | with_reducible exact yR
  | with_reducible exact ok_seq
  | with_reducible exact then_n
  | with_reducible exact ok_ret
  | with_reducible exact then_r
  | with_reducible exact ok_skip
  | with_reducible exact ok_block
  | with_reducible exact then_e
  | with_reducible exact ok_exit
  | with_reducible exact blk_r
  | with_reducible exact blk_n
  | (with_reducible refine fun h => blk_e ?_ h) <;> exact rfl
  | (with_reducible refine fun h => blk_o ?_ h) <;> exact rfl
  | exact fun h => yA rfl rfl rfl h
  | exact fun h => yX rfl rfl rfl rfl rfl rfl h
  | exact fun h => o_alloc hT rfl rfl rfl rfl rfl rfl h
  | exact fun h => yS hT rfl rfl rfl rfl rfl rfl rfl rfl h
  | exact fun h => zO h
  | exact fun h => zG h
  | exact yN
  | exact fun h => fin1 (res_tmp rfl) (eqB h)
  | exact fun h => fin1 (res_tmp rfl) (eqI h)
  | exact fun h => fin1 (res_tmp rfl) (eqS h)
  | exact fun h => fin1n (res_tmp rfl) (eqB h)
  | exact fun h => fin1n (res_tmp rfl) (eqI h)
  | exact fun h => fin1n (res_tmp rfl) (eqS h)) : p := s h
end
end Go.Proofs.Ytmnimdnmedldgaa

