/-
  Regions that draw their order and write a result variable before the last loads: what is loaded does not lie in that variable.
-/
import Derived.Test.YtbmgommbmhmbgaaSub
namespace Go.Proofs.Ytbmgommbmhmbgaa
open Go.RowKit
set_option linter.unusedVariables false
set_option linter.unusedSimpArgs false

/-- all blocks of wb but b are as they were -/
def SWX (b : Nat) (wb w : World) : Prop := wb.heap.size ≤ w.heap.size ∧ ∀ k, k < wb.heap.size → k ≠ b → w.heap[k]? = wb.heap[k]?
theorem SWX.refl (b : Nat) (w : World) : SWX b w w := ⟨Nat.le_refl _, fun _ _ _ => rfl⟩
theorem SWX.chg {b : Nat} {wb w w' : World} (h : SWX b wb w) (hc : Chg [b] w w') : SWX b wb w' := ⟨Nat.le_trans h.1 hc.size, fun k hk hn => (hc.block k (Nat.lt_of_lt_of_le hk h.1) (by simpa using hn)).trans (h.2 k hk hn)⟩
def storeO (o : Oper) : Bool := match o.op with | .store _ _ _ => true | _ => false
def hdW (ops : Array Oper) (i : Nat) : Bool := (ops.toList.take i).all headO && (match ops[i]? with | some o => headO o || storeO o | none => true)
structure OpsW (P : Program) (C : Ctx) (nt : Nat) (Q : Exit → St → Prop) (all : Array Oper) (oB oK : List Nat) (b : Nat) (listed : Array Bool) (fuel : Nat) (σ : St) : Prop where
  run : ∀ wb L a w, Rel P C nt L σ a w → SWX (L.bb b) wb w → C.w0.heap.size ≤ wb.heap.size → (∀ i ∈ oB, L.bb i < wb.heap.size) → (∀ k ∈ oK, ∀ b ∈ L.fp k, b < wb.heap.size) → wpAnyT P .any all (QQ P C nt Q) (SWX (L.bb b) wb) (hdW all) fuel listed a w
section
variable {P : Program} {C : Ctx} {nt : Nat} {Q : Exit → St → Prop} {all : Array Oper} {oB oK : List Nat} {listed : Array Bool} {fuel b : Nat} {tm : List (Nat × SV)} {bx : List (Nat × TypeId × List CV)} {ks : List (Nat × Option KC)} {o : Oper} {d : Nat} {v X : SV} {Ks Bs : List Nat} {g : Bool} {x y : Operand} {T : TT}
theorem ok_regionW (b : Nat) {id : Nat} {l : List Oper} (hm : P.follows .mixedOrders = true) (hb : (oB.all fun i => (look bx i).isSome) = true) (hk : (oK.all fun k => (lkk ⟨tm, bx, ks⟩ k).isSome) = true)
    (h : OpsW P C nt Q l.toArray oB oK b (Array.replicate l.length false) l.length ⟨tm, bx, ks⟩) : Ok P C nt Q (.region id l.toArray true) ⟨tm, bx, ks⟩ := Ok.mk fun L a w hr => by
  have hr' := rel_drew hr
  refine T_begin (SWX (L.bb b) w.drew) (hdW l.toArray) hm ?_
  have := h.run w.drew L a w.drew hr' (SWX.refl _ _) hr'.chg.size (fun i hi => ?_) (fun k hk' b hb' => ?_)
  · simpa using this
  · obtain ⟨x, hx⟩ := Option.isSome_iff_exists.1 (List.all_eq_true.1 hb i hi)
    exact hr'.bx_lt hx
  · obtain ⟨c, hc⟩ := Option.isSome_iff_exists.1 (List.all_eq_true.1 hk k hk')
    exact hr'.k_lt hc b hb'
theorem w_take (i : Nat) (hi : all[i]? = some o) (ht : takeB .any all (hdW all) listed i = true) (hg : o.guard = none) (hd : o.dst = some d) (hp : Pu P C nt o ⟨tm, bx, ks⟩ v Ks Bs) (h1 : (Ks.all fun k => oK.contains k && (lkk ⟨tm, bx, ks⟩ k).isSome) = true) (h2 : (Bs.all fun k => oB.contains k && (!(Nat.beq k b) && (look bx k).isSome)) = true) (h3 : (look bx b).isSome = true) (hn : Nat.blt d nt = true) (hk : svOk ⟨tm, bx, ks⟩ v = true)
    (h : OpsW P C nt Q all oB oK b (listed.setIfInBounds i true) fuel ⟨(d, v) :: tm, bx, ks⟩) : OpsW P C nt Q all oB oK b listed (fuel + 1) ⟨tm, bx, ks⟩ := ⟨fun wb L a w hr hs hw hB hK => by
  obtain ⟨r, q3, q4⟩ := hp.run L a w hr
  obtain ⟨xb, hxb⟩ := Option.isSome_iff_exists.1 h3
  have hy : ∀ w', SWX (L.bb b) wb w' → (execOp a.eval o).run P w' = .ok (.value r) w' := fun w' hs' => q4 w' fun z _ hu => by
    have hz : z < wb.heap.size ∧ z ≠ L.bb b := by
      rcases hu with (⟨h5, h6⟩ | ⟨k, hk, hb⟩) | ⟨i, hi, rfl⟩
      · refine ⟨by omega, fun e => ?_⟩
        rcases hr.b1 b xb hxb with g | g
        · omega
        · exact h6 (by rw [e]; exact g)
      · have := List.all_eq_true.1 h1 k hk
        simp only [Bool.and_eq_true, List.contains_iff_mem] at this
        obtain ⟨c, hc⟩ := Option.isSome_iff_exists.1 this.2
        exact ⟨hK k this.1 z hb, fun e => hr.bk b k xb c hxb hc (by rw [← e]; exact hb)⟩
      · have := List.all_eq_true.1 h2 i hi
        simp only [Bool.and_eq_true, List.contains_iff_mem, Bool.not_eq_true'] at this
        obtain ⟨c, hc⟩ := Option.isSome_iff_exists.1 this.2.2
        exact ⟨hB i this.1, hr.bb i b c xb hc hxb (Nat.ne_of_beq_eq_false this.2.1)⟩
    rw [hs'.2 z hz.1 hz.2, hs.2 z hz.1 hz.2]
  refine T_take i (v := r) hi ht (fun _ _ _ h => h) hs (.inl ⟨by simp [Region.wanted, hg], hy⟩) ?_
  rw [hd]
  exact h.run wb L _ w (hr.put (by simpa [Nat.blt_eq] using hn) q3 (svOk_spec hk).1 (svOk_spec hk).2) hs hw hB hK⟩
/-- the store to the variable -/
theorem w_store (i : Nat) {t j t' sz by_ : Nat} {zc cs : List CV} {p : Bool × List CV} (hi : all[i]? = some o) (ht : (Region.ready .any all listed == [i]) = true) (hg : o.guard = none) (hT : TTOk P T) (ho : o.op = .store t x y) (hd : o.dst = none) (hte : look T.el t = some (sz, by_, zc)) (hx : Ev P C nt ⟨tm, bx, ks⟩ x (.box b j)) (hy : Ev P C nt ⟨tm, bx, ks⟩ y v) (hp : v.part = some p) (hk : svOk ⟨tm, bx, ks⟩ v = true)
    (hb : look bx b = some (t', cs)) (hl : p.2.length = sz) (hle : Nat.ble (j + sz) cs.length = true) (hkc : (cs.flatMap CV.keys).all (fun k => (lkk ⟨tm, bx, ks⟩ k).isSome) = true)
    (h : OpsW P C nt Q all oB oK b (listed.setIfInBounds i true) fuel ⟨tm, (b, t', setR j p.2 cs) :: bx, ks⟩) : OpsW P C nt Q all oB oK b listed (fuel + 1) ⟨tm, bx, ks⟩ := ⟨fun wb L a w hr hs hw hB hK => by
  refine T_one i hi hg ht fun K hK' => ?_
  obtain ⟨us, h1, h2, h3⟩ := sv_cells hr hp hk (hy.run L a w hr)
  have h4 := hx.run L a w hr
  simp only [SVr] at h4
  obtain ⟨vs, h5, h6⟩ := hr.bx b t' cs hb
  obtain ⟨inf, z, g1, g2, _⟩ := hT.el t sz by_ zc hte
  have hrun := run_store_row (z := z) g1 g2 h1 (by rw [cvL_len h2]; exact hl) h3 h5 (off := j) (by rw [cvL_len h6]; simpa [Nat.ble_eq] using hle)
  unfold Oper.wp execOp
  simp only [ho, h4, Sem.run_bind, hrun, Result.andThen_ok, Sem.run_pure, Oper.upon, hd, Act.put]
  have hs' := hs.chg (chg_setRow w (L.bb b) (setR j us vs).toArray)
  refine hK' _ _ (fun _ => hs') (h.run wb L _ _ (hr.setbox hb (chg_setRow _ _ _) (setRow_heap _ _ _ _ _ _ h5) (cvL_setR j h6 h2) ?_) hs' hw hB hK)
  intro k hm
  simp only [setR, List.flatMap_append, List.mem_append, or_assoc] at hm
  simp only [List.all_eq_true] at hkc
  rcases hm with hm | hm | hm
  · exact hkc k (by
      obtain ⟨c, hc, hk'⟩ := List.mem_flatMap.1 hm
      exact List.mem_flatMap.2 ⟨c, List.mem_of_mem_take hc, hk'⟩)
  · rw [part_keys hp] at hm; exact (svOk_spec hk).1 k hm
  · exact hkc k (by
      obtain ⟨c, hc, hk'⟩ := List.mem_flatMap.1 hm
      exact List.mem_flatMap.2 ⟨c, List.mem_of_mem_drop hc, hk'⟩)⟩
/-- the rest comes up one after the other -/
theorem w_chain (is : List Nat) (hm : (is.all fun i => (all[i]?).isSome) = true) (hf : Nat.ble is.length fuel = true) (hc : chainB .any all (hdW all) is listed = true) (h : Ops P C nt Q all (is.filterMap fun i => all[i]?) ⟨tm, bx, ks⟩) : OpsW P C nt Q all oB oK b listed fuel ⟨tm, bx, ks⟩ := ⟨fun wb L a w hr _ _ _ _ =>
  T_chain is _ listed fuel a w (chain_map hm) (by simpa [Nat.ble_eq] using hf) hc (h.run L a w hr)⟩
/-- a key's content in other words -/
theorem weak_eq {k : Nat} {c c' : KC} (hk : lkk ⟨tm, bx, ks⟩ k = some c) (e : c = c') (ho : (⟨tm, bx, ks⟩ : St).okB = true) : Weak P C nt ⟨tm, bx, ks⟩ ⟨tm, bx, (k, some c') :: ks⟩ := Weak.mk fun L a w hr => by
  subst e
  have hl : ∀ i q, lkk ⟨tm, bx, (k, some c) :: ks⟩ i = some q → lkk ⟨tm, bx, ks⟩ i = some q := fun i q h => by
    simp only [lkk, look_cons] at h
    split at h
    · rename_i e; simp only [Option.join_some, Option.some.injEq] at h; rw [e, ← h]; exact hk
    · exact h
  refine ⟨L, hr.sub' (fun _ _ h => h) (fun _ _ h => h) hl ?_⟩
  simp only [St.okB, Bool.and_eq_true, List.all_eq_true] at ho ⊢
  refine ⟨fun i hi => ?_, ho.2⟩
  have := ho.1 i hi
  simp only [lkk, look_cons]
  split
  · rfl
  · exact this
/-- a key that is loaded, taken as a view -/
theorem pu_view {σ : St} {k : Nat} {c : KC} {dd : DV} (h : Pu P C nt o σ (.one (.key k)) Ks Bs) (hk : lkk σ k = some c) (hd : DV.sl c.e c.sz c.n c.cs = dd) : Pu P C nt o σ (.one (.dv [k] dd)) Ks Bs := Pu.mk fun L a w hr => by
  subst hd
  obtain ⟨r, h1, h2⟩ := h.run L a w hr
  simp only [SVr, CVr] at h1
  refine ⟨r, ?_, h2⟩
  simp only [SVr, CVr]
  rw [h1]
  exact own_lay _ _ _ (hr.ks k c hk).1 (fun b hb => .inr ⟨k, by simp, hb⟩)
/-- a slice of one element is written out, the order being drawn -/
theorem d_build1 {oB oK : List Nat} {hd' : Nat → Bool} {tm : List (Nat × SV)} {bx : List (Nat × TypeId × List CV)} {ks : List (Nat × Option KC)} (i : Nat) (hT : TTOk P T) {t e sz by_ d k : Nat} {zc : List CV} {v : SV} {p : Bool × List CV} {ds : List DV} {js : List Nat} (hi : all[i]? = some o) (ht' : (Region.ready .any all listed == [i]) = true) (hg : o.guard = none) (ho : o.op = .buildSlice t 1 #[(0, x)]) (hd : o.dst = some d) (hn : Nat.blt d nt = true) (ht : look T.sl t = some e) (he : look T.el e = some (sz, by_, zc)) (hl0 : zc.length = sz) (hsz : Nat.blt 0 sz = true) (hsm : Nat.ble sz 16777216 = true)
    (hx : Ev P C nt ⟨tm, bx, ks⟩ x v) (hp : v.part = some p) (hkv : svOk ⟨tm, bx, ks⟩ v = true) (how : OwCs ⟨tm, bx, ks⟩ p.2 ds js) (hnj : js.Nodup) (hkj : k ∉ js) (hl : p.2.length = sz) (hk : lkk ⟨tm, bx, ks⟩ k = none) (hnk : k ∉ oK)
    (h : OpsD P C nt Q all oB oK hd' (listed.setIfInBounds i true) fuel ⟨(d, .one (.key k)) :: killT (k :: js) (k :: js) tm, killB (k :: js) (k :: js) bx, (k, some ⟨false, e, sz, 1, ds⟩) :: ((js.map fun j => (j, none)) ++ (k, some ⟨false, e, sz, 0, []⟩) :: ks)⟩) : OpsD P C nt Q all oB oK hd' listed (fuel + 1) ⟨tm, bx, ks⟩ := ⟨fun wb L a w hr hs hw hB hK => by
  refine T_one i hi hg ht' fun K hK' => ?_
  have hpos : 0 < sz := by simpa [Nat.blt_eq] using hsz
  obtain ⟨us, h1, h2, h3⟩ := sv_cells hr hp hkv (hx.run L a w hr)
  have hus : us.length = sz := by rw [cvL_len h2]; exact hl
  obtain ⟨o1, o2, o3⟩ := owCs_own hr how h2
  have hchg : Chg [] w (w.alloc (.cells us.toArray e)) := (Chg.refl [] w).alloc _
  have hr1 := hr.newkey (k := k) (c := ⟨false, e, sz, 0, []⟩) (v := .slice none 0 0) (f := []) hk (own_nil w e sz hpos) rfl (by simp) (by simp) (by simp) (by simp)
  have hlj : ∀ j ∈ js, (lkk { (⟨tm, bx, ks⟩ : St) with ks := (k, some ⟨false, e, sz, 0, []⟩) :: ks } j).isSome = true := fun j hj => by
    have hjk : j ≠ k := fun e' => hkj (by rw [← e']; exact hj)
    have := o2 j hj
    simp only [lkk, look_cons, if_neg hjk] at this ⊢
    exact this
  have hlt : ∀ b ∈ js.flatMap L.fp, b < w.heap.size := ownL_lt _ _ _ o1
  have o1' : OwnL (w.alloc (.cells us.toArray e)) ds us (js.flatMap L.fp) := ownL_keep _ _ _ o1 (fun b hb => hchg.block b (hlt b hb) (by simp))
  have hset := hr1.setkey (k := k) (c := ⟨false, e, sz, 0, []⟩) (c' := ⟨false, e, sz, 1, ds⟩) (js := js) (same := false) (w' := w.alloc (.cells us.toArray e)) (v' := .slice (some ⟨w.heap.size, 0, none⟩) 1 1) (f' := w.heap.size :: js.flatMap L.fp)
    (by simp [lkk, look_cons]) hkj (by simpa using hchg)
    (by
      unfold Own
      refine ⟨us, js.flatMap L.fp, rfl, hpos, by rw [o3, hl, Nat.one_mul], rowE_of (hT.lt e _ he) ⟨by rw [hus, Nat.one_mul], .inr ⟨w.heap.size, 1, us.toArray, rfl, Nat.zero_le _, alloc_last w _, Nat.le_refl _, by simp [maxLen], by simp [hus], by rw [Nat.one_mul, ← hus]; simp⟩⟩, o1'⟩)
    (by
      rw [List.nodup_cons]
      exact ⟨fun hm => absurd (hlt _ hm) (by omega), nodup_flat hr hnj o2⟩)
    (fun b hb => by
      rcases List.mem_cons.1 hb with hb | hb
      · exact .inr (.inr (by omega))
      · obtain ⟨j, hj, hb'⟩ := List.mem_flatMap.1 hb
        have hjk : j ≠ k := fun e' => hkj (by rw [← e']; exact hj)
        exact .inr (.inl ⟨j, hj, by simpa [hjk] using hb'⟩)) hlj (by simp) (by simp)
  refine wp_new (v := .slice (some ⟨w.heap.size, 0, none⟩) 1 1) (w' := w.alloc (.cells us.toArray e)) ?_ ?_
  · unfold execOp
    simp only [ho, List.map_toArray, List.map_cons, List.map_nil, run_build1 (P := P) (w := w) hT ht he hl0 hpos (by simpa [Nat.ble_eq] using hsm) h1 hus, Sem.run_bind, Result.andThen_ok, Sem.run_pure]
  · rw [hd]
    refine hK' _ _ (fun _ => hs.chg hchg) (h.run wb _ _ _ (hset.put (v := .one (.key k)) (r := .slice (some ⟨w.heap.size, 0, none⟩) 1 1) (by simpa [Nat.blt_eq] using hn) (by simp [SVr, CVr]) (by simp [SV.keys, CV.keys, mut_key]) (by simp [SV.boxes])) (hs.chg hchg) hw hB fun z hz b hb => ?_)
    have hzk : z ≠ k := fun e' => hnk (by rw [← e']; exact hz)
    simp only [if_neg hzk] at hb
    exact hK z hz b hb⟩
end
end Go.Proofs.Ytbmgommbmhmbgaa
