/-
  Regions that draw their order and write a result variable before the last loads: what is loaded does not lie in that variable.
-/
import Derived.Test.YtbmgommbmhmbgaaSub
namespace Go.Proofs.Ytbmgommbmhmbgaa
open Go.RowKit
set_option linter.unusedVariables false
set_option linter.unusedSimpArgs false

/-- all blocks of wb but b are as they were -/
def SWX (b : Nat) (wb w : World) : Prop := wb.heap.size ≤ w.heap.size ∧ ∀ k, k < wb.heap.size → k ≠ b → w.heap[k]? = wb.heap[k]?
theorem SWX.refl (b : Nat) (w : World) : SWX b w w := ⟨Nat.le_refl _, fun _ _ _ => rfl⟩
theorem SWX.chg {b : Nat} {wb w w' : World} (h : SWX b wb w) (hc : Chg [b] w w') : SWX b wb w' := ⟨Nat.le_trans h.1 hc.size, fun k hk hn => (hc.block k (Nat.lt_of_lt_of_le hk h.1) (by simpa using hn)).trans (h.2 k hk hn)⟩
def storeO (o : Oper) : Bool := match o.op with | .store _ _ _ => true | _ => false
def hdW (ops : Array Oper) (i : Nat) : Bool := (ops.toList.take i).all headO && (match ops[i]? with | some o => headO o || storeO o | none => true)
structure OpsW (P : Program) (C : Ctx) (nt : Nat) (Q : Exit → St → Prop) (all : Array Oper) (oB oK : List Nat) (b : Nat) (listed : Array Bool) (fuel : Nat) (σ : St) : Prop where
  run : ∀ wb L a w, Rel P C nt L σ a w → SWX (L.bb b) wb w → C.w0.heap.size ≤ wb.heap.size → (∀ i ∈ oB, L.bb i < wb.heap.size) → (∀ k ∈ oK, ∀ b ∈ L.fp k, b < wb.heap.size) → wpAnyT P .any all (QQ P C nt Q) (SWX (L.bb b) wb) (hdW all) fuel listed a w
section
variable {P : Program} {C : Ctx} {nt : Nat} {Q : Exit → St → Prop} {all : Array Oper} {oB oK : List Nat} {listed : Array Bool} {fuel b : Nat} {tm : List (Nat × SV)} {bx : List (Nat × TypeId × List CV)} {ks : List (Nat × Option KC)} {o : Oper} {d : Nat} {v X : SV} {Ks Bs : List Nat} {g : Bool} {x y : Operand} {T : TT}
theorem ok_regionW (b : Nat) {id : Nat} {l : List Oper} (hm : P.follows .mixedOrders = true) (hb : (oB.all fun i => (look bx i).isSome) = true) (hk : (oK.all fun k => (lkk ⟨tm, bx, ks⟩ k).isSome) = true)
    (h : OpsW P C nt Q l.toArray oB oK b (Array.replicate l.length false) l.length ⟨tm, bx, ks⟩) : Ok P C nt Q (.region id l.toArray true) ⟨tm, bx, ks⟩ := Ok.mk fun L a w hr => by
  have hr' := rel_drew hr
  refine T_begin (SWX (L.bb b) w.drew) (hdW l.toArray) hm ?_
  have := h.run w.drew L a w.drew hr' (SWX.refl _ _) hr'.chg.size (fun i hi => ?_) (fun k hk' b hb' => ?_)
  · simpa using this
  · obtain ⟨x, hx⟩ := Option.isSome_iff_exists.1 (List.all_eq_true.1 hb i hi)
    exact hr'.bx_lt hx
  · obtain ⟨c, hc⟩ := Option.isSome_iff_exists.1 (List.all_eq_true.1 hk k hk')
    exact hr'.k_lt hc b hb'
theorem w_take (i : Nat) (hi : all[i]? = some o) (ht : takeB .any all (hdW all) listed i = true) (hg : o.guard = none) (hd : o.dst = some d) (hp : Pu P C nt o ⟨tm, bx, ks⟩ v Ks Bs) (h1 : (Ks.all fun k => oK.contains k && (lkk ⟨tm, bx, ks⟩ k).isSome) = true) (h2 : (Bs.all fun k => oB.contains k && (!(Nat.beq k b) && (look bx k).isSome)) = true) (h3 : (look bx b).isSome = true) (hn : Nat.blt d nt = true) (hk : svOk ⟨tm, bx, ks⟩ v = true)
    (h : OpsW P C nt Q all oB oK b (listed.setIfInBounds i true) fuel ⟨(d, v) :: tm, bx, ks⟩) : OpsW P C nt Q all oB oK b listed (fuel + 1) ⟨tm, bx, ks⟩ := ⟨fun wb L a w hr hs hw hB hK => by
  obtain ⟨r, q3, q4⟩ := hp.run L a w hr
  obtain ⟨xb, hxb⟩ := Option.isSome_iff_exists.1 h3
  have hy : ∀ w', SWX (L.bb b) wb w' → (execOp a.eval o).run P w' = .ok (.value r) w' := fun w' hs' => q4 w' fun z _ hu => by
    have hz : z < wb.heap.size ∧ z ≠ L.bb b := by
      rcases hu with (⟨h5, h6⟩ | ⟨k, hk, hb⟩) | ⟨i, hi, rfl⟩
      · refine ⟨by omega, fun e => ?_⟩
        rcases hr.b1 b xb hxb with g | g
        · omega
        · exact h6 (by rw [e]; exact g)
      · have := List.all_eq_true.1 h1 k hk
        simp only [Bool.and_eq_true, List.contains_iff_mem] at this
        obtain ⟨c, hc⟩ := Option.isSome_iff_exists.1 this.2
        exact ⟨hK k this.1 z hb, fun e => hr.bk b k xb c hxb hc (by rw [← e]; exact hb)⟩
      · have := List.all_eq_true.1 h2 i hi
        simp only [Bool.and_eq_true, List.contains_iff_mem, Bool.not_eq_true'] at this
        obtain ⟨c, hc⟩ := Option.isSome_iff_exists.1 this.2.2
        exact ⟨hB i this.1, hr.bb i b c xb hc hxb (Nat.ne_of_beq_eq_false this.2.1)⟩
    rw [hs'.2 z hz.1 hz.2, hs.2 z hz.1 hz.2]
  refine T_take i (v := r) hi ht (fun _ _ _ h => h) hs (.inl ⟨by simp [Region.wanted, hg], hy⟩) ?_
  rw [hd]
  exact h.run wb L _ w (hr.put (by simpa [Nat.blt_eq] using hn) q3 (svOk_spec hk).1 (svOk_spec hk).2) hs hw hB hK⟩
/-- the store to the variable -/
theorem w_store (i : Nat) {t j t' sz by_ : Nat} {zc cs : List CV} {p : Bool × List CV} (hi : all[i]? = some o) (ht : (Region.ready .any all listed == [i]) = true) (hg : o.guard = none) (hT : TTOk P T) (ho : o.op = .store t x y) (hd : o.dst = none) (hte : look T.el t = some (sz, by_, zc)) (hx : Ev P C nt ⟨tm, bx, ks⟩ x (.box b j)) (hy : Ev P C nt ⟨tm, bx, ks⟩ y v) (hp : v.part = some p) (hk : svOk ⟨tm, bx, ks⟩ v = true)
    (hb : look bx b = some (t', cs)) (hl : p.2.length = sz) (hle : Nat.ble (j + sz) cs.length = true) (hkc : (cs.flatMap CV.keys).all (fun k => (lkk ⟨tm, bx, ks⟩ k).isSome) = true)
    (h : OpsW P C nt Q all oB oK b (listed.setIfInBounds i true) fuel ⟨tm, (b, t', setR j p.2 cs) :: bx, ks⟩) : OpsW P C nt Q all oB oK b listed (fuel + 1) ⟨tm, bx, ks⟩ := ⟨fun wb L a w hr hs hw hB hK => by
  refine T_one i hi hg ht fun K hK' => ?_
  obtain ⟨us, h1, h2, h3⟩ := sv_cells hr hp hk (hy.run L a w hr)
  have h4 := hx.run L a w hr
  simp only [SVr] at h4
  obtain ⟨vs, h5, h6⟩ := hr.bx b t' cs hb
  obtain ⟨inf, z, g1, g2, _⟩ := hT.el t sz by_ zc hte
  have hrun := run_store_row (z := z) g1 g2 h1 (by rw [cvL_len h2]; exact hl) h3 h5 (off := j) (by rw [cvL_len h6]; simpa [Nat.ble_eq] using hle)
  unfold Oper.wp execOp
  simp only [ho, h4, Sem.run_bind, hrun, Result.andThen_ok, Sem.run_pure, Oper.upon, hd, Act.put]
  have hs' := hs.chg (chg_setRow w (L.bb b) (setR j us vs).toArray)
  refine hK' _ _ (fun _ => hs') (h.run wb L _ _ (hr.setbox hb (chg_setRow _ _ _) (setRow_heap _ _ _ _ _ _ h5) (cvL_setR j h6 h2) ?_) hs' hw hB hK)
  intro k hm
  simp only [setR, List.flatMap_append, List.mem_append, or_assoc] at hm
  simp only [List.all_eq_true] at hkc
  rcases hm with hm | hm | hm
  · exact hkc k (by
      obtain ⟨c, hc, hk'⟩ := List.mem_flatMap.1 hm
      exact List.mem_flatMap.2 ⟨c, List.mem_of_mem_take hc, hk'⟩)
  · rw [part_keys hp] at hm; exact (svOk_spec hk).1 k hm
  · exact hkc k (by
      obtain ⟨c, hc, hk'⟩ := List.mem_flatMap.1 hm
      exact List.mem_flatMap.2 ⟨c, List.mem_of_mem_drop hc, hk'⟩)⟩
/-- the rest comes up one after the other -/
theorem w_chain (is : List Nat) (hm : (is.all fun i => (all[i]?).isSome) = true) (hf : Nat.ble is.length fuel = true) (hc : chainB .any all (hdW all) is listed = true) (h : Ops P C nt Q all (is.filterMap fun i => all[i]?) ⟨tm, bx, ks⟩) : OpsW P C nt Q all oB oK b listed fuel ⟨tm, bx, ks⟩ := ⟨fun wb L a w hr _ _ _ _ =>
  T_chain is _ listed fuel a w (chain_map hm) (by simpa [Nat.ble_eq] using hf) hc (h.run L a w hr)⟩
end
end Go.Proofs.Ytbmgommbmhmbgaa
