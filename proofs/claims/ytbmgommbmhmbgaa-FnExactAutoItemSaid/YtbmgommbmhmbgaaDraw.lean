/-
  The rules of the abstract logic for regions that draw their order: what only looks is taken first, calls come up one by one.
-/
import Derived.Test.YtbmgommbmhmbgaaRule
namespace Go.Proofs.Ytbmgommbmhmbgaa
open Go.RowKit

/-- all blocks of wb are as they were -/
def SW (wb w : World) : Prop := wb.heap.size ≤ w.heap.size ∧ ∀ b, b < wb.heap.size → w.heap[b]? = wb.heap[b]?
theorem SW.refl (w : World) : SW w w := ⟨Nat.le_refl _, fun _ _ => rfl⟩
theorem SW.chg {wb w w' : World} (h : SW wb w) (hc : Chg [] w w') : SW wb w' := ⟨Nat.le_trans h.1 hc.size, fun b hb => (hc.block b (Nat.lt_of_lt_of_le hb h.1) (by simp)).trans (h.2 b hb)⟩
def headO (o : Oper) : Bool := match o.op with | .store _ _ _ => false | .call { callee := .builtin .append, .. } => false | _ => true
/-- an extract behind which only extracts, variables and stores stand: it may come up behind a store -/
def tailO (o : Oper) : Bool := match o.op with | .store _ _ _ | .extract _ _ | .alloc _ | .assign _ => true | _ => false
def extO (o : Oper) : Bool := match o.op with | .extract _ _ => true | _ => false
def tailX (ops : Array Oper) (i : Nat) : Bool := (ops.toList.drop i).all tailO && (ops.toList.drop i).any (fun o => !(headO o)) && (match ops[i]? with | some o => extO o | none => false)
def hdF (ops : Array Oper) (i : Nat) : Bool := (ops.toList.take (i + 1)).all headO && !(tailX ops i)
theorem ext_any {P : Program} {o : Oper} {e : Operand → Value} {r : Value} {w : World} (ho : extO o = true) (h : (execOp e o).run P w = .ok (.value r) w) (w' : World) : (execOp e o).run P w' = .ok (.value r) w' := by
  unfold extO at ho
  split at ho
  · rename_i x i hx
    unfold execOp at h ⊢
    simp only [hx, Instr.extract] at h ⊢
    revert h
    cases e x <;> simp
    rename_i vs
    intro h
    revert h
    split <;> simp
  · cases ho
structure OpsD (P : Program) (C : Ctx) (nt : Nat) (Q : Exit → St → Prop) (all : Array Oper) (oB oK : List Nat) (hd : Nat → Bool) (listed : Array Bool) (fuel : Nat) (σ : St) : Prop where
  run : ∀ wb L a w, Rel P C nt L σ a w → SW wb w → C.w0.heap.size ≤ wb.heap.size → (∀ i ∈ oB, L.bb i < wb.heap.size) → (∀ k ∈ oK, ∀ b ∈ L.fp k, b < wb.heap.size) → wpAnyT P .any all (QQ P C nt Q) (SW wb) hd fuel listed a w
section
variable {P : Program} {C : Ctx} {nt : Nat} {Q : Exit → St → Prop} {all : Array Oper} {oB oK : List Nat} {listed : Array Bool} {fuel : Nat} {hd' : Nat → Bool} {tm : List (Nat × SV)} {bx : List (Nat × TypeId × List CV)} {ks : List (Nat × Option KC)} {o : Oper} {d : Nat} {v X : SV} {Ks Bs : List Nat} {g : Bool}
theorem rel_drew {L : Lyt} {σ : St} {a : Act} {w : World} (h : Rel P C nt L σ a w) : Rel P C nt L σ a w.drew := h.grow ((Chg.refl [] w).drew)
theorem ok_regionD {id : Nat} {l : List Oper} (hm : P.follows .mixedOrders = true) (hb : (oB.all fun i => (look bx i).isSome) = true) (hk : (oK.all fun k => (lkk ⟨tm, bx, ks⟩ k).isSome) = true)
    (h : OpsD P C nt Q l.toArray oB oK (hdF l.toArray) (Array.replicate l.length false) l.length ⟨tm, bx, ks⟩) : Ok P C nt Q (.region id l.toArray true) ⟨tm, bx, ks⟩ := Ok.mk fun L a w hr => by
  have hr' := rel_drew hr
  refine T_begin (SW w.drew) (hdF l.toArray) hm ?_
  have := h.run w.drew L a w.drew hr' (SW.refl _) hr'.chg.size (fun i hi => ?_) (fun k hk' b hb' => ?_)
  · simpa using this
  · obtain ⟨x, hx⟩ := Option.isSome_iff_exists.1 (List.all_eq_true.1 hb i hi)
    exact hr'.bx_lt hx
  · obtain ⟨c, hc⟩ := Option.isSome_iff_exists.1 (List.all_eq_true.1 hk k hk')
    exact hr'.k_lt hc b hb'
/-- the head: the operations hs -/
theorem ok_regionH (hs : List Nat) {id : Nat} {l : List Oper} (hm : P.follows .mixedOrders = true) (hb : (oB.all fun i => (look bx i).isSome) = true) (hk : (oK.all fun k => (lkk ⟨tm, bx, ks⟩ k).isSome) = true)
    (h : OpsD P C nt Q l.toArray oB oK (fun i => hs.contains i) (Array.replicate l.length false) l.length ⟨tm, bx, ks⟩) : Ok P C nt Q (.region id l.toArray true) ⟨tm, bx, ks⟩ := Ok.mk fun L a w hr => by
  have hr' := rel_drew hr
  refine T_begin (SW w.drew) (fun i => hs.contains i) hm ?_
  have := h.run w.drew L a w.drew hr' (SW.refl _) hr'.chg.size (fun i hi => ?_) (fun k hk' b hb' => ?_)
  · simpa using this
  · obtain ⟨x, hx⟩ := Option.isSome_iff_exists.1 (List.all_eq_true.1 hb i hi)
    exact hr'.bx_lt hx
  · obtain ⟨c, hc⟩ := Option.isSome_iff_exists.1 (List.all_eq_true.1 hk k hk')
    exact hr'.k_lt hc b hb'
theorem pu_yields {L : Lyt} {σ : St} {a : Act} {w wb : World} (hr : Rel P C nt L σ a w) (hs : SW wb w) (hw : C.w0.heap.size ≤ wb.heap.size) (hB : ∀ i ∈ oB, L.bb i < wb.heap.size) (hK : ∀ k ∈ oK, ∀ b ∈ L.fp k, b < wb.heap.size) (hp : Pu P C nt o σ v Ks Bs)
    (h1 : (Ks.all fun k => oK.contains k) = true) (h2 : (Bs.all fun k => oB.contains k) = true) : ∃ r, SVr P C L w v r ∧ ∀ w', SW wb w' → (execOp a.eval o).run P w' = .ok (.value r) w' := by
  obtain ⟨r, h3, h4⟩ := hp.run L a w hr
  refine ⟨r, h3, fun w' hs' => h4 w' fun b _ hu => ?_⟩
  have hlt : b < wb.heap.size := by
    rcases hu with (⟨h5, _⟩ | ⟨k, hk, hb⟩) | ⟨i, hi, rfl⟩
    · omega
    · exact hK k (by simpa using List.all_eq_true.1 h1 k hk) b hb
    · exact hB i (by simpa using List.all_eq_true.1 h2 i hi)
  rw [hs'.2 b hlt, hs.2 b hlt]
theorem qq_panic {c : List PanicEntry} {a : Act} {w : World} {dst : Option Tmp} {r : Value} : QQ P C nt Q (.panic c) (a.put dst r) w → QQ P C nt Q (.panic c) a w := fun h => h
theorem d_take (i : Nat) (hi : all[i]? = some o) (ht : takeB .any all hd' listed i = true) (hg : o.guard = none) (hd : o.dst = some d) (hp : Pu P C nt o ⟨tm, bx, ks⟩ v Ks Bs) (h1 : (Ks.all fun k => oK.contains k) = true) (h2 : (Bs.all fun k => oB.contains k) = true) (hn : Nat.blt d nt = true) (hk : svOk ⟨tm, bx, ks⟩ v = true)
    (h : OpsD P C nt Q all oB oK hd' (listed.setIfInBounds i true) fuel ⟨(d, v) :: tm, bx, ks⟩) : OpsD P C nt Q all oB oK hd' listed (fuel + 1) ⟨tm, bx, ks⟩ := ⟨fun wb L a w hr hs hw hB hK => by
  obtain ⟨r, h3, h4⟩ := pu_yields hr hs hw hB hK hp h1 h2
  refine T_take i (v := r) hi ht (fun _ _ _ h => h) hs (.inl ⟨by simp [Region.wanted, hg], h4⟩) ?_
  rw [hd]
  exact h.run wb L _ w (hr.put (by simpa [Nat.blt_eq] using hn) h3 (svOk_spec hk).1 (svOk_spec hk).2) hs hw hB hK⟩
theorem d_takeX (i : Nat) (hi : all[i]? = some o) (ht : takeXB .any all hd' listed i = true) (hx : extO o = true) (hg : o.guard = none) (hd : o.dst = some d) (hp : Pu P C nt o ⟨tm, bx, ks⟩ v Ks Bs) (hn : Nat.blt d nt = true) (hk : svOk ⟨tm, bx, ks⟩ v = true)
    (h : OpsD P C nt Q all oB oK hd' (listed.setIfInBounds i true) fuel ⟨(d, v) :: tm, bx, ks⟩) : OpsD P C nt Q all oB oK hd' listed (fuel + 1) ⟨tm, bx, ks⟩ := ⟨fun wb L a w hr hs hw hB hK => by
  obtain ⟨r, h3, h4⟩ := hp.run L a w hr
  refine T_takeX i (v := r) hi ht (fun _ _ _ h => h) (.inl ⟨by simp [Region.wanted, hg], fun w' _ => ext_any hx (h4 w fun _ _ _ => rfl) w'⟩) ?_
  rw [hd]
  exact h.run wb L _ w (hr.put (by simpa [Nat.blt_eq] using hn) h3 (svOk_spec hk).1 (svOk_spec hk).2) hs hw hB hK⟩
theorem d_takeG (i : Nat) (hi : all[i]? = some o) (ht : takeB .any all hd' listed i = true) (hG : Gd P C nt ⟨tm, bx, ks⟩ all o g) (hd : o.dst = some d) (hp : g = true → Pu P C nt o ⟨tm, bx, ks⟩ v Ks Bs) (h1 : (Ks.all fun k => oK.contains k) = true) (h2 : (Bs.all fun k => oB.contains k) = true) (hn : Nat.blt d nt = true) (hk : svOk ⟨tm, bx, ks⟩ v = true)
    (h : OpsD P C nt Q all oB oK hd' (listed.setIfInBounds i true) fuel ⟨(d, .opt g v) :: tm, bx, ks⟩) : OpsD P C nt Q all oB oK hd' listed (fuel + 1) ⟨tm, bx, ks⟩ := ⟨fun wb L a w hr hs hw hB hK => by
  have hG' := hG.run L a w hr
  have hd' : d < nt := by simpa [Nat.blt_eq] using hn
  cases hgv : g with
  | true =>
    obtain ⟨r, h3, h4⟩ := pu_yields hr hs hw hB hK (hp hgv) h1 h2
    refine T_take i (v := r) hi ht (fun _ _ _ h => h) hs (.inl ⟨by rw [hG', hgv], h4⟩) ?_
    rw [hd]
    exact h.run wb L _ w (hr.put hd' (by simp only [SVr]; exact ⟨fun _ => h3, fun e => by rw [hgv] at e; cases e⟩) (svOk_spec hk).1 (svOk_spec hk).2) hs hw hB hK
  | false =>
    refine T_take i (v := undef) hi ht (fun _ _ _ h => h) hs (.inr ⟨by rw [hG', hgv], rfl⟩) ?_
    rw [hd]
    exact h.run wb L _ w (hr.put hd' (by simp only [SVr]; exact ⟨fun e => (by rw [hgv] at e; cases e), fun _ => trivial⟩) (svOk_spec hk).1 (svOk_spec hk).2) hs hw hB hK⟩
theorem T_oneG {P : Program} {ops : Array Oper} {Q : Exit → Act → World → Prop} {md : Region.Mode} {S : World → Prop} {hd : Nat → Bool} (i : Nat) {oi : Oper} {fuel : Nat} {listed : Array Bool} {a : Act} {w : World} (hi : ops[i]? = some oi)
    (hr : (Region.ready md ops listed == [i]) = true)
    (h : ∀ K : Act → World → Prop, (∀ a' w', (hd i = true → S w') → wpAnyT P md ops Q S hd fuel (listed.setIfInBounds i true) a' w' → K a' w') → if Region.wanted oi (yielded ops a.tmps) = true then oi.wp P a w K Q else K (a.put oi.dst undef) w) :
    wpAnyT P md ops Q S hd (fuel + 1) listed a w := by
  have hr' : Region.ready md ops listed = [i] := by simpa using hr
  refine ⟨fun h0 => (by rw [hr'] at h0; cases h0), fun j hj => ?_⟩
  rw [hr', List.mem_singleton] at hj
  subst hj
  have h' := h (fun a' w' => (hd j = true → S w') ∧ wpAnyT P md ops Q S hd fuel (listed.setIfInBounds j true) a' w') (fun a' w' h1 h2 => ⟨h1, h2⟩)
  unfold wpOp
  simp only [hi]
  split
  · rename_i e; rw [if_pos e] at h'; exact .inl h'
  · rename_i e; rw [if_neg e] at h'; exact h'
theorem d_pc (i : Nat) {R : SV → Prop} (hi : all[i]? = some o) (ht : (Region.ready .any all listed == [i]) = true) (hG : Gd P C nt ⟨tm, bx, ks⟩ all o g) (hd : o.dst = some d) (hp : g = true → Pc P C nt o ⟨tm, bx, ks⟩ R) (hR : ∀ u, R u → u = v) (hv : v.keys = [] ∧ v.boxes = []) (hn : Nat.blt d nt = true)
    (h : OpsD P C nt Q all oB oK hd' (listed.setIfInBounds i true) fuel ⟨(d, .opt g v) :: tm, bx, ks⟩) : OpsD P C nt Q all oB oK hd' listed (fuel + 1) ⟨tm, bx, ks⟩ := ⟨fun wb L a w hr hs hw hB hK => by
  have hG' := hG.run L a w hr
  have hd' : d < nt := by simpa [Nat.blt_eq] using hn
  refine T_oneG i hi ht fun K hK' => ?_
  rw [hG']
  split
  · rename_i e
    refine (hp e).run L a w hr _ _ fun u r w' hu _ h1 hc => hK' _ _ (fun _ => hs.chg hc) (h.run wb L _ w' ?_ (hs.chg hc) hw hB hK)
    rw [hd]
    exact (hr.grow hc).put hd' (by simp only [SVr]; exact ⟨fun _ => by rw [← hR u hu]; exact h1, fun e' => by rw [e] at e'; cases e'⟩) (by simp [SV.keys, hv.1]) (by simp [SV.boxes, hv.2])
  · rename_i e
    refine hK' _ _ (fun _ => hs) (h.run wb L _ w ?_ hs hw hB hK)
    rw [hd]
    exact hr.put hd' (by simp only [SVr]; exact ⟨fun e' => absurd e' e, fun _ => trivial⟩) (by simp [SV.keys, hv.1]) (by simp [SV.boxes, hv.2])⟩
theorem d_callG (i : Nat) {f : FuncId} {xs : List Operand} {ats : Array TypeId} {us : List SV} (hi : all[i]? = some o) (ht : (Region.ready .any all listed == [i]) = true) (hG : Gd P C nt ⟨tm, bx, ks⟩ all o g) (hd : o.dst = some d) (ho : o.op = .call { callee := .value (.func f), args := xs.toArray, argTypes := ats })
    (hc : ∀ (args : Array Value) (w : World), (callFunc f args).run P w = .ok (.enter f args) w) (hf : PFn P f us X) (ha : g = true → ArgSs P C nt ⟨tm, bx, ks⟩ xs us) (hp : X.plain = true) (hn : Nat.blt d nt = true)
    (h : OpsD P C nt Q all oB oK hd' (listed.setIfInBounds i true) fuel ⟨(d, .opt g X) :: tm, bx, ks⟩) : OpsD P C nt Q all oB oK hd' listed (fuel + 1) ⟨tm, bx, ks⟩ :=
  d_pc i hi ht hG hd (fun hg => pc_p ho hc hf hp (ha hg)) (fun _ h => h) (by obtain ⟨_, h2, h3, _⟩ := sv_plain_ret hp; exact ⟨h2, h3⟩) hn h
theorem d_efg (i : Nat) {R : St → Prop} (hi : all[i]? = some o) (ht : (Region.ready .any all listed == [i]) = true) (hg : o.guard = none) (hp : EfG P C nt o ⟨tm, bx, ks⟩ R) (hb : (oB.all fun i => (look bx i).isSome) = true) (hk : (oK.all fun k => (lkk ⟨tm, bx, ks⟩ k).isSome) = true)
    (h : ∀ σ', R σ' → OpsD P C nt Q all oB oK hd' (listed.setIfInBounds i true) fuel σ') : OpsD P C nt Q all oB oK hd' listed (fuel + 1) ⟨tm, bx, ks⟩ := ⟨fun wb L a w hr hs hw hB hK => by
  refine T_one i hi hg ht fun K hK' => hp.run L a w hr _ _ fun L' σ' a' w' h1 h2 h3 => hK' _ _ (fun _ => hs.chg h3.chg) ((h σ' h1).run wb L' a' w' h2 (hs.chg h3.chg) hw (fun j hj => ?_) (fun k hk' => ?_))
  · obtain ⟨x, hx⟩ := Option.isSome_iff_exists.1 (List.all_eq_true.1 hb j hj)
    rw [h3.box j x hx]; exact hB j hj
  · obtain ⟨c, hc⟩ := Option.isSome_iff_exists.1 (List.all_eq_true.1 hk k hk')
    rw [h3.key k c hc]; exact hK k hk'⟩
theorem d_call (i : Nat) {f : FuncId} {xs : List Operand} {ats : Array TypeId} {us : List SV} (hi : all[i]? = some o) (ht : (Region.ready .any all listed == [i]) = true) (hg : o.guard = none) (hd : o.dst = some d) (ho : o.op = .call { callee := .value (.func f), args := xs.toArray, argTypes := ats })
    (hc : ∀ (args : Array Value) (w : World), (callFunc f args).run P w = .ok (.enter f args) w) (hf : PFn P f us X) (ha : ArgSs P C nt ⟨tm, bx, ks⟩ xs us) (hp : X.plain = true) (hn : Nat.blt d nt = true)
    (hb : (oB.all fun i => (look bx i).isSome) = true) (hk : (oK.all fun k => (lkk ⟨tm, bx, ks⟩ k).isSome) = true)
    (h : OpsD P C nt Q all oB oK hd' (listed.setIfInBounds i true) fuel ⟨(d, X) :: tm, bx, ks⟩) : OpsD P C nt Q all oB oK hd' listed (fuel + 1) ⟨tm, bx, ks⟩ :=
  d_efg i hi ht hg ((pc_p ho hc hf hp ha).efg hd hn) hb hk fun σ' ⟨v, hv, e⟩ => by rw [e, hv]; exact h
theorem d_callK (m i : Nat) {f : FuncId} {xs : List Operand} {ats : Array TypeId} {us : List SV} {kk : List (Nat × Option KC)} (hi : all[i]? = some o) (ht : (Region.ready .any all listed == [i]) = true) (hg : o.guard = none) (hd : o.dst = some d) (ho : o.op = .call { callee := .value (.func f), args := xs.toArray, argTypes := ats })
    (hc : ∀ (args : Array Value) (w : World), (callFunc f args).run P w = .ok (.enter f args) w) (hf : KFn P f us v kk) (ha : ArgSs P C nt ⟨tm, bx, ks⟩ xs us) (hn : Nat.blt d nt = true) (hres : v.retOk = true) (hfree : (kk.all fun q => (lkk ⟨tm, bx, ks⟩ (m + q.1)).isNone) = true)
    (hb : (oB.all fun i => (look bx i).isSome) = true) (hk : (oK.all fun k => (lkk ⟨tm, bx, ks⟩ k).isSome) = true)
    (h : OpsD P C nt Q all oB oK hd' (listed.setIfInBounds i true) fuel ⟨(d, v.sh m) :: tm, bx, shK m kk ++ ks⟩) : OpsD P C nt Q all oB oK hd' listed (fuel + 1) ⟨tm, bx, ks⟩ :=
  d_efg i hi ht hg (efg_call (ι := Unit) (v := fun _ => v) (kk := fun _ => kk) (p := fun _ => True) m ho hd hn hc hf.ok ha (fun u σ' h => ⟨(), h.1, h.2, trivial⟩) (fun _ => hres) (fun _ => hfree)) hb hk fun σ' ⟨_, _, e⟩ => by rw [e]; exact h
theorem d_done (ht : (Region.ready .any all listed).isEmpty = true) (h : Q .normal ⟨tm, bx, ks⟩) : OpsD P C nt Q all oB oK hd' listed fuel ⟨tm, bx, ks⟩ := ⟨fun _ L _ _ hr _ _ _ _ => T_done ht ⟨L, _, hr, h⟩ fuel⟩
theorem chain_map {α : Type} {f : Nat → Option α} : ∀ {is : List Nat}, (is.all fun i => (f i).isSome) = true → is.map f = (is.filterMap f).map some
  | [], _ => rfl
  | i :: is, h => by
    simp only [List.all_cons, Bool.and_eq_true] at h
    obtain ⟨x, hx⟩ := Option.isSome_iff_exists.1 h.1
    rw [List.map_cons, List.filterMap_cons, hx, List.map_cons, chain_map h.2]
/-- the rest comes up one after the other -/
theorem d_chain (is : List Nat) (hm : (is.all fun i => (all[i]?).isSome) = true) (hf : Nat.ble is.length fuel = true) (hc : chainB .any all hd' is listed = true) (h : Ops P C nt Q all (is.filterMap fun i => all[i]?) ⟨tm, bx, ks⟩) : OpsD P C nt Q all oB oK hd' listed fuel ⟨tm, bx, ks⟩ := ⟨fun wb L a w hr _ _ _ _ =>
  T_chain is _ listed fuel a w (chain_map hm) (by simpa [Nat.ble_eq] using hf) hc (h.run L a w hr)⟩
/-- the last operation, whatever it writes -/
theorem d_last (i : Nat) {σ₁ : St} (hi : all[i]? = some o) (ht : (Region.ready .any all listed == [i]) = true) (hg : o.guard = none) (hh : hd' i = false) (hp : Ef P C nt o ⟨tm, bx, ks⟩ (fun σ' => σ' = σ₁)) (he : (Region.ready .any all (listed.setIfInBounds i true)).isEmpty = true)
    (h : Q .normal σ₁) : OpsD P C nt Q all oB oK hd' listed (fuel + 1) ⟨tm, bx, ks⟩ := ⟨fun _ L a w hr _ _ _ _ =>
  T_one i hi hg ht fun K hK' => hp.run L a w hr _ _ fun L' σ' a' w' h1 h2 => hK' _ _ (fun e => by rw [hh] at e; cases e) (T_done he ⟨L', σ', h2, by rw [h1]; exact h⟩ fuel)⟩
end
/-! ### bytes of strings; comparison of structs -/
def bAt (s : ByteArray) (n : Nat) : UInt8 := s.data.toList.getD n 0
theorem pu_indexS {P : Program} {C : Ctx} {nt : Nat} {σ : St} {o : Oper} {x y : Operand} {T : TT} (hT : TTOk P T) {t : Nat} {u : Unit} {K J : List Nat} {s : ByteArray} {z : Int} (ho : o.op = .index t x y) (h : look T.st t = some u) (hx : Ev P C nt σ x (.one (.dv K (.str s)))) (hy : Ev P C nt σ y (.one (.dv J (.int .i64 z)))) (h0 : 0 ≤ z) (h1 : z < s.size) : Pu P C nt o σ (.one (.dv [] (.int .u8 ((bAt s z.toNat).toNat : Int)))) [] [] := Pu.mk fun L a w hr => by
  have h2 := hx.run L a w hr
  have h3 := hy.run L a w hr
  simp only [SVr, CVr, Lay] at h2 h3
  have h4 := hT.st t u h
  have hlt : z.toNat < s.size := by omega
  have hb : s[z.toNat]? = some (bAt s z.toNat) := by
    rw [getElem?_pos s z.toNat hlt]
    simp only [bAt, List.getD, Option.some.injEq]
    have : z.toNat < s.data.toList.length := by simpa using hlt
    rw [List.getElem?_eq_getElem this]
    rfl
  refine ⟨.int .u8 ((bAt s z.toNat).toNat : Int), by unfold SVr CVr Lay; exact ⟨rfl, by unfold InR; simp [IntKind.min, IntKind.max, IntKind.signed, IntKind.bits]; have := (bAt s z.toNat).toNat_lt; omega⟩, fun w' _ => ?_⟩
  unfold execOp
  simp only [ho, h2.1, h3.1, Instr.index, asIntOf, Sem.run_bind, Sem.run_pure, Result.andThen_ok, run_underlying h4, if_pos h0, hb]
def pv : CV → Option Value
  | .dv _ (.int k n) => some (.int k n)
  | .dv _ (.bool b) => some (.bool b)
  | .dv _ (.str s) => some (.string s)
  | _ => none
def pvs : List CV → Option (List Value)
  | [] => some []
  | c :: cs => match pv c, pvs cs with | some v, some vs => some (v :: vs) | _, _ => none
theorem pvs_cv {C : Ctx} {L : Lyt} {w : World} : ∀ {cs : List CV} {vs us : List Value}, pvs cs = some us → CVL C L w cs vs → vs = us
  | [], vs, us, h, hv => by simp only [pvs, Option.some.injEq] at h; simp only [CVL] at hv; rw [← h, hv]
  | c :: cs, _, us, h, ⟨v, vs', e, h1, h2⟩ => by
    subst e
    simp only [pvs] at h
    split at h
    · rename_i v' vs'' h3 h4
      simp only [Option.some.injEq] at h; subst h
      rw [pvs_cv h4 h2]
      congr 1
      unfold pv at h3
      split at h3
      · simp only [Option.some.injEq] at h3; subst h3; simp only [CVr, Lay] at h1; exact h1.1
      · simp only [Option.some.injEq] at h3; subst h3; simp only [CVr, Lay] at h1; exact h1
      · simp only [Option.some.injEq] at h3; subst h3; simp only [CVr, Lay] at h1; exact h1.1
      · cases h3
    · cases h
theorem pu_cmpA {P : Program} {C : Ctx} {nt : Nat} {σ : St} {o : Oper} {x y : Operand} {op : BinOp} {t ty : TypeId} {cs ds : List CV} {us vs : List Value} {b : Bool} (ho : o.op = .binOp op t x y ty) (hx : Ev P C nt σ x (.agg cs)) (hy : Ev P C nt σ y (.agg ds)) (h1 : pvs cs = some us) (h2 : pvs ds = some vs)
    (hg : P.eqGuardType P.depth t = false) (hrun : ∀ w : World, (binOp op t (.agg us.toArray) (.agg vs.toArray)).run P w = .ok (.bool b) w) : Pu P C nt o σ (.one (.dv [] (.bool b))) [] [] := Pu.mk fun L a w hr => by
  have h3 := hx.run L a w hr
  have h4 := hy.run L a w hr
  simp only [SVr] at h3 h4
  obtain ⟨us', e1, k1⟩ := h3
  obtain ⟨vs', e2, k2⟩ := h4
  have := pvs_cv h1 k1; subst this
  have := pvs_cv h2 k2; subst this
  refine ⟨.bool b, by simp only [SVr, CVr, Lay], fun w' _ => ?_⟩
  unfold execOp
  simp only [ho, e1, e2, Sem.run_bind, run_eqGuard_agg w' op t x y _ _ hg, Result.andThen_ok, hrun, Sem.run_pure]
end Go.Proofs.Ytbmgommbmhmbgaa
