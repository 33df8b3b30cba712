/-
  The rules of a small program logic over abstract states: no program is in sight but in the table of its types. Conditions: none.
-/
import Derived.Test.YtlogahkchenpdaaU2
namespace Go.Proofs.Ytlogahkchenpdaa
open Go.RowKit
open Go.Proofs
set_option linter.unusedVariables false
set_option linter.unusedSimpArgs false
/-- operation i comes up next -/
structure OpsJ (P : Program) (C : Ctx) (nt : Nat) (Q : Exit → St → Prop) (all : Array Oper) (oB oK : List Nat) (hd : Nat → Bool) (listed : Array Bool) (fuel : Nat) (i : Nat) (σ : St) : Prop where
  run : ∀ wb L a w, Rel P C nt L σ a w → SW wb w → C.w0.heap.size ≤ wb.heap.size → (∀ i ∈ oB, L.bb i < wb.heap.size) → (∀ k ∈ oK, ∀ b ∈ L.fp k, b < wb.heap.size) →
    wpOp P all (QQ P C nt Q) i (fun a' w' => (hd i = true → SW wb w') ∧ wpAnyT P .any all (QQ P C nt Q) (SW wb) hd fuel (listed.setIfInBounds i true) a' w') a w
def AllJ (P : Program) (C : Ctx) (nt : Nat) (Q : Exit → St → Prop) (all : Array Oper) (oB oK : List Nat) (hd : Nat → Bool) (listed : Array Bool) (fuel : Nat) (σ : St) : List Nat → Prop
  | [] => True
  | i :: is => OpsJ P C nt Q all oB oK hd listed fuel i σ ∧ AllJ P C nt Q all oB oK hd listed fuel σ is
section
variable {P : Program} {C : Ctx} {nt : Nat} {Q : Exit → St → Prop} {all : Array Oper} {oB oK : List Nat} {listed : Array Bool} {fuel : Nat} {hd' : Nat → Bool} {tm : List (Nat × SV)} {bx : List (Nat × TypeId × List CV)} {ks : List (Nat × Option KC)} {o : Oper} {d : Nat} {v X : SV} {Ks Bs : List Nat} {g : Bool} {σ : St} {x : Operand} {T : TT}
theorem allJ_mem : ∀ {is : List Nat}, AllJ P C nt Q all oB oK hd' listed fuel σ is → ∀ i ∈ is, OpsJ P C nt Q all oB oK hd' listed fuel i σ
  | [], _, _, hi => by cases hi
  | j :: is, h, i, hi => by
    rcases List.mem_cons.1 hi with rfl | hi
    · exact h.1
    · exact allJ_mem h.2 i hi
theorem d_split (i : Nat) (is : List Nat) (hr : (Region.ready .any all listed == i :: is) = true) (h : AllJ P C nt Q all oB oK hd' listed fuel σ (i :: is)) : OpsD P C nt Q all oB oK hd' listed (fuel + 1) σ := ⟨fun wb L a w hrel hs hw hB hK => by
  have hr' : Region.ready .any all listed = i :: is := by simpa using hr
  refine ⟨fun h0 => (by rw [hr'] at h0; cases h0), fun j hj => ?_⟩
  rw [hr'] at hj
  exact (allJ_mem h j hj).run wb L a w hrel hs hw hB hK⟩
theorem j_efg (i : Nat) {R : St → Prop} (hi : all[i]? = some o) (hg : o.guard = none) (hp : EfG P C nt o ⟨tm, bx, ks⟩ R) (hb : (oB.all fun i => (look bx i).isSome) = true) (hk : (oK.all fun k => (lkk ⟨tm, bx, ks⟩ k).isSome) = true)
    (h : ∀ σ', R σ' → OpsD P C nt Q all oB oK hd' (listed.setIfInBounds i true) fuel σ') : OpsJ P C nt Q all oB oK hd' listed fuel i ⟨tm, bx, ks⟩ := ⟨fun wb L a w hr hs hw hB hK => by
  unfold wpOp
  simp only [hi]
  have hw' : Region.wanted o (yielded all a.tmps) = true := by simp [Region.wanted, hg]
  rw [if_pos hw']
  refine .inl (hp.run L a w hr _ _ fun L' σ' a' w' h1 h2 h3 => ⟨fun _ => hs.chg h3.chg, (h σ' h1).run wb L' a' w' h2 (hs.chg h3.chg) hw (fun j hj => ?_) (fun k hk' => ?_)⟩)
  · obtain ⟨x, hx⟩ := Option.isSome_iff_exists.1 (List.all_eq_true.1 hb j hj)
    rw [h3.box j x hx]; exact hB j hj
  · obtain ⟨c, hc⟩ := Option.isSome_iff_exists.1 (List.all_eq_true.1 hk k hk')
    rw [h3.key k c hc]; exact hK k hk'⟩
theorem j_call (i : Nat) {f : FuncId} {xs : List Operand} {ats : Array TypeId} {us : List SV} (hi : all[i]? = some o) (hg : o.guard = none) (hd : o.dst = some d) (ho : o.op = .call { callee := .value (.func f), args := xs.toArray, argTypes := ats })
    (hc : ∀ (args : Array Value) (w : World), (callFunc f args).run P w = .ok (.enter f args) w) (hf : PFn P f us X) (ha : ArgSs P C nt ⟨tm, bx, ks⟩ xs us) (hp : X.plain = true) (hn : Nat.blt d nt = true)
    (hb : (oB.all fun i => (look bx i).isSome) = true) (hk : (oK.all fun k => (lkk ⟨tm, bx, ks⟩ k).isSome) = true)
    (h : OpsD P C nt Q all oB oK hd' (listed.setIfInBounds i true) fuel ⟨(d, X) :: tm, bx, ks⟩) : OpsJ P C nt Q all oB oK hd' listed fuel i ⟨tm, bx, ks⟩ :=
  j_efg i hi hg ((pc_p ho hc hf hp ha).efg hd hn) hb hk fun σ' ⟨v, hv, e⟩ => by rw [e, hv]; exact h
theorem j_callK (m i : Nat) {f : FuncId} {xs : List Operand} {ats : Array TypeId} {us : List SV} {kk : List (Nat × Option KC)} (hi : all[i]? = some o) (hg : o.guard = none) (hd : o.dst = some d) (ho : o.op = .call { callee := .value (.func f), args := xs.toArray, argTypes := ats })
    (hc : ∀ (args : Array Value) (w : World), (callFunc f args).run P w = .ok (.enter f args) w) (hf : KFn P f us v kk) (ha : ArgSs P C nt ⟨tm, bx, ks⟩ xs us) (hn : Nat.blt d nt = true) (hres : v.retOk = true) (hfree : (kk.all fun q => (lkk ⟨tm, bx, ks⟩ (m + q.1)).isNone) = true)
    (hb : (oB.all fun i => (look bx i).isSome) = true) (hk : (oK.all fun k => (lkk ⟨tm, bx, ks⟩ k).isSome) = true)
    (h : OpsD P C nt Q all oB oK hd' (listed.setIfInBounds i true) fuel ⟨(d, v.sh m) :: tm, bx, shK m kk ++ ks⟩) : OpsJ P C nt Q all oB oK hd' listed fuel i ⟨tm, bx, ks⟩ :=
  j_efg i hi hg (efg_call (ι := Unit) (v := fun _ => v) (kk := fun _ => kk) (p := fun _ => True) m ho hd hn hc hf.ok ha (fun u σ' h => ⟨(), h.1, h.2, trivial⟩) (fun _ => hres) (fun _ => hfree)) hb hk fun σ' ⟨_, _, e⟩ => by rw [e]; exact h
theorem j_convSB (i : Nat) (hT : TTOk P T) {s t e d k : Nat} {u : Unit} {J : List Nat} {v : ByteArray} (hi : all[i]? = some o) (hg : o.guard = none) (hd : o.dst = some d) (ho : o.op = .convert s t x) (hn : Nat.blt d nt = true) (hs : look T.st s = some u) (ht : look T.sl t = some e) (he : look T.it e = some .u8)
    (hx : Ev P C nt ⟨tm, bx, ks⟩ x (.one (.dv J (.str v)))) (hk : lkk ⟨tm, bx, ks⟩ k = none) (hb : (oB.all fun i => (look bx i).isSome) = true) (hk' : (oK.all fun k => (lkk ⟨tm, bx, ks⟩ k).isSome) = true)
    (h : OpsD P C nt Q all oB oK hd' (listed.setIfInBounds i true) fuel ⟨(d, .one (.key k)) :: tm, bx, (k, some ⟨false, 1000005, 1, v.data.toList.length, v.data.toList.flatMap fun b : UInt8 => [DV.int .u8 (b.toNat : Int)]⟩) :: ks⟩) : OpsJ P C nt Q all oB oK hd' listed fuel i ⟨tm, bx, ks⟩ :=
  j_efg i hi hg (efg_convSB hT ho hd hn hs ht he hx hk) hb hk' fun σ' e => by rw [e]; exact h
/-- data that differ in nothing but the types' numbers -/
inductive DSame : DV → DV → Prop where
  | refl (d : DV) : DSame d d
  | sl (e e' sz n : Nat) (cs cs' : List DV) (hl : cs.length = cs'.length) (h : ∀ (i : Nat) d d', cs[i]? = some d → cs'[i]? = some d' → DSame d d') : DSame (.sl e sz n cs) (.sl e' sz n cs')
theorem dsame_lay {ok : Nat → Prop} {w : World} {d d' : DV} (h : DSame d d') : ∀ {v : Value}, Lay ok w d v → Lay ok w d' v := by
  induction h with
  | refl d => exact fun h => h
  | sl e e' sz n cs cs' hl h ih =>
    intro v hv
    simp only [Lay] at hv ⊢
    obtain ⟨A, c, vs, h1, h2, h3, h4, h5, h6, h7⟩ := hv
    refine ⟨A, c, vs, h1, h2, h3, h4, hl ▸ h5, ?_, h7⟩
    clear h5 h7 h1
    induction cs generalizing cs' vs with
    | nil =>
      cases cs' with
      | nil => exact h6
      | cons x xs => simp at hl
    | cons x xs ih2 =>
      cases cs' with
      | nil => simp at hl
      | cons y ys =>
        simp only [LayL] at h6 ⊢
        obtain ⟨v, vs', rfl, k1, k2⟩ := h6
        exact ⟨v, vs', rfl, ih 0 x y rfl rfl k1, ih2 ys (by simpa using hl) (fun i d d' hd hd' => h (i + 1) d d' (by simpa using hd) (by simpa using hd')) (fun i d d' hd hd' => ih (i + 1) d d' (by simpa using hd) (by simpa using hd')) vs' k2⟩
def DSames : List DV → List DV → Prop
  | [], [] => True
  | d :: ds, d' :: ds' => DSame d d' ∧ DSames ds ds'
  | _, _ => False
theorem dsames_len : ∀ {cs cs' : List DV}, DSames cs cs' → cs.length = cs'.length
  | [], [], _ => rfl
  | _ :: _, _ :: _, h => by simp [dsames_len h.2]
  | [], _ :: _, h => h.elim
  | _ :: _, [], h => h.elim
theorem dsames_get : ∀ {cs cs' : List DV}, DSames cs cs' → ∀ (i : Nat) d d', cs[i]? = some d → cs'[i]? = some d' → DSame d d'
  | [], [], _, i, _, _, h, _ => by simp at h
  | x :: xs, y :: ys, h, 0, d, d', h1, h2 => by
    simp only [List.getElem?_cons_zero, Option.some.injEq] at h1 h2
    rw [← h1, ← h2]; exact h.1
  | x :: xs, y :: ys, h, i + 1, d, d', h1, h2 => dsames_get h.2 i d d' (by simpa using h1) (by simpa using h2)
  | [], _ :: _, h, _, _, _, _, _ => h.elim
  | _ :: _, [], h, _, _, _, _, _ => h.elim
theorem ds_sl {e e' sz n : Nat} {cs cs' : List DV} (h : DSames cs cs') : DSame (.sl e sz n cs) (.sl e' sz n cs') := .sl e e' sz n cs cs' (dsames_len h) (dsames_get h)
theorem ds_ty {e e' sz n : Nat} {cs : List DV} : DSame (.sl e sz n cs) (.sl e' sz n cs) := .sl e e' sz n cs cs rfl (fun i d d' h1 h2 => by rw [h1] at h2; cases h2; exact .refl d)
theorem dss_nil : DSames [] [] := trivial
theorem dss_cons {d d' : DV} {ds ds' : List DV} (h : DSame d d') (h2 : DSames ds ds') : DSames (d :: ds) (d' :: ds') := ⟨h, h2⟩
/-- a key, read as data -/
theorem weak_view {d k : Nat} {c : KC} {dd : DV} (hd : look σ.tm d = some (.one (.key k))) (hk : lkk σ k = some c) (hs : DSame (.sl c.e c.sz c.n c.cs) dd) : Weak P C nt σ (σ.put d (.one (.dv [k] dd))) := Weak.mk fun L a w hr => by
  have hv := hr.tm d _ hd
  simp only [SVr, CVr] at hv
  have h1 := dsame_lay hs (own_lay (ok := okB C L [k]) _ _ _ (hr.ks k c hk).1 (fun b hb => .inr ⟨k, by simp, hb⟩))
  exact ⟨_, hr.also (v := .one (.dv [k] dd)) (by simp only [SVr, CVr]; rw [hv]; exact h1) (by simp [SV.keys, CV.keys, hk]) (by simp [SV.boxes])⟩
/-- a cut behind a piece of code: the state σ' stands for all that it may leave -/
theorem ok_cutS {c c' : Code} {σ' : St} (h1 : Ok P C nt (thenQ (fun τ => Weak P C nt τ σ') Q) c σ) (h2 : Ok P C nt Q c' σ') : Ok P C nt Q (.seq c c') σ :=
  ok_seq ⟨fun L a w hr => wp_mono (h1.run L a w hr) (QQ_mono fun e τ hq => by
    cases e with
    | normal => exact ok_weak hq h2
    | _ => exact hq)⟩
end
end Go.Proofs.Ytlogahkchenpdaa

namespace Go.Proofs.Ytlogahkchenpdaa
open Go.RowKit
open Go.Proofs
set_option linter.unusedVariables false
set_option linter.unusedSimpArgs false
structure OpsN (P : Program) (C : Ctx) (nt : Nat) (Q : Exit → St → Prop) (all : Array Oper) (oB oK nK : List Nat) (hd : Nat → Bool) (listed : Array Bool) (fuel : Nat) (σ : St) : Prop where
  run : ∀ wb L a w, Rel P C nt L σ a w → SW wb w → C.w0.heap.size ≤ wb.heap.size → (∀ i ∈ oB, L.bb i < wb.heap.size) → (∀ k ∈ oK, ∀ b ∈ L.fp k, b < wb.heap.size) → (∀ k ∈ nK, ∀ b ∈ L.fp k, wb.heap.size ≤ b) →
    wpAnyT P .any all (QQ P C nt Q) (SW wb) hd fuel listed a w
structure OpsNJ (P : Program) (C : Ctx) (nt : Nat) (Q : Exit → St → Prop) (all : Array Oper) (oB oK nK : List Nat) (hd : Nat → Bool) (listed : Array Bool) (fuel : Nat) (i : Nat) (σ : St) : Prop where
  run : ∀ wb L a w, Rel P C nt L σ a w → SW wb w → C.w0.heap.size ≤ wb.heap.size → (∀ i ∈ oB, L.bb i < wb.heap.size) → (∀ k ∈ oK, ∀ b ∈ L.fp k, b < wb.heap.size) → (∀ k ∈ nK, ∀ b ∈ L.fp k, wb.heap.size ≤ b) →
    wpOp P all (QQ P C nt Q) i (fun a' w' => (hd i = true → SW wb w') ∧ wpAnyT P .any all (QQ P C nt Q) (SW wb) hd fuel (listed.setIfInBounds i true) a' w') a w
def AllN (P : Program) (C : Ctx) (nt : Nat) (Q : Exit → St → Prop) (all : Array Oper) (oB oK nK : List Nat) (hd : Nat → Bool) (listed : Array Bool) (fuel : Nat) (σ : St) : List Nat → Prop
  | [] => True
  | i :: is => OpsNJ P C nt Q all oB oK nK hd listed fuel i σ ∧ AllN P C nt Q all oB oK nK hd listed fuel σ is
/-- an operation that makes memory, and key k in it -/
structure EfN (P : Program) (C : Ctx) (nt : Nat) (o : Oper) (σ : St) (k : Nat) (R : St → Prop) : Prop where
  run : ∀ L a w, Rel P C nt L σ a w → ∀ K Q, (∀ L' σ' a' w', R σ' → Rel P C nt L' σ' a' w' → Gr σ L L' w w' → (∀ b ∈ L'.fp k, w.heap.size ≤ b) → K a' w') → o.wp P a w K Q
section
variable {P : Program} {C : Ctx} {nt : Nat} {Q : Exit → St → Prop} {all : Array Oper} {oB oK nK : List Nat} {listed : Array Bool} {fuel : Nat} {hd' : Nat → Bool} {tm : List (Nat × SV)} {bx : List (Nat × TypeId × List CV)} {ks : List (Nat × Option KC)} {o : Oper} {d : Nat} {v X : SV} {Ks Bs : List Nat} {σ : St} {x y : Operand} {T : TT}
theorem n_start (h : OpsN P C nt Q all oB oK [] hd' listed fuel σ) : OpsD P C nt Q all oB oK hd' listed fuel σ := ⟨fun wb L a w hr hs hw hB hK => h.run wb L a w hr hs hw hB hK (by simp)⟩
theorem allN_mem : ∀ {is : List Nat}, AllN P C nt Q all oB oK nK hd' listed fuel σ is → ∀ i ∈ is, OpsNJ P C nt Q all oB oK nK hd' listed fuel i σ
  | [], _, _, hi => by cases hi
  | j :: is, h, i, hi => by
    rcases List.mem_cons.1 hi with rfl | hi
    · exact h.1
    · exact allN_mem h.2 i hi
theorem n_split (i : Nat) (is : List Nat) (hr : (Region.ready .any all listed == i :: is) = true) (h : AllN P C nt Q all oB oK nK hd' listed fuel σ (i :: is)) : OpsN P C nt Q all oB oK nK hd' listed (fuel + 1) σ := ⟨fun wb L a w hrel hs hw hB hK hN => by
  have hr' : Region.ready .any all listed = i :: is := by simpa using hr
  refine ⟨fun h0 => (by rw [hr'] at h0; cases h0), fun j hj => ?_⟩
  rw [hr'] at hj
  exact (allN_mem h j hj).run wb L a w hrel hs hw hB hK hN⟩
theorem n_take (i : Nat) (hi : all[i]? = some o) (ht : takeB .any all hd' listed i = true) (hg : o.guard = none) (hd : o.dst = some d) (hp : Pu P C nt o ⟨tm, bx, ks⟩ v Ks Bs) (h1 : (Ks.all fun k => oK.contains k) = true) (h2 : (Bs.all fun k => oB.contains k) = true) (hn : Nat.blt d nt = true) (hk : svOk ⟨tm, bx, ks⟩ v = true)
    (h : OpsN P C nt Q all oB oK nK hd' (listed.setIfInBounds i true) fuel ⟨(d, v) :: tm, bx, ks⟩) : OpsN P C nt Q all oB oK nK hd' listed (fuel + 1) ⟨tm, bx, ks⟩ := ⟨fun wb L a w hr hs hw hB hK hN => by
  obtain ⟨r, h3, h4⟩ := pu_yields hr hs hw hB hK hp h1 h2
  refine T_take i (v := r) hi ht (fun _ _ _ h => h) hs (.inl ⟨by simp [Region.wanted, hg], h4⟩) ?_
  rw [hd]
  exact h.run wb L _ w (hr.put (by simpa [Nat.blt_eq] using hn) h3 (svOk_spec hk).1 (svOk_spec hk).2) hs hw hB hK hN⟩
theorem n_done (ht : (Region.ready .any all listed).isEmpty = true) (h : Q .normal ⟨tm, bx, ks⟩) : OpsN P C nt Q all oB oK nK hd' listed fuel ⟨tm, bx, ks⟩ := ⟨fun _ L _ _ hr _ _ _ _ _ => T_done ht ⟨L, _, hr, h⟩ fuel⟩
theorem nj_of (i : Nat) (hi : all[i]? = some o) (hg : o.guard = none) (h : ∀ wb L a w, Rel P C nt L σ a w → SW wb w → C.w0.heap.size ≤ wb.heap.size → (∀ i ∈ oB, L.bb i < wb.heap.size) → (∀ k ∈ oK, ∀ b ∈ L.fp k, b < wb.heap.size) → (∀ k ∈ nK, ∀ b ∈ L.fp k, wb.heap.size ≤ b) →
      o.wp P a w (fun a' w' => (hd' i = true → SW wb w') ∧ wpAnyT P .any all (QQ P C nt Q) (SW wb) hd' fuel (listed.setIfInBounds i true) a' w') (QQ P C nt Q)) : OpsNJ P C nt Q all oB oK nK hd' listed fuel i σ := ⟨fun wb L a w hr hs hw hB hK hN => by
  unfold wpOp
  simp only [hi]
  have hw' : Region.wanted o (yielded all a.tmps) = true := by simp [Region.wanted, hg]
  rw [if_pos hw']
  exact .inl (h wb L a w hr hs hw hB hK hN)⟩
theorem nj_efg (i : Nat) {R : St → Prop} (hi : all[i]? = some o) (hg : o.guard = none) (hp : EfG P C nt o ⟨tm, bx, ks⟩ R) (hb : (oB.all fun i => (look bx i).isSome) = true) (hk : (oK.all fun k => (lkk ⟨tm, bx, ks⟩ k).isSome) = true) (hn : (nK.all fun k => (lkk ⟨tm, bx, ks⟩ k).isSome) = true)
    (h : ∀ σ', R σ' → OpsN P C nt Q all oB oK nK hd' (listed.setIfInBounds i true) fuel σ') : OpsNJ P C nt Q all oB oK nK hd' listed fuel i ⟨tm, bx, ks⟩ :=
  nj_of i hi hg fun wb L a w hr hs hw hB hK hN => hp.run L a w hr _ _ fun L' σ' a' w' h1 h2 h3 => ⟨fun _ => hs.chg h3.chg, (h σ' h1).run wb L' a' w' h2 (hs.chg h3.chg) hw
    (fun j hj => by
      obtain ⟨x, hx⟩ := Option.isSome_iff_exists.1 (List.all_eq_true.1 hb j hj)
      rw [h3.box j x hx]; exact hB j hj)
    (fun k hk' => by
      obtain ⟨c, hc⟩ := Option.isSome_iff_exists.1 (List.all_eq_true.1 hk k hk')
      rw [h3.key k c hc]; exact hK k hk')
    (fun k hk' => by
      obtain ⟨c, hc⟩ := Option.isSome_iff_exists.1 (List.all_eq_true.1 hn k hk')
      rw [h3.key k c hc]; exact hN k hk')⟩
theorem nj_alloc (i : Nat) (hT : TTOk P T) {t d sz by_ : Nat} {zc : List CV} (hi : all[i]? = some o) (hg : o.guard = none) (hd : o.dst = some d) (ho : o.op = .alloc t) (ht : look T.el t = some (sz, by_, zc)) (hn : Nat.blt d nt = true) (hx : look bx d = none)
    (hb : (oB.all fun i => (look bx i).isSome) = true) (hk : (oK.all fun k => (lkk ⟨tm, bx, ks⟩ k).isSome) = true) (hn' : (nK.all fun k => (lkk ⟨tm, bx, ks⟩ k).isSome) = true)
    (h : OpsN P C nt Q all oB oK nK hd' (listed.setIfInBounds i true) fuel ⟨(d, .box d 0) :: tm, (d, t, zc) :: bx, ks⟩) : OpsNJ P C nt Q all oB oK nK hd' listed fuel i ⟨tm, bx, ks⟩ :=
  nj_efg i hi hg (efg_alloc hT ho hd hn ht hx) hb hk hn' fun σ' e => by rw [e]; exact h
theorem nj_callK (m i : Nat) {f : FuncId} {xs : List Operand} {ats : Array TypeId} {us : List SV} {kk : List (Nat × Option KC)} (hi : all[i]? = some o) (hg : o.guard = none) (hd : o.dst = some d) (ho : o.op = .call { callee := .value (.func f), args := xs.toArray, argTypes := ats })
    (hc : ∀ (args : Array Value) (w : World), (callFunc f args).run P w = .ok (.enter f args) w) (hf : KFn P f us v kk) (ha : ArgSs P C nt ⟨tm, bx, ks⟩ xs us) (hn : Nat.blt d nt = true) (hres : v.retOk = true) (hfree : (kk.all fun q => (lkk ⟨tm, bx, ks⟩ (m + q.1)).isNone) = true)
    (hb : (oB.all fun i => (look bx i).isSome) = true) (hk : (oK.all fun k => (lkk ⟨tm, bx, ks⟩ k).isSome) = true) (hn' : (nK.all fun k => (lkk ⟨tm, bx, ks⟩ k).isSome) = true)
    (h : OpsN P C nt Q all oB oK nK hd' (listed.setIfInBounds i true) fuel ⟨(d, v.sh m) :: tm, bx, shK m kk ++ ks⟩) : OpsNJ P C nt Q all oB oK nK hd' listed fuel i ⟨tm, bx, ks⟩ :=
  nj_efg i hi hg (efg_call (ι := Unit) (v := fun _ => v) (kk := fun _ => kk) (p := fun _ => True) m ho hd hn hc hf.ok ha (fun u σ' h => ⟨(), h.1, h.2, trivial⟩) (fun _ => hres) (fun _ => hfree)) hb hk hn' fun σ' ⟨_, _, e⟩ => by rw [e]; exact h
theorem efn_build0 (hT : TTOk P T) {t e sz by_ d k : Nat} {zc : List CV} (ho : o.op = .buildSlice t 0 #[]) (hd : o.dst = some d) (hn : Nat.blt d nt = true) (ht : look T.sl t = some e) (he : look T.el e = some (sz, by_, zc)) (hsz : Nat.blt 0 sz = true) (hk : lkk σ k = none) :
    EfN P C nt o σ k (fun σ' => σ' = { σ with ks := (k, some ⟨false, e, sz, 0, []⟩) :: σ.ks }.put d (.one (.key k))) := EfN.mk fun L a w hr K Q hK => by
  have hpos : 0 < sz := by simpa [Nat.blt_eq] using hsz
  have hchg : Chg [] w (w.alloc (.cells #[] e)) := (Chg.refl [] w).alloc _
  refine wp_new (v := .slice (some ⟨w.heap.size, 0, none⟩) 0 0) (w' := w.alloc (.cells #[] e)) ?_ ?_
  · unfold execOp
    simp only [ho, List.map_toArray, List.map_nil, run_build0 (P := P) (w := w) hT ht he, Sem.run_bind, Result.andThen_ok, Sem.run_pure]
  · have hb := hr.newkey' hchg (c := ⟨false, e, sz, 0, []⟩) (v := .slice (some ⟨w.heap.size, 0, none⟩) 0 0) (f := [w.heap.size]) hk
      (by
        unfold Own
        exact ⟨[], [], rfl, hpos, by simp, rowE_of (hT.lt e _ he) ⟨by simp, .inr ⟨w.heap.size, 0, #[], rfl, Nat.zero_le _, alloc_last w _, Nat.le_refl _, Nat.zero_le _, by simp, by simp⟩⟩, by simp [OwnL]⟩) rfl (by simp) (by simp)
    refine hK { L with fp := fun j => if j = k then [w.heap.size] else L.fp j, rv := fun j => if j = k then .slice (some ⟨w.heap.size, 0, none⟩) 0 0 else L.rv j } _ _ _ rfl (by rw [hd]; exact hb.put (v := .one (.key k)) (r := .slice (some ⟨w.heap.size, 0, none⟩) 0 0) (by simpa [Nat.blt_eq] using hn) (by simp [SVr, CVr]) (by simp [SV.keys, CV.keys, lkk, look_cons]) (by simp [SV.boxes])) ⟨hchg, fun i c hc => ?_, fun _ _ _ => rfl⟩ (by simp)
    have : i ≠ k := fun e => by rw [e, hk] at hc; cases hc
    simp [this]
theorem nj_build0 (i : Nat) (hT : TTOk P T) {t e sz by_ d k : Nat} {zc : List CV} (hi : all[i]? = some o) (hg : o.guard = none) (hd : o.dst = some d) (ho : o.op = .buildSlice t 0 #[]) (hn : Nat.blt d nt = true) (ht : look T.sl t = some e) (he : look T.el e = some (sz, by_, zc)) (hsz : Nat.blt 0 sz = true) (hk : lkk ⟨tm, bx, ks⟩ k = none)
    (hb : (oB.all fun i => (look bx i).isSome) = true) (hk' : (oK.all fun k => (lkk ⟨tm, bx, ks⟩ k).isSome) = true) (hn' : (nK.all fun k => (lkk ⟨tm, bx, ks⟩ k).isSome) = true)
    (h : OpsN P C nt Q all oB oK (k :: nK) hd' (listed.setIfInBounds i true) fuel ⟨(d, .one (.key k)) :: tm, bx, (k, some ⟨false, e, sz, 0, []⟩) :: ks⟩) : OpsNJ P C nt Q all oB oK nK hd' listed fuel i ⟨tm, bx, ks⟩ :=
  nj_of i hi hg fun wb L a w hr hs hw hB hK hN => (efn_build0 hT ho hd hn ht he hsz hk).run L a w hr _ _ fun L' σ' a' w' h1 h2 h3 h4 => ⟨fun _ => hs.chg h3.chg, h.run wb L' a' w' (by rw [h1] at h2; exact h2) (hs.chg h3.chg) hw
    (fun j hj => by
      obtain ⟨x, hx⟩ := Option.isSome_iff_exists.1 (List.all_eq_true.1 hb j hj)
      rw [h3.box j x hx]; exact hB j hj)
    (fun j hj => by
      obtain ⟨c, hc⟩ := Option.isSome_iff_exists.1 (List.all_eq_true.1 hk' j hj)
      rw [h3.key j c hc]; exact hK j hj)
    (fun j hj => by
      rcases List.mem_cons.1 hj with rfl | hj
      · exact fun b hb' => Nat.le_trans hs.1 (h4 b hb')
      · obtain ⟨c, hc⟩ := Option.isSome_iff_exists.1 (List.all_eq_true.1 hn' j hj)
        rw [h3.key j c hc]; exact hN j hj)⟩
/-- plain cells that are read, onto a new key -/
theorem nj_appV (i : Nat) (hT : TTOk P T) {t e sz by_ d k m : Nat} {zc : List CV} {c : KC} {J : List Nat} {e2 : Nat} {ds cs : List DV} (hi : all[i]? = some o) (hg : o.guard = none) (hd : o.dst = some d) (ho : o.op = .call { callee := .builtin .append, args := #[x, y], argTypes := #[t, t] }) (hnt : Nat.blt d nt = true) (ht : look T.sl t = some e) (he : look T.el e = some (sz, by_, zc)) (hl0 : zc.length = sz)
    (hx : Ev P C nt ⟨tm, bx, ks⟩ x (.one (.key k))) (hk : lkk ⟨tm, bx, ks⟩ k = some c) (hce : c.e = e) (hcs : c.sz = sz) (hy : Ev P C nt ⟨tm, bx, ks⟩ y (.one (.dv J (.sl e2 sz m ds)))) (hp : ds.all DV.plain = true) (hb : (c.n + m) * by_ ≤ 140737488355328) (h63 : c.n + m ≤ 9223372036854775807) {n : Nat} (hn : c.n + m = n) (hcc : c.cs ++ ds = cs)
    (hkn : nK.contains k = true) (hko : oK.contains k = false)
    (h : OpsN P C nt Q all oB oK nK hd' (listed.setIfInBounds i true) fuel ⟨(d, .one (.key k)) :: killT [k] [k] tm, killB [k] [k] bx, (k, some ⟨false, e, sz, n, cs⟩) :: ks⟩) : OpsNJ P C nt Q all oB oK nK hd' listed fuel i ⟨tm, bx, ks⟩ :=
  nj_of i hi hg fun wb L a w hr hs hw hB hK hN => by
    have h1 := hx.run L a w hr
    have h2 := hy.run L a w hr
    simp only [SVr, CVr] at h1 h2
    obtain ⟨A, cap, vs, e1, hrow, hlay⟩ := lay_row h2
    subst hn; subst hcc
    have hkn' : k ∈ nK := by simpa using hkn
    refine app_wpX hT ho hd (by simpa [Nat.blt_eq] using hnt) ht he hl0 hr hk hce hcs h1 e1 (js := []) (by simp) (by simp) hrow (own_plainL hp hlay) (by simp) (by simp) (by simpa [maxLen] using h63) hb (fun L' a' w' hr' hf => ?_)
    have hs' : SW wb w' := ⟨Nat.le_trans hs.1 hf.chg.size, fun b hb' => (hf.chg.block b (Nat.lt_of_lt_of_le hb' hs.1) (fun hm => absurd (hN k hkn' b hm) (by omega))).trans (hs.2 b hb')⟩
    exact ⟨fun _ => hs', h.run wb L' a' w' hr' hs' hw (fun j hj => by rw [hf.bb]; exact hB j hj)
      (fun j hj => by
        have hjk : j ≠ k := fun e => by rw [e] at hj; rw [List.contains_iff_mem.2 hj] at hko; cases hko
        rw [hf.fp j hjk]; exact hK j hj)
      (fun j hj b hb' => by
        by_cases hjk : j = k
        · subst hjk
          rcases hf.new b hb' with h5 | ⟨q, hq, _⟩ | h5
          · exact hN j hj b h5
          · simp at hq
          · exact Nat.le_trans hs.1 h5
        · rw [hf.fp j hjk] at hb'; exact hN j hj b hb')⟩
/-- the last operation, whatever it writes -/
theorem nj_last (i : Nat) {σ₁ : St} (hi : all[i]? = some o) (hg : o.guard = none) (hh : hd' i = false) (hp : Ef P C nt o ⟨tm, bx, ks⟩ (fun σ' => σ' = σ₁)) (he : (Region.ready .any all (listed.setIfInBounds i true)).isEmpty = true)
    (h : Q .normal σ₁) : OpsNJ P C nt Q all oB oK nK hd' listed fuel i ⟨tm, bx, ks⟩ :=
  nj_of i hi hg fun wb L a w hr hs hw hB hK hN => hp.run L a w hr _ _ fun L' σ' a' w' h1 h2 => ⟨fun e => absurd e (by rw [hh]; simp), T_done he ⟨L', σ', h2, by rw [h1]; exact h⟩ fuel⟩
end
section
variable {P : Program} {C : Ctx} {nt : Nat} {σ : St} {o : Oper} {x y : Operand}
theorem min_if (m n : Int) : (if n < m then n else m) = min m n := by split <;> omega
theorem max_if (m n : Int) : (if n > m then n else m) = max m n := by split <;> omega
theorem pu_min2 {t t' : TypeId} {K J : List Nat} {m n : Int} (ho : o.op = .call { callee := .builtin .min, args := #[x, y], argTypes := #[t, t'] }) (hx : Ev P C nt σ x (.one (.dv K (.int .i64 m)))) (hy : Ev P C nt σ y (.one (.dv J (.int .i64 n)))) : Pu P C nt o σ (.one (.dv [] (.int .i64 (min m n)))) [] [] := Pu.mk fun L a w hr => by
  have h1 := hx.run L a w hr
  have h2 := hy.run L a w hr
  simp only [SVr, CVr, Lay] at h1 h2
  have hr' : InR .i64 (min m n) := by
    rcases Int.le_total m n with h | h
    · rw [Int.min_eq_left h]; exact h1.2
    · rw [Int.min_eq_right h]; exact h2.2
  refine ⟨.int .i64 (min m n), by simp only [SVr, CVr, Lay]; exact ⟨trivial, hr'⟩, fun w' _ => ?_⟩
  unfold execOp
  simp only [ho, resolve, invoke, builtin, Sem.run_bind, Sem.run_pure, Result.andThen_ok, List.map_toArray, List.map_cons, List.map_nil, h1.1, h2.1, run_min_int2, min_if]
theorem pu_max2 {t t' : TypeId} {K J : List Nat} {m n : Int} (ho : o.op = .call { callee := .builtin .max, args := #[x, y], argTypes := #[t, t'] }) (hx : Ev P C nt σ x (.one (.dv K (.int .i64 m)))) (hy : Ev P C nt σ y (.one (.dv J (.int .i64 n)))) : Pu P C nt o σ (.one (.dv [] (.int .i64 (max m n)))) [] [] := Pu.mk fun L a w hr => by
  have h1 := hx.run L a w hr
  have h2 := hy.run L a w hr
  simp only [SVr, CVr, Lay] at h1 h2
  have hr' : InR .i64 (max m n) := by
    rcases Int.le_total m n with h | h
    · rw [Int.max_eq_right h]; exact h2.2
    · rw [Int.max_eq_left h]; exact h1.2
  refine ⟨.int .i64 (max m n), by simp only [SVr, CVr, Lay]; exact ⟨trivial, hr'⟩, fun w' _ => ?_⟩
  unfold execOp
  simp only [ho, resolve, invoke, builtin, Sem.run_bind, Sem.run_pure, Result.andThen_ok, List.map_toArray, List.map_cons, List.map_nil, h1.1, h2.1, run_max_int2, max_if]
end
end Go.Proofs.Ytlogahkchenpdaa

