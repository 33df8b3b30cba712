/-
  The rules of the abstract logic for code: sequences, tests, blocks, loops, regions in the text's order and regions that draw it; functions and their contracts.
-/
import Derived.Test.YtbmgommbmhmbgaaRel
import Derived.Deep.LoopGhost
namespace Go.Proofs.Ytbmgommbmhmbgaa
open Go.RowKit
set_option linter.unusedVariables false
set_option linter.unusedSimpArgs false

section
variable (P : Program) (C : Ctx) (nt : Nat)
/-- where a piece of code may end -/
def QQ (Q : Exit → St → Prop) : Exit → Act → World → Prop
  | .panic _, _, _ => False
  | .outgrown, _, _ => False
  | e, a, w => ∃ L σ, Rel P C nt L σ a w ∧ Q e σ
structure Ok (Q : Exit → St → Prop) (c : Code) (σ : St) : Prop where
  run : ∀ L a w, Rel P C nt L σ a w → c.wp P (QQ P C nt Q) a w
def thenQ (N : St → Prop) (Q : Exit → St → Prop) : Exit → St → Prop
  | .normal, σ => N σ
  | e, σ => Q e σ
def blockQ (id : Nat) (Q : Exit → St → Prop) : Exit → St → Prop
  | .exit i, σ => if i = id then Q .normal σ else Q (.exit i) σ
  | e, σ => Q e σ
/-- an operand's value -/
structure Ev (σ : St) (x : Operand) (v : SV) : Prop where
  run : ∀ L a w, Rel P C nt L σ a w → SVr P C L w v (a.eval x)
/-- one state tells no more than another -/
structure Weak (σ σ' : St) : Prop where
  run : ∀ L a w, Rel P C nt L σ a w → ∃ L', Rel P C nt L' σ' a w
/-- an operation that only looks, at the keys Ks and the boxes Bs -/
structure Pu (o : Oper) (σ : St) (v : SV) (Ks Bs : List Nat) : Prop where
  run : ∀ L a w, Rel P C nt L σ a w → ∃ r, SVr P C L w v r ∧
  ∀ w', (∀ b, b < w.heap.size → okB C L Ks b ∨ (∃ i ∈ Bs, b = L.bb i) → w'.heap[b]? = w.heap[b]?) → (execOp a.eval o).run P w' = .ok (.value r) w'
/-- memory has grown, and what was known lies where it lay -/
structure Gr (σ : St) (L L' : Lyt) (w w' : World) : Prop where
  chg : Chg [] w w'
  key : ∀ k c, lkk σ k = some c → L'.fp k = L.fp k
  box : ∀ i x, look σ.bx i = some x → L'.bb i = L.bb i
/-- an operation that makes memory and writes nothing that was there -/
structure EfG (o : Oper) (σ : St) (R : St → Prop) : Prop where
  run : ∀ L a w, Rel P C nt L σ a w → ∀ K Q, (∀ L' σ' a' w', R σ' → Rel P C nt L' σ' a' w' → Gr σ L L' w w' → K a' w') → o.wp P a w K Q
/-- any operation -/
structure Ef (o : Oper) (σ : St) (R : St → Prop) : Prop where
  run : ∀ L a w, Rel P C nt L σ a w → ∀ K Q, (∀ L' σ' a' w', R σ' → Rel P C nt L' σ' a' w' → K a' w') → o.wp P a w K Q
/-- a call that answers a plain value -/
structure Pc (o : Oper) (σ : St) (R : SV → Prop) : Prop where
  run : ∀ L a w, Rel P C nt L σ a w → ∀ K Q, (∀ v r w', R v → v.keys = [] ∧ v.boxes = [] → SVr P C L w' v r → Chg [] w w' → K (a.put o.dst r) w') → o.wp P a w K Q
/-- the operations that are left of a region in the text's order -/
structure Ops (Q : Exit → St → Prop) (all : Array Oper) (rest : List Oper) (σ : St) : Prop where
  run : ∀ L a w, Rel P C nt L σ a w → wpList P all (QQ P C nt Q) rest a w
/-- what a guard says -/
structure Gd (σ : St) (all : Array Oper) (o : Oper) (g : Bool) : Prop where
  run : ∀ L a w, Rel P C nt L σ a w → Region.wanted o (yielded all a.tmps) = g
end
def svOk (σ : St) (v : SV) : Bool := (v.keys.all fun k => (lkk σ k).isSome) && (v.boxes.all fun b => (look σ.bx b).isSome)
section
variable {P : Program} {C : Ctx} {nt : Nat} {Q : Exit → St → Prop} {σ : St}
theorem EfG.ef {o : Oper} {R : St → Prop} (h : EfG P C nt o σ R) : Ef P C nt o σ R := Ef.mk fun L a w hr K Q hk => h.run L a w hr K Q (fun L' σ' a' w' h1 h2 _ => hk L' σ' a' w' h1 h2)
theorem svOk_spec {v : SV} (h : svOk σ v = true) : (∀ k ∈ v.keys, (lkk σ k).isSome = true) ∧ (∀ b ∈ v.boxes, (look σ.bx b).isSome = true) := by
  simpa only [svOk, Bool.and_eq_true, List.all_eq_true] using h
theorem QQ_mono {Q' : Exit → St → Prop} (h : ∀ e σ, Q e σ → Q' e σ) : ∀ e a w, QQ P C nt Q e a w → QQ P C nt Q' e a w := by
  intro e a w hq
  cases e <;> first | exact hq | (obtain ⟨L, σ, h1, h2⟩ := hq; exact ⟨L, σ, h1, h _ _ h2⟩)
theorem ok_weak {σ' : St} {c : Code} (h : Weak P C nt σ σ') (k : Ok P C nt Q c σ') : Ok P C nt Q c σ := Ok.mk fun L a w hr => by
  obtain ⟨L', h1⟩ := h.run L a w hr
  exact k.run L' a w h1
theorem Weak.refl : Weak P C nt σ σ := Weak.mk fun L _ _ h => ⟨L, h⟩
theorem weak_sub {σ' : St} (h1 : SubL σ'.tm σ.tm) (h2 : SubL σ'.bx σ.bx) (h3 : SubL σ'.ks σ.ks) (h4 : σ'.okB = true) : Weak P C nt σ σ' := Weak.mk fun L _ _ h => ⟨L, h.weak h1 h2 h3 h4⟩
theorem ok_seq {x y : Code} (h : Ok P C nt (thenQ (Ok P C nt Q y) Q) x σ) : Ok P C nt Q (.seq x y) σ := Ok.mk fun L a w hr => by
  refine wp_seq (wp_mono (h.run L a w hr) ?_)
  intro e a w hq
  cases e with
  | normal => obtain ⟨L, σ, h1, h2⟩ := hq; exact h2.run L a w h1
  | exit => exact hq
  | goto => exact hq
  | ret => exact hq
  | panic => exact hq
  | outgrown => exact hq
theorem ok_skip (h : Q .normal σ) : Ok P C nt Q .skip σ := Ok.mk fun L _ _ hr => wp_skip ⟨L, σ, hr, h⟩
theorem ok_exit {id : Nat} (h : Q (.exit id) σ) : Ok P C nt Q (.exit id) σ := Ok.mk fun L _ _ hr => wp_exit ⟨L, σ, hr, h⟩
theorem ok_ret (h : Q .ret σ) : Ok P C nt Q .ret σ := Ok.mk fun L _ _ hr => wp_ret ⟨L, σ, hr, h⟩
theorem ok_block {id : Nat} {c : Code} (h : Ok P C nt (blockQ id Q) c σ) : Ok P C nt Q (.block id c) σ := Ok.mk fun L a w hr => by
  refine wp_block (wp_mono (h.run L a w hr) ?_)
  intro e a w hq
  cases e with
  | exit i =>
    obtain ⟨L, σ, h1, h2⟩ := hq
    simp only [Exit.inBlock, blockQ] at h2 ⊢
    split
    · rename_i e; rw [if_pos e] at h2; exact ⟨L, σ, h1, h2⟩
    · rename_i e; rw [if_neg e] at h2; exact ⟨L, σ, h1, h2⟩
  | normal => exact hq
  | goto => exact hq
  | ret => exact hq
  | panic => exact hq
  | outgrown => exact hq
theorem ok_cond {c : Operand} {x y : Code} {K : List Nat} {t : Bool} (hc : Ev P C nt σ c (.one (.dv K (.bool t)))) (h1 : t = true → Ok P C nt Q x σ) (h2 : t = false → Ok P C nt Q y σ) : Ok P C nt Q (.cond c x y) σ := Ok.mk fun L a w hr => by
  have h := hc.run L a w hr
  simp only [SVr, CVr, Lay] at h
  exact wp_cond_split h (fun ht => (h1 ht).run L a w hr) (fun ht => (h2 ht).run L a w hr)
theorem ok_loop {ι : Type} (f : ι → St) (I : ι → Prop) (μ : ι → Nat) (i0 : ι) {c : Code} (h0 : I i0) (hw : Weak P C nt σ (f i0))
    (round : ∀ i, I i → Ok P C nt (thenQ (fun σ' => ∃ j, I j ∧ μ j < μ i ∧ Weak P C nt σ' (f j)) Q) c (f i)) : Ok P C nt Q (.loop c) σ := Ok.mk fun L a w hr => by
  obtain ⟨L', hr'⟩ := hw.run L a w hr
  refine wp_loop_ghost (fun n a w => ∃ i, I i ∧ μ i = n ∧ ∃ L, Rel P C nt L (f i) a w) (μ i0) ⟨i0, h0, rfl, L', hr'⟩ ?_
  rintro n a w ⟨i, hi, rfl, L, hr⟩
  refine wp_mono ((round i hi).run L a w hr) ?_
  intro e a w hq
  cases e with
  | normal =>
    obtain ⟨L, σ', h1, j, hj, hlt, hwk⟩ := hq
    obtain ⟨L', h2⟩ := hwk.run L a w h1
    exact ⟨μ j, hlt, j, hj, rfl, L', h2⟩
  | exit => exact hq
  | goto => exact hq
  | ret => exact hq
  | panic => exact hq
  | outgrown => exact hq
theorem ok_region {id : Nat} {l : List Oper} (h : Ops P C nt Q l.toArray l σ) : Ok P C nt Q (.region id l.toArray false) σ := Ok.mk fun L a w hr => wp_region_lit (h.run L a w hr)
theorem ops_nil {all : Array Oper} (h : Q .normal σ) : Ops P C nt Q all [] σ := Ops.mk fun L _ _ hr => wpList_nil ⟨L, σ, hr, h⟩
theorem ops_pure {all : Array Oper} {rest : List Oper} {o : Oper} {d : Nat} {v : SV} {Ks Bs : List Nat} (hg : o.guard = none) (hd : o.dst = some d) (hp : Pu P C nt o σ v Ks Bs) (hn : Nat.blt d nt = true) (hk : svOk σ v = true)
    (h : Ops P C nt Q all rest (σ.put d v)) : Ops P C nt Q all (o :: rest) σ := Ops.mk fun L a w hr => by
  refine wpList_plain hg fun K hK => ?_
  obtain ⟨r, h1, h2⟩ := hp.run L a w hr
  unfold Oper.wp
  rw [h2 w (fun _ _ _ => rfl)]
  simp only [Oper.upon]
  refine hK _ _ (h.run L _ w ?_)
  rw [hd]
  exact hr.put (by simpa [Nat.blt_eq] using hn) h1 (svOk_spec hk).1 (svOk_spec hk).2
theorem ops_ef {all : Array Oper} {rest : List Oper} {o : Oper} {R : St → Prop} (hg : o.guard = none) (hp : Ef P C nt o σ R) (h : ∀ σ', R σ' → Ops P C nt Q all rest σ') : Ops P C nt Q all (o :: rest) σ := Ops.mk fun L a w hr =>
  wpList_plain hg fun K hK => hp.run L a w hr _ _ fun L' σ' a' w' h1 h2 => hK _ _ ((h σ' h1).run L' a' w' h2)
/-- an operation behind a guard: its value stands if the guard holds -/
theorem ops_pure_g {all : Array Oper} {rest : List Oper} {o : Oper} {d : Nat} {g : Bool} {v : SV} {Ks Bs : List Nat} (hG : Gd P C nt σ all o g) (hd : o.dst = some d) (hp : g = true → Pu P C nt o σ v Ks Bs) (hn : Nat.blt d nt = true) (hk : svOk σ v = true)
    (h : Ops P C nt Q all rest (σ.put d (.opt g v))) : Ops P C nt Q all (o :: rest) σ := Ops.mk fun L a w hr => by
  refine wpList_step fun K hK => ?_
  have hd' : d < nt := by simpa [Nat.blt_eq] using hn
  rw [hG.run L a w hr]
  split
  · rename_i e
    obtain ⟨r, h1, h2⟩ := (hp e).run L a w hr
    unfold Oper.wp
    rw [h2 w (fun _ _ _ => rfl)]
    simp only [Oper.upon]
    refine hK _ _ (h.run L _ w ?_)
    rw [hd]
    exact hr.put hd' (by simp only [SVr]; exact ⟨fun _ => h1, fun e' => by rw [e] at e'; cases e'⟩) (svOk_spec hk).1 (svOk_spec hk).2
  · rename_i e
    refine hK _ _ (h.run L _ w ?_)
    rw [hd]
    exact hr.put hd' (by simp only [SVr]; exact ⟨fun e' => absurd e' e, fun _ => trivial⟩) (svOk_spec hk).1 (svOk_spec hk).2
theorem ops_call_g {all : Array Oper} {rest : List Oper} {o : Oper} {d : Nat} {g : Bool} {R : SV → Prop} {v : SV} (hG : Gd P C nt σ all o g) (hd : o.dst = some d) (hp : g = true → Pc P C nt o σ R) (hR : ∀ u, R u → u = v) (hn : Nat.blt d nt = true) (hk : svOk σ v = true)
    (h : Ops P C nt Q all rest (σ.put d (.opt g v))) : Ops P C nt Q all (o :: rest) σ := Ops.mk fun L a w hr => by
  refine wpList_step fun K hK => ?_
  have hd' : d < nt := by simpa [Nat.blt_eq] using hn
  rw [hG.run L a w hr]
  split
  · rename_i e
    refine (hp e).run L a w hr _ _ fun u r w' hu _ h1 hc => hK _ _ (h.run L _ w' ?_)
    rw [hd]
    exact (hr.grow hc).put hd' (by simp only [SVr]; exact ⟨fun _ => by rw [← hR u hu]; exact h1, fun e' => by rw [e] at e'; cases e'⟩) (svOk_spec hk).1 (svOk_spec hk).2
  · rename_i e
    refine hK _ _ (h.run L _ w ?_)
    rw [hd]
    exact hr.put hd' (by simp only [SVr]; exact ⟨fun e' => absurd e' e, fun _ => trivial⟩) (svOk_spec hk).1 (svOk_spec hk).2
theorem Pc.efg {o : Oper} {d : Nat} {R : SV → Prop} (hd : o.dst = some d) (hn : Nat.blt d nt = true) (hp : Pc P C nt o σ R) : EfG P C nt o σ (fun σ' => ∃ v, R v ∧ σ' = σ.put d v) := EfG.mk fun L a w hr K Q hk =>
  hp.run L a w hr K Q fun v r w' hv hkb h1 hc => hk L (σ.put d v) _ w' ⟨v, hv, rfl⟩ (by
    rw [hd]
    exact (hr.grow hc).put (by simpa [Nat.blt_eq] using hn) h1 (by rw [hkb.1]; simp) (by rw [hkb.2]; simp)) ⟨hc, fun _ _ _ => rfl, fun _ _ _ => rfl⟩
/-! ### guards -/
theorem gd_none {all : Array Oper} {o : Oper} (h : o.guard = none) : Gd P C nt σ all o true := Gd.mk fun _ _ _ _ => by simp [Region.wanted, h]
theorem gd_bool {all : Array Oper} {o oj : Oper} {j d : Nat} {want b : Bool} {K : List Nat} (h : o.guard = some (j, want)) (hj : all[j]? = some oj) (hd : oj.dst = some d) (hn : Nat.blt d nt = true) (hv : look σ.tm d = some (.one (.dv K (.bool b)))) : Gd P C nt σ all o (b == want) := Gd.mk fun L a w hr => by
  have h1 := hr.tm d _ hv
  simp only [SVr, CVr, Lay] at h1
  have hlt : d < a.tmps.size := by rw [hr.sz]; simpa [Nat.blt_eq] using hn
  have h2 : a.tmps[d]? = some (.bool b) := by
    rw [Array.getD_eq_getD_getElem?] at h1
    rw [Array.getElem?_eq_getElem hlt] at h1 ⊢
    simpa using h1
  have hy : yielded all a.tmps j = some b := by simp [yielded, hj, hd, h2]
  simp only [Region.wanted, h, hy]
  cases b <;> cases want <;> rfl
theorem gd_opt {all : Array Oper} {o oj : Oper} {j d : Nat} {want b g : Bool} {K : List Nat} (h : o.guard = some (j, want)) (hj : all[j]? = some oj) (hd : oj.dst = some d) (hn : Nat.blt d nt = true) (hv : look σ.tm d = some (.opt g (.one (.dv K (.bool b))))) : Gd P C nt σ all o (g && (b == want)) := Gd.mk fun L a w hr => by
  have h1 := hr.tm d _ hv
  simp only [SVr, CVr, Lay] at h1
  have hlt : d < a.tmps.size := by rw [hr.sz]; simpa [Nat.blt_eq] using hn
  cases g with
  | true =>
    have h2 : a.tmps[d]? = some (.bool b) := by
      have h1 := h1.1 rfl
      rw [Array.getD_eq_getD_getElem?] at h1
      rw [Array.getElem?_eq_getElem hlt] at h1 ⊢
      simpa using h1
    have hy : yielded all a.tmps j = some b := by simp [yielded, hj, hd, h2]
    simp only [Region.wanted, h, hy]
    cases b <;> cases want <;> rfl
  | false =>
    have h2 : a.tmps[d]? = some undef := by
      have h1 := h1.2 rfl
      rw [Array.getD_eq_getD_getElem?] at h1
      rw [Array.getElem?_eq_getElem hlt] at h1 ⊢
      simpa using h1
    have hy : yielded all a.tmps j = none := by simp [yielded, hj, hd, h2, undef]
    simp only [Region.wanted, h, hy]
    rfl
/-! ### operands -/
theorem ev_tmp {t : Nat} {v : SV} (h : look σ.tm t = some v) : Ev P C nt σ (.tmp t) v := Ev.mk fun _ _ _ hr => hr.tm t v h
theorem ev_opt {t : Nat} {g : Bool} {v : SV} (h : look σ.tm t = some (.opt g v)) (hg : g = true) : Ev P C nt σ (.tmp t) v := Ev.mk fun _ _ _ hr => by
  have h1 := hr.tm t _ h
  simp only [SVr] at h1
  exact h1.1 hg
theorem ev_int {k : IntKind} {n : Int} (h : InR k n) : Ev P C nt σ (.const (.int k n)) (.one (.dv [] (.int k n))) := Ev.mk fun _ _ _ _ => by simp only [SVr, CVr, Lay]; exact ⟨rfl, h⟩
theorem ev_bool {b : Bool} : Ev P C nt σ (.const (.bool b)) (.one (.dv [] (.bool b))) := Ev.mk fun _ _ _ _ => by simp only [SVr, CVr, Lay]; rfl
theorem ev_str {s : ByteArray} (h : s.size ≤ 9223372036854775807) : Ev P C nt σ (.const (.string s)) (.one (.dv [] (.str s))) := Ev.mk fun _ _ _ _ => by simp only [SVr, CVr, Lay]; exact ⟨rfl, h⟩
theorem ev_nil : Ev P C nt σ (.const (.slice none 0 0)) (.one .nil) := Ev.mk fun _ _ _ _ => by simp only [SVr, CVr]; rfl
/-- nil as a view of an empty slice -/
theorem ev_nilv {x : Operand} (e sz : Nat) (hs : 0 < sz) (h : Ev P C nt σ x (.one .nil)) : Ev P C nt σ x (.one (.dv [] (.sl e sz 0 []))) := Ev.mk fun L a w hr => by
  have h1 := h.run L a w hr
  simp only [SVr, CVr] at h1
  rw [h1]
  simp only [SVr, CVr, Lay]
  exact ⟨none, 0, [], rfl, Nat.le_refl _, by simp [maxLen], hs, by simp, by simp [LayL], fun h => by omega⟩
/-- a key, or a nested cell of one, as a view -/
theorem ev_keyv {x : Operand} {k : Nat} {c : KC} (h : Ev P C nt σ x (.one (.key k))) (hk : lkk σ k = some c) : Ev P C nt σ x (.one (.dv [k] (.sl c.e c.sz c.n c.cs))) := Ev.mk fun L a w hr => by
  have h1 := h.run L a w hr
  simp only [SVr, CVr] at h1 ⊢
  rw [h1]
  exact own_lay _ _ _ (hr.ks k c hk).1 (fun b hb => .inr ⟨k, by simp, hb⟩)
theorem ev_nestv {x : Operand} {k o : Nat} {d : DV} (h : Ev P C nt σ x (.one (.nest k o d))) : Ev P C nt σ x (.one (.dv [k] d)) := Ev.mk fun L a w hr => by
  have h1 := h.run L a w hr
  simp only [SVr, CVr] at h1 ⊢
  exact h1.1
end
end Go.Proofs.Ytbmgommbmhmbgaa
