/-
  The rules of a small program logic over abstract states: no program is in sight but in the table of its types. Conditions: none.
-/
import Derived.LoopN
import Derived.Test.YtoigmlbidpocnaaGreatU2
namespace Go.Proofs.YtoigmlbidpocnaaGreat
open Go.RowKit
set_option linter.unusedVariables false
section
variable {P : Program} {C : Ctx} {nt : Nat} {o : Oper} {x y : Operand} {T : TT} {Q : Exit → St → Prop} {N : St → Prop} {all : Array Oper} {rest : List Oper} {σ : St} {tm : List (Nat × SV)} {bx : List (Nat × TypeId × List CV)} {ks : List (Nat × Option KC)} {d t : Nat} {v : SV} {ty : TypeId} {ps : String} {af : Array Edge}
theorem yA (e : o = { dst := some d, op := .move (.tmp t), type := ty, pos := ps, after := af, guard := none }) (hl : look tm t = some v) (hk : (Nat.blt d nt && svOk ⟨tm, bx, ks⟩ v) = true) (h : Ops P C nt Q all rest ⟨(d, v) :: tm, bx, ks⟩) : Ops P C nt Q all (o :: rest) ⟨tm, bx, ks⟩ := o_pure (by rw [e]) (by rw [e]) (pu_move (.inl (by rw [e])) (ev_tmp hl)) (Bool.and_eq_true_iff.1 hk).1 (Bool.and_eq_true_iff.1 hk).2 h
theorem yB (e : o = { dst := some d, op := .assign (.tmp t), type := ty, pos := ps, after := af, guard := none }) (hl : look tm t = some v) (hk : (Nat.blt d nt && svOk ⟨tm, bx, ks⟩ v) = true) (h : Ops P C nt Q all rest ⟨(d, v) :: tm, bx, ks⟩) : Ops P C nt Q all (o :: rest) ⟨tm, bx, ks⟩ := o_pure (by rw [e]) (by rw [e]) (pu_move (.inr (by rw [e])) (ev_tmp hl)) (Bool.and_eq_true_iff.1 hk).1 (Bool.and_eq_true_iff.1 hk).2 h
theorem yC {s f off b i : Nat} (hT : TTOk P T) (e : o = { dst := some d, op := .fieldAddr s (.tmp t) f, type := ty, pos := ps, after := af, guard := none }) (h1 : look T.of (1000 * s + f) = some off) (hf : Nat.blt f 1000 = true) (hl : look tm t = some (.box b i)) (hk : (Nat.blt d nt && svOk ⟨tm, bx, ks⟩ (.box b (i + off))) = true) (h : Ops P C nt Q all rest ⟨(d, .box b (i + off)) :: tm, bx, ks⟩) : Ops P C nt Q all (o :: rest) ⟨tm, bx, ks⟩ := o_pure (by rw [e]) (by rw [e]) (pu_fieldBox hT (by rw [e]) h1 hf (ev_tmp hl)) (Bool.and_eq_true_iff.1 hk).1 (Bool.and_eq_true_iff.1 hk).2 h
theorem yD {s n b i t' : Nat} {cs : List CV} (hT : TTOk P T) (e : o = { dst := some d, op := .load s (.tmp t), type := ty, pos := ps, after := af, guard := none }) (h1 : look T.ag s = some n) (hl : look tm t = some (.box b i)) (hb : look bx b = some (t', cs)) (h2 : Nat.ble (i + n) cs.length = true) (hk : (Nat.blt d nt && svOk ⟨tm, bx, ks⟩ (.agg (sub i n cs))) = true) (h : Ops P C nt Q all rest ⟨(d, .agg (sub i n cs)) :: tm, bx, ks⟩) : Ops P C nt Q all (o :: rest) ⟨tm, bx, ks⟩ := o_pure (by rw [e]) (by rw [e]) (pu_loadBoxA hT (by rw [e]) h1 (ev_tmp hl) hb h2) (Bool.and_eq_true_iff.1 hk).1 (Bool.and_eq_true_iff.1 hk).2 h
theorem yE {s b i t' : Nat} {cs : List CV} {c : CV} {u : Unit} (hT : TTOk P T) (e : o = { dst := some d, op := .load s (.tmp t), type := ty, pos := ps, after := af, guard := none }) (h1 : look T.on s = some u) (hl : look tm t = some (.box b i)) (hb : look bx b = some (t', cs)) (h2 : cs[i]? = some c) (hk : (Nat.blt d nt && svOk ⟨tm, bx, ks⟩ (.one c)) = true) (h : Ops P C nt Q all rest ⟨(d, .one c) :: tm, bx, ks⟩) : Ops P C nt Q all (o :: rest) ⟨tm, bx, ks⟩ := o_pure (by rw [e]) (by rw [e]) (pu_loadBox1 hT (by rw [e]) h1 (ev_tmp hl) hb h2) (Bool.and_eq_true_iff.1 hk).1 (Bool.and_eq_true_iff.1 hk).2 h
theorem yG {k : IntKind} {n : Int} (e : o = { dst := some d, op := .assign (.const (.int k n)), type := ty, pos := ps, after := af, guard := none }) (h1 : (decide (k.min ≤ n) && decide (n ≤ k.max)) = true) (hk : (Nat.blt d nt && svOk ⟨tm, bx, ks⟩ (.one (.dv [] (.int k n)))) = true) (h : Ops P C nt Q all rest ⟨(d, .one (.dv [] (.int k n))) :: tm, bx, ks⟩) : Ops P C nt Q all (o :: rest) ⟨tm, bx, ks⟩ := o_pure (by rw [e]) (by rw [e]) (pu_move (.inr (by rw [e])) (ev_int (inR_lit h1))) (Bool.and_eq_true_iff.1 hk).1 (Bool.and_eq_true_iff.1 hk).2 h
theorem yH {b : Bool} (e : o = { dst := some d, op := .assign (.const (.bool b)), type := ty, pos := ps, after := af, guard := none }) (hk : (Nat.blt d nt && svOk ⟨tm, bx, ks⟩ (.one (.dv [] (.bool b)))) = true) (h : Ops P C nt Q all rest ⟨(d, .one (.dv [] (.bool b))) :: tm, bx, ks⟩) : Ops P C nt Q all (o :: rest) ⟨tm, bx, ks⟩ := o_pure (by rw [e]) (by rw [e]) (pu_move (.inr (by rw [e])) ev_bool) (Bool.and_eq_true_iff.1 hk).1 (Bool.and_eq_true_iff.1 hk).2 h
theorem yR {id : Nat} {l : List Oper} {c : Code} (h : Ops P C nt (thenQ (Ok P C nt Q c) Q) l.toArray l σ) : Ok P C nt Q (.seq (.region id l.toArray false) c) σ := ok_seq (ok_region h)
theorem yN (h : N σ) : Ops P C nt (thenQ N Q) all [] σ := ops_nil (then_n h)
theorem yO {Ks Bs : List Nat} (hg : o.guard = none) (hd : o.dst = some d) (hp : Pu P C nt o ⟨tm, bx, ks⟩ v Ks Bs) (hk : (Nat.blt d nt && svOk ⟨tm, bx, ks⟩ v) = true) (h : Ops P C nt Q all rest ⟨(d, v) :: tm, bx, ks⟩) : Ops P C nt Q all (o :: rest) ⟨tm, bx, ks⟩ := o_pure hg hd hp (Bool.and_eq_true_iff.1 hk).1 (Bool.and_eq_true_iff.1 hk).2 h
theorem yS {s b i t' t2 sz by_ : Nat} {zc cs : List CV} {p : Bool × List CV} (hT : TTOk P T) (e : o = { dst := none, op := .store s (.tmp t) (.tmp t2), type := ty, pos := ps, after := af, guard := none }) (ht : look T.el s = some (sz, by_, zc)) (hx : look tm t = some (.box b i)) (hy : look tm t2 = some v) (hp : v.part = some p)
  (hb : look bx b = some (t', cs)) (hl : p.2.length = sz) (hk : (svOk ⟨tm, bx, ks⟩ v && (Nat.ble (i + sz) cs.length && (cs.flatMap CV.keys).all (fun k => (lkk ⟨tm, bx, ks⟩ k).isSome))) = true) (h : Ops P C nt Q all rest ⟨tm, (b, t', setR i p.2 cs) :: bx, ks⟩) : Ops P C nt Q all (o :: rest) ⟨tm, bx, ks⟩ := by
 simp only [Bool.and_eq_true] at hk
 exact o_store hT (by rw [e]) (by rw [e]) (by rw [e]) ht (ev_tmp hx) (ev_tmp hy) hp hk.1 hb hl hk.2.1 hk.2.2 h
theorem yF {c : Code} {cs : List CV} {K : List Nat} {dd : DV} (t i : Nat) (hl : look σ.tm t = some (.agg cs)) (hi : cs[i]? = some (.dv K dd)) (h : Fact dd → Ok P C nt Q c σ) : Ok P C nt Q c σ := ok_factA (x := .tmp t) i (ev_tmp hl) hi h
theorem yX {s : TypeId} {p : Bool × List CV} (e : o = { dst := some d, op := .box s (.tmp t), type := ty, pos := ps, after := af, guard := none }) (hl : look tm t = some v) (hp : v.part = some p) (hk : svOk ⟨tm, bx, ks⟩ v = true) (hn : Nat.blt d nt = true) (hi : look bx d = none)
  (h : Ops P C nt Q all rest ⟨(d, .box d 0) :: tm, (d, s, p.2) :: bx, ks⟩) : Ops P C nt Q all (o :: rest) ⟨tm, bx, ks⟩ := o_box (by rw [e]) (by rw [e]) (by rw [e]) (ev_tmp hl) hp hk hn hi h
theorem kk : (∀ (α β : Type) (f : α → β) (a : α) (l : List α), (a :: l).map f = f a :: l.map f) ∧ (∀ (α β : Type) (f : α → β), ([] : List α).map f = []) ∧ (∀ (p : Nat → Bool) (a : Nat) (l : List Nat), (a :: l).any p = (p a || l.any p)) ∧ (∀ p : Nat → Bool, ([] : List Nat).any p = false) ∧ (∀ (a b : Nat) (l : List Nat), (a :: l).contains b = (b == a || l.contains b)) ∧ (∀ b : Nat, ([] : List Nat).contains b = false) ∧
  (∀ (α : Type) (l : List α), [] ++ l = l) ∧ (∀ (α : Type) (a : α) (l m : List α), a :: l ++ m = a :: (l ++ m)) ∧ (∀ b, (b || false) = b) ∧ (∀ b, (false || b) = b) ∧ (∀ b, (b || true) = true) ∧ (∀ b, (true || b) = true) ∧ (∀ (α : Type) (a b : α), (bif true then a else b) = a) ∧ (∀ (α : Type) (a b : α), (bif false then a else b) = b) := by
 refine ⟨fun _ _ _ _ _ => rfl, fun _ _ _ => rfl, fun _ _ _ => rfl, fun _ => rfl, fun a b l => List.contains_cons, fun _ => rfl, fun _ _ => rfl, fun _ _ _ _ => rfl, ?_, ?_, ?_, ?_, fun _ _ _ => rfl, fun _ _ _ => rfl⟩ <;> (intro b; cases b <;> rfl)
theorem yQ {c c' : Code} {K : List Nat} {b : Bool} (hl : look σ.tm t = some (.one (.dv K (.bool b)))) (h1 : b = true → Ok P C nt Q c σ) (h2 : b = false → Ok P C nt Q c' σ) : Ok P C nt Q (.cond (.tmp t) c c') σ := ok_cond (ev_tmp hl) h1 h2
theorem yP {ty' s : TypeId} {K : List Nat} {m n : Int} (e : o = { dst := some d, op := .binOp .add s (.tmp t) (.const (.int .i64 n)) ty', type := ty, pos := ps, after := af, guard := none }) (hl : look tm t = some (.one (.dv K (.int .i64 m)))) (hi : (decide (IntKind.i64.min ≤ n) && decide (n ≤ IntKind.i64.max)) = true) (h1 : -9223372036854775808 ≤ m + n) (h2 : m + n ≤ 9223372036854775807) (hk : (Nat.blt d nt && svOk ⟨tm, bx, ks⟩ (.one (.dv [] (.int .i64 (m + n))))) = true) (h : Ops P C nt Q all rest ⟨(d, .one (.dv [] (.int .i64 (m + n)))) :: tm, bx, ks⟩) : Ops P C nt Q all (o :: rest) ⟨tm, bx, ks⟩ := o_pure (by rw [e]) (by rw [e]) (pu_addR (by rw [e]) (ev_tmp hl) (ev_int (inR_lit hi)) (inR64 h1 h2)) (Bool.and_eq_true_iff.1 hk).1 (Bool.and_eq_true_iff.1 hk).2 h
end
end Go.Proofs.YtoigmlbidpocnaaGreat

namespace Go.Proofs.YtoigmlbidpocnaaGreat
open Go.RowKit
set_option linter.unusedVariables false
set_option linter.unusedSimpArgs false
section
variable {P : Program} {C : Ctx} {nt : Nat} {σ : St} {o : Oper} {x y : Operand} {T : TT} {L : Lyt} {a : Act} {w : World}
theorem pu_nilB {b i : Nat} (ho : o.op = .nilCheck x) (hx : Ev P C nt σ x (.box b i)) : Pu P C nt o σ (.box b i) [] [] := Pu.mk fun L a w hr => by
 have h1 := hx.run L a w hr
 simp only [SVr] at h1
 refine ⟨_, by simp only [SVr]; rfl, fun w' _ => ?_⟩
 unfold execOp
 simp only [ho, h1, Sem.run_pure]
end
end Go.Proofs.YtoigmlbidpocnaaGreat

namespace Go.Proofs.YtoigmlbidpocnaaGreat
open Go.RowKit
open Go.Proofs
set_option linter.unusedVariables false
set_option linter.unusedSimpArgs false
structure EFn (P : Program) (f : FuncId) (us : List SV) {ι : Type} (p : ι → Prop) (v : ι → SV) (kk : ι → List (Nat × Option KC)) : Prop where
 ok : FnOk P f [] [] us fun u σ' => ∃ i, p i ∧ u = v i ∧ σ'.ks = kk i
structure BFn (P : Program) (f : FuncId) (us : List SV) (t : TypeId) (dd : DV) (ps : List CV) {ι : Type} (p : ι → Prop) (v : ι → SV) (kk : ι → List (Nat × Option KC)) (qs : ι → List CV) : Prop where
 ok : FnOkS P f [(0, t, .arg 900001 dd :: ps)] [] (.abox 0 :: us) fun u σ' => ∃ i, p i ∧ u = v i ∧ σ'.ks = kk i ∧ look σ'.bx 0 = some (t, .arg 900001 dd :: qs i) ∧ look σ'.tm 0 = some (.abox 0)
structure NFn (P : Program) (f : FuncId) (t : TypeId) (dd : DV) {ι : Type} (p : ι → Prop) (qs : ι → List CV) : Prop where
 ok : FnOk P f [] [] [.one (.arg 0 dd)] fun u σ' => ∃ i n, p i ∧ u = .box n 0 ∧ look σ'.bx n = some (t, .arg 0 dd :: qs i)
section
variable {P : Program} {C : Ctx} {nt : Nat} {σ : St} {L : Lyt} {a : Act} {w : World} {o : Oper} {x y : Operand} {T : TT}
theorem ev_abox {b : Nat} (h : Ev P C nt σ x (.abox b)) : Ev P C nt σ x (.box b 0) := Ev.mk fun L a w hr => by
 have := h.run L a w hr
 simp only [SVr] at this ⊢
 exact this.1
/-! ### arguments beside a variable that is written -/
def ArgSD (P : Program) (C : Ctx) (nt : Nat) (σ : St) : List Operand → List SV → Prop
 | [], us => us = []
 | x :: xs, us => ∃ v u us', us = u :: us' ∧ Ev P C nt σ x v ∧ ArgS σ v u ∧ (svOk σ v && v.part.isSome) = true ∧ ArgSD P C nt σ xs us'
theorem ad_nil : ArgSD P C nt σ [] [] := rfl
theorem ad_cons {xs : List Operand} {us : List SV} {v u : SV} (h1 : Ev P C nt σ x v) (h2 : ArgS σ v u) (h3 : (svOk σ v && v.part.isSome) = true) (h4 : ArgSD P C nt σ xs us) : ArgSD P C nt σ (x :: xs) (u :: us) := ⟨v, u, us, rfl, h1, h2, h3, h4⟩
theorem okB_sep (hr : Rel P C nt L σ a w) {b : Nat} {xb : TypeId × List CV} (hb : look σ.bx b = some xb) {K : List Nat} (hK : ∀ k ∈ K, (lkk σ k).isSome = true) (L' : Lyt) (rv : Nat → Value) : ∀ z, z < w.heap.size → okB C L K z → okB ⟨w, [L.bb b], rv⟩ L' [] z ∧ w.heap[z]? = w.heap[z]? := fun z hz h => by
 refine ⟨.inl ⟨hz, ?_⟩, rfl⟩
 simp only [List.mem_singleton]
 rintro rfl
 rcases h with ⟨h1, h2⟩ | ⟨k, hk, h1⟩
 ·rcases hr.b1 b xb hb with h3 | h3
  ·omega
  ·exact h2 h3
 ·obtain ⟨c, hc⟩ := Option.isSome_iff_exists.1 (hK k hk)
  exact hr.bk b k xb c hb hc h1
theorem argC_layD (hr : Rel P C nt L σ a w) {b : Nat} {xb : TypeId × List CV} (hb : look σ.bx b = some xb) (L' : Lyt) (rv : Nat → Value) {c u : CV} {v : Value} (h : ArgC σ c u) (hl : ∀ k ∈ c.keys, (lkk σ k).isSome = true) (hv : CVr C L w c v) : CVr ⟨w, [L.bb b], rv⟩ L' w u v ∧ u.keys = [] := by
 cases c with
 | dv K d => simp only [ArgC] at h; subst h; exact ⟨lay_conv (okB_sep hr hb hl L' rv) d v hv, rfl⟩
 | nest k o d => simp only [ArgC] at h; subst h; exact ⟨lay_conv (okB_sep hr hb hl L' rv) d v hv.1, rfl⟩
 | arg i d => simp only [ArgC] at h; subst h; exact ⟨lay_conv (okB_sep hr hb (K := []) (by simp) L' rv) d v hv.2, rfl⟩
 | key k =>
  simp only [ArgC] at h
  obtain ⟨c, e', h1, rfl⟩ := h
  simp only [CVr] at hv
  subst hv
  have h2 := own_lay (ok := okB ⟨w, [L.bb b], rv⟩ L' []) _ _ _ (hr.ks k c h1).1 (fun z hz => .inl ⟨hr.k_lt h1 z hz, by
   simp only [List.mem_singleton]; rintro rfl; exact hr.bk b k xb c hb h1 hz⟩)
  exact ⟨by simp only [CVr, Lay] at h2 ⊢; exact h2, rfl⟩
 | nil =>
  simp only [ArgC] at h
  obtain ⟨e, sz, h1, rfl⟩ := h
  simp only [CVr] at hv
  subst hv
  simp only [CVr, Lay]
  exact ⟨⟨none, 0, [], rfl, Nat.le_refl _, by simp [maxLen], h1, by simp, by simp [LayL], fun h => by omega⟩, rfl⟩
 | any => simp only [ArgC] at h; subst h; exact ⟨hv, rfl⟩
theorem argCs_layD (hr : Rel P C nt L σ a w) {b : Nat} {xb : TypeId × List CV} (hb : look σ.bx b = some xb) (L' : Lyt) (rv : Nat → Value) : ∀ {cs us : List CV} {vs : List Value}, ArgCs σ cs us → (∀ k ∈ cs.flatMap CV.keys, (lkk σ k).isSome = true) → CVL C L w cs vs → CVL ⟨w, [L.bb b], rv⟩ L' w us vs ∧ us.flatMap CV.keys = []
 | [], _, _, h, _, hv => by simp only [ArgCs] at h; subst h; exact ⟨hv, rfl⟩
 | c :: cs, _, _, ⟨u, us', e, h1, h2⟩, hl, ⟨v, vs', e', h3, h4⟩ => by
  subst e; subst e'
  obtain ⟨g1, g2⟩ := argC_layD hr hb L' rv h1 (fun k hk => hl k (by simp [hk])) h3
  obtain ⟨k1, k2⟩ := argCs_layD hr hb L' rv h2 (fun k hk => hl k (by simp only [List.flatMap_cons, List.mem_append]; exact .inr hk)) h4
  exact ⟨⟨v, vs', rfl, g1, k1⟩, by simp only [List.flatMap_cons, g2, k2, List.append_nil]⟩
theorem argS_layD (hr : Rel P C nt L σ a w) {b : Nat} {xb : TypeId × List CV} (hb : look σ.bx b = some xb) (L' : Lyt) (rv : Nat → Value) {v u : SV} {r : Value} (h : ArgS σ v u) (hl : (svOk σ v && v.part.isSome) = true) (hv : SVr P C L w v r) : SVr P ⟨w, [L.bb b], rv⟩ L' w u r ∧ u.keys = [] ∧ u.boxes = [] := by
 simp only [Bool.and_eq_true] at hl
 have hlk := (svOk_spec hl.1).1
 cases v with
 | one c =>
  simp only [ArgS] at h
  obtain ⟨c', h1, rfl⟩ := h
  simp only [SVr] at hv ⊢
  obtain ⟨g1, g2⟩ := argC_layD hr hb L' rv h1 hlk hv
  exact ⟨g1, by simpa [SV.keys] using g2, rfl⟩
 | agg cs =>
  simp only [ArgS] at h
  obtain ⟨cs', h1, rfl⟩ := h
  simp only [SVr] at hv ⊢
  obtain ⟨vs, e, h2⟩ := hv
  obtain ⟨g1, g2⟩ := argCs_layD hr hb L' rv h1 hlk h2
  exact ⟨⟨vs, e, g1⟩, by simpa only [SV.keys] using g2, rfl⟩
 | _ => simp [SV.part] at hl
theorem argSD_rel (hr : Rel P C nt L σ a w) {b : Nat} {xb : TypeId × List CV} (hb : look σ.bx b = some xb) (L' : Lyt) (rv : Nat → Value) : ∀ (xs : List Operand) (us : List SV), ArgSD P C nt σ xs us →
  us.length = xs.length ∧ (∀ (i : Nat) u, us[i]? = some u → ∃ x, xs[i]? = some x ∧ SVr P ⟨w, [L.bb b], rv⟩ L' w u (a.eval x) ∧ u.keys = [] ∧ u.boxes = [])
 | [], _, h => by simp only [ArgSD] at h; subst h; exact ⟨rfl, fun i u hu => by simp at hu⟩
 | x :: xs, _, ⟨v, u, us', e, h1, h2, h3, h4⟩ => by
  subst e
  obtain ⟨k1, k2⟩ := argSD_rel hr hb L' rv xs us' h4
  refine ⟨by simp [k1], fun i u' hu => ?_⟩
  cases i with
  | zero => simp at hu; subst hu; exact ⟨x, rfl, argS_layD hr hb L' rv h2 h3 (h1.run L a w hr)⟩
  | succ i => simp at hu; simpa using k2 i u' hu
theorem cvL_plainC {C C' : Ctx} {L L' : Lyt} {w w' : World} : ∀ {cs : List CV} {vs : List Value}, cs.all CV.plain = true → CVL C' L' w' cs vs → CVL C L w cs vs
 | [], _, _, h => h
 | c :: cs, _, hp, ⟨v, vs', e, h1, h2⟩ => by
  simp only [List.all_cons, Bool.and_eq_true] at hp
  refine ⟨v, vs', e, ?_, cvL_plainC hp.2 h2⟩
  cases c with
  | dv K d => simp only [CV.plain, Bool.and_eq_true] at hp; exact plain_lay hp.1.2 h1
  | _ => simp [CV.plain] at hp
structure EfB (P : Program) (C : Ctx) (nt : Nat) (o : Oper) (σ : St) (b : Nat) (R : St → Prop) : Prop where
 run : ∀ L a w, Rel P C nt L σ a w → ∀ K Q, (∀ L' σ' a' w', R σ' → Rel P C nt L' σ' a' w' → Chg [L.bb b] w w' → (∀ k c, lkk σ k = some c → L'.fp k = L.fp k) → (∀ i, L'.bb i = L.bb i) → K a' w') → o.wp P a w K Q
theorem EfB.ef {b : Nat} {R : St → Prop} (h : EfB P C nt o σ b R) : Ef P C nt o σ R := Ef.mk fun L a w hr K Q hK => h.run L a w hr K Q fun L' σ' a' w' h1 h2 _ _ _ => hK L' σ' a' w' h1 h2
theorem efB {f : FuncId} {xs : List Operand} {ats : Array TypeId} {us : List SV} {t : TypeId} {dd : DV} {ps : List CV} {ι : Type} {p : ι → Prop} {v : ι → SV} {kk : ι → List (Nat × Option KC)} {qs : ι → List CV} {b d : Nat} {c0 : CV} (m : Nat)
  (ho : o.op = .call { callee := .value (.func f), args := (x :: xs).toArray, argTypes := ats }) (hd : o.dst = some d) (hn : Nat.blt d nt = true) (hc : ∀ (args : Array Value) (w : World), (callFunc f args).run P w = .ok (.enter f args) w) (hf : BFn P f us t dd ps p v kk qs)
  (hx : Ev P C nt σ x (.box b 0)) (hb : look σ.bx b = some (t, c0 :: ps)) (h0 : ArgC σ c0 (.dv [] dd)) (hps : ps.all CV.plain = true) (hqs : ∀ i, (qs i).all CV.plain = true) (ha : ArgSD P C nt σ xs us) (hres : ∀ i, (v i).retOk = true) (hfree : ∀ i, ((kk i).all fun q => (lkk σ (m + q.1)).isNone) = true) :
  EfB P C nt o σ b (fun σ' => ∃ i, p i ∧ σ' = { σ with bx := (b, t, c0 :: qs i) :: σ.bx, ks := shK m (kk i) ++ σ.ks }.put d ((v i).sh m)) := EfB.mk fun L a w hr K Q hK => by
 obtain ⟨vs, hB, hcv⟩ := hr.bx b t _ hb
 have hc0k : ∀ k ∈ c0.keys, (lkk σ k).isSome = true := fun k hk => hr.lk k (tk_bx hb k (by simp [hk]))
 have hcv' := hcv
 simp only [CVL] at hcv
 obtain ⟨v0, vs', rfl, g0, gps⟩ := hcv
 have e1 := hx.run L a w hr
 simp only [SVr] at e1
 let rv : Nat → Value := fun j => if j = 900000 then .pointer (some ⟨L.bb b, 0, none⟩) else v0
 let L0 : Lyt := { bb := fun _ => L.bb b, fp := fun _ => [], rv := rv }
 obtain ⟨l1, l2⟩ := argSD_rel hr hb L0 rv xs us ha
 obtain ⟨g1, _⟩ := argC_layD hr hb L0 rv h0 hc0k g0
 have hpk := (cvL_plain_ret hps).2.1
 refine wp_callGo (xs := x :: xs) ho hc ?_
 have hent : Rel P ⟨w, [L.bb b], rv⟩ (.abox 0 :: us).length L0 ⟨enumS 0 (.abox 0 :: us), [(0, t, .arg 900001 dd :: ps)], []⟩ ⟨((x :: xs).map a.eval).toArray, []⟩ w := {
  df := rfl
  sz := by simp [l1]
  tm := fun i u hu => by
   obtain ⟨_, h4⟩ := enumS_look _ 0 i u hu
   rw [Nat.sub_zero] at h4
   cases i with
   | zero =>
    simp only [List.getElem?_cons_zero, Option.some.injEq] at h4
    subst h4
    simp only [SVr]
    have : (List.map a.eval (x :: xs)).toArray.getD 0 undef = a.eval x := rfl
    rw [this, e1]
    exact ⟨rfl, rfl⟩
   | succ i =>
    obtain ⟨z, h5, h6, _⟩ := l2 i u (by simpa using h4)
    have : (List.map a.eval (x :: xs)).toArray.getD (i + 1) undef = a.eval z := by simp [Array.getD_eq_getD_getElem?, h5]
    rw [this]; exact h6
  bx := fun i t' cs hi => by
   simp only [look_cons] at hi
   split at hi
   ·simp only [Option.some.injEq, Prod.mk.injEq] at hi
    obtain ⟨rfl, rfl⟩ := hi
    refine ⟨v0 :: vs', hB, v0, vs', rfl, ?_, cvL_plainC hps gps⟩
    simp only [CVr] at g1 ⊢
    exact ⟨rfl, g1⟩
   ·cases hi
  ks := fun k c h => by cases h
  b1 := fun i x' h => .inr (by simp [L0])
  k1 := fun k c h => by cases h
  kn := fun k c h => by cases h
  bb := fun i j x' y' hi hj hij => by
   simp only [look_cons] at hi hj
   split at hi <;> split at hj
   ·rename_i q1 q2; exact absurd (q1.trans q2.symm) hij
   ·cases hj
   ·cases hi
   ·cases hi
  bk := fun i k x' c _ h => by cases h
  kk := fun k j c d h => by cases h
  lk := fun k hk => by
   exfalso
   simp only [St.tk, List.mem_append, List.flatMap_cons, List.flatMap_nil, List.append_nil, CV.keys, List.nil_append, hpk, List.not_mem_nil, or_false] at hk
   obtain ⟨q, hq, hk⟩ := List.mem_flatMap.1 hk
   have key : ∀ (us' : List SV) (n : Nat), (∀ u ∈ us', u.keys = []) → ∀ q ∈ enumS n us', q.2.keys = [] := fun us' => by
    induction us' with
    | nil => intro n _ q hq; simp [enumS] at hq
    | cons u us' ih =>
     intro n hu q hq
     simp only [enumS, List.mem_cons] at hq
     rcases hq with rfl | hq
     ·exact hu u (by simp)
     ·exact ih (n + 1) (fun z hz => hu z (by simp [hz])) q hq
   rw [key (.abox 0 :: us) 0 (fun u hu => by
    rcases List.mem_cons.1 hu with rfl | hu
    ·rfl
    ·obtain ⟨i, hi⟩ := List.mem_iff_getElem?.1 hu
     obtain ⟨_, _, _, h7, _⟩ := l2 i u hi
     exact h7) q hq] at hk
   cases hk
  lb := fun z hz => by
   simp only [St.tb, enumS, List.flatMap_cons, List.mem_append] at hz
   rcases hz with hz | hz
   ·simp only [SV.boxes, List.mem_singleton] at hz
    subst hz; rfl
   ·exfalso
    obtain ⟨q, hq, hk⟩ := List.mem_flatMap.1 hz
    have key : ∀ (us' : List SV) (n : Nat), (∀ u ∈ us', u.boxes = []) → ∀ q ∈ enumS n us', q.2.boxes = [] := fun us' => by
     induction us' with
     | nil => intro n _ q hq; simp [enumS] at hq
     | cons u us' ih =>
      intro n hu q hq
      simp only [enumS, List.mem_cons] at hq
      rcases hq with rfl | hq
      ·exact hu u (by simp)
      ·exact ih (n + 1) (fun z hz => hu z (by simp [hz])) q hq
    rw [key us 1 (fun u hu => by
     obtain ⟨i, hi⟩ := List.mem_iff_getElem?.1 hu
     obtain ⟨_, _, _, _, h7⟩ := l2 i u hi
     exact h7) q hq] at hk
    cases hk
  s0 := fun z hz => by
   simp only [List.mem_singleton] at hz
   subst hz; exact hr.bx_lt hb
  chg := Chg.refl _ _ }
 refine (hf.ok w [L.bb b] L0 ((x :: xs).map a.eval) (by simp [l1]) hent).mono ?_
 rintro e' w' ⟨r, res, σ', L', rfl, ⟨i, hp, rfl, hks, hbx, htm⟩, h3, nt', a', h4⟩
 have q1 := h4.tm 0 _ htm
 simp only [SVr] at q1
 have hbb : L'.bb 0 = L.bb b := by
  have q2 := q1.1.symm.trans q1.2
  have q3 : L0.rv (900000 + 0) = .pointer (some ⟨L.bb b, 0, none⟩) := rfl
  rw [q3] at q2
  simp only [Value.pointer.injEq, Option.some.injEq, Addr.mk.injEq, and_true] at q2
  exact q2
 obtain ⟨us1, hw1, hcv1⟩ := h4.bx 0 t _ hbx
 rw [hbb] at hw1
 simp only [CVL] at hcv1
 obtain ⟨v1, us2, rfl, k1, k2⟩ := hcv1
 have ev1 : v1 = v0 := by
  simp only [CVr] at k1
  have q3 : L0.rv 900001 = v0 := rfl
  rw [← q3]; exact k1.1
 subst ev1
 have hset := hr.setbox (cs := c0 :: qs i) (vs := v1 :: us2) hb h4.chg hw1 ⟨v1, us2, rfl, g0, cvL_plainC (hqs i) k2⟩ (fun k hk => by
  simp only [List.flatMap_cons, (cvL_plain_ret (hqs i)).2.1, List.append_nil] at hk
  exact hc0k k hk)
 have h3' : Rel P ⟨w, [L.bb b], rv⟩ 1 L' ⟨[(0, v i)], σ'.bx, kk i⟩ ⟨#[r], []⟩ w' := by rw [← hks]; exact h3
 have hbox : ∀ j x', look ((b, t, c0 :: qs i) :: σ.bx) j = some x' → ∃ z, look σ.bx j = some z := fun j x' hx' => by
  simp only [look_cons] at hx'
  split at hx'
  ·rename_i e; exact ⟨_, by rw [e]; exact hb⟩
  ·exact ⟨_, hx'⟩
 obtain ⟨L'', r1, r2, r3⟩ := hset.ret0 (B0 := w.heap.size) h3' m (fun q hq => by
   have := List.all_eq_true.1 (hfree i) q hq
   have h7 : lkk σ (m + q.1) = none := by simpa using this
   exact h7) (hres i) (d := d) (by simpa [Nat.blt_eq] using hn) hr.chg.size (fun k c hk => hr.k_lt hk) (fun j x' hx' => by obtain ⟨z, hz⟩ := hbox j x' hx'; exact hr.bx_lt hz)
  (fun k c hk z hz => by
   rcases h3'.k1 k c hk z hz with h5 | h5
   ·exact h5
   ·simp only [List.mem_singleton] at h5
    exfalso
    refine h3'.bk 0 k _ c hbx hk ?_
    rw [hbb, ← h5]; exact hz)
 refine ⟨r, rfl, hK L'' _ _ _ ⟨i, hp, rfl⟩ ?_ h4.chg r2 r3⟩
 rw [hd]
 exact r1
theorem Rel.addbox (h : Rel P C nt L σ a w) {i B : Nat} {t : TypeId} {cs : List CV} {vs : List Value} (hi : look σ.bx i = none) (hB : w.heap[B]? = some (.cells vs.toArray t (0, 0))) (hv : CVL C L w cs vs) (hk : ∀ k ∈ cs.flatMap CV.keys, (lkk σ k).isSome = true)
  (hf : fresh C B) (h1 : ∀ j x, look σ.bx j = some x → L.bb j ≠ B) (h2 : ∀ k c, lkk σ k = some c → B ∉ L.fp k) :
  Rel P C nt { L with bb := fun j => if j = i then B else L.bb j } { σ with bx := (i, t, cs) :: σ.bx } a w := by
 have hne : ∀ j x, look σ.bx j = some x → j ≠ i := fun j x hj e => by rw [e, hi] at hj; cases hj
 have hK : ∀ ks, Keeps2 C L { L with bb := fun j => if j = i then B else L.bb j } w w ks := fun ks => ⟨fun k _ => ⟨rfl, rfl, fun b _ hb => rfl⟩, fun b hb _ => rfl⟩
 exact {
  df := h.df, sz := h.sz
  tm := fun j v hv => sv_conv (hK _) (fun b hb => by
   have h3 := h.lb b (tb_tm hv b hb)
   obtain ⟨x, hx⟩ := Option.isSome_iff_exists.1 h3
   simp [hne b x hx]) (h.tm j v hv)
  bx := fun j t' cs' hx => by
   simp only [look_cons] at hx
   split at hx
   ·rename_i e
    simp only [Option.some.injEq, Prod.mk.injEq] at hx
    obtain ⟨rfl, rfl⟩ := hx
    subst e
    exact ⟨vs, by simpa using hB, cvL_conv (hK _) hv⟩
   ·rename_i e
    obtain ⟨us, h3, h4⟩ := h.bx j t' cs' hx
    exact ⟨us, by simpa [e] using h3, cvL_conv (hK _) h4⟩
  ks := h.ks
  b1 := fun j x hx => by
   simp only [look_cons] at hx
   split at hx
   ·rename_i e; simp only [e, if_true]; exact hf
   ·rename_i e; simp only [e, if_false]; exact h.b1 j x hx
  k1 := h.k1, kn := h.kn
  bb := fun j l x y hx hy hjl => by
   simp only [look_cons] at hx hy
   split at hx <;> split at hy
   ·rename_i e1 e2; exact absurd (e1.trans e2.symm) hjl
   ·rename_i e1 e2; simp only [e1, e2, if_true, if_false]; exact (h1 l y hy).symm
   ·rename_i e1 e2; simp only [e1, e2, if_true, if_false]; exact h1 j x hx
   ·rename_i e1 e2; simp only [e1, e2, if_false]; exact h.bb j l x y hx hy hjl
  bk := fun j k x c hx hc => by
   simp only [look_cons] at hx
   split at hx
   ·rename_i e; simp only [e, if_true]; exact h2 k c hc
   ·rename_i e; simp only [e, if_false]; exact h.bk j k x c hx hc
  kk := h.kk
  lk := fun k hm => by
   simp only [St.tk, List.flatMap_cons, List.mem_append] at hm
   rcases hm with hm | hm | hm
   ·exact h.lk k (by simp only [St.tk, List.mem_append]; exact .inl hm)
   ·exact hk k hm
   ·exact h.lk k (by simp only [St.tk, List.mem_append]; exact .inr hm)
  lb := fun b hm => by
   have h3 := h.lb b hm
   simp only [look_cons]
   split
   ·rfl
   ·exact h3
  s0 := h.s0
  chg := h.chg }
theorem efgN {f : FuncId} {ats : Array TypeId} {t : TypeId} {dd : DV} {ι : Type} {p : ι → Prop} {qs : ι → List CV} {d : Nat} {c0 : CV}
  (ho : o.op = .call { callee := .value (.func f), args := #[x], argTypes := ats }) (hd : o.dst = some d) (hn : Nat.blt d nt = true) (hc : ∀ (args : Array Value) (w : World), (callFunc f args).run P w = .ok (.enter f args) w) (hf : NFn P f t dd p qs)
  (hx : Ev P C nt σ x (.one c0)) (h0 : ArgC σ c0 (.dv [] dd)) (hk0 : (c0.keys.all fun k => (lkk σ k).isSome) = true) (hqs : ∀ i, (qs i).all CV.plain = true) (hi : look σ.bx d = none) :
  EfG P C nt o σ (fun σ' => ∃ i, p i ∧ σ' = { σ with bx := (d, t, c0 :: qs i) :: σ.bx }.put d (.box d 0)) := EfG.mk fun L a w hr K Q hK => by
 have e1 := hx.run L a w hr
 simp only [SVr] at e1
 let L0 : Lyt := { L with rv := fun _ => a.eval x }
 obtain ⟨g1, g2⟩ := argC_lay hr L0 h0 e1
 refine wp_callGo (xs := [x]) ho hc ?_
 have hent := rel_enter (P := P) (w := w) (L := L0) (us := [.one (.arg 0 dd)]) (vs := [a.eval x]) rfl (fun i u hu => by
  cases i with
  | zero =>
   simp only [List.getElem?_cons_zero, Option.some.injEq] at hu
   subst hu
   refine ⟨a.eval x, rfl, ?_, rfl, rfl⟩
   simp only [SVr, CVr] at g1 ⊢
   exact ⟨rfl, g1⟩
  | succ i => simp at hu)
 refine (hf.ok w [] L0 [a.eval x] rfl hent).mono ?_
 rintro e' w' ⟨r, res, σ', L', rfl, ⟨i, n, hp, rfl, hbx⟩, h3⟩
 have hg := hr.grow h3.chg
 obtain ⟨us1, hw1, hcv1⟩ := h3.bx n t _ hbx
 simp only [CVL] at hcv1
 obtain ⟨v1, us2, rfl, k1, k2⟩ := hcv1
 have ev1 : v1 = a.eval x := by simp only [CVr] at k1; exact k1.1
 subst ev1
 have e2 := hx.run L a w' hg
 simp only [SVr] at e2
 have hn0 : w.heap.size ≤ L'.bb n := by
  rcases h3.b1 n _ hbx with h5 | h5
  ·exact h5
  ·cases h5
 have ht := h3.tm 0 _ (by simp [look_cons]; rfl)
 simp only [SVr] at ht
 have hrr : (#[r] : Array Value).getD 0 undef = r := rfl
 rw [hrr] at ht
 have hadd := hg.addbox (B := L'.bb n) (cs := c0 :: qs i) (vs := a.eval x :: us2) hi hw1 ⟨_, us2, rfl, e2, cvL_plainC (hqs i) k2⟩ (fun k hk => by
   simp only [List.flatMap_cons, (cvL_plain_ret (hqs i)).2.1, List.append_nil] at hk
   exact List.all_eq_true.1 hk0 k hk) (.inl (Nat.le_trans hr.chg.size hn0)) (fun j x' hx' e => by have := hr.bx_lt hx'; omega) (fun k c hk hm => by have := hr.k_lt hk _ hm; omega)
 refine ⟨r, rfl, hK { L with bb := fun j => if j = d then L'.bb n else L.bb j } _ _ _ ⟨i, hp, rfl⟩ ?_ ⟨h3.chg, fun _ _ _ => rfl, fun j x' hx' => ?_⟩⟩
 ·rw [hd]
  refine hadd.put (v := .box d 0) (by simpa [Nat.blt_eq] using hn) ?_ (by simp [SV.keys]) (fun z hz => by
   simp only [SV.boxes, List.mem_singleton] at hz
   subst hz; simp [look_cons])
  simp only [SVr, if_true]
  exact ht
 ·simp only
  rw [if_neg]
  rintro rfl
  rw [hi] at hx'; cases hx'
section
variable {Q : Exit → St → Prop} {all : Array Oper} {rest : List Oper} {tm : List (Nat × SV)} {bx : List (Nat × TypeId × List CV)} {ks : List (Nat × Option KC)} {ι : Type} {p : ι → Prop} {v : ι → SV} {kk : ι → List (Nat × Option KC)} {qs : ι → List CV} {f : FuncId} {xs : List Operand} {ats : Array TypeId} {us : List SV} {t : TypeId} {dd : DV} {ps : List CV} {b d : Nat} {c0 : CV}
theorem o_callB (m : Nat) (hg : o.guard = none) (hd : o.dst = some d) (ho : o.op = .call { callee := .value (.func f), args := (x :: xs).toArray, argTypes := ats }) (hc : ∀ (args : Array Value) (w : World), (callFunc f args).run P w = .ok (.enter f args) w) (hf : BFn P f us t dd ps p v kk qs)
  (hx : Ev P C nt ⟨tm, bx, ks⟩ x (.box b 0)) (hb : look bx b = some (t, c0 :: ps)) (h0 : ArgC ⟨tm, bx, ks⟩ c0 (.dv [] dd)) (hps : ps.all CV.plain = true) (hqs : ∀ i, (qs i).all CV.plain = true) (ha : ArgSD P C nt ⟨tm, bx, ks⟩ xs us) (hn : Nat.blt d nt = true) (hres : ∀ i, (v i).retOk = true) (hfree : ∀ i, ((kk i).all fun q => (lkk ⟨tm, bx, ks⟩ (m + q.1)).isNone) = true)
  (h : ∀ i, p i → Ops P C nt Q all rest ⟨(d, (v i).sh m) :: tm, (b, t, c0 :: qs i) :: bx, shK m (kk i) ++ ks⟩) : Ops P C nt Q all (o :: rest) ⟨tm, bx, ks⟩ :=
 ops_ef hg (efB m ho hd hn hc hf hx hb h0 hps hqs ha hres hfree).ef fun σ' ⟨i, hp, e⟩ => by rw [e]; exact h i hp
theorem o_callE (m : Nat) (hg : o.guard = none) (hd : o.dst = some d) (ho : o.op = .call { callee := .value (.func f), args := xs.toArray, argTypes := ats }) (hc : ∀ (args : Array Value) (w : World), (callFunc f args).run P w = .ok (.enter f args) w) (hf : EFn P f us p v kk)
  (ha : ArgSs P C nt ⟨tm, bx, ks⟩ xs us) (hn : Nat.blt d nt = true) (hres : ∀ i, (v i).retOk = true) (hfree : ∀ i, ((kk i).all fun q => (lkk ⟨tm, bx, ks⟩ (m + q.1)).isNone) = true)
  (h : ∀ i, p i → Ops P C nt Q all rest ⟨(d, (v i).sh m) :: tm, bx, shK m (kk i) ++ ks⟩) : Ops P C nt Q all (o :: rest) ⟨tm, bx, ks⟩ :=
 ops_ef hg (efg_call m ho hd hn hc hf.ok ha (fun u σ' ⟨i, hp, e1, e2⟩ => ⟨i, e1, e2, hp⟩) hres hfree).ef fun σ' ⟨i, hp, e⟩ => by rw [e]; exact h i hp
theorem o_callP (hg : o.guard = none) (hd : o.dst = some d) (ho : o.op = .call { callee := .value (.func f), args := #[x], argTypes := ats }) (hc : ∀ (args : Array Value) (w : World), (callFunc f args).run P w = .ok (.enter f args) w) (hf : NFn P f t dd p qs)
  (hx : Ev P C nt ⟨tm, bx, ks⟩ x (.one c0)) (h0 : ArgC ⟨tm, bx, ks⟩ c0 (.dv [] dd)) (hk0 : (c0.keys.all fun k => (lkk ⟨tm, bx, ks⟩ k).isSome) = true) (hqs : ∀ i, (qs i).all CV.plain = true) (hn : Nat.blt d nt = true) (hi : look bx d = none)
  (h : ∀ i, p i → Ops P C nt Q all rest ⟨(d, .box d 0) :: tm, (d, t, c0 :: qs i) :: bx, ks⟩) : Ops P C nt Q all (o :: rest) ⟨tm, bx, ks⟩ :=
 ops_ef hg (efgN ho hd hn hc hf hx h0 hk0 hqs hi).ef fun σ' ⟨i, hp, e⟩ => by rw [e]; exact h i hp
end
end
end Go.Proofs.YtoigmlbidpocnaaGreat

namespace Go.Proofs.YtoigmlbidpocnaaGreat
open Go.RowKit
open Go.Proofs
set_option linter.unusedVariables false
set_option linter.unusedSimpArgs false
section
variable {P : Program} {C : Ctx} {nt : Nat} {Q : Exit → St → Prop} {all : Array Oper} {oB oK : List Nat} {hd' : Nat → Bool} {listed : Array Bool} {fuel b : Nat} {tm : List (Nat × SV)} {bx : List (Nat × TypeId × List CV)} {ks : List (Nat × Option KC)} {o : Oper} {d : Nat} {v X : SV} {Ks Bs : List Nat} {g : Bool} {x y : Operand} {T : TT}
def SWL (Bs : List Nat) (wb w : World) : Prop := wb.heap.size ≤ w.heap.size ∧ ∀ k, k < wb.heap.size → k ∉ Bs → w.heap[k]? = wb.heap[k]?
theorem SWL.refl (Bs : List Nat) (w : World) : SWL Bs w w := ⟨Nat.le_refl _, fun _ _ _ => rfl⟩
theorem SWL.chg {Bs cs : List Nat} {wb w w' : World} (h : SWL Bs wb w) (hc : Chg cs w w') (hs : ∀ x ∈ cs, x ∈ Bs) : SWL Bs wb w' := ⟨Nat.le_trans h.1 hc.size, fun k hk hn => (hc.block k (Nat.lt_of_lt_of_le hk h.1) (fun hm => hn (hs k hm))).trans (h.2 k hk hn)⟩
structure OpsL (P : Program) (C : Ctx) (nt : Nat) (Q : Exit → St → Prop) (all : Array Oper) (oB oK : List Nat) (bs : List Nat) (hd' : Nat → Bool) (listed : Array Bool) (fuel : Nat) (σ : St) : Prop where
 run : ∀ wb L a w, Rel P C nt L σ a w → SWL (bs.map L.bb) wb w → C.w0.heap.size ≤ wb.heap.size → (∀ i ∈ oB, L.bb i < wb.heap.size) → (∀ k ∈ oK, ∀ b ∈ L.fp k, b < wb.heap.size) → wpAnyT P .any all (QQ P C nt Q) (SWL (bs.map L.bb) wb) hd' fuel listed a w
structure OpsLJ (P : Program) (C : Ctx) (nt : Nat) (Q : Exit → St → Prop) (all : Array Oper) (oB oK : List Nat) (bs : List Nat) (hd' : Nat → Bool) (listed : Array Bool) (fuel : Nat) (i : Nat) (σ : St) : Prop where
 run : ∀ wb L a w, Rel P C nt L σ a w → SWL (bs.map L.bb) wb w → C.w0.heap.size ≤ wb.heap.size → (∀ i ∈ oB, L.bb i < wb.heap.size) → (∀ k ∈ oK, ∀ b ∈ L.fp k, b < wb.heap.size) →
  wpOp P all (QQ P C nt Q) i (fun a' w' => (hd' i = true → SWL (bs.map L.bb) wb w') ∧ wpAnyT P .any all (QQ P C nt Q) (SWL (bs.map L.bb) wb) hd' fuel (listed.setIfInBounds i true) a' w') a w
def AllLJ (P : Program) (C : Ctx) (nt : Nat) (Q : Exit → St → Prop) (all : Array Oper) (oB oK : List Nat) (bs : List Nat) (hd' : Nat → Bool) (listed : Array Bool) (fuel : Nat) (σ : St) : List Nat → Prop
 | [] => True
 | i :: is => OpsLJ P C nt Q all oB oK bs hd' listed fuel i σ ∧ AllLJ P C nt Q all oB oK bs hd' listed fuel σ is
section
variable {bs : List Nat}
theorem allLJ_mem {σ : St} : ∀ {is : List Nat}, AllLJ P C nt Q all oB oK bs hd' listed fuel σ is → ∀ i ∈ is, OpsLJ P C nt Q all oB oK bs hd' listed fuel i σ
 | [], _, _, hi => by cases hi
 | j :: is, h, i, hi => by
  rcases List.mem_cons.1 hi with rfl | hi
  ·exact h.1
  ·exact allLJ_mem h.2 i hi
theorem ok_regionL (bs hs : List Nat) {id : Nat} {l : List Oper} (hm : P.follows .mixedOrders = true) (hb : (oB.all fun i => (look bx i).isSome) = true) (hk : (oK.all fun k => (lkk ⟨tm, bx, ks⟩ k).isSome) = true)
  (h : OpsL P C nt Q l.toArray oB oK bs (fun i => hs.contains i) (Array.replicate l.length false) l.length ⟨tm, bx, ks⟩) : Ok P C nt Q (.region id l.toArray true) ⟨tm, bx, ks⟩ := Ok.mk fun L a w hr => by
 have hr' := rel_drew hr
 refine T_begin (SWL (bs.map L.bb) w.drew) (fun i => hs.contains i) hm ?_
 have := h.run w.drew L a w.drew hr' (SWL.refl _ _) hr'.chg.size (fun i hi => ?_) (fun k hk' b hb' => ?_)
 ·simpa using this
 ·obtain ⟨x, hx⟩ := Option.isSome_iff_exists.1 (List.all_eq_true.1 hb i hi)
  exact hr'.bx_lt hx
 ·obtain ⟨c, hc⟩ := Option.isSome_iff_exists.1 (List.all_eq_true.1 hk k hk')
  exact hr'.k_lt hc b hb'
theorem l_take (i : Nat) (hi : all[i]? = some o) (ht : takeB .any all hd' listed i = true) (hg : o.guard = none) (hd : o.dst = some d) (hp : Pu P C nt o ⟨tm, bx, ks⟩ v Ks Bs) (h1 : (Ks.all fun k => oK.contains k && (lkk ⟨tm, bx, ks⟩ k).isSome) = true) (h2 : (Bs.all fun k => oB.contains k && (!(bs.contains k) && (look bx k).isSome)) = true) (h3 : (bs.all fun b => (look bx b).isSome) = true) (hn : Nat.blt d nt = true) (hk : svOk ⟨tm, bx, ks⟩ v = true)
  (h : OpsL P C nt Q all oB oK bs hd' (listed.setIfInBounds i true) fuel ⟨(d, v) :: tm, bx, ks⟩) : OpsL P C nt Q all oB oK bs hd' listed (fuel + 1) ⟨tm, bx, ks⟩ := ⟨fun wb L a w hr hs hw hB hK => by
 obtain ⟨r, q3, q4⟩ := hp.run L a w hr
 have hy : ∀ w', SWL (bs.map L.bb) wb w' → (execOp a.eval o).run P w' = .ok (.value r) w' := fun w' hs' => q4 w' fun z _ hu => by
  have hz : z < wb.heap.size ∧ ∀ b ∈ bs, z ≠ L.bb b := by
   rcases hu with (⟨h5, h6⟩ | ⟨k, hk, hb⟩) | ⟨i, hi, rfl⟩
   ·refine ⟨by omega, fun b hb e => ?_⟩
    obtain ⟨xb, hxb⟩ := Option.isSome_iff_exists.1 (List.all_eq_true.1 h3 b hb)
    rcases hr.b1 b xb hxb with g | g
    ·omega
    ·exact h6 (by rw [e]; exact g)
   ·have := List.all_eq_true.1 h1 k hk
    simp only [Bool.and_eq_true, List.contains_iff_mem] at this
    obtain ⟨c, hc⟩ := Option.isSome_iff_exists.1 this.2
    exact ⟨hK k this.1 z hb, fun b hb' e => by
     obtain ⟨xb, hxb⟩ := Option.isSome_iff_exists.1 (List.all_eq_true.1 h3 b hb')
     exact hr.bk b k xb c hxb hc (by rw [← e]; exact hb)⟩
   ·have := List.all_eq_true.1 h2 i hi
    simp only [Bool.and_eq_true, List.contains_iff_mem, Bool.not_eq_true'] at this
    obtain ⟨c, hc⟩ := Option.isSome_iff_exists.1 this.2.2
    exact ⟨hB i this.1, fun b hb' => by
     obtain ⟨xb, hxb⟩ := Option.isSome_iff_exists.1 (List.all_eq_true.1 h3 b hb')
     exact hr.bb i b c xb hc hxb (fun e => by
      have h7 := this.2.1
      rw [e] at h7
      have h8 : bs.contains b = true := List.contains_iff_mem.2 hb'
      rw [h7] at h8; cases h8)⟩
  have hz2 : z ∉ bs.map L.bb := fun hm => by
   obtain ⟨b, hb, e⟩ := List.mem_map.1 hm
   exact hz.2 b hb e.symm
  rw [hs'.2 z hz.1 hz2, hs.2 z hz.1 hz2]
 refine T_take i (v := r) hi ht (fun _ _ _ h => h) hs (.inl ⟨by simp [Region.wanted, hg], hy⟩) ?_
 rw [hd]
 exact h.run wb L _ w (hr.put (by simpa [Nat.blt_eq] using hn) q3 (svOk_spec hk).1 (svOk_spec hk).2) hs hw hB hK⟩
theorem l_split {σ : St} (i : Nat) (is : List Nat) (hr : (Region.ready .any all listed == i :: is) = true) (h : AllLJ P C nt Q all oB oK bs hd' listed fuel σ (i :: is)) : OpsL P C nt Q all oB oK bs hd' listed (fuel + 1) σ := ⟨fun wb L a w hrel hs hw hB hK => by
 have hr' : Region.ready .any all listed = i :: is := by simpa using hr
 refine ⟨fun h0 => (by rw [hr'] at h0; cases h0), fun j hj => ?_⟩
 rw [hr'] at hj
 exact (allLJ_mem h j hj).run wb L a w hrel hs hw hB hK⟩
theorem map_bb {L L' : Lyt} (h : ∀ b ∈ bs, L'.bb b = L.bb b) : bs.map L'.bb = bs.map L.bb := List.map_congr_left h
theorem y_efb (b i : Nat) {R : St → Prop} (hbs : bs.contains b = true) (hi : all[i]? = some o) (hg : o.guard = none) (hp : EfB P C nt o ⟨tm, bx, ks⟩ b R) (hk : (oK.all fun k => (lkk ⟨tm, bx, ks⟩ k).isSome) = true)
  (h : ∀ σ', R σ' → OpsL P C nt Q all oB oK bs hd' (listed.setIfInBounds i true) fuel σ') : OpsLJ P C nt Q all oB oK bs hd' listed fuel i ⟨tm, bx, ks⟩ := ⟨fun wb L a w hr hs hw hB hK => by
 unfold wpOp
 simp only [hi]
 have hw' : Region.wanted o (yielded all a.tmps) = true := by simp [Region.wanted, hg]
 rw [if_pos hw']
 refine .inl (hp.run L a w hr _ _ fun L' σ' a' w' h1 h2 h3 h4 h5 => ?_)
 have hs' : SWL (bs.map L.bb) wb w' := hs.chg h3 (fun x hx => by
  rw [List.mem_singleton] at hx; subst hx
  exact List.mem_map_of_mem (List.contains_iff_mem.1 hbs))
 refine ⟨fun _ => hs', ?_⟩
 have em : bs.map L'.bb = bs.map L.bb := map_bb fun b _ => h5 b
 have := (h σ' h1).run wb L' a' w' h2 (by rw [em]; exact hs') hw (fun j hj => by rw [h5]; exact hB j hj) (fun k hk' b hb' => by
  obtain ⟨c, hc⟩ := Option.isSome_iff_exists.1 (List.all_eq_true.1 hk k hk')
  rw [h4 k c hc] at hb'; exact hK k hk' b hb')
 rwa [em] at this⟩
theorem y_efg (i : Nat) {R : St → Prop} (hi : all[i]? = some o) (hg : o.guard = none) (hp : EfG P C nt o ⟨tm, bx, ks⟩ R) (hb : (oB.all fun i => (look bx i).isSome) = true) (hk : (oK.all fun k => (lkk ⟨tm, bx, ks⟩ k).isSome) = true) (hbb : (bs.all fun b => (look bx b).isSome) = true)
  (h : ∀ σ', R σ' → OpsL P C nt Q all oB oK bs hd' (listed.setIfInBounds i true) fuel σ') : OpsLJ P C nt Q all oB oK bs hd' listed fuel i ⟨tm, bx, ks⟩ := ⟨fun wb L a w hr hs hw hB hK => by
 unfold wpOp
 simp only [hi]
 have hw' : Region.wanted o (yielded all a.tmps) = true := by simp [Region.wanted, hg]
 rw [if_pos hw']
 refine .inl (hp.run L a w hr _ _ fun L' σ' a' w' h1 h2 h3 => ?_)
 have em : bs.map L'.bb = bs.map L.bb := map_bb fun b hb' => by
  obtain ⟨xb, hxb⟩ := Option.isSome_iff_exists.1 (List.all_eq_true.1 hbb b hb')
  exact h3.box b xb hxb
 have hs' : SWL (bs.map L.bb) wb w' := hs.chg h3.chg (by simp)
 refine ⟨fun _ => hs', ?_⟩
 have := (h σ' h1).run wb L' a' w' h2 (by rw [em]; exact hs') hw (fun j hj => ?_) (fun k hk' b' hb' => ?_)
 ·rwa [em] at this
 ·obtain ⟨x, hx⟩ := Option.isSome_iff_exists.1 (List.all_eq_true.1 hb j hj)
  rw [h3.box j x hx]; exact hB j hj
 ·obtain ⟨c, hc⟩ := Option.isSome_iff_exists.1 (List.all_eq_true.1 hk k hk')
  rw [h3.key k c hc] at hb'; exact hK k hk' b' hb'⟩
theorem l_chain (is : List Nat) (hm : (is.all fun i => (all[i]?).isSome) = true) (hf : Nat.ble is.length fuel = true) (hc : chainB .any all hd' is listed = true) (h : Ops P C nt Q all (is.filterMap fun i => all[i]?) ⟨tm, bx, ks⟩) : OpsL P C nt Q all oB oK bs hd' listed fuel ⟨tm, bx, ks⟩ := ⟨fun wb L a w hr _ _ _ _ =>
 T_chain is _ listed fuel a w (chain_map hm) (by simpa [Nat.ble_eq] using hf) hc (h.run L a w hr)⟩
theorem y_callK (m i : Nat) {f : FuncId} {xs : List Operand} {ats : Array TypeId} {us : List SV} {kk : List (Nat × Option KC)} (hi : all[i]? = some o) (hg : o.guard = none) (hd : o.dst = some d) (ho : o.op = .call { callee := .value (.func f), args := xs.toArray, argTypes := ats })
  (hc : ∀ (args : Array Value) (w : World), (callFunc f args).run P w = .ok (.enter f args) w) (hf : KFn P f us v kk) (ha : ArgSs P C nt ⟨tm, bx, ks⟩ xs us) (hn : Nat.blt d nt = true) (hres : v.retOk = true) (hfree : (kk.all fun q => (lkk ⟨tm, bx, ks⟩ (m + q.1)).isNone) = true)
  (hb : (oB.all fun i => (look bx i).isSome) = true) (hk : (oK.all fun k => (lkk ⟨tm, bx, ks⟩ k).isSome) = true) (hbb : (bs.all fun b => (look bx b).isSome) = true)
  (h : OpsL P C nt Q all oB oK bs hd' (listed.setIfInBounds i true) fuel ⟨(d, v.sh m) :: tm, bx, shK m kk ++ ks⟩) : OpsLJ P C nt Q all oB oK bs hd' listed fuel i ⟨tm, bx, ks⟩ :=
 y_efg i hi hg (efg_call (ι := Unit) (v := fun _ => v) (kk := fun _ => kk) (p := fun _ => True) m ho hd hn hc hf.ok ha (fun u σ' h => ⟨(), h.1, h.2, trivial⟩) (fun _ => hres) (fun _ => hfree)) hb hk hbb fun σ' ⟨_, _, e⟩ => by rw [e]; exact h
theorem y_callB (m i : Nat) {f : FuncId} {xs : List Operand} {ats : Array TypeId} {us : List SV} {ι : Type} {p : ι → Prop} {v : ι → SV} {kk : ι → List (Nat × Option KC)} {qs : ι → List CV} {t : TypeId} {dd : DV} {ps : List CV} {c0 : CV} (hbs : bs.contains b = true) (hi : all[i]? = some o)
  (hg : o.guard = none) (hd : o.dst = some d) (ho : o.op = .call { callee := .value (.func f), args := (x :: xs).toArray, argTypes := ats }) (hc : ∀ (args : Array Value) (w : World), (callFunc f args).run P w = .ok (.enter f args) w) (hf : BFn P f us t dd ps p v kk qs)
  (hx : Ev P C nt ⟨tm, bx, ks⟩ x (.box b 0)) (hb : look bx b = some (t, c0 :: ps)) (h0 : ArgC ⟨tm, bx, ks⟩ c0 (.dv [] dd)) (hps : ps.all CV.plain = true) (hqs : ∀ i, (qs i).all CV.plain = true) (ha : ArgSD P C nt ⟨tm, bx, ks⟩ xs us) (hn : Nat.blt d nt = true) (hres : ∀ i, (v i).retOk = true) (hfree : ∀ i, ((kk i).all fun q => (lkk ⟨tm, bx, ks⟩ (m + q.1)).isNone) = true) (hk : (oK.all fun k => (lkk ⟨tm, bx, ks⟩ k).isSome) = true)
  (h : ∀ z, p z → OpsL P C nt Q all oB oK bs hd' (listed.setIfInBounds i true) fuel ⟨(d, (v z).sh m) :: tm, (b, t, c0 :: qs z) :: bx, shK m (kk z) ++ ks⟩) : OpsLJ P C nt Q all oB oK bs hd' listed fuel i ⟨tm, bx, ks⟩ :=
 y_efb b i hbs hi hg (efB m ho hd hn hc hf hx hb h0 hps hqs ha hres hfree) hk fun σ' ⟨z, hz, e⟩ => by rw [e]; exact h z hz
theorem y_buildN (i : Nat) (hT : TTOk P T) {t e sz by_ d k n : Nat} {zc cs : List CV} {ds : List DV} {js : List Nat} {ps : List (Nat × Operand)} (hi : all[i]? = some o) (hg : o.guard = none) (hd : o.dst = some d) (ho : o.op = .buildSlice t n ps.toArray) (hn : Nat.blt d nt = true) (ht : look T.sl t = some e) (he : look T.el e = some (sz, by_, zc)) (hl0 : zc.length = sz) (hsz : Nat.blt 0 sz = true) (hsm : Nat.ble (n * sz) 16777216 = true) (hps : ps.length = n) (hn0 : Nat.blt 0 n = true)
  (hx : EvParts P C nt ⟨tm, bx, ks⟩ sz 0 ps cs) (how : OwCs ⟨tm, bx, ks⟩ cs ds js) (hnj : js.Nodup) (hkj : k ∉ js) (hcl : cs.length = n * sz) (hk : lkk ⟨tm, bx, ks⟩ k = none)
  (hb : (oB.all fun i => (look bx i).isSome) = true) (hk' : (oK.all fun k => (lkk ⟨tm, bx, ks⟩ k).isSome) = true) (hbb : (bs.all fun b => (look bx b).isSome) = true)
  (h : OpsL P C nt Q all oB oK bs hd' (listed.setIfInBounds i true) fuel ⟨(d, .one (.key k)) :: killT (k :: js) (k :: js) tm, killB (k :: js) (k :: js) bx, (k, some ⟨false, e, sz, n, ds⟩) :: ((js.map fun j => (j, none)) ++ (k, some ⟨false, e, sz, 0, []⟩) :: ks)⟩) : OpsLJ P C nt Q all oB oK bs hd' listed fuel i ⟨tm, bx, ks⟩ :=
 y_efg i hi hg (efg_buildN hT ho hd hn ht he hl0 hsz hsm hps hn0 hx how hnj hkj hcl hk) hb hk' hbb fun σ' e => by rw [e]; exact h
theorem l_takeX (i : Nat) (hi : all[i]? = some o) (ht : takeXB .any all hd' listed i = true) (hx : extO o = true) (hg : o.guard = none) (hd : o.dst = some d) (hp : Pu P C nt o ⟨tm, bx, ks⟩ v Ks Bs) (hn : Nat.blt d nt = true) (hk : svOk ⟨tm, bx, ks⟩ v = true)
  (h : OpsL P C nt Q all oB oK bs hd' (listed.setIfInBounds i true) fuel ⟨(d, v) :: tm, bx, ks⟩) : OpsL P C nt Q all oB oK bs hd' listed (fuel + 1) ⟨tm, bx, ks⟩ := ⟨fun wb L a w hr hs hw hB hK => by
 obtain ⟨r, h3, h4⟩ := hp.run L a w hr
 refine T_takeX i (v := r) hi ht (fun _ _ _ h => h) (.inl ⟨by simp [Region.wanted, hg], fun w' _ => ext_any hx (h4 w fun _ _ _ => rfl) w'⟩) ?_
 rw [hd]
 exact h.run wb L _ w (hr.put (by simpa [Nat.blt_eq] using hn) h3 (svOk_spec hk).1 (svOk_spec hk).2) hs hw hB hK⟩
end
end
section
variable {P : Program} {C : Ctx} {nt : Nat} {σ : St} {o : Oper} {x y : Operand}
theorem weak_then {σ' σ'' : St} (h1 : Weak P C nt σ σ') (h2 : Weak P C nt σ' σ'') : Weak P C nt σ σ'' := Weak.mk fun L a w hr => by
 obtain ⟨L', h⟩ := h1.run L a w hr
 exact h2.run L' a w h
theorem weak_add {k e sz : Nat} (hk : lkk σ k = none) (hsz : Nat.blt 0 sz = true) : Weak P C nt σ { σ with ks := (k, some ⟨false, e, sz, 0, []⟩) :: σ.ks } := Weak.mk fun L a w hr => by
 have hpos : 0 < sz := by simpa [Nat.blt_eq] using hsz
 exact ⟨_, hr.newkey (k := k) (c := ⟨false, e, sz, 0, []⟩) (v := .slice none 0 0) (f := []) hk (own_nil w e sz hpos) rfl (by simp) (by simp) (by simp) (by simp)⟩
theorem ev_any {p : Option Addr} : Ev P C nt σ (.const (.pointer p)) (.one .any) := Ev.mk fun _ _ _ _ => by simp only [SVr, CVr]; rfl
theorem div_rng {m : Int} {p : Nat} (hp : 0 < p) (h : InR .i64 m) : InR .i64 (m / (p : Int)) := by
 simp only [InR, IntKind.min, IntKind.max, IntKind.signed, IntKind.bits] at h ⊢
 obtain ⟨h1, h2⟩ := h
 simp at h1 h2 ⊢
 exact ⟨Int.le_ediv_of_mul_le (by omega) (by omega), Int.ediv_le_of_le_mul (by omega) (by omega)⟩
theorem pu_shrZ {t ty : TypeId} {K J : List Nat} {j : IntKind} {m n : Int} (ho : o.op = .binOp .shr t x y ty) (hx : Ev P C nt σ x (.one (.dv K (.int .i64 m)))) (hy : Ev P C nt σ y (.one (.dv J (.int j n)))) (hn : 0 ≤ n) (hn2 : n.toNat ≤ 64) : Pu P C nt o σ (.one (.dv [] (.int .i64 (m / (2 ^ n.toNat : Nat))))) [] [] := Pu.mk fun L a w hr => by
 have h1 := hx.run L a w hr
 have h2 := hy.run L a w hr
 simp only [SVr, CVr, Lay] at h1 h2
 have hp : (0 : Int) < ((2 ^ n.toNat : Nat) : Int) := by have : 0 < 2 ^ n.toNat := Nat.two_pow_pos _; omega
 have e : m.fdiv (2 ^ n.toNat) = m / ((2 ^ n.toNat : Nat) : Int) := by
  have : ((2 ^ n.toNat : Nat) : Int) = (2 : Int) ^ n.toNat := by simp
  rw [← this, Int.fdiv_eq_ediv_of_nonneg _ (by omega)]
 have h3 : InR .i64 (m / ((2 ^ n.toNat : Nat) : Int)) := div_rng (Nat.two_pow_pos _) h1.2
 refine ⟨.int .i64 (m / ((2 ^ n.toNat : Nat) : Int)), by simp only [SVr, CVr, Lay]; exact ⟨trivial, h3⟩, fun w' _ => ?_⟩
 unfold execOp
 simp only [ho, h1.1, h2.1, Sem.run_bind]
 have hg : (eqGuard .shr t x y (.int .i64 m) (.int j n)).run P w' = .ok () w' := by unfold eqGuard; rfl
 have hb : (binOp .shr t (.int .i64 m) (.int j n)).run P w' = .ok (.int .i64 (m / ((2 ^ n.toNat : Nat) : Int))) w' := by
  simp only [binOp, Op.shift]
  rw [if_neg (by omega), Nat.min_eq_left (show n.toNat ≤ IntKind.i64.bits from hn2), e]
  rfl
 simp only [hg, Result.andThen_ok, hb, Sem.run_pure]
theorem pu_xorZ {t ty : TypeId} {K J : List Nat} {m n : Int} (ho : o.op = .binOp .xor t x y ty) (hx : Ev P C nt σ x (.one (.dv K (.int .i64 m)))) (hy : Ev P C nt σ y (.one (.dv J (.int .i64 n)))) : Pu P C nt o σ (.one (.dv [] (.int .i64 (bits .xor .i64 m n)))) [] [] :=
 pu_int ho hx hy fun _ _ => ⟨_, fun ok w => by unfold Lay; exact ⟨rfl, inR_wrap _ _⟩, fun w => by simp [binOp, Op.intBits, bits]⟩
theorem pu_andZ {t ty : TypeId} {K J : List Nat} {m n : Int} (ho : o.op = .binOp .and t x y ty) (hx : Ev P C nt σ x (.one (.dv K (.int .i64 m)))) (hy : Ev P C nt σ y (.one (.dv J (.int .i64 n)))) : Pu P C nt o σ (.one (.dv [] (.int .i64 (bits .and .i64 m n)))) [] [] :=
 pu_int ho hx hy fun _ _ => ⟨_, fun ok w => by unfold Lay; exact ⟨rfl, inR_wrap _ _⟩, fun w => by simp [binOp, Op.intBits, bits]⟩
theorem and255_rng (m : Int) : 0 ≤ bits .and .i64 m 255 ∧ bits .and .i64 m 255 ≤ 255 := by
 have h : (BitVec.ofInt 64 m &&& BitVec.ofInt 64 255).toNat ≤ 255 := by
  rw [BitVec.toNat_and]
  exact Nat.le_trans Nat.and_le_right (by decide)
 show 0 ≤ IntKind.i64.wrap ((BitVec.ofInt 64 m &&& BitVec.ofInt 64 255).toNat : Int) ∧ IntKind.i64.wrap ((BitVec.ofInt 64 m &&& BitVec.ofInt 64 255).toNat : Int) ≤ 255
 rw [IntKind.wrap_i64]
 omega
end
end Go.Proofs.YtoigmlbidpocnaaGreat

namespace Go.Proofs.YtoigmlbidpocnaaGreat
open Go.RowKit
open Go.Proofs
set_option linter.unusedVariables false
set_option linter.unusedSimpArgs false
section
variable {P : Program} {C : Ctx} {nt : Nat} {Q : Exit → St → Prop} {all : Array Oper} {rest : List Oper} {σ : St} {o : Oper} {g : Bool}
theorem o_ung (hG : Gd P C nt σ all o g) (hgt : g = true) (h : Ops P C nt Q all ({ o with guard := none } :: rest) σ) : Ops P C nt Q all (o :: rest) σ := Ops.mk fun L a w hr => by
 have h1 := h.run L a w hr
 have hw := hG.run L a w hr
 unfold wpList at h1 ⊢
 rw [hw, hgt, if_pos rfl]
 have hw2 : Region.wanted { o with guard := none } (yielded all a.tmps) = true := by simp [Region.wanted]
 rw [hw2, if_pos rfl] at h1
 exact h1
theorem pu_buildZ {T : TT} (hT : TTOk P T) {t sz by_ len e : Nat} {zc : List CV} (ho : o.op = .build t #[]) (ht : look T.el t = some (sz, by_, zc)) (hu : P.underlying t = some (.array len e)) (hi : (P.info? e).isSome = true) : Pu P C nt o σ (.agg zc) [] [] := Pu.mk fun L a w hr => by
 obtain ⟨inf, z, g1, g2, g3, g4, g5⟩ := hT.el t sz by_ zc ht
 obtain ⟨c1, _, _⟩ := zL_cv (C := C) (L := L) (w := w) g5
 obtain ⟨i, hi⟩ := Option.isSome_iff_exists.1 hi
 refine ⟨.agg z.cells, by simp only [SVr]; exact ⟨z.cells.toList, by simp, c1⟩, fun w' _ => ?_⟩
 unfold execOp
 simp [ho, Instr.build, zeroValue, typeInfo, g1, g4, run_underlying hu, sizeOf, hi, Instr.fill]
theorem pu_indexB {x y : Operand} {t len e sz b i : Nat} {J : List Nat} {z : Int} (ho : o.op = .indexAddr t x y) (hu : P.underlying t = some (.array len e)) (hi : (P.info? e).map (·.size) = some sz) (hlen : Nat.blt 1 len = true) (hx : Ev P C nt σ x (.box b i)) (hy : Ev P C nt σ y (.one (.dv J (.int .i64 z)))) (h0 : 0 ≤ z) (h1 : z < (len : Int)) : Pu P C nt o σ (.box b (i + z.toNat * sz)) [] [] := Pu.mk fun L a w hr => by
 have h2 := hx.run L a w hr
 have h3 := hy.run L a w hr
 simp only [SVr, CVr, Lay] at h2 h3
 cases hq : P.info? e with
 | none => rw [hq] at hi; cases hi
 | some inf =>
  rw [hq] at hi
  simp only [Option.map_some, Option.some.injEq] at hi
  subst hi
  refine ⟨.pointer (some ⟨L.bb b, i + z.toNat * inf.size, none⟩), by simp only [SVr], fun w' _ => ?_⟩
  unfold execOp
  simp only [ho, h2, h3.1, Instr.indexAt, asIntOf, Instr.sureAddr, Sem.run_bind, Sem.run_pure, Result.andThen_ok, run_underlying hu, Sem.run_ite, if_pos (show 0 ≤ z ∧ z < (len : Int) from ⟨h0, h1⟩), sizeOf, typeInfo, run_program, hq, add_row]
structure OkRd (P : Program) (C : Ctx) (nt : Nat) (Q : Exit → St → Prop) (c : Code) (n : Nat) (σ : St) : Prop where
 run : ∀ L a w, Rel P C nt L σ a w → Code.rounds P c (QQ P C nt Q) n a w
theorem ok_rounds (n : Nat) {c : Code} (h : OkRd P C nt Q c n σ) : Ok P C nt Q (.loop c) σ := Ok.mk fun L a w hr => wp_loop_rounds n (h.run L a w hr)
theorem rnd_step {n : Nat} {c : Code} (h : Ok P C nt (thenQ (OkRd P C nt Q c n) Q) c σ) : OkRd P C nt Q c (n + 1) σ := OkRd.mk fun L a w hr => by
 rw [rounds_succ]
 refine wp_mono (h.run L a w hr) ?_
 intro e a w hq
 cases e with
 | normal => obtain ⟨L, σ, h1, h2⟩ := hq; exact h2.run L a w h1
 | exit => exact hq
 | goto => exact hq
 | ret => exact hq
 | panic => exact hq
 | outgrown => exact hq
section
variable {tm : List (Nat × SV)} {bx : List (Nat × TypeId × List CV)} {ks : List (Nat × Option KC)} {oB oK : List Nat} {hd' : Nat → Bool} {listed : Array Bool} {fuel : Nat} {d : Nat} {v X : SV} {Ks Bs : List Nat}
end
end
end Go.Proofs.YtoigmlbidpocnaaGreat

namespace Go.Proofs.YtoigmlbidpocnaaGreat
open Go.RowKit
open Go.Proofs
set_option linter.unusedVariables false
section
variable {C : Ctx} {nt : Nat} {x y : Operand} {σ : St} {ty0 : TypeId} {ps : String} {af : Array Edge} {dd : Option Tmp} {gg : Option (Nat × Bool)}
theorem qA {v : SV} (hx : Ev Tryz.prog C nt σ x v) : Pu Tryz.prog C nt ⟨dd, .move x, ty0, ps, af, gg⟩ σ v [] [] := pu_move (.inl rfl) hx
theorem qB {v : SV} (hx : Ev Tryz.prog C nt σ x v) : Pu Tryz.prog C nt ⟨dd, .assign x, ty0, ps, af, gg⟩ σ v [] [] := pu_move (.inr rfl) hx
theorem qC {s f off b i : Nat} (hx : Ev Tryz.prog C nt σ x (.box b i)) (h : look TTab.of (1000 * s + f) = some off) (hf : Nat.blt f 1000 = true) : Pu Tryz.prog C nt ⟨dd, .fieldAddr s x f, ty0, ps, af, gg⟩ σ (.box b (i + off)) [] [] := pu_fieldBox hT rfl h hf hx
theorem qC2 {s f off : Nat} {K : List Nat} {ds : List DV} (hx : Ev Tryz.prog C nt σ x (.ref K ds)) (h : look TTab.of (1000 * s + f) = some off) (hf : Nat.blt f 1000 = true) : Pu Tryz.prog C nt ⟨dd, .fieldAddr s x f, ty0, ps, af, gg⟩ σ (.ref K (ds.drop off)) [] [] := pu_fieldRef hT rfl h hf hx
theorem qC3 {s f off k i : Nat} (hx : Ev Tryz.prog C nt σ x (.eptr k i)) (h : look TTab.of (1000 * s + f) = some off) (hf : Nat.blt f 1000 = true) : Pu Tryz.prog C nt ⟨dd, .fieldAddr s x f, ty0, ps, af, gg⟩ σ (.eptr k (i + off)) [] [] := pu_fieldE hT rfl h hf hx
theorem qD {t n b i t' : Nat} {cs : List CV} (ht : look TTab.ag t = some n) (hx : Ev Tryz.prog C nt σ x (.box b i)) (hb : look σ.bx b = some (t', cs)) (hl : Nat.ble (i + n) cs.length = true) : Pu Tryz.prog C nt ⟨dd, .load t x, ty0, ps, af, gg⟩ σ (.agg (sub i n cs)) [] [b] := pu_loadBoxA hT rfl ht hx hb hl
theorem qD2 {t b i t' : Nat} {cs : List CV} {c : CV} {u : Unit} (ht : look TTab.on t = some u) (hx : Ev Tryz.prog C nt σ x (.box b i)) (hb : look σ.bx b = some (t', cs)) (hl : cs[i]? = some c) : Pu Tryz.prog C nt ⟨dd, .load t x, ty0, ps, af, gg⟩ σ (.one c) [] [b] := pu_loadBox1 hT rfl ht hx hb hl
theorem qD3 {t n : Nat} {K : List Nat} {ds : List DV} (ht : look TTab.ag t = some n) (hx : Ev Tryz.prog C nt σ x (.ref K ds)) (hl : Nat.ble n ds.length = true) : Pu Tryz.prog C nt ⟨dd, .load t x, ty0, ps, af, gg⟩ σ (.agg ((ds.take n).map (dvK K))) K [] := pu_loadRefA hT rfl ht hx hl
theorem qD4 {t : Nat} {K : List Nat} {dv : DV} {ds : List DV} {u : Unit} (ht : look TTab.on t = some u) (hx : Ev Tryz.prog C nt σ x (.ref K ds)) (hd : ds[0]? = some dv) : Pu Tryz.prog C nt ⟨dd, .load t x, ty0, ps, af, gg⟩ σ (.one (dvK K dv)) K [] := pu_loadRef1 hT rfl ht hx hd
theorem qE {i : Nat} {ts : List (Bool × List CV)} {c : CV} (hx : Ev Tryz.prog C nt σ x (.tup ts)) (h : ts[i]? = some (false, [c])) : Pu Tryz.prog C nt ⟨dd, .extract x i, ty0, ps, af, gg⟩ σ (.one c) [] [] := pu_extract1 rfl hx h
theorem qE2 {i : Nat} {ts : List (Bool × List CV)} {cs : List CV} (hx : Ev Tryz.prog C nt σ x (.tup ts)) (h : ts[i]? = some (true, cs)) : Pu Tryz.prog C nt ⟨dd, .extract x i, ty0, ps, af, gg⟩ σ (.agg cs) [] [] := pu_extractA rfl hx h
theorem qN {t : TypeId} {K : List Nat} {b : Bool} (hx : Ev Tryz.prog C nt σ x (.one (.dv K (.bool b)))) : Pu Tryz.prog C nt ⟨dd, .unOp .not t x, ty0, ps, af, gg⟩ σ (.one (.dv [] (.bool (!b)))) [] [] := pu_not rfl hx
theorem qG {c : Operand} {K J : List Nat} {b b2 : Bool} (hc : Ev Tryz.prog C nt σ c (.one (.dv K (.bool b)))) (hy : b = true → Ev Tryz.prog C nt σ y (.one (.dv J (.bool b2)))) : Pu Tryz.prog C nt ⟨dd, .pick c y (.const (.bool false)), ty0, ps, af, gg⟩ σ (.one (.dv [] (.bool (b && b2)))) [] [] := pu_and rfl hc hy
theorem qH {c : Operand} {K J : List Nat} {b b2 : Bool} (hc : Ev Tryz.prog C nt σ c (.one (.dv K (.bool b)))) (hy : b = false → Ev Tryz.prog C nt σ y (.one (.dv J (.bool b2)))) : Pu Tryz.prog C nt ⟨dd, .pick c (.const (.bool true)) y, ty0, ps, af, gg⟩ σ (.one (.dv [] (.bool (b || b2)))) [] [] := pu_or rfl hc hy
theorem qIlss {t ty : TypeId} {K J : List Nat} {k : IntKind} {m n : Int} (hx : Ev Tryz.prog C nt σ x (.one (.dv K (.int k m)))) (hy : Ev Tryz.prog C nt σ y (.one (.dv J (.int k n)))) : Pu Tryz.prog C nt ⟨dd, .binOp .lss t x y ty, ty0, ps, af, gg⟩ σ (.one (.dv [] (.bool (decide (m < n))))) [] [] := pu_lss rfl hx hy
theorem qIleq {t ty : TypeId} {K J : List Nat} {k : IntKind} {m n : Int} (hx : Ev Tryz.prog C nt σ x (.one (.dv K (.int k m)))) (hy : Ev Tryz.prog C nt σ y (.one (.dv J (.int k n)))) : Pu Tryz.prog C nt ⟨dd, .binOp .leq t x y ty, ty0, ps, af, gg⟩ σ (.one (.dv [] (.bool (decide (m ≤ n))))) [] [] := pu_leq rfl hx hy
theorem qIgtr {t ty : TypeId} {K J : List Nat} {k : IntKind} {m n : Int} (hx : Ev Tryz.prog C nt σ x (.one (.dv K (.int k m)))) (hy : Ev Tryz.prog C nt σ y (.one (.dv J (.int k n)))) : Pu Tryz.prog C nt ⟨dd, .binOp .gtr t x y ty, ty0, ps, af, gg⟩ σ (.one (.dv [] (.bool (decide (n < m))))) [] [] := pu_gtr rfl hx hy
theorem qIgeq {t ty : TypeId} {K J : List Nat} {k : IntKind} {m n : Int} (hx : Ev Tryz.prog C nt σ x (.one (.dv K (.int k m)))) (hy : Ev Tryz.prog C nt σ y (.one (.dv J (.int k n)))) : Pu Tryz.prog C nt ⟨dd, .binOp .geq t x y ty, ty0, ps, af, gg⟩ σ (.one (.dv [] (.bool (decide (n ≤ m))))) [] [] := pu_geq rfl hx hy
theorem qIeql {t ty : TypeId} {K J : List Nat} {k : IntKind} {m n : Int} (hx : Ev Tryz.prog C nt σ x (.one (.dv K (.int k m)))) (hy : Ev Tryz.prog C nt σ y (.one (.dv J (.int k n)))) : Pu Tryz.prog C nt ⟨dd, .binOp .eql t x y ty, ty0, ps, af, gg⟩ σ (.one (.dv [] (.bool (decide (m = n))))) [] [] := pu_eql rfl hx hy
theorem qIneq {t ty : TypeId} {K J : List Nat} {k : IntKind} {m n : Int} (hx : Ev Tryz.prog C nt σ x (.one (.dv K (.int k m)))) (hy : Ev Tryz.prog C nt σ y (.one (.dv J (.int k n)))) : Pu Tryz.prog C nt ⟨dd, .binOp .neq t x y ty, ty0, ps, af, gg⟩ σ (.one (.dv [] (.bool (!decide (m = n))))) [] [] := pu_neq rfl hx hy
theorem qSeql {t ty : TypeId} {K J : List Nat} {m n : ByteArray} (hx : Ev Tryz.prog C nt σ x (.one (.dv K (.str m)))) (hy : Ev Tryz.prog C nt σ y (.one (.dv J (.str n)))) : Pu Tryz.prog C nt ⟨dd, .binOp .eql t x y ty, ty0, ps, af, gg⟩ σ (.one (.dv [] (.bool (sEq m n)))) [] [] := pu_seq rfl hx hy
theorem qSneq {t ty : TypeId} {K J : List Nat} {m n : ByteArray} (hx : Ev Tryz.prog C nt σ x (.one (.dv K (.str m)))) (hy : Ev Tryz.prog C nt σ y (.one (.dv J (.str n)))) : Pu Tryz.prog C nt ⟨dd, .binOp .neq t x y ty, ty0, ps, af, gg⟩ σ (.one (.dv [] (.bool (!sEq m n)))) [] [] := pu_sne rfl hx hy
theorem qSlss {t ty : TypeId} {K J : List Nat} {m n : ByteArray} (hx : Ev Tryz.prog C nt σ x (.one (.dv K (.str m)))) (hy : Ev Tryz.prog C nt σ y (.one (.dv J (.str n)))) : Pu Tryz.prog C nt ⟨dd, .binOp .lss t x y ty, ty0, ps, af, gg⟩ σ (.one (.dv [] (.bool (sLt m n)))) [] [] := pu_slt rfl hx hy
theorem qSleq {t ty : TypeId} {K J : List Nat} {m n : ByteArray} (hx : Ev Tryz.prog C nt σ x (.one (.dv K (.str m)))) (hy : Ev Tryz.prog C nt σ y (.one (.dv J (.str n)))) : Pu Tryz.prog C nt ⟨dd, .binOp .leq t x y ty, ty0, ps, af, gg⟩ σ (.one (.dv [] (.bool (sLt m n || sEq m n)))) [] [] := pu_sle rfl hx hy
theorem qSgtr {t ty : TypeId} {K J : List Nat} {m n : ByteArray} (hx : Ev Tryz.prog C nt σ x (.one (.dv K (.str m)))) (hy : Ev Tryz.prog C nt σ y (.one (.dv J (.str n)))) : Pu Tryz.prog C nt ⟨dd, .binOp .gtr t x y ty, ty0, ps, af, gg⟩ σ (.one (.dv [] (.bool (!(sLt m n || sEq m n))))) [] [] := pu_sgt rfl hx hy
theorem qSgeq {t ty : TypeId} {K J : List Nat} {m n : ByteArray} (hx : Ev Tryz.prog C nt σ x (.one (.dv K (.str m)))) (hy : Ev Tryz.prog C nt σ y (.one (.dv J (.str n)))) : Pu Tryz.prog C nt ⟨dd, .binOp .geq t x y ty, ty0, ps, af, gg⟩ σ (.one (.dv [] (.bool (!sLt m n)))) [] [] := pu_sge rfl hx hy
theorem qIadd {t ty : TypeId} {K J : List Nat} {m n : Int} (hx : Ev Tryz.prog C nt σ x (.one (.dv K (.int .i64 m)))) (hy : Ev Tryz.prog C nt σ y (.one (.dv J (.int .i64 n)))) (h1 : -9223372036854775808 ≤ m + n) (h2 : m + n ≤ 9223372036854775807) : Pu Tryz.prog C nt ⟨dd, .binOp .add t x y ty, ty0, ps, af, gg⟩ σ (.one (.dv [] (.int .i64 (m + n)))) [] [] := pu_addR rfl hx hy (inR64 h1 h2)
theorem qIsub {t ty : TypeId} {K J : List Nat} {m n : Int} (hx : Ev Tryz.prog C nt σ x (.one (.dv K (.int .i64 m)))) (hy : Ev Tryz.prog C nt σ y (.one (.dv J (.int .i64 n)))) (h1 : -9223372036854775808 ≤ m - n) (h2 : m - n ≤ 9223372036854775807) : Pu Tryz.prog C nt ⟨dd, .binOp .sub t x y ty, ty0, ps, af, gg⟩ σ (.one (.dv [] (.int .i64 (m - n)))) [] [] := pu_subR rfl hx hy (inR64 h1 h2)
theorem qL {t e' e sz n : Nat} {K : List Nat} {cs : List DV} (hx : Ev Tryz.prog C nt σ x (.one (.dv K (.sl e sz n cs)))) (h : look TTab.sl t = some e') : Pu Tryz.prog C nt ⟨dd, .call { callee := .builtin .len, args := #[x], argTypes := #[t] }, ty0, ps, af, gg⟩ σ (.one (.dv [] (.int .i64 (n : Int)))) [] [] := pu_lenV hT rfl h hx
theorem qL2 {t : Nat} {u : Unit} {s : ByteArray} {K : List Nat} (hx : Ev Tryz.prog C nt σ x (.one (.dv K (.str s)))) (h : look TTab.st t = some u) : Pu Tryz.prog C nt ⟨dd, .call { callee := .builtin .len, args := #[x], argTypes := #[t] }, ty0, ps, af, gg⟩ σ (.one (.dv [] (.int .i64 (s.size : Int)))) [] [] := pu_lenS hT rfl h hx
theorem qL3 {t e' : Nat} (hx : Ev Tryz.prog C nt σ x (.one .nil)) (h : look TTab.sl t = some e') : Pu Tryz.prog C nt ⟨dd, .call { callee := .builtin .len, args := #[x], argTypes := #[t] }, ty0, ps, af, gg⟩ σ (.one (.dv [] (.int .i64 0))) [] [] := pu_lenN hT rfl h hx
end
section
variable {P : Program} {C : Ctx} {nt : Nat} {o : Oper} {x y : Operand} {T : TT} {Q : Exit → St → Prop} {N : St → Prop} {all : Array Oper} {rest : List Oper} {σ : St} {tm : List (Nat × SV)} {bx : List (Nat × TypeId × List CV)} {ks : List (Nat × Option KC)} {d t : Nat} {v X : SV} {ty : TypeId} {ps : String} {af : Array Edge} {Ks Bs oB oK : List Nat} {g : Bool} {listed : Array Bool} {fuel : Nat} {hd' : Nat → Bool}
theorem zp (hp : Pu P C nt o σ v Ks Bs := by
  first
  | (apply qA; (first | exact ev_tmp rfl | exact ev_int (inR_lit rfl) | exact ev_bool | exact ev_str (str_lit rfl) | exact ev_nil | exact ev_func))
  | (apply qB; (first | exact ev_tmp rfl | exact ev_int (inR_lit rfl) | exact ev_bool | exact ev_str (str_lit rfl) | exact ev_nil | exact ev_func))
  | (apply qC; (first | exact ev_tmp rfl | exact ev_int (inR_lit rfl) | exact ev_bool | exact ev_str (str_lit rfl) | exact ev_nil | exact ev_func); exact rfl; exact rfl)
  | (apply qC2; (first | exact ev_tmp rfl | exact ev_int (inR_lit rfl) | exact ev_bool | exact ev_str (str_lit rfl) | exact ev_nil | exact ev_func); exact rfl; exact rfl)
  | (apply qC3; (first | exact ev_tmp rfl | exact ev_int (inR_lit rfl) | exact ev_bool | exact ev_str (str_lit rfl) | exact ev_nil | exact ev_func); exact rfl; exact rfl)
  | (apply qD; exact rfl; (first | exact ev_tmp rfl | exact ev_int (inR_lit rfl) | exact ev_bool | exact ev_str (str_lit rfl) | exact ev_nil | exact ev_func); exact rfl; exact rfl)
  | (apply qD2; exact rfl; (first | exact ev_tmp rfl | exact ev_int (inR_lit rfl) | exact ev_bool | exact ev_str (str_lit rfl) | exact ev_nil | exact ev_func); exact rfl; exact rfl)
  | (apply qD3; exact rfl; (first | exact ev_tmp rfl | exact ev_int (inR_lit rfl) | exact ev_bool | exact ev_str (str_lit rfl) | exact ev_nil | exact ev_func); exact rfl)
  | (apply qD4; exact rfl; (first | exact ev_tmp rfl | exact ev_int (inR_lit rfl) | exact ev_bool | exact ev_str (str_lit rfl) | exact ev_nil | exact ev_func); exact rfl)
  | (apply qE; (first | exact ev_tmp rfl | exact ev_int (inR_lit rfl) | exact ev_bool | exact ev_str (str_lit rfl) | exact ev_nil | exact ev_func); exact rfl)
  | (apply qE2; (first | exact ev_tmp rfl | exact ev_int (inR_lit rfl) | exact ev_bool | exact ev_str (str_lit rfl) | exact ev_nil | exact ev_func); exact rfl)
  | (apply qN; (first | exact ev_tmp rfl | exact ev_int (inR_lit rfl) | exact ev_bool | exact ev_str (str_lit rfl) | exact ev_nil | exact ev_func))
  | (apply qG; (first | exact ev_tmp rfl | exact ev_int (inR_lit rfl) | exact ev_bool | exact ev_str (str_lit rfl) | exact ev_nil | exact ev_func); (intro hb; first | (refine ev_opt rfl ?_; first | exact beq_t hb | exact beq_f hb) | exact ev_tmp rfl | exact ev_int (inR_lit rfl) | exact ev_bool | exact ev_str (str_lit rfl) | exact ev_nil | exact ev_func))
  | (apply qH; (first | exact ev_tmp rfl | exact ev_int (inR_lit rfl) | exact ev_bool | exact ev_str (str_lit rfl) | exact ev_nil | exact ev_func); (intro hb; first | (refine ev_opt rfl ?_; first | exact beq_t hb | exact beq_f hb) | exact ev_tmp rfl | exact ev_int (inR_lit rfl) | exact ev_bool | exact ev_str (str_lit rfl) | exact ev_nil | exact ev_func))
  | (apply qIlss; (first | exact ev_tmp rfl | exact ev_int (inR_lit rfl) | exact ev_bool | exact ev_str (str_lit rfl) | exact ev_nil | exact ev_func); (first | exact ev_tmp rfl | exact ev_int (inR_lit rfl) | exact ev_bool | exact ev_str (str_lit rfl) | exact ev_nil | exact ev_func))
  | (apply qIleq; (first | exact ev_tmp rfl | exact ev_int (inR_lit rfl) | exact ev_bool | exact ev_str (str_lit rfl) | exact ev_nil | exact ev_func); (first | exact ev_tmp rfl | exact ev_int (inR_lit rfl) | exact ev_bool | exact ev_str (str_lit rfl) | exact ev_nil | exact ev_func))
  | (apply qIgtr; (first | exact ev_tmp rfl | exact ev_int (inR_lit rfl) | exact ev_bool | exact ev_str (str_lit rfl) | exact ev_nil | exact ev_func); (first | exact ev_tmp rfl | exact ev_int (inR_lit rfl) | exact ev_bool | exact ev_str (str_lit rfl) | exact ev_nil | exact ev_func))
  | (apply qIgeq; (first | exact ev_tmp rfl | exact ev_int (inR_lit rfl) | exact ev_bool | exact ev_str (str_lit rfl) | exact ev_nil | exact ev_func); (first | exact ev_tmp rfl | exact ev_int (inR_lit rfl) | exact ev_bool | exact ev_str (str_lit rfl) | exact ev_nil | exact ev_func))
  | (apply qIeql; (first | exact ev_tmp rfl | exact ev_int (inR_lit rfl) | exact ev_bool | exact ev_str (str_lit rfl) | exact ev_nil | exact ev_func); (first | exact ev_tmp rfl | exact ev_int (inR_lit rfl) | exact ev_bool | exact ev_str (str_lit rfl) | exact ev_nil | exact ev_func))
  | (apply qIneq; (first | exact ev_tmp rfl | exact ev_int (inR_lit rfl) | exact ev_bool | exact ev_str (str_lit rfl) | exact ev_nil | exact ev_func); (first | exact ev_tmp rfl | exact ev_int (inR_lit rfl) | exact ev_bool | exact ev_str (str_lit rfl) | exact ev_nil | exact ev_func))
  | (apply qSeql; (first | exact ev_tmp rfl | exact ev_int (inR_lit rfl) | exact ev_bool | exact ev_str (str_lit rfl) | exact ev_nil | exact ev_func); (first | exact ev_tmp rfl | exact ev_int (inR_lit rfl) | exact ev_bool | exact ev_str (str_lit rfl) | exact ev_nil | exact ev_func))
  | (apply qSneq; (first | exact ev_tmp rfl | exact ev_int (inR_lit rfl) | exact ev_bool | exact ev_str (str_lit rfl) | exact ev_nil | exact ev_func); (first | exact ev_tmp rfl | exact ev_int (inR_lit rfl) | exact ev_bool | exact ev_str (str_lit rfl) | exact ev_nil | exact ev_func))
  | (apply qSlss; (first | exact ev_tmp rfl | exact ev_int (inR_lit rfl) | exact ev_bool | exact ev_str (str_lit rfl) | exact ev_nil | exact ev_func); (first | exact ev_tmp rfl | exact ev_int (inR_lit rfl) | exact ev_bool | exact ev_str (str_lit rfl) | exact ev_nil | exact ev_func))
  | (apply qSleq; (first | exact ev_tmp rfl | exact ev_int (inR_lit rfl) | exact ev_bool | exact ev_str (str_lit rfl) | exact ev_nil | exact ev_func); (first | exact ev_tmp rfl | exact ev_int (inR_lit rfl) | exact ev_bool | exact ev_str (str_lit rfl) | exact ev_nil | exact ev_func))
  | (apply qSgtr; (first | exact ev_tmp rfl | exact ev_int (inR_lit rfl) | exact ev_bool | exact ev_str (str_lit rfl) | exact ev_nil | exact ev_func); (first | exact ev_tmp rfl | exact ev_int (inR_lit rfl) | exact ev_bool | exact ev_str (str_lit rfl) | exact ev_nil | exact ev_func))
  | (apply qSgeq; (first | exact ev_tmp rfl | exact ev_int (inR_lit rfl) | exact ev_bool | exact ev_str (str_lit rfl) | exact ev_nil | exact ev_func); (first | exact ev_tmp rfl | exact ev_int (inR_lit rfl) | exact ev_bool | exact ev_str (str_lit rfl) | exact ev_nil | exact ev_func))
  | (apply qIadd; (first | exact ev_tmp rfl | exact ev_int (inR_lit rfl) | exact ev_bool | exact ev_str (str_lit rfl) | exact ev_nil | exact ev_func); (first | exact ev_tmp rfl | exact ev_int (inR_lit rfl) | exact ev_bool | exact ev_str (str_lit rfl) | exact ev_nil | exact ev_func); omega; omega)
  | (apply qIsub; (first | exact ev_tmp rfl | exact ev_int (inR_lit rfl) | exact ev_bool | exact ev_str (str_lit rfl) | exact ev_nil | exact ev_func); (first | exact ev_tmp rfl | exact ev_int (inR_lit rfl) | exact ev_bool | exact ev_str (str_lit rfl) | exact ev_nil | exact ev_func); omega; omega)
  | (apply qL; (first | exact ev_tmp rfl | exact ev_int (inR_lit rfl) | exact ev_bool | exact ev_str (str_lit rfl) | exact ev_nil | exact ev_func); exact rfl)
  | (apply qL2; (first | exact ev_tmp rfl | exact ev_int (inR_lit rfl) | exact ev_bool | exact ev_str (str_lit rfl) | exact ev_nil | exact ev_func); exact rfl)
  | (apply qL3; (first | exact ev_tmp rfl | exact ev_int (inR_lit rfl) | exact ev_bool | exact ev_str (str_lit rfl) | exact ev_nil | exact ev_func); exact rfl)
  | exact pu_indexD hT rfl rfl rfl (by first | exact ev_tmp rfl | exact ev_int (inR_lit rfl) | exact ev_bool | exact ev_str (str_lit rfl) | exact ev_nil | exact ev_func) (by first | exact ev_tmp rfl | exact ev_int (inR_lit rfl) | exact ev_bool | exact ev_str (str_lit rfl) | exact ev_nil | exact ev_func) (fun _ => rfl) (by omega) (by omega)
  | exact pu_indexS hT rfl rfl (by first | exact ev_tmp rfl | exact ev_int (inR_lit rfl) | exact ev_bool | exact ev_str (str_lit rfl) | exact ev_nil | exact ev_func) (by first | exact ev_tmp rfl | exact ev_int (inR_lit rfl) | exact ev_bool | exact ev_str (str_lit rfl) | exact ev_nil | exact ev_func) (by omega) (by omega)) : Pu P C nt o σ v Ks Bs := hp
theorem zq {g : Bool} (hg : g = true) (hp : Pu P C nt o σ v Ks Bs := by
  first
  | (apply qA; (first | (refine ev_opt rfl ?_; first | exact hg | exact and_l hg | exact and_l (and_l hg) | exact and_l (and_l (and_l hg))) | exact ev_tmp rfl | exact ev_int (inR_lit rfl) | exact ev_bool | exact ev_str (str_lit rfl) | exact ev_nil | exact ev_func))
  | (apply qB; (first | (refine ev_opt rfl ?_; first | exact hg | exact and_l hg | exact and_l (and_l hg) | exact and_l (and_l (and_l hg))) | exact ev_tmp rfl | exact ev_int (inR_lit rfl) | exact ev_bool | exact ev_str (str_lit rfl) | exact ev_nil | exact ev_func))
  | (apply qC; (first | (refine ev_opt rfl ?_; first | exact hg | exact and_l hg | exact and_l (and_l hg) | exact and_l (and_l (and_l hg))) | exact ev_tmp rfl | exact ev_int (inR_lit rfl) | exact ev_bool | exact ev_str (str_lit rfl) | exact ev_nil | exact ev_func); exact rfl; exact rfl)
  | (apply qC2; (first | (refine ev_opt rfl ?_; first | exact hg | exact and_l hg | exact and_l (and_l hg) | exact and_l (and_l (and_l hg))) | exact ev_tmp rfl | exact ev_int (inR_lit rfl) | exact ev_bool | exact ev_str (str_lit rfl) | exact ev_nil | exact ev_func); exact rfl; exact rfl)
  | (apply qC3; (first | (refine ev_opt rfl ?_; first | exact hg | exact and_l hg | exact and_l (and_l hg) | exact and_l (and_l (and_l hg))) | exact ev_tmp rfl | exact ev_int (inR_lit rfl) | exact ev_bool | exact ev_str (str_lit rfl) | exact ev_nil | exact ev_func); exact rfl; exact rfl)
  | (apply qD; exact rfl; (first | (refine ev_opt rfl ?_; first | exact hg | exact and_l hg | exact and_l (and_l hg) | exact and_l (and_l (and_l hg))) | exact ev_tmp rfl | exact ev_int (inR_lit rfl) | exact ev_bool | exact ev_str (str_lit rfl) | exact ev_nil | exact ev_func); exact rfl; exact rfl)
  | (apply qD2; exact rfl; (first | (refine ev_opt rfl ?_; first | exact hg | exact and_l hg | exact and_l (and_l hg) | exact and_l (and_l (and_l hg))) | exact ev_tmp rfl | exact ev_int (inR_lit rfl) | exact ev_bool | exact ev_str (str_lit rfl) | exact ev_nil | exact ev_func); exact rfl; exact rfl)
  | (apply qD3; exact rfl; (first | (refine ev_opt rfl ?_; first | exact hg | exact and_l hg | exact and_l (and_l hg) | exact and_l (and_l (and_l hg))) | exact ev_tmp rfl | exact ev_int (inR_lit rfl) | exact ev_bool | exact ev_str (str_lit rfl) | exact ev_nil | exact ev_func); exact rfl)
  | (apply qD4; exact rfl; (first | (refine ev_opt rfl ?_; first | exact hg | exact and_l hg | exact and_l (and_l hg) | exact and_l (and_l (and_l hg))) | exact ev_tmp rfl | exact ev_int (inR_lit rfl) | exact ev_bool | exact ev_str (str_lit rfl) | exact ev_nil | exact ev_func); exact rfl)
  | (apply qE; (first | (refine ev_opt rfl ?_; first | exact hg | exact and_l hg | exact and_l (and_l hg) | exact and_l (and_l (and_l hg))) | exact ev_tmp rfl | exact ev_int (inR_lit rfl) | exact ev_bool | exact ev_str (str_lit rfl) | exact ev_nil | exact ev_func); exact rfl)
  | (apply qE2; (first | (refine ev_opt rfl ?_; first | exact hg | exact and_l hg | exact and_l (and_l hg) | exact and_l (and_l (and_l hg))) | exact ev_tmp rfl | exact ev_int (inR_lit rfl) | exact ev_bool | exact ev_str (str_lit rfl) | exact ev_nil | exact ev_func); exact rfl)
  | (apply qN; (first | (refine ev_opt rfl ?_; first | exact hg | exact and_l hg | exact and_l (and_l hg) | exact and_l (and_l (and_l hg))) | exact ev_tmp rfl | exact ev_int (inR_lit rfl) | exact ev_bool | exact ev_str (str_lit rfl) | exact ev_nil | exact ev_func))
  | (apply qG; (first | (refine ev_opt rfl ?_; first | exact hg | exact and_l hg | exact and_l (and_l hg) | exact and_l (and_l (and_l hg))) | exact ev_tmp rfl | exact ev_int (inR_lit rfl) | exact ev_bool | exact ev_str (str_lit rfl) | exact ev_nil | exact ev_func); (intro hb; first | (refine ev_opt rfl ?_; first | exact beq_t hb | exact beq_f hb | exact and_mk hg (beq_t hb) | exact and_mk hg (beq_f hb) | exact and_mk (and_l hg) (beq_t hb) | exact and_mk (and_l hg) (beq_f hb) | exact hg | exact and_l hg) | exact ev_tmp rfl | exact ev_int (inR_lit rfl) | exact ev_bool | exact ev_str (str_lit rfl) | exact ev_nil | exact ev_func))
  | (apply qH; (first | (refine ev_opt rfl ?_; first | exact hg | exact and_l hg | exact and_l (and_l hg) | exact and_l (and_l (and_l hg))) | exact ev_tmp rfl | exact ev_int (inR_lit rfl) | exact ev_bool | exact ev_str (str_lit rfl) | exact ev_nil | exact ev_func); (intro hb; first | (refine ev_opt rfl ?_; first | exact beq_t hb | exact beq_f hb | exact and_mk hg (beq_t hb) | exact and_mk hg (beq_f hb) | exact and_mk (and_l hg) (beq_t hb) | exact and_mk (and_l hg) (beq_f hb) | exact hg | exact and_l hg) | exact ev_tmp rfl | exact ev_int (inR_lit rfl) | exact ev_bool | exact ev_str (str_lit rfl) | exact ev_nil | exact ev_func))
  | (apply qIlss; (first | (refine ev_opt rfl ?_; first | exact hg | exact and_l hg | exact and_l (and_l hg) | exact and_l (and_l (and_l hg))) | exact ev_tmp rfl | exact ev_int (inR_lit rfl) | exact ev_bool | exact ev_str (str_lit rfl) | exact ev_nil | exact ev_func); (first | (refine ev_opt rfl ?_; first | exact hg | exact and_l hg | exact and_l (and_l hg) | exact and_l (and_l (and_l hg))) | exact ev_tmp rfl | exact ev_int (inR_lit rfl) | exact ev_bool | exact ev_str (str_lit rfl) | exact ev_nil | exact ev_func))
  | (apply qIleq; (first | (refine ev_opt rfl ?_; first | exact hg | exact and_l hg | exact and_l (and_l hg) | exact and_l (and_l (and_l hg))) | exact ev_tmp rfl | exact ev_int (inR_lit rfl) | exact ev_bool | exact ev_str (str_lit rfl) | exact ev_nil | exact ev_func); (first | (refine ev_opt rfl ?_; first | exact hg | exact and_l hg | exact and_l (and_l hg) | exact and_l (and_l (and_l hg))) | exact ev_tmp rfl | exact ev_int (inR_lit rfl) | exact ev_bool | exact ev_str (str_lit rfl) | exact ev_nil | exact ev_func))
  | (apply qIgtr; (first | (refine ev_opt rfl ?_; first | exact hg | exact and_l hg | exact and_l (and_l hg) | exact and_l (and_l (and_l hg))) | exact ev_tmp rfl | exact ev_int (inR_lit rfl) | exact ev_bool | exact ev_str (str_lit rfl) | exact ev_nil | exact ev_func); (first | (refine ev_opt rfl ?_; first | exact hg | exact and_l hg | exact and_l (and_l hg) | exact and_l (and_l (and_l hg))) | exact ev_tmp rfl | exact ev_int (inR_lit rfl) | exact ev_bool | exact ev_str (str_lit rfl) | exact ev_nil | exact ev_func))
  | (apply qIgeq; (first | (refine ev_opt rfl ?_; first | exact hg | exact and_l hg | exact and_l (and_l hg) | exact and_l (and_l (and_l hg))) | exact ev_tmp rfl | exact ev_int (inR_lit rfl) | exact ev_bool | exact ev_str (str_lit rfl) | exact ev_nil | exact ev_func); (first | (refine ev_opt rfl ?_; first | exact hg | exact and_l hg | exact and_l (and_l hg) | exact and_l (and_l (and_l hg))) | exact ev_tmp rfl | exact ev_int (inR_lit rfl) | exact ev_bool | exact ev_str (str_lit rfl) | exact ev_nil | exact ev_func))
  | (apply qIeql; (first | (refine ev_opt rfl ?_; first | exact hg | exact and_l hg | exact and_l (and_l hg) | exact and_l (and_l (and_l hg))) | exact ev_tmp rfl | exact ev_int (inR_lit rfl) | exact ev_bool | exact ev_str (str_lit rfl) | exact ev_nil | exact ev_func); (first | (refine ev_opt rfl ?_; first | exact hg | exact and_l hg | exact and_l (and_l hg) | exact and_l (and_l (and_l hg))) | exact ev_tmp rfl | exact ev_int (inR_lit rfl) | exact ev_bool | exact ev_str (str_lit rfl) | exact ev_nil | exact ev_func))
  | (apply qIneq; (first | (refine ev_opt rfl ?_; first | exact hg | exact and_l hg | exact and_l (and_l hg) | exact and_l (and_l (and_l hg))) | exact ev_tmp rfl | exact ev_int (inR_lit rfl) | exact ev_bool | exact ev_str (str_lit rfl) | exact ev_nil | exact ev_func); (first | (refine ev_opt rfl ?_; first | exact hg | exact and_l hg | exact and_l (and_l hg) | exact and_l (and_l (and_l hg))) | exact ev_tmp rfl | exact ev_int (inR_lit rfl) | exact ev_bool | exact ev_str (str_lit rfl) | exact ev_nil | exact ev_func))
  | (apply qSeql; (first | (refine ev_opt rfl ?_; first | exact hg | exact and_l hg | exact and_l (and_l hg) | exact and_l (and_l (and_l hg))) | exact ev_tmp rfl | exact ev_int (inR_lit rfl) | exact ev_bool | exact ev_str (str_lit rfl) | exact ev_nil | exact ev_func); (first | (refine ev_opt rfl ?_; first | exact hg | exact and_l hg | exact and_l (and_l hg) | exact and_l (and_l (and_l hg))) | exact ev_tmp rfl | exact ev_int (inR_lit rfl) | exact ev_bool | exact ev_str (str_lit rfl) | exact ev_nil | exact ev_func))
  | (apply qSneq; (first | (refine ev_opt rfl ?_; first | exact hg | exact and_l hg | exact and_l (and_l hg) | exact and_l (and_l (and_l hg))) | exact ev_tmp rfl | exact ev_int (inR_lit rfl) | exact ev_bool | exact ev_str (str_lit rfl) | exact ev_nil | exact ev_func); (first | (refine ev_opt rfl ?_; first | exact hg | exact and_l hg | exact and_l (and_l hg) | exact and_l (and_l (and_l hg))) | exact ev_tmp rfl | exact ev_int (inR_lit rfl) | exact ev_bool | exact ev_str (str_lit rfl) | exact ev_nil | exact ev_func))
  | (apply qSlss; (first | (refine ev_opt rfl ?_; first | exact hg | exact and_l hg | exact and_l (and_l hg) | exact and_l (and_l (and_l hg))) | exact ev_tmp rfl | exact ev_int (inR_lit rfl) | exact ev_bool | exact ev_str (str_lit rfl) | exact ev_nil | exact ev_func); (first | (refine ev_opt rfl ?_; first | exact hg | exact and_l hg | exact and_l (and_l hg) | exact and_l (and_l (and_l hg))) | exact ev_tmp rfl | exact ev_int (inR_lit rfl) | exact ev_bool | exact ev_str (str_lit rfl) | exact ev_nil | exact ev_func))
  | (apply qSleq; (first | (refine ev_opt rfl ?_; first | exact hg | exact and_l hg | exact and_l (and_l hg) | exact and_l (and_l (and_l hg))) | exact ev_tmp rfl | exact ev_int (inR_lit rfl) | exact ev_bool | exact ev_str (str_lit rfl) | exact ev_nil | exact ev_func); (first | (refine ev_opt rfl ?_; first | exact hg | exact and_l hg | exact and_l (and_l hg) | exact and_l (and_l (and_l hg))) | exact ev_tmp rfl | exact ev_int (inR_lit rfl) | exact ev_bool | exact ev_str (str_lit rfl) | exact ev_nil | exact ev_func))
  | (apply qSgtr; (first | (refine ev_opt rfl ?_; first | exact hg | exact and_l hg | exact and_l (and_l hg) | exact and_l (and_l (and_l hg))) | exact ev_tmp rfl | exact ev_int (inR_lit rfl) | exact ev_bool | exact ev_str (str_lit rfl) | exact ev_nil | exact ev_func); (first | (refine ev_opt rfl ?_; first | exact hg | exact and_l hg | exact and_l (and_l hg) | exact and_l (and_l (and_l hg))) | exact ev_tmp rfl | exact ev_int (inR_lit rfl) | exact ev_bool | exact ev_str (str_lit rfl) | exact ev_nil | exact ev_func))
  | (apply qSgeq; (first | (refine ev_opt rfl ?_; first | exact hg | exact and_l hg | exact and_l (and_l hg) | exact and_l (and_l (and_l hg))) | exact ev_tmp rfl | exact ev_int (inR_lit rfl) | exact ev_bool | exact ev_str (str_lit rfl) | exact ev_nil | exact ev_func); (first | (refine ev_opt rfl ?_; first | exact hg | exact and_l hg | exact and_l (and_l hg) | exact and_l (and_l (and_l hg))) | exact ev_tmp rfl | exact ev_int (inR_lit rfl) | exact ev_bool | exact ev_str (str_lit rfl) | exact ev_nil | exact ev_func))
  | (apply qIadd; (first | (refine ev_opt rfl ?_; first | exact hg | exact and_l hg | exact and_l (and_l hg) | exact and_l (and_l (and_l hg))) | exact ev_tmp rfl | exact ev_int (inR_lit rfl) | exact ev_bool | exact ev_str (str_lit rfl) | exact ev_nil | exact ev_func); (first | (refine ev_opt rfl ?_; first | exact hg | exact and_l hg | exact and_l (and_l hg) | exact and_l (and_l (and_l hg))) | exact ev_tmp rfl | exact ev_int (inR_lit rfl) | exact ev_bool | exact ev_str (str_lit rfl) | exact ev_nil | exact ev_func); omega; omega)
  | (apply qIsub; (first | (refine ev_opt rfl ?_; first | exact hg | exact and_l hg | exact and_l (and_l hg) | exact and_l (and_l (and_l hg))) | exact ev_tmp rfl | exact ev_int (inR_lit rfl) | exact ev_bool | exact ev_str (str_lit rfl) | exact ev_nil | exact ev_func); (first | (refine ev_opt rfl ?_; first | exact hg | exact and_l hg | exact and_l (and_l hg) | exact and_l (and_l (and_l hg))) | exact ev_tmp rfl | exact ev_int (inR_lit rfl) | exact ev_bool | exact ev_str (str_lit rfl) | exact ev_nil | exact ev_func); omega; omega)
  | (apply qL; (first | (refine ev_opt rfl ?_; first | exact hg | exact and_l hg | exact and_l (and_l hg) | exact and_l (and_l (and_l hg))) | exact ev_tmp rfl | exact ev_int (inR_lit rfl) | exact ev_bool | exact ev_str (str_lit rfl) | exact ev_nil | exact ev_func); exact rfl)
  | (apply qL2; (first | (refine ev_opt rfl ?_; first | exact hg | exact and_l hg | exact and_l (and_l hg) | exact and_l (and_l (and_l hg))) | exact ev_tmp rfl | exact ev_int (inR_lit rfl) | exact ev_bool | exact ev_str (str_lit rfl) | exact ev_nil | exact ev_func); exact rfl)
  | (apply qL3; (first | (refine ev_opt rfl ?_; first | exact hg | exact and_l hg | exact and_l (and_l hg) | exact and_l (and_l (and_l hg))) | exact ev_tmp rfl | exact ev_int (inR_lit rfl) | exact ev_bool | exact ev_str (str_lit rfl) | exact ev_nil | exact ev_func); exact rfl)
  | exact pu_indexD hT rfl rfl rfl (by first | (refine ev_opt rfl ?_; first | exact hg | exact and_l hg | exact and_l (and_l hg) | exact and_l (and_l (and_l hg))) | exact ev_tmp rfl | exact ev_int (inR_lit rfl) | exact ev_bool | exact ev_str (str_lit rfl) | exact ev_nil | exact ev_func) (by first | (refine ev_opt rfl ?_; first | exact hg | exact and_l hg | exact and_l (and_l hg) | exact and_l (and_l (and_l hg))) | exact ev_tmp rfl | exact ev_int (inR_lit rfl) | exact ev_bool | exact ev_str (str_lit rfl) | exact ev_nil | exact ev_func) (fun _ => rfl) (by first | omega | (simp only [Bool.and_eq_true, Bool.or_eq_true, Bool.or_eq_false_iff, Bool.and_eq_false_iff, Bool.not_eq_true', Bool.not_eq_false', beq_iff_eq, decide_eq_true_eq, decide_eq_false_iff_not] at hg; omega) | (have hh := of_decide_eq_true (beq_tt hg); omega) | (have hh := of_decide_eq_true (beq_tt (and_r hg)); omega)) (by first | omega | (simp only [Bool.and_eq_true, Bool.or_eq_true, Bool.or_eq_false_iff, Bool.and_eq_false_iff, Bool.not_eq_true', Bool.not_eq_false', beq_iff_eq, decide_eq_true_eq, decide_eq_false_iff_not] at hg; omega) | (have hh := of_decide_eq_true (beq_tt hg); omega) | (have hh := of_decide_eq_true (beq_tt (and_r hg)); omega))
  | exact pu_indexS hT rfl rfl (by first | (refine ev_opt rfl ?_; first | exact hg | exact and_l hg | exact and_l (and_l hg) | exact and_l (and_l (and_l hg))) | exact ev_tmp rfl | exact ev_int (inR_lit rfl) | exact ev_bool | exact ev_str (str_lit rfl) | exact ev_nil | exact ev_func) (by first | (refine ev_opt rfl ?_; first | exact hg | exact and_l hg | exact and_l (and_l hg) | exact and_l (and_l (and_l hg))) | exact ev_tmp rfl | exact ev_int (inR_lit rfl) | exact ev_bool | exact ev_str (str_lit rfl) | exact ev_nil | exact ev_func) (by first | omega | (simp only [Bool.and_eq_true, Bool.or_eq_true, Bool.or_eq_false_iff, Bool.and_eq_false_iff, Bool.not_eq_true', Bool.not_eq_false', beq_iff_eq, decide_eq_true_eq, decide_eq_false_iff_not] at hg; omega) | (have hh := of_decide_eq_true (beq_tt hg); omega) | (have hh := of_decide_eq_true (beq_tt (and_r hg)); omega)) (by first | omega | (simp only [Bool.and_eq_true, Bool.or_eq_true, Bool.or_eq_false_iff, Bool.and_eq_false_iff, Bool.not_eq_true', Bool.not_eq_false', beq_iff_eq, decide_eq_true_eq, decide_eq_false_iff_not] at hg; omega) | (have hh := of_decide_eq_true (beq_tt hg); omega) | (have hh := of_decide_eq_true (beq_tt (and_r hg)); omega))) : Pu P C nt o σ v Ks Bs := hp
theorem zr {xs : List Operand} {us : List SV} (ha : ArgSs P C nt σ xs us := by repeat' (first | exact as_nil | refine as_cons (by first | exact ev_tmp rfl | exact ev_int (inR_lit rfl) | exact ev_bool | exact ev_str (str_lit rfl) | exact ev_nil | exact ev_func) ?_ ?_ | exact ag_one ac_dv | exact ag_one (ac_key' rfl rfl) | exact ag_one (ac_nil' rfl rfl) | exact ag_one ac_nest | exact ag_one ac_arg | refine ag_agg ?_ | exact ag_nil | refine ag_cons ?_ ?_ | exact ac_dv | exact ac_key' rfl rfl | exact ac_nil' rfl rfl | exact ac_nest | exact ac_arg)) : ArgSs P C nt σ xs us := ha
theorem zO (h : Ops P C nt Q all rest ⟨(d, v) :: tm, bx, ks⟩) (hg : o.guard = none := by exact rfl) (hd : o.dst = some d := by exact rfl) (hp : Pu P C nt o ⟨tm, bx, ks⟩ v Ks Bs := by
  exact zp) (hk : (Nat.blt d nt && svOk ⟨tm, bx, ks⟩ v) = true := by exact rfl) : Ops P C nt Q all (o :: rest) ⟨tm, bx, ks⟩ := yO hg hd hp hk h
theorem zG (h : Ops P C nt Q all rest ⟨(d, .opt g v) :: tm, bx, ks⟩) (hd : o.dst = some d := by exact rfl) (hG : Gd P C nt ⟨tm, bx, ks⟩ all o g := by first | exact gd_bool rfl rfl rfl rfl rfl | exact gd_opt rfl rfl rfl rfl rfl) (hp : g = true → Pu P C nt o ⟨tm, bx, ks⟩ v Ks Bs := by
  intro hg
  exact zq hg) (hk : (Nat.blt d nt && svOk ⟨tm, bx, ks⟩ v) = true := by exact rfl) : Ops P C nt Q all (o :: rest) ⟨tm, bx, ks⟩ := o_pureG hG hd hp (Bool.and_eq_true_iff.1 hk).1 (Bool.and_eq_true_iff.1 hk).2 h
theorem zD (i : Nat) (h : OpsD P C nt Q all oB oK hd' (listed.setIfInBounds i true) fuel ⟨(d, v) :: tm, bx, ks⟩) (hi : all[i]? = some o := by exact rfl) (hg : o.guard = none := by exact rfl) (hd : o.dst = some d := by exact rfl) (hp : Pu P C nt o ⟨tm, bx, ks⟩ v Ks Bs := by
  exact zp) (hk : (Nat.blt d nt && svOk ⟨tm, bx, ks⟩ v) = true := by exact rfl) (h1 : (Ks.all fun k => oK.contains k) = true := by exact rfl) (h2 : (Bs.all fun k => oB.contains k) = true := by exact rfl) (ht : takeB .any all hd' listed i = true := by kernel_rfl) : OpsD P C nt Q all oB oK hd' listed (fuel + 1) ⟨tm, bx, ks⟩ := d_take i hi ht hg hd hp h1 h2 (Bool.and_eq_true_iff.1 hk).1 (Bool.and_eq_true_iff.1 hk).2 h
theorem zDG (i : Nat) (h : OpsD P C nt Q all oB oK hd' (listed.setIfInBounds i true) fuel ⟨(d, .opt g v) :: tm, bx, ks⟩) (hi : all[i]? = some o := by exact rfl) (hd : o.dst = some d := by exact rfl) (hG : Gd P C nt ⟨tm, bx, ks⟩ all o g := by first | exact gd_bool rfl rfl rfl rfl rfl | exact gd_opt rfl rfl rfl rfl rfl) (hp : g = true → Pu P C nt o ⟨tm, bx, ks⟩ v Ks Bs := by
  intro hg
  exact zq hg) (hk : (Nat.blt d nt && svOk ⟨tm, bx, ks⟩ v) = true := by exact rfl) (h1 : (Ks.all fun k => oK.contains k) = true := by exact rfl) (h2 : (Bs.all fun k => oB.contains k) = true := by exact rfl) (ht : takeB .any all hd' listed i = true := by kernel_rfl) : OpsD P C nt Q all oB oK hd' listed (fuel + 1) ⟨tm, bx, ks⟩ := d_takeG i hi ht hG hd hp h1 h2 (Bool.and_eq_true_iff.1 hk).1 (Bool.and_eq_true_iff.1 hk).2 h
theorem zDX (i : Nat) (h : OpsD P C nt Q all oB oK hd' (listed.setIfInBounds i true) fuel ⟨(d, v) :: tm, bx, ks⟩) (hi : all[i]? = some o := by exact rfl) (hg : o.guard = none := by exact rfl) (hd : o.dst = some d := by exact rfl) (hp : Pu P C nt o ⟨tm, bx, ks⟩ v Ks Bs := by
  exact zp) (hk : (Nat.blt d nt && svOk ⟨tm, bx, ks⟩ v) = true := by exact rfl) (hx : extO o = true := by exact rfl) (ht : takeXB .any all hd' listed i = true := by kernel_rfl) : OpsD P C nt Q all oB oK hd' listed (fuel + 1) ⟨tm, bx, ks⟩ := d_takeX i hi ht hx hg hd hp (Bool.and_eq_true_iff.1 hk).1 (Bool.and_eq_true_iff.1 hk).2 h
theorem zN {nK : List Nat} (i : Nat) (h : OpsN P C nt Q all oB oK nK hd' (listed.setIfInBounds i true) fuel ⟨(d, v) :: tm, bx, ks⟩) (hi : all[i]? = some o := by exact rfl) (hg : o.guard = none := by exact rfl) (hd : o.dst = some d := by exact rfl) (hp : Pu P C nt o ⟨tm, bx, ks⟩ v Ks Bs := by
  exact zp) (hk : (Nat.blt d nt && svOk ⟨tm, bx, ks⟩ v) = true := by exact rfl) (h1 : (Ks.all fun k => oK.contains k) = true := by exact rfl) (h2 : (Bs.all fun k => oB.contains k) = true := by exact rfl) (ht : takeB .any all hd' listed i = true := by kernel_rfl) : OpsN P C nt Q all oB oK nK hd' listed (fuel + 1) ⟨tm, bx, ks⟩ := n_take i hi ht hg hd hp h1 h2 (Bool.and_eq_true_iff.1 hk).1 (Bool.and_eq_true_iff.1 hk).2 h
theorem zC {f : FuncId} {xs : List Operand} {ats : Array TypeId} {us : List SV} (hc : ∀ (args : Array Value) (w : World), (callFunc f args).run P w = .ok (.enter f args) w) (h : Ops P C nt Q all rest ⟨(d, X) :: tm, bx, ks⟩) (hg : o.guard = none := by exact rfl) (hd : o.dst = some d := by exact rfl) (ho : o.op = .call { callee := .value (.func f), args := xs.toArray, argTypes := ats } := by exact rfl)
  (ha : ArgSs P C nt ⟨tm, bx, ks⟩ xs us := by exact zr) (hf : PFn P f us X) (hp : X.plain = true := by exact rfl) (hn : Nat.blt d nt = true := by exact rfl) : Ops P C nt Q all (o :: rest) ⟨tm, bx, ks⟩ := o_call hg hd ho hc hf ha hp hn h
theorem zK {f : FuncId} {xs : List Operand} {ats : Array TypeId} {us : List SV} {kk : List (Nat × Option KC)} (m : Nat) (hc : ∀ (args : Array Value) (w : World), (callFunc f args).run P w = .ok (.enter f args) w) (h : Ops P C nt Q all rest ⟨(d, v.sh m) :: tm, bx, shK m kk ++ ks⟩) (hg : o.guard = none := by exact rfl) (hd : o.dst = some d := by exact rfl) (ho : o.op = .call { callee := .value (.func f), args := xs.toArray, argTypes := ats } := by exact rfl)
  (ha : ArgSs P C nt ⟨tm, bx, ks⟩ xs us := by exact zr) (hf : KFn P f us v kk) (hn : Nat.blt d nt = true := by exact rfl) (hres : v.retOk = true := by exact rfl) (hfree : (kk.all fun q => (lkk ⟨tm, bx, ks⟩ (m + q.1)).isNone) = true := by exact rfl) : Ops P C nt Q all (o :: rest) ⟨tm, bx, ks⟩ := o_callK m hg hd ho hc hf ha hn hres hfree h
theorem z {p q : Prop} (h : q) (s : q → p := by
  first
  | with_reducible exact yN
  | with_reducible exact yR
  | with_reducible exact ok_seq
  | with_reducible exact then_n
  | with_reducible exact ok_ret
  | with_reducible exact then_r
  | with_reducible exact ok_skip
  | with_reducible exact ok_block
  | with_reducible exact then_e
  | with_reducible exact ok_exit
  | with_reducible exact blk_r
  | with_reducible exact blk_n
  | (with_reducible refine fun h => blk_e ?_ h) <;> exact rfl
  | (with_reducible refine fun h => blk_o ?_ h) <;> exact rfl
  | exact fun h => yA rfl rfl rfl h
  | exact fun h => yX rfl rfl rfl rfl rfl rfl h
  | exact fun h => o_alloc hT rfl rfl rfl rfl rfl rfl h
  | exact fun h => yS hT rfl rfl rfl rfl rfl rfl rfl rfl h
  | exact fun h => zO h
  | exact fun h => zG h
  | exact yN
  | exact fun h => fin1 (res_tmp rfl) (eqB h)
  | exact fun h => fin1 (res_tmp rfl) (eqI h)
  | exact fun h => fin1 (res_tmp rfl) (eqS h)
  | exact fun h => fin1n (res_tmp rfl) (eqB h)
  | exact fun h => fin1n (res_tmp rfl) (eqI h)
  | exact fun h => fin1n (res_tmp rfl) (eqS h)) : p := s h
end
end Go.Proofs.YtoigmlbidpocnaaGreat

