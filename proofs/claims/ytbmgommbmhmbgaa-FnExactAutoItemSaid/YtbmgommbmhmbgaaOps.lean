/-
  The rules of the abstract logic for operations that only look.
-/
import Derived.Test.YtbmgommbmhmbgaaTab
namespace Go.Proofs.Ytbmgommbmhmbgaa
open Go.RowKit

section
variable {P : Program} {C : Ctx} {nt : Nat} {σ : St} {T : TT} {o : Oper} {x y : Operand}
theorem inR_wrap (k : IntKind) (z : Int) : InR k (k.wrap z) := by
  unfold InR
  cases k <;> simp [IntKind.wrap, IntKind.min, IntKind.max, IntKind.signed, IntKind.bits] <;> omega
theorem wrap_inR {k : IntKind} {z : Int} (h : InR k z) : k.wrap z = z := by
  unfold InR at h
  cases k <;> simp [IntKind.wrap, IntKind.min, IntKind.max, IntKind.signed, IntKind.bits] at h ⊢ <;> omega
theorem pu_move {v : SV} (ho : o.op = .move x ∨ o.op = .assign x) (hx : Ev P C nt σ x v) : Pu P C nt o σ v [] [] := Pu.mk fun L a w hr => by
  refine ⟨a.eval x, hx.run L a w hr, fun w' _ => ?_⟩
  rcases ho with ho | ho <;> (unfold execOp; simp only [ho]; rfl)
theorem pu_not {t : TypeId} {K : List Nat} {b : Bool} (ho : o.op = .unOp .not t x) (hx : Ev P C nt σ x (.one (.dv K (.bool b)))) : Pu P C nt o σ (.one (.dv [] (.bool (!b)))) [] [] := Pu.mk fun L a w hr => by
  have h := hx.run L a w hr
  simp only [SVr, CVr, Lay] at h
  refine ⟨.bool (!b), by simp only [SVr, CVr, Lay], fun w' _ => ?_⟩
  unfold execOp
  simp only [ho, h]
  rfl
/-- y where c holds, else false -/
theorem pu_and {c : Operand} {K J : List Nat} {b b2 : Bool} (ho : o.op = .pick c y (.const (.bool false))) (hc : Ev P C nt σ c (.one (.dv K (.bool b)))) (hy : b = true → Ev P C nt σ y (.one (.dv J (.bool b2)))) : Pu P C nt o σ (.one (.dv [] (.bool (b && b2)))) [] [] := Pu.mk fun L a w hr => by
  have h := hc.run L a w hr
  simp only [SVr, CVr, Lay] at h
  refine ⟨.bool (b && b2), by simp only [SVr, CVr, Lay], fun w' _ => ?_⟩
  unfold execOp
  simp only [ho, h]
  cases b with
  | true => have h2 := (hy rfl).run L a w hr; simp only [SVr, CVr, Lay] at h2; simp [asBool, h2]
  | false => simp [asBool, Act.eval]
theorem pu_or {c : Operand} {K J : List Nat} {b b2 : Bool} (ho : o.op = .pick c (.const (.bool true)) y) (hc : Ev P C nt σ c (.one (.dv K (.bool b)))) (hy : b = false → Ev P C nt σ y (.one (.dv J (.bool b2)))) : Pu P C nt o σ (.one (.dv [] (.bool (b || b2)))) [] [] := Pu.mk fun L a w hr => by
  have h := hc.run L a w hr
  simp only [SVr, CVr, Lay] at h
  refine ⟨.bool (b || b2), by simp only [SVr, CVr, Lay], fun w' _ => ?_⟩
  unfold execOp
  simp only [ho, h]
  cases b with
  | false => have h2 := (hy rfl).run L a w hr; simp only [SVr, CVr, Lay] at h2; simp [asBool, h2]
  | true => simp [asBool, Act.eval]
/-! ### integers -/
theorem pu_int {op : BinOp} {t ty : TypeId} {K J : List Nat} {k : IntKind} {m n : Int} {d : DV} (ho : o.op = .binOp op t x y ty) (hx : Ev P C nt σ x (.one (.dv K (.int k m)))) (hy : Ev P C nt σ y (.one (.dv J (.int k n))))
    (h : InR k m → InR k n → ∃ r, (∀ (ok : Nat → Prop) (w : World), Lay ok w d r) ∧ ∀ w : World, (binOp op t (.int k m) (.int k n)).run P w = .ok r w) : Pu P C nt o σ (.one (.dv [] d)) [] [] := Pu.mk fun L a w hr => by
  have h1 := hx.run L a w hr
  have h2 := hy.run L a w hr
  simp only [SVr, CVr, Lay] at h1 h2
  obtain ⟨r, h3, h4⟩ := h h1.2 h2.2
  refine ⟨r, by simp only [SVr, CVr]; exact h3 _ _, fun w' _ => ?_⟩
  unfold execOp
  simp only [ho, h1.1, h2.1, Sem.run_bind]
  have hg : (eqGuard op t x y (.int k m) (.int k n)).run P w' = .ok () w' := by
    unfold eqGuard
    cases op <;> rfl
  simp only [hg, Result.andThen_ok, h4 w', Sem.run_pure]
theorem pu_add {t ty : TypeId} {K J : List Nat} {k : IntKind} {m n : Int} (ho : o.op = .binOp .add t x y ty) (hx : Ev P C nt σ x (.one (.dv K (.int k m)))) (hy : Ev P C nt σ y (.one (.dv J (.int k n)))) : Pu P C nt o σ (.one (.dv [] (.int k (k.wrap (m + n))))) [] [] :=
  pu_int ho hx hy fun _ _ => ⟨_, fun ok w => by unfold Lay; exact ⟨rfl, inR_wrap _ _⟩, fun w => by simp [binOp, Op.intArith]⟩
theorem pu_sub {t ty : TypeId} {K J : List Nat} {k : IntKind} {m n : Int} (ho : o.op = .binOp .sub t x y ty) (hx : Ev P C nt σ x (.one (.dv K (.int k m)))) (hy : Ev P C nt σ y (.one (.dv J (.int k n)))) : Pu P C nt o σ (.one (.dv [] (.int k (k.wrap (m - n))))) [] [] :=
  pu_int ho hx hy fun _ _ => ⟨_, fun ok w => by unfold Lay; exact ⟨rfl, inR_wrap _ _⟩, fun w => by simp [binOp, Op.intArith]⟩
theorem pu_mul {t ty : TypeId} {K J : List Nat} {k : IntKind} {m n : Int} (ho : o.op = .binOp .mul t x y ty) (hx : Ev P C nt σ x (.one (.dv K (.int k m)))) (hy : Ev P C nt σ y (.one (.dv J (.int k n)))) : Pu P C nt o σ (.one (.dv [] (.int k (k.wrap (m * n))))) [] [] :=
  pu_int ho hx hy fun _ _ => ⟨_, fun ok w => by unfold Lay; exact ⟨rfl, inR_wrap _ _⟩, fun w => by simp [binOp, Op.intArith]⟩
/-- sums that stay in range -/
theorem pu_addR {t ty : TypeId} {K J : List Nat} {k : IntKind} {m n : Int} (ho : o.op = .binOp .add t x y ty) (hx : Ev P C nt σ x (.one (.dv K (.int k m)))) (hy : Ev P C nt σ y (.one (.dv J (.int k n)))) (h : InR k (m + n)) : Pu P C nt o σ (.one (.dv [] (.int k (m + n)))) [] [] := by
  have := pu_add ho hx hy
  rwa [wrap_inR h] at this
theorem pu_subR {t ty : TypeId} {K J : List Nat} {k : IntKind} {m n : Int} (ho : o.op = .binOp .sub t x y ty) (hx : Ev P C nt σ x (.one (.dv K (.int k m)))) (hy : Ev P C nt σ y (.one (.dv J (.int k n)))) (h : InR k (m - n)) : Pu P C nt o σ (.one (.dv [] (.int k (m - n)))) [] [] := by
  have := pu_sub ho hx hy
  rwa [wrap_inR h] at this
theorem pu_quo {t ty : TypeId} {K J : List Nat} {k : IntKind} {m n : Int} (ho : o.op = .binOp .quo t x y ty) (hx : Ev P C nt σ x (.one (.dv K (.int k m)))) (hy : Ev P C nt σ y (.one (.dv J (.int k n)))) (hn : n ≠ 0) : Pu P C nt o σ (.one (.dv [] (.int k (k.wrap (m.tdiv n))))) [] [] :=
  pu_int ho hx hy fun _ _ => ⟨_, fun ok w => by unfold Lay; exact ⟨rfl, inR_wrap _ _⟩, fun w => by simp [binOp, Op.intDiv, hn]⟩
theorem pu_rem {t ty : TypeId} {K J : List Nat} {k : IntKind} {m n : Int} (ho : o.op = .binOp .rem t x y ty) (hx : Ev P C nt σ x (.one (.dv K (.int k m)))) (hy : Ev P C nt σ y (.one (.dv J (.int k n)))) (hn : n ≠ 0) (hr : InR k (m.tmod n)) : Pu P C nt o σ (.one (.dv [] (.int k (m.tmod n)))) [] [] :=
  pu_int ho hx hy fun _ _ => ⟨_, fun ok w => by unfold Lay; exact ⟨rfl, hr⟩, fun w => by simp [binOp, Op.intDiv, hn]⟩
theorem pu_lss {t ty : TypeId} {K J : List Nat} {k : IntKind} {m n : Int} (ho : o.op = .binOp .lss t x y ty) (hx : Ev P C nt σ x (.one (.dv K (.int k m)))) (hy : Ev P C nt σ y (.one (.dv J (.int k n)))) : Pu P C nt o σ (.one (.dv [] (.bool (decide (m < n))))) [] [] :=
  pu_int ho hx hy fun _ _ => ⟨_, fun ok w => by unfold Lay; rfl, fun w => by simp [binOp, Op.intCmp]⟩
theorem pu_leq {t ty : TypeId} {K J : List Nat} {k : IntKind} {m n : Int} (ho : o.op = .binOp .leq t x y ty) (hx : Ev P C nt σ x (.one (.dv K (.int k m)))) (hy : Ev P C nt σ y (.one (.dv J (.int k n)))) : Pu P C nt o σ (.one (.dv [] (.bool (decide (m ≤ n))))) [] [] :=
  pu_int ho hx hy fun _ _ => ⟨_, fun ok w => by unfold Lay; rfl, fun w => by simp [binOp, Op.intCmp]⟩
theorem pu_gtr {t ty : TypeId} {K J : List Nat} {k : IntKind} {m n : Int} (ho : o.op = .binOp .gtr t x y ty) (hx : Ev P C nt σ x (.one (.dv K (.int k m)))) (hy : Ev P C nt σ y (.one (.dv J (.int k n)))) : Pu P C nt o σ (.one (.dv [] (.bool (decide (n < m))))) [] [] :=
  pu_int ho hx hy fun _ _ => ⟨_, fun ok w => by unfold Lay; rfl, fun w => by simp [binOp, Op.intCmp]⟩
theorem pu_geq {t ty : TypeId} {K J : List Nat} {k : IntKind} {m n : Int} (ho : o.op = .binOp .geq t x y ty) (hx : Ev P C nt σ x (.one (.dv K (.int k m)))) (hy : Ev P C nt σ y (.one (.dv J (.int k n)))) : Pu P C nt o σ (.one (.dv [] (.bool (decide (n ≤ m))))) [] [] :=
  pu_int ho hx hy fun _ _ => ⟨_, fun ok w => by unfold Lay; rfl, fun w => by simp [binOp, Op.intCmp]⟩
theorem pu_eql {t ty : TypeId} {K J : List Nat} {k : IntKind} {m n : Int} (ho : o.op = .binOp .eql t x y ty) (hx : Ev P C nt σ x (.one (.dv K (.int k m)))) (hy : Ev P C nt σ y (.one (.dv J (.int k n)))) : Pu P C nt o σ (.one (.dv [] (.bool (decide (m = n))))) [] [] :=
  pu_int ho hx hy fun _ _ => ⟨_, fun ok w => by unfold Lay; rfl, fun w => by simp [binOp, Op.intCmp]; rfl⟩
theorem pu_neq {t ty : TypeId} {K J : List Nat} {k : IntKind} {m n : Int} (ho : o.op = .binOp .neq t x y ty) (hx : Ev P C nt σ x (.one (.dv K (.int k m)))) (hy : Ev P C nt σ y (.one (.dv J (.int k n)))) : Pu P C nt o σ (.one (.dv [] (.bool (!decide (m = n))))) [] [] :=
  pu_int ho hx hy fun _ _ => ⟨_, fun ok w => by unfold Lay; rfl, fun w => by simp [binOp, Op.intCmp]; rfl⟩
/-! ### strings -/
def sEq (s t : ByteArray) : Bool := s.toList == t.toList
def sLt (s t : ByteArray) : Bool := Op.bytesLess s.toList t.toList
theorem pu_str {op : BinOp} {t ty : TypeId} {K J : List Nat} {m n : ByteArray} {d : DV} (ho : o.op = .binOp op t x y ty) (hx : Ev P C nt σ x (.one (.dv K (.str m)))) (hy : Ev P C nt σ y (.one (.dv J (.str n))))
    (h : ∃ r, (∀ (ok : Nat → Prop) (w : World), Lay ok w d r) ∧ ∀ w : World, (Op.stringOp op m n).run P w = .ok r w) (hop : op ≠ .shl ∧ op ≠ .shr) : Pu P C nt o σ (.one (.dv [] d)) [] [] := Pu.mk fun L a w hr => by
  have h1 := hx.run L a w hr
  have h2 := hy.run L a w hr
  simp only [SVr, CVr, Lay] at h1 h2
  obtain ⟨r, h3, h4⟩ := h
  refine ⟨r, by simp only [SVr, CVr]; exact h3 _ _, fun w' _ => ?_⟩
  unfold execOp
  simp only [ho, h1.1, h2.1, Sem.run_bind]
  have hg : (eqGuard op t x y (.string m) (.string n)).run P w' = .ok () w' := by
    unfold eqGuard
    cases op <;> rfl
  have hb : (binOp op t (.string m) (.string n)).run P w' = .ok r w' := by
    rw [← h4 w']
    cases op <;> first | rfl | exact absurd rfl hop.1 | exact absurd rfl hop.2
  simp only [hg, Result.andThen_ok, hb, Sem.run_pure]
theorem pu_seq {t ty : TypeId} {K J : List Nat} {m n : ByteArray} (ho : o.op = .binOp .eql t x y ty) (hx : Ev P C nt σ x (.one (.dv K (.str m)))) (hy : Ev P C nt σ y (.one (.dv J (.str n)))) : Pu P C nt o σ (.one (.dv [] (.bool (sEq m n)))) [] [] :=
  pu_str ho hx hy ⟨.bool (sEq m n), fun ok w => by unfold Lay; rfl, fun w => rfl⟩ ⟨by simp, by simp⟩
theorem pu_sne {t ty : TypeId} {K J : List Nat} {m n : ByteArray} (ho : o.op = .binOp .neq t x y ty) (hx : Ev P C nt σ x (.one (.dv K (.str m)))) (hy : Ev P C nt σ y (.one (.dv J (.str n)))) : Pu P C nt o σ (.one (.dv [] (.bool (!sEq m n)))) [] [] :=
  pu_str ho hx hy ⟨.bool (!sEq m n), fun ok w => by unfold Lay; rfl, fun w => rfl⟩ ⟨by simp, by simp⟩
theorem pu_slt {t ty : TypeId} {K J : List Nat} {m n : ByteArray} (ho : o.op = .binOp .lss t x y ty) (hx : Ev P C nt σ x (.one (.dv K (.str m)))) (hy : Ev P C nt σ y (.one (.dv J (.str n)))) : Pu P C nt o σ (.one (.dv [] (.bool (sLt m n)))) [] [] :=
  pu_str ho hx hy ⟨.bool (sLt m n), fun ok w => by unfold Lay; rfl, fun w => rfl⟩ ⟨by simp, by simp⟩
theorem pu_sle {t ty : TypeId} {K J : List Nat} {m n : ByteArray} (ho : o.op = .binOp .leq t x y ty) (hx : Ev P C nt σ x (.one (.dv K (.str m)))) (hy : Ev P C nt σ y (.one (.dv J (.str n)))) : Pu P C nt o σ (.one (.dv [] (.bool (sLt m n || sEq m n)))) [] [] :=
  pu_str ho hx hy ⟨.bool (sLt m n || sEq m n), fun ok w => by unfold Lay; rfl, fun w => rfl⟩ ⟨by simp, by simp⟩
theorem pu_sgt {t ty : TypeId} {K J : List Nat} {m n : ByteArray} (ho : o.op = .binOp .gtr t x y ty) (hx : Ev P C nt σ x (.one (.dv K (.str m)))) (hy : Ev P C nt σ y (.one (.dv J (.str n)))) : Pu P C nt o σ (.one (.dv [] (.bool (!(sLt m n || sEq m n))))) [] [] :=
  pu_str ho hx hy ⟨.bool (!(sLt m n || sEq m n)), fun ok w => by unfold Lay; rfl, fun w => rfl⟩ ⟨by simp, by simp⟩
theorem pu_sge {t ty : TypeId} {K J : List Nat} {m n : ByteArray} (ho : o.op = .binOp .geq t x y ty) (hx : Ev P C nt σ x (.one (.dv K (.str m)))) (hy : Ev P C nt σ y (.one (.dv J (.str n)))) : Pu P C nt o σ (.one (.dv [] (.bool (!sLt m n)))) [] [] :=
  pu_str ho hx hy ⟨.bool (!sLt m n), fun ok w => by unfold Lay; rfl, fun w => rfl⟩ ⟨by simp, by simp⟩
/-! ### addresses and loads -/
theorem run_fieldAt (hT : TTOk P T) {s f off : Nat} (h : look T.of (1000 * s + f) = some off) (hf : Nat.blt f 1000 = true) (b i : Nat) (w : World) : (Instr.fieldAt s (.pointer (some ⟨b, i, none⟩)) f).run P w = .ok (.pointer (some ⟨b, i + off, none⟩)) w := by
  obtain ⟨fs, fd, inf, h1, h2, h3, h4, h5⟩ := hT.of s f off h (by simpa [Nat.blt_eq] using hf)
  simp only [Instr.fieldAt, Sem.run_bind, run_underlying h1, Result.andThen_ok, h2, Instr.sureAddr, Sem.run_pure, fieldPlace, sizeOf, typeInfo, run_program, h4, h5, if_false, h3, add_row]
theorem pu_fieldBox (hT : TTOk P T) {s f off b i : Nat} (ho : o.op = .fieldAddr s x f) (h : look T.of (1000 * s + f) = some off) (hf : Nat.blt f 1000 = true) (hx : Ev P C nt σ x (.box b i)) : Pu P C nt o σ (.box b (i + off)) [] [] := Pu.mk fun L a w hr => by
  have h1 := hx.run L a w hr
  simp only [SVr] at h1
  refine ⟨.pointer (some ⟨L.bb b, i + off, none⟩), by simp only [SVr], fun w' _ => ?_⟩
  unfold execOp
  simp only [ho, h1, Sem.run_bind, run_fieldAt hT h hf, Result.andThen_ok, Sem.run_pure]
theorem pu_fieldRef (hT : TTOk P T) {s f off : Nat} {K : List Nat} {ds : List DV} (ho : o.op = .fieldAddr s x f) (h : look T.of (1000 * s + f) = some off) (hf : Nat.blt f 1000 = true) (hx : Ev P C nt σ x (.ref K ds)) : Pu P C nt o σ (.ref K (ds.drop off)) [] [] := Pu.mk fun L a w hr => by
  have h1 := hx.run L a w hr
  simp only [SVr] at h1
  obtain ⟨b, i, vs, e, h2, h3, h4⟩ := h1
  refine ⟨.pointer (some ⟨b, i + off, none⟩), ?_, fun w' _ => ?_⟩
  · simp only [SVr]
    have hl := layL_len _ _ h3
    have h5 := layL_sub off (ds.length - off) h3
    have e1 : sub off (ds.length - off) ds = ds.drop off := by simp [sub, List.take_of_length_le]
    have e2 : sub off (ds.length - off) vs = vs.drop off := by rw [← hl]; simp [sub, List.take_of_length_le]
    rw [e1, e2] at h5
    refine ⟨b, i + off, vs.drop off, rfl, fun hv => h2 (fun e => hv (by rw [e]; simp)), h5, fun j u hu => ?_⟩
    rw [List.getElem?_drop] at hu
    rw [Nat.add_assoc]; exact h4 (off + j) u hu
  · unfold execOp
    simp only [ho, e, Sem.run_bind, run_fieldAt hT h hf, Result.andThen_ok, Sem.run_pure]
theorem pu_fieldE (hT : TTOk P T) {s f off k i : Nat} (ho : o.op = .fieldAddr s x f) (h : look T.of (1000 * s + f) = some off) (hf : Nat.blt f 1000 = true) (hx : Ev P C nt σ x (.eptr k i)) : Pu P C nt o σ (.eptr k (i + off)) [] [] := Pu.mk fun L a w hr => by
  have h1 := hx.run L a w hr
  simp only [SVr] at h1
  obtain ⟨g, n, c, h2, e⟩ := h1
  refine ⟨_, by simp only [SVr]; exact ⟨g, n, c, h2, rfl⟩, fun w' _ => ?_⟩
  unfold execOp
  simp only [ho, e, Sem.run_bind, run_fieldAt hT h hf, Result.andThen_ok, Sem.run_pure]
theorem run_loadVar_cells {t n b off : Nat} {us : List Value} {w : World} (h : AggT P t n) (hl : us.length = n) (hc : ∀ j u, us[j]? = some u → w.cell? ⟨b, off + j, none⟩ = some u) : (loadVar t ⟨b, off, none⟩).run P w = .ok (.agg us.toArray) w := by
  obtain ⟨⟨d, h3, h4⟩, h5⟩ := h
  have hload : (loadCells ⟨b, off, none⟩ us.length).run P w = .ok us.toArray w :=
    run_loadCells_list (P := P) w ⟨b, off, none⟩ us (fun j v hv => by rw [add_row]; exact hc j v hv)
  cases hq : P.info? t with
  | none => simp [hq] at h5
  | some i =>
    have hs : i.size = us.length := by simpa [hq, hl] using h5
    have hagg : (isAgg t).run P w = .ok true w := by
      unfold isAgg
      rw [Sem.run_bind, run_underlying h3 w]
      cases d <;> simp_all [aggB]
    simp [loadVar, Sem.run_bind, hagg, sizeOf, typeInfo, hq, hs, hload]
theorem run_loadVar_cell {t b off : Nat} {u : Value} {w : World} (h : ∃ d, P.underlying t = some d ∧ aggB d = false) (hc : w.cell? ⟨b, off, none⟩ = some u) : (loadVar t ⟨b, off, none⟩).run P w = .ok u w := by
  obtain ⟨d, h1, h2⟩ := h
  have hagg : (isAgg t).run P w = .ok false w := by
    unfold isAgg
    rw [Sem.run_bind, run_underlying h1 w]
    cases d <;> simp_all [aggB]
  simp [loadVar, Sem.run_bind, hagg, hc]
theorem cvL_sub {L : Lyt} {w : World} : ∀ (i m : Nat) {cs : List CV} {vs : List Value}, CVL C L w cs vs → CVL C L w (sub i m cs) (sub i m vs)
  | i, 0, cs, vs, _ => by simp [sub, CVL]
  | i, m + 1, [], vs, h => by simp only [CVL] at h; subst h; simp [sub, CVL]
  | 0, m + 1, c :: cs, _, ⟨v, vs', e, h1, h2⟩ => by
    subst e
    have := cvL_sub 0 m h2
    simp only [sub, List.drop_zero, List.take_succ_cons] at this ⊢
    exact ⟨v, _, rfl, h1, this⟩
  | i + 1, m + 1, c :: cs, _, ⟨v, vs', e, h1, h2⟩ => by
    subst e
    have := cvL_sub i (m + 1) h2
    simpa only [sub, List.drop_succ_cons] using this
theorem cvL_get {L : Lyt} {w : World} : ∀ {cs : List CV} {vs : List Value} (i : Nat) (c : CV), CVL C L w cs vs → cs[i]? = some c → ∃ v, vs[i]? = some v ∧ CVr C L w c v
  | [], _, i, c, _, h => by simp at h
  | x :: xs, _, 0, c, ⟨v, vs', e, h1, _⟩, h => by simp at h; subst h; subst e; exact ⟨v, rfl, h1⟩
  | x :: xs, _, i + 1, c, ⟨v, vs', e, _, h2⟩, h => by simp at h; subst e; simpa using cvL_get i c h2 h
theorem row_cell {w' : World} {g t : Nat} {vs : List Value} (h : w'.heap[g]? = some (.cells vs.toArray t (0, 0))) : ∀ j u, vs[j]? = some u → w'.cell? ⟨g, j, none⟩ = some u := fun j u hu => by
  rw [cell_of_row w' g j vs.toArray t (0, 0) h]
  simpa using hu
theorem pu_loadBoxA (hT : TTOk P T) {t n b i t' : Nat} {cs : List CV} (ho : o.op = .load t x) (ht : look T.ag t = some n) (hx : Ev P C nt σ x (.box b i)) (hb : look σ.bx b = some (t', cs)) (hl : Nat.ble (i + n) cs.length = true) : Pu P C nt o σ (.agg (sub i n cs)) [] [b] := Pu.mk fun L a w hr => by
  have h1 := hx.run L a w hr
  simp only [SVr] at h1
  obtain ⟨vs, h2, h3⟩ := hr.bx b t' cs hb
  have hl' : i + n ≤ vs.length := by rw [cvL_len h3]; simpa [Nat.ble_eq] using hl
  refine ⟨.agg (sub i n vs).toArray, by simp only [SVr]; exact ⟨_, rfl, cvL_sub i n h3⟩, fun w' hw => ?_⟩
  have h4 := row_cell ((hw (L.bb b) (heap_lt h2) (.inr ⟨b, by simp, rfl⟩)).trans h2)
  unfold execOp
  simp only [ho, h1, Instr.loadAt, Instr.sureAddr, Sem.run_bind, Sem.run_pure, Result.andThen_ok]
  rw [run_loadVar_cells (hT.ag t n ht) (sub_len i n vs hl') (fun j u hu => by
    have hj : j < n := by have := (List.getElem?_eq_some_iff.1 hu).1; rwa [sub_len i n vs hl'] at this
    rw [sub_get i n vs j hj] at hu
    exact h4 _ _ hu)]
  rfl
theorem pu_loadBox1 (hT : TTOk P T) {t b i t' : Nat} {cs : List CV} {c : CV} {u : Unit} (ho : o.op = .load t x) (ht : look T.on t = some u) (hx : Ev P C nt σ x (.box b i)) (hb : look σ.bx b = some (t', cs)) (hc : cs[i]? = some c) : Pu P C nt o σ (.one c) [] [b] := Pu.mk fun L a w hr => by
  have h1 := hx.run L a w hr
  simp only [SVr] at h1
  obtain ⟨vs, h2, h3⟩ := hr.bx b t' cs hb
  obtain ⟨v, h5, h6⟩ := cvL_get i c h3 hc
  refine ⟨v, by simp only [SVr]; exact h6, fun w' hw => ?_⟩
  have h4 := row_cell ((hw (L.bb b) (heap_lt h2) (.inr ⟨b, by simp, rfl⟩)).trans h2)
  unfold execOp
  simp only [ho, h1, Instr.loadAt, Instr.sureAddr, Sem.run_bind, Sem.run_pure, Result.andThen_ok]
  rw [run_loadVar_cell (hT.on t u ht) (h4 i v h5)]
  rfl
/-- a view's cell; plain data reads no memory -/
def dvK (K : List Nat) (d : DV) : CV := bif d.plain then .dv [] d else .dv K d
theorem dvK_cv {L : Lyt} {w : World} {K : List Nat} {d : DV} {v : Value} (h : Lay (okB C L K) w d v) : CVr C L w (dvK K d) v := by
  unfold dvK
  cases hp : d.plain with
  | true => exact plain_lay hp h
  | false => exact h
theorem dvK_cvL {L : Lyt} {w : World} {K : List Nat} : ∀ {ds : List DV} {vs : List Value}, LayL (okB C L K) w ds vs → CVL C L w (ds.map (dvK K)) vs
  | [], _, h => by simp only [LayL] at h; exact h
  | d :: ds, _, h => by
    simp only [LayL] at h
    obtain ⟨v, vs', rfl, h1, h2⟩ := h
    exact ⟨v, vs', rfl, dvK_cv h1, dvK_cvL h2⟩
theorem ref_keep {L : Lyt} {w w' : World} {K : List Nat} {b off : Nat} {vs : List Value} (hw : ∀ b, b < w.heap.size → okB C L K b ∨ (∃ i ∈ ([] : List Nat), b = L.bb i) → w'.heap[b]? = w.heap[b]?) (h2 : vs ≠ [] → okB C L K b)
    (h4 : ∀ j u, vs[j]? = some u → w.cell? ⟨b, off + j, none⟩ = some u) : ∀ j u, vs[j]? = some u → w'.cell? ⟨b, off + j, none⟩ = some u := fun j u hu => by
  have h5 := h4 j u hu
  have hne : vs ≠ [] := fun e => by rw [e] at hu; simp at hu
  exact (World.cell?_of_block (a := ⟨b, off + j, none⟩) (hw b (cell_lt h5) (.inl (h2 hne)))).trans h5
theorem pu_loadRefA (hT : TTOk P T) {t n : Nat} {K : List Nat} {ds : List DV} (ho : o.op = .load t x) (ht : look T.ag t = some n) (hx : Ev P C nt σ x (.ref K ds)) (hl : Nat.ble n ds.length = true) : Pu P C nt o σ (.agg ((ds.take n).map (dvK K))) K [] := Pu.mk fun L a w hr => by
  have h1 := hx.run L a w hr
  simp only [SVr] at h1
  obtain ⟨b, off, vs, e, h2, h3, h4⟩ := h1
  have hl' : n ≤ vs.length := by rw [layL_len _ _ h3]; simpa [Nat.ble_eq] using hl
  have h5 := layL_sub 0 n h3
  simp only [sub, List.drop_zero] at h5
  refine ⟨.agg (vs.take n).toArray, by simp only [SVr]; exact ⟨_, rfl, dvK_cvL h5⟩, fun w' hw => ?_⟩
  have h6 := ref_keep hw h2 h4
  unfold execOp
  simp only [ho, e, Instr.loadAt, Instr.sureAddr, Sem.run_bind, Sem.run_pure, Result.andThen_ok]
  rw [run_loadVar_cells (us := vs.take n) (hT.ag t n ht) (by simp; omega) (fun j u hu => by
    rw [List.getElem?_take] at hu
    split at hu
    · exact h6 _ _ hu
    · cases hu)]
  rfl
theorem pu_loadRef1 (hT : TTOk P T) {t : Nat} {K : List Nat} {d : DV} {ds : List DV} {u : Unit} (ho : o.op = .load t x) (ht : look T.on t = some u) (hx : Ev P C nt σ x (.ref K ds)) (hd : ds[0]? = some d) : Pu P C nt o σ (.one (dvK K d)) K [] := Pu.mk fun L a w hr => by
  have h1 := hx.run L a w hr
  simp only [SVr] at h1
  obtain ⟨b, off, vs, e, h2, h3, h4⟩ := h1
  obtain ⟨v, h5, h6⟩ := layL_get h3 0 d hd
  refine ⟨v, by simp only [SVr]; exact dvK_cv h6, fun w' hw => ?_⟩
  have h7 := ref_keep hw h2 h4 0 v h5
  rw [Nat.add_zero] at h7
  unfold execOp
  simp only [ho, e, Instr.loadAt, Instr.sureAddr, Sem.run_bind, Sem.run_pure, Result.andThen_ok]
  rw [run_loadVar_cell (hT.on t u ht) h7]
  rfl
/-! ### elements, lengths, parts -/
theorem run_indexAt_slice (hT : TTOk P T) {t e sz by_ : Nat} {zc : List CV} (h : look T.sl t = some e) (he : look T.el e = some (sz, by_, zc)) {b off n c i : Nat} (hi : i < n) (w : World) :
    (Instr.indexAt t (.slice (some ⟨b, off, none⟩) n c) (.int .i64 (i : Int))).run P w = .ok (.pointer (some ⟨b, off + i * sz, none⟩)) w := by
  have h1 := hT.sl t e h
  obtain ⟨inf, z, h2, h3, _⟩ := hT.el e sz by_ zc he
  have hi' : (0 : Int) ≤ i ∧ (i : Int) < n := by omega
  simp only [Instr.indexAt, asIntOf, Sem.run_bind, Sem.run_pure, Result.andThen_ok, run_underlying h1, Sem.run_ite, if_pos hi', sizeOf, typeInfo, run_program, h2, h3, Int.toNat_natCast, add_row]
theorem pu_indexV (hT : TTOk P T) {t e' sz by_ : Nat} {zc : List CV} {K J : List Nat} {e n i : Nat} {z : Int} {cs : List DV} (ho : o.op = .indexAddr t x y) (h : look T.sl t = some e') (he : look T.el e' = some (sz, by_, zc)) (hx : Ev P C nt σ x (.one (.dv K (.sl e sz n cs)))) (hy : Ev P C nt σ y (.one (.dv J (.int .i64 z))))
    (hz : z = (i : Int)) (hi : i < n) : Pu P C nt o σ (.ref K (sub (i * sz) sz cs)) [] [] := Pu.mk fun L a w hr => by
  subst hz
  have h1 := hx.run L a w hr
  have h2 := hy.run L a w hr
  simp only [SVr, CVr, Lay] at h1 h2
  obtain ⟨A, c, vs, e1, h3, h4, h5, h6, h7, h8⟩ := h1
  obtain ⟨b, off, rfl, h9, h10⟩ := h8 (by omega)
  refine ⟨.pointer (some ⟨b, off + i * sz, none⟩), ?_, fun w' _ => ?_⟩
  · simp only [SVr]
    refine ⟨b, off + i * sz, _, rfl, fun _ => h9, layL_sub (i * sz) sz h7, fun j u hu => ?_⟩
    have hlen : i * sz + sz ≤ vs.length := by
      rw [layL_len _ _ h7, h6]
      have : (i + 1) * sz ≤ n * sz := Nat.mul_le_mul_right sz hi
      rw [Nat.add_mul, Nat.one_mul] at this; exact this
    have hj : j < sz := by have := (List.getElem?_eq_some_iff.1 hu).1; rwa [sub_len _ _ _ hlen] at this
    rw [sub_get _ _ _ _ hj] at hu
    rw [Nat.add_assoc]; exact h10 _ _ hu
  · unfold execOp
    simp only [ho, e1, h2.1, Sem.run_bind, run_indexAt_slice hT h he hi, Result.andThen_ok, Sem.run_pure]
theorem pu_indexK (hT : TTOk P T) {t e' sz by_ : Nat} {zc : List CV} {J : List Nat} {k i : Nat} {z : Int} {c : KC} (ho : o.op = .indexAddr t x y) (h : look T.sl t = some e') (he : look T.el e' = some (sz, by_, zc)) (hx : Ev P C nt σ x (.one (.key k))) (hk : lkk σ k = some c) (hy : Ev P C nt σ y (.one (.dv J (.int .i64 z))))
    (hz : z = (i : Int)) (hi : i < c.n) : Pu P C nt o σ (.eptr k (i * sz)) [] [] := Pu.mk fun L a w hr => by
  subst hz
  have h1 := hx.run L a w hr
  have h2 := hy.run L a w hr
  simp only [SVr, CVr, Lay] at h1 h2
  have h3 := (hr.ks k c hk).1
  simp only [Own] at h3
  obtain ⟨vs, f, _, h5, h6, h7, h8⟩ := h3
  rcases (rowE_open h7).2 with ⟨e1, e2⟩ | ⟨g, cap, cur, _, _, e1, _⟩
  · omega
  · refine ⟨.pointer (some ⟨g, i * sz, none⟩), by simp only [SVr]; exact ⟨g, _, _, e1, rfl⟩, fun w' _ => ?_⟩
    unfold execOp
    simp only [ho, h1, e1, h2.1, Sem.run_bind, run_indexAt_slice hT h he hi, Result.andThen_ok, Sem.run_pure, Nat.zero_add]
theorem run_len_slice (hT : TTOk P T) {t e : Nat} (h : look T.sl t = some e) (A : Option Addr) (n c : Nat) (w : World) : (Builtin.len_ #[t] 0 #[.slice A n c]).run P w = .ok (.int .i64 (n : Int)) w := by
  have h1 := hT.sl t e h
  simp [Builtin.len_, run_underlying h1, goInt]
theorem exec_len {t : TypeId} {a : Act} {w : World} {v : Value} {n : Int} (ho : o.op = .call { callee := .builtin .len, args := #[x], argTypes := #[t] }) (hv : a.eval x = v) (h : ∀ ty, (Builtin.len_ #[t] ty #[v]).run P w = .ok (.int .i64 n) w) : (execOp a.eval o).run P w = .ok (.value (.int .i64 n)) w := by
  unfold execOp
  simp only [ho, resolve, invoke, builtin, Sem.run_bind, Sem.run_pure, Result.andThen_ok, List.map_toArray, List.map_cons, List.map_nil, hv, h]
theorem inR_len {n : Nat} (h : n ≤ maxLen) : InR .i64 (n : Int) := by
  unfold InR; unfold maxLen at h
  simp [IntKind.min, IntKind.max, IntKind.signed, IntKind.bits]; omega
theorem pu_lenV (hT : TTOk P T) {t e' e sz n : Nat} {K : List Nat} {cs : List DV} (ho : o.op = .call { callee := .builtin .len, args := #[x], argTypes := #[t] }) (h : look T.sl t = some e') (hx : Ev P C nt σ x (.one (.dv K (.sl e sz n cs)))) : Pu P C nt o σ (.one (.dv [] (.int .i64 (n : Int)))) [] [] := Pu.mk fun L a w hr => by
  have h1 := hx.run L a w hr
  simp only [SVr, CVr, Lay] at h1
  obtain ⟨A, c, vs, e1, h3, h4, _⟩ := h1
  exact ⟨_, by unfold SVr CVr Lay; exact ⟨rfl, inR_len (Nat.le_trans h3 h4)⟩, fun w' _ => exec_len ho e1 (fun ty => run_len_slice hT h A n c w')⟩
theorem pu_lenK (hT : TTOk P T) {t e' k : Nat} {c : KC} (ho : o.op = .call { callee := .builtin .len, args := #[x], argTypes := #[t] }) (h : look T.sl t = some e') (hx : Ev P C nt σ x (.one (.key k))) (hk : lkk σ k = some c) : Pu P C nt o σ (.one (.dv [] (.int .i64 (c.n : Int)))) [] [] := Pu.mk fun L a w hr => by
  have h1 := (ev_keyv hx hk).run L a w hr
  simp only [SVr, CVr, Lay] at h1
  obtain ⟨A, c', vs, e1, h3, h4, _⟩ := h1
  exact ⟨_, by unfold SVr CVr Lay; exact ⟨rfl, inR_len (Nat.le_trans h3 h4)⟩, fun w' _ => exec_len ho e1 (fun ty => run_len_slice hT h A c.n c' w')⟩
theorem pu_lenN (hT : TTOk P T) {t e' : Nat} (ho : o.op = .call { callee := .builtin .len, args := #[x], argTypes := #[t] }) (h : look T.sl t = some e') (hx : Ev P C nt σ x (.one .nil)) : Pu P C nt o σ (.one (.dv [] (.int .i64 0))) [] [] := Pu.mk fun L a w hr => by
  have h1 := hx.run L a w hr
  simp only [SVr, CVr] at h1
  exact ⟨_, by unfold SVr CVr Lay; exact ⟨rfl, inR_len (n := 0) (by simp)⟩, fun w' _ => exec_len ho h1 (fun ty => run_len_slice hT h none 0 0 w')⟩
theorem pu_lenS (hT : TTOk P T) {t : Nat} {u : Unit} {s : ByteArray} {K : List Nat} (ho : o.op = .call { callee := .builtin .len, args := #[x], argTypes := #[t] }) (h : look T.st t = some u) (hx : Ev P C nt σ x (.one (.dv K (.str s)))) : Pu P C nt o σ (.one (.dv [] (.int .i64 (s.size : Int)))) [] [] := Pu.mk fun L a w hr => by
  have h1 := hx.run L a w hr
  simp only [SVr, CVr, Lay] at h1
  refine ⟨_, by unfold SVr CVr Lay; exact ⟨rfl, inR_len (by unfold maxLen; omega)⟩, fun w' _ => exec_len ho h1.1 (fun ty => ?_)⟩
  have h2 := hT.st t u h
  simp [Builtin.len_, run_underlying h2, goInt]
theorem tvL_get {L : Lyt} {w : World} : ∀ {ts : List (Bool × List CV)} {vs : List Value} (i : Nat) (g : Bool) (cs : List CV), TVL C L w ts vs → ts[i]? = some (g, cs) → ∃ v us, vs[i]? = some v ∧ CVL C L w cs us ∧ (if g then v = .agg us.toArray else us = [v])
  | [], _, i, g, cs, _, h => by simp at h
  | (g', cs') :: ts, _, 0, g, cs, ⟨us, v, vs', e, h1, h2, _⟩, h => by simp at h; obtain ⟨rfl, rfl⟩ := h; subst e; exact ⟨v, us, rfl, h1, h2⟩
  | (g', cs') :: ts, _, i + 1, g, cs, ⟨us, v, vs', e, _, _, h3⟩, h => by simp at h; subst e; simpa using tvL_get i g cs h3 h
theorem pu_extract1 {i : Nat} {ts : List (Bool × List CV)} {c : CV} (ho : o.op = .extract x i) (hx : Ev P C nt σ x (.tup ts)) (h : ts[i]? = some (false, [c])) : Pu P C nt o σ (.one c) [] [] := Pu.mk fun L a w hr => by
  have h1 := hx.run L a w hr
  simp only [SVr] at h1
  obtain ⟨rs, e, h2⟩ := h1
  obtain ⟨v, us, h3, h4, h5⟩ := tvL_get i false [c] h2 h
  simp only [Bool.false_eq_true, if_false] at h5
  subst h5
  obtain ⟨v', vs', e', h6, h7⟩ := h4
  simp only [List.cons.injEq] at e'
  obtain ⟨rfl, _⟩ := e'
  refine ⟨v, by simp only [SVr]; exact h6, fun w' _ => ?_⟩
  unfold execOp
  simp [ho, e, Instr.extract, h3]
theorem pu_extractA {i : Nat} {ts : List (Bool × List CV)} {cs : List CV} (ho : o.op = .extract x i) (hx : Ev P C nt σ x (.tup ts)) (h : ts[i]? = some (true, cs)) : Pu P C nt o σ (.agg cs) [] [] := Pu.mk fun L a w hr => by
  have h1 := hx.run L a w hr
  simp only [SVr] at h1
  obtain ⟨rs, e, h2⟩ := h1
  obtain ⟨v, us, h3, h4, h5⟩ := tvL_get i true cs h2 h
  simp only [if_true] at h5
  refine ⟨v, by simp only [SVr]; exact ⟨us, h5, h4⟩, fun w' _ => ?_⟩
  unfold execOp
  simp [ho, e, Instr.extract, h3]
theorem pu_clo {f : FuncId} {caps : List Nat} {cxs : Array Operand} (ho : o.op = .makeFunc (.func f) #[] cxs) (hc : ∀ L a w, Rel P C nt L σ a w → cxs.map a.eval = (caps.map fun b => Value.pointer (some ⟨L.bb b, 0, none⟩)).toArray) : Pu P C nt o σ (.clo f caps) [] [] := Pu.mk fun L a w hr => by
  refine ⟨_, by simp only [SVr]; exact rfl, fun w' _ => ?_⟩
  unfold execOp
  simp only [ho, Instr.makeFunc, Sem.run_bind, Sem.run_pure, Result.andThen_ok, hc L a w hr, List.map_toArray, List.map_nil]
end
end Go.Proofs.Ytbmgommbmhmbgaa
