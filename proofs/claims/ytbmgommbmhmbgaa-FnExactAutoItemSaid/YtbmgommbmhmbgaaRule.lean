/-
  The rules in the forms in which the scripts apply them.
-/
import Derived.Test.YtbmgommbmhmbgaaEff
namespace Go.Proofs.Ytbmgommbmhmbgaa
open Go.RowKit

/-- a function that answers the plain value X -/
structure PFn (P : Program) (f : FuncId) (us : List SV) (X : SV) : Prop where
  ok : FnOk P f [] [] us fun v _ => v = X
/-- a function that hands back v over the new keys kk -/
structure KFn (P : Program) (f : FuncId) (us : List SV) (v : SV) (kk : List (Nat × Option KC)) : Prop where
  ok : FnOk P f [] [] us fun u σ' => u = v ∧ σ'.ks = kk
section
variable {P : Program} {C : Ctx} {nt : Nat} {σ : St} {o : Oper} {x y : Operand} {N : St → Prop} {Q : Exit → St → Prop}
theorem then_n (h : N σ) : thenQ N Q .normal σ := h
theorem then_e {i : Nat} (h : Q (.exit i) σ) : thenQ N Q (.exit i) σ := h
theorem then_r (h : Q .ret σ) : thenQ N Q .ret σ := h
theorem blk_n {id : Nat} (h : Q .normal σ) : blockQ id Q .normal σ := h
theorem blk_r {id : Nat} (h : Q .ret σ) : blockQ id Q .ret σ := h
theorem blk_e {id i : Nat} (hi : Nat.beq i id = true) (h : Q .normal σ) : blockQ id Q (.exit i) σ := by
  have := Nat.eq_of_beq_eq_true hi
  simp only [blockQ, this, if_true]; exact h
theorem blk_o {id i : Nat} (hi : Nat.beq i id = false) (h : Q (.exit i) σ) : blockQ id Q (.exit i) σ := by
  have : i ≠ id := fun e => by rw [e] at hi; simp at hi
  simp only [blockQ, this, if_false]; exact h
theorem beq_t {b : Bool} (h : b = true) : (b == true) = true := by rw [h]; rfl
theorem beq_f {b : Bool} (h : b = false) : (b == false) = true := by rw [h]; rfl
theorem and_mk {a b : Bool} (h : a = true) (k : b = true) : (a && b) = true := by rw [h, k]; rfl
theorem and_l {a b : Bool} (h : (a && b) = true) : a = true := by cases a <;> simp_all
theorem and_r {a b : Bool} (h : (a && b) = true) : b = true := by cases b <;> simp_all
theorem beq_tt {b : Bool} (h : (b == true) = true) : b = true := by cases b <;> simp_all
theorem beq_ff {b : Bool} (h : (b == false) = true) : b = false := by cases b <;> simp_all
theorem pc_p {f : FuncId} {xs : List Operand} {ats : Array TypeId} {us : List SV} {X : SV} (ho : o.op = .call { callee := .value (.func f), args := xs.toArray, argTypes := ats })
    (hc : ∀ (args : Array Value) (w : World), (callFunc f args).run P w = .ok (.enter f args) w) (hf : PFn P f us X) (hp : X.plain = true) (ha : ArgSs P C nt σ xs us) : Pc P C nt o σ (fun v => v = X) :=
  pc_call ho hc hf.ok ha fun v _ h => ⟨h, by rw [h]; exact hp⟩
theorem pc_p' {f : FuncId} {xs : List Operand} {ats : Array TypeId} {us : List SV} {X : SV} (ho : o.op = .call { callee := .value (.func f), args := xs.toArray, argTypes := ats })
    (hc : ∀ (args : Array Value) (w : World), (callFunc f args).run P w = .ok (.enter f args) w) (hf : PFn P f us X) (hp : X.plain = true) (ha : ArgSs P C nt σ xs us) : Pc P C nt o σ (fun v => v = X) := pc_p ho hc hf hp ha
theorem ops_ef1 {all : Array Oper} {rest : List Oper} {σ₁ : St} (hg : o.guard = none) (hp : Ef P C nt o σ (fun σ' => σ' = σ₁)) (h : Ops P C nt Q all rest σ₁) : Ops P C nt Q all (o :: rest) σ := ops_ef hg hp fun σ' e => by rw [e]; exact h
/-! over states that are written out -/
section
variable {all : Array Oper} {rest : List Oper} {tm : List (Nat × SV)} {bx : List (Nat × TypeId × List CV)} {ks : List (Nat × Option KC)} {T : TT} {d : Nat} {v X : SV} {Ks Bs : List Nat} {g : Bool}
theorem o_pure (hg : o.guard = none) (hd : o.dst = some d) (hp : Pu P C nt o ⟨tm, bx, ks⟩ v Ks Bs) (hn : Nat.blt d nt = true) (hk : svOk ⟨tm, bx, ks⟩ v = true) (h : Ops P C nt Q all rest ⟨(d, v) :: tm, bx, ks⟩) : Ops P C nt Q all (o :: rest) ⟨tm, bx, ks⟩ := ops_pure hg hd hp hn hk h
theorem o_pureG (hG : Gd P C nt ⟨tm, bx, ks⟩ all o g) (hd : o.dst = some d) (hp : g = true → Pu P C nt o ⟨tm, bx, ks⟩ v Ks Bs) (hn : Nat.blt d nt = true) (hk : svOk ⟨tm, bx, ks⟩ v = true) (h : Ops P C nt Q all rest ⟨(d, .opt g v) :: tm, bx, ks⟩) : Ops P C nt Q all (o :: rest) ⟨tm, bx, ks⟩ := ops_pure_g hG hd hp hn hk h
theorem o_call {f : FuncId} {xs : List Operand} {ats : Array TypeId} {us : List SV} (hg : o.guard = none) (hd : o.dst = some d) (ho : o.op = .call { callee := .value (.func f), args := xs.toArray, argTypes := ats })
    (hc : ∀ (args : Array Value) (w : World), (callFunc f args).run P w = .ok (.enter f args) w) (hf : PFn P f us X) (ha : ArgSs P C nt ⟨tm, bx, ks⟩ xs us) (hp : X.plain = true) (hn : Nat.blt d nt = true) (h : Ops P C nt Q all rest ⟨(d, X) :: tm, bx, ks⟩) : Ops P C nt Q all (o :: rest) ⟨tm, bx, ks⟩ :=
  ops_ef hg ((pc_p ho hc hf hp ha).efg hd hn).ef fun σ' ⟨v, hv, e⟩ => by rw [e, hv]; exact h
theorem o_callG {f : FuncId} {xs : List Operand} {ats : Array TypeId} {us : List SV} (hG : Gd P C nt ⟨tm, bx, ks⟩ all o g) (hd : o.dst = some d) (ho : o.op = .call { callee := .value (.func f), args := xs.toArray, argTypes := ats })
    (hc : ∀ (args : Array Value) (w : World), (callFunc f args).run P w = .ok (.enter f args) w) (hf : PFn P f us X) (ha : g = true → ArgSs P C nt ⟨tm, bx, ks⟩ xs us) (hp : X.plain = true) (hn : Nat.blt d nt = true) (h : Ops P C nt Q all rest ⟨(d, .opt g X) :: tm, bx, ks⟩) : Ops P C nt Q all (o :: rest) ⟨tm, bx, ks⟩ :=
  ops_call_g hG hd (fun hg => pc_p ho hc hf hp (ha hg)) (fun _ h => h) hn (by
    obtain ⟨_, h2, h3, _⟩ := sv_plain_ret hp
    simp [svOk, h2, h3]) h
theorem o_callK {f : FuncId} {xs : List Operand} {ats : Array TypeId} {us : List SV} {kk : List (Nat × Option KC)} (m : Nat) (hg : o.guard = none) (hd : o.dst = some d) (ho : o.op = .call { callee := .value (.func f), args := xs.toArray, argTypes := ats })
    (hc : ∀ (args : Array Value) (w : World), (callFunc f args).run P w = .ok (.enter f args) w) (hf : KFn P f us v kk) (ha : ArgSs P C nt ⟨tm, bx, ks⟩ xs us) (hn : Nat.blt d nt = true) (hres : v.retOk = true) (hfree : (kk.all fun q => (lkk ⟨tm, bx, ks⟩ (m + q.1)).isNone) = true)
    (h : Ops P C nt Q all rest ⟨(d, v.sh m) :: tm, bx, shK m kk ++ ks⟩) : Ops P C nt Q all (o :: rest) ⟨tm, bx, ks⟩ :=
  ops_ef hg (efg_call (ι := Unit) (v := fun _ => v) (kk := fun _ => kk) (p := fun _ => True) m ho hd hn hc hf.ok ha (fun u σ' h => ⟨(), h.1, h.2, trivial⟩) (fun _ => hres) (fun _ => hfree)).ef fun σ' ⟨_, _, e⟩ => by rw [e]; exact h
theorem o_box {t : Nat} {p : Bool × List CV} (hg : o.guard = none) (hd : o.dst = some d) (ho : o.op = .box t x) (hx : Ev P C nt ⟨tm, bx, ks⟩ x v) (hp : v.part = some p) (hk : svOk ⟨tm, bx, ks⟩ v = true) (hn : Nat.blt d nt = true) (hi : look bx d = none)
    (h : Ops P C nt Q all rest ⟨(d, .box d 0) :: tm, (d, t, p.2) :: bx, ks⟩) : Ops P C nt Q all (o :: rest) ⟨tm, bx, ks⟩ := ops_ef1 hg (efg_box ho hd hn hx hp hk hi).ef h
theorem o_alloc (hT : TTOk P T) {t sz by_ : Nat} {zc : List CV} (hg : o.guard = none) (hd : o.dst = some d) (ho : o.op = .alloc t) (ht : look T.el t = some (sz, by_, zc)) (hn : Nat.blt d nt = true) (hi : look bx d = none)
    (h : Ops P C nt Q all rest ⟨(d, .box d 0) :: tm, (d, t, zc) :: bx, ks⟩) : Ops P C nt Q all (o :: rest) ⟨tm, bx, ks⟩ := ops_ef1 hg (efg_alloc hT ho hd hn ht hi).ef h
theorem o_store (hT : TTOk P T) {t b i t' sz by_ : Nat} {zc cs : List CV} {p : Bool × List CV} (hg : o.guard = none) (hd : o.dst = none) (ho : o.op = .store t x y) (ht : look T.el t = some (sz, by_, zc)) (hx : Ev P C nt ⟨tm, bx, ks⟩ x (.box b i)) (hy : Ev P C nt ⟨tm, bx, ks⟩ y v) (hp : v.part = some p) (hk : svOk ⟨tm, bx, ks⟩ v = true)
    (hb : look bx b = some (t', cs)) (hl : p.2.length = sz) (hle : Nat.ble (i + sz) cs.length = true) (hkc : (cs.flatMap CV.keys).all (fun k => (lkk ⟨tm, bx, ks⟩ k).isSome) = true)
    (h : Ops P C nt Q all rest ⟨tm, (b, t', setR i p.2 cs) :: bx, ks⟩) : Ops P C nt Q all (o :: rest) ⟨tm, bx, ks⟩ := ops_ef1 hg (ef_storeBox hT ho hd ht hx hy hp hk hb hl hle hkc) h
end
theorem as_nil : ArgSs P C nt σ [] [] := rfl
theorem as_cons {xs : List Operand} {us : List SV} {v u : SV} (h1 : Ev P C nt σ x v) (h2 : ArgS σ v u) (h3 : ArgSs P C nt σ xs us) : ArgSs P C nt σ (x :: xs) (u :: us) := ⟨v, u, us, rfl, h1, h2, h3⟩
theorem ag_one {c c' : CV} (h : ArgC σ c c') : ArgS σ (.one c) (.one c') := ⟨c', h, rfl⟩
theorem ag_agg {cs cs' : List CV} (h : ArgCs σ cs cs') : ArgS σ (.agg cs) (.agg cs') := ⟨cs', h, rfl⟩
theorem ag_nil : ArgCs σ [] [] := rfl
theorem ag_cons {c u : CV} {cs us : List CV} (h1 : ArgC σ c u) (h2 : ArgCs σ cs us) : ArgCs σ (c :: cs) (u :: us) := ⟨u, us, rfl, h1, h2⟩
theorem ac_dv {K : List Nat} {d : DV} : ArgC σ (.dv K d) (.dv [] d) := rfl
theorem ac_nest {k o : Nat} {d : DV} : ArgC σ (.nest k o d) (.dv [] d) := rfl
theorem ac_key {k : Nat} {c : KC} (h : lkk σ k = some c) : ArgC σ (.key k) (.dv [] (.sl c.e c.sz c.n c.cs)) := ⟨c, h, rfl⟩
theorem ac_nil {e sz : Nat} (h : Nat.blt 0 sz = true) : ArgC σ .nil (.dv [] (.sl e sz 0 [])) := ⟨e, sz, by simpa [Nat.blt_eq] using h, rfl⟩
theorem inR_lit {k : IntKind} {n : Int} (h : (decide (k.min ≤ n) && decide (n ≤ k.max)) = true) : InR k n := by simpa [InR] using h
theorem str_lit {s : ByteArray} (h : Nat.ble s.size 9223372036854775807 = true) : s.size ≤ 9223372036854775807 := by simpa [Nat.ble_eq] using h
theorem res_tmp {t : Nat} {v : SV} (h : look σ.tm t = some v) : ResJ P σ (.tmp t) v := h
theorem res_cell {T : TT} (hT : TTOk P T) {p ty b t n : Nat} {cs : List CV} (h1 : look σ.tm p = some (.box b 0)) (h2 : look σ.bx b = some (t, cs)) (h3 : look T.ag ty = some n) (h4 : Nat.beq cs.length n = true) : ResJ P σ (.cell p ty) (.agg cs) :=
  ⟨b, t, cs, h1, h2, by rw [Nat.eq_of_beq_eq_true h4]; exact hT.ag ty n h3, rfl⟩
theorem fin1 {rs : ResultVar} {v : SV} {Post : SV → St → Prop} (h : ResJ P σ rs v) (k : Post v σ) : Fin P [rs] Post .ret σ := ⟨v, h, k⟩
theorem fin1n {rs : ResultVar} {v : SV} {Post : SV → St → Prop} (h : ResJ P σ rs v) (k : Post v σ) : Fin P [rs] Post .normal σ := ⟨v, h, k⟩
theorem fin2 {r1 r2 : ResultVar} {u v : SV} {p q : Bool × List CV} {Post : SV → St → Prop} (h1 : ResJ P σ r1 u) (h2 : ResJ P σ r2 v) (hp : u.part = some p) (hq : v.part = some q) (k : Post (.tup [p, q]) σ) : Fin P [r1, r2] Post .ret σ := ⟨u, v, p, q, h1, h2, hp, hq, k⟩
theorem fin3 {r1 r2 r3 : ResultVar} {u v t : SV} {p q s : Bool × List CV} {Post : SV → St → Prop} (h1 : ResJ P σ r1 u) (h2 : ResJ P σ r2 v) (h3 : ResJ P σ r3 t) (hp : u.part = some p) (hq : v.part = some q) (hs : t.part = some s) (k : Post (.tup [p, q, s]) σ) : Fin P [r1, r2, r3] Post .ret σ := ⟨u, v, t, p, q, s, h1, h2, h3, hp, hq, hs, k⟩
end
/-- an element, by its cells -/
theorem sub_flat {α : Type} [Inhabited α] (enc : α → List DV) (sz : Nat) (hs : ∀ x, (enc x).length = sz) : ∀ (xs : List α) (i : Nat), i < xs.length → sub (i * sz) sz (xs.flatMap enc) = enc (xs.getD i default)
  | [], i, h => by simp at h
  | x :: xs, 0, _ => by
    simp only [sub, Nat.zero_mul, List.drop_zero, List.flatMap_cons]
    rw [List.take_left' (hs x)]; rfl
  | x :: xs, i + 1, h => by
    have ih := sub_flat enc sz hs xs i (by simpa using h)
    simp only [sub, List.flatMap_cons] at ih ⊢
    rw [show (i + 1) * sz = (enc x).length + i * sz by rw [hs, Nat.add_mul]; omega, ← List.drop_drop, List.drop_left]
    simpa using ih
theorem pu_indexD {P : Program} {C : Ctx} {nt : Nat} {σ : St} {o : Oper} {x y : Operand} {T : TT} (hT : TTOk P T) {α : Type} [Inhabited α] {t e' sz by_ : Nat} {zc : List CV} {K J : List Nat} {e : Nat} {z : Int} {xs : List α} {enc : α → List DV} (ho : o.op = .indexAddr t x y) (h : look T.sl t = some e') (he : look T.el e' = some (sz, by_, zc))
    (hx : Ev P C nt σ x (.one (.dv K (.sl e sz xs.length (xs.flatMap enc))))) (hy : Ev P C nt σ y (.one (.dv J (.int .i64 z)))) (hs : ∀ x, (enc x).length = sz) (h0 : 0 ≤ z) (h1 : z < xs.length) : Pu P C nt o σ (.ref K (enc (xs.getD z.toNat default))) [] [] := by
  have := pu_indexV (i := z.toNat) hT ho h he hx hy (by omega) (by omega)
  rwa [sub_flat enc sz hs xs z.toNat (by omega)] at this
theorem inR64 {z : Int} (h1 : -9223372036854775808 ≤ z) (h2 : z ≤ 9223372036854775807) : InR .i64 z := by
  unfold InR; simp only [IntKind.min, IntKind.max, IntKind.signed, IntKind.bits]; exact ⟨by simpa using h1, by simpa using h2⟩
@[reducible] def kcOf (h : Bool) : DV → KC
  | .sl e sz n cs => ⟨h, e, sz, n, cs⟩
  | _ => ⟨h, 0, 1, 0, []⟩
theorem eqB {a b : Bool} (h : a = b) : SV.one (.dv [] (.bool a)) = SV.one (.dv [] (.bool b)) := by rw [h]
theorem eqI {k : IntKind} {a b : Int} (h : a = b) : SV.one (.dv [] (.int k a)) = SV.one (.dv [] (.int k b)) := by rw [h]
theorem eqS {a b : ByteArray} (h : a = b) : SV.one (.dv [] (.str a)) = SV.one (.dv [] (.str b)) := by rw [h]
def DV.len : DV → Nat
  | .sl _ _ n _ => n
  | _ => 0
/-- what is known of data that lies somewhere -/
@[reducible] def Fact : DV → Prop
  | .int .i64 n => -9223372036854775808 ≤ n ∧ n ≤ 9223372036854775807
  | .str s => s.size ≤ 9223372036854775807
  | .sl _ _ n _ => n ≤ 9223372036854775807
  | _ => True
theorem lay_fact {ok : Nat → Prop} {w : World} {d : DV} {v : Value} (h : Lay ok w d v) : Fact d := by
  cases d with
  | int k n =>
    simp only [Lay, InR] at h
    cases k <;> first | trivial | simpa [IntKind.min, IntKind.max, IntKind.signed, IntKind.bits] using h.2
  | str s => simp only [Lay] at h; exact h.2
  | sl e sz n cs => simp only [Lay] at h; obtain ⟨A, c, vs, _, h1, h2, _⟩ := h; simp only [Fact]; unfold maxLen at h2; omega
  | bool => trivial
  | hole => trivial
theorem ok_fact {P : Program} {C : Ctx} {nt : Nat} {Q : Exit → St → Prop} {c : Code} {σ : St} {x : Operand} {K : List Nat} {d : DV} (hx : Ev P C nt σ x (.one (.dv K d))) (h : Fact d → Ok P C nt Q c σ) : Ok P C nt Q c σ := Ok.mk fun L a w hr => by
  have h1 := hx.run L a w hr
  simp only [SVr, CVr] at h1
  exact (h (lay_fact h1)).run L a w hr
theorem ok_factA {P : Program} {C : Ctx} {nt : Nat} {Q : Exit → St → Prop} {c : Code} {σ : St} {x : Operand} {cs : List CV} {K : List Nat} {d : DV} (i : Nat) (hx : Ev P C nt σ x (.agg cs)) (hi : cs[i]? = some (.dv K d)) (h : Fact d → Ok P C nt Q c σ) : Ok P C nt Q c σ := Ok.mk fun L a w hr => by
  have h1 := hx.run L a w hr
  simp only [SVr] at h1
  obtain ⟨vs, _, h2⟩ := h1
  obtain ⟨v, _, h4⟩ := cvL_get i _ h2 hi
  exact (h (lay_fact h4)).run L a w hr
end Go.Proofs.Ytbmgommbmhmbgaa
