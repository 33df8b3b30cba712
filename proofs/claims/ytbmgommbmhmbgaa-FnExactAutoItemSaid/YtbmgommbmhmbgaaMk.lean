/-
  The rules of the abstract logic for slices that are made, appended to and whose elements are written; over states that are written out.
-/
import Derived.Test.YtbmgommbmhmbgaaMut
namespace Go.Proofs.Ytbmgommbmhmbgaa
open Go.RowKit

/-- zero cells, as data -/
def zOwn : CV → DV → Bool
  | .dv [] (.int k n), .int k' n' => decide (k = k') && decide (n = n')
  | .dv [] (.bool b), .bool b' => b == b'
  | .dv [] (.str s), .str s' => decide (s = s')
  | .nil, .sl _ sz 0 [] => Nat.blt 0 sz
  | _, _ => false
def zOwns : List CV → List DV → Bool
  | [], [] => true
  | c :: cs, d :: ds => zOwn c d && zOwns cs ds
  | _, _ => false
section
variable {P : Program} {C : Ctx} {nt : Nat} {L : Lyt} {σ : St} {a : Act} {w : World} {o : Oper} {x y : Operand}
theorem zOwn_ow {c : CV} {d : DV} (h : zOwn c d = true) : OwC σ c d [] := by
  unfold zOwn at h
  split at h
  · simp only [Bool.and_eq_true, decide_eq_true_eq] at h
    obtain ⟨rfl, rfl⟩ := h
    exact ⟨rfl, rfl, rfl⟩
  · simp only [beq_iff_eq] at h; subst h; exact ⟨rfl, rfl, rfl⟩
  · simp only [decide_eq_true_eq] at h; subst h; exact ⟨rfl, rfl, rfl⟩
  · exact ⟨⟨_, _, by simpa [Nat.blt_eq] using h, rfl⟩, rfl⟩
  · cases h
theorem zOwns_ow : ∀ {cs : List CV} {ds : List DV}, zOwns cs ds = true → OwCs σ cs ds []
  | [], [], _ => ⟨rfl, rfl⟩
  | [], _ :: _, h => by cases h
  | _ :: _, [], h => by cases h
  | c :: cs, d :: ds, h => by
    simp only [zOwns, Bool.and_eq_true] at h
    exact ⟨d, ds, [], [], rfl, rfl, zOwn_ow h.1, zOwns_ow h.2⟩
theorem made_flat {z : Array Value} : ∀ n : Nat, (madeCells z (n * z.size)).toList = (List.replicate n z.toList).flatten
  | 0 => by simp [madeCells]
  | n + 1 => by
    have ih := made_flat (z := z) n
    rw [List.replicate_succ', List.flatten_append, ← ih]
    simp only [madeCells, Array.toList_map, Array.toList_range, List.flatten_cons, List.flatten_nil, List.append_nil]
    rw [Nat.add_mul, Nat.one_mul, List.range_add, List.map_append, List.map_map]
    congr 1
    apply List.ext_getElem
    · simp
    · intro i h1 h2
      simp only [List.length_map, List.length_range] at h1
      simp only [List.getElem_map, List.getElem_range, Function.comp_apply, Array.getElem_toList]
      rw [Nat.mul_add_mod_self_right, Nat.mod_eq_of_lt h1, getElem!_pos z i h1]
theorem ownL_rep {w : World} {ds : List DV} {vs : List Value} (h : OwnL w ds vs []) : ∀ n : Nat, OwnL w (List.replicate n ds).flatten (List.replicate n vs).flatten []
  | 0 => by simp [OwnL]
  | n + 1 => by
    have := ownL_append _ _ _ _ _ _ h (ownL_rep h n)
    simpa [List.replicate_succ] using this
theorem zL_len : ∀ {vs : List Value} {cs : List CV}, zL vs cs = true → vs.length = cs.length
  | [], [], _ => rfl
  | [], _ :: _, h => by cases h
  | _ :: _, [], h => by cases h
  | v :: vs, c :: cs, h => by
    simp only [zL, Bool.and_eq_true] at h
    simp [zL_len h.2]
theorem rep_len {α : Type} {ds : List α} {n : Nat} : (List.replicate n ds).flatten.length = n * ds.length := by simp
theorem efg_make {T : TT} (hT : TTOk P T) {t e sz by_ d k n : Nat} {J1 J2 : List Nat} {z : Int} {zc : List CV} {zd : List DV} (ho : o.op = .makeSlice t x y) (hd : o.dst = some d) (hn : Nat.blt d nt = true) (ht : look T.sl t = some e) (he : look T.el e = some (sz, by_, zc))
    (hx : Ev P C nt σ x (.one (.dv J1 (.int .i64 z)))) (hy : Ev P C nt σ y (.one (.dv J2 (.int .i64 z)))) (hz : zOwns zc zd = true) (hsz : Nat.blt 0 sz = true) (hzn : z = (n : Int)) (hb : by_ * n ≤ 281474976710656) (hl0 : zc.length = sz) (hk : lkk σ k = none) :
    EfG P C nt o σ (fun σ' => σ' = { σ with ks := (k, some ⟨false, e, sz, n, (List.replicate n zd).flatten⟩) :: σ.ks }.put d (.one (.key k))) := EfG.mk fun L a w hr K Q hK => by
  subst hzn
  have h1 := hx.run L a w hr
  have h2 := hy.run L a w hr
  simp only [SVr, CVr, Lay] at h1 h2
  obtain ⟨inf, zv, g1, g2, g3, g4, g5⟩ := hT.el e sz by_ zc he
  have hmax : n ≤ maxLen := by
    have := h1.2
    simp only [InR, IntKind.max, IntKind.signed, IntKind.bits] at this
    unfold maxLen
    have := this.2
    simp at this
    omega
  obtain ⟨w', hrun, hown, hgr⟩ := run_make_full (P := P) (w := w) 0 t e inf zv sz (hT.sl t e ht) g1 g4 g2 .i64 .i64 n (by rw [g3]; exact hb) hmax (Nat.zero_le _)
  have hchg : Chg [] w w' := (Chg.refl [] w).grown hgr (by simp)
  obtain ⟨c1, _, _⟩ := zL_cv (C := C) (L := L) (w := w') g5
  have hzo := zOwns_ow (σ := σ) hz
  have hr' := hr.grow hchg
  obtain ⟨o1, _, o3⟩ := owCs_own hr' hzo c1
  have hl : zv.cells.toList.length = zd.length := ownL_len _ _ _ o1
  have hzc : zv.cells.toList.length = sz := by
    have := zL_len g5
    rw [this]; exact hl0
  have hpos : 0 < sz := by simpa [Nat.blt_eq] using hsz
  simp only [List.flatMap_nil] at o1
  have hm : (madeCells zv.cells (n * sz)).toList = (List.replicate n zv.cells.toList).flatten := by
    have : sz = zv.cells.size := by rw [← hzc]; simp
    rw [this]; exact made_flat n
  rw [hm] at hown
  refine wp_new (v := .slice (some ⟨w.heap.size, 0, none⟩) n n) (w' := w') ?_ ?_
  · unfold execOp
    simp only [ho, h1.1, h2.1, hrun, Sem.run_bind, Result.andThen_ok, Sem.run_pure]
  · have hb := hr.newkey' hchg (c := ⟨false, e, sz, n, (List.replicate n zd).flatten⟩) (v := .slice (some ⟨w.heap.size, 0, none⟩) n n) (f := [w.heap.size]) hk
      (by unfold Own; exact ⟨_, [], rfl, hpos, by rw [rep_len, ← hl, hzc], rowE_of (hT.lt e _ he) hown, ownL_rep o1 n⟩) rfl (by simp) (by simp)
    refine hK { L with fp := fun j => if j = k then [w.heap.size] else L.fp j, rv := fun j => if j = k then .slice (some ⟨w.heap.size, 0, none⟩) n n else L.rv j } _ _ _ rfl (by rw [hd]; exact hb.put (v := .one (.key k)) (r := .slice (some ⟨w.heap.size, 0, none⟩) n n) (by simpa [Nat.blt_eq] using hn) (by simp [SVr, CVr]) (by simp [SV.keys, CV.keys, lkk, look_cons]) (by simp [SV.boxes])) ⟨hchg, fun i c hc => ?_, fun _ _ _ => rfl⟩
    have : i ≠ k := fun e => by rw [e, hk] at hc; cases hc
    simp [this]
/-! over states that are written out -/
section
variable {Q : Exit → St → Prop} {all : Array Oper} {rest : List Oper} {tm : List (Nat × SV)} {bx : List (Nat × TypeId × List CV)} {ks : List (Nat × Option KC)} {T : TT} {d : Nat} {v : SV}
theorem o_make (hT : TTOk P T) {t e sz by_ k n : Nat} {J1 J2 : List Nat} {z : Int} {zc : List CV} {zd cs : List DV} (hg : o.guard = none) (hd : o.dst = some d) (ho : o.op = .makeSlice t x y) (hn : Nat.blt d nt = true) (ht : look T.sl t = some e) (he : look T.el e = some (sz, by_, zc))
    (hx : Ev P C nt ⟨tm, bx, ks⟩ x (.one (.dv J1 (.int .i64 z)))) (hy : Ev P C nt ⟨tm, bx, ks⟩ y (.one (.dv J2 (.int .i64 z)))) (hz : zOwns zc zd = true) (hsz : Nat.blt 0 sz = true) (hzn : z = (n : Int)) (hb : by_ * n ≤ 281474976710656) (hl0 : zc.length = sz) (hk : lkk ⟨tm, bx, ks⟩ k = none)
    (hcs : (List.replicate n zd).flatten = cs) (h : Ops P C nt Q all rest ⟨(d, .one (.key k)) :: tm, bx, (k, some ⟨false, e, sz, n, cs⟩) :: ks⟩) : Ops P C nt Q all (o :: rest) ⟨tm, bx, ks⟩ := ops_ef1 hg (efg_make hT ho hd hn ht he hx hy hz hsz hzn hb hl0 hk).ef (by subst hcs; exact h)
theorem o_storeE (hT : TTOk P T) {t k off sz by_ : Nat} {zc : List CV} {p : Bool × List CV} {c : KC} {ds cs : List DV} {js : List Nat} (hg : o.guard = none) (hd : o.dst = none) (ho : o.op = .store t x y) (ht : look T.el t = some (sz, by_, zc)) (hx : Ev P C nt ⟨tm, bx, ks⟩ x (.eptr k off)) (hy : Ev P C nt ⟨tm, bx, ks⟩ y v) (hp : v.part = some p) (hkv : svOk ⟨tm, bx, ks⟩ v = true)
    (hk : lkk ⟨tm, bx, ks⟩ k = some c) (hE : Nat.blt c.e 1000000 = true) (how : OwCs ⟨tm, bx, ks⟩ p.2 ds js) (hn : js.Nodup) (hkj : k ∉ js) (hl : p.2.length = sz) (hle : off + sz ≤ c.cs.length) (hcs : setR off ds c.cs = cs)
    (h : Ops P C nt Q all rest ⟨killT (k :: js) js tm, killB (k :: js) js bx, (k, some { c with cs := cs }) :: ((js.map fun j => (j, none)) ++ ks)⟩) : Ops P C nt Q all (o :: rest) ⟨tm, bx, ks⟩ :=
  ops_ef1 hg (ef_storeE hT ho hd ht hx hy hp hkv hk hE how hn hkj hl hle) (by subst hcs; exact h)
end
theorem ow_cons' {c : CV} {d : DV} {j js js' : List Nat} {cs : List CV} {ds : List DV} (h : OwC σ c d j) (h2 : OwCs σ cs ds js) (e : js' = j ++ js) : OwCs σ (c :: cs) (d :: ds) js' := ⟨d, ds, j, js, rfl, e, h, h2⟩
theorem ac_key' {k : Nat} {c : KC} {d : DV} (h : lkk σ k = some c) (hd : DV.sl c.e c.sz c.n c.cs = d) : ArgC σ (.key k) (.dv [] d) := by subst hd; exact ac_key h
theorem ac_nil' {e sz : Nat} {d : DV} (h : Nat.blt 0 sz = true) (hd : DV.sl e sz 0 [] = d) : ArgC σ .nil (.dv [] d) := by subst hd; exact ac_nil h
theorem ow_nil : OwCs σ [] [] [] := ⟨rfl, rfl⟩
theorem ow_cons {c : CV} {d : DV} {j js : List Nat} {cs : List CV} {ds : List DV} (h : OwC σ c d j) (h2 : OwCs σ cs ds js) : OwCs σ (c :: cs) (d :: ds) (j ++ js) := ⟨d, ds, j, js, rfl, rfl, h, h2⟩
theorem ow_dv {K : List Nat} {d : DV} (h : d.plain = true) : OwC σ (.dv K d) d [] := ⟨rfl, h, rfl⟩
theorem ow_key {k : Nat} {c : KC} (h : lkk σ k = some c) : OwC σ (.key k) (.sl c.e c.sz c.n c.cs) [k] := ⟨⟨c, h, rfl⟩, rfl⟩
theorem ow_nilc {e sz : Nat} (h : Nat.blt 0 sz = true) : OwC σ .nil (.sl e sz 0 []) [] := ⟨⟨e, sz, by simpa [Nat.blt_eq] using h, rfl⟩, rfl⟩
end
theorem nd_t {P : Prop} [Decidable P] (h : (!decide P) = true) : ¬P := by simpa using h
theorem nd_f {P : Prop} [Decidable P] (h : (!decide P) = false) : P := by simpa using h
/-! ### bools compared -/
theorem pu_bool {P : Program} {C : Ctx} {nt : Nat} {σ : St} {o : Oper} {x y : Operand} {op : BinOp} {t ty : TypeId} {K J : List Nat} {a b c : Bool} (hop : op = .eql ∨ op = .neq) (ho : o.op = .binOp op t x y ty) (hx : Ev P C nt σ x (.one (.dv K (.bool a)))) (hy : Ev P C nt σ y (.one (.dv J (.bool b))))
    (h : ∀ w : World, (binOp op t (.bool a) (.bool b)).run P w = .ok (.bool c) w) : Pu P C nt o σ (.one (.dv [] (.bool c))) [] [] := Pu.mk fun L ac w hr => by
  have h1 := hx.run L ac w hr
  have h2 := hy.run L ac w hr
  simp only [SVr, CVr, Lay] at h1 h2
  refine ⟨.bool c, by simp only [SVr, CVr, Lay], fun w' _ => ?_⟩
  unfold execOp
  simp only [ho, h1, h2, Sem.run_bind]
  have hg : (eqGuard op t x y (.bool a) (.bool b)).run P w' = .ok () w' := by
    unfold eqGuard
    rcases hop with rfl | rfl <;> rfl
  simp only [hg, Result.andThen_ok, h w', Sem.run_pure]
theorem pu_beql {P : Program} {C : Ctx} {nt : Nat} {σ : St} {o : Oper} {x y : Operand} {T : TT} (hT : TTOk P T) {t ty : TypeId} {K J : List Nat} {a b : Bool} {u : Unit} (ho : o.op = .binOp .eql t x y ty) (ht : look T.bo t = some u) (hx : Ev P C nt σ x (.one (.dv K (.bool a)))) (hy : Ev P C nt σ y (.one (.dv J (.bool b)))) : Pu P C nt o σ (.one (.dv [] (.bool (a == b)))) [] [] :=
  pu_bool (.inl rfl) ho hx hy fun w => run_eql_bool w t a b (hT.bo t u ht)
theorem pu_bneq {P : Program} {C : Ctx} {nt : Nat} {σ : St} {o : Oper} {x y : Operand} {T : TT} (hT : TTOk P T) {t ty : TypeId} {K J : List Nat} {a b : Bool} {u : Unit} (ho : o.op = .binOp .neq t x y ty) (ht : look T.bo t = some u) (hx : Ev P C nt σ x (.one (.dv K (.bool a)))) (hy : Ev P C nt σ y (.one (.dv J (.bool b)))) : Pu P C nt o σ (.one (.dv [] (.bool (!(a == b))))) [] [] :=
  pu_bool (.inr rfl) ho hx hy fun w => run_neq_bool w t a b (hT.bo t u ht)
/-! ### lists that are filled from the left -/
def fillD {α : Type} (enc : α → List DV) (zd : List DV) (xs : List α) (k : Nat) : List DV := (xs.take k).flatMap enc ++ (List.replicate (xs.length - k) zd).flatten
theorem fillD_zero {α : Type} {enc : α → List DV} {zd : List DV} {xs : List α} : (List.replicate xs.length zd).flatten = fillD enc zd xs 0 := by simp [fillD]
theorem fillD_all {α : Type} {enc : α → List DV} {zd : List DV} {xs : List α} {k : Nat} (h : k = xs.length) : fillD enc zd xs k = xs.flatMap enc := by subst h; simp [fillD]
theorem flat_len {α : Type} {enc : α → List DV} {sz : Nat} (hs : ∀ x, (enc x).length = sz) : ∀ xs : List α, (xs.flatMap enc).length = xs.length * sz
  | [] => by simp
  | x :: xs => by rw [List.flatMap_cons, List.length_append, hs, flat_len hs xs, List.length_cons, Nat.add_mul]; omega
theorem fillD_len {α : Type} {enc : α → List DV} {zd : List DV} {sz : Nat} (hs : ∀ x, (enc x).length = sz) (hz : zd.length = sz) (xs : List α) (k : Nat) : (fillD enc zd xs k).length = xs.length * sz := by
  unfold fillD
  rw [List.length_append, flat_len hs, rep_len, hz, List.length_take, ← Nat.add_mul]
  congr 1; omega
theorem fillD_succ {α : Type} [Inhabited α] {enc : α → List DV} {zd : List DV} {sz : Nat} (hs : ∀ x, (enc x).length = sz) (hz : zd.length = sz) {xs : List α} {k : Nat} (hk : k < xs.length) {ds : List DV} (hds : ds = enc (xs.getD k default)) : setR (k * sz) ds (fillD enc zd xs k) = fillD enc zd xs (k + 1) := by
  subst hds
  have e1 : ((xs.take k).flatMap enc).length = k * sz := by rw [flat_len hs, List.length_take, Nat.min_eq_left (by omega)]
  unfold setR fillD
  rw [List.take_left' e1, hs, show k * sz + sz = ((xs.take k).flatMap enc).length + sz by omega, ← List.drop_drop, List.drop_left]
  obtain ⟨m, hm⟩ : ∃ m, xs.length - k = m + 1 := ⟨xs.length - k - 1, by omega⟩
  rw [hm, List.replicate_succ, List.flatten_cons, ← hz, List.drop_left, show xs.length - (k + 1) = m by omega]
  rw [show xs.take (k + 1) = xs.take k ++ [xs.getD k default] by
    rw [List.take_add_one, List.getElem?_eq_getElem hk]; simp [List.getD, List.getElem?_eq_getElem hk]]
  rw [List.flatMap_append]
  simp
end Go.Proofs.Ytbmgommbmhmbgaa
