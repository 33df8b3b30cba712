/-
  The rules of a small program logic over abstract states: no program is in sight but in the table of its types. Conditions: none.
-/
import Derived.Laws.CopyRow
import Derived.Laws.Externs
import Derived.Lib.AppendZerosOnto
import Derived.Lib.Overlaps
import Derived.Shelf.RegionOpenPlain
import Derived.Shelf.Spec.SlicesInsert
import Derived.Test.YtdjlikknmbjjgaaGreatU2
namespace Go.Proofs.YtdjlikknmbjjgaaGreat
open Go.RowKit
open Go.Proofs
set_option linter.unusedVariables false
set_option linter.unusedSimpArgs false
section
variable {P : Program} {C : Ctx} {nt : Nat} {σ : St} {L : Lyt} {a : Act} {w : World} {o : Oper} {x y u : Operand} {T : TT}
theorem key_root (hr : Rel P C nt L σ a w) {k : Nat} {c : KC} (hk : lkk σ k = some c) : (L.rv k = .slice none 0 0 ∧ c.n = 0) ∨ ∃ g cap, L.rv k = .slice (some ⟨g, 0, none⟩) c.n cap ∧ c.n ≤ cap := by
 have ho := (hr.ks k c hk).1
 simp only [Own] at ho
 obtain ⟨vs, f, _, _, _, q4, _⟩ := ho
 rcases (rowE_open q4).2 with ⟨g1, g2⟩ | ⟨g, cap, cur, t, fz, g1, g2, g3, g4, g5, g6⟩
 ·exact .inl ⟨g1, g2⟩
 ·exact .inr ⟨g, cap, g1, g3⟩
theorem key_open (hr : Rel P C nt L σ a w) {k : Nat} {c : KC} (hk : lkk σ k = some c) (hE : c.e < 1000000) : 0 < c.sz ∧ c.cs.length = c.n * c.sz ∧ ((L.rv k = .slice none 0 0 ∧ c.n = 0) ∨
  ∃ g cap cur vs f, L.rv k = .slice (some ⟨g, 0, none⟩) c.n cap ∧ w.heap[g]? = some (.cells cur c.e (0, 0)) ∧ c.n ≤ cap ∧ cap ≤ maxLen ∧ cur.size = cap * c.sz ∧ cur.toList.take (c.n * c.sz) = vs ∧ L.fp k = g :: f ∧ OwnL w c.cs vs f) := by
 have ho := (hr.ks k c hk).1
 simp only [Own] at ho
 obtain ⟨vs, f, q1, q2, q3, q4, q5⟩ := ho
 refine ⟨q2, q3, ?_⟩
 rcases (q4.1 hE).2 with ⟨g1, g2⟩ | ⟨g, cap, cur, g1, _, g3, g4, g5, g6, g7⟩
 ·exact .inl ⟨g1, g2⟩
 ·exact .inr ⟨g, cap, cur, vs, f, g1, g3, g4, g5, g6, g7, by rw [q1, g1]; simp [Value.ownBlock], q5⟩
theorem pu_ksl {j sz lo hi : Nat} {c2 : KC} (hs : SlOk P C nt σ o j sz lo hi) (hj : lkk σ j = some c2) : Pu P C nt o σ (.ksl j lo hi sz) [] [] := Pu.mk fun L a w hr => by
 rcases key_root hr hj with ⟨h, _⟩ | ⟨g, cap, h, _⟩
 ·exact ⟨_, by simp only [SVr]; exact ⟨_, _, _, h, rfl⟩, fun w' _ => hs.run L a w hr _ _ _ h w'⟩
 ·exact ⟨_, by simp only [SVr]; exact ⟨_, _, _, h, rfl⟩, fun w' _ => hs.run L a w hr _ _ _ h w'⟩
theorem sl_lhm (hT : TTOk P T) {t e sz by_ j : Nat} {zc : List CV} {c2 : KC} {v : Operand} {J I M : List Nat} {z q m : Int} (ho : o.op = .slice t x (some y) (some u) (some v)) (h : look T.sl t = some e) (he : look T.el e = some (sz, by_, zc)) (hx : Ev P C nt σ x (.one (.key j))) (hj : lkk σ j = some c2) (hy : Ev P C nt σ y (.one (.dv J (.int .i64 z)))) (hu : Ev P C nt σ u (.one (.dv I (.int .i64 q)))) (hv : Ev P C nt σ v (.one (.dv M (.int .i64 m)))) (h0 : 0 ≤ z) (h1 : z ≤ q) (h2 : q ≤ m) (h3 : m ≤ c2.n) : Pu P C nt o σ .any [] [] := Pu.mk fun L a w hr => by
 have k2 := hx.run L a w hr
 have k3 := hy.run L a w hr
 have k4 := hu.run L a w hr
 have k5 := hv.run L a w hr
 simp only [SVr, CVr, Lay] at k2 k3 k4 k5
 obtain ⟨e1, e2⟩ := elem_eq (hT.sl t e h)
 obtain ⟨A, n, c, hA, hc⟩ : ∃ A n c, L.rv j = .slice A n c ∧ c2.n ≤ c := by
  rcases key_root hr hj with ⟨h, h'⟩ | ⟨g, cap, h, h'⟩
  ·exact ⟨_, _, _, h, by omega⟩
  ·exact ⟨_, _, _, h, h'⟩
 rw [hA] at k2
 refine ⟨sliced A z.toNat q.toNat m.toNat sz, by simp only [SVr], fun w' _ => ?_⟩
 unfold execOp
 simp only [ho, Option.map_none, Option.map_some, k2, k3.1, k4.1, k5.1, Sem.run_bind, run_sliceAt_slice _ _ _ _ _ _ e1, run_slice_lhm w' t A n c e1 .i64 .i64 .i64 z q m h0 h1 h2 (by omega), e2, run_sizeT hT he, Result.andThen_ok, Sem.run_pure]
theorem ksl_at0 {A : Option Addr} {n c sz : Nat} {hi : Nat} (h : A = none ∨ ∃ g, A = some ⟨g, 0, none⟩) : sliced A 0 hi c sz = .slice A hi c := by
 rcases h with rfl | ⟨g, rfl⟩
 ·simp [sliced]
 ·by_cases hc : c = 0
  ·simp [sliced, hc]
  ·simp [sliced, hc, Addr.add]
theorem root_form (hr : Rel P C nt L σ a w) {k : Nat} {c : KC} (hk : lkk σ k = some c) {A : Option Addr} {n cap : Nat} (h : L.rv k = .slice A n cap) : (A = none ∨ ∃ g, A = some ⟨g, 0, none⟩) ∧ n = c.n ∧ c.n ≤ cap := by
 rcases key_root hr hk with ⟨h1, h2⟩ | ⟨g, cap', h1, h2⟩
 ·rw [h] at h1
  simp only [Value.slice.injEq] at h1
  obtain ⟨rfl, rfl, rfl⟩ := h1
  exact ⟨.inl rfl, h2.symm, by omega⟩
 ·rw [h] at h1
  simp only [Value.slice.injEq] at h1
  obtain ⟨rfl, rfl, rfl⟩ := h1
  exact ⟨.inr ⟨g, rfl⟩, rfl, h2⟩
theorem pu_ksl2 (hT : TTOk P T) {t e sz by_ j h0' : Nat} {zc : List CV} {c2 : KC} {J I : List Nat} {z q : Int} (ho : o.op = .slice t x (some y) (some u) none) (h : look T.sl t = some e) (he : look T.el e = some (sz, by_, zc)) (hx : Ev P C nt σ x (.ksl j 0 h0' sz)) (hj : lkk σ j = some c2) (hy : Ev P C nt σ y (.one (.dv J (.int .i64 z)))) (hu : Ev P C nt σ u (.one (.dv I (.int .i64 q)))) (h0 : 0 ≤ z) (h1 : z ≤ q) (h2 : q ≤ c2.n) : Pu P C nt o σ (.ksl j z.toNat q.toNat sz) [] [] := Pu.mk fun L a w hr => by
 have k2 := hx.run L a w hr
 have k3 := hy.run L a w hr
 have k4 := hu.run L a w hr
 simp only [SVr, CVr, Lay] at k2 k3 k4
 obtain ⟨e1, e2⟩ := elem_eq (hT.sl t e h)
 obtain ⟨A, n, c, hA, k2⟩ := k2
 obtain ⟨r1, r2, r3⟩ := root_form hr hj hA
 rw [ksl_at0 (n := n) r1] at k2
 refine ⟨sliced A z.toNat q.toNat c sz, by simp only [SVr]; exact ⟨_, _, _, hA, rfl⟩, fun w' _ => ?_⟩
 unfold execOp
 simp only [ho, Option.map_none, Option.map_some, k2, k3.1, k4.1, Sem.run_bind, run_sliceAt_slice _ _ _ _ _ _ e1, run_slice_lh w' t A h0' c e1 .i64 .i64 z q h0 h1 (by omega), e2, run_sizeT hT he, Result.andThen_ok, Sem.run_pure]
theorem pu_lenKs (hT : TTOk P T) {t e' j hi sz : Nat} {c2 : KC} (ho : o.op = .call { callee := .builtin .len, args := #[x], argTypes := #[t] }) (h : look T.sl t = some e') (hx : Ev P C nt σ x (.ksl j 0 hi sz)) (hj : lkk σ j = some c2) (hh : hi ≤ c2.n) : Pu P C nt o σ (.one (.dv [] (.int .i64 (hi : Int)))) [] [] := Pu.mk fun L a w hr => by
 have k2 := hx.run L a w hr
 have h1 := own_lay (ok := fun _ => True) _ _ _ (hr.ks j c2 hj).1 (fun _ _ => trivial)
 simp only [SVr] at k2
 obtain ⟨A, n, c, hA, k2⟩ := k2
 obtain ⟨r1, r2, r3⟩ := root_form hr hj hA
 rw [ksl_at0 (n := n) r1] at k2
 simp only [Lay] at h1
 obtain ⟨A', c', vs, e1, h3, h4, _⟩ := h1
 exact ⟨_, by unfold SVr CVr Lay; exact ⟨rfl, inR_len (Nat.le_trans hh (Nat.le_trans h3 h4))⟩, fun w' _ => exec_len ho k2 (fun ty => run_len_slice hT h A hi c w')⟩
theorem pu_kslH (hT : TTOk P T) {t e sz by_ j n hi : Nat} {zc : List CV} {c2 : KC} {J : List Nat} {z : Int} (ho : o.op = .slice t x none (some y) none) (h : look T.sl t = some e) (he : look T.el e = some (sz, by_, zc)) (hx : Ev P C nt σ x (.one (.key j))) (hj : lkk σ j = some c2) (hy : Ev P C nt σ y (.one (.dv J (.int .i64 z)))) (hn : c2.n = n) (hh : z.toNat = hi) (h0 : 0 ≤ z) (h1 : z ≤ n) : Pu P C nt o σ (.ksl j 0 hi sz) [] [] := by
 subst hn; subst hh
 exact pu_ksl (sl_h hT ho h he hx hj hy h0 h1) hj
theorem pu_kslL (hT : TTOk P T) {t e sz by_ j n lo : Nat} {zc : List CV} {c2 : KC} {J : List Nat} {z : Int} (ho : o.op = .slice t x (some y) none none) (h : look T.sl t = some e) (he : look T.el e = some (sz, by_, zc)) (hx : Ev P C nt σ x (.one (.key j))) (hj : lkk σ j = some c2) (hy : Ev P C nt σ y (.one (.dv J (.int .i64 z)))) (hn : c2.n = n) (hl : z.toNat = lo) (h0 : 0 ≤ z) (h1 : z ≤ n) : Pu P C nt o σ (.ksl j lo n sz) [] [] := by
 subst hn; subst hl
 exact pu_ksl (sl_l hT ho h he hx hj hy h0 h1) hj
theorem pu_kslN (hT : TTOk P T) {t e sz by_ j n lo hi h0' : Nat} {zc : List CV} {c2 : KC} {J I : List Nat} {z q : Int} (ho : o.op = .slice t x (some y) (some u) none) (h : look T.sl t = some e) (he : look T.el e = some (sz, by_, zc)) (hx : Ev P C nt σ x (.ksl j 0 h0' sz)) (hj : lkk σ j = some c2) (hy : Ev P C nt σ y (.one (.dv J (.int .i64 z)))) (hu : Ev P C nt σ u (.one (.dv I (.int .i64 q)))) (hn : c2.n = n) (hl : z.toNat = lo) (hh : q.toNat = hi) (h0 : 0 ≤ z) (h1 : z ≤ q) (h2 : q ≤ n) : Pu P C nt o σ (.ksl j lo hi sz) [] [] := by
 subst hn; subst hl; subst hh
 exact pu_ksl2 hT ho h he hx hj hy hu h0 h1 h2
theorem pu_kslM (hT : TTOk P T) {t e sz by_ j n : Nat} {zc : List CV} {c2 : KC} {v : Operand} {J I M : List Nat} {z q m : Int} (ho : o.op = .slice t x (some y) (some u) (some v)) (h : look T.sl t = some e) (he : look T.el e = some (sz, by_, zc)) (hx : Ev P C nt σ x (.one (.key j))) (hj : lkk σ j = some c2) (hy : Ev P C nt σ y (.one (.dv J (.int .i64 z)))) (hu : Ev P C nt σ u (.one (.dv I (.int .i64 q)))) (hv : Ev P C nt σ v (.one (.dv M (.int .i64 m)))) (hn : c2.n = n) (h0 : 0 ≤ z) (h1 : z ≤ q) (h2 : q ≤ m) (h3 : m ≤ n) : Pu P C nt o σ .any [] [] := by
 subst hn
 exact sl_lhm hT ho h he hx hj hy hu hv h0 h1 h2 h3
theorem pu_lenKm (hT : TTOk P T) {t e' j hi sz n : Nat} {c2 : KC} (ho : o.op = .call { callee := .builtin .len, args := #[x], argTypes := #[t] }) (h : look T.sl t = some e') (hx : Ev P C nt σ x (.ksl j 0 hi sz)) (hj : lkk σ j = some c2) (hn : c2.n = n) (hh : hi ≤ n) : Pu P C nt o σ (.one (.dv [] (.int .i64 (hi : Int)))) [] [] := pu_lenKs hT ho h hx hj (by rw [hn]; exact hh)
theorem Rel.wrow (hr : Rel P C nt L σ a w) {k g cap off : Nat} {c : KC} {cur : Array Value} {us : List Value} {cs' : List DV} {f' : List Nat} (hk : lkk σ k = some c) (hE : c.e < 1000000) (e1 : L.rv k = .slice (some ⟨g, 0, none⟩) c.n cap) (hg : w.heap[g]? = some (.cells cur c.e (0, 0))) (hnc : c.n ≤ cap) (hcm : cap ≤ maxLen) (hsz : cur.size = cap * c.sz) (hpos : 0 < c.sz)
  (hle : off + us.length ≤ c.n * c.sz) (hown : OwnL w cs' (setR off us (cur.toList.take (c.n * c.sz))) f') (hf : ∀ b ∈ f', b ∈ L.fp k ∧ b ≠ g) (hgk : g ∈ L.fp k) (hn : f'.Nodup) (hl : cs'.length = c.n * c.sz) :
  Rel P C nt { L with fp := fun i => if i = k then g :: f' else L.fp i, rv := fun i => if i = k then L.rv k else L.rv i } (σ.mut k [] true { c with cs := cs' }) a (w.setRow g (setR off us cur.toList).toArray) := by
 let w' := w.setRow g (setR off us cur.toList).toArray
 have hchg : Chg [g] w w' := chg_setRow w g _
 have hle2 : c.n * c.sz ≤ cap * c.sz := Nat.mul_le_mul_right _ hnc
 have hcl : c.n * c.sz ≤ cur.toList.length := by rw [Array.length_toList, hsz]; exact hle2
 have hown2 : OwnL w' cs' (setR off us (cur.toList.take (c.n * c.sz))) f' := ownL_keep _ _ _ hown (fun b hb => hchg.block b (hr.k_lt hk b (hf b hb).1) (by simpa using (hf b hb).2))
 have hown' : Own w' (.sl c.e c.sz c.n cs') (L.rv k) (g :: f') := by
  unfold Own
  refine ⟨_, f', by rw [e1]; simp [Value.ownBlock], hpos, hl, ?_, hown2⟩
  rw [e1]
  refine rowE_of hE ⟨by rw [setR_len (by rw [List.length_take]; omega), List.length_take]; omega, .inr ⟨g, cap, (setR off us cur.toList).toArray, rfl, Nat.zero_le _, setRow_heap _ _ _ _ _ _ hg, hnc, hcm, ?_, ?_⟩⟩
  ·rw [List.size_toArray, setR_len (by omega), Array.length_toList, hsz]
  ·rw [List.toList_toArray]
   unfold setR
   apply List.ext_getElem?
   intro i
   simp only [List.getElem?_take, List.getElem?_append, List.getElem?_drop, List.length_append, List.length_take]
   have hm1 : min off cur.toList.length = off := by omega
   have hm2 : min off (min (c.n * c.sz) cur.toList.length) = off := by omega
   rw [hm1, hm2]
   by_cases hi : i < c.n * c.sz
   ·simp only [hi, if_true]
    by_cases hi2 : i < off + us.length
    ·simp only [hi2, if_true]
    ·simp only [hi2, if_false]
     have : off + us.length + (i - (off + us.length)) < c.n * c.sz := by omega
     simp only [this, if_true]
   ·have h9 : ¬ i < off + us.length := by omega
    have h10 : ¬ i < off := by omega
    have h11 : ¬ off + us.length + (i - (off + us.length)) < c.n * c.sz := by omega
    simp only [hi, h9, h11, if_false]
 refine hr.setkey hk (by simp) (hchg.mono (by simpa using hgk)) hown' ?_ ?_ (by simp) (fun _ => rfl) (fun e => ⟨e, rfl⟩)
 ·rw [List.nodup_cons]
  exact ⟨fun hm => (hf g hm).2 rfl, hn⟩
 ·intro b hb
  rcases List.mem_cons.1 hb with rfl | hb
  ·exact .inl hgk
  ·exact .inl (hf b hb).1
theorem setR_mid3 {α : Type} {A B us D : List α} {off : Nat} (ho : off = A.length) (hB : us.length = B.length) : setR off us (A ++ (B ++ D)) = A ++ (us ++ D) := by
 subst ho
 unfold setR
 rw [List.take_left, hB, ← List.append_assoc A B D, ← List.length_append, List.drop_left, List.append_assoc]
theorem ef_clear (hT : TTOk P T) {t e k lo hi sz by_ : Nat} {zc : List CV} {c : KC} (ho : o.op = .call { callee := .builtin .clear, args := #[x], argTypes := #[t] }) (hd : o.dst = none) (ht : look T.sl t = some e) (he : look T.el e = some (sz, by_, zc)) (hl0 : zc.length = sz) (hx : Ev P C nt σ x (.ksl k lo hi sz))
  (hk : lkk σ k = some c) (hce : c.e = e) (hcs : c.sz = sz) (hlh : lo ≤ hi) (hhi : hi ≤ c.n) : Ef P C nt o σ (fun σ' => σ' = σ.mut k [] true { c with cs := setR (lo * sz) (List.replicate ((hi - lo) * sz) .hole) c.cs }) := Ef.mk fun L a w hr K Q hK => by
 subst hce; subst hcs
 have hE' : c.e < 1000000 := hT.lt _ _ he
 have h4 := hx.run L a w hr
 simp only [SVr] at h4
 obtain ⟨A, n0, cap0, e1, e2⟩ := h4
 obtain ⟨hpos, hcl, hro⟩ := key_open hr hk hE'
 obtain ⟨inf, z, g1, g2, g3, g4, g5⟩ := hT.el c.e c.sz by_ zc he
 obtain ⟨_, _, z1⟩ := zL_cv (C := C) (L := L) (w := w) g5
 have hzs : z.cells.size = c.sz := by have := zL_len g5; simp only [Array.length_toList] at this; rw [this, hl0]
 have hzv : ∀ w, (zeroValue c.e).run P w = .ok z w := fun w => by simp [zeroValue, typeInfo, g1, g4]
 have hm1 : (hi - lo) * c.sz + lo * c.sz = hi * c.sz := by rw [← Nat.add_mul]; congr 1; omega
 have hm2 : hi * c.sz ≤ c.n * c.sz := Nat.mul_le_mul_right _ hhi
 -- nothing to clear
 have same : hi = lo → Rel P C nt L (σ.mut k [] true { c with cs := setR (lo * c.sz) (List.replicate ((hi - lo) * c.sz) .hole) c.cs }) a w := fun h => by
  have : setR (lo * c.sz) (List.replicate ((hi - lo) * c.sz) DV.hole) c.cs = c.cs := by
   subst h
   simp [setR]
  rw [this]
  have := hr.setkey (k := k) (c := c) (c' := c) (js := []) (same := true) (v' := L.rv k) (f' := L.fp k) hk (by simp) ((Chg.refl [] w).mono (by simp)) (hr.ks k c hk).1 (hr.kn k c hk) (fun b hb => .inl hb) (by simp) (fun _ => rfl) (fun h => ⟨h, rfl⟩)
  have eL : ({ L with fp := fun i => if i = k then L.fp k else L.fp i, rv := fun i => if i = k then L.rv k else L.rv i } : Lyt) = L := by
   cases L
   simp only [Lyt.mk.injEq, true_and]
   constructor <;> (funext i; split <;> simp_all)
  rwa [eL] at this
 have hclr0 : ∀ A c', (Builtin.clear_ #[t] o.type #[.slice A 0 c']).run P w = .ok (.tuple #[]) w := fun A c' => by
  cases A <;> simp [Builtin.clear_, run_underlying (hT.sl t c.e ht)]
 rcases Nat.eq_or_lt_of_le hlh with heq | hlt
 ·have e3 : a.eval x = .slice (if cap0 = lo then A else A.map (·.add (lo * c.sz))) 0 (cap0 - lo) := by rw [e2, sliced, heq, Nat.sub_self]
  unfold Oper.wp execOp
  simp only [ho, resolve, invoke, builtin, Sem.run_bind, Sem.run_pure, Result.andThen_ok, List.map_toArray, List.map_cons, List.map_nil, e3, hclr0, Oper.upon, hd, Act.put]
  exact hK _ _ _ _ rfl (same heq.symm)
 rcases hro with ⟨e3, h0⟩ | ⟨g, cap, cur, vs, f, e3, hg, hnc, hcm, hsz, htake, hfp, hown⟩
 ·omega
 rw [e1] at e3
 simp only [Value.slice.injEq] at e3
 obtain ⟨rfl, rfl, rfl⟩ := e3
 have hcur : c.n * c.sz ≤ cur.toList.length := by rw [Array.length_toList, hsz]; exact Nat.mul_le_mul_right _ hnc
 have hvl : vs.length = c.n * c.sz := by rw [ownL_len _ _ _ hown, hcl]
 obtain ⟨zs, hzz⟩ : ∃ zs, zs = (Builtin.zeroCells z.cells (hi - lo)).toList := ⟨_, rfl⟩
 have hzl : zs.length = (hi - lo) * c.sz := by rw [hzz]; simp [Builtin.zeroCells, hzs]
 have hz1 : ∀ v ∈ zs, v.oneCell' = true := fun v hv => by
  rw [hzz] at hv
  simp only [Builtin.zeroCells, Array.toList_map, List.mem_map] at hv
  obtain ⟨i, _, rfl⟩ := hv
  have hlt2 : i % z.cells.size < z.cells.size := Nat.mod_lt _ (by omega)
  rw [getElem!_pos z.cells _ hlt2]
  exact z1 _ (by simp)
 have hst := run_storeCells_at P g (lo * c.sz) c.e zs 0 cur w hg (by rw [← Array.length_toList]; omega) hz1
 simp only [Nat.add_zero] at hst
 have hne : ¬ cap0 = lo := by omega
 have e4 : a.eval x = .slice (some ⟨g, lo * c.sz, none⟩) (hi - lo) (cap0 - lo) := by
  rw [e2, sliced, if_neg hne]
  simp [add_row]
 have hclr : (Builtin.clear_ #[t] o.type #[.slice (some ⟨g, lo * c.sz, none⟩) (hi - lo) (cap0 - lo)]).run P w = .ok (.tuple #[]) (w.setRow g (setR (lo * c.sz) zs cur.toList).toArray) := by
  obtain ⟨m, hm⟩ : ∃ m, hi - lo = m + 1 := ⟨hi - lo - 1, by omega⟩
  rw [hzz, hm] at hst
  rw [hm]
  simp [Builtin.clear_, run_underlying (hT.sl t c.e ht), hzv, hst, setR, hzz, hm]
 have ohole : OwnL w (List.replicate ((hi - lo) * c.sz) .hole) zs [] := by
  have := ownL_holes (w := w) zs hz1
  rwa [hzl] at this
 obtain ⟨f1, f3, s1, s2, s3⟩ := ownL_setR hown ohole (off := lo * c.sz) (by simp only [List.length_replicate]; omega)
 have hnd := hr.kn k c hk
 rw [hfp, List.nodup_cons] at hnd
 have hrel := hr.wrow (off := lo * c.sz) (us := zs) (cs' := setR (lo * c.sz) (List.replicate ((hi - lo) * c.sz) .hole) c.cs) (f' := f1 ++ f3) hk hE' e1 hg hnc hcm hsz hpos (by omega) (by rw [htake]; simpa using s3)
  (fun b hb => ⟨by rw [hfp]; exact List.mem_cons_of_mem _ (s1 b hb), fun e => hnd.1 (by rw [← e]; exact s1 b hb)⟩) (by rw [hfp]; simp) (s2 hnd.2) (by rw [setR_len (by simp only [List.length_replicate]; omega)]; exact hcl)
 unfold Oper.wp execOp
 simp only [ho, resolve, invoke, builtin, Sem.run_bind, Sem.run_pure, Result.andThen_ok, List.map_toArray, List.map_cons, List.map_nil, e4, hclr, Oper.upon, hd, Act.put]
 exact hK _ _ _ _ rfl hrel
theorem ef_appKK (hT : TTOk P T) {t e k i j hi sz by_ d : Nat} {zc : List CV} {c : KC} (ho : o.op = .call { callee := .builtin .append, args := #[x, y], argTypes := #[t, t] }) (hd : o.dst = some d) (hnt : Nat.blt d nt = true) (ht : look T.sl t = some e) (he : look T.el e = some (sz, by_, zc)) (hx : Ev P C nt σ x (.ksl k 0 i sz)) (hy : Ev P C nt σ y (.ksl k j hi sz))
  (hk : lkk σ k = some c) (hce : c.e = e) (hcs : c.sz = sz) (hhi : hi = c.n) (hij : i ≤ j) (hj : j ≤ hi) : Ef P C nt o σ (fun σ' => σ' = (σ.mut k [] true { c with cs := c.cs.take (i * sz) ++ (c.cs.drop (j * sz) ++ List.replicate ((j - i) * sz) .hole) }).put d (.ksl k 0 (i + (c.n - j)) sz)) := Ef.mk fun L a w hr K Q hK => by
 subst hce; subst hcs; subst hhi
 have hE' : c.e < 1000000 := hT.lt _ _ he
 have h4 := hx.run L a w hr
 have h5 := hy.run L a w hr
 simp only [SVr] at h4 h5
 obtain ⟨A, n0, cap0, e1, e2⟩ := h4
 obtain ⟨A2, n2, cap2, e1', e3⟩ := h5
 rw [e1] at e1'
 simp only [Value.slice.injEq] at e1'
 obtain ⟨rfl, rfl, rfl⟩ := e1'
 obtain ⟨r1, rfl, r3⟩ := root_form hr hk e1
 rw [ksl_at0 (n := c.n) r1] at e2
 obtain ⟨hpos, hcl, hro⟩ := key_open hr hk hE'
 obtain ⟨inf, z, g1, g2, g3, g4, g5⟩ := hT.el c.e c.sz by_ zc he
 have hd' : d < nt := by simpa [Nat.blt_eq] using hnt
 have hm1 : (c.n - j) * c.sz + j * c.sz = c.n * c.sz := by rw [← Nat.add_mul]; congr 1; omega
 have hm2 : (j - i) * c.sz + i * c.sz = j * c.sz := by rw [← Nat.add_mul]; congr 1; omega
 rcases hro with ⟨e4, h0⟩ | ⟨g, cap, cur, vs, f, e4, hg, hnc, hcm, hsz, htake, hfp, hown⟩
 ·
  rw [e1] at e4
  simp only [Value.slice.injEq] at e4
  obtain ⟨rfl, h0', rfl⟩ := e4
  have hj0 : j = 0 := by omega
  have hi0 : i = 0 := by omega
  subst hj0; subst hi0
  have hrow : w.ownsRow 0 c.e c.sz (.slice none 0 0) 0 [] := ⟨by simp, .inl ⟨rfl, rfl⟩⟩
  have hrun := run_append_nil_src (P := P) w 0 t o.type c.e inf c.sz (hT.sl t c.e ht) g1 (.slice none 0 0) 0 [] hrow 0
  have e3' : a.eval y = .slice none 0 0 := by rw [e3]; simp [sliced, h0]
  have ecs : c.cs = [] := List.eq_nil_of_length_eq_zero (by rw [hcl, h0]; simp)
  have hset := hr.setkey (k := k) (c := c) (c' := { c with cs := c.cs.take (0 * c.sz) ++ (c.cs.drop (0 * c.sz) ++ List.replicate ((0 - 0) * c.sz) .hole) }) (js := []) (same := true) (v' := L.rv k) (f' := L.fp k) hk (by simp) ((Chg.refl [] w).mono (by simp)) (by simpa [ecs] using (hr.ks k c hk).1) (hr.kn k c hk) (fun b hb => .inl hb) (by simp) (fun _ => rfl) (fun h => ⟨h, rfl⟩)
  unfold Oper.wp execOp
  simp only [ho, resolve, invoke, builtin, Sem.run_bind, Sem.run_pure, Result.andThen_ok, List.map_toArray, List.map_cons, List.map_nil, e2, e3', hrun, Oper.upon, hd]
  refine hK _ _ _ _ rfl (hset.put (d := d) (v := .ksl k 0 (0 + (c.n - 0)) c.sz) (r := .slice none 0 0) hd' ?_ (by simp [SV.keys, mut_key]) (by simp [SV.boxes]))
  simp only [SVr, if_true]
  exact ⟨none, c.n, 0, e1, by simp [sliced, h0]⟩
 rw [e1] at e4
 simp only [Value.slice.injEq] at e4
 obtain ⟨rfl, _, rfl⟩ := e4
 have hcur : c.n * c.sz ≤ cur.toList.length := by rw [Array.length_toList, hsz]; exact Nat.mul_le_mul_right _ hnc
 have hvl : vs.length = c.n * c.sz := by rw [ownL_len _ _ _ hown, hcl]
 -- the parts
 have hX : c.cs = c.cs.take (i * c.sz) ++ ((c.cs.drop (i * c.sz)).take ((j - i) * c.sz) ++ c.cs.drop (j * c.sz)) := by
  have : c.cs.drop (j * c.sz) = (c.cs.drop (i * c.sz)).drop ((j - i) * c.sz) := by rw [List.drop_drop]; congr 1; omega
  rw [this, List.take_append_drop, List.take_append_drop]
 have hown2 := hown
 rw [hX] at hown2
 obtain ⟨v1, r1', f1, s1, hv, hf, o1, t1⟩ := ownL_split _ _ _ _ hown2
 obtain ⟨v2, v3, f2, f3, hv', hf', o2, o3⟩ := ownL_split _ _ _ _ t1
 subst hv'; subst hf'
 have l1 := ownL_len _ _ _ o1
 have l2 := ownL_len _ _ _ o2
 have l3 := ownL_len _ _ _ o3
 simp only [List.length_take, List.length_drop, hcl] at l1 l2 l3
 have one : ∀ {ds : List DV} {vs : List Value} {f : List Nat}, OwnL w ds vs f → ∀ u ∈ vs, u.oneCell' = true := fun h => layL_one (ok := fun _ => True) _ _ (ownL_lay _ _ _ h (fun _ _ => trivial))
 have hcell : ∀ q v, vs[q]? = some v → w.cell? ⟨g, q, none⟩ = some v := fun q v hq => by
  rw [cell_of_row w g q cur c.e (0, 0) hg]
  rw [← htake, List.getElem?_take] at hq
  split at hq
  ·simpa using hq
  ·cases hq
 -- the tail's values over the rest
 obtain ⟨R, hR⟩ : ∃ R, R = (v2 ++ v3).drop v3.length := ⟨_, rfl⟩
 have lR : R.length = (j - i) * c.sz := by rw [hR, List.length_drop, List.length_append]; omega
 have hR1 : ∀ v ∈ R, v.oneCell' = true := fun v hm => by
  rw [hR] at hm
  rcases List.mem_append.1 (List.mem_of_mem_drop hm) with h | h
  ·exact one o2 v h
  ·exact one o3 v h
 have ohole : OwnL w (List.replicate ((j - i) * c.sz) .hole) R [] := by
  have := ownL_holes (w := w) R hR1
  rwa [lR] at this
 have hnew : OwnL w (c.cs.take (i * c.sz) ++ (c.cs.drop (j * c.sz) ++ List.replicate ((j - i) * c.sz) .hole)) (v1 ++ (v3 ++ R)) (f1 ++ (f3 ++ [])) := ownL_append _ _ _ _ _ _ o1 (ownL_append _ _ _ _ _ _ o3 ohole)
 have evs : setR (i * c.sz) v3 (cur.toList.take (c.n * c.sz)) = v1 ++ (v3 ++ R) := by
  rw [htake, hv]
  have e0 : v2 ++ v3 = (v2 ++ v3).take v3.length ++ R := by rw [hR, List.take_append_drop]
  rw [e0]
  exact setR_mid3 (by omega) (by rw [List.length_take, List.length_append]; omega)
 have hnd := hr.kn k c hk
 rw [hfp, List.nodup_cons] at hnd
 have hnod : (f1 ++ (f3 ++ [])).Nodup := by
  have := hnd.2
  rw [hf] at this
  rw [List.append_nil]
  exact (List.Sublist.append (List.Sublist.refl _) (List.sublist_append_right _ _)).nodup this
 have hsub : ∀ b ∈ f1 ++ (f3 ++ []), b ∈ f := fun b hb => by
  rw [hf]
  simp only [List.mem_append, List.append_nil] at hb ⊢
  rcases hb with h | h
  ·exact .inl h
  ·exact .inr (.inr h)
 have hrel := hr.wrow (off := i * c.sz) (us := v3) (cs' := c.cs.take (i * c.sz) ++ (c.cs.drop (j * c.sz) ++ List.replicate ((j - i) * c.sz) .hole)) (f' := f1 ++ (f3 ++ [])) hk hE' e1 hg hnc hcm hsz hpos (by omega) (by rw [evs]; exact hnew)
  (fun b hb => ⟨by rw [hfp]; exact List.mem_cons_of_mem _ (hsub b hb), fun e => hnd.1 (by rw [← e]; exact hsub b hb)⟩) (by rw [hfp]; simp) hnod (by simp only [List.length_append, List.length_take, List.length_drop, List.length_replicate, hcl]; omega)
 -- the run
 have hlen3 : v3.length = (c.n - j) * inf.size := by rw [g2]; omega
 obtain ⟨AA, hAA, hcells⟩ : ∃ AA : Addr, a.eval y = .slice (some AA) (c.n - j) (cap0 - j) ∧ ∀ q v, v3[q]? = some v → w.cell? (AA.add q) = some v := by
  rw [e3]
  by_cases hc : cap0 = j
  ·refine ⟨⟨g, 0, none⟩, by simp [sliced, hc], fun q v hq => ?_⟩
   have hq' := (List.getElem?_eq_some_iff.1 hq).1
   have h0 : c.n - j = 0 := by omega
   rw [h0, Nat.zero_mul] at hm1
   omega
  ·refine ⟨⟨g, j * c.sz, none⟩, by simp [sliced, hc, add_row], fun q v hq => ?_⟩
   rw [add_row]
   refine hcell _ _ ?_
   rw [hv, List.getElem?_append_right (by omega), List.getElem?_append_right (by omega), show j * c.sz + q - v1.length - v2.length = q by omega]
   exact hq
 have hrun := run_append_room (P := P) w t o.type c.e inf (hT.sl t c.e ht) g1 g i cap0 cur hg AA (c.n - j) (cap0 - j) v3 hlen3 hcells (one o3) (by omega) (by rw [g2, ← Array.length_toList]; omega)
 rw [g2] at hrun
 unfold Oper.wp execOp
 simp only [ho, resolve, invoke, builtin, Sem.run_bind, Sem.run_pure, Result.andThen_ok, List.map_toArray, List.map_cons, List.map_nil, e2, hAA, hrun, Oper.upon, hd]
 refine hK _ _ _ _ rfl (hrel.put (d := d) (v := .ksl k 0 (i + (c.n - j)) c.sz) (r := .slice (some ⟨g, 0, none⟩) (i + (c.n - j)) cap0) hd' ?_ (by simp [SV.keys, mut_key]) (by simp [SV.boxes]))
 simp only [SVr, if_true]
 exact ⟨some ⟨g, 0, none⟩, c.n, cap0, e1, (ksl_at0 (n := c.n) (.inr ⟨g, rfl⟩)).symm⟩
theorem weak_cut {tm : List (Nat × SV)} {bx : List (Nat × TypeId × List CV)} {ks : List (Nat × Option KC)} {s k m sz : Nat} {c : KC} {cs : List DV} (hs : look tm s = some (.ksl k 0 m sz)) (hk : lkk ⟨tm, bx, ks⟩ k = some c) (hE : Nat.blt c.e 1000000 = true) (hcs : c.sz = sz) (hm : m ≤ c.n) (hcc : c.cs.take (m * sz) = cs) :
  Weak P C nt ⟨tm, bx, ks⟩ ⟨(s, .one (.key k)) :: killT [k] [k] tm, killB [k] [k] bx, (k, some ⟨false, c.e, sz, m, cs⟩) :: ks⟩ := Weak.mk fun L a w hr => by
 subst hcs; subst hcc
 have hE' : c.e < 1000000 := by simpa [Nat.blt_eq] using hE
 have hsv := hr.tm s _ hs
 simp only [SVr] at hsv
 obtain ⟨A, n0, cap0, e1, e2⟩ := hsv
 obtain ⟨r1, rfl, r3⟩ := root_form hr hk e1
 rw [ksl_at0 (n := c.n) r1] at e2
 obtain ⟨hpos, hcl, hro⟩ := key_open hr hk hE'
 have hm2 : m * c.sz ≤ c.n * c.sz := Nat.mul_le_mul_right _ hm
 have hfin : ∀ f', Own w (.sl c.e c.sz m (c.cs.take (m * c.sz))) (.slice A m cap0) f' → f'.Nodup → (∀ b ∈ f', b ∈ L.fp k) → ∃ L', Rel P C nt L' ⟨(s, .one (.key k)) :: killT [k] [k] tm, killB [k] [k] bx, (k, some ⟨false, c.e, c.sz, m, c.cs.take (m * c.sz)⟩) :: ks⟩ a w := fun f' ho hn hf => by
  have hset := hr.setkey (k := k) (c := c) (c' := ⟨false, c.e, c.sz, m, c.cs.take (m * c.sz)⟩) (js := []) (same := false) (v' := .slice A m cap0) (f' := f') hk (by simp) ((Chg.refl [] w).mono (by simp)) ho hn (fun b hb => .inl (hf b hb)) (by simp) (by simp) (by simp)
  exact ⟨_, hset.also (d := s) (v := .one (.key k)) (by simp only [SVr, CVr, if_true]; exact e2) (by simp [SV.keys, CV.keys, mut_key]) (by simp [SV.boxes])⟩
 rcases hro with ⟨e4, h0⟩ | ⟨g, cap, cur, vs, f, e4, hg, hnc, hcm, hsz, htake, hfp, hown⟩
 ·rw [e1] at e4
  simp only [Value.slice.injEq] at e4
  obtain ⟨rfl, h0', rfl⟩ := e4
  have hm0 : m = 0 := by omega
  subst hm0
  refine hfin [] ?_ (by simp) (by simp)
  rw [Nat.zero_mul, List.take_zero]
  exact own_nil w c.e c.sz hpos
 ·rw [e1] at e4
  simp only [Value.slice.injEq] at e4
  obtain ⟨rfl, _, rfl⟩ := e4
  obtain ⟨fa, fb, hf, ta, tb⟩ := ownL_cut (m * c.sz) hown
  have hnd := hr.kn k c hk
  rw [hfp, List.nodup_cons] at hnd
  have hvl : vs.length = c.n * c.sz := by rw [ownL_len _ _ _ hown, hcl]
  refine hfin (g :: fa) ?_ ?_ ?_
  ·unfold Own
   refine ⟨vs.take (m * c.sz), fa, by simp [Value.ownBlock], hpos, by rw [List.length_take]; omega, rowE_of hE' ⟨by rw [List.length_take]; omega, .inr ⟨g, cap0, cur, rfl, Nat.zero_le _, hg, by omega, hcm, hsz, ?_⟩⟩, ta⟩
   rw [← htake, List.take_take]
   congr 1; omega
  ·rw [List.nodup_cons]
   rw [hf] at hnd
   exact ⟨fun h => hnd.1 (by simp [h]), (List.nodup_append.1 hnd.2).1⟩
  ·intro b hb
   rw [hfp, hf]
   rcases List.mem_cons.1 hb with rfl | hb
   ·simp
   ·simp [hb]
theorem ops_weak {Q : Exit → St → Prop} {all : Array Oper} {rest : List Oper} {σ' : St} (h : Weak P C nt σ σ') (k : Ops P C nt Q all rest σ') : Ops P C nt Q all rest σ := Ops.mk fun L a w hr => by
 obtain ⟨L', h'⟩ := h.run L a w hr
 exact k.run L' a w h'
end
/-! ### calls that change a key and hand it back -/
structure MFn (P : Program) (f : FuncId) (us : List SV) (c0 c1 : KC) : Prop where
 ok : FnOk P f [] [(0, some c0)] (.one (.key 0) :: us) fun v σ' => v = .one (.key 0) ∧ σ'.ks = [(0, some c1)]
def ArgM (σ : St) : SV → SV → Prop
 | .one (.dv _ d), u => d.plain = true ∧ u = .one (.dv [] d)
 | .clo f bs, u => ∃ caps, CloB σ bs caps ∧ u = .fn f caps
 | _, _ => False
def ArgMs (P : Program) (C : Ctx) (nt : Nat) (σ : St) : List Operand → List SV → Prop
 | [], us => us = []
 | x :: xs, us => ∃ v u us', us = u :: us' ∧ Ev P C nt σ x v ∧ ArgM σ v u ∧ ArgMs P C nt σ xs us'
section
variable {P : Program} {C : Ctx} {nt : Nat} {σ : St} {L : Lyt} {a : Act} {w : World} {o : Oper} {x y u : Operand} {T : TT}
theorem am_nil : ArgMs P C nt σ [] [] := rfl
theorem am_cons {v u : SV} {xs : List Operand} {us : List SV} (hx : Ev P C nt σ x v) (h : ArgM σ v u) (h2 : ArgMs P C nt σ xs us) : ArgMs P C nt σ (x :: xs) (u :: us) := ⟨v, u, us, rfl, hx, h, h2⟩
theorem am_dv {K : List Nat} {d : DV} (h : d.plain = true) : ArgM σ (.one (.dv K d)) (.one (.dv [] d)) := ⟨h, rfl⟩
theorem am_clo {f : FuncId} {bs : List Nat} {caps : List (List DV)} (h : CloB σ bs caps) : ArgM σ (.clo f bs) (.fn f caps) := ⟨caps, h, rfl⟩
def mLyt (L : Lyt) (k : Nat) : Lyt := { bb := fun _ => 0, fp := fun i => if i = 0 then L.fp k else [], rv := fun i => if i = 0 then L.rv k else .bool false }
theorem old_m (hr : Rel P C nt L σ a w) {k : Nat} {c : KC} (hk : lkk σ k = some c) {L' : Lyt} {rv : Nat → Value} : ∀ b, b < w.heap.size → okB C L [] b → okB ⟨w, L.fp k, rv⟩ L' [] b ∧ w.heap[b]? = w.heap[b]? := fun b hb h => by
 rcases h with ⟨h1, h2⟩ | ⟨_, h1, _⟩
 ·refine ⟨.inl ⟨hb, fun hm => ?_⟩, rfl⟩
  rcases hr.k1 k c hk b hm with h3 | h3
  ·omega
  ·exact h2 h3
 ·cases h1
theorem cloM (hr : Rel P C nt L σ a w) {k : Nat} {c : KC} (hk : lkk σ k = some c) (L' : Lyt) {rv : Nat → Value} : ∀ {bs : List Nat} {dss : List (List DV)}, CloB σ bs dss → RefL ⟨w, L.fp k, rv⟩ L' w dss (bs.map fun b => Value.pointer (some ⟨L.bb b, 0, none⟩))
 | [], _, h => by simp only [CloB] at h; subst h; rfl
 | b :: bs, _, ⟨ds, dss', t, e, h1, h2⟩ => by
  subst e
  obtain ⟨vs, h3, h4⟩ := hr.bx b t _ h1
  refine ⟨_, _, rfl, ⟨L.bb b, 0, vs, rfl, fun _ => .inl ⟨heap_lt h3, hr.bk b k _ c h1 hk⟩, layL_conv (old_m hr hk) _ _ (cvL_dv h4), fun j u hu => ?_⟩, cloM hr hk L' h2⟩
  rw [Nat.zero_add, cell_of_row w _ j vs.toArray t (0, 0) h3]
  simpa using hu
theorem argM_sv (hr : Rel P C nt L σ a w) {k : Nat} {c : KC} (hk : lkk σ k = some c) (L' : Lyt) {rv : Nat → Value} {v u : SV} {r : Value} (h : ArgM σ v u) (hv : SVr P C L w v r) : SVr P ⟨w, L.fp k, rv⟩ L' w u r ∧ u.keys = [] ∧ u.boxes = [] := by
 cases v with
 | one c0 =>
  cases c0 with
  | dv K d =>
   obtain ⟨h1, rfl⟩ := h
   simp only [SVr, CVr] at hv ⊢
   exact ⟨plain_lay h1 hv, rfl, rfl⟩
  | _ => simp [ArgM] at h
 | clo f bs =>
  obtain ⟨caps, h1, rfl⟩ := h
  simp only [SVr] at hv ⊢
  exact ⟨⟨_, hv, cloM hr hk L' h1⟩, rfl, rfl⟩
 | _ => simp [ArgM] at h
theorem argMs_sv (hr : Rel P C nt L σ a w) {k : Nat} {c : KC} (hk : lkk σ k = some c) (L' : Lyt) {rv : Nat → Value} : ∀ {xs : List Operand} {us : List SV}, ArgMs P C nt σ xs us → xs.length = us.length ∧ (∀ u ∈ us, u.keys = [] ∧ u.boxes = []) ∧ ∀ (i : Nat) u, us[i]? = some u → ∃ x, xs[i]? = some x ∧ SVr P ⟨w, L.fp k, rv⟩ L' w u (a.eval x)
 | [], _, h => by simp only [ArgMs] at h; subst h; simp
 | x :: xs, _, ⟨v, u, us', e, h1, h2, h3⟩ => by
  subst e
  obtain ⟨g1, g2, g3⟩ := argMs_sv hr hk L' (rv := rv) h3
  obtain ⟨q1, q2, q3⟩ := argM_sv hr hk L' (rv := rv) h2 (h1.run L a w hr)
  refine ⟨by simp [g1], fun z hz => ?_, fun i z hz => ?_⟩
  ·rcases List.mem_cons.1 hz with rfl | hz
   ·exact ⟨q2, q3⟩
   ·exact g2 z hz
  ·cases i with
   | zero => simp only [List.getElem?_cons_zero, Option.some.injEq] at hz; subst hz; exact ⟨x, rfl, q1⟩
   | succ i => simpa using g3 i z (by simpa using hz)
theorem ef_callM {f : FuncId} {xs : List Operand} {ats : Array TypeId} {us : List SV} {k d : Nat} {c c0 c1 : KC} (ho : o.op = .call { callee := .value (.func f), args := (x :: xs).toArray, argTypes := ats }) (hd : o.dst = some d) (hn : Nat.blt d nt = true)
  (hc : ∀ (args : Array Value) (w : World), (callFunc f args).run P w = .ok (.enter f args) w) (hf : MFn P f us c0 c1) (hx : Ev P C nt σ x (.one (.key k))) (hk : lkk σ k = some c) (hc0 : (⟨false, c.e, c.sz, c.n, c.cs⟩ : KC) = c0) (hc1 : c1.h = false) (ha : ArgMs P C nt σ xs us) :
  Ef P C nt o σ (fun σ' => σ' = (σ.mut k [] false c1).put d (.one (.key k))) := Ef.mk fun L a w hr K Q hK => by
 subst hc0
 have e1 := hx.run L a w hr
 simp only [SVr, CVr] at e1
 obtain ⟨g1, g2, g3⟩ := argMs_sv hr hk (mLyt L k) (rv := (mLyt L k).rv) ha
 refine wp_callGo (xs := x :: xs) ho hc ?_
 have hall : ∀ q ∈ (.one (.key 0) :: us : List SV), (∀ j ∈ q.keys, j = 0) ∧ q.boxes = [] := fun q hq => by
  rcases List.mem_cons.1 hq with rfl | hq
  ·exact ⟨by simp [SV.keys, CV.keys], rfl⟩
  ·obtain ⟨h1, h2⟩ := g2 q hq
   exact ⟨by simp [h1], h2⟩
 have hlk : ∀ (tm : List (Nat × SV)) j c', lkk ⟨tm, [], [(0, some (⟨false, c.e, c.sz, c.n, c.cs⟩ : KC))]⟩ j = some c' → j = 0 ∧ c' = ⟨false, c.e, c.sz, c.n, c.cs⟩ := fun tm j c' h => by
  simp only [lkk, look_cons] at h
  split at h
  ·rename_i e; exact ⟨e, by simpa using h.symm⟩
  ·simp [look] at h
 have hen : ∀ (us : List SV) (j : Nat), (∀ q ∈ us, (∀ j ∈ q.keys, j = 0) ∧ q.boxes = []) → (∀ i ∈ (enumS j us).flatMap fun p => p.2.keys, i = 0) ∧ ((enumS j us).flatMap fun p => p.2.boxes) = [] := fun us => by
  induction us with
  | nil => intro j _; simp [enumS]
  | cons q us ih =>
   intro j h
   obtain ⟨h1, h2⟩ := ih (j + 1) (fun z hz => h z (by simp [hz]))
   obtain ⟨h3, h4⟩ := h q (by simp)
   refine ⟨fun i hi => ?_, by simp [enumS, h2, h4]⟩
   simp only [enumS, List.flatMap_cons, List.mem_append] at hi
   rcases hi with hi | hi
   ·exact h3 i hi
   ·exact h1 i hi
 obtain ⟨t1, t2⟩ := hen _ 0 hall
 have hent : Rel P ⟨w, L.fp k, (mLyt L k).rv⟩ (.one (.key 0) :: us : List SV).length (mLyt L k) ⟨enumS 0 (.one (.key 0) :: us), [], [(0, some ⟨false, c.e, c.sz, c.n, c.cs⟩)]⟩ ⟨((x :: xs).map a.eval).toArray, []⟩ w := {
  df := rfl
  sz := by simp [g1]
  tm := fun i v hv => by
   obtain ⟨_, h4⟩ := enumS_look _ 0 i v hv
   rw [Nat.sub_zero] at h4
   cases i with
   | zero =>
    simp only [List.getElem?_cons_zero, Option.some.injEq] at h4
    subst h4
    simp [SVr, CVr, mLyt, e1]
   | succ i =>
    obtain ⟨z, h5, h6⟩ := g3 i v (by simpa using h4)
    have : ((x :: xs).map a.eval).toArray.getD (i + 1) undef = a.eval z := by simp [Array.getD_eq_getD_getElem?, h5]
    rw [this]; exact h6
  bx := fun i t cs h => by cases h
  ks := fun j c' h => by
   obtain ⟨rfl, rfl⟩ := hlk _ j c' h
   refine ⟨?_, by simp⟩
   simpa [mLyt] using (hr.ks k c hk).1
  b1 := fun i x h => by cases h
  k1 := fun j c' h => by
   obtain ⟨rfl, rfl⟩ := hlk _ j c' h
   intro b hb
   exact .inr (by simpa [mLyt] using hb)
  kn := fun j c' h => by
   obtain ⟨rfl, rfl⟩ := hlk _ j c' h
   simpa [mLyt] using hr.kn k c hk
  bb := fun i j x y h => by cases h
  bk := fun i k x c h => by cases h
  kk := fun i j c' d' h1 h2 hij => by
   obtain ⟨rfl, _⟩ := hlk _ i c' h1
   obtain ⟨rfl, _⟩ := hlk _ j d' h2
   exact absurd rfl hij
  lk := fun j hj => by
   simp only [St.tk, List.flatMap_nil, List.append_nil] at hj
   rw [t1 j hj]; simp [lkk, look_cons]
  lb := fun b hb => by simp only [St.tb, t2] at hb; cases hb
  s0 := fun b hb => hr.k_lt hk b hb
  chg := Chg.refl _ _ }
 refine (hf.ok w (L.fp k) (mLyt L k) ((x :: xs).map a.eval) (by simp [g1]) hent).mono ?_
 rintro e' w' ⟨r, res, σ', L', rfl, ⟨rfl, hks⟩, h3⟩
 have hlk' : lkk { σ' with tm := [(0, SV.one (.key 0))] } 0 = some c1 := by simp [lkk, hks, look_cons]
 have hro := (h3.ks 0 c1 hlk').1
 have hrr := h3.tm 0 (.one (.key 0)) (by simp [look_cons])
 simp only [SVr, CVr] at hrr
 have hrr : r = L'.rv 0 := by simpa using hrr
 have hset := hr.setkey (k := k) (c := c) (c' := c1) (js := []) (same := false) (v' := L'.rv 0) (f' := L'.fp 0) hk (by simp) h3.chg hro (h3.kn 0 c1 hlk') (fun b hb => by
  rcases h3.k1 0 c1 hlk' b hb with h | h
  ·exact .inr (.inr h)
  ·exact .inl h) (by simp) (by simp) (fun h => by rw [hc1] at h; cases h)
 refine ⟨r, rfl, hK { L with fp := fun i => if i = k then L'.fp 0 else L.fp i, rv := fun i => if i = k then L'.rv 0 else L.rv i } _ _ _ rfl ?_⟩
 rw [hd]
 exact hset.put (d := d) (v := .one (.key k)) (r := r) (by simpa [Nat.blt_eq] using hn) (by simp [SVr, CVr, hrr]) (by simp [SV.keys, CV.keys, mut_key]) (by simp [SV.boxes])
/-! over states that are written out -/
section
variable {Q : Exit → St → Prop} {all : Array Oper} {rest : List Oper} {tm : List (Nat × SV)} {bx : List (Nat × TypeId × List CV)} {ks : List (Nat × Option KC)} {d : Nat}
theorem o_clear (hT : TTOk P T) {t e k lo hi sz by_ : Nat} {zc : List CV} {c : KC} {cs : List DV} (hg : o.guard = none) (hd : o.dst = none) (ho : o.op = .call { callee := .builtin .clear, args := #[x], argTypes := #[t] }) (ht : look T.sl t = some e) (he : look T.el e = some (sz, by_, zc)) (hl0 : zc.length = sz) (hx : Ev P C nt ⟨tm, bx, ks⟩ x (.ksl k lo hi sz))
  (hk : lkk ⟨tm, bx, ks⟩ k = some c) (hce : c.e = e) (hcz : c.sz = sz) (hlh : lo ≤ hi) (hhi : hi ≤ c.n) (hcs : setR (lo * sz) (List.replicate ((hi - lo) * sz) .hole) c.cs = cs)
  (h : Ops P C nt Q all rest ⟨killT [k] [] tm, killB [k] [] bx, (k, some { c with cs := cs }) :: ks⟩) : Ops P C nt Q all (o :: rest) ⟨tm, bx, ks⟩ := ops_ef1 hg (ef_clear hT ho hd ht he hl0 hx hk hce hcz hlh hhi) (by subst hcs; exact h)
theorem o_appKK (hT : TTOk P T) {t e k i j hi sz by_ m : Nat} {zc : List CV} {c : KC} {cs : List DV} (hg : o.guard = none) (hd : o.dst = some d) (ho : o.op = .call { callee := .builtin .append, args := #[x, y], argTypes := #[t, t] }) (hnt : Nat.blt d nt = true) (ht : look T.sl t = some e) (he : look T.el e = some (sz, by_, zc)) (hx : Ev P C nt ⟨tm, bx, ks⟩ x (.ksl k 0 i sz)) (hy : Ev P C nt ⟨tm, bx, ks⟩ y (.ksl k j hi sz))
  (hk : lkk ⟨tm, bx, ks⟩ k = some c) (hce : c.e = e) (hcz : c.sz = sz) (hhi : hi = c.n) (hij : i ≤ j) (hj : j ≤ hi) (hm : i + (c.n - j) = m) (hcs : c.cs.take (i * sz) ++ (c.cs.drop (j * sz) ++ List.replicate ((j - i) * sz) .hole) = cs)
  (h : Ops P C nt Q all rest ⟨(d, .ksl k 0 m sz) :: killT [k] [] tm, killB [k] [] bx, (k, some { c with cs := cs }) :: ks⟩) : Ops P C nt Q all (o :: rest) ⟨tm, bx, ks⟩ := ops_ef1 hg (ef_appKK hT ho hd hnt ht he hx hy hk hce hcz hhi hij hj) (by subst hcs; subst hm; exact h)
theorem o_callM {f : FuncId} {xs : List Operand} {ats : Array TypeId} {us : List SV} {k : Nat} {c c0 c1 : KC} (hg : o.guard = none) (hd : o.dst = some d) (ho : o.op = .call { callee := .value (.func f), args := (x :: xs).toArray, argTypes := ats }) (hn : Nat.blt d nt = true)
  (hc : ∀ (args : Array Value) (w : World), (callFunc f args).run P w = .ok (.enter f args) w) (hf : MFn P f us c0 c1) (hx : Ev P C nt ⟨tm, bx, ks⟩ x (.one (.key k))) (hk : lkk ⟨tm, bx, ks⟩ k = some c) (hc0 : (⟨false, c.e, c.sz, c.n, c.cs⟩ : KC) = c0) (hc1 : c1.h = false) (ha : ArgMs P C nt ⟨tm, bx, ks⟩ xs us)
  (h : Ops P C nt Q all rest ⟨(d, .one (.key k)) :: killT [k] [k] tm, killB [k] [k] bx, (k, some c1) :: ks⟩) : Ops P C nt Q all (o :: rest) ⟨tm, bx, ks⟩ := ops_ef1 hg (ef_callM ho hd hn hc hf hx hk hc0 hc1 ha) h
end
end
section
variable {P : Program} {C : Ctx} {nt : Nat} {o : Oper} {x y : Operand} {T : TT} {Q : Exit → St → Prop} {all : Array Oper} {tm : List (Nat × SV)} {bx : List (Nat × TypeId × List CV)} {ks : List (Nat × Option KC)} {oB oK nK : List Nat} {hd' : Nat → Bool} {listed : Array Bool} {fuel : Nat}
end
end Go.Proofs.YtdjlikknmbjjgaaGreat

namespace Go.Proofs.YtdjlikknmbjjgaaGreat
open Go.RowKit
set_option linter.unusedVariables false
section
variable {P : Program} {C : Ctx} {nt : Nat} {o : Oper} {x y : Operand} {T : TT} {Q : Exit → St → Prop} {N : St → Prop} {all : Array Oper} {rest : List Oper} {σ : St} {tm : List (Nat × SV)} {bx : List (Nat × TypeId × List CV)} {ks : List (Nat × Option KC)} {d t : Nat} {v : SV} {ty : TypeId} {ps : String} {af : Array Edge}
theorem yA (e : o = { dst := some d, op := .move (.tmp t), type := ty, pos := ps, after := af, guard := none }) (hl : look tm t = some v) (hk : (Nat.blt d nt && svOk ⟨tm, bx, ks⟩ v) = true) (h : Ops P C nt Q all rest ⟨(d, v) :: tm, bx, ks⟩) : Ops P C nt Q all (o :: rest) ⟨tm, bx, ks⟩ := o_pure (by rw [e]) (by rw [e]) (pu_move (.inl (by rw [e])) (ev_tmp hl)) (Bool.and_eq_true_iff.1 hk).1 (Bool.and_eq_true_iff.1 hk).2 h
theorem yB (e : o = { dst := some d, op := .assign (.tmp t), type := ty, pos := ps, after := af, guard := none }) (hl : look tm t = some v) (hk : (Nat.blt d nt && svOk ⟨tm, bx, ks⟩ v) = true) (h : Ops P C nt Q all rest ⟨(d, v) :: tm, bx, ks⟩) : Ops P C nt Q all (o :: rest) ⟨tm, bx, ks⟩ := o_pure (by rw [e]) (by rw [e]) (pu_move (.inr (by rw [e])) (ev_tmp hl)) (Bool.and_eq_true_iff.1 hk).1 (Bool.and_eq_true_iff.1 hk).2 h
theorem yC {s f off b i : Nat} (hT : TTOk P T) (e : o = { dst := some d, op := .fieldAddr s (.tmp t) f, type := ty, pos := ps, after := af, guard := none }) (h1 : look T.of (1000 * s + f) = some off) (hf : Nat.blt f 1000 = true) (hl : look tm t = some (.box b i)) (hk : (Nat.blt d nt && svOk ⟨tm, bx, ks⟩ (.box b (i + off))) = true) (h : Ops P C nt Q all rest ⟨(d, .box b (i + off)) :: tm, bx, ks⟩) : Ops P C nt Q all (o :: rest) ⟨tm, bx, ks⟩ := o_pure (by rw [e]) (by rw [e]) (pu_fieldBox hT (by rw [e]) h1 hf (ev_tmp hl)) (Bool.and_eq_true_iff.1 hk).1 (Bool.and_eq_true_iff.1 hk).2 h
theorem yD {s n b i t' : Nat} {cs : List CV} (hT : TTOk P T) (e : o = { dst := some d, op := .load s (.tmp t), type := ty, pos := ps, after := af, guard := none }) (h1 : look T.ag s = some n) (hl : look tm t = some (.box b i)) (hb : look bx b = some (t', cs)) (h2 : Nat.ble (i + n) cs.length = true) (hk : (Nat.blt d nt && svOk ⟨tm, bx, ks⟩ (.agg (sub i n cs))) = true) (h : Ops P C nt Q all rest ⟨(d, .agg (sub i n cs)) :: tm, bx, ks⟩) : Ops P C nt Q all (o :: rest) ⟨tm, bx, ks⟩ := o_pure (by rw [e]) (by rw [e]) (pu_loadBoxA hT (by rw [e]) h1 (ev_tmp hl) hb h2) (Bool.and_eq_true_iff.1 hk).1 (Bool.and_eq_true_iff.1 hk).2 h
theorem yE {s b i t' : Nat} {cs : List CV} {c : CV} {u : Unit} (hT : TTOk P T) (e : o = { dst := some d, op := .load s (.tmp t), type := ty, pos := ps, after := af, guard := none }) (h1 : look T.on s = some u) (hl : look tm t = some (.box b i)) (hb : look bx b = some (t', cs)) (h2 : cs[i]? = some c) (hk : (Nat.blt d nt && svOk ⟨tm, bx, ks⟩ (.one c)) = true) (h : Ops P C nt Q all rest ⟨(d, .one c) :: tm, bx, ks⟩) : Ops P C nt Q all (o :: rest) ⟨tm, bx, ks⟩ := o_pure (by rw [e]) (by rw [e]) (pu_loadBox1 hT (by rw [e]) h1 (ev_tmp hl) hb h2) (Bool.and_eq_true_iff.1 hk).1 (Bool.and_eq_true_iff.1 hk).2 h
theorem yG {k : IntKind} {n : Int} (e : o = { dst := some d, op := .assign (.const (.int k n)), type := ty, pos := ps, after := af, guard := none }) (h1 : (decide (k.min ≤ n) && decide (n ≤ k.max)) = true) (hk : (Nat.blt d nt && svOk ⟨tm, bx, ks⟩ (.one (.dv [] (.int k n)))) = true) (h : Ops P C nt Q all rest ⟨(d, .one (.dv [] (.int k n))) :: tm, bx, ks⟩) : Ops P C nt Q all (o :: rest) ⟨tm, bx, ks⟩ := o_pure (by rw [e]) (by rw [e]) (pu_move (.inr (by rw [e])) (ev_int (inR_lit h1))) (Bool.and_eq_true_iff.1 hk).1 (Bool.and_eq_true_iff.1 hk).2 h
theorem yH {b : Bool} (e : o = { dst := some d, op := .assign (.const (.bool b)), type := ty, pos := ps, after := af, guard := none }) (hk : (Nat.blt d nt && svOk ⟨tm, bx, ks⟩ (.one (.dv [] (.bool b)))) = true) (h : Ops P C nt Q all rest ⟨(d, .one (.dv [] (.bool b))) :: tm, bx, ks⟩) : Ops P C nt Q all (o :: rest) ⟨tm, bx, ks⟩ := o_pure (by rw [e]) (by rw [e]) (pu_move (.inr (by rw [e])) ev_bool) (Bool.and_eq_true_iff.1 hk).1 (Bool.and_eq_true_iff.1 hk).2 h
theorem yR {id : Nat} {l : List Oper} {c : Code} (h : Ops P C nt (thenQ (Ok P C nt Q c) Q) l.toArray l σ) : Ok P C nt Q (.seq (.region id l.toArray false) c) σ := ok_seq (ok_region h)
theorem yN (h : N σ) : Ops P C nt (thenQ N Q) all [] σ := ops_nil (then_n h)
theorem yO {Ks Bs : List Nat} (hg : o.guard = none) (hd : o.dst = some d) (hp : Pu P C nt o ⟨tm, bx, ks⟩ v Ks Bs) (hk : (Nat.blt d nt && svOk ⟨tm, bx, ks⟩ v) = true) (h : Ops P C nt Q all rest ⟨(d, v) :: tm, bx, ks⟩) : Ops P C nt Q all (o :: rest) ⟨tm, bx, ks⟩ := o_pure hg hd hp (Bool.and_eq_true_iff.1 hk).1 (Bool.and_eq_true_iff.1 hk).2 h
theorem yS {s b i t' t2 sz by_ : Nat} {zc cs : List CV} {p : Bool × List CV} (hT : TTOk P T) (e : o = { dst := none, op := .store s (.tmp t) (.tmp t2), type := ty, pos := ps, after := af, guard := none }) (ht : look T.el s = some (sz, by_, zc)) (hx : look tm t = some (.box b i)) (hy : look tm t2 = some v) (hp : v.part = some p)
  (hb : look bx b = some (t', cs)) (hl : p.2.length = sz) (hk : (svOk ⟨tm, bx, ks⟩ v && (Nat.ble (i + sz) cs.length && (cs.flatMap CV.keys).all (fun k => (lkk ⟨tm, bx, ks⟩ k).isSome))) = true) (h : Ops P C nt Q all rest ⟨tm, (b, t', setR i p.2 cs) :: bx, ks⟩) : Ops P C nt Q all (o :: rest) ⟨tm, bx, ks⟩ := by
 simp only [Bool.and_eq_true] at hk
 exact o_store hT (by rw [e]) (by rw [e]) (by rw [e]) ht (ev_tmp hx) (ev_tmp hy) hp hk.1 hb hl hk.2.1 hk.2.2 h
theorem yF {c : Code} {cs : List CV} {K : List Nat} {dd : DV} (t i : Nat) (hl : look σ.tm t = some (.agg cs)) (hi : cs[i]? = some (.dv K dd)) (h : Fact dd → Ok P C nt Q c σ) : Ok P C nt Q c σ := ok_factA (x := .tmp t) i (ev_tmp hl) hi h
theorem yX {s : TypeId} {p : Bool × List CV} (e : o = { dst := some d, op := .box s (.tmp t), type := ty, pos := ps, after := af, guard := none }) (hl : look tm t = some v) (hp : v.part = some p) (hk : svOk ⟨tm, bx, ks⟩ v = true) (hn : Nat.blt d nt = true) (hi : look bx d = none)
  (h : Ops P C nt Q all rest ⟨(d, .box d 0) :: tm, (d, s, p.2) :: bx, ks⟩) : Ops P C nt Q all (o :: rest) ⟨tm, bx, ks⟩ := o_box (by rw [e]) (by rw [e]) (by rw [e]) (ev_tmp hl) hp hk hn hi h
theorem kk : (∀ (α β : Type) (f : α → β) (a : α) (l : List α), (a :: l).map f = f a :: l.map f) ∧ (∀ (α β : Type) (f : α → β), ([] : List α).map f = []) ∧ (∀ (p : Nat → Bool) (a : Nat) (l : List Nat), (a :: l).any p = (p a || l.any p)) ∧ (∀ p : Nat → Bool, ([] : List Nat).any p = false) ∧ (∀ (a b : Nat) (l : List Nat), (a :: l).contains b = (b == a || l.contains b)) ∧ (∀ b : Nat, ([] : List Nat).contains b = false) ∧
  (∀ (α : Type) (l : List α), [] ++ l = l) ∧ (∀ (α : Type) (a : α) (l m : List α), a :: l ++ m = a :: (l ++ m)) ∧ (∀ b, (b || false) = b) ∧ (∀ b, (false || b) = b) ∧ (∀ b, (b || true) = true) ∧ (∀ b, (true || b) = true) ∧ (∀ (α : Type) (a b : α), (bif true then a else b) = a) ∧ (∀ (α : Type) (a b : α), (bif false then a else b) = b) := by
 refine ⟨fun _ _ _ _ _ => rfl, fun _ _ _ => rfl, fun _ _ _ => rfl, fun _ => rfl, fun a b l => List.contains_cons, fun _ => rfl, fun _ _ => rfl, fun _ _ _ _ => rfl, ?_, ?_, ?_, ?_, fun _ _ _ => rfl, fun _ _ _ => rfl⟩ <;> (intro b; cases b <;> rfl)
theorem yQ {c c' : Code} {K : List Nat} {b : Bool} (hl : look σ.tm t = some (.one (.dv K (.bool b)))) (h1 : b = true → Ok P C nt Q c σ) (h2 : b = false → Ok P C nt Q c' σ) : Ok P C nt Q (.cond (.tmp t) c c') σ := ok_cond (ev_tmp hl) h1 h2
theorem yP {ty' s : TypeId} {K : List Nat} {m n : Int} (e : o = { dst := some d, op := .binOp .add s (.tmp t) (.const (.int .i64 n)) ty', type := ty, pos := ps, after := af, guard := none }) (hl : look tm t = some (.one (.dv K (.int .i64 m)))) (hi : (decide (IntKind.i64.min ≤ n) && decide (n ≤ IntKind.i64.max)) = true) (h1 : -9223372036854775808 ≤ m + n) (h2 : m + n ≤ 9223372036854775807) (hk : (Nat.blt d nt && svOk ⟨tm, bx, ks⟩ (.one (.dv [] (.int .i64 (m + n))))) = true) (h : Ops P C nt Q all rest ⟨(d, .one (.dv [] (.int .i64 (m + n)))) :: tm, bx, ks⟩) : Ops P C nt Q all (o :: rest) ⟨tm, bx, ks⟩ := o_pure (by rw [e]) (by rw [e]) (pu_addR (by rw [e]) (ev_tmp hl) (ev_int (inR_lit hi)) (inR64 h1 h2)) (Bool.and_eq_true_iff.1 hk).1 (Bool.and_eq_true_iff.1 hk).2 h
end
end Go.Proofs.YtdjlikknmbjjgaaGreat

namespace Go.Proofs.YtdjlikknmbjjgaaGreat
open Go.RowKit
open Go.Proofs
set_option linter.unusedVariables false
set_option linter.unusedSimpArgs false

set_option maxHeartbeats 4000000 in
set_option maxRecDepth 100000 in
/-- at the end -/
theorem ins_endS {e sz by_ n vc : Nat} {z : Value} {v : Value} {xs us : List Value} {va : Addr} {w : World} (ht : Tryz.prog.underlying 30 = some (.slice e)) (hinfo : (Tryz.prog.info? e).map (fun i => (i.zero, i.size, i.bytes)) = some (some z, sz, by_)) (hzs : z.cells.size = sz) (hsz : 0 < sz)
  (hown : w.ownsRow 0 e sz v n xs) (hsrc : RowRd w (some va) 1 sz us) (h1 : ∀ u ∈ us, u.oneCell' = true) (h63 : n + 1 ≤ maxLen) (hb : (n + 1) * by_ ≤ 140737488355328) :
  Calls Tryz.prog 51 #[v, .int .i64 n, .slice (some va) 1 vc] w (InsQ w v e sz n n xs us) := by
 have hm : n ≤ 9223372036854775807 := by unfold maxLen at h63; omega
 have hx1 : xs.length = n * sz := hown.1
 have hso : ∀ w, (Go.sizeOf e).run Tryz.prog w = .ok sz w := fun w => by
  obtain ⟨i0, q1, q2, q3, q4⟩ := info_parts hinfo
  simp [sizeOf, typeInfo, q1, q3]
 have hfin : ∀ A' c' w', w'.ownsRow 0 e sz (.slice A' (n + 1) c') (n + 1) (xs ++ us) → Chg v.ownBlock.toList w w' → (v.ownBlock = (Value.slice A' (n + 1) c').ownBlock ∨ (Value.slice A' (n + 1) c').ownBlock = some w.heap.size) → InsQ w v e sz n n xs us (.returned (.slice A' (n + 1) c')) w' := fun A' c' w' g1 g2 g3 =>
  ⟨A', c', rfl, by rw [← hx1]; simpa using g1, g2, g3⟩
 rcases hown.2 with ⟨rfl, rfl⟩ | ⟨g, cap, cur, rfl, _, hg, hnc, hcm, hcs, htk⟩
 ·have HO := Lib.hid hown
  have HF := Lib.hid hfin
  have HS := Lib.hid hsrc
  have H1 := Lib.hid h1
  clear hown hfin hsrc h1 hx1
  go_enter Tryz.func51, Tryz.ntmps51
  go_wp2_with (at_builtin; refine wpList_app _ rfl _ _ 30 rfl e z sz by_ ht hinfo hzs hsz _ 0 xs rfl HO (some va) 1 vc us rfl HS H1 h63 hb ?_; intro A' c' w' h9 hchg hblk)
  all_goals (go_ret; exact HF _ _ _ h9 hchg hblk)
 ·have HO := Lib.hid hown
  have HF := Lib.hid hfin
  have HS := Lib.hid hsrc
  have H1 := Lib.hid h1
  have HG := Lib.hid hg
  have HT := Lib.hid htk
  have hc63 : cap ≤ 9223372036854775807 := by unfold maxLen at hcm; omega
  clear hown hfin hsrc h1 hx1 hg htk
  go_enter Tryz.func51, Tryz.ntmps51
  go_wp2_with (at_builtin; refine wpList_app _ rfl _ _ 30 rfl e z sz by_ ht hinfo hzs hsz _ n xs rfl HO (some va) 1 vc us rfl HS H1 h63 hb ?_; intro A' c' w' h9 hchg hblk)
  all_goals (go_ret; exact HF _ _ _ h9 hchg hblk)
set_option maxHeartbeats 4000000 in
set_option maxRecDepth 100000 in
/-- in place -/
theorem ins_shiftS {e sz by_ n i cap vb vcap e2 : Nat} {z : Value} {g : Nat} {xs us : List Value} {w : World} {cur curv : Array Value} (ht : Tryz.prog.underlying 30 = some (.slice e)) (hinfo : (Tryz.prog.info? e).map (fun i => (i.zero, i.size, i.bytes)) = some (some z, sz, by_)) (hsz : 0 < sz)
  (hxl : xs.length = n * sz) (hg : w.heap[g]? = some (.cells cur e (0, 0))) (hcm : cap ≤ maxLen) (hcs : cur.size = cap * sz) (htk : cur.toList.take (n * sz) = xs) (hx1 : ∀ u ∈ xs, u.oneCell' = true)
  (hgv : w.heap[vb]? = some (.cells curv e2 (0, 0))) (hul : us.length = sz) (hvs : curv.toList.take sz = us) (h1 : ∀ u ∈ us, u.oneCell' = true) (hne : vb ≠ g) (hi : i < n) (hroom : n + 1 ≤ cap) :
  Calls Tryz.prog 51 #[.slice (some ⟨g, 0, none⟩) n cap, .int .i64 i, .slice (some ⟨vb, 0, none⟩) 1 vcap] w (InsQ w (.slice (some ⟨g, 0, none⟩) n cap) e sz n i xs us) := by
 have hso : ∀ w, (Go.sizeOf e).run Tryz.prog w = .ok sz w := fun w => by
  obtain ⟨i0, q1, q2, q3, q4⟩ := info_parts hinfo
  simp [sizeOf, typeInfo, q1, q3]
 have hsi : (Tryz.prog.info? e).map (·.size) = some sz := by
  obtain ⟨i0, q1, q2, q3, q4⟩ := info_parts hinfo
  rw [q1]; simp [q3]
 have hc63 : cap ≤ 9223372036854775807 := by unfold maxLen at hcm; omega
 have hz2 : ¬ ((i : Int) = (n : Int)) := by omega
 have hw1 : IntKind.i64.wrap ((i : Int) + 1) = (i : Int) + 1 := by rw [IntKind.wrap_i64]; omega
 have hw2 : IntKind.i64.wrap ((n : Int) + 1) = (n : Int) + 1 := by rw [IntKind.wrap_i64]; omega
 have hb1 : (0 : Int) ≤ (i : Int) + 1 := by omega
 have hin : i ≤ n := by omega
 have htn : ((i : Int) + 1).toNat = i + 1 := by omega
 have htn2 : ((n : Int) + 1).toNat = n + 1 := by omega
 have hb2 : ¬ (cap = i + 1) := by omega
 have hb3 : (i : Int) ≤ (n : Int) + 1 := by omega
 have hb4 : ¬ (cap = i) := by omega
 have hov : ∀ off lb cb, (callFunc 76 #[.slice (some ⟨vb, 0, none⟩) 1 vcap, .slice (some ⟨g, off, none⟩) lb cb]).run Tryz.prog w = .ok (.value (.bool false)) w := fun off lb cb => by
  rw [run_callFunc_extern Tryz.func76 (by kernel_rfl) (by kernel_rfl) (by kernel_rfl) (e := Extern.SlicesOverlaps.overlaps #[30, 30] #[4]) (by kernel_rfl),
   Lib.run_overlaps_apart w 30 4 e ht sz hso ⟨vb, 0, none⟩ ⟨g, off, none⟩ 1 vcap lb cb hne e2 e curv.size cur.size (by simp [World.shape?, hgv]) (by simp [World.shape?, hg]) (by rw [hcs]; exact Nat.ne_of_gt (Nat.mul_pos (by omega) hsz)) (by simp [World.frozen?, hgv]) (by simp [World.frozen?, hgv])]
  rfl
 have mixed : Tryz.prog.follows .mixedOrders = true := by kernel_rfl
 have hdl : (xs.drop (i * sz)).length = (n - i) * sz := by rw [List.length_drop, hxl, Nat.sub_mul]
 have m1 : (n + 1) * sz ≤ cap * sz := Nat.mul_le_mul_right _ hroom
 have m2 : (i + 1) * sz + (n - i) * sz = (n + 1) * sz := by rw [← Nat.add_mul]; congr 1; omega
 have m3 : i * sz + (n - i) * sz = n * sz := by rw [← Nat.add_mul]; congr 1; omega
 have m4 : (i + 1) * sz = i * sz + sz := by rw [Nat.add_mul, Nat.one_mul]
 have m5 : (n + 1) * sz = n * sz + sz := by rw [Nat.add_mul, Nat.one_mul]
 have hcur : ∀ j, j < n * sz → cur[j]? = xs[j]? := fun j hj => by rw [← htk, List.getElem?_take, if_pos hj, Array.getElem?_toList]
 obtain ⟨cur1, hcur1⟩ : ∃ cur1 : Array Value, cur1 = (cur.toList.take ((i + 1) * sz) ++ xs.drop (i * sz) ++ cur.toList.drop ((i + 1) * sz + (xs.drop (i * sz)).length)).toArray := ⟨_, rfl⟩
 obtain ⟨cur2, hcur2⟩ : ∃ cur2 : Array Value, cur2 = (cur1.toList.take (i * sz) ++ us ++ cur1.toList.drop (i * sz + us.length)).toArray := ⟨_, rfl⟩
 have hs1 : cur1.size = cap * sz := by
  rw [hcur1]
  simp only [List.size_toArray, List.length_append, List.length_take, List.length_drop, Array.length_toList, hcs, hxl]
  omega
 have hs2 : cur2.size = cap * sz := by
  rw [hcur2]
  simp only [List.size_toArray, List.length_append, List.length_take, List.length_drop, Array.length_toList, hs1, hul]
  omega
 have htk2 : cur2.toList.take ((n + 1) * sz) = xs.take (i * sz) ++ us ++ xs.drop (i * sz) := by
  have e1 : cur1.toList.take (i * sz) = xs.take (i * sz) := by
   rw [hcur1, ← htk, List.take_take, List.append_assoc, List.take_append_of_le_length (by simp only [List.length_take, Array.length_toList, hcs]; omega), List.take_take]
   congr 1; omega
  have e2 : (cur1.toList.drop (i * sz + us.length)).take ((n - i) * sz) = xs.drop (i * sz) := by
   rw [hcur1, hul, ← m4]
   have l1 : (cur.toList.take ((i + 1) * sz)).length = (i + 1) * sz := by simp only [List.length_take, Array.length_toList, hcs]; omega
   simp only [List.append_assoc]
   rw [List.drop_append_of_le_length (by omega), List.drop_eq_nil_of_le (by omega), List.nil_append, List.take_append_of_le_length (by omega), List.take_of_length_le (by omega)]
  rw [hcur2, e1]
  simp only []
  rw [← m2, m4, List.take_append, List.take_of_length_le (by simp only [List.length_append, List.length_take, hxl, hul]; omega)]
  congr 1
  rw [← e2]
  congr 1
  simp only [List.length_append, List.length_take, hxl, hul]
  omega
 have hcp1 : ∀ ty dc sc, (Builtin.copy_ #[30, 30] ty #[.slice (some ⟨g, (i + 1) * sz, none⟩) (n - i) dc, .slice (some ⟨g, i * sz, none⟩) (n + 1 - i) sc]).run Tryz.prog w.drew = .ok (goInt (Nat.min (n + 1 - i) (n - i))) (w.drew.setRow g cur1) := fun ty dc sc => by
  rw [hcur1]
  refine run_copyR w.drew _ _ ty e sz g ((i + 1) * sz) _ dc ⟨g, i * sz, none⟩ _ sc cur e (xs.drop (i * sz)) ht hsi hg (by rw [hdl]; congr 1; simp only [Nat.min_def]; split <;> omega) (fun j v hj => ?_) (by rw [hdl, hcs]; omega) (fun v hv => hx1 v (List.mem_of_mem_drop hv))
  rw [Addr.add_lit]
  rw [List.getElem?_drop] at hj
  have hj' := (List.getElem?_eq_some_iff.1 hj).1
  exact (cell_of_row w.drew g (i * sz + j) cur e (0, 0) hg).trans ((hcur _ (by omega)).trans hj)
 obtain ⟨W1, hW1⟩ : ∃ W1, W1 = w.drew.setRow g cur1 := ⟨_, rfl⟩
 have hgW : W1.heap[g]? = some (.cells cur1 e (0, 0)) := by rw [hW1]; exact setRow_heap _ g cur cur1 e _ hg
 have hgV : W1.heap[vb]? = some (.cells curv e2 (0, 0)) := by rw [hW1, (setRow_chg (w := w.drew)).block vb (Array.getElem?_eq_some_iff.1 hgv).1 (by simpa using hne)]; exact hgv
 have hcp2 : ∀ ty dc, (Builtin.copy_ #[30, 30] ty #[.slice (some ⟨g, i * sz, none⟩) (n + 1 - i) dc, .slice (some ⟨vb, 0, none⟩) 1 vcap]).run Tryz.prog W1 = .ok (goInt (Nat.min 1 (n + 1 - i))) (W1.setRow g cur2) := fun ty dc => by
  rw [hcur2]
  refine run_copyR W1 _ _ ty e sz g (i * sz) _ dc ⟨vb, 0, none⟩ _ vcap cur1 e us ht hsi hgW (by rw [hul]; simp only [Nat.min_def]; split <;> first | omega | rfl | simp) (fun j v hj => ?_) (by rw [hul, hs1]; omega) h1
  rw [Addr.add_lit, cell_of_row _ vb _ curv e2 (0, 0) hgV, Nat.zero_add]
  have hj' := (List.getElem?_eq_some_iff.1 hj).1
  rw [← hvs, List.getElem?_take, if_pos (by omega), Array.getElem?_toList] at hj
  exact hj
 have hfin : InsQ w (.slice (some ⟨g, 0, none⟩) n cap) e sz n i xs us (.returned (.slice (some ⟨g, 0, none⟩) (n + 1) cap)) (W1.setRow g cur2) := by
  refine ⟨_, _, rfl, ⟨?_, .inr ⟨g, cap, cur2, rfl, Nat.zero_le _, setRow_heap _ g cur1 cur2 e _ hgW, hroom, hcm, hs2, htk2⟩⟩, ?_, .inl rfl⟩
  ·simp only [List.length_append, List.length_take, List.length_drop, hxl, hul]; omega
  ·rw [hW1]
   exact ((Chg.refl [g] w).drew.trans setRow_chg).trans setRow_chg
 rw [← hW1] at hcp1
 have HF := Lib.hid hfin
 clear hcur1 hcur2 hfin hgW hgV htk2 hs2 hs1 hcur hx1 h1 hvs htk hxl hdl m1 m2 m3 m4 m5 hgv hg hcs hcm hinfo hsi hW1 hul
 go_enter Tryz.func51, Tryz.ntmps51
 go_wp2_with (simp only [hov])
 go_region_law_o (refine step_copy_runI rfl _ _ 30 30 rfl _ _ (by simp [Act.eval, Act.put]) (by simp [Act.eval, Act.put]) (hcp1 _ _ _) ?_)
 go_wp2_with (at_builtin; refine wpList_copy_runI _ rfl _ _ 30 30 rfl _ _ rfl rfl (hcp2 _ _) ?_)
 go_ret
 exact HF
set_option maxHeartbeats 4000000 in
set_option maxRecDepth 100000 in
/-- no room -/
theorem ins_growS {e sz by_ n i vb vcap e2 : Nat} {z : Value} {g : Nat} {xs us : List Value} {w : World} {cur curv : Array Value} (ht : Tryz.prog.underlying 30 = some (.slice e)) (hinfo : (Tryz.prog.info? e).map (fun i => (i.zero, i.size, i.bytes)) = some (some z, sz, by_)) (hzs : z.cells.size = sz) (hsz : 0 < sz)
  (hxl : xs.length = n * sz) (hg : w.heap[g]? = some (.cells cur e (0, 0))) (hcm : n ≤ maxLen) (hcs : cur.size = n * sz) (htk : cur.toList.take (n * sz) = xs) (hx1 : ∀ u ∈ xs, u.oneCell' = true)
  (hgv : w.heap[vb]? = some (.cells curv e2 (0, 0))) (hul : us.length = sz) (hvs : curv.toList.take sz = us) (h1 : ∀ u ∈ us, u.oneCell' = true) (hi : i < n) (h63 : n + 1 ≤ maxLen) (hb : (n + 1) * by_ ≤ 140737488355328) :
  Calls Tryz.prog 51 #[.slice (some ⟨g, 0, none⟩) n n, .int .i64 i, .slice (some ⟨vb, 0, none⟩) 1 vcap] w (InsQ w (.slice (some ⟨g, 0, none⟩) n n) e sz n i xs us) := by
 obtain ⟨i0, q1, q2, q3, q4⟩ := info_parts hinfo
 have hso : ∀ w, (Go.sizeOf e).run Tryz.prog w = .ok sz w := fun w => by
  simp [sizeOf, typeInfo, q1, q3]
 have hsi : (Tryz.prog.info? e).map (·.size) = some sz := by
  rw [q1]; simp [q3]
 have hc63 : n + 1 ≤ 9223372036854775807 := by unfold maxLen at h63; omega
 have mixed : Tryz.prog.follows .mixedOrders = true := by kernel_rfl
 have hz2 : ¬ ((i : Int) = (n : Int)) := by omega
 have hw1 : IntKind.i64.wrap ((i : Int) + 1) = (i : Int) + 1 := by rw [IntKind.wrap_i64]; omega
 have hw2 : IntKind.i64.wrap ((n : Int) + 1) = (n : Int) + 1 := by rw [IntKind.wrap_i64]; omega
 have hw3 : IntKind.i64.wrap ((n : Int) + 1 - (i : Int)) = (n : Int) + 1 - (i : Int) := by rw [IntKind.wrap_i64]; omega
 have hb1 : (0 : Int) ≤ (i : Int) + 1 := by omega
 have hin : i ≤ n := by omega
 have htn : ((i : Int) + 1).toNat = i + 1 := by omega
 have hni : ¬ (n = i) := by omega
 have hkk : (n : Int) + 1 - (i : Int) = ((n + 1 - i : Nat) : Int) := by omega
 have hik : i + (n + 1 - i) = n + 1 := by omega
 have hdl : (xs.drop (i * sz)).length = (n - i) * sz := by rw [List.length_drop, hxl, Nat.sub_mul]
 have m2 : (i + 1) * sz + (n - i) * sz = (n + 1) * sz := by rw [← Nat.add_mul]; congr 1; omega
 have m3 : i * sz + (n - i) * sz = n * sz := by rw [← Nat.add_mul]; congr 1; omega
 have m4 : (i + 1) * sz = i * sz + sz := by rw [Nat.add_mul, Nat.one_mul]
 have m5 : (n + 1) * sz = n * sz + sz := by rw [Nat.add_mul, Nat.one_mul]
 have hcur : ∀ j, j < n * sz → cur[j]? = xs[j]? := fun j hj => by rw [← htk, List.getElem?_take, if_pos hj, Array.getElem?_toList]
 have htl : (xs.take (i * sz)).length = i * sz := by rw [List.length_take, hxl]; omega
 have hold : (Builtin.firstCells i0.size i (.slice (some ⟨g, 0, none⟩) i n)).run Tryz.prog w.drew = .ok (xs.take (i * sz)).toArray w.drew := by
  rw [q3]
  refine run_firstCells_some w.drew sz i ⟨g, 0, none⟩ i n (xs.take (i * sz)) (by rw [htl]) (fun j v hj => ?_)
  rw [Addr.add_lit, Nat.zero_add]
  rw [List.getElem?_take] at hj
  split at hj
  ·exact (cell_of_row w.drew g j cur e (0, 0) hg).trans ((hcur _ (by omega)).trans hj)
  ·cases hj
 obtain ⟨G, hG⟩ : ∃ G, G = grownCap w (n + 1) n e := ⟨_, rfl⟩
 have hGn : n + 1 ≤ G := by rw [hG]; exact grownCap_ge w _ _ _
 have hGm : G ≤ maxLen := by rw [hG]; exact grownCap_le_maxLen w (n + 1) n e h63
 obtain ⟨ROW, hROW⟩ : ∃ ROW : Array Value, ROW = (xs.take (i * sz)).toArray ++ Builtin.zeroCells z.cells (n + 1 - i) ++ Builtin.zeroCells z.cells (G - (n + 1)) := ⟨_, rfl⟩
 have hzl : ∀ k, (Builtin.zeroCells z.cells k).size = k * sz := fun k => by simp [Builtin.zeroCells, hzs]
 have hRs : ROW.size = G * sz := by
  rw [hROW]
  simp only [Array.size_append, List.size_toArray, htl, hzl]
  rw [← Nat.add_mul, ← Nat.add_mul]
  congr 1; omega
 obtain ⟨W1, hW1⟩ : ∃ W1, W1 = w.drew.alloc (.cells ROW e) := ⟨_, rfl⟩
 have hrz : ∀ ty, (Builtin.append_ #[30, 3] ty #[.slice (some ⟨g, 0, none⟩) i n, .int .i64 ((n : Int) + 1 - (i : Int))]).run Tryz.prog w =
   .ok (.slice (some ⟨w.heap.size, 0, none⟩) (n + 1) G) W1 := fun ty => by
  have h := Lib.run_append_grow_zeros (P := Tryz.prog) w 30 3 ty e i0 z .i64 .i64 ht (by kernel_rfl) q1 q2 (some ⟨g, 0, none⟩) i n (xs.take (i * sz)) hold (n + 1 - i) (by omega) (by omega) (by omega) (by omega) (by
   rw [q4]
   have : (n + 1 - i) * by_ ≤ (n + 1) * by_ := Nat.mul_le_mul_right _ (by omega)
   omega) (by rw [q4, hik]; exact growslice_fits (by omega) hb)
  rw [hik] at h
  rw [hkk, hW1, hROW, hG]
  exact h
 have hgW0 : W1.heap[w.heap.size]? = some (.cells ROW e (0, 0)) := by rw [hW1]; exact heap_alloc_new w.drew _
 have hgl : g < w.heap.size := (Array.getElem?_eq_some_iff.1 hg).1
 have hvl : vb < w.heap.size := (Array.getElem?_eq_some_iff.1 hgv).1
 have hc1 : Chg [] w W1 := by rw [hW1]; exact (Chg.refl [] w).drew.alloc _
 have hgV : W1.heap[vb]? = some (.cells curv e2 (0, 0)) := by rw [hc1.block vb hvl (by simp)]; exact hgv
 have hm1 : (n + 1) * sz ≤ G * sz := Nat.mul_le_mul_right _ hGn
 obtain ⟨R1, hR1⟩ : ∃ R1 : Array Value, R1 = (ROW.toList.take (i * sz) ++ us ++ ROW.toList.drop (i * sz + us.length)).toArray := ⟨_, rfl⟩
 have hs1 : R1.size = G * sz := by
  rw [hR1]
  simp only [List.size_toArray, List.length_append, List.length_take, List.length_drop, Array.length_toList, hRs, hul]
  omega
 obtain ⟨W2, hW2⟩ : ∃ W2, W2 = W1.setRow w.heap.size R1 := ⟨_, rfl⟩
 have hcpA : ∀ ty dc, (Builtin.copy_ #[30, 30] ty #[.slice (some ⟨w.heap.size, i * sz, none⟩) (n + 1 - i) dc, .slice (some ⟨vb, 0, none⟩) 1 vcap]).run Tryz.prog W1 = .ok (goInt (Nat.min 1 (n + 1 - i))) W2 := fun ty dc => by
  rw [hW2, hR1]
  refine run_copyR W1 _ _ ty e sz w.heap.size (i * sz) _ dc ⟨vb, 0, none⟩ _ vcap ROW e us ht hsi hgW0 (by rw [hul]; simp only [Nat.min_def]; split <;> first | omega | rfl | simp) (fun j v hj => ?_) (by rw [hul, hRs]; omega) h1
  rw [Addr.add_lit, cell_of_row _ vb _ curv e2 (0, 0) hgV, Nat.zero_add]
  have hj' := (List.getElem?_eq_some_iff.1 hj).1
  rw [← hvs, List.getElem?_take, if_pos (by omega), Array.getElem?_toList] at hj
  exact hj
 have hgW2 : W2.heap[w.heap.size]? = some (.cells R1 e (0, 0)) := by rw [hW2]; exact setRow_heap _ _ ROW R1 e _ hgW0
 have hgG : W2.heap[g]? = some (.cells cur e (0, 0)) := by
  rw [hW2, (setRow_chg (w := W1) (g := w.heap.size)).block g (Nat.lt_of_lt_of_le hgl hc1.size) (by simp; omega), hc1.block g hgl (by simp)]; exact hg
 obtain ⟨R2, hR2⟩ : ∃ R2 : Array Value, R2 = (R1.toList.take ((i + 1) * sz) ++ xs.drop (i * sz) ++ R1.toList.drop ((i + 1) * sz + (xs.drop (i * sz)).length)).toArray := ⟨_, rfl⟩
 have hs2 : R2.size = G * sz := by
  rw [hR2]
  simp only [List.size_toArray, List.length_append, List.length_take, List.length_drop, Array.length_toList, hs1, hxl]
  omega
 obtain ⟨W3, hW3⟩ : ∃ W3, W3 = W2.drew.setRow w.heap.size R2 := ⟨_, rfl⟩
 have hcpB : ∀ ty dc sc, (Builtin.copy_ #[30, 30] ty #[.slice (some ⟨w.heap.size, (i + 1) * sz, none⟩) (n - i) dc, .slice (some ⟨g, i * sz, none⟩) (n - i) sc]).run Tryz.prog W2.drew = .ok (goInt (Nat.min (n - i) (n - i))) W3 := fun ty dc sc => by
  rw [hW3, hR2]
  refine run_copyR W2.drew _ _ ty e sz w.heap.size ((i + 1) * sz) _ dc ⟨g, i * sz, none⟩ _ sc R1 e (xs.drop (i * sz)) ht hsi hgW2 (by rw [hdl]; congr 1; simp) (fun j v hj => ?_) (by rw [hdl, hs1]; omega) (fun v hv => hx1 v (List.mem_of_mem_drop hv))
  rw [Addr.add_lit]
  rw [List.getElem?_drop] at hj
  have hj' := (List.getElem?_eq_some_iff.1 hj).1
  exact (cell_of_row W2.drew g (i * sz + j) cur e (0, 0) hgG).trans ((hcur _ (by omega)).trans hj)
 have htk2 : R2.toList.take ((n + 1) * sz) = xs.take (i * sz) ++ us ++ xs.drop (i * sz) := by
  have e1 : R1.toList.take ((i + 1) * sz) = xs.take (i * sz) ++ us := by
   rw [hR1, m4]
   simp only []
   rw [List.take_append_of_le_length (by simp only [List.length_append, List.length_take, Array.length_toList, hRs, hul]; omega), List.take_of_length_le (by simp only [List.length_append, List.length_take, Array.length_toList, hRs, hul]; omega)]
   congr 1
   rw [hROW]
   simp only [Array.toList_append, List.append_assoc]
   rw [List.take_append_of_le_length (by rw [htl]; exact Nat.le_refl _), List.take_of_length_le (by rw [htl]; exact Nat.le_refl _)]
  rw [hR2, e1]
  simp only []
  rw [List.take_append_of_le_length (by simp only [List.length_append, List.length_take, List.length_drop, hxl, hul]; omega), List.take_of_length_le (by simp only [List.length_append, List.length_take, List.length_drop, hxl, hul]; omega)]
 have hfin : InsQ w (.slice (some ⟨g, 0, none⟩) n n) e sz n i xs us (.returned (.slice (some ⟨w.heap.size, 0, none⟩) (n + 1) G)) W3 := by
  refine ⟨_, _, rfl, ⟨?_, .inr ⟨w.heap.size, G, R2, rfl, Nat.zero_le _, by rw [hW3]; exact setRow_heap _ _ R1 R2 e _ hgW2, hGn, hGm, hs2, htk2⟩⟩, ?_, .inr rfl⟩
  ·simp only [List.length_append, List.length_take, List.length_drop, hxl, hul]; omega
  ·have c3 : Chg [w.heap.size] W1 W3 := by rw [hW3, hW2]; exact (setRow_chg.drew).trans setRow_chg
   refine ⟨c3.os.trans hc1.os, c3.tape.trans hc1.tape, c3.output.trans hc1.output, Nat.le_trans hc1.size c3.size, fun k hk hn => ?_⟩
   rw [c3.block k (Nat.lt_of_lt_of_le hk hc1.size) (by simp; omega), hc1.block k hk (by simp)]
 have HF := Lib.hid hfin
 have hGi : ¬ (G = i) := by omega
 have hGim : ¬ (G = i + 1) := by omega
 have hG63 : G ≤ 9223372036854775807 := by unfold maxLen at hGm; omega
 obtain ⟨H, hH⟩ : ∃ H, H = w.heap.size := ⟨_, rfl⟩
 rw [← hH] at hrz hcpA hcpB HF
 clear hH hfin hgW0 hgV hgW2 hgG htk2 hs2 hs1 hcur hx1 h1 hvs htk hxl hdl m2 m3 m4 m5 hgv hg hcs hcm hinfo hsi hW1 hW2 hW3 hul hR1 hR2 hROW hRs hzl hold htl hc1 hgl hvl hm1 hkk hik hG q1 q2 q3 q4 hzs
 go_enter Tryz.func51, Tryz.ntmps51
 go_wp2_with (first
  | (at_builtin; refine Lib.wpList_append_run _ rfl _ _ _ _ rfl _ _ rfl rfl _ _ (hrz _) ?_)
  | (at_builtin; refine wpList_copy_runI _ rfl _ _ 30 30 rfl _ _ rfl rfl (hcpA _ _) ?_))
 go_region_law_o (refine step_copy_runI rfl _ _ 30 30 rfl _ _ (by simp [Act.eval, Act.put]) (by simp [Act.eval, Act.put]) (hcpB _ _ _) ?_)
 go_wp2
 go_ret
 exact HF
theorem ins_rowS {e sz by_ n i e2 : Nat} {z : Value} {v u : Value} {xs us : List Value} {w : World} (ht : Tryz.prog.underlying 30 = some (.slice e)) (hinfo : (Tryz.prog.info? e).map (fun i => (i.zero, i.size, i.bytes)) = some (some z, sz, by_)) (hzs : z.cells.size = sz) (hsz : 0 < sz)
  (hown : w.ownsRow 0 e sz v n xs) (hx1 : ∀ u ∈ xs, u.oneCell' = true) (hv : w.ownsRow 0 e2 sz u 1 us) (h1 : ∀ u ∈ us, u.oneCell' = true) (hne : ∀ b, v.ownBlock = some b → u.ownBlock ≠ some b) (hi : i ≤ n) (h63 : n + 1 ≤ maxLen) (hb : (n + 1) * by_ ≤ 140737488355328) :
  Calls Tryz.prog 51 #[v, .int .i64 i, u] w (InsQ w v e sz n i xs us) := by
 have hul : us.length = sz := by rw [hv.1, Nat.one_mul]
 rcases hv.2 with ⟨_, h⟩ | ⟨vb, vcap, curv, rfl, _, hgv, hvc, _, _, hvt⟩
 ·cases h
 ·rw [Nat.one_mul] at hvt
  rcases Nat.lt_or_ge i n with hlt | hge
  ·rcases hown.2 with ⟨_, h⟩ | ⟨g, cap, cur, rfl, _, hg, hnc, hcm, hcs, htk⟩
   ·omega
   ·rcases Nat.lt_or_ge n cap with h | h
    ·exact ins_shiftS ht hinfo hsz hown.1 hg hcm hcs htk hx1 hgv hul hvt h1 (fun e => hne g rfl (by rw [e]; rfl)) hlt h
    ·have e1 : cap = n := by omega
     subst e1
     exact ins_growS ht hinfo hzs hsz hown.1 hg hcm hcs htk hx1 hgv hul hvt h1 hlt h63 hb
  ·have e1 : i = n := by omega
   subst e1
   refine ins_endS ht hinfo hzs hsz hown ⟨by rw [Nat.one_mul]; exact hul, fun _ => ⟨vb, 0, rfl, fun j x hj => ?_⟩⟩ h1 h63 hb
   rw [Nat.zero_add, cell_of_row _ vb _ curv e2 (0, 0) hgv]
   have hj' := (List.getElem?_eq_some_iff.1 hj).1
   rw [← hvt, List.getElem?_take, if_pos (by omega), Array.getElem?_toList] at hj
   exact hj
theorem insOk_Store {sz by_ : Nat} {zc : List CV} (he : look TTab.el 57 = some (sz, by_, zc)) (hl0 : zc.length = sz) (hpos : 0 < sz) : InsOk Tryz.prog 51 57 sz by_ := by
 obtain ⟨inf, z, g1, g2, g3, g4, g5⟩ := hT.el _ _ _ _ he
 refine ⟨hpos, hT.lt _ _ he, fun hown hx1 hv h1 hne hi h63 hb => ins_rowS (z := z) (by kernel_rfl) (by rw [g1]; simp [g2, g3, g4]) (by
  have := zL_len g5
  simp only [Array.length_toList] at this
  rw [this, hl0]) hpos hown hx1 hv h1 hne hi h63 hb⟩
end Go.Proofs.YtdjlikknmbjjgaaGreat

namespace Go.Proofs.YtdjlikknmbjjgaaGreat
open Go.RowKit
open Go.Proofs
set_option linter.unusedVariables false
section
variable {C : Ctx} {nt : Nat} {x y : Operand} {σ : St} {ty0 : TypeId} {ps : String} {af : Array Edge} {dd : Option Tmp} {gg : Option (Nat × Bool)}
theorem qA {v : SV} (hx : Ev Tryz.prog C nt σ x v) : Pu Tryz.prog C nt ⟨dd, .move x, ty0, ps, af, gg⟩ σ v [] [] := pu_move (.inl rfl) hx
theorem qB {v : SV} (hx : Ev Tryz.prog C nt σ x v) : Pu Tryz.prog C nt ⟨dd, .assign x, ty0, ps, af, gg⟩ σ v [] [] := pu_move (.inr rfl) hx
theorem qC {s f off b i : Nat} (hx : Ev Tryz.prog C nt σ x (.box b i)) (h : look TTab.of (1000 * s + f) = some off) (hf : Nat.blt f 1000 = true) : Pu Tryz.prog C nt ⟨dd, .fieldAddr s x f, ty0, ps, af, gg⟩ σ (.box b (i + off)) [] [] := pu_fieldBox hT rfl h hf hx
theorem qC2 {s f off : Nat} {K : List Nat} {ds : List DV} (hx : Ev Tryz.prog C nt σ x (.ref K ds)) (h : look TTab.of (1000 * s + f) = some off) (hf : Nat.blt f 1000 = true) : Pu Tryz.prog C nt ⟨dd, .fieldAddr s x f, ty0, ps, af, gg⟩ σ (.ref K (ds.drop off)) [] [] := pu_fieldRef hT rfl h hf hx
theorem qC3 {s f off k i : Nat} (hx : Ev Tryz.prog C nt σ x (.eptr k i)) (h : look TTab.of (1000 * s + f) = some off) (hf : Nat.blt f 1000 = true) : Pu Tryz.prog C nt ⟨dd, .fieldAddr s x f, ty0, ps, af, gg⟩ σ (.eptr k (i + off)) [] [] := pu_fieldE hT rfl h hf hx
theorem qD {t n b i t' : Nat} {cs : List CV} (ht : look TTab.ag t = some n) (hx : Ev Tryz.prog C nt σ x (.box b i)) (hb : look σ.bx b = some (t', cs)) (hl : Nat.ble (i + n) cs.length = true) : Pu Tryz.prog C nt ⟨dd, .load t x, ty0, ps, af, gg⟩ σ (.agg (sub i n cs)) [] [b] := pu_loadBoxA hT rfl ht hx hb hl
theorem qD2 {t b i t' : Nat} {cs : List CV} {c : CV} {u : Unit} (ht : look TTab.on t = some u) (hx : Ev Tryz.prog C nt σ x (.box b i)) (hb : look σ.bx b = some (t', cs)) (hl : cs[i]? = some c) : Pu Tryz.prog C nt ⟨dd, .load t x, ty0, ps, af, gg⟩ σ (.one c) [] [b] := pu_loadBox1 hT rfl ht hx hb hl
theorem qD3 {t n : Nat} {K : List Nat} {ds : List DV} (ht : look TTab.ag t = some n) (hx : Ev Tryz.prog C nt σ x (.ref K ds)) (hl : Nat.ble n ds.length = true) : Pu Tryz.prog C nt ⟨dd, .load t x, ty0, ps, af, gg⟩ σ (.agg ((ds.take n).map (dvK K))) K [] := pu_loadRefA hT rfl ht hx hl
theorem qD4 {t : Nat} {K : List Nat} {dv : DV} {ds : List DV} {u : Unit} (ht : look TTab.on t = some u) (hx : Ev Tryz.prog C nt σ x (.ref K ds)) (hd : ds[0]? = some dv) : Pu Tryz.prog C nt ⟨dd, .load t x, ty0, ps, af, gg⟩ σ (.one (dvK K dv)) K [] := pu_loadRef1 hT rfl ht hx hd
theorem qE {i : Nat} {ts : List (Bool × List CV)} {c : CV} (hx : Ev Tryz.prog C nt σ x (.tup ts)) (h : ts[i]? = some (false, [c])) : Pu Tryz.prog C nt ⟨dd, .extract x i, ty0, ps, af, gg⟩ σ (.one c) [] [] := pu_extract1 rfl hx h
theorem qE2 {i : Nat} {ts : List (Bool × List CV)} {cs : List CV} (hx : Ev Tryz.prog C nt σ x (.tup ts)) (h : ts[i]? = some (true, cs)) : Pu Tryz.prog C nt ⟨dd, .extract x i, ty0, ps, af, gg⟩ σ (.agg cs) [] [] := pu_extractA rfl hx h
theorem qN {t : TypeId} {K : List Nat} {b : Bool} (hx : Ev Tryz.prog C nt σ x (.one (.dv K (.bool b)))) : Pu Tryz.prog C nt ⟨dd, .unOp .not t x, ty0, ps, af, gg⟩ σ (.one (.dv [] (.bool (!b)))) [] [] := pu_not rfl hx
theorem qG {c : Operand} {K J : List Nat} {b b2 : Bool} (hc : Ev Tryz.prog C nt σ c (.one (.dv K (.bool b)))) (hy : b = true → Ev Tryz.prog C nt σ y (.one (.dv J (.bool b2)))) : Pu Tryz.prog C nt ⟨dd, .pick c y (.const (.bool false)), ty0, ps, af, gg⟩ σ (.one (.dv [] (.bool (b && b2)))) [] [] := pu_and rfl hc hy
theorem qH {c : Operand} {K J : List Nat} {b b2 : Bool} (hc : Ev Tryz.prog C nt σ c (.one (.dv K (.bool b)))) (hy : b = false → Ev Tryz.prog C nt σ y (.one (.dv J (.bool b2)))) : Pu Tryz.prog C nt ⟨dd, .pick c (.const (.bool true)) y, ty0, ps, af, gg⟩ σ (.one (.dv [] (.bool (b || b2)))) [] [] := pu_or rfl hc hy
theorem qIlss {t ty : TypeId} {K J : List Nat} {k : IntKind} {m n : Int} (hx : Ev Tryz.prog C nt σ x (.one (.dv K (.int k m)))) (hy : Ev Tryz.prog C nt σ y (.one (.dv J (.int k n)))) : Pu Tryz.prog C nt ⟨dd, .binOp .lss t x y ty, ty0, ps, af, gg⟩ σ (.one (.dv [] (.bool (decide (m < n))))) [] [] := pu_lss rfl hx hy
theorem qIleq {t ty : TypeId} {K J : List Nat} {k : IntKind} {m n : Int} (hx : Ev Tryz.prog C nt σ x (.one (.dv K (.int k m)))) (hy : Ev Tryz.prog C nt σ y (.one (.dv J (.int k n)))) : Pu Tryz.prog C nt ⟨dd, .binOp .leq t x y ty, ty0, ps, af, gg⟩ σ (.one (.dv [] (.bool (decide (m ≤ n))))) [] [] := pu_leq rfl hx hy
theorem qIgtr {t ty : TypeId} {K J : List Nat} {k : IntKind} {m n : Int} (hx : Ev Tryz.prog C nt σ x (.one (.dv K (.int k m)))) (hy : Ev Tryz.prog C nt σ y (.one (.dv J (.int k n)))) : Pu Tryz.prog C nt ⟨dd, .binOp .gtr t x y ty, ty0, ps, af, gg⟩ σ (.one (.dv [] (.bool (decide (n < m))))) [] [] := pu_gtr rfl hx hy
theorem qIgeq {t ty : TypeId} {K J : List Nat} {k : IntKind} {m n : Int} (hx : Ev Tryz.prog C nt σ x (.one (.dv K (.int k m)))) (hy : Ev Tryz.prog C nt σ y (.one (.dv J (.int k n)))) : Pu Tryz.prog C nt ⟨dd, .binOp .geq t x y ty, ty0, ps, af, gg⟩ σ (.one (.dv [] (.bool (decide (n ≤ m))))) [] [] := pu_geq rfl hx hy
theorem qIeql {t ty : TypeId} {K J : List Nat} {k : IntKind} {m n : Int} (hx : Ev Tryz.prog C nt σ x (.one (.dv K (.int k m)))) (hy : Ev Tryz.prog C nt σ y (.one (.dv J (.int k n)))) : Pu Tryz.prog C nt ⟨dd, .binOp .eql t x y ty, ty0, ps, af, gg⟩ σ (.one (.dv [] (.bool (decide (m = n))))) [] [] := pu_eql rfl hx hy
theorem qIneq {t ty : TypeId} {K J : List Nat} {k : IntKind} {m n : Int} (hx : Ev Tryz.prog C nt σ x (.one (.dv K (.int k m)))) (hy : Ev Tryz.prog C nt σ y (.one (.dv J (.int k n)))) : Pu Tryz.prog C nt ⟨dd, .binOp .neq t x y ty, ty0, ps, af, gg⟩ σ (.one (.dv [] (.bool (!decide (m = n))))) [] [] := pu_neq rfl hx hy
theorem qSeql {t ty : TypeId} {K J : List Nat} {m n : ByteArray} (hx : Ev Tryz.prog C nt σ x (.one (.dv K (.str m)))) (hy : Ev Tryz.prog C nt σ y (.one (.dv J (.str n)))) : Pu Tryz.prog C nt ⟨dd, .binOp .eql t x y ty, ty0, ps, af, gg⟩ σ (.one (.dv [] (.bool (sEq m n)))) [] [] := pu_seq rfl hx hy
theorem qSneq {t ty : TypeId} {K J : List Nat} {m n : ByteArray} (hx : Ev Tryz.prog C nt σ x (.one (.dv K (.str m)))) (hy : Ev Tryz.prog C nt σ y (.one (.dv J (.str n)))) : Pu Tryz.prog C nt ⟨dd, .binOp .neq t x y ty, ty0, ps, af, gg⟩ σ (.one (.dv [] (.bool (!sEq m n)))) [] [] := pu_sne rfl hx hy
theorem qSlss {t ty : TypeId} {K J : List Nat} {m n : ByteArray} (hx : Ev Tryz.prog C nt σ x (.one (.dv K (.str m)))) (hy : Ev Tryz.prog C nt σ y (.one (.dv J (.str n)))) : Pu Tryz.prog C nt ⟨dd, .binOp .lss t x y ty, ty0, ps, af, gg⟩ σ (.one (.dv [] (.bool (sLt m n)))) [] [] := pu_slt rfl hx hy
theorem qSleq {t ty : TypeId} {K J : List Nat} {m n : ByteArray} (hx : Ev Tryz.prog C nt σ x (.one (.dv K (.str m)))) (hy : Ev Tryz.prog C nt σ y (.one (.dv J (.str n)))) : Pu Tryz.prog C nt ⟨dd, .binOp .leq t x y ty, ty0, ps, af, gg⟩ σ (.one (.dv [] (.bool (sLt m n || sEq m n)))) [] [] := pu_sle rfl hx hy
theorem qSgtr {t ty : TypeId} {K J : List Nat} {m n : ByteArray} (hx : Ev Tryz.prog C nt σ x (.one (.dv K (.str m)))) (hy : Ev Tryz.prog C nt σ y (.one (.dv J (.str n)))) : Pu Tryz.prog C nt ⟨dd, .binOp .gtr t x y ty, ty0, ps, af, gg⟩ σ (.one (.dv [] (.bool (!(sLt m n || sEq m n))))) [] [] := pu_sgt rfl hx hy
theorem qSgeq {t ty : TypeId} {K J : List Nat} {m n : ByteArray} (hx : Ev Tryz.prog C nt σ x (.one (.dv K (.str m)))) (hy : Ev Tryz.prog C nt σ y (.one (.dv J (.str n)))) : Pu Tryz.prog C nt ⟨dd, .binOp .geq t x y ty, ty0, ps, af, gg⟩ σ (.one (.dv [] (.bool (!sLt m n)))) [] [] := pu_sge rfl hx hy
theorem qIadd {t ty : TypeId} {K J : List Nat} {m n : Int} (hx : Ev Tryz.prog C nt σ x (.one (.dv K (.int .i64 m)))) (hy : Ev Tryz.prog C nt σ y (.one (.dv J (.int .i64 n)))) (h1 : -9223372036854775808 ≤ m + n) (h2 : m + n ≤ 9223372036854775807) : Pu Tryz.prog C nt ⟨dd, .binOp .add t x y ty, ty0, ps, af, gg⟩ σ (.one (.dv [] (.int .i64 (m + n)))) [] [] := pu_addR rfl hx hy (inR64 h1 h2)
theorem qIsub {t ty : TypeId} {K J : List Nat} {m n : Int} (hx : Ev Tryz.prog C nt σ x (.one (.dv K (.int .i64 m)))) (hy : Ev Tryz.prog C nt σ y (.one (.dv J (.int .i64 n)))) (h1 : -9223372036854775808 ≤ m - n) (h2 : m - n ≤ 9223372036854775807) : Pu Tryz.prog C nt ⟨dd, .binOp .sub t x y ty, ty0, ps, af, gg⟩ σ (.one (.dv [] (.int .i64 (m - n)))) [] [] := pu_subR rfl hx hy (inR64 h1 h2)
theorem qL {t e' e sz n : Nat} {K : List Nat} {cs : List DV} (hx : Ev Tryz.prog C nt σ x (.one (.dv K (.sl e sz n cs)))) (h : look TTab.sl t = some e') : Pu Tryz.prog C nt ⟨dd, .call { callee := .builtin .len, args := #[x], argTypes := #[t] }, ty0, ps, af, gg⟩ σ (.one (.dv [] (.int .i64 (n : Int)))) [] [] := pu_lenV hT rfl h hx
theorem qL2 {t : Nat} {u : Unit} {s : ByteArray} {K : List Nat} (hx : Ev Tryz.prog C nt σ x (.one (.dv K (.str s)))) (h : look TTab.st t = some u) : Pu Tryz.prog C nt ⟨dd, .call { callee := .builtin .len, args := #[x], argTypes := #[t] }, ty0, ps, af, gg⟩ σ (.one (.dv [] (.int .i64 (s.size : Int)))) [] [] := pu_lenS hT rfl h hx
theorem qL3 {t e' : Nat} (hx : Ev Tryz.prog C nt σ x (.one .nil)) (h : look TTab.sl t = some e') : Pu Tryz.prog C nt ⟨dd, .call { callee := .builtin .len, args := #[x], argTypes := #[t] }, ty0, ps, af, gg⟩ σ (.one (.dv [] (.int .i64 0))) [] [] := pu_lenN hT rfl h hx
end
section
variable {P : Program} {C : Ctx} {nt : Nat} {o : Oper} {x y : Operand} {T : TT} {Q : Exit → St → Prop} {N : St → Prop} {all : Array Oper} {rest : List Oper} {σ : St} {tm : List (Nat × SV)} {bx : List (Nat × TypeId × List CV)} {ks : List (Nat × Option KC)} {d t : Nat} {v X : SV} {ty : TypeId} {ps : String} {af : Array Edge} {Ks Bs oB oK : List Nat} {g : Bool} {listed : Array Bool} {fuel : Nat} {hd' : Nat → Bool}
theorem zp (hp : Pu P C nt o σ v Ks Bs := by
  first
  | (apply qA; (first | exact ev_tmp rfl | exact ev_int (inR_lit rfl) | exact ev_bool | exact ev_str (str_lit rfl) | exact ev_nil | exact ev_func))
  | (apply qB; (first | exact ev_tmp rfl | exact ev_int (inR_lit rfl) | exact ev_bool | exact ev_str (str_lit rfl) | exact ev_nil | exact ev_func))
  | (apply qC; (first | exact ev_tmp rfl | exact ev_int (inR_lit rfl) | exact ev_bool | exact ev_str (str_lit rfl) | exact ev_nil | exact ev_func); exact rfl; exact rfl)
  | (apply qC2; (first | exact ev_tmp rfl | exact ev_int (inR_lit rfl) | exact ev_bool | exact ev_str (str_lit rfl) | exact ev_nil | exact ev_func); exact rfl; exact rfl)
  | (apply qC3; (first | exact ev_tmp rfl | exact ev_int (inR_lit rfl) | exact ev_bool | exact ev_str (str_lit rfl) | exact ev_nil | exact ev_func); exact rfl; exact rfl)
  | (apply qD; exact rfl; (first | exact ev_tmp rfl | exact ev_int (inR_lit rfl) | exact ev_bool | exact ev_str (str_lit rfl) | exact ev_nil | exact ev_func); exact rfl; exact rfl)
  | (apply qD2; exact rfl; (first | exact ev_tmp rfl | exact ev_int (inR_lit rfl) | exact ev_bool | exact ev_str (str_lit rfl) | exact ev_nil | exact ev_func); exact rfl; exact rfl)
  | (apply qD3; exact rfl; (first | exact ev_tmp rfl | exact ev_int (inR_lit rfl) | exact ev_bool | exact ev_str (str_lit rfl) | exact ev_nil | exact ev_func); exact rfl)
  | (apply qD4; exact rfl; (first | exact ev_tmp rfl | exact ev_int (inR_lit rfl) | exact ev_bool | exact ev_str (str_lit rfl) | exact ev_nil | exact ev_func); exact rfl)
  | (apply qE; (first | exact ev_tmp rfl | exact ev_int (inR_lit rfl) | exact ev_bool | exact ev_str (str_lit rfl) | exact ev_nil | exact ev_func); exact rfl)
  | (apply qE2; (first | exact ev_tmp rfl | exact ev_int (inR_lit rfl) | exact ev_bool | exact ev_str (str_lit rfl) | exact ev_nil | exact ev_func); exact rfl)
  | (apply qN; (first | exact ev_tmp rfl | exact ev_int (inR_lit rfl) | exact ev_bool | exact ev_str (str_lit rfl) | exact ev_nil | exact ev_func))
  | (apply qG; (first | exact ev_tmp rfl | exact ev_int (inR_lit rfl) | exact ev_bool | exact ev_str (str_lit rfl) | exact ev_nil | exact ev_func); (intro hb; first | (refine ev_opt rfl ?_; first | exact beq_t hb | exact beq_f hb) | exact ev_tmp rfl | exact ev_int (inR_lit rfl) | exact ev_bool | exact ev_str (str_lit rfl) | exact ev_nil | exact ev_func))
  | (apply qH; (first | exact ev_tmp rfl | exact ev_int (inR_lit rfl) | exact ev_bool | exact ev_str (str_lit rfl) | exact ev_nil | exact ev_func); (intro hb; first | (refine ev_opt rfl ?_; first | exact beq_t hb | exact beq_f hb) | exact ev_tmp rfl | exact ev_int (inR_lit rfl) | exact ev_bool | exact ev_str (str_lit rfl) | exact ev_nil | exact ev_func))
  | (apply qIlss; (first | exact ev_tmp rfl | exact ev_int (inR_lit rfl) | exact ev_bool | exact ev_str (str_lit rfl) | exact ev_nil | exact ev_func); (first | exact ev_tmp rfl | exact ev_int (inR_lit rfl) | exact ev_bool | exact ev_str (str_lit rfl) | exact ev_nil | exact ev_func))
  | (apply qIleq; (first | exact ev_tmp rfl | exact ev_int (inR_lit rfl) | exact ev_bool | exact ev_str (str_lit rfl) | exact ev_nil | exact ev_func); (first | exact ev_tmp rfl | exact ev_int (inR_lit rfl) | exact ev_bool | exact ev_str (str_lit rfl) | exact ev_nil | exact ev_func))
  | (apply qIgtr; (first | exact ev_tmp rfl | exact ev_int (inR_lit rfl) | exact ev_bool | exact ev_str (str_lit rfl) | exact ev_nil | exact ev_func); (first | exact ev_tmp rfl | exact ev_int (inR_lit rfl) | exact ev_bool | exact ev_str (str_lit rfl) | exact ev_nil | exact ev_func))
  | (apply qIgeq; (first | exact ev_tmp rfl | exact ev_int (inR_lit rfl) | exact ev_bool | exact ev_str (str_lit rfl) | exact ev_nil | exact ev_func); (first | exact ev_tmp rfl | exact ev_int (inR_lit rfl) | exact ev_bool | exact ev_str (str_lit rfl) | exact ev_nil | exact ev_func))
  | (apply qIeql; (first | exact ev_tmp rfl | exact ev_int (inR_lit rfl) | exact ev_bool | exact ev_str (str_lit rfl) | exact ev_nil | exact ev_func); (first | exact ev_tmp rfl | exact ev_int (inR_lit rfl) | exact ev_bool | exact ev_str (str_lit rfl) | exact ev_nil | exact ev_func))
  | (apply qIneq; (first | exact ev_tmp rfl | exact ev_int (inR_lit rfl) | exact ev_bool | exact ev_str (str_lit rfl) | exact ev_nil | exact ev_func); (first | exact ev_tmp rfl | exact ev_int (inR_lit rfl) | exact ev_bool | exact ev_str (str_lit rfl) | exact ev_nil | exact ev_func))
  | (apply qSeql; (first | exact ev_tmp rfl | exact ev_int (inR_lit rfl) | exact ev_bool | exact ev_str (str_lit rfl) | exact ev_nil | exact ev_func); (first | exact ev_tmp rfl | exact ev_int (inR_lit rfl) | exact ev_bool | exact ev_str (str_lit rfl) | exact ev_nil | exact ev_func))
  | (apply qSneq; (first | exact ev_tmp rfl | exact ev_int (inR_lit rfl) | exact ev_bool | exact ev_str (str_lit rfl) | exact ev_nil | exact ev_func); (first | exact ev_tmp rfl | exact ev_int (inR_lit rfl) | exact ev_bool | exact ev_str (str_lit rfl) | exact ev_nil | exact ev_func))
  | (apply qSlss; (first | exact ev_tmp rfl | exact ev_int (inR_lit rfl) | exact ev_bool | exact ev_str (str_lit rfl) | exact ev_nil | exact ev_func); (first | exact ev_tmp rfl | exact ev_int (inR_lit rfl) | exact ev_bool | exact ev_str (str_lit rfl) | exact ev_nil | exact ev_func))
  | (apply qSleq; (first | exact ev_tmp rfl | exact ev_int (inR_lit rfl) | exact ev_bool | exact ev_str (str_lit rfl) | exact ev_nil | exact ev_func); (first | exact ev_tmp rfl | exact ev_int (inR_lit rfl) | exact ev_bool | exact ev_str (str_lit rfl) | exact ev_nil | exact ev_func))
  | (apply qSgtr; (first | exact ev_tmp rfl | exact ev_int (inR_lit rfl) | exact ev_bool | exact ev_str (str_lit rfl) | exact ev_nil | exact ev_func); (first | exact ev_tmp rfl | exact ev_int (inR_lit rfl) | exact ev_bool | exact ev_str (str_lit rfl) | exact ev_nil | exact ev_func))
  | (apply qSgeq; (first | exact ev_tmp rfl | exact ev_int (inR_lit rfl) | exact ev_bool | exact ev_str (str_lit rfl) | exact ev_nil | exact ev_func); (first | exact ev_tmp rfl | exact ev_int (inR_lit rfl) | exact ev_bool | exact ev_str (str_lit rfl) | exact ev_nil | exact ev_func))
  | (apply qIadd; (first | exact ev_tmp rfl | exact ev_int (inR_lit rfl) | exact ev_bool | exact ev_str (str_lit rfl) | exact ev_nil | exact ev_func); (first | exact ev_tmp rfl | exact ev_int (inR_lit rfl) | exact ev_bool | exact ev_str (str_lit rfl) | exact ev_nil | exact ev_func); omega; omega)
  | (apply qIsub; (first | exact ev_tmp rfl | exact ev_int (inR_lit rfl) | exact ev_bool | exact ev_str (str_lit rfl) | exact ev_nil | exact ev_func); (first | exact ev_tmp rfl | exact ev_int (inR_lit rfl) | exact ev_bool | exact ev_str (str_lit rfl) | exact ev_nil | exact ev_func); omega; omega)
  | (apply qL; (first | exact ev_tmp rfl | exact ev_int (inR_lit rfl) | exact ev_bool | exact ev_str (str_lit rfl) | exact ev_nil | exact ev_func); exact rfl)
  | (apply qL2; (first | exact ev_tmp rfl | exact ev_int (inR_lit rfl) | exact ev_bool | exact ev_str (str_lit rfl) | exact ev_nil | exact ev_func); exact rfl)
  | (apply qL3; (first | exact ev_tmp rfl | exact ev_int (inR_lit rfl) | exact ev_bool | exact ev_str (str_lit rfl) | exact ev_nil | exact ev_func); exact rfl)
  | exact pu_indexD hT rfl rfl rfl (by first | exact ev_tmp rfl | exact ev_int (inR_lit rfl) | exact ev_bool | exact ev_str (str_lit rfl) | exact ev_nil | exact ev_func) (by first | exact ev_tmp rfl | exact ev_int (inR_lit rfl) | exact ev_bool | exact ev_str (str_lit rfl) | exact ev_nil | exact ev_func) (fun _ => rfl) (by omega) (by omega)
  | exact pu_indexS hT rfl rfl (by first | exact ev_tmp rfl | exact ev_int (inR_lit rfl) | exact ev_bool | exact ev_str (str_lit rfl) | exact ev_nil | exact ev_func) (by first | exact ev_tmp rfl | exact ev_int (inR_lit rfl) | exact ev_bool | exact ev_str (str_lit rfl) | exact ev_nil | exact ev_func) (by omega) (by omega)) : Pu P C nt o σ v Ks Bs := hp
theorem zq {g : Bool} (hg : g = true) (hp : Pu P C nt o σ v Ks Bs := by
  first
  | (apply qA; (first | (refine ev_opt rfl ?_; first | exact hg | exact and_l hg | exact and_l (and_l hg) | exact and_l (and_l (and_l hg))) | exact ev_tmp rfl | exact ev_int (inR_lit rfl) | exact ev_bool | exact ev_str (str_lit rfl) | exact ev_nil | exact ev_func))
  | (apply qB; (first | (refine ev_opt rfl ?_; first | exact hg | exact and_l hg | exact and_l (and_l hg) | exact and_l (and_l (and_l hg))) | exact ev_tmp rfl | exact ev_int (inR_lit rfl) | exact ev_bool | exact ev_str (str_lit rfl) | exact ev_nil | exact ev_func))
  | (apply qC; (first | (refine ev_opt rfl ?_; first | exact hg | exact and_l hg | exact and_l (and_l hg) | exact and_l (and_l (and_l hg))) | exact ev_tmp rfl | exact ev_int (inR_lit rfl) | exact ev_bool | exact ev_str (str_lit rfl) | exact ev_nil | exact ev_func); exact rfl; exact rfl)
  | (apply qC2; (first | (refine ev_opt rfl ?_; first | exact hg | exact and_l hg | exact and_l (and_l hg) | exact and_l (and_l (and_l hg))) | exact ev_tmp rfl | exact ev_int (inR_lit rfl) | exact ev_bool | exact ev_str (str_lit rfl) | exact ev_nil | exact ev_func); exact rfl; exact rfl)
  | (apply qC3; (first | (refine ev_opt rfl ?_; first | exact hg | exact and_l hg | exact and_l (and_l hg) | exact and_l (and_l (and_l hg))) | exact ev_tmp rfl | exact ev_int (inR_lit rfl) | exact ev_bool | exact ev_str (str_lit rfl) | exact ev_nil | exact ev_func); exact rfl; exact rfl)
  | (apply qD; exact rfl; (first | (refine ev_opt rfl ?_; first | exact hg | exact and_l hg | exact and_l (and_l hg) | exact and_l (and_l (and_l hg))) | exact ev_tmp rfl | exact ev_int (inR_lit rfl) | exact ev_bool | exact ev_str (str_lit rfl) | exact ev_nil | exact ev_func); exact rfl; exact rfl)
  | (apply qD2; exact rfl; (first | (refine ev_opt rfl ?_; first | exact hg | exact and_l hg | exact and_l (and_l hg) | exact and_l (and_l (and_l hg))) | exact ev_tmp rfl | exact ev_int (inR_lit rfl) | exact ev_bool | exact ev_str (str_lit rfl) | exact ev_nil | exact ev_func); exact rfl; exact rfl)
  | (apply qD3; exact rfl; (first | (refine ev_opt rfl ?_; first | exact hg | exact and_l hg | exact and_l (and_l hg) | exact and_l (and_l (and_l hg))) | exact ev_tmp rfl | exact ev_int (inR_lit rfl) | exact ev_bool | exact ev_str (str_lit rfl) | exact ev_nil | exact ev_func); exact rfl)
  | (apply qD4; exact rfl; (first | (refine ev_opt rfl ?_; first | exact hg | exact and_l hg | exact and_l (and_l hg) | exact and_l (and_l (and_l hg))) | exact ev_tmp rfl | exact ev_int (inR_lit rfl) | exact ev_bool | exact ev_str (str_lit rfl) | exact ev_nil | exact ev_func); exact rfl)
  | (apply qE; (first | (refine ev_opt rfl ?_; first | exact hg | exact and_l hg | exact and_l (and_l hg) | exact and_l (and_l (and_l hg))) | exact ev_tmp rfl | exact ev_int (inR_lit rfl) | exact ev_bool | exact ev_str (str_lit rfl) | exact ev_nil | exact ev_func); exact rfl)
  | (apply qE2; (first | (refine ev_opt rfl ?_; first | exact hg | exact and_l hg | exact and_l (and_l hg) | exact and_l (and_l (and_l hg))) | exact ev_tmp rfl | exact ev_int (inR_lit rfl) | exact ev_bool | exact ev_str (str_lit rfl) | exact ev_nil | exact ev_func); exact rfl)
  | (apply qN; (first | (refine ev_opt rfl ?_; first | exact hg | exact and_l hg | exact and_l (and_l hg) | exact and_l (and_l (and_l hg))) | exact ev_tmp rfl | exact ev_int (inR_lit rfl) | exact ev_bool | exact ev_str (str_lit rfl) | exact ev_nil | exact ev_func))
  | (apply qG; (first | (refine ev_opt rfl ?_; first | exact hg | exact and_l hg | exact and_l (and_l hg) | exact and_l (and_l (and_l hg))) | exact ev_tmp rfl | exact ev_int (inR_lit rfl) | exact ev_bool | exact ev_str (str_lit rfl) | exact ev_nil | exact ev_func); (intro hb; first | (refine ev_opt rfl ?_; first | exact beq_t hb | exact beq_f hb | exact and_mk hg (beq_t hb) | exact and_mk hg (beq_f hb) | exact and_mk (and_l hg) (beq_t hb) | exact and_mk (and_l hg) (beq_f hb) | exact hg | exact and_l hg) | exact ev_tmp rfl | exact ev_int (inR_lit rfl) | exact ev_bool | exact ev_str (str_lit rfl) | exact ev_nil | exact ev_func))
  | (apply qH; (first | (refine ev_opt rfl ?_; first | exact hg | exact and_l hg | exact and_l (and_l hg) | exact and_l (and_l (and_l hg))) | exact ev_tmp rfl | exact ev_int (inR_lit rfl) | exact ev_bool | exact ev_str (str_lit rfl) | exact ev_nil | exact ev_func); (intro hb; first | (refine ev_opt rfl ?_; first | exact beq_t hb | exact beq_f hb | exact and_mk hg (beq_t hb) | exact and_mk hg (beq_f hb) | exact and_mk (and_l hg) (beq_t hb) | exact and_mk (and_l hg) (beq_f hb) | exact hg | exact and_l hg) | exact ev_tmp rfl | exact ev_int (inR_lit rfl) | exact ev_bool | exact ev_str (str_lit rfl) | exact ev_nil | exact ev_func))
  | (apply qIlss; (first | (refine ev_opt rfl ?_; first | exact hg | exact and_l hg | exact and_l (and_l hg) | exact and_l (and_l (and_l hg))) | exact ev_tmp rfl | exact ev_int (inR_lit rfl) | exact ev_bool | exact ev_str (str_lit rfl) | exact ev_nil | exact ev_func); (first | (refine ev_opt rfl ?_; first | exact hg | exact and_l hg | exact and_l (and_l hg) | exact and_l (and_l (and_l hg))) | exact ev_tmp rfl | exact ev_int (inR_lit rfl) | exact ev_bool | exact ev_str (str_lit rfl) | exact ev_nil | exact ev_func))
  | (apply qIleq; (first | (refine ev_opt rfl ?_; first | exact hg | exact and_l hg | exact and_l (and_l hg) | exact and_l (and_l (and_l hg))) | exact ev_tmp rfl | exact ev_int (inR_lit rfl) | exact ev_bool | exact ev_str (str_lit rfl) | exact ev_nil | exact ev_func); (first | (refine ev_opt rfl ?_; first | exact hg | exact and_l hg | exact and_l (and_l hg) | exact and_l (and_l (and_l hg))) | exact ev_tmp rfl | exact ev_int (inR_lit rfl) | exact ev_bool | exact ev_str (str_lit rfl) | exact ev_nil | exact ev_func))
  | (apply qIgtr; (first | (refine ev_opt rfl ?_; first | exact hg | exact and_l hg | exact and_l (and_l hg) | exact and_l (and_l (and_l hg))) | exact ev_tmp rfl | exact ev_int (inR_lit rfl) | exact ev_bool | exact ev_str (str_lit rfl) | exact ev_nil | exact ev_func); (first | (refine ev_opt rfl ?_; first | exact hg | exact and_l hg | exact and_l (and_l hg) | exact and_l (and_l (and_l hg))) | exact ev_tmp rfl | exact ev_int (inR_lit rfl) | exact ev_bool | exact ev_str (str_lit rfl) | exact ev_nil | exact ev_func))
  | (apply qIgeq; (first | (refine ev_opt rfl ?_; first | exact hg | exact and_l hg | exact and_l (and_l hg) | exact and_l (and_l (and_l hg))) | exact ev_tmp rfl | exact ev_int (inR_lit rfl) | exact ev_bool | exact ev_str (str_lit rfl) | exact ev_nil | exact ev_func); (first | (refine ev_opt rfl ?_; first | exact hg | exact and_l hg | exact and_l (and_l hg) | exact and_l (and_l (and_l hg))) | exact ev_tmp rfl | exact ev_int (inR_lit rfl) | exact ev_bool | exact ev_str (str_lit rfl) | exact ev_nil | exact ev_func))
  | (apply qIeql; (first | (refine ev_opt rfl ?_; first | exact hg | exact and_l hg | exact and_l (and_l hg) | exact and_l (and_l (and_l hg))) | exact ev_tmp rfl | exact ev_int (inR_lit rfl) | exact ev_bool | exact ev_str (str_lit rfl) | exact ev_nil | exact ev_func); (first | (refine ev_opt rfl ?_; first | exact hg | exact and_l hg | exact and_l (and_l hg) | exact and_l (and_l (and_l hg))) | exact ev_tmp rfl | exact ev_int (inR_lit rfl) | exact ev_bool | exact ev_str (str_lit rfl) | exact ev_nil | exact ev_func))
  | (apply qIneq; (first | (refine ev_opt rfl ?_; first | exact hg | exact and_l hg | exact and_l (and_l hg) | exact and_l (and_l (and_l hg))) | exact ev_tmp rfl | exact ev_int (inR_lit rfl) | exact ev_bool | exact ev_str (str_lit rfl) | exact ev_nil | exact ev_func); (first | (refine ev_opt rfl ?_; first | exact hg | exact and_l hg | exact and_l (and_l hg) | exact and_l (and_l (and_l hg))) | exact ev_tmp rfl | exact ev_int (inR_lit rfl) | exact ev_bool | exact ev_str (str_lit rfl) | exact ev_nil | exact ev_func))
  | (apply qSeql; (first | (refine ev_opt rfl ?_; first | exact hg | exact and_l hg | exact and_l (and_l hg) | exact and_l (and_l (and_l hg))) | exact ev_tmp rfl | exact ev_int (inR_lit rfl) | exact ev_bool | exact ev_str (str_lit rfl) | exact ev_nil | exact ev_func); (first | (refine ev_opt rfl ?_; first | exact hg | exact and_l hg | exact and_l (and_l hg) | exact and_l (and_l (and_l hg))) | exact ev_tmp rfl | exact ev_int (inR_lit rfl) | exact ev_bool | exact ev_str (str_lit rfl) | exact ev_nil | exact ev_func))
  | (apply qSneq; (first | (refine ev_opt rfl ?_; first | exact hg | exact and_l hg | exact and_l (and_l hg) | exact and_l (and_l (and_l hg))) | exact ev_tmp rfl | exact ev_int (inR_lit rfl) | exact ev_bool | exact ev_str (str_lit rfl) | exact ev_nil | exact ev_func); (first | (refine ev_opt rfl ?_; first | exact hg | exact and_l hg | exact and_l (and_l hg) | exact and_l (and_l (and_l hg))) | exact ev_tmp rfl | exact ev_int (inR_lit rfl) | exact ev_bool | exact ev_str (str_lit rfl) | exact ev_nil | exact ev_func))
  | (apply qSlss; (first | (refine ev_opt rfl ?_; first | exact hg | exact and_l hg | exact and_l (and_l hg) | exact and_l (and_l (and_l hg))) | exact ev_tmp rfl | exact ev_int (inR_lit rfl) | exact ev_bool | exact ev_str (str_lit rfl) | exact ev_nil | exact ev_func); (first | (refine ev_opt rfl ?_; first | exact hg | exact and_l hg | exact and_l (and_l hg) | exact and_l (and_l (and_l hg))) | exact ev_tmp rfl | exact ev_int (inR_lit rfl) | exact ev_bool | exact ev_str (str_lit rfl) | exact ev_nil | exact ev_func))
  | (apply qSleq; (first | (refine ev_opt rfl ?_; first | exact hg | exact and_l hg | exact and_l (and_l hg) | exact and_l (and_l (and_l hg))) | exact ev_tmp rfl | exact ev_int (inR_lit rfl) | exact ev_bool | exact ev_str (str_lit rfl) | exact ev_nil | exact ev_func); (first | (refine ev_opt rfl ?_; first | exact hg | exact and_l hg | exact and_l (and_l hg) | exact and_l (and_l (and_l hg))) | exact ev_tmp rfl | exact ev_int (inR_lit rfl) | exact ev_bool | exact ev_str (str_lit rfl) | exact ev_nil | exact ev_func))
  | (apply qSgtr; (first | (refine ev_opt rfl ?_; first | exact hg | exact and_l hg | exact and_l (and_l hg) | exact and_l (and_l (and_l hg))) | exact ev_tmp rfl | exact ev_int (inR_lit rfl) | exact ev_bool | exact ev_str (str_lit rfl) | exact ev_nil | exact ev_func); (first | (refine ev_opt rfl ?_; first | exact hg | exact and_l hg | exact and_l (and_l hg) | exact and_l (and_l (and_l hg))) | exact ev_tmp rfl | exact ev_int (inR_lit rfl) | exact ev_bool | exact ev_str (str_lit rfl) | exact ev_nil | exact ev_func))
  | (apply qSgeq; (first | (refine ev_opt rfl ?_; first | exact hg | exact and_l hg | exact and_l (and_l hg) | exact and_l (and_l (and_l hg))) | exact ev_tmp rfl | exact ev_int (inR_lit rfl) | exact ev_bool | exact ev_str (str_lit rfl) | exact ev_nil | exact ev_func); (first | (refine ev_opt rfl ?_; first | exact hg | exact and_l hg | exact and_l (and_l hg) | exact and_l (and_l (and_l hg))) | exact ev_tmp rfl | exact ev_int (inR_lit rfl) | exact ev_bool | exact ev_str (str_lit rfl) | exact ev_nil | exact ev_func))
  | (apply qIadd; (first | (refine ev_opt rfl ?_; first | exact hg | exact and_l hg | exact and_l (and_l hg) | exact and_l (and_l (and_l hg))) | exact ev_tmp rfl | exact ev_int (inR_lit rfl) | exact ev_bool | exact ev_str (str_lit rfl) | exact ev_nil | exact ev_func); (first | (refine ev_opt rfl ?_; first | exact hg | exact and_l hg | exact and_l (and_l hg) | exact and_l (and_l (and_l hg))) | exact ev_tmp rfl | exact ev_int (inR_lit rfl) | exact ev_bool | exact ev_str (str_lit rfl) | exact ev_nil | exact ev_func); omega; omega)
  | (apply qIsub; (first | (refine ev_opt rfl ?_; first | exact hg | exact and_l hg | exact and_l (and_l hg) | exact and_l (and_l (and_l hg))) | exact ev_tmp rfl | exact ev_int (inR_lit rfl) | exact ev_bool | exact ev_str (str_lit rfl) | exact ev_nil | exact ev_func); (first | (refine ev_opt rfl ?_; first | exact hg | exact and_l hg | exact and_l (and_l hg) | exact and_l (and_l (and_l hg))) | exact ev_tmp rfl | exact ev_int (inR_lit rfl) | exact ev_bool | exact ev_str (str_lit rfl) | exact ev_nil | exact ev_func); omega; omega)
  | (apply qL; (first | (refine ev_opt rfl ?_; first | exact hg | exact and_l hg | exact and_l (and_l hg) | exact and_l (and_l (and_l hg))) | exact ev_tmp rfl | exact ev_int (inR_lit rfl) | exact ev_bool | exact ev_str (str_lit rfl) | exact ev_nil | exact ev_func); exact rfl)
  | (apply qL2; (first | (refine ev_opt rfl ?_; first | exact hg | exact and_l hg | exact and_l (and_l hg) | exact and_l (and_l (and_l hg))) | exact ev_tmp rfl | exact ev_int (inR_lit rfl) | exact ev_bool | exact ev_str (str_lit rfl) | exact ev_nil | exact ev_func); exact rfl)
  | (apply qL3; (first | (refine ev_opt rfl ?_; first | exact hg | exact and_l hg | exact and_l (and_l hg) | exact and_l (and_l (and_l hg))) | exact ev_tmp rfl | exact ev_int (inR_lit rfl) | exact ev_bool | exact ev_str (str_lit rfl) | exact ev_nil | exact ev_func); exact rfl)
  | exact pu_indexD hT rfl rfl rfl (by first | (refine ev_opt rfl ?_; first | exact hg | exact and_l hg | exact and_l (and_l hg) | exact and_l (and_l (and_l hg))) | exact ev_tmp rfl | exact ev_int (inR_lit rfl) | exact ev_bool | exact ev_str (str_lit rfl) | exact ev_nil | exact ev_func) (by first | (refine ev_opt rfl ?_; first | exact hg | exact and_l hg | exact and_l (and_l hg) | exact and_l (and_l (and_l hg))) | exact ev_tmp rfl | exact ev_int (inR_lit rfl) | exact ev_bool | exact ev_str (str_lit rfl) | exact ev_nil | exact ev_func) (fun _ => rfl) (by first | omega | (simp only [Bool.and_eq_true, Bool.or_eq_true, Bool.or_eq_false_iff, Bool.and_eq_false_iff, Bool.not_eq_true', Bool.not_eq_false', beq_iff_eq, decide_eq_true_eq, decide_eq_false_iff_not] at hg; omega) | (have hh := of_decide_eq_true (beq_tt hg); omega) | (have hh := of_decide_eq_true (beq_tt (and_r hg)); omega)) (by first | omega | (simp only [Bool.and_eq_true, Bool.or_eq_true, Bool.or_eq_false_iff, Bool.and_eq_false_iff, Bool.not_eq_true', Bool.not_eq_false', beq_iff_eq, decide_eq_true_eq, decide_eq_false_iff_not] at hg; omega) | (have hh := of_decide_eq_true (beq_tt hg); omega) | (have hh := of_decide_eq_true (beq_tt (and_r hg)); omega))
  | exact pu_indexS hT rfl rfl (by first | (refine ev_opt rfl ?_; first | exact hg | exact and_l hg | exact and_l (and_l hg) | exact and_l (and_l (and_l hg))) | exact ev_tmp rfl | exact ev_int (inR_lit rfl) | exact ev_bool | exact ev_str (str_lit rfl) | exact ev_nil | exact ev_func) (by first | (refine ev_opt rfl ?_; first | exact hg | exact and_l hg | exact and_l (and_l hg) | exact and_l (and_l (and_l hg))) | exact ev_tmp rfl | exact ev_int (inR_lit rfl) | exact ev_bool | exact ev_str (str_lit rfl) | exact ev_nil | exact ev_func) (by first | omega | (simp only [Bool.and_eq_true, Bool.or_eq_true, Bool.or_eq_false_iff, Bool.and_eq_false_iff, Bool.not_eq_true', Bool.not_eq_false', beq_iff_eq, decide_eq_true_eq, decide_eq_false_iff_not] at hg; omega) | (have hh := of_decide_eq_true (beq_tt hg); omega) | (have hh := of_decide_eq_true (beq_tt (and_r hg)); omega)) (by first | omega | (simp only [Bool.and_eq_true, Bool.or_eq_true, Bool.or_eq_false_iff, Bool.and_eq_false_iff, Bool.not_eq_true', Bool.not_eq_false', beq_iff_eq, decide_eq_true_eq, decide_eq_false_iff_not] at hg; omega) | (have hh := of_decide_eq_true (beq_tt hg); omega) | (have hh := of_decide_eq_true (beq_tt (and_r hg)); omega))) : Pu P C nt o σ v Ks Bs := hp
theorem zr {xs : List Operand} {us : List SV} (ha : ArgSs P C nt σ xs us := by repeat' (first | exact as_nil | refine as_cons (by first | exact ev_tmp rfl | exact ev_int (inR_lit rfl) | exact ev_bool | exact ev_str (str_lit rfl) | exact ev_nil | exact ev_func) ?_ ?_ | exact ag_one ac_dv | exact ag_one (ac_key' rfl rfl) | exact ag_one (ac_nil' rfl rfl) | exact ag_one ac_nest | exact ag_one ac_arg | refine ag_agg ?_ | exact ag_nil | refine ag_cons ?_ ?_ | exact ac_dv | exact ac_key' rfl rfl | exact ac_nil' rfl rfl | exact ac_nest | exact ac_arg)) : ArgSs P C nt σ xs us := ha
theorem zO (h : Ops P C nt Q all rest ⟨(d, v) :: tm, bx, ks⟩) (hg : o.guard = none := by exact rfl) (hd : o.dst = some d := by exact rfl) (hp : Pu P C nt o ⟨tm, bx, ks⟩ v Ks Bs := by
  exact zp) (hk : (Nat.blt d nt && svOk ⟨tm, bx, ks⟩ v) = true := by exact rfl) : Ops P C nt Q all (o :: rest) ⟨tm, bx, ks⟩ := yO hg hd hp hk h
theorem zG (h : Ops P C nt Q all rest ⟨(d, .opt g v) :: tm, bx, ks⟩) (hd : o.dst = some d := by exact rfl) (hG : Gd P C nt ⟨tm, bx, ks⟩ all o g := by first | exact gd_bool rfl rfl rfl rfl rfl | exact gd_opt rfl rfl rfl rfl rfl) (hp : g = true → Pu P C nt o ⟨tm, bx, ks⟩ v Ks Bs := by
  intro hg
  exact zq hg) (hk : (Nat.blt d nt && svOk ⟨tm, bx, ks⟩ v) = true := by exact rfl) : Ops P C nt Q all (o :: rest) ⟨tm, bx, ks⟩ := o_pureG hG hd hp (Bool.and_eq_true_iff.1 hk).1 (Bool.and_eq_true_iff.1 hk).2 h
theorem zD (i : Nat) (h : OpsD P C nt Q all oB oK hd' (listed.setIfInBounds i true) fuel ⟨(d, v) :: tm, bx, ks⟩) (hi : all[i]? = some o := by exact rfl) (hg : o.guard = none := by exact rfl) (hd : o.dst = some d := by exact rfl) (hp : Pu P C nt o ⟨tm, bx, ks⟩ v Ks Bs := by
  exact zp) (hk : (Nat.blt d nt && svOk ⟨tm, bx, ks⟩ v) = true := by exact rfl) (h1 : (Ks.all fun k => oK.contains k) = true := by exact rfl) (h2 : (Bs.all fun k => oB.contains k) = true := by exact rfl) (ht : takeB .any all hd' listed i = true := by kernel_rfl) : OpsD P C nt Q all oB oK hd' listed (fuel + 1) ⟨tm, bx, ks⟩ := d_take i hi ht hg hd hp h1 h2 (Bool.and_eq_true_iff.1 hk).1 (Bool.and_eq_true_iff.1 hk).2 h
theorem zDG (i : Nat) (h : OpsD P C nt Q all oB oK hd' (listed.setIfInBounds i true) fuel ⟨(d, .opt g v) :: tm, bx, ks⟩) (hi : all[i]? = some o := by exact rfl) (hd : o.dst = some d := by exact rfl) (hG : Gd P C nt ⟨tm, bx, ks⟩ all o g := by first | exact gd_bool rfl rfl rfl rfl rfl | exact gd_opt rfl rfl rfl rfl rfl) (hp : g = true → Pu P C nt o ⟨tm, bx, ks⟩ v Ks Bs := by
  intro hg
  exact zq hg) (hk : (Nat.blt d nt && svOk ⟨tm, bx, ks⟩ v) = true := by exact rfl) (h1 : (Ks.all fun k => oK.contains k) = true := by exact rfl) (h2 : (Bs.all fun k => oB.contains k) = true := by exact rfl) (ht : takeB .any all hd' listed i = true := by kernel_rfl) : OpsD P C nt Q all oB oK hd' listed (fuel + 1) ⟨tm, bx, ks⟩ := d_takeG i hi ht hG hd hp h1 h2 (Bool.and_eq_true_iff.1 hk).1 (Bool.and_eq_true_iff.1 hk).2 h
theorem zDX (i : Nat) (h : OpsD P C nt Q all oB oK hd' (listed.setIfInBounds i true) fuel ⟨(d, v) :: tm, bx, ks⟩) (hi : all[i]? = some o := by exact rfl) (hg : o.guard = none := by exact rfl) (hd : o.dst = some d := by exact rfl) (hp : Pu P C nt o ⟨tm, bx, ks⟩ v Ks Bs := by
  exact zp) (hk : (Nat.blt d nt && svOk ⟨tm, bx, ks⟩ v) = true := by exact rfl) (hx : extO o = true := by exact rfl) (ht : takeXB .any all hd' listed i = true := by kernel_rfl) : OpsD P C nt Q all oB oK hd' listed (fuel + 1) ⟨tm, bx, ks⟩ := d_takeX i hi ht hx hg hd hp (Bool.and_eq_true_iff.1 hk).1 (Bool.and_eq_true_iff.1 hk).2 h
theorem zN {nK : List Nat} (i : Nat) (h : OpsN P C nt Q all oB oK nK hd' (listed.setIfInBounds i true) fuel ⟨(d, v) :: tm, bx, ks⟩) (hi : all[i]? = some o := by exact rfl) (hg : o.guard = none := by exact rfl) (hd : o.dst = some d := by exact rfl) (hp : Pu P C nt o ⟨tm, bx, ks⟩ v Ks Bs := by
  exact zp) (hk : (Nat.blt d nt && svOk ⟨tm, bx, ks⟩ v) = true := by exact rfl) (h1 : (Ks.all fun k => oK.contains k) = true := by exact rfl) (h2 : (Bs.all fun k => oB.contains k) = true := by exact rfl) (ht : takeB .any all hd' listed i = true := by kernel_rfl) : OpsN P C nt Q all oB oK nK hd' listed (fuel + 1) ⟨tm, bx, ks⟩ := n_take i hi ht hg hd hp h1 h2 (Bool.and_eq_true_iff.1 hk).1 (Bool.and_eq_true_iff.1 hk).2 h
theorem zC {f : FuncId} {xs : List Operand} {ats : Array TypeId} {us : List SV} (hc : ∀ (args : Array Value) (w : World), (callFunc f args).run P w = .ok (.enter f args) w) (h : Ops P C nt Q all rest ⟨(d, X) :: tm, bx, ks⟩) (hg : o.guard = none := by exact rfl) (hd : o.dst = some d := by exact rfl) (ho : o.op = .call { callee := .value (.func f), args := xs.toArray, argTypes := ats } := by exact rfl)
  (ha : ArgSs P C nt ⟨tm, bx, ks⟩ xs us := by exact zr) (hf : PFn P f us X) (hp : X.plain = true := by exact rfl) (hn : Nat.blt d nt = true := by exact rfl) : Ops P C nt Q all (o :: rest) ⟨tm, bx, ks⟩ := o_call hg hd ho hc hf ha hp hn h
theorem zK {f : FuncId} {xs : List Operand} {ats : Array TypeId} {us : List SV} {kk : List (Nat × Option KC)} (m : Nat) (hc : ∀ (args : Array Value) (w : World), (callFunc f args).run P w = .ok (.enter f args) w) (h : Ops P C nt Q all rest ⟨(d, v.sh m) :: tm, bx, shK m kk ++ ks⟩) (hg : o.guard = none := by exact rfl) (hd : o.dst = some d := by exact rfl) (ho : o.op = .call { callee := .value (.func f), args := xs.toArray, argTypes := ats } := by exact rfl)
  (ha : ArgSs P C nt ⟨tm, bx, ks⟩ xs us := by exact zr) (hf : KFn P f us v kk) (hn : Nat.blt d nt = true := by exact rfl) (hres : v.retOk = true := by exact rfl) (hfree : (kk.all fun q => (lkk ⟨tm, bx, ks⟩ (m + q.1)).isNone) = true := by exact rfl) : Ops P C nt Q all (o :: rest) ⟨tm, bx, ks⟩ := o_callK m hg hd ho hc hf ha hn hres hfree h
theorem z {p q : Prop} (h : q) (s : q → p := by
  first
  | with_reducible exact yN
  | with_reducible exact yR
  | with_reducible exact ok_seq
  | with_reducible exact then_n
  | with_reducible exact ok_ret
  | with_reducible exact then_r
  | with_reducible exact ok_skip
  | with_reducible exact ok_block
  | with_reducible exact then_e
  | with_reducible exact ok_exit
  | with_reducible exact blk_r
  | with_reducible exact blk_n
  | (with_reducible refine fun h => blk_e ?_ h) <;> exact rfl
  | (with_reducible refine fun h => blk_o ?_ h) <;> exact rfl
  | exact fun h => yA rfl rfl rfl h
  | exact fun h => yX rfl rfl rfl rfl rfl rfl h
  | exact fun h => o_alloc hT rfl rfl rfl rfl rfl rfl h
  | exact fun h => yS hT rfl rfl rfl rfl rfl rfl rfl rfl h
  | exact fun h => zO h
  | exact fun h => zG h
  | exact yN
  | exact fun h => fin1 (res_tmp rfl) (eqB h)
  | exact fun h => fin1 (res_tmp rfl) (eqI h)
  | exact fun h => fin1 (res_tmp rfl) (eqS h)
  | exact fun h => fin1n (res_tmp rfl) (eqB h)
  | exact fun h => fin1n (res_tmp rfl) (eqI h)
  | exact fun h => fin1n (res_tmp rfl) (eqS h)) : p := s h
end
end Go.Proofs.YtdjlikknmbjjgaaGreat

