/-
  The rules of a small program logic over abstract states: no program is in sight but in the table of its types. Conditions: none.
-/
import Derived.Ground.NamesProg
import Derived.Laws.CopyRow
import Derived.Laws.Externs
import Derived.Lib.AppendZerosOnto
import Derived.Lib.Overlaps
import Derived.Lib.OwnBridge
import Derived.Lib.SlicesCompact
import Derived.LoopN
import Derived.Shelf.RegionOpenPlain
import Derived.Shelf.Slices.CompactS
import Derived.Shelf.Slices.In.SortNone
import Derived.Shelf.Sort.Plain
import Derived.Shelf.Spec.SlicesInsert
import Derived.Sort.OwnSorted
import Derived.Sort.Walk0
import Derived.Test.YteellmjlalgjaaaGreatProg
import Derived.Test.YteellmjlalgjaaaGreatU2
namespace Go.Proofs.YteellmjlalgjaaaGreat
open Go.RowKit
open Go.Proofs
set_option linter.unusedVariables false
set_option linter.unusedSimpArgs false
section
variable {P : Program} {C : Ctx} {nt : Nat} {σ : St} {L : Lyt} {a : Act} {w : World} {o : Oper} {x y u : Operand} {T : TT}
theorem b4k (hr : Rel P C nt L σ a w) {k : Nat} {c : KC} (hk : lkk σ k = some c) : (L.rv k = .slice none 0 0 ∧ c.n = 0) ∨ ∃ g cap, L.rv k = .slice (some ⟨g, 0, none⟩) c.n cap ∧ c.n ≤ cap := by
 have ho := (hr.ks k c hk).1
 simp only [Own] at ho
 obtain ⟨vs, f, _, _, _, q4, _⟩ := ho
 rcases (a5o q4).2 with ⟨g1, g2⟩ | ⟨g, cap, cur, t, fz, g1, g2, g3, g4, g5, g6⟩
 ·exact .inl ⟨g1, g2⟩
 ·exact .inr ⟨g, cap, g1, g3⟩
theorem a8O (hr : Rel P C nt L σ a w) {k : Nat} {c : KC} (hk : lkk σ k = some c) (hE : c.e < 1000000) : 0 < c.sz ∧ c.cs.length = c.n * c.sz ∧ ((L.rv k = .slice none 0 0 ∧ c.n = 0) ∨
  ∃ g cap cur vs f, L.rv k = .slice (some ⟨g, 0, none⟩) c.n cap ∧ w.heap[g]? = some (.cells cur c.e (0, 0)) ∧ c.n ≤ cap ∧ cap ≤ maxLen ∧ cur.size = cap * c.sz ∧ cur.toList.take (c.n * c.sz) = vs ∧ L.fp k = g :: f ∧ a0N w c.cs vs f) := by
 have ho := (hr.ks k c hk).1
 simp only [Own] at ho
 obtain ⟨vs, f, q1, q2, q3, q4, q5⟩ := ho
 refine ⟨q2, q3, ?_⟩
 rcases (q4.1 hE).2 with ⟨g1, g2⟩ | ⟨g, cap, cur, g1, _, g3, g4, g5, g6, g7⟩
 ·exact .inl ⟨g1, g2⟩
 ·exact .inr ⟨g, cap, cur, vs, f, g1, g3, g4, g5, g6, g7, by rw [q1, g1]; simp [Value.ownBlock], q5⟩
theorem b7s {j sz lo hi : Nat} {c2 : KC} (hs : SlOk P C nt σ o j sz lo hi) (hj : lkk σ j = some c2) : Pu P C nt o σ (.ksl j lo hi sz) [] [] := Pu.mk fun L a w hr => by
 rcases b4k hr hj with ⟨h, _⟩ | ⟨g, cap, h, _⟩
 ·exact ⟨_, by simp only [SVr]; exact ⟨_, _, _, h, rfl⟩, fun w' _ => hs.run L a w hr _ _ _ h w'⟩
 ·exact ⟨_, by simp only [SVr]; exact ⟨_, _, _, h, rfl⟩, fun w' _ => hs.run L a w hr _ _ _ h w'⟩
theorem c4R {A : Option Addr} {n c sz : Nat} {hi : Nat} (h : A = none ∨ ∃ g, A = some ⟨g, 0, none⟩) : sliced A 0 hi c sz = .slice A hi c := by
 rcases h with rfl | ⟨g, rfl⟩
 ·simp [sliced]
 ·by_cases hc : c = 0
  ·simp [sliced, hc]
  ·simp [sliced, hc, Addr.add]
theorem c2E (hr : Rel P C nt L σ a w) {k : Nat} {c : KC} (hk : lkk σ k = some c) {A : Option Addr} {n cap : Nat} (h : L.rv k = .slice A n cap) : (A = none ∨ ∃ g, A = some ⟨g, 0, none⟩) ∧ n = c.n ∧ c.n ≤ cap := by
 rcases b4k hr hk with ⟨h1, h2⟩ | ⟨g, cap', h1, h2⟩
 ·rw [h] at h1
  simp only [Value.slice.injEq] at h1
  obtain ⟨rfl, rfl, rfl⟩ := h1
  exact ⟨.inl rfl, h2.symm, by omega⟩
 ·rw [h] at h1
  simp only [Value.slice.injEq] at h1
  obtain ⟨rfl, rfl, rfl⟩ := h1
  exact ⟨.inr ⟨g, rfl⟩, rfl, h2⟩
theorem c3e (hT : TTOk P T) {t e sz by_ j n hi : Nat} {zc : List CV} {c2 : KC} {J : List Nat} {z : Int} (ho : o.op = .slice t x none (some y) none) (h : look T.sl t = some e) (he : look T.el e = some (sz, by_, zc)) (hx : Ev P C nt σ x (.one (.key j))) (hj : lkk σ j = some c2) (hy : Ev P C nt σ y (.one (.dv J (.int .i64 z)))) (hn : c2.n = n) (hh : z.toNat = hi) (h0 : 0 ≤ z) (h1 : z ≤ n) : Pu P C nt o σ (.ksl j 0 hi sz) [] [] := by
 subst hn; subst hh
 exact b7s (b3r hT ho h he hx hj hy h0 h1) hj
theorem c1b (hT : TTOk P T) {t e sz by_ j n lo : Nat} {zc : List CV} {c2 : KC} {J : List Nat} {z : Int} (ho : o.op = .slice t x (some y) none none) (h : look T.sl t = some e) (he : look T.el e = some (sz, by_, zc)) (hx : Ev P C nt σ x (.one (.key j))) (hj : lkk σ j = some c2) (hy : Ev P C nt σ y (.one (.dv J (.int .i64 z)))) (hn : c2.n = n) (hl : z.toNat = lo) (h0 : 0 ≤ z) (h1 : z ≤ n) : Pu P C nt o σ (.ksl j lo n sz) [] [] := by
 subst hn; subst hl
 exact b7s (b1T hT ho h he hx hj hy h0 h1) hj
theorem Rel.wrow (hr : Rel P C nt L σ a w) {k g cap off : Nat} {c : KC} {cur : Array Value} {us : List Value} {cs' : List DV} {f' : List Nat} (hk : lkk σ k = some c) (hE : c.e < 1000000) (e1 : L.rv k = .slice (some ⟨g, 0, none⟩) c.n cap) (hg : w.heap[g]? = some (.cells cur c.e (0, 0))) (hnc : c.n ≤ cap) (hcm : cap ≤ maxLen) (hsz : cur.size = cap * c.sz) (hpos : 0 < c.sz)
  (hle : off + us.length ≤ c.n * c.sz) (hown : a0N w cs' (a1c off us (cur.toList.take (c.n * c.sz))) f') (hf : ∀ b ∈ f', b ∈ L.fp k ∧ b ≠ g) (hgk : g ∈ L.fp k) (hn : f'.Nodup) (hl : cs'.length = c.n * c.sz) :
  Rel P C nt { L with fp := fun i => if i = k then g :: f' else L.fp i, rv := fun i => if i = k then L.rv k else L.rv i } (σ.mut k [] true { c with cs := cs' }) a (w.setRow g (a1c off us cur.toList).toArray) := by
 let w' := w.setRow g (a1c off us cur.toList).toArray
 have hchg : Chg [g] w w' := a7A w g _
 have hle2 : c.n * c.sz ≤ cap * c.sz := Nat.mul_le_mul_right _ hnc
 have hcl : c.n * c.sz ≤ cur.toList.length := by rw [Array.length_toList, hsz]; exact hle2
 have hown2 : a0N w' cs' (a1c off us (cur.toList.take (c.n * c.sz))) f' := a3g _ _ _ hown (fun b hb => hchg.block b (hr.k_lt hk b (hf b hb).1) (by simpa using (hf b hb).2))
 have hown' : Own w' (.sl c.e c.sz c.n cs') (L.rv k) (g :: f') := by
  unfold Own
  refine ⟨_, f', by rw [e1]; simp [Value.ownBlock], hpos, hl, ?_, hown2⟩
  rw [e1]
  refine a3H hE ⟨by rw [a5T (by rw [c5t]; omega), c5t]; omega, .inr ⟨g, cap, (a1c off us cur.toList).toArray, rfl, Nat.zero_le _, setRow_heap _ _ _ _ _ _ hg, hnc, hcm, ?_, ?_⟩⟩
  ·rw [List.size_toArray, a5T (by omega), Array.length_toList, hsz]
  ·rw [List.toList_toArray]
   unfold a1c
   apply List.ext_getElem?
   intro i
   simp only [List.getElem?_take, List.getElem?_append, List.getElem?_drop, c5s, c5t]
   have hm1 : min off cur.toList.length = off := by omega
   have hm2 : min off (min (c.n * c.sz) cur.toList.length) = off := by omega
   rw [hm1, hm2]
   by_cases hi : i < c.n * c.sz
   ·simp only [hi, if_true]
    by_cases hi2 : i < off + us.length
    ·simp only [hi2, if_true]
    ·simp only [hi2, if_false]
     have : off + us.length + (i - (off + us.length)) < c.n * c.sz := by omega
     simp only [this, if_true]
   ·have h9 : ¬ i < off + us.length := by omega
    have h10 : ¬ i < off := by omega
    have h11 : ¬ off + us.length + (i - (off + us.length)) < c.n * c.sz := by omega
    simp only [hi, h9, h11, if_false]
 refine hr.setkey hk (by simp) (hchg.mono (by simpa using hgk)) hown' ?_ ?_ (by simp) (fun _ => rfl) (fun e => ⟨e, rfl⟩)
 ·rw [List.nodup_cons]
  exact ⟨fun hm => (hf g hm).2 rfl, hn⟩
 ·intro b hb
  rcases List.mem_cons.1 hb with rfl | hb
  ·exact .inl hgk
  ·exact .inl (hf b hb).1
theorem a5P {α : Type} {A B us D : List α} {off : Nat} (ho : off = A.length) (hB : us.length = B.length) : a1c off us (A ++ (B ++ D)) = A ++ (us ++ D) := by
 subst ho
 unfold a1c
 rw [List.take_left, hB, ← List.append_assoc A B D, ← c5s, List.drop_left, List.append_assoc]
theorem b2f {k g n cap : Nat} (e1 : L.rv k = .slice (some ⟨g, 0, none⟩) n cap) : ∀ {ds : List DV} {vs us : List Value} {f : List Nat} {off : Nat}, a0N w ds vs f → CVL C L w (a3d k off ds) us → (∀ j u, vs[j]? = some u → w.cell? ⟨g, off + j, none⟩ = some u) → a0N w ds us f
 | [], _, _, _, _, h, hc, _ => by
  simp only [a3d, CVL] at hc
  simp only [a0N] at h ⊢
  exact ⟨hc, h.2⟩
 | d :: ds, _, _, _, off, h, hc, hcell => by
  simp only [a0N] at h
  obtain ⟨v, vs', f1, f2, rfl, rfl, h1, h2⟩ := h
  simp only [a3d, CVL] at hc
  obtain ⟨u, us', rfl, k1, k2⟩ := hc
  have hrest := b2f e1 h2 k2 (fun j z hz => by have := hcell (j + 1) z (by simpa using hz); rwa [show off + 1 + j = off + (j + 1) by omega])
  simp only [a0N]
  refine ⟨u, us', f1, f2, rfl, rfl, ?_, hrest⟩
  cases hp : d.plain with
  | true =>
   simp only [dvE, hp, cond_true, CVr] at k1
   have := a8u (w' := w) hp k1
   have hf : f1 = [] := by
    cases d with
    | int => simp only [Own] at h1; exact h1.2.2
    | bool => simp only [Own] at h1; exact h1.2
    | str => simp only [Own] at h1; exact h1.2.2
    | sl => simp [DV.plain] at hp
    | hole => simp only [Own] at h1; exact h1.2
   rw [hf]; exact this
  | false =>
   simp only [dvE, hp, cond_false, CVr] at k1
   obtain ⟨_, g', n', c', e2, _, e3⟩ := k1
   rw [e1] at e2
   simp only [Value.slice.injEq, Option.some.injEq, Addr.mk.injEq, and_true, true_and] at e2
   obtain ⟨rfl, _, _⟩ := e2
   have := hcell 0 v rfl
   rw [Nat.add_zero, e3] at this
   simp only [Option.some.injEq] at this
   rw [this]; exact h1
theorem c3Y (hT : TTOk P T) {t k off src sz by_ : Nat} {zc : List CV} {c : KC} {ds : List DV} (ho : o.op = .store t x y) (hd : o.dst = none) (ht : look T.el t = some (sz, by_, zc)) (hx : Ev P C nt σ x (.eptr k off)) (hy : Ev P C nt σ y (.agg (a3d k src ds)))
  (hk : lkk σ k = some c) (hE : Nat.blt c.e 1000000 = true) (hds : sub src sz c.cs = ds) (hlt : off + sz ≤ src) (hle : src + sz ≤ c.cs.length) : Ef P C nt o σ (fun σ' => σ' = σ.mut k [] true { c with cs := a1c off ds (a1c src (List.replicate sz .hole) c.cs) }) := Ef.mk fun L a w hr K Q hK => by
 have hE' : c.e < 1000000 := by simpa [Nat.blt_eq] using hE
 have hdl : ds.length = sz := by rw [← hds, a4B _ _ _ hle]
 have hkv : a1p σ (.agg (a3d k src ds)) = true := by
  simp only [a1p, SV.keys, SV.boxes, List.all_nil, Bool.and_true, List.all_eq_true]
  intro j hj
  rw [b1u j hj, hk]; rfl
 obtain ⟨us, h1, h2, h3⟩ := a4R (p := (true, a3d k src ds)) hr rfl hkv (hy.run L a w hr)
 have h4 := hx.run L a w hr
 simp only [SVr] at h4
 obtain ⟨g0, n0, cap0, e1, e2⟩ := h4
 obtain ⟨hpos, hcl, hro⟩ := a8O hr hk hE'
 rcases hro with ⟨e3, _⟩ | ⟨g, cap, cur, vs, f, e3, hg, hnc, hcm, hsz, htake, hfp, hown⟩
 ·rw [e1] at e3; cases e3
 rw [e1] at e3
 simp only [Value.slice.injEq, Option.some.injEq, Addr.mk.injEq, and_true, true_and] at e3
 obtain ⟨rfl, rfl, rfl⟩ := e3
 obtain ⟨inf, z, g1, g2, _⟩ := hT.el t sz by_ zc ht
 have hvl : vs.length = c.cs.length := a2n _ _ _ hown
 have hcur : c.cs.length ≤ cur.toList.length := by rw [hcl, Array.length_toList, hsz]; exact Nat.mul_le_mul_right _ hnc
 have hdvl : ∀ (ds : List DV) (off : Nat), (a3d k off ds).length = ds.length := fun ds => by
  induction ds with
  | nil => intro _; rfl
  | cons d ds ih => intro off; simp [a3d, ih]
 have hus : us.length = sz := by rw [a3f h2]; simp only [hdvl, hdl]
 have hcell : ∀ j v, vs[j]? = some v → w.cell? ⟨g0, j, none⟩ = some v := fun j v hj => by
  rw [cell_of_row w g0 j cur c.e (0, 0) hg]
  rw [← htake, List.getElem?_take] at hj
  split at hj
  ·simpa using hj
  ·cases hj
 -- the parts
 have hX : c.cs = c.cs.take off ++ ((c.cs.drop off).take sz ++ (((c.cs.drop (off + sz)).take (src - (off + sz))) ++ (ds ++ c.cs.drop (src + sz)))) := by
  rw [← hds]
  unfold sub
  have q1 : (c.cs.drop src).take sz ++ c.cs.drop (src + sz) = c.cs.drop src := by rw [← List.drop_drop, List.take_append_drop]
  rw [q1]
  have q2 : (c.cs.drop (off + sz)).take (src - (off + sz)) ++ c.cs.drop src = c.cs.drop (off + sz) := by
   have : c.cs.drop src = (c.cs.drop (off + sz)).drop (src - (off + sz)) := by rw [List.drop_drop]; congr 1; omega
   rw [this, List.take_append_drop]
  rw [q2, ← List.drop_drop, List.take_append_drop, List.take_append_drop]
 obtain ⟨A, hA⟩ : ∃ A, A = c.cs.take off := ⟨_, rfl⟩
 obtain ⟨B, hB⟩ : ∃ B, B = (c.cs.drop off).take sz := ⟨_, rfl⟩
 obtain ⟨M, hM⟩ : ∃ M, M = (c.cs.drop (off + sz)).take (src - (off + sz)) := ⟨_, rfl⟩
 obtain ⟨D, hD⟩ : ∃ D, D = c.cs.drop (src + sz) := ⟨_, rfl⟩
 have lA : A.length = off := by rw [hA, c5t]; omega
 have lB : B.length = sz := by rw [hB, c5t, List.length_drop]; omega
 have lM : M.length = src - (off + sz) := by rw [hM, c5t, List.length_drop]; omega
 rw [← hA, ← hB, ← hM, ← hD] at hX
 have hown2 := hown
 rw [hX] at hown2
 obtain ⟨v1, r1, f1, s1, rfl, rfl, o1, t1⟩ := a4N _ _ _ _ hown2
 obtain ⟨v2, r2, f2, s2, rfl, rfl, o2, t2⟩ := a4N _ _ _ _ t1
 obtain ⟨v3, r3, f3, s3, rfl, rfl, o3, t3⟩ := a4N _ _ _ _ t2
 obtain ⟨v4, v5, f4, f5, rfl, rfl, o4, o5⟩ := a4N _ _ _ _ t3
 have l1 := a2n _ _ _ o1
 have l2 := a2n _ _ _ o2
 have l3 := a2n _ _ _ o3
 have l4 := a2n _ _ _ o4
 have o4' : a0N w ds us f4 := b2f e1 o4 h2 (fun j v hj => hcell (src + j) v (by
  have hj' := (List.getElem?_eq_some_iff.1 hj).1
  rw [List.getElem?_append_right (by omega), List.getElem?_append_right (by omega), List.getElem?_append_right (by omega), List.getElem?_append_left (by omega), show src + j - v1.length - v2.length - v3.length = j by omega]
  exact hj))
 have one4 : ∀ v ∈ v4, v.oneCell' = true := a8i (ok := fun _ => True) _ _ (a7x _ _ _ o4 (fun _ _ => trivial))
 have o4h : a0N w (List.replicate sz .hole) v4 [] := by
  have := a9z (w := w) v4 one4
  rwa [l4, hdl] at this
 have hnew : a0N w (A ++ (ds ++ (M ++ (List.replicate sz .hole ++ D)))) (v1 ++ (us ++ (v3 ++ (v4 ++ v5)))) (f1 ++ (f4 ++ (f3 ++ ([] ++ f5)))) :=
  a3h _ _ _ _ _ _ o1 (a3h _ _ _ _ _ _ o4' (a3h _ _ _ _ _ _ o3 (a3h _ _ _ _ _ _ o4h o5)))
 have ecs : a1c off ds (a1c src (List.replicate sz .hole) c.cs) = A ++ (ds ++ (M ++ (List.replicate sz .hole ++ D))) := by
  have q1 : a1c src (List.replicate sz DV.hole) c.cs = A ++ (B ++ (M ++ (List.replicate sz .hole ++ D))) := by
   have := a5P (A := A ++ (B ++ M)) (B := ds) (us := List.replicate sz DV.hole) (D := D) (off := src) (by simp only [c5s]; omega) (by simp [hdl])
   simp only [List.append_assoc] at this
   rw [hX]; exact this
  rw [q1]
  exact a5P lA.symm (by omega)
 have evs : a1c off us (cur.toList.take (c.n * c.sz)) = v1 ++ (us ++ (v3 ++ (v4 ++ v5))) := by
  rw [htake]
  exact a5P (by omega) (by omega)
 have hnd := hr.kn k c hk
 rw [hfp, List.nodup_cons] at hnd
 have hperm : (f1 ++ (f4 ++ (f3 ++ ([] ++ f5)))).Nodup := by
  have hs : (f1 ++ (f3 ++ (f4 ++ f5))).Sublist (f1 ++ (f2 ++ (f3 ++ (f4 ++ f5)))) := List.Sublist.append (List.Sublist.refl _) (List.sublist_append_right _ _)
  have hn2 := hs.nodup hnd.2
  refine (List.Perm.nodup_iff ?_).1 hn2
  refine List.Perm.append_left _ ?_
  rw [List.nil_append, ← List.append_assoc, ← List.append_assoc]
  exact List.Perm.append_right _ List.perm_append_comm
 have hsub : ∀ b ∈ f1 ++ (f4 ++ (f3 ++ ([] ++ f5))), b ∈ f1 ++ (f2 ++ (f3 ++ (f4 ++ f5))) := fun b hb => by
  simp only [List.mem_append, List.nil_append] at hb ⊢
  rcases hb with h | h | h | h
  ·exact .inl h
  ·exact .inr (.inr (.inr (.inl h)))
  ·exact .inr (.inr (.inl h))
  ·exact .inr (.inr (.inr (.inr h)))
 have hrun := a7n (P := P) (vs := cur.toList) (z := z) (off := off) (t' := c.e) g1 g2 h1 hus h3 (by simpa using hg) (by omega)
 have hrel := hr.wrow (off := off) (us := us) (cs' := a1c off ds (a1c src (List.replicate sz .hole) c.cs)) (f' := f1 ++ (f4 ++ (f3 ++ ([] ++ f5)))) hk hE' e1 hg hnc hcm hsz hpos (by rw [← hcl]; omega) (by rw [evs, ecs]; exact hnew)
  (fun b hb => ⟨by rw [hfp]; exact List.mem_cons_of_mem _ (hsub b hb), fun e => hnd.1 (by rw [← e]; exact hsub b hb)⟩) (by rw [hfp]; simp) hperm (by rw [a5T (by rw [a5T (by simp; omega)]; omega), a5T (by simp; omega)]; exact hcl)
 unfold Oper.wp execOp
 simp only [ho, e2, Sem.run_bind, hrun, Result.andThen_ok, Sem.run_pure, Oper.upon, hd, Act.put]
 exact hK _ _ _ _ rfl hrel
theorem c3u (hT : TTOk P T) {t e k lo hi sz by_ : Nat} {zc : List CV} {c : KC} (ho : o.op = .call { callee := .builtin .clear, args := #[x], argTypes := #[t] }) (hd : o.dst = none) (ht : look T.sl t = some e) (he : look T.el e = some (sz, by_, zc)) (hl0 : zc.length = sz) (hx : Ev P C nt σ x (.ksl k lo hi sz))
  (hk : lkk σ k = some c) (hce : c.e = e) (hcs : c.sz = sz) (hlh : lo ≤ hi) (hhi : hi ≤ c.n) : Ef P C nt o σ (fun σ' => σ' = σ.mut k [] true { c with cs := a1c (lo * sz) (List.replicate ((hi - lo) * sz) .hole) c.cs }) := Ef.mk fun L a w hr K Q hK => by
 subst hce; subst hcs
 have hE' : c.e < 1000000 := hT.lt _ _ he
 have h4 := hx.run L a w hr
 simp only [SVr] at h4
 obtain ⟨A, n0, cap0, e1, e2⟩ := h4
 obtain ⟨hpos, hcl, hro⟩ := a8O hr hk hE'
 obtain ⟨inf, z, g1, g2, g3, g4, g5⟩ := hT.el c.e c.sz by_ zc he
 obtain ⟨_, _, z1⟩ := a8P (C := C) (L := L) (w := w) g5
 have hzs : z.cells.size = c.sz := by have := a6H g5; simp only [Array.length_toList] at this; rw [this, hl0]
 have hzv : ∀ w, (zeroValue c.e).run P w = .ok z w := fun w => by simp [zeroValue, typeInfo, g1, g4]
 have hm1 : (hi - lo) * c.sz + lo * c.sz = hi * c.sz := by rw [← Nat.add_mul]; congr 1; omega
 have hm2 : hi * c.sz ≤ c.n * c.sz := Nat.mul_le_mul_right _ hhi
 -- nothing to clear
 have same : hi = lo → Rel P C nt L (σ.mut k [] true { c with cs := a1c (lo * c.sz) (List.replicate ((hi - lo) * c.sz) .hole) c.cs }) a w := fun h => by
  have : a1c (lo * c.sz) (List.replicate ((hi - lo) * c.sz) DV.hole) c.cs = c.cs := by
   subst h
   simp [a1c]
  rw [this]
  have := hr.setkey (k := k) (c := c) (c' := c) (js := []) (same := true) (v' := L.rv k) (f' := L.fp k) hk (by simp) ((Chg.refl [] w).mono (by simp)) (hr.ks k c hk).1 (hr.kn k c hk) (fun b hb => .inl hb) (by simp) (fun _ => rfl) (fun h => ⟨h, rfl⟩)
  have eL : ({ L with fp := fun i => if i = k then L.fp k else L.fp i, rv := fun i => if i = k then L.rv k else L.rv i } : Lyt) = L := by
   cases L
   simp only [Lyt.mk.injEq, true_and]
   constructor <;> (funext i; split <;> simp_all)
  rwa [eL] at this
 have hclr0 : ∀ A c', (Builtin.clear_ #[t] o.type #[.slice A 0 c']).run P w = .ok (.tuple #[]) w := fun A c' => by
  cases A <;> simp [Builtin.clear_, run_underlying (hT.sl t c.e ht)]
 rcases Nat.eq_or_lt_of_le hlh with heq | hlt
 ·have e3 : a.eval x = .slice (if cap0 = lo then A else A.map (·.add (lo * c.sz))) 0 (cap0 - lo) := by rw [e2, sliced, heq, Nat.sub_self]
  unfold Oper.wp execOp
  simp only [ho, resolve, invoke, builtin, Sem.run_bind, Sem.run_pure, Result.andThen_ok, List.map_toArray, List.map_cons, List.map_nil, e3, hclr0, Oper.upon, hd, Act.put]
  exact hK _ _ _ _ rfl (same heq.symm)
 rcases hro with ⟨e3, h0⟩ | ⟨g, cap, cur, vs, f, e3, hg, hnc, hcm, hsz, htake, hfp, hown⟩
 ·omega
 rw [e1] at e3
 simp only [Value.slice.injEq] at e3
 obtain ⟨rfl, rfl, rfl⟩ := e3
 have hcur : c.n * c.sz ≤ cur.toList.length := by rw [Array.length_toList, hsz]; exact Nat.mul_le_mul_right _ hnc
 have hvl : vs.length = c.n * c.sz := by rw [a2n _ _ _ hown, hcl]
 obtain ⟨zs, hzz⟩ : ∃ zs, zs = (Builtin.zeroCells z.cells (hi - lo)).toList := ⟨_, rfl⟩
 have hzl : zs.length = (hi - lo) * c.sz := by rw [hzz]; simp [Builtin.zeroCells, hzs]
 have hz1 : ∀ v ∈ zs, v.oneCell' = true := fun v hv => by
  rw [hzz] at hv
  simp only [Builtin.zeroCells, Array.toList_map, List.mem_map] at hv
  obtain ⟨i, _, rfl⟩ := hv
  have hlt2 : i % z.cells.size < z.cells.size := Nat.mod_lt _ (by omega)
  rw [getElem!_pos z.cells _ hlt2]
  exact z1 _ (by simp)
 have hst := run_storeCells_at P g (lo * c.sz) c.e zs 0 cur w hg (by rw [← Array.length_toList]; omega) hz1
 simp only [Nat.add_zero] at hst
 have hne : ¬ cap0 = lo := by omega
 have e4 : a.eval x = .slice (some ⟨g, lo * c.sz, none⟩) (hi - lo) (cap0 - lo) := by
  rw [e2, sliced, if_neg hne]
  simp [a5M]
 have hclr : (Builtin.clear_ #[t] o.type #[.slice (some ⟨g, lo * c.sz, none⟩) (hi - lo) (cap0 - lo)]).run P w = .ok (.tuple #[]) (w.setRow g (a1c (lo * c.sz) zs cur.toList).toArray) := by
  obtain ⟨m, hm⟩ : ∃ m, hi - lo = m + 1 := ⟨hi - lo - 1, by omega⟩
  rw [hzz, hm] at hst
  rw [hm]
  simp [Builtin.clear_, run_underlying (hT.sl t c.e ht), hzv, hst, a1c, hzz, hm]
 have ohole : a0N w (List.replicate ((hi - lo) * c.sz) .hole) zs [] := by
  have := a9z (w := w) zs hz1
  rwa [hzl] at this
 obtain ⟨f1, f3, s1, s2, s3⟩ := b7d hown ohole (off := lo * c.sz) (by simp only [List.length_replicate]; omega)
 have hnd := hr.kn k c hk
 rw [hfp, List.nodup_cons] at hnd
 have hrel := hr.wrow (off := lo * c.sz) (us := zs) (cs' := a1c (lo * c.sz) (List.replicate ((hi - lo) * c.sz) .hole) c.cs) (f' := f1 ++ f3) hk hE' e1 hg hnc hcm hsz hpos (by omega) (by rw [htake]; simpa using s3)
  (fun b hb => ⟨by rw [hfp]; exact List.mem_cons_of_mem _ (s1 b hb), fun e => hnd.1 (by rw [← e]; exact s1 b hb)⟩) (by rw [hfp]; simp) (s2 hnd.2) (by rw [a5T (by simp only [List.length_replicate]; omega)]; exact hcl)
 unfold Oper.wp execOp
 simp only [ho, resolve, invoke, builtin, Sem.run_bind, Sem.run_pure, Result.andThen_ok, List.map_toArray, List.map_cons, List.map_nil, e4, hclr, Oper.upon, hd, Act.put]
 exact hK _ _ _ _ rfl hrel
theorem c5d {tm : List (Nat × SV)} {bx : List (Nat × TypeId × List CV)} {ks : List (Nat × Option KC)} {s k m sz : Nat} {c : KC} {cs : List DV} (hs : look tm s = some (.ksl k 0 m sz)) (hk : lkk ⟨tm, bx, ks⟩ k = some c) (hE : Nat.blt c.e 1000000 = true) (hcs : c.sz = sz) (hm : m ≤ c.n) (hcc : c.cs.take (m * sz) = cs) :
  Weak P C nt ⟨tm, bx, ks⟩ ⟨(s, .one (.key k)) :: a0i [k] [k] tm, a0h [k] [k] bx, (k, some ⟨false, c.e, sz, m, cs⟩) :: ks⟩ := Weak.mk fun L a w hr => by
 subst hcs; subst hcc
 have hE' : c.e < 1000000 := by simpa [Nat.blt_eq] using hE
 have hsv := hr.tm s _ hs
 simp only [SVr] at hsv
 obtain ⟨A, n0, cap0, e1, e2⟩ := hsv
 obtain ⟨r1, rfl, r3⟩ := c2E hr hk e1
 rw [c4R (n := c.n) r1] at e2
 obtain ⟨hpos, hcl, hro⟩ := a8O hr hk hE'
 have hm2 : m * c.sz ≤ c.n * c.sz := Nat.mul_le_mul_right _ hm
 have hfin : ∀ f', Own w (.sl c.e c.sz m (c.cs.take (m * c.sz))) (.slice A m cap0) f' → f'.Nodup → (∀ b ∈ f', b ∈ L.fp k) → ∃ L', Rel P C nt L' ⟨(s, .one (.key k)) :: a0i [k] [k] tm, a0h [k] [k] bx, (k, some ⟨false, c.e, c.sz, m, c.cs.take (m * c.sz)⟩) :: ks⟩ a w := fun f' ho hn hf => by
  have hset := hr.setkey (k := k) (c := c) (c' := ⟨false, c.e, c.sz, m, c.cs.take (m * c.sz)⟩) (js := []) (same := false) (v' := .slice A m cap0) (f' := f') hk (by simp) ((Chg.refl [] w).mono (by simp)) ho hn (fun b hb => .inl (hf b hb)) (by simp) (by simp) (by simp)
  exact ⟨_, hset.also (d := s) (v := .one (.key k)) (by simp only [SVr, CVr, if_true]; exact e2) (by simp [SV.keys, CV.keys, a6f]) (by simp [SV.boxes])⟩
 rcases hro with ⟨e4, h0⟩ | ⟨g, cap, cur, vs, f, e4, hg, hnc, hcm, hsz, htake, hfp, hown⟩
 ·rw [e1] at e4
  simp only [Value.slice.injEq] at e4
  obtain ⟨rfl, h0', rfl⟩ := e4
  have hm0 : m = 0 := by omega
  subst hm0
  refine hfin [] ?_ (by simp) (by simp)
  rw [Nat.zero_mul, List.take_zero]
  exact a7s w c.e c.sz hpos
 ·rw [e1] at e4
  simp only [Value.slice.injEq] at e4
  obtain ⟨rfl, _, rfl⟩ := e4
  obtain ⟨fa, fb, hf, ta, tb⟩ := a7G (m * c.sz) hown
  have hnd := hr.kn k c hk
  rw [hfp, List.nodup_cons] at hnd
  have hvl : vs.length = c.n * c.sz := by rw [a2n _ _ _ hown, hcl]
  refine hfin (g :: fa) ?_ ?_ ?_
  ·unfold Own
   refine ⟨vs.take (m * c.sz), fa, by simp [Value.ownBlock], hpos, by rw [c5t]; omega, a3H hE' ⟨by rw [c5t]; omega, .inr ⟨g, cap0, cur, rfl, Nat.zero_le _, hg, by omega, hcm, hsz, ?_⟩⟩, ta⟩
   rw [← htake, List.take_take]
   congr 1; omega
  ·rw [List.nodup_cons]
   rw [hf] at hnd
   exact ⟨fun h => hnd.1 (by simp [h]), (List.nodup_append.1 hnd.2).1⟩
  ·intro b hb
   rw [hfp, hf]
   rcases List.mem_cons.1 hb with rfl | hb
   ·simp
   ·simp [hb]
end
/-! ### calls that change a key and hand it back -/
structure MFn (P : Program) (f : FuncId) (us : List SV) (c0 c1 : KC) : Prop where
 ok : a7r P f [] [(0, some c0)] (.one (.key 0) :: us) fun v σ' => v = .one (.key 0) ∧ σ'.ks = [(0, some c1)]
def a8f (σ : St) : SV → SV → Prop
 | .one (.dv _ d), u => d.plain = true ∧ u = .one (.dv [] d)
 | .clo f bs, u => ∃ caps, a4s σ bs caps ∧ u = .fn f caps
 | _, _ => False
def a6N (P : Program) (C : Ctx) (nt : Nat) (σ : St) : List Operand → List SV → Prop
 | [], us => us = []
 | x :: xs, us => ∃ v u us', us = u :: us' ∧ Ev P C nt σ x v ∧ a8f σ v u ∧ a6N P C nt σ xs us'
section
variable {P : Program} {C : Ctx} {nt : Nat} {σ : St} {L : Lyt} {a : Act} {w : World} {o : Oper} {x y u : Operand} {T : TT}
theorem c5g : a6N P C nt σ [] [] := rfl
theorem c1w {v u : SV} {xs : List Operand} {us : List SV} (hx : Ev P C nt σ x v) (h : a8f σ v u) (h2 : a6N P C nt σ xs us) : a6N P C nt σ (x :: xs) (u :: us) := ⟨v, u, us, rfl, hx, h, h2⟩
theorem c3P {f : FuncId} {bs : List Nat} {caps : List (List DV)} (h : a4s σ bs caps) : a8f σ (.clo f bs) (.fn f caps) := ⟨caps, h, rfl⟩
def a6h (L : Lyt) (k : Nat) : Lyt := { bb := fun _ => 0, fp := fun i => if i = 0 then L.fp k else [], rv := fun i => if i = 0 then L.rv k else .bool false }
theorem c3S (hr : Rel P C nt L σ a w) {k : Nat} {c : KC} (hk : lkk σ k = some c) {L' : Lyt} {rv : Nat → Value} : ∀ b, b < w.heap.size → okB C L [] b → okB ⟨w, L.fp k, rv⟩ L' [] b ∧ w.heap[b]? = w.heap[b]? := fun b hb h => by
 rcases h with ⟨h1, h2⟩ | ⟨_, h1, _⟩
 ·refine ⟨.inl ⟨hb, fun hm => ?_⟩, rfl⟩
  rcases hr.k1 k c hk b hm with h3 | h3
  ·omega
  ·exact h2 h3
 ·cases h1
theorem b4J (hr : Rel P C nt L σ a w) {k : Nat} {c : KC} (hk : lkk σ k = some c) (L' : Lyt) {rv : Nat → Value} : ∀ {bs : List Nat} {dss : List (List DV)}, a4s σ bs dss → a4Y ⟨w, L.fp k, rv⟩ L' w dss (bs.map fun b => Value.pointer (some ⟨L.bb b, 0, none⟩))
 | [], _, h => by simp only [a4s] at h; subst h; rfl
 | b :: bs, _, ⟨ds, dss', t, e, h1, h2⟩ => by
  subst e
  obtain ⟨vs, h3, h4⟩ := hr.bx b t _ h1
  refine ⟨_, _, rfl, ⟨L.bb b, 0, vs, rfl, fun _ => .inl ⟨a6a h3, hr.bk b k _ c h1 hk⟩, a6O (c3S hr hk) _ _ (b6v h4), fun j u hu => ?_⟩, b4J hr hk L' h2⟩
  rw [Nat.zero_add, cell_of_row w _ j vs.toArray t (0, 0) h3]
  simpa using hu
theorem c3s (hr : Rel P C nt L σ a w) {k : Nat} {c : KC} (hk : lkk σ k = some c) (L' : Lyt) {rv : Nat → Value} {v u : SV} {r : Value} (h : a8f σ v u) (hv : SVr P C L w v r) : SVr P ⟨w, L.fp k, rv⟩ L' w u r ∧ u.keys = [] ∧ u.boxes = [] := by
 cases v with
 | one c0 =>
  cases c0 with
  | dv K d =>
   obtain ⟨h1, rfl⟩ := h
   simp only [SVr, CVr] at hv ⊢
   exact ⟨b2G h1 hv, rfl, rfl⟩
  | _ => simp [a8f] at h
 | clo f bs =>
  obtain ⟨caps, h1, rfl⟩ := h
  simp only [SVr] at hv ⊢
  exact ⟨⟨_, hv, b4J hr hk L' h1⟩, rfl, rfl⟩
 | _ => simp [a8f] at h
theorem b6L (hr : Rel P C nt L σ a w) {k : Nat} {c : KC} (hk : lkk σ k = some c) (L' : Lyt) {rv : Nat → Value} : ∀ {xs : List Operand} {us : List SV}, a6N P C nt σ xs us → xs.length = us.length ∧ (∀ u ∈ us, u.keys = [] ∧ u.boxes = []) ∧ ∀ (i : Nat) u, us[i]? = some u → ∃ x, xs[i]? = some x ∧ SVr P ⟨w, L.fp k, rv⟩ L' w u (a.eval x)
 | [], _, h => by simp only [a6N] at h; subst h; simp
 | x :: xs, _, ⟨v, u, us', e, h1, h2, h3⟩ => by
  subst e
  obtain ⟨g1, g2, g3⟩ := b6L hr hk L' (rv := rv) h3
  obtain ⟨q1, q2, q3⟩ := c3s hr hk L' (rv := rv) h2 (h1.run L a w hr)
  refine ⟨by simp [g1], fun z hz => ?_, fun i z hz => ?_⟩
  ·rcases List.mem_cons.1 hz with rfl | hz
   ·exact ⟨q2, q3⟩
   ·exact g2 z hz
  ·cases i with
   | zero => simp only [List.getElem?_cons_zero, Option.some.injEq] at hz; subst hz; exact ⟨x, rfl, q1⟩
   | succ i => simpa using g3 i z (by simpa using hz)
theorem c1A {f : FuncId} {xs : List Operand} {ats : Array TypeId} {us : List SV} {k d : Nat} {c c0 c1 : KC} (ho : o.op = .call { callee := .value (.func f), args := (x :: xs).toArray, argTypes := ats }) (hd : o.dst = some d) (hn : Nat.blt d nt = true)
  (hc : ∀ (args : Array Value) (w : World), (callFunc f args).run P w = .ok (.enter f args) w) (hf : MFn P f us c0 c1) (hx : Ev P C nt σ x (.one (.key k))) (hk : lkk σ k = some c) (hc0 : (⟨false, c.e, c.sz, c.n, c.cs⟩ : KC) = c0) (hc1 : c1.h = false) (ha : a6N P C nt σ xs us) :
  Ef P C nt o σ (fun σ' => σ' = (σ.mut k [] false c1).put d (.one (.key k))) := Ef.mk fun L a w hr K Q hK => by
 subst hc0
 have e1 := hx.run L a w hr
 simp only [SVr, CVr] at e1
 obtain ⟨g1, g2, g3⟩ := b6L hr hk (a6h L k) (rv := (a6h L k).rv) ha
 refine a6B (xs := x :: xs) ho hc ?_
 have hall : ∀ q ∈ (.one (.key 0) :: us : List SV), (∀ j ∈ q.keys, j = 0) ∧ q.boxes = [] := fun q hq => by
  rcases List.mem_cons.1 hq with rfl | hq
  ·exact ⟨by simp [SV.keys, CV.keys], rfl⟩
  ·obtain ⟨h1, h2⟩ := g2 q hq
   exact ⟨by simp [h1], h2⟩
 have hlk : ∀ (tm : List (Nat × SV)) j c', lkk ⟨tm, [], [(0, some (⟨false, c.e, c.sz, c.n, c.cs⟩ : KC))]⟩ j = some c' → j = 0 ∧ c' = ⟨false, c.e, c.sz, c.n, c.cs⟩ := fun tm j c' h => by
  simp only [lkk, a0Y] at h
  split at h
  ·rename_i e; exact ⟨e, by simpa using h.symm⟩
  ·simp [look] at h
 have hen : ∀ (us : List SV) (j : Nat), (∀ q ∈ us, (∀ j ∈ q.keys, j = 0) ∧ q.boxes = []) → (∀ i ∈ (a2w j us).flatMap fun p => p.2.keys, i = 0) ∧ ((a2w j us).flatMap fun p => p.2.boxes) = [] := fun us => by
  induction us with
  | nil => intro j _; simp [a2w]
  | cons q us ih =>
   intro j h
   obtain ⟨h1, h2⟩ := ih (j + 1) (fun z hz => h z (by simp [hz]))
   obtain ⟨h3, h4⟩ := h q (by simp)
   refine ⟨fun i hi => ?_, by simp [a2w, h2, h4]⟩
   simp only [a2w, List.flatMap_cons, List.mem_append] at hi
   rcases hi with hi | hi
   ·exact h3 i hi
   ·exact h1 i hi
 obtain ⟨t1, t2⟩ := hen _ 0 hall
 have hent : Rel P ⟨w, L.fp k, (a6h L k).rv⟩ (.one (.key 0) :: us : List SV).length (a6h L k) ⟨a2w 0 (.one (.key 0) :: us), [], [(0, some ⟨false, c.e, c.sz, c.n, c.cs⟩)]⟩ ⟨((x :: xs).map a.eval).toArray, []⟩ w := {
  df := rfl
  sz := by simp [g1]
  tm := fun i v hv => by
   obtain ⟨_, h4⟩ := a7Q _ 0 i v hv
   rw [Nat.sub_zero] at h4
   cases i with
   | zero =>
    simp only [List.getElem?_cons_zero, Option.some.injEq] at h4
    subst h4
    simp [SVr, CVr, a6h, e1]
   | succ i =>
    obtain ⟨z, h5, h6⟩ := g3 i v (by simpa using h4)
    have : ((x :: xs).map a.eval).toArray.getD (i + 1) undef = a.eval z := by simp [Array.getD_eq_getD_getElem?, h5]
    rw [this]; exact h6
  bx := fun i t cs h => by cases h
  ks := fun j c' h => by
   obtain ⟨rfl, rfl⟩ := hlk _ j c' h
   refine ⟨?_, by simp⟩
   simpa [a6h] using (hr.ks k c hk).1
  b1 := fun i x h => by cases h
  k1 := fun j c' h => by
   obtain ⟨rfl, rfl⟩ := hlk _ j c' h
   intro b hb
   exact .inr (by simpa [a6h] using hb)
  kn := fun j c' h => by
   obtain ⟨rfl, rfl⟩ := hlk _ j c' h
   simpa [a6h] using hr.kn k c hk
  bb := fun i j x y h => by cases h
  bk := fun i k x c h => by cases h
  kk := fun i j c' d' h1 h2 hij => by
   obtain ⟨rfl, _⟩ := hlk _ i c' h1
   obtain ⟨rfl, _⟩ := hlk _ j d' h2
   exact absurd rfl hij
  lk := fun j hj => by
   simp only [St.tk, List.flatMap_nil, List.append_nil] at hj
   rw [t1 j hj]; simp [lkk, a0Y]
  lb := fun b hb => by simp only [St.tb, t2] at hb; cases hb
  s0 := fun b hb => hr.k_lt hk b hb
  chg := Chg.refl _ _ }
 refine (hf.ok w (L.fp k) (a6h L k) ((x :: xs).map a.eval) (by simp [g1]) hent).mono ?_
 rintro e' w' ⟨r, res, σ', L', rfl, ⟨rfl, hks⟩, h3⟩
 have hlk' : lkk { σ' with tm := [(0, SV.one (.key 0))] } 0 = some c1 := by simp [lkk, hks, a0Y]
 have hro := (h3.ks 0 c1 hlk').1
 have hrr := h3.tm 0 (.one (.key 0)) (by simp [a0Y])
 simp only [SVr, CVr] at hrr
 have hrr : r = L'.rv 0 := by simpa using hrr
 have hset := hr.setkey (k := k) (c := c) (c' := c1) (js := []) (same := false) (v' := L'.rv 0) (f' := L'.fp 0) hk (by simp) h3.chg hro (h3.kn 0 c1 hlk') (fun b hb => by
  rcases h3.k1 0 c1 hlk' b hb with h | h
  ·exact .inr (.inr h)
  ·exact .inl h) (by simp) (by simp) (fun h => by rw [hc1] at h; cases h)
 refine ⟨r, rfl, hK { L with fp := fun i => if i = k then L'.fp 0 else L.fp i, rv := fun i => if i = k then L'.rv 0 else L.rv i } _ _ _ rfl ?_⟩
 rw [hd]
 exact hset.put (d := d) (v := .one (.key k)) (r := r) (by simpa [Nat.blt_eq] using hn) (by simp [SVr, CVr, hrr]) (by simp [SV.keys, CV.keys, a6f]) (by simp [SV.boxes])
/-! over states that are written out -/
section
variable {Q : Exit → St → Prop} {all : Array Oper} {rest : List Oper} {tm : List (Nat × SV)} {bx : List (Nat × TypeId × List CV)} {ks : List (Nat × Option KC)} {d : Nat}
theorem c4F (hT : TTOk P T) {t k off src sz by_ : Nat} {zc : List CV} {c : KC} {ds cs : List DV} (hg : o.guard = none) (hd : o.dst = none) (ho : o.op = .store t x y) (ht : look T.el t = some (sz, by_, zc)) (hx : Ev P C nt ⟨tm, bx, ks⟩ x (.eptr k off)) (hy : Ev P C nt ⟨tm, bx, ks⟩ y (.agg (a3d k src ds)))
  (hk : lkk ⟨tm, bx, ks⟩ k = some c) (hE : Nat.blt c.e 1000000 = true) (hds : sub src sz c.cs = ds) (hlt : off + sz ≤ src) (hle : src + sz ≤ c.cs.length) (hcs : a1c off ds (a1c src (List.replicate sz .hole) c.cs) = cs)
  (h : Ops P C nt Q all rest ⟨a0i [k] [] tm, a0h [k] [] bx, (k, some { c with cs := cs }) :: ks⟩) : Ops P C nt Q all (o :: rest) ⟨tm, bx, ks⟩ := a3o hg (c3Y hT ho hd ht hx hy hk hE hds hlt hle) (by subst hcs; exact h)
theorem c4p (hT : TTOk P T) {t e k lo hi sz by_ : Nat} {zc : List CV} {c : KC} {cs : List DV} (hg : o.guard = none) (hd : o.dst = none) (ho : o.op = .call { callee := .builtin .clear, args := #[x], argTypes := #[t] }) (ht : look T.sl t = some e) (he : look T.el e = some (sz, by_, zc)) (hl0 : zc.length = sz) (hx : Ev P C nt ⟨tm, bx, ks⟩ x (.ksl k lo hi sz))
  (hk : lkk ⟨tm, bx, ks⟩ k = some c) (hce : c.e = e) (hcz : c.sz = sz) (hlh : lo ≤ hi) (hhi : hi ≤ c.n) (hcs : a1c (lo * sz) (List.replicate ((hi - lo) * sz) .hole) c.cs = cs)
  (h : Ops P C nt Q all rest ⟨a0i [k] [] tm, a0h [k] [] bx, (k, some { c with cs := cs }) :: ks⟩) : Ops P C nt Q all (o :: rest) ⟨tm, bx, ks⟩ := a3o hg (c3u hT ho hd ht he hl0 hx hk hce hcz hlh hhi) (by subst hcs; exact h)
theorem c2M {f : FuncId} {xs : List Operand} {ats : Array TypeId} {us : List SV} {k : Nat} {c c0 c1 : KC} (hg : o.guard = none) (hd : o.dst = some d) (ho : o.op = .call { callee := .value (.func f), args := (x :: xs).toArray, argTypes := ats }) (hn : Nat.blt d nt = true)
  (hc : ∀ (args : Array Value) (w : World), (callFunc f args).run P w = .ok (.enter f args) w) (hf : MFn P f us c0 c1) (hx : Ev P C nt ⟨tm, bx, ks⟩ x (.one (.key k))) (hk : lkk ⟨tm, bx, ks⟩ k = some c) (hc0 : (⟨false, c.e, c.sz, c.n, c.cs⟩ : KC) = c0) (hc1 : c1.h = false) (ha : a6N P C nt ⟨tm, bx, ks⟩ xs us)
  (h : Ops P C nt Q all rest ⟨(d, .one (.key k)) :: a0i [k] [k] tm, a0h [k] [k] bx, (k, some c1) :: ks⟩) : Ops P C nt Q all (o :: rest) ⟨tm, bx, ks⟩ := a3o hg (c1A ho hd hn hc hf hx hk hc0 hc1 ha) h
end
end
section
variable {P : Program} {C : Ctx} {nt : Nat} {o : Oper} {x y : Operand} {T : TT} {Q : Exit → St → Prop} {all : Array Oper} {tm : List (Nat × SV)} {bx : List (Nat × TypeId × List CV)} {ks : List (Nat × Option KC)} {oB oK nK : List Nat} {hd' : Nat → Bool} {listed : Array Bool} {fuel : Nat}
theorem a8K (i : Nat) (hT : TTOk P T) {t e sz by_ d k n : Nat} {zc cs : List CV} {ds : List DV} {js : List Nat} {ps : List (Nat × Operand)} (hi : all[i]? = some o) (hg : o.guard = none) (hd : o.dst = some d) (ho : o.op = .buildSlice t n ps.toArray) (hn : Nat.blt d nt = true) (ht : look T.sl t = some e) (he : look T.el e = some (sz, by_, zc)) (hl0 : zc.length = sz) (hsz : Nat.blt 0 sz = true) (hsm : Nat.ble (n * sz) 16777216 = true) (hps : ps.length = n) (hn0 : Nat.blt 0 n = true)
  (hx : a6k P C nt ⟨tm, bx, ks⟩ sz 0 ps cs) (how : a4p ⟨tm, bx, ks⟩ cs ds js) (hnj : js.Nodup) (hkj : k ∉ js) (hcl : cs.length = n * sz) (hk : lkk ⟨tm, bx, ks⟩ k = none)
  (hb : (oB.all fun i => (look bx i).isSome) = true) (hk' : (oK.all fun k => (lkk ⟨tm, bx, ks⟩ k).isSome) = true) (hn' : (nK.all fun k => (lkk ⟨tm, bx, ks⟩ k).isSome) = true)
  (h : OpsN P C nt Q all oB oK nK hd' (listed.setIfInBounds i true) fuel ⟨(d, .one (.key k)) :: a0i (k :: js) (k :: js) tm, a0h (k :: js) (k :: js) bx, (k, some ⟨false, e, sz, n, ds⟩) :: ((js.map fun j => (j, none)) ++ (k, some ⟨false, e, sz, 0, []⟩) :: ks)⟩) : OpsNJ P C nt Q all oB oK nK hd' listed fuel i ⟨tm, bx, ks⟩ :=
 b7f i hi hg (b5V hT ho hd hn ht he hl0 hsz hsm hps hn0 hx how hnj hkj hcl hk) hb hk' hn' fun σ' e => by rw [e]; exact h
end
theorem c2v {P : Program} {C : Ctx} {nt : Nat} {σ σ' : St} {x y : Code} {Q1 Q2 : Exit → St → Prop} (h1 : Ok P C nt (a5i (fun σ1 => Weak P C nt σ1 σ') Q2) x σ) (h2 : Ok P C nt Q1 y σ') : Ok P C nt (a5i (Ok P C nt Q1 y) Q2) x σ := Ok.mk fun L a w hr =>
 wp_mono (h1.run L a w hr) (b5E fun e σ1 h => by
  cases e with
  | normal => exact a0r h h2
  | _ => exact h)
open Go.Sort
def ofB (b : List UInt8) : ByteArray := ⟨b.toArray⟩
def a3Q (l : List ByteArray) : List ByteArray := ((l.map fun s => s.data.toList).mergeSort fun x y => decide (x ≤ y)).map ofB
def a3J (l : List ByteArray) : List ByteArray := (Lib.compact (l.map fun s => s.data.toList)).map ofB
theorem b1z (s : ByteArray) : ofB s.data.toList = s := by unfold ofB; rfl
theorem b1I (z : List (List UInt8)) : (z.map ofB).map (fun s => s.data.toList) = z := by
 rw [List.map_map]
 have : ((fun s : ByteArray => s.data.toList) ∘ ofB) = id := by funext b; simp [ofB]
 rw [this, List.map_id]
theorem b2v (l : List ByteArray) : (a3Q l).length = l.length := by simp [a3Q, List.length_mergeSort]
theorem c0e {l : List ByteArray} {s : ByteArray} : s ∈ a3Q l ↔ s ∈ l := by
 unfold a3Q
 rw [List.mem_map]
 constructor
 ·rintro ⟨b, hb, e⟩
  rw [List.mem_mergeSort] at hb
  obtain ⟨t, ht, e2⟩ := List.mem_map.1 hb
  rw [← e, ← e2, b1z]; exact ht
 ·intro h
  exact ⟨s.data.toList, List.mem_mergeSort.2 (List.mem_map.2 ⟨s, h, rfl⟩), b1z s⟩
theorem b9F {α : Type} [Inhabited α] [DecidableEq α] {z : List α} {x : α} (h : x ∈ Lib.compact z) : x ∈ z := by
 unfold Lib.compact Lib.compactUpTo at h
 obtain ⟨j, hj, e⟩ := List.mem_map.1 h
 have hj2 := List.mem_range.1 (List.mem_filter.1 hj).1
 rw [← e, getElem!_pos z.toArray j (by simpa using hj2)]
 simp
theorem c2p {l : List ByteArray} {s : ByteArray} (h : s ∈ a3J l) : s ∈ l := by
 unfold a3J at h
 obtain ⟨b, hb, e⟩ := List.mem_map.1 h
 obtain ⟨t, ht, e2⟩ := List.mem_map.1 (b9F hb)
 rw [← e, ← e2, b1z]; exact ht
structure SortOk (P : Program) (f : FuncId) : Prop where
 run : ∀ (blk off cap : Nat) (ss : List (List UInt8)) (w : World), Holds encStr w blk off ss.toArray → blk < w.heap.size → ss.length < 4611686018427387904 → Calls P f #[.slice (some ⟨blk, off, none⟩) ss.length cap] w fun e w' => e = .returned (.tuple #[]) ∧ ∃ n os, w' = grow (putRow encStr (Sort.ahead w n) blk off (ss.mergeSort fun x y => decide (x ≤ y)).toArray) os
 none : ∀ (p : Option Addr) (cap : Nat) (w : World), Calls P f #[.slice p 0 cap] w fun e w' => e = .returned (.tuple #[]) ∧ w' = w
structure CompOk (P : Program) (f : FuncId) : Prop where
 run : ∀ (blk off cap : Nat) (zs : List (List UInt8)) (w : World), Holds encStr w blk off zs.toArray → zs.length ≤ 9223372036854775807 → zs.length ≤ cap → Calls P f #[.slice (some ⟨blk, off, none⟩) zs.length cap] w fun e w' => e = .returned (.slice (some ⟨blk, off, none⟩) (Lib.compact zs).length cap) ∧ ∃ q, w' = putRow encStr (Sort.ahead w q) blk off (Lib.compact zs ++ List.replicate (zs.length - (Lib.compact zs).length) []).toArray
 none : ∀ (p : Option Addr) (cap : Nat) (w : World), Calls P f #[.slice p 0 cap] w fun e w' => e = .returned (.slice p 0 cap) ∧ w' = w
def a2S (l : List ByteArray) : List DV := l.flatMap fun s => [.str s]
theorem b6C (l : List ByteArray) : (a2S l).length = l.length := by
 unfold a2S
 induction l with
 | nil => rfl
 | cons s l ih => simp [List.flatMap_cons, ih]
theorem b3f {w : World} : ∀ {l : List ByteArray} {vs : List Value} {f : List Nat}, a0N w (a2S l) vs f → vs = (l.map fun s => s.data.toList).map encStr ∧ f = [] ∧ ∀ s ∈ l, s.size ≤ 9223372036854775807
 | [], _, _, h => by simp only [a2S, List.flatMap_nil, a0N] at h; obtain ⟨rfl, rfl⟩ := h; simp
 | s :: l, _, _, h => by
  rw [a2S, List.flatMap_cons, List.singleton_append, a0N] at h
  obtain ⟨v, vs', f1, f2, rfl, rfl, h1, h2⟩ := h
  obtain ⟨rfl, rfl, h3⟩ := b3f (l := l) h2
  simp only [Own] at h1
  obtain ⟨rfl, h4, rfl⟩ := h1
  refine ⟨?_, rfl, fun t ht => ?_⟩
  ·simp only [List.map_cons]
  ·rcases List.mem_cons.1 ht with e | ht
   ·rw [e]; exact h4
   ·exact h3 t ht
theorem b3i {w : World} : ∀ {l : List ByteArray}, (∀ s ∈ l, s.size ≤ 9223372036854775807) → a0N w (a2S l) ((l.map fun s => s.data.toList).map encStr) []
 | [], _ => by simp [a2S, a0N]
 | s :: l, h => by
  rw [a2S, List.flatMap_cons, List.singleton_append, a0N]
  exact ⟨.string s, _, [], [], rfl, rfl, by unfold Own; exact ⟨rfl, h s (by simp), rfl⟩, b3i (fun t ht => h t (by simp [ht]))⟩
section
variable {P : Program} {C : Ctx} {nt : Nat} {σ : St} {L : Lyt} {a : Act} {w : World} {o : Oper} {x y : Operand}
theorem c1D {f k d : Nat} {ats : Array TypeId} {c : KC} {l : List ByteArray} (hf : SortOk P f) (ho : o.op = .call { callee := .value (.func f), args := #[x], argTypes := ats }) (hc : ∀ (args : Array Value) (w : World), (callFunc f args).run P w = .ok (.enter f args) w) (hd : o.dst = some d) (hnt : Nat.blt d nt = true)
  (hx : Ev P C nt σ x (.one (.key k))) (hk : lkk σ k = some c) (he : Nat.blt c.e 1000000 = true) (hsz : c.sz = 1) (hn : c.n = l.length) (hcs : c.cs = a2S l) (hl : l.length < 4611686018427387904) :
  Ef P C nt o σ (fun σ' => σ' = (σ.mut k [] true ⟨false, c.e, 1, l.length, a2S (a3Q l)⟩).put d .any) := Ef.mk fun L a w hr K Q hK => by
 have hd' : d < nt := by simpa [Nat.blt_eq] using hnt
 have e1 := hx.run L a w hr
 simp only [SVr, CVr] at e1
 have ho1 := (hr.ks k c hk).1
 have hkn := hr.kn k c hk
 rw [hsz, hn, hcs] at ho1
 simp only [Own] at ho1
 obtain ⟨vs, f1, q1, q2, q3, q4, q5⟩ := ho1
 obtain ⟨rfl, rfl, hz⟩ := b3f q5
 have he' : c.e < 1000000 := by simpa [Nat.blt_eq] using he
 have hrow := q4.1 he'
 rw [List.append_nil] at q1
 refine a6B (xs := [x]) ho hc ?_
 simp only [List.map_cons, List.map_nil, e1]
 have hz' : ∀ s ∈ a3Q l, s.size ≤ 9223372036854775807 := fun s hs => hz s (c0e.1 hs)
 by_cases hnil : L.rv k = .slice none 0 0
 ·have hl0 : l = [] := by
   have := hrow.1
   rcases hrow.2 with ⟨_, h0⟩ | ⟨g, cap, cur, h1, _⟩
   ·exact List.length_eq_zero_iff.1 h0
   ·rw [hnil] at h1; cases h1
  subst hl0
  rw [hnil]
  refine (hf.none none 0 w).mono ?_
  rintro e w' ⟨rfl, rfl⟩
  refine ⟨_, rfl, ?_⟩
  rw [hd]
  have e0 : (⟨false, c.e, 1, ([] : List ByteArray).length, a2S (a3Q [])⟩ : KC) = ⟨false, c.e, 1, 0, a2S []⟩ := by simp [a3Q]
  refine hK _ ((σ.mut k [] true ⟨false, c.e, 1, 0, a2S []⟩).put d .any) _ _ (by rw [e0]) (Rel.put (hr.setkey (k := k) (c := c) (c' := ⟨false, c.e, 1, 0, a2S []⟩) (js := []) (same := true) (v' := L.rv k) (f' := L.fp k) hk (by simp) (Chg.refl _ _) ?_ hkn (fun b hb => .inl hb) (by simp) (fun _ => rfl) (by simp)) hd' trivial (by simp [SV.keys]) (by simp [SV.boxes]))
  have := (hr.ks k c hk).1
  rw [hsz, hn, hcs] at this
  exact this
 ·obtain ⟨g, cap, hv, _, hg, h1, h2, h3, hH⟩ := Lib.holds_of_ownsRow hrow hnil
  rw [hv]
  have hl2 : (l.map fun s => s.data.toList).length < 4611686018427387904 := by simpa using hl
  have := hf.run g 0 cap (l.map fun s => s.data.toList) w hH hg hl2
  rw [List.length_map] at this
  refine this.mono ?_
  rintro e w' ⟨rfl, n, os, rfl⟩
  refine ⟨_, rfl, ?_⟩
  rw [hd]
  have hfp : L.fp k = [g] := by rw [q1, hv]; rfl
  have hlen : ((l.map fun s => s.data.toList).mergeSort fun x y => decide (x ≤ y)).length = (l.map fun s => s.data.toList).length := List.length_mergeSort _
  obtain ⟨cur, hb, hcur⟩ : ∃ cur, w.heap[g]? = some (.cells cur c.e (0, 0)) ∧ cur.size = cap * 1 := by
   rcases hrow.2 with ⟨h0, _⟩ | ⟨g', cap', cur, h0, _, hb, _, _, hcur, _⟩
   ·exact absurd h0 hnil
   ·rw [hv] at h0
    injection h0 with a1 a2 a3
    injection a1 with a1
    injection a1 with a1
    subst a1; subst a3
    exact ⟨cur, hb, hcur⟩
  have hown := ownsRow_sorted (n := n) (os := os) (base := 0) hlen (Nat.zero_le g) hb (by simpa using h1) h2 hcur
  rw [List.length_map] at hown
  obtain ⟨gb1, gb2, gb3, gb4, gb5⟩ := grownBy_sorted (w := w) (g := g) (n := n) (os := os) ((l.map fun s => s.data.toList).mergeSort fun x y => decide (x ≤ y)).toArray
  refine hK _ _ _ _ rfl (Rel.put (hr.setkey (k := k) (c := c) (c' := ⟨false, c.e, 1, l.length, a2S (a3Q l)⟩) (js := []) (same := true) (v' := L.rv k) (f' := L.fp k) hk (by simp) ⟨gb1, gb2, gb3, gb4, fun i hi hne => gb5 i hi (fun e => hne (by rw [hfp]; injection e with e; simp [e]))⟩ ?_ hkn (fun b hb => .inl hb) (by simp) (fun _ => rfl) (by simp)) hd' trivial (by simp [SV.keys]) (by simp [SV.boxes]))
  have hsl := b2v l
  simp only [Own]
  refine ⟨((a3Q l).map fun s => s.data.toList).map encStr, [], by rw [q1, List.append_nil], by decide, by rw [b6C, hsl, Nat.mul_one], a3H he' ?_, b3i hz'⟩
  rw [hv]
  have e2 : (a3Q l).map (fun s => s.data.toList) = (l.map fun s => s.data.toList).mergeSort fun x y => decide (x ≤ y) := b1I _
  rw [e2]
  exact hown
theorem b9j {f k d : Nat} {ats : Array TypeId} {c : KC} {l : List ByteArray} (hf : CompOk P f) (ho : o.op = .call { callee := .value (.func f), args := #[x], argTypes := ats }) (hc : ∀ (args : Array Value) (w : World), (callFunc f args).run P w = .ok (.enter f args) w) (hd : o.dst = some d) (hnt : Nat.blt d nt = true)
  (hx : Ev P C nt σ x (.one (.key k))) (hk : lkk σ k = some c) (he : Nat.blt c.e 1000000 = true) (hsz : c.sz = 1) (hn : c.n = l.length) (hcs : c.cs = a2S l) (hl : l.length < 4611686018427387904) :
  Ef P C nt o σ (fun σ' => σ' = (σ.mut k [] false ⟨false, c.e, 1, (a3J l).length, a2S (a3J l)⟩).put d (.one (.key k))) := Ef.mk fun L a w hr K Q hK => by
 have hd' : d < nt := by simpa [Nat.blt_eq] using hnt
 have e1 := hx.run L a w hr
 simp only [SVr, CVr] at e1
 have ho1 := (hr.ks k c hk).1
 have hkn := hr.kn k c hk
 rw [hsz, hn, hcs] at ho1
 simp only [Own] at ho1
 obtain ⟨vs, f1, q1, q2, q3, q4, q5⟩ := ho1
 obtain ⟨rfl, rfl, hz⟩ := b3f q5
 have he' : c.e < 1000000 := by simpa [Nat.blt_eq] using he
 have hrow := q4.1 he'
 rw [List.append_nil] at q1
 refine a6B (xs := [x]) ho hc ?_
 simp only [List.map_cons, List.map_nil, e1]
 have hz' : ∀ s ∈ a3J l, s.size ≤ 9223372036854775807 := fun s hs => hz s (c2p hs)
 have fin : ∀ {w' : World} {v' : Value} {f' : List Nat}, Chg (L.fp k) w w' → Own w' (.sl c.e 1 (a3J l).length (a2S (a3J l))) v' f' → f' = L.fp k → K (a.put o.dst v') w' := fun {w' v' f'} h1 h2 h3 => by
  subst h3
  have hset := hr.setkey (k := k) (c := c) (c' := ⟨false, c.e, 1, (a3J l).length, a2S (a3J l)⟩) (js := []) (same := false) (v' := v') (f' := L.fp k) hk (by simp) h1 h2 hkn (fun b hb => .inl hb) (by simp) (fun e => by cases e) (by simp)
  rw [hd]
  refine hK _ _ _ _ rfl (hset.put hd' (v := .one (.key k)) ?_ ?_ (by simp [SV.boxes]))
  ·simp [SVr, CVr]
  ·intro j hj
   simp only [SV.keys, CV.keys, List.mem_singleton] at hj
   subst hj
   simp [lkk, St.mut, a0Y]
 by_cases hnil : L.rv k = .slice none 0 0
 ·have hl0 : l = [] := by
   rcases hrow.2 with ⟨_, h0⟩ | ⟨g, cap, cur, h1, _⟩
   ·exact List.length_eq_zero_iff.1 h0
   ·rw [hnil] at h1; cases h1
  subst hl0
  rw [hnil]
  refine (hf.none none 0 w).mono ?_
  rintro e w' ⟨rfl, rfl⟩
  refine ⟨_, rfl, fin (Chg.refl _ _) (v' := .slice none 0 0) (f' := L.fp k) ?_ rfl⟩
  have := (hr.ks k c hk).1
  rw [hsz, hn, hcs, hnil] at this
  exact this
 ·obtain ⟨g, cap, hv, _, hg, h1, h2, h3, hH⟩ := Lib.holds_of_ownsRow hrow hnil
  rw [hv]
  have hl2 : (l.map fun s => s.data.toList).length ≤ 9223372036854775807 := by rw [List.length_map]; omega
  have := hf.run g 0 cap (l.map fun s => s.data.toList) w hH hl2 (by rw [List.length_map]; exact h1)
  rw [List.length_map] at this
  refine this.mono ?_
  rintro e w' ⟨rfl, q, rfl⟩
  have hfp : L.fp k = [g] := by rw [q1, hv]; rfl
  have hcl := Lib.compact_length_le (l.map fun s => s.data.toList)
  rw [List.length_map] at hcl
  have hcl2 : (a3J l).length = (Lib.compact (l.map fun s => s.data.toList)).length := by simp [a3J]
  have hrow' := hrow
  rw [hv] at hrow'
  have hown := Lib.ownsRow_putRow (q := q) (k := (Lib.compact (l.map fun s => s.data.toList)).length) (ys := Lib.compact (l.map fun s => s.data.toList) ++ List.replicate (l.length - (Lib.compact (l.map fun s => s.data.toList)).length) []) hrow' (by simp; omega) hcl
  rw [List.take_left] at hown
  refine ⟨_, rfl, fin ⟨rfl, rfl, rfl, by simp [putRow, mapBlock, Sort.ahead], fun i hi hne => ?_⟩ ?_ rfl⟩
  ·have : g ≠ i := fun e => hne (by rw [hfp, e]; simp)
   simp [putRow, mapBlock, Sort.ahead, Array.getElem?_modify, this]
  ·simp only [Own]
   refine ⟨((a3J l).map fun s => s.data.toList).map encStr, [], by rw [hfp]; rfl, by decide, by rw [b6C, Nat.mul_one], a3H he' ?_, b3i hz'⟩
   rw [show (a3J l).map (fun s => s.data.toList) = Lib.compact (l.map fun s => s.data.toList) from b1I _, hcl2]
   exact hown
end
section
variable {P : Program} {C : Ctx} {nt : Nat} {o : Oper} {x : Operand} {Q : Exit → St → Prop} {all : Array Oper} {rest : List Oper} {tm : List (Nat × SV)} {bx : List (Nat × TypeId × List CV)} {ks : List (Nat × Option KC)}
theorem c0L {f k d : Nat} {ats : Array TypeId} {c : KC} {l : List ByteArray} {n : Nat} {cs : List DV} (hg : o.guard = none) (hd : o.dst = some d) (ho : o.op = .call { callee := .value (.func f), args := #[x], argTypes := ats }) (hnt : Nat.blt d nt = true) (hc : ∀ (args : Array Value) (w : World), (callFunc f args).run P w = .ok (.enter f args) w) (hf : SortOk P f)
  (hx : Ev P C nt ⟨tm, bx, ks⟩ x (.one (.key k))) (hk : lkk ⟨tm, bx, ks⟩ k = some c) (he : Nat.blt c.e 1000000 = true) (hsz : c.sz = 1) (hn : c.n = l.length) (hcs : c.cs = a2S l) (hl : l.length < 4611686018427387904) (hn2 : l.length = n) (hcs2 : a2S (a3Q l) = cs)
  (h : Ops P C nt Q all rest ⟨(d, .any) :: a0i [k] [] tm, a0h [k] [] bx, (k, some ⟨false, c.e, 1, n, cs⟩) :: ks⟩) : Ops P C nt Q all (o :: rest) ⟨tm, bx, ks⟩ := by
 subst hn2; subst hcs2
 exact a3o hg (c1D hf ho hc hd hnt hx hk he hsz hn hcs hl) h
theorem c0p {f k d : Nat} {ats : Array TypeId} {c : KC} {l : List ByteArray} {n : Nat} {cs : List DV} (hg : o.guard = none) (hd : o.dst = some d) (ho : o.op = .call { callee := .value (.func f), args := #[x], argTypes := ats }) (hnt : Nat.blt d nt = true) (hc : ∀ (args : Array Value) (w : World), (callFunc f args).run P w = .ok (.enter f args) w) (hf : CompOk P f)
  (hx : Ev P C nt ⟨tm, bx, ks⟩ x (.one (.key k))) (hk : lkk ⟨tm, bx, ks⟩ k = some c) (he : Nat.blt c.e 1000000 = true) (hsz : c.sz = 1) (hn : c.n = l.length) (hcs : c.cs = a2S l) (hl : l.length < 4611686018427387904) (hn2 : (a3J l).length = n) (hcs2 : a2S (a3J l) = cs)
  (h : Ops P C nt Q all rest ⟨(d, .one (.key k)) :: a0i [k] [k] tm, a0h [k] [k] bx, (k, some ⟨false, c.e, 1, n, cs⟩) :: ks⟩) : Ops P C nt Q all (o :: rest) ⟨tm, bx, ks⟩ := by
 subst hn2; subst hcs2
 exact a3o hg (b9j hf ho hc hd hnt hx hk he hsz hn hcs hl) h
end
end Go.Proofs.YteellmjlalgjaaaGreat
namespace Go.Proofs.YteellmjlalgjaaaGreat
open Go.RowKit
open Go.Proofs
open Go.Shelf
def c3w : Go.Shelf.Ren := ⟨fun | 190 => 113 | 125 => 144 | 258 => 143 | 128 => 173 | 129 => 174 | 302 => 164 | 303 => 165 | 304 => 166 | 305 => 167 | 306 => 168 | 307 => 169 | 308 => 170 | 309 => 171 | 310 => 172 | 333 => 183 | 329 => 184 | 330 => 185 | 334 => 186 | 335 => 187 | 336 => 188 | 344 => 194 | n => n, fun | 31 => 103 | 9 => 9 | 3 => 3 | 46 => 181 | 0 => 0 | 51 => 205 | 53 => 207 | 4 => 4 | 183 => 198 | 182 => 197 | 131 => 135 | 5 => 5 | 218 => 214 | 222 => 218 | 228 => 224 | 229 => 225 | n => n, fun | n => n⟩
theorem b4B : Go.Proofs.Lays.n190 Tryz.prog c3w := {
 mixed := by kernel_rfl
 f125 := Tryz.func144.trans (congrArg some (by kernel_rfl))
 f128 := Tryz.func173.trans (congrArg some (by kernel_rfl))
 f129 := Tryz.func174.trans (congrArg some (by kernel_rfl))
 f190 := Tryz.func113.trans (congrArg some (by kernel_rfl))
 f258 := Tryz.func143.trans (congrArg some (by kernel_rfl))
 f302 := Tryz.func164.trans (congrArg some (by kernel_rfl))
 f303 := Tryz.func165.trans (congrArg some (by kernel_rfl))
 f304 := Tryz.func166.trans (congrArg some (by kernel_rfl))
 f305 := Tryz.func167.trans (congrArg some (by kernel_rfl))
 f306 := Tryz.func168.trans (congrArg some (by kernel_rfl))
 f307 := Tryz.func169.trans (congrArg some (by kernel_rfl))
 f308 := Tryz.func170.trans (congrArg some (by kernel_rfl))
 f309 := Tryz.func171.trans (congrArg some (by kernel_rfl))
 f310 := Tryz.func172.trans (congrArg some (by kernel_rfl))
 f329 := Tryz.func184.trans (congrArg some (by kernel_rfl))
 f330 := Tryz.func185.trans (congrArg some (by kernel_rfl))
 f333 := Tryz.func183.trans (congrArg some (by kernel_rfl))
 f334 := Tryz.func186.trans (congrArg some (by kernel_rfl))
 f335 := Tryz.func187.trans (congrArg some (by kernel_rfl))
 f336 := Tryz.func188.trans (congrArg some (by kernel_rfl))
 f344 := Tryz.func194.trans (congrArg some (by kernel_rfl))
 t0 := Tryz.underlying0
 a0 := Tryz.isAgg0
 z0 := Tryz.sizeOf0
 v0 := Tryz.zeroValue0
 t3 := Tryz.underlying3
 a3 := Tryz.isAgg3
 z3 := Tryz.sizeOf3
 v3 := Tryz.zeroValue3
 t4 := Tryz.underlying4
 a4 := Tryz.isAgg4
 z4 := Tryz.sizeOf4
 v4 := Tryz.zeroValue4
 t5 := Tryz.underlying5
 a5 := Tryz.isAgg5
 z5 := Tryz.sizeOf5
 v5 := Tryz.zeroValue5
 t9 := Tryz.underlying9
 a9 := Tryz.isAgg9
 z9 := Tryz.sizeOf9
 v9 := Tryz.zeroValue9
 t31 := Tryz.underlying103
 a31 := Tryz.isAgg103
 z31 := Tryz.sizeOf103
 v31 := Tryz.zeroValue103
 t46 := Tryz.underlying181
 a46 := Tryz.isAgg181
 z46 := Tryz.sizeOf181
 v46 := Tryz.zeroValue181
 t51 := Tryz.underlying205
 a51 := Tryz.isAgg205
 z51 := Tryz.sizeOf205
 v51 := Tryz.zeroValue205
 t53 := Tryz.underlying207
 a53 := Tryz.isAgg207
 z53 := Tryz.sizeOf207
 v53 := Tryz.zeroValue207
 t131 := Tryz.underlying135
 a131 := Tryz.isAgg135
 z131 := Tryz.sizeOf135
 v131 := Tryz.zeroValue135
 t182 := Tryz.underlying197
 a182 := Tryz.isAgg197
 z182 := Tryz.sizeOf197
 v182 := Tryz.zeroValue197
 t183 := Tryz.underlying198
 a183 := Tryz.isAgg198
 z183 := Tryz.sizeOf198
 v183 := Tryz.zeroValue198
 t218 := Tryz.underlying214
 a218 := Tryz.isAgg214
 z218 := Tryz.sizeOf214
 v218 := Tryz.zeroValue214
 t222 := Tryz.underlying218
 a222 := Tryz.isAgg218
 z222 := Tryz.sizeOf218
 v222 := Tryz.zeroValue218
 t228 := Tryz.underlying224
 a228 := Tryz.isAgg224
 z228 := Tryz.sizeOf224
 v228 := Tryz.zeroValue224
 t229 := Tryz.underlying225
 a229 := Tryz.isAgg225
 z229 := Tryz.sizeOf225
 v229 := Tryz.zeroValue225 }
def c3c : Go.Shelf.Ren := ⟨fun | 194 => 114 | n => n, fun | 31 => 103 | 9 => 9 | 3 => 3 | 4 => 4 | 0 => 0 | n => n, fun | n => n⟩
theorem b6g : Go.Proofs.Lays.n194 Tryz.prog c3c := {
 mixed := by kernel_rfl
 f194 := Tryz.func114.trans (congrArg some (by kernel_rfl))
 t0 := Tryz.underlying0
 a0 := Tryz.isAgg0
 z0 := Tryz.sizeOf0
 v0 := Tryz.zeroValue0
 t3 := Tryz.underlying3
 a3 := Tryz.isAgg3
 z3 := Tryz.sizeOf3
 v3 := Tryz.zeroValue3
 t4 := Tryz.underlying4
 a4 := Tryz.isAgg4
 z4 := Tryz.sizeOf4
 v4 := Tryz.zeroValue4
 t9 := Tryz.underlying9
 a9 := Tryz.isAgg9
 z9 := Tryz.sizeOf9
 v9 := Tryz.zeroValue9
 t31 := Tryz.underlying103
 a31 := Tryz.isAgg103
 z31 := Tryz.sizeOf103
 v31 := Tryz.zeroValue103 }
theorem c4s : SortOk Tryz.prog 113 := ⟨fun blk off cap ss w h1 h2 h3 => Any.slices_Sort_string b4B blk off cap ss w h1 h2 h3, fun p cap w => Any.slices_Sort_string_none b4B p cap w⟩
theorem c2i : CompOk Tryz.prog 114 := ⟨fun blk off cap zs w h1 h2 h3 => Any.slices_Compact_string b6g blk off cap zs w h1 h2 h3, fun p cap w => Any.slices_Compact_string_empty b6g p cap w⟩
end Go.Proofs.YteellmjlalgjaaaGreat
namespace Go.Proofs.YteellmjlalgjaaaGreat
open Go.RowKit
open Go.Proofs
set_option linter.unusedVariables false
set_option linter.unusedSimpArgs false
section
variable {P : Program} {C : Ctx} {nt : Nat} {σ : St} {L : Lyt} {a : Act} {w : World} {o : Oper} {x y : Operand} {T : TT}
theorem b0j {C C' : Ctx} {L L' : Lyt} {w : World} {c : CV} {v : Value} (hp : c.plain = true) (h : CVr C' L' w c v) : CVr C L w c v := by
 obtain ⟨h1, h2, h3⟩ := b0f hp
 have := b2C (C := C) (L := L) (m := 0) h1 (by rw [h2]; simp) h
 rwa [h3] at this
theorem c3r {f : FuncId} {xs : List Operand} {ats : Array TypeId} {us : List SV} {d : Nat} {a1 c a2 u1 u2 p q r1 r2 : CV} {dd : DV} (ho : o.op = .call { callee := .value (.func f), args := (x :: xs).toArray, argTypes := ats }) (hd : o.dst = some d) (hn : Nat.blt d nt = true)
  (hc : ∀ (args : Array Value) (w : World), (callFunc f args).run P w = .ok (.enter f args) w) (hf : PFn P f (.agg [u1, .arg 0 dd, u2] :: us) (.tup [(true, [p, .arg 0 dd, q]), (false, [r1]), (false, [r2])]))
  (hx : Ev P C nt σ x (.agg [a1, c, a2])) (h1 : a2F σ a1 u1) (hcc : a2F σ c (.dv [] dd)) (h2 : a2F σ a2 u2) (ha : a2t P C nt σ xs us) (hp : p.plain = true) (hq : q.plain = true) (hr1 : r1.plain = true) (hr2 : r2.plain = true) (hck : (c.keys.all fun k => (lkk σ k).isSome) = true) :
  EfG P C nt o σ (fun σ' => σ' = σ.put d (.tup [(true, [p, c, q]), (false, [r1]), (false, [r2])])) := EfG.mk fun L a w hr K Q hK => by
 have e1 := hx.run L a w hr
 simp only [SVr, CVL] at e1
 obtain ⟨vs, ex, v1, vs1, rfl, k1, vc, vs2, rfl, k2, v2, vs3, rfl, k3, rfl⟩ := e1
 let L0 : Lyt := { L with rv := fun _ => vc }
 obtain ⟨g1, g2⟩ := a9G hr L0 h1 k1
 obtain ⟨g3, g4⟩ := a9G hr L0 hcc k2
 obtain ⟨g5, g6⟩ := a9G hr L0 h2 k3
 obtain ⟨l1, l2⟩ := a8j hr L0 xs us ha
 refine a6B (xs := x :: xs) ho hc ?_
 have hent := b4f (P := P) (w := w) (L := L0) (us := .agg [u1, .arg 0 dd, u2] :: us) (vs := (x :: xs).map a.eval) (by simp [l1]) (fun i u hu => by
  cases i with
  | zero =>
   simp only [List.getElem?_cons_zero, Option.some.injEq] at hu
   subst hu
   refine ⟨a.eval x, rfl, ?_, ?_, rfl⟩
   ·rw [ex]
    simp only [SVr, CVL]
    refine ⟨_, rfl, v1, _, rfl, g1, vc, _, rfl, ?_, v2, _, rfl, g5, rfl⟩
    simp only [CVr] at g3 ⊢
    exact ⟨rfl, g3⟩
   ·have g0 : (CV.arg 0 dd).keys = [] := rfl
    simp only [SV.keys, List.flatMap_cons, List.flatMap_nil, g2, g6, g0, List.append_nil]
  | succ i =>
   obtain ⟨z, h5, h6, h7⟩ := l2 i u (by simpa using hu)
   exact ⟨a.eval z, by simp [h5], h6, h7⟩)
 refine (hf.ok w [] L0 ((x :: xs).map a.eval) (by simp [l1]) hent).mono ?_
 rintro e' w' ⟨r, res, σ', L', rfl, rfl, h3⟩
 have hg := hr.grow h3.chg
 have ht := h3.tm 0 _ (by simp [a0Y]; rfl)
 have e2 := hx.run L a w' hg
 simp only [SVr, CVL] at e2
 rw [ex] at e2
 obtain ⟨vs', ex', z1, zs1, rfl, _, zc, zs2, rfl, m2, z2, zs3, rfl, _, rfl⟩ := e2
 simp only [Value.agg.injEq, Array.mk.injEq, List.cons.injEq, and_true] at ex'
 obtain ⟨rfl, rfl, rfl⟩ := ex'
 have hrr : (#[r] : Array Value).getD 0 undef = r := rfl
 rw [hrr] at ht
 simp only [SVr, TVL, CVL, if_true] at ht
 obtain ⟨rs, rfl, us1, t1, rs1, rfl, ⟨p', pl, rfl, q1, c', pl2, rfl, q2, q', pl3, rfl, q3, rfl⟩, rfl, us2, t2, rs2, rfl, ⟨n', nl, rfl, q4, rfl⟩, e5, us3, t3, rs3, rfl, ⟨b', bl, rfl, q5, rfl⟩, e6, rfl⟩ := ht
 have q2 : c' = vc := by simp only [CVr] at q2; exact q2.1
 subst q2
 refine ⟨_, rfl, hK L _ _ _ rfl ?_ ⟨h3.chg, fun _ _ _ => rfl, fun _ _ _ => rfl⟩⟩
 rw [hd]
 refine hg.put (v := .tup [(true, [p, c, q]), (false, [r1]), (false, [r2])]) (by simpa [Nat.blt_eq] using hn) ?_ ?_ (by simp [SV.boxes])
 ·simp only [SVr, TVL, CVL, if_true]
  exact ⟨_, rfl, _, _, _, rfl, ⟨p', _, rfl, b0j hp q1, c', _, rfl, m2, q', _, rfl, b0j hq q3, rfl⟩, rfl, _, _, _, rfl, ⟨n', _, rfl, b0j hr1 q4, rfl⟩, by simpa using e5, _, _, _, rfl, ⟨b', _, rfl, b0j hr2 q5, rfl⟩, by simpa using e6, rfl⟩
 ·intro k hk
  have kp : ∀ {z : CV}, z.plain = true → z.keys = [] := fun h => (b0f h).2.1
  simp only [SV.keys, List.flatMap_cons, List.flatMap_nil, List.append_nil, kp hp, kp hq, kp hr1, kp hr2, List.nil_append] at hk
  exact List.all_eq_true.1 hck k hk
section
variable {Q : Exit → St → Prop} {all : Array Oper} {rest : List Oper} {tm : List (Nat × SV)} {bx : List (Nat × TypeId × List CV)} {ks : List (Nat × Option KC)} {oB oK : List Nat} {hd' : Nat → Bool} {listed : Array Bool} {fuel : Nat}
theorem c1z {A : a1Z} (i : Nat) {f : FuncId} {xs : List Operand} {ats : Array TypeId} {us : List SV} {d : Nat} {a1 c a2 u1 u2 p q r1 r2 : CV} {dd : DV} (hi : all[i]? = some o) (ht : b0r all listed A i = true) (hiA : (nos A).contains i = false) (hg : o.guard = none) (hd : o.dst = some d) (hv : VOk P all nt A ⟨tm, bx, ks⟩) (hv1 : VOk P all nt A ⟨(d, .tup [(true, [p, c, q]), (false, [r1]), (false, [r2])]) :: tm, bx, ks⟩) (ho : o.op = .call { callee := .value (.func f), args := (x :: xs).toArray, argTypes := ats }) (hn : Nat.blt d nt = true)
  (hc : ∀ (args : Array Value) (w : World), (callFunc f args).run P w = .ok (.enter f args) w) (hf : PFn P f (.agg [u1, .arg 0 dd, u2] :: us) (.tup [(true, [p, .arg 0 dd, q]), (false, [r1]), (false, [r2])]))
  (hx : Ev P C nt ⟨tm, bx, ks⟩ x (.agg [a1, c, a2])) (h1 : a2F ⟨tm, bx, ks⟩ a1 u1) (hcc : a2F ⟨tm, bx, ks⟩ c (.dv [] dd)) (h2 : a2F ⟨tm, bx, ks⟩ a2 u2) (ha : a2t P C nt ⟨tm, bx, ks⟩ xs us) (hp : p.plain = true) (hq : q.plain = true) (hr1 : r1.plain = true) (hr2 : r2.plain = true) (hck : (c.keys.all fun k => (lkk ⟨tm, bx, ks⟩ k).isSome) = true)
  (hb : (oB.all fun i => (look bx i).isSome) = true) (hk' : (oK.all fun k => (lkk ⟨tm, bx, ks⟩ k).isSome) = true)
  (h : OpsA P C nt Q all oB oK hd' A (listed.setIfInBounds i true) fuel ⟨(d, .tup [(true, [p, c, q]), (false, [r1]), (false, [r2])]) :: tm, bx, ks⟩) : OpsA P C nt Q all oB oK hd' A listed (fuel + 1) ⟨tm, bx, ks⟩ :=
 b3o i hi hg hv hiA hb hk' ht (fun B hB => EfG.mk fun L a w hr K Q' hk => by
  have he : Ext P C nt ⟨tm, bx, ks⟩ (St.adds ⟨tm, bx, ks⟩ B) := hv.ext hB
  exact (c3r (σ := St.adds ⟨tm, bx, ks⟩ B) ho hd hn hc hf (he.ev hx) (he.argC h1) (he.argC hcc) (he.argC h2) (he.args ha) hp hq hr1 hr2 (by simpa only [he.lkk] using hck)).run L a w hr K Q' fun L' σ' a' w' h1 h2 h3 => hk L' σ' a' w' (.inr (by
   subst h1
   exact fun L a w hr => hv1.perm hB hr)) h2 h3) h
end
theorem c0l (hT : TTOk P T) {t k off sz by_ : Nat} {zc : List CV} {c : KC} {ds : List DV} (ho : o.op = .store t x y) (hd : o.dst = none) (ht : look T.el t = some (sz, by_, zc)) (hx : Ev P C nt σ x (.eptr k off)) (hy : Ev P C nt σ y (.agg (a3d k off ds)))
  (hk : lkk σ k = some c) (hE : Nat.blt c.e 1000000 = true) (hds : sub off sz c.cs = ds) (hle : off + sz ≤ c.cs.length) : Ef P C nt o σ (fun σ' => σ' = σ.mut k [] true c) := Ef.mk fun L a w hr K Q hK => by
 have hE' : c.e < 1000000 := by simpa [Nat.blt_eq] using hE
 have hdl : ds.length = sz := by rw [← hds, a4B _ _ _ hle]
 have hkv : a1p σ (.agg (a3d k off ds)) = true := by
  simp only [a1p, SV.keys, SV.boxes, List.all_nil, Bool.and_true, List.all_eq_true]
  intro j hj
  rw [b1u j hj, hk]; rfl
 obtain ⟨us, h1, h2, h3⟩ := a4R (p := (true, a3d k off ds)) hr rfl hkv (hy.run L a w hr)
 have h4 := hx.run L a w hr
 simp only [SVr] at h4
 obtain ⟨g0, n0, cap0, e1, e2⟩ := h4
 obtain ⟨hpos, hcl, hro⟩ := a8O hr hk hE'
 rcases hro with ⟨e3, _⟩ | ⟨g, cap, cur, vs, f, e3, hg, hnc, hcm, hsz, htake, hfp, hown⟩
 ·rw [e1] at e3; cases e3
 rw [e1] at e3
 simp only [Value.slice.injEq, Option.some.injEq, Addr.mk.injEq, and_true, true_and] at e3
 obtain ⟨rfl, rfl, rfl⟩ := e3
 obtain ⟨inf, z, g1, g2, _⟩ := hT.el t sz by_ zc ht
 have hvl : vs.length = c.cs.length := a2n _ _ _ hown
 have hcur : c.cs.length ≤ cur.toList.length := by rw [hcl, Array.length_toList, hsz]; exact Nat.mul_le_mul_right _ hnc
 have hdvl : ∀ (ds : List DV) (off : Nat), (a3d k off ds).length = ds.length := fun ds => by
  induction ds with
  | nil => intro _; rfl
  | cons d ds ih => intro off; simp [a3d, ih]
 have hus : us.length = sz := by rw [a3f h2]; simp only [hdvl, hdl]
 have hcell : ∀ j v, vs[j]? = some v → w.cell? ⟨g0, j, none⟩ = some v := fun j v hj => by
  rw [cell_of_row w g0 j cur c.e (0, 0) hg]
  rw [← htake, List.getElem?_take] at hj
  split at hj
  ·simpa using hj
  ·cases hj
 have hX : c.cs = c.cs.take off ++ (ds ++ c.cs.drop (off + sz)) := by
  rw [← hds]
  unfold sub
  rw [← List.drop_drop, List.take_append_drop, List.take_append_drop]
 have hown2 := hown
 rw [hX] at hown2
 obtain ⟨v1, r1, f1, s1, rfl, rfl, o1, t1⟩ := a4N _ _ _ _ hown2
 obtain ⟨v2, v3, f2, f3, rfl, rfl, o2, o3⟩ := a4N _ _ _ _ t1
 have l1 := a2n _ _ _ o1
 have l2 := a2n _ _ _ o2
 have lA : (c.cs.take off).length = off := by rw [c5t]; omega
 have o2' : a0N w ds us f2 := b2f e1 o2 h2 (fun j v hj => hcell (off + j) v (by
  have hj' := (List.getElem?_eq_some_iff.1 hj).1
  rw [List.getElem?_append_right (by omega), List.getElem?_append_left (by omega), show off + j - v1.length = j by omega]
  exact hj))
 have hnew : a0N w c.cs (v1 ++ (us ++ v3)) (f1 ++ (f2 ++ f3)) := by
  rw [hX]
  exact a3h _ _ _ _ _ _ o1 (a3h _ _ _ _ _ _ o2' o3)
 have evs : a1c off us (cur.toList.take (c.n * c.sz)) = v1 ++ (us ++ v3) := by
  rw [htake]
  exact a5P (by omega) (by omega)
 have hnd := hr.kn k c hk
 rw [hfp, List.nodup_cons] at hnd
 have hrun := a7n (P := P) (vs := cur.toList) (z := z) (off := off) (t' := c.e) g1 g2 h1 hus h3 (by simpa using hg) (by omega)
 have hrel := hr.wrow (off := off) (us := us) (cs' := c.cs) (f' := f1 ++ (f2 ++ f3)) hk hE' e1 hg hnc hcm hsz hpos (by rw [← hcl]; omega) (by rw [evs]; exact hnew)
  (fun b hb => ⟨by rw [hfp]; exact List.mem_cons_of_mem _ hb, fun e => hnd.1 (by rw [← e]; exact hb)⟩) (by rw [hfp]; simp) hnd.2 hcl
 unfold Oper.wp execOp
 simp only [ho, e2, Sem.run_bind, hrun, Result.andThen_ok, Sem.run_pure, Oper.upon, hd, Act.put]
 exact hK _ _ _ _ rfl hrel
theorem c0Z {Q : Exit → St → Prop} {all : Array Oper} {rest : List Oper} {tm : List (Nat × SV)} {bx : List (Nat × TypeId × List CV)} {ks : List (Nat × Option KC)} (hT : TTOk P T) {t k off sz by_ : Nat} {zc : List CV} {c : KC} {ds : List DV} (hg : o.guard = none) (hd : o.dst = none) (ho : o.op = .store t x y) (ht : look T.el t = some (sz, by_, zc)) (hx : Ev P C nt ⟨tm, bx, ks⟩ x (.eptr k off)) (hy : Ev P C nt ⟨tm, bx, ks⟩ y (.agg (a3d k off ds)))
  (hk : lkk ⟨tm, bx, ks⟩ k = some c) (hE : Nat.blt c.e 1000000 = true) (hds : sub off sz c.cs = ds) (hle : off + sz ≤ c.cs.length)
  (h : Ops P C nt Q all rest ⟨a0i [k] [] tm, a0h [k] [] bx, (k, some c) :: ks⟩) : Ops P C nt Q all (o :: rest) ⟨tm, bx, ks⟩ := a3o hg (c0l hT ho hd ht hx hy hk hE hds hle) h
end
structure OpsX (P : Program) (C : Ctx) (nt : Nat) (Q : Exit → St → Prop) (all : Array Oper) (oB oK : List Nat) (b : Nat) (hd' : Nat → Bool) (listed : Array Bool) (fuel : Nat) (σ : St) : Prop where
 run : ∀ wb L a w, Rel P C nt L σ a w → SWX (L.bb b) wb w → C.w0.heap.size ≤ wb.heap.size → (∀ i ∈ oB, L.bb i < wb.heap.size) → (∀ k ∈ oK, ∀ b ∈ L.fp k, b < wb.heap.size) → a2q P .any all (QQ P C nt Q) (SWX (L.bb b) wb) hd' fuel listed a w
section
variable {P : Program} {C : Ctx} {nt : Nat} {Q : Exit → St → Prop} {all : Array Oper} {oB oK : List Nat} {hd' : Nat → Bool} {listed : Array Bool} {fuel b : Nat} {tm : List (Nat × SV)} {bx : List (Nat × TypeId × List CV)} {ks : List (Nat × Option KC)} {o : Oper} {d : Nat} {v X : SV} {Ks Bs : List Nat} {g : Bool} {x y : Operand} {T : TT}
theorem b4L (b : Nat) (hs : List Nat) {id : Nat} {l : List Oper} (hm : P.follows .mixedOrders = true) (hb : (oB.all fun i => (look bx i).isSome) = true) (hk : (oK.all fun k => (lkk ⟨tm, bx, ks⟩ k).isSome) = true)
  (h : OpsX P C nt Q l.toArray oB oK b (fun i => hs.contains i) (Array.replicate l.length false) l.length ⟨tm, bx, ks⟩) : Ok P C nt Q (.region id l.toArray true) ⟨tm, bx, ks⟩ := Ok.mk fun L a w hr => by
 have hr' := a9u hr
 refine a9K (SWX (L.bb b) w.drew) (fun i => hs.contains i) hm ?_
 have := h.run w.drew L a w.drew hr' (SWX.refl _ _) hr'.chg.size (fun i hi => ?_) (fun k hk' b hb' => ?_)
 ·simpa using this
 ·obtain ⟨x, hx⟩ := c5r.1 (List.all_eq_true.1 hb i hi)
  exact hr'.bx_lt hx
 ·obtain ⟨c, hc⟩ := c5r.1 (List.all_eq_true.1 hk k hk')
  exact hr'.k_lt hc b hb'
theorem a5n (i : Nat) (hi : all[i]? = some o) (ht : a4T .any all hd' listed i = true) (hg : o.guard = none) (hd : o.dst = some d) (hp : Pu P C nt o ⟨tm, bx, ks⟩ v Ks Bs) (h1 : (Ks.all fun k => oK.contains k && (lkk ⟨tm, bx, ks⟩ k).isSome) = true) (h2 : (Bs.all fun k => oB.contains k && (!(Nat.beq k b) && (look bx k).isSome)) = true) (h3 : (look bx b).isSome = true) (hn : Nat.blt d nt = true) (hk : a1p ⟨tm, bx, ks⟩ v = true)
  (h : OpsX P C nt Q all oB oK b hd' (listed.setIfInBounds i true) fuel ⟨(d, v) :: tm, bx, ks⟩) : OpsX P C nt Q all oB oK b hd' listed (fuel + 1) ⟨tm, bx, ks⟩ := ⟨fun wb L a w hr hs hw hB hK => by
 obtain ⟨r, q3, q4⟩ := hp.run L a w hr
 obtain ⟨xb, hxb⟩ := c5r.1 h3
 have hy : ∀ w', SWX (L.bb b) wb w' → (execOp a.eval o).run P w' = .ok (.value r) w' := fun w' hs' => q4 w' fun z _ hu => by
  have hz : z < wb.heap.size ∧ z ≠ L.bb b := by
   rcases hu with (⟨h5, h6⟩ | ⟨k, hk, hb⟩) | ⟨i, hi, rfl⟩
   ·refine ⟨by omega, fun e => ?_⟩
    rcases hr.b1 b xb hxb with g | g
    ·omega
    ·exact h6 (by rw [e]; exact g)
   ·have := List.all_eq_true.1 h1 k hk
    simp only [Bool.and_eq_true, List.contains_iff_mem] at this
    obtain ⟨c, hc⟩ := c5r.1 this.2
    exact ⟨hK k this.1 z hb, fun e => hr.bk b k xb c hxb hc (by rw [← e]; exact hb)⟩
   ·have := List.all_eq_true.1 h2 i hi
    simp only [Bool.and_eq_true, List.contains_iff_mem, Bool.not_eq_true'] at this
    obtain ⟨c, hc⟩ := c5r.1 this.2.2
    exact ⟨hB i this.1, hr.bb i b c xb hc hxb (Nat.ne_of_beq_eq_false this.2.1)⟩
  rw [hs'.2 z hz.1 hz.2, hs.2 z hz.1 hz.2]
 refine a6w i (v := r) hi ht (fun _ _ _ h => h) hs (.inl ⟨by simp [Region.wanted, hg], hy⟩) ?_
 rw [hd]
 exact h.run wb L _ w (hr.put (by simpa [Nat.blt_eq] using hn) q3 (a2f hk).1 (a2f hk).2) hs hw hB hK⟩
theorem b7T (i : Nat) {t j t' sz by_ : Nat} {zc cs : List CV} {p : Bool × List CV} (hi : all[i]? = some o) (ht : (Region.ready .any all listed == [i]) = true) (hg : o.guard = none) (hT : TTOk P T) (ho : o.op = .store t x y) (hd : o.dst = none) (hte : look T.el t = some (sz, by_, zc)) (hx : Ev P C nt ⟨tm, bx, ks⟩ x (.box b j)) (hy : Ev P C nt ⟨tm, bx, ks⟩ y v) (hp : v.part = some p) (hk : a1p ⟨tm, bx, ks⟩ v = true)
  (hb : look bx b = some (t', cs)) (hl : p.2.length = sz) (hle : Nat.ble (j + sz) cs.length = true) (hkc : (cs.flatMap CV.keys).all (fun k => (lkk ⟨tm, bx, ks⟩ k).isSome) = true)
  (h : OpsX P C nt Q all oB oK b hd' (listed.setIfInBounds i true) fuel ⟨tm, (b, t', a1c j p.2 cs) :: bx, ks⟩) : OpsX P C nt Q all oB oK b hd' listed (fuel + 1) ⟨tm, bx, ks⟩ := ⟨fun wb L a w hr hs hw hB hK => by
 refine a8D i hi hg ht fun K hK' => ?_
 obtain ⟨us, h1, h2, h3⟩ := a4R hr hp hk (hy.run L a w hr)
 have h4 := hx.run L a w hr
 simp only [SVr] at h4
 obtain ⟨vs, h5, h6⟩ := hr.bx b t' cs hb
 obtain ⟨inf, z, g1, g2, _⟩ := hT.el t sz by_ zc hte
 have hrun := a7n (z := z) g1 g2 h1 (by rw [a3f h2]; exact hl) h3 h5 (off := j) (by rw [a3f h6]; simpa [Nat.ble_eq] using hle)
 unfold Oper.wp execOp
 simp only [ho, h4, Sem.run_bind, hrun, Result.andThen_ok, Sem.run_pure, Oper.upon, hd, Act.put]
 have hs' := hs.chg (a7A w (L.bb b) (a1c j us vs).toArray)
 refine hK' _ _ (fun _ => hs') (h.run wb L _ _ (hr.setbox hb (a7A _ _ _) (setRow_heap _ _ _ _ _ _ h5) (b1i j h6 h2) ?_) hs' hw hB hK)
 intro k hm
 simp only [a1c, List.flatMap_append, List.mem_append, or_assoc] at hm
 simp only [List.all_eq_true] at hkc
 rcases hm with hm | hm | hm
 ·exact hkc k (by
   obtain ⟨c, hc, hk'⟩ := List.mem_flatMap.1 hm
   exact List.mem_flatMap.2 ⟨c, List.mem_of_mem_take hc, hk'⟩)
 ·rw [a5O hp] at hm; exact (a2f hk).1 k hm
 ·exact hkc k (by
   obtain ⟨c, hc, hk'⟩ := List.mem_flatMap.1 hm
   exact List.mem_flatMap.2 ⟨c, List.mem_of_mem_drop hc, hk'⟩)⟩
theorem b5o (is : List Nat) (hm : (is.all fun i => (all[i]?).isSome) = true) (hf : Nat.ble is.length fuel = true) (hc : a7K .any all hd' is listed = true) (h : Ops P C nt Q all (is.filterMap fun i => all[i]?) ⟨tm, bx, ks⟩) : OpsX P C nt Q all oB oK b hd' listed fuel ⟨tm, bx, ks⟩ := ⟨fun wb L a w hr _ _ _ _ =>
 a9h is _ listed fuel a w (a9C hm) (by simpa [Nat.ble_eq] using hf) hc (h.run L a w hr)⟩
theorem c0A (i : Nat) {R : St → Prop} (hi : all[i]? = some o) (ht : (Region.ready .any all listed == [i]) = true) (hg : o.guard = none) (hp : EfG P C nt o ⟨tm, bx, ks⟩ R) (hb : (oB.all fun i => (look bx i).isSome) = true) (hk : (oK.all fun k => (lkk ⟨tm, bx, ks⟩ k).isSome) = true) (hbb : (look bx b).isSome = true)
  (h : ∀ σ', R σ' → OpsX P C nt Q all oB oK b hd' (listed.setIfInBounds i true) fuel σ') : OpsX P C nt Q all oB oK b hd' listed (fuel + 1) ⟨tm, bx, ks⟩ := ⟨fun wb L a w hr hs hw hB hK => by
 refine a8D i hi hg ht fun K hK' => hp.run L a w hr _ _ fun L' σ' a' w' h1 h2 h3 => ?_
 obtain ⟨xb, hxb⟩ := c5r.1 hbb
 have eb : L'.bb b = L.bb b := h3.box b xb hxb
 have hs' : SWX (L.bb b) wb w' := hs.chg (h3.chg.mono (by simp))
 refine hK' _ _ (fun _ => hs') ?_
 have := (h σ' h1).run wb L' a' w' h2 (by rw [eb]; exact hs') hw (fun j hj => ?_) (fun k hk' => ?_)
 ·rwa [eb] at this
 ·obtain ⟨x, hx⟩ := c5r.1 (List.all_eq_true.1 hb j hj)
  rw [h3.box j x hx]; exact hB j hj
 ·obtain ⟨c, hc⟩ := c5r.1 (List.all_eq_true.1 hk k hk')
  rw [h3.key k c hc]; exact hK k hk'⟩
theorem b6p (m i : Nat) {f : FuncId} {xs : List Operand} {ats : Array TypeId} {us : List SV} {kk : List (Nat × Option KC)} (hi : all[i]? = some o) (ht : (Region.ready .any all listed == [i]) = true) (hg : o.guard = none) (hd : o.dst = some d) (ho : o.op = .call { callee := .value (.func f), args := xs.toArray, argTypes := ats })
  (hc : ∀ (args : Array Value) (w : World), (callFunc f args).run P w = .ok (.enter f args) w) (hf : KFn P f us v kk) (ha : a2t P C nt ⟨tm, bx, ks⟩ xs us) (hn : Nat.blt d nt = true) (hres : v.retOk = true) (hfree : (kk.all fun q => (lkk ⟨tm, bx, ks⟩ (m + q.1)).isNone) = true)
  (hb : (oB.all fun i => (look bx i).isSome) = true) (hk : (oK.all fun k => (lkk ⟨tm, bx, ks⟩ k).isSome) = true) (hbb : (look bx b).isSome = true)
  (h : OpsX P C nt Q all oB oK b hd' (listed.setIfInBounds i true) fuel ⟨(d, v.sh m) :: tm, bx, shK m kk ++ ks⟩) : OpsX P C nt Q all oB oK b hd' listed (fuel + 1) ⟨tm, bx, ks⟩ :=
 c0A i hi ht hg (a9p (ι := Unit) (v := fun _ => v) (kk := fun _ => kk) (p := fun _ => True) m ho hd hn hc hf.ok ha (fun u σ' h => ⟨(), h.1, h.2, trivial⟩) (fun _ => hres) (fun _ => hfree)) hb hk hbb fun σ' ⟨_, _, e⟩ => by rw [e]; exact h
end
section
variable {P : Program} {C : Ctx} {nt : Nat} {o : Oper} {x y : Operand} {T : TT} {Q : Exit → St → Prop} {N : St → Prop} {all : Array Oper} {rest : List Oper} {σ : St} {tm : List (Nat × SV)} {bx : List (Nat × TypeId × List CV)} {ks : List (Nat × Option KC)} {d t : Nat} {v : SV} {ty : TypeId} {ps : String} {af : Array Edge}
theorem yA (e : o = { dst := some d, op := .move (.tmp t), type := ty, pos := ps, after := af, guard := none }) (hl : look tm t = some v) (hk : (Nat.blt d nt && a1p ⟨tm, bx, ks⟩ v) = true) (h : Ops P C nt Q all rest ⟨(d, v) :: tm, bx, ks⟩) : Ops P C nt Q all (o :: rest) ⟨tm, bx, ks⟩ := a6q (by rw [e]) (by rw [e]) (a1Q (.inl (by rw [e])) (a0a hl)) (Bool.and_eq_true_iff.1 hk).1 (Bool.and_eq_true_iff.1 hk).2 h
theorem yB (e : o = { dst := some d, op := .assign (.tmp t), type := ty, pos := ps, after := af, guard := none }) (hl : look tm t = some v) (hk : (Nat.blt d nt && a1p ⟨tm, bx, ks⟩ v) = true) (h : Ops P C nt Q all rest ⟨(d, v) :: tm, bx, ks⟩) : Ops P C nt Q all (o :: rest) ⟨tm, bx, ks⟩ := a6q (by rw [e]) (by rw [e]) (a1Q (.inr (by rw [e])) (a0a hl)) (Bool.and_eq_true_iff.1 hk).1 (Bool.and_eq_true_iff.1 hk).2 h
theorem yC {s f off b i : Nat} (hT : TTOk P T) (e : o = { dst := some d, op := .fieldAddr s (.tmp t) f, type := ty, pos := ps, after := af, guard := none }) (h1 : look T.of (1000 * s + f) = some off) (hf : Nat.blt f 1000 = true) (hl : look tm t = some (.box b i)) (hk : (Nat.blt d nt && a1p ⟨tm, bx, ks⟩ (.box b (i + off))) = true) (h : Ops P C nt Q all rest ⟨(d, .box b (i + off)) :: tm, bx, ks⟩) : Ops P C nt Q all (o :: rest) ⟨tm, bx, ks⟩ := a6q (by rw [e]) (by rw [e]) (a4S hT (by rw [e]) h1 hf (a0a hl)) (Bool.and_eq_true_iff.1 hk).1 (Bool.and_eq_true_iff.1 hk).2 h
theorem yD {s n b i t' : Nat} {cs : List CV} (hT : TTOk P T) (e : o = { dst := some d, op := .load s (.tmp t), type := ty, pos := ps, after := af, guard := none }) (h1 : look T.ag s = some n) (hl : look tm t = some (.box b i)) (hb : look bx b = some (t', cs)) (h2 : Nat.ble (i + n) cs.length = true) (hk : (Nat.blt d nt && a1p ⟨tm, bx, ks⟩ (.agg (sub i n cs))) = true) (h : Ops P C nt Q all rest ⟨(d, .agg (sub i n cs)) :: tm, bx, ks⟩) : Ops P C nt Q all (o :: rest) ⟨tm, bx, ks⟩ := a6q (by rw [e]) (by rw [e]) (a2i hT (by rw [e]) h1 (a0a hl) hb h2) (Bool.and_eq_true_iff.1 hk).1 (Bool.and_eq_true_iff.1 hk).2 h
theorem yE {s b i t' : Nat} {cs : List CV} {c : CV} {u : Unit} (hT : TTOk P T) (e : o = { dst := some d, op := .load s (.tmp t), type := ty, pos := ps, after := af, guard := none }) (h1 : look T.on s = some u) (hl : look tm t = some (.box b i)) (hb : look bx b = some (t', cs)) (h2 : cs[i]? = some c) (hk : (Nat.blt d nt && a1p ⟨tm, bx, ks⟩ (.one c)) = true) (h : Ops P C nt Q all rest ⟨(d, .one c) :: tm, bx, ks⟩) : Ops P C nt Q all (o :: rest) ⟨tm, bx, ks⟩ := a6q (by rw [e]) (by rw [e]) (a3C hT (by rw [e]) h1 (a0a hl) hb h2) (Bool.and_eq_true_iff.1 hk).1 (Bool.and_eq_true_iff.1 hk).2 h
theorem yG {k : IntKind} {n : Int} (e : o = { dst := some d, op := .assign (.const (.int k n)), type := ty, pos := ps, after := af, guard := none }) (h1 : (decide (k.min ≤ n) && decide (n ≤ k.max)) = true) (hk : (Nat.blt d nt && a1p ⟨tm, bx, ks⟩ (.one (.dv [] (.int k n)))) = true) (h : Ops P C nt Q all rest ⟨(d, .one (.dv [] (.int k n))) :: tm, bx, ks⟩) : Ops P C nt Q all (o :: rest) ⟨tm, bx, ks⟩ := a6q (by rw [e]) (by rw [e]) (a1Q (.inr (by rw [e])) (a0y (a0w h1))) (Bool.and_eq_true_iff.1 hk).1 (Bool.and_eq_true_iff.1 hk).2 h
theorem yH {b : Bool} (e : o = { dst := some d, op := .assign (.const (.bool b)), type := ty, pos := ps, after := af, guard := none }) (hk : (Nat.blt d nt && a1p ⟨tm, bx, ks⟩ (.one (.dv [] (.bool b)))) = true) (h : Ops P C nt Q all rest ⟨(d, .one (.dv [] (.bool b))) :: tm, bx, ks⟩) : Ops P C nt Q all (o :: rest) ⟨tm, bx, ks⟩ := a6q (by rw [e]) (by rw [e]) (a1Q (.inr (by rw [e])) a0P) (Bool.and_eq_true_iff.1 hk).1 (Bool.and_eq_true_iff.1 hk).2 h
theorem yR {id : Nat} {l : List Oper} {c : Code} (h : Ops P C nt (a5i (Ok P C nt Q c) Q) l.toArray l σ) : Ok P C nt Q (.seq (.region id l.toArray false) c) σ := a0p (a0j h)
theorem yN (h : N σ) : Ops P C nt (a5i N Q) all [] σ := a1j (a3W h)
theorem yO {Ks Bs : List Nat} (hg : o.guard = none) (hd : o.dst = some d) (hp : Pu P C nt o ⟨tm, bx, ks⟩ v Ks Bs) (hk : (Nat.blt d nt && a1p ⟨tm, bx, ks⟩ v) = true) (h : Ops P C nt Q all rest ⟨(d, v) :: tm, bx, ks⟩) : Ops P C nt Q all (o :: rest) ⟨tm, bx, ks⟩ := a6q hg hd hp (Bool.and_eq_true_iff.1 hk).1 (Bool.and_eq_true_iff.1 hk).2 h
theorem yS {s b i t' t2 sz by_ : Nat} {zc cs : List CV} {p : Bool × List CV} (hT : TTOk P T) (e : o = { dst := none, op := .store s (.tmp t) (.tmp t2), type := ty, pos := ps, after := af, guard := none }) (ht : look T.el s = some (sz, by_, zc)) (hx : look tm t = some (.box b i)) (hy : look tm t2 = some v) (hp : v.part = some p)
  (hb : look bx b = some (t', cs)) (hl : p.2.length = sz) (hk : (a1p ⟨tm, bx, ks⟩ v && (Nat.ble (i + sz) cs.length && (cs.flatMap CV.keys).all (fun k => (lkk ⟨tm, bx, ks⟩ k).isSome))) = true) (h : Ops P C nt Q all rest ⟨tm, (b, t', a1c i p.2 cs) :: bx, ks⟩) : Ops P C nt Q all (o :: rest) ⟨tm, bx, ks⟩ := by
 simp only [Bool.and_eq_true] at hk
 exact a7D hT (by rw [e]) (by rw [e]) (by rw [e]) ht (a0a hx) (a0a hy) hp hk.1 hb hl hk.2.1 hk.2.2 h
theorem yF {c : Code} {cs : List CV} {K : List Nat} {dd : DV} (t i : Nat) (hl : look σ.tm t = some (.agg cs)) (hi : cs[i]? = some (.dv K dd)) (h : a9E dd → Ok P C nt Q c σ) : Ok P C nt Q c σ := b9M (x := .tmp t) i (a0a hl) hi h
theorem yX {s : TypeId} {p : Bool × List CV} (e : o = { dst := some d, op := .box s (.tmp t), type := ty, pos := ps, after := af, guard := none }) (hl : look tm t = some v) (hp : v.part = some p) (hk : a1p ⟨tm, bx, ks⟩ v = true) (hn : Nat.blt d nt = true) (hi : look bx d = none)
  (h : Ops P C nt Q all rest ⟨(d, .box d 0) :: tm, (d, s, p.2) :: bx, ks⟩) : Ops P C nt Q all (o :: rest) ⟨tm, bx, ks⟩ := b9C (by rw [e]) (by rw [e]) (by rw [e]) (a0a hl) hp hk hn hi h
theorem kk : (∀ (α β : Type) (f : α → β) (a : α) (l : List α), (a :: l).map f = f a :: l.map f) ∧ (∀ (α β : Type) (f : α → β), ([] : List α).map f = []) ∧ (∀ (p : Nat → Bool) (a : Nat) (l : List Nat), (a :: l).any p = (p a || l.any p)) ∧ (∀ p : Nat → Bool, ([] : List Nat).any p = false) ∧ (∀ (a b : Nat) (l : List Nat), (a :: l).contains b = (b == a || l.contains b)) ∧ (∀ b : Nat, ([] : List Nat).contains b = false) ∧
  (∀ (α : Type) (l : List α), [] ++ l = l) ∧ (∀ (α : Type) (a : α) (l m : List α), a :: l ++ m = a :: (l ++ m)) ∧ (∀ b, (b || false) = b) ∧ (∀ b, (false || b) = b) ∧ (∀ b, (b || true) = true) ∧ (∀ b, (true || b) = true) ∧ (∀ (α : Type) (a b : α), (bif true then a else b) = a) ∧ (∀ (α : Type) (a b : α), (bif false then a else b) = b) := by
 refine ⟨fun _ _ _ _ _ => rfl, fun _ _ _ => rfl, fun _ _ _ => rfl, fun _ => rfl, fun a b l => List.contains_cons, fun _ => rfl, fun _ _ => rfl, fun _ _ _ _ => rfl, ?_, ?_, ?_, ?_, fun _ _ _ => rfl, fun _ _ _ => rfl⟩ <;> (intro b; cases b <;> rfl)
theorem yQ {c c' : Code} {K : List Nat} {b : Bool} (hl : look σ.tm t = some (.one (.dv K (.bool b)))) (h1 : b = true → Ok P C nt Q c σ) (h2 : b = false → Ok P C nt Q c' σ) : Ok P C nt Q (.cond (.tmp t) c c') σ := c2b (a0a hl) h1 h2
theorem yP {ty' s : TypeId} {K : List Nat} {m n : Int} (e : o = { dst := some d, op := .binOp .add s (.tmp t) (.const (.int .i64 n)) ty', type := ty, pos := ps, after := af, guard := none }) (hl : look tm t = some (.one (.dv K (.int .i64 m)))) (hi : (decide (IntKind.i64.min ≤ n) && decide (n ≤ IntKind.i64.max)) = true) (h1 : -9223372036854775808 ≤ m + n) (h2 : m + n ≤ 9223372036854775807) (hk : (Nat.blt d nt && a1p ⟨tm, bx, ks⟩ (.one (.dv [] (.int .i64 (m + n))))) = true) (h : Ops P C nt Q all rest ⟨(d, .one (.dv [] (.int .i64 (m + n)))) :: tm, bx, ks⟩) : Ops P C nt Q all (o :: rest) ⟨tm, bx, ks⟩ := a6q (by rw [e]) (by rw [e]) (a5v (by rw [e]) (a0a hl) (a0y (a0w hi)) (a4c h1 h2)) (Bool.and_eq_true_iff.1 hk).1 (Bool.and_eq_true_iff.1 hk).2 h
end
set_option maxHeartbeats 4000000 in
set_option maxRecDepth 100000 in
theorem c1a {e sz by_ n vc : Nat} {z : Value} {v : Value} {xs us : List Value} {va : Addr} {w : World} (ht : Tryz.prog.underlying 107 = some (.slice e)) (hinfo : (Tryz.prog.info? e).map (fun i => (i.zero, i.size, i.bytes)) = some (some z, sz, by_)) (hzs : z.cells.size = sz) (hsz : 0 < sz)
  (hown : w.ownsRow 0 e sz v n xs) (hsrc : a3w w (some va) 1 sz us) (h1 : ∀ u ∈ us, u.oneCell' = true) (h63 : n + 1 ≤ maxLen) (hb : (n + 1) * by_ ≤ 140737488355328) :
  Calls Tryz.prog 163 #[v, .int .i64 n, .slice (some va) 1 vc] w (a4k w v e sz n n xs us) := by
 have hm : n ≤ 9223372036854775807 := by unfold maxLen at h63; omega
 have hx1 : xs.length = n * sz := hown.1
 have hso : ∀ w, (Go.sizeOf e).run Tryz.prog w = .ok sz w := fun w => by
  obtain ⟨i0, q1, q2, q3, q4⟩ := info_parts hinfo
  simp [sizeOf, typeInfo, q1, q3]
 have hfin : ∀ A' c' w', w'.ownsRow 0 e sz (.slice A' (n + 1) c') (n + 1) (xs ++ us) → Chg v.ownBlock.toList w w' → (v.ownBlock = (Value.slice A' (n + 1) c').ownBlock ∨ (Value.slice A' (n + 1) c').ownBlock = some w.heap.size) → a4k w v e sz n n xs us (.returned (.slice A' (n + 1) c')) w' := fun A' c' w' g1 g2 g3 =>
  ⟨A', c', rfl, by rw [← hx1]; simpa using g1, g2, g3⟩
 rcases hown.2 with ⟨rfl, rfl⟩ | ⟨g, cap, cur, rfl, _, hg, hnc, hcm, hcs, htk⟩
 ·have HO := Lib.hid hown
  have HF := Lib.hid hfin
  have HS := Lib.hid hsrc
  have H1 := Lib.hid h1
  clear hown hfin hsrc h1 hx1
  go_enter Tryz.func163, Tryz.ntmps163
  go_wp2_with (at_builtin; refine a9Z _ rfl _ _ 107 rfl e z sz by_ ht hinfo hzs hsz _ 0 xs rfl HO (some va) 1 vc us rfl HS H1 h63 hb ?_; intro A' c' w' h9 hchg hblk)
  all_goals (go_ret; exact HF _ _ _ h9 hchg hblk)
 ·have HO := Lib.hid hown
  have HF := Lib.hid hfin
  have HS := Lib.hid hsrc
  have H1 := Lib.hid h1
  have HG := Lib.hid hg
  have HT := Lib.hid htk
  have hc63 : cap ≤ 9223372036854775807 := by unfold maxLen at hcm; omega
  clear hown hfin hsrc h1 hx1 hg htk
  go_enter Tryz.func163, Tryz.ntmps163
  go_wp2_with (at_builtin; refine a9Z _ rfl _ _ 107 rfl e z sz by_ ht hinfo hzs hsz _ n xs rfl HO (some va) 1 vc us rfl HS H1 h63 hb ?_; intro A' c' w' h9 hchg hblk)
  all_goals (go_ret; exact HF _ _ _ h9 hchg hblk)
set_option maxHeartbeats 4000000 in
set_option maxRecDepth 100000 in
theorem c1g {e sz by_ n i cap vb vcap e2 : Nat} {z : Value} {g : Nat} {xs us : List Value} {w : World} {cur curv : Array Value} (ht : Tryz.prog.underlying 107 = some (.slice e)) (hinfo : (Tryz.prog.info? e).map (fun i => (i.zero, i.size, i.bytes)) = some (some z, sz, by_)) (hsz : 0 < sz)
  (hxl : xs.length = n * sz) (hg : w.heap[g]? = some (.cells cur e (0, 0))) (hcm : cap ≤ maxLen) (hcs : cur.size = cap * sz) (htk : cur.toList.take (n * sz) = xs) (hx1 : ∀ u ∈ xs, u.oneCell' = true)
  (hgv : w.heap[vb]? = some (.cells curv e2 (0, 0))) (hul : us.length = sz) (hvs : curv.toList.take sz = us) (h1 : ∀ u ∈ us, u.oneCell' = true) (hne : vb ≠ g) (hi : i < n) (hroom : n + 1 ≤ cap) :
  Calls Tryz.prog 163 #[.slice (some ⟨g, 0, none⟩) n cap, .int .i64 i, .slice (some ⟨vb, 0, none⟩) 1 vcap] w (a4k w (.slice (some ⟨g, 0, none⟩) n cap) e sz n i xs us) := by
 have hso : ∀ w, (Go.sizeOf e).run Tryz.prog w = .ok sz w := fun w => by
  obtain ⟨i0, q1, q2, q3, q4⟩ := info_parts hinfo
  simp [sizeOf, typeInfo, q1, q3]
 have hsi : (Tryz.prog.info? e).map (·.size) = some sz := by
  obtain ⟨i0, q1, q2, q3, q4⟩ := info_parts hinfo
  rw [q1]; simp [q3]
 have hc63 : cap ≤ 9223372036854775807 := by unfold maxLen at hcm; omega
 have hz2 : ¬ ((i : Int) = (n : Int)) := by omega
 have hw1 : IntKind.i64.wrap ((i : Int) + 1) = (i : Int) + 1 := by rw [IntKind.wrap_i64]; omega
 have hw2 : IntKind.i64.wrap ((n : Int) + 1) = (n : Int) + 1 := by rw [IntKind.wrap_i64]; omega
 have hb1 : (0 : Int) ≤ (i : Int) + 1 := by omega
 have hin : i ≤ n := by omega
 have htn : ((i : Int) + 1).toNat = i + 1 := by omega
 have htn2 : ((n : Int) + 1).toNat = n + 1 := by omega
 have hb2 : ¬ (cap = i + 1) := by omega
 have hb3 : (i : Int) ≤ (n : Int) + 1 := by omega
 have hb4 : ¬ (cap = i) := by omega
 have hov : ∀ off lb cb, (callFunc 181 #[.slice (some ⟨vb, 0, none⟩) 1 vcap, .slice (some ⟨g, off, none⟩) lb cb]).run Tryz.prog w = .ok (.value (.bool false)) w := fun off lb cb => by
  rw [run_callFunc_extern Tryz.func181 (by kernel_rfl) (by kernel_rfl) (by kernel_rfl) (e := Extern.SlicesOverlaps.overlaps #[107, 107] #[4]) (by kernel_rfl),
   Lib.run_overlaps_apart w 107 4 e ht sz hso ⟨vb, 0, none⟩ ⟨g, off, none⟩ 1 vcap lb cb hne e2 e curv.size cur.size (by simp [World.shape?, hgv]) (by simp [World.shape?, hg]) (by rw [hcs]; exact Nat.ne_of_gt (Nat.mul_pos (by omega) hsz)) (by simp [World.frozen?, hgv]) (by simp [World.frozen?, hgv])]
  rfl
 have mixed : Tryz.prog.follows .mixedOrders = true := by kernel_rfl
 have hdl : (xs.drop (i * sz)).length = (n - i) * sz := by rw [List.length_drop, hxl, Nat.sub_mul]
 have m1 : (n + 1) * sz ≤ cap * sz := Nat.mul_le_mul_right _ hroom
 have m2 : (i + 1) * sz + (n - i) * sz = (n + 1) * sz := by rw [← Nat.add_mul]; congr 1; omega
 have m3 : i * sz + (n - i) * sz = n * sz := by rw [← Nat.add_mul]; congr 1; omega
 have m4 : (i + 1) * sz = i * sz + sz := by rw [Nat.add_mul, Nat.one_mul]
 have m5 : (n + 1) * sz = n * sz + sz := by rw [Nat.add_mul, Nat.one_mul]
 have hcur : ∀ j, j < n * sz → cur[j]? = xs[j]? := fun j hj => by rw [← htk, List.getElem?_take, if_pos hj, Array.getElem?_toList]
 obtain ⟨cur1, hcur1⟩ : ∃ cur1 : Array Value, cur1 = (cur.toList.take ((i + 1) * sz) ++ xs.drop (i * sz) ++ cur.toList.drop ((i + 1) * sz + (xs.drop (i * sz)).length)).toArray := ⟨_, rfl⟩
 obtain ⟨cur2, hcur2⟩ : ∃ cur2 : Array Value, cur2 = (cur1.toList.take (i * sz) ++ us ++ cur1.toList.drop (i * sz + us.length)).toArray := ⟨_, rfl⟩
 have hs1 : cur1.size = cap * sz := by
  rw [hcur1]
  simp only [List.size_toArray, c5s, c5t, List.length_drop, Array.length_toList, hcs, hxl]
  omega
 have hs2 : cur2.size = cap * sz := by
  rw [hcur2]
  simp only [List.size_toArray, c5s, c5t, List.length_drop, Array.length_toList, hs1, hul]
  omega
 have htk2 : cur2.toList.take ((n + 1) * sz) = xs.take (i * sz) ++ us ++ xs.drop (i * sz) := by
  have e1 : cur1.toList.take (i * sz) = xs.take (i * sz) := by
   rw [hcur1, ← htk, List.take_take, List.append_assoc, List.take_append_of_le_length (by simp only [c5t, Array.length_toList, hcs]; omega), List.take_take]
   congr 1; omega
  have e2 : (cur1.toList.drop (i * sz + us.length)).take ((n - i) * sz) = xs.drop (i * sz) := by
   rw [hcur1, hul, ← m4]
   have l1 : (cur.toList.take ((i + 1) * sz)).length = (i + 1) * sz := by simp only [c5t, Array.length_toList, hcs]; omega
   simp only [List.append_assoc]
   rw [List.drop_append_of_le_length (by omega), List.drop_eq_nil_of_le (by omega), List.nil_append, List.take_append_of_le_length (by omega), List.take_of_length_le (by omega)]
  rw [hcur2, e1]
  simp only []
  rw [← m2, m4, List.take_append, List.take_of_length_le (by simp only [c5s, c5t, hxl, hul]; omega)]
  congr 1
  rw [← e2]
  congr 1
  simp only [c5s, c5t, hxl, hul]
  omega
 have hcp1 : ∀ ty dc sc, (Builtin.copy_ #[107, 107] ty #[.slice (some ⟨g, (i + 1) * sz, none⟩) (n - i) dc, .slice (some ⟨g, i * sz, none⟩) (n + 1 - i) sc]).run Tryz.prog w.drew = .ok (goInt (Nat.min (n + 1 - i) (n - i))) (w.drew.setRow g cur1) := fun ty dc sc => by
  rw [hcur1]
  refine a6W w.drew _ _ ty e sz g ((i + 1) * sz) _ dc ⟨g, i * sz, none⟩ _ sc cur e (xs.drop (i * sz)) ht hsi hg (by rw [hdl]; congr 1; simp only [Nat.min_def]; split <;> omega) (fun j v hj => ?_) (by rw [hdl, hcs]; omega) (fun v hv => hx1 v (List.mem_of_mem_drop hv))
  rw [Addr.add_lit]
  rw [List.getElem?_drop] at hj
  have hj' := (List.getElem?_eq_some_iff.1 hj).1
  exact (cell_of_row w.drew g (i * sz + j) cur e (0, 0) hg).trans ((hcur _ (by omega)).trans hj)
 obtain ⟨W1, hW1⟩ : ∃ W1, W1 = w.drew.setRow g cur1 := ⟨_, rfl⟩
 have hgW : W1.heap[g]? = some (.cells cur1 e (0, 0)) := by rw [hW1]; exact setRow_heap _ g cur cur1 e _ hg
 have hgV : W1.heap[vb]? = some (.cells curv e2 (0, 0)) := by rw [hW1, (a5d (w := w.drew)).block vb (Array.getElem?_eq_some_iff.1 hgv).1 (by simpa using hne)]; exact hgv
 have hcp2 : ∀ ty dc, (Builtin.copy_ #[107, 107] ty #[.slice (some ⟨g, i * sz, none⟩) (n + 1 - i) dc, .slice (some ⟨vb, 0, none⟩) 1 vcap]).run Tryz.prog W1 = .ok (goInt (Nat.min 1 (n + 1 - i))) (W1.setRow g cur2) := fun ty dc => by
  rw [hcur2]
  refine a6W W1 _ _ ty e sz g (i * sz) _ dc ⟨vb, 0, none⟩ _ vcap cur1 e us ht hsi hgW (by rw [hul]; simp only [Nat.min_def]; split <;> first | omega | rfl | simp) (fun j v hj => ?_) (by rw [hul, hs1]; omega) h1
  rw [Addr.add_lit, cell_of_row _ vb _ curv e2 (0, 0) hgV, Nat.zero_add]
  have hj' := (List.getElem?_eq_some_iff.1 hj).1
  rw [← hvs, List.getElem?_take, if_pos (by omega), Array.getElem?_toList] at hj
  exact hj
 have hfin : a4k w (.slice (some ⟨g, 0, none⟩) n cap) e sz n i xs us (.returned (.slice (some ⟨g, 0, none⟩) (n + 1) cap)) (W1.setRow g cur2) := by
  refine ⟨_, _, rfl, ⟨?_, .inr ⟨g, cap, cur2, rfl, Nat.zero_le _, setRow_heap _ g cur1 cur2 e _ hgW, hroom, hcm, hs2, htk2⟩⟩, ?_, .inl rfl⟩
  ·simp only [c5s, c5t, List.length_drop, hxl, hul]; omega
  ·rw [hW1]
   exact ((Chg.refl [g] w).drew.trans a5d).trans a5d
 rw [← hW1] at hcp1
 have HF := Lib.hid hfin
 clear hcur1 hcur2 hfin hgW hgV htk2 hs2 hs1 hcur hx1 h1 hvs htk hxl hdl m1 m2 m3 m4 m5 hgv hg hcs hcm hinfo hsi hW1 hul
 go_enter Tryz.func163, Tryz.ntmps163
 go_wp2_with (simp only [hov])
 go_region_law_o (refine step_copy_runI rfl _ _ 107 107 rfl _ _ (by simp [Act.eval, Act.put]) (by simp [Act.eval, Act.put]) (hcp1 _ _ _) ?_)
 go_wp2_with (at_builtin; refine wpList_copy_runI _ rfl _ _ 107 107 rfl _ _ rfl rfl (hcp2 _ _) ?_)
 go_ret
 exact HF
set_option maxHeartbeats 4000000 in
set_option maxRecDepth 100000 in
theorem c4x {e sz by_ n i vb vcap e2 : Nat} {z : Value} {g : Nat} {xs us : List Value} {w : World} {cur curv : Array Value} (ht : Tryz.prog.underlying 107 = some (.slice e)) (hinfo : (Tryz.prog.info? e).map (fun i => (i.zero, i.size, i.bytes)) = some (some z, sz, by_)) (hzs : z.cells.size = sz) (hsz : 0 < sz)
  (hxl : xs.length = n * sz) (hg : w.heap[g]? = some (.cells cur e (0, 0))) (hcm : n ≤ maxLen) (hcs : cur.size = n * sz) (htk : cur.toList.take (n * sz) = xs) (hx1 : ∀ u ∈ xs, u.oneCell' = true)
  (hgv : w.heap[vb]? = some (.cells curv e2 (0, 0))) (hul : us.length = sz) (hvs : curv.toList.take sz = us) (h1 : ∀ u ∈ us, u.oneCell' = true) (hi : i < n) (h63 : n + 1 ≤ maxLen) (hb : (n + 1) * by_ ≤ 140737488355328) :
  Calls Tryz.prog 163 #[.slice (some ⟨g, 0, none⟩) n n, .int .i64 i, .slice (some ⟨vb, 0, none⟩) 1 vcap] w (a4k w (.slice (some ⟨g, 0, none⟩) n n) e sz n i xs us) := by
 obtain ⟨i0, q1, q2, q3, q4⟩ := info_parts hinfo
 have hso : ∀ w, (Go.sizeOf e).run Tryz.prog w = .ok sz w := fun w => by
  simp [sizeOf, typeInfo, q1, q3]
 have hsi : (Tryz.prog.info? e).map (·.size) = some sz := by
  rw [q1]; simp [q3]
 have hc63 : n + 1 ≤ 9223372036854775807 := by unfold maxLen at h63; omega
 have mixed : Tryz.prog.follows .mixedOrders = true := by kernel_rfl
 have hz2 : ¬ ((i : Int) = (n : Int)) := by omega
 have hw1 : IntKind.i64.wrap ((i : Int) + 1) = (i : Int) + 1 := by rw [IntKind.wrap_i64]; omega
 have hw2 : IntKind.i64.wrap ((n : Int) + 1) = (n : Int) + 1 := by rw [IntKind.wrap_i64]; omega
 have hw3 : IntKind.i64.wrap ((n : Int) + 1 - (i : Int)) = (n : Int) + 1 - (i : Int) := by rw [IntKind.wrap_i64]; omega
 have hb1 : (0 : Int) ≤ (i : Int) + 1 := by omega
 have hin : i ≤ n := by omega
 have htn : ((i : Int) + 1).toNat = i + 1 := by omega
 have hni : ¬ (n = i) := by omega
 have hkk : (n : Int) + 1 - (i : Int) = ((n + 1 - i : Nat) : Int) := by omega
 have hik : i + (n + 1 - i) = n + 1 := by omega
 have hdl : (xs.drop (i * sz)).length = (n - i) * sz := by rw [List.length_drop, hxl, Nat.sub_mul]
 have m2 : (i + 1) * sz + (n - i) * sz = (n + 1) * sz := by rw [← Nat.add_mul]; congr 1; omega
 have m3 : i * sz + (n - i) * sz = n * sz := by rw [← Nat.add_mul]; congr 1; omega
 have m4 : (i + 1) * sz = i * sz + sz := by rw [Nat.add_mul, Nat.one_mul]
 have m5 : (n + 1) * sz = n * sz + sz := by rw [Nat.add_mul, Nat.one_mul]
 have hcur : ∀ j, j < n * sz → cur[j]? = xs[j]? := fun j hj => by rw [← htk, List.getElem?_take, if_pos hj, Array.getElem?_toList]
 have htl : (xs.take (i * sz)).length = i * sz := by rw [c5t, hxl]; omega
 have hold : (Builtin.firstCells i0.size i (.slice (some ⟨g, 0, none⟩) i n)).run Tryz.prog w.drew = .ok (xs.take (i * sz)).toArray w.drew := by
  rw [q3]
  refine run_firstCells_some w.drew sz i ⟨g, 0, none⟩ i n (xs.take (i * sz)) (by rw [htl]) (fun j v hj => ?_)
  rw [Addr.add_lit, Nat.zero_add]
  rw [List.getElem?_take] at hj
  split at hj
  ·exact (cell_of_row w.drew g j cur e (0, 0) hg).trans ((hcur _ (by omega)).trans hj)
  ·cases hj
 obtain ⟨G, hG⟩ : ∃ G, G = grownCap w (n + 1) n e := ⟨_, rfl⟩
 have hGn : n + 1 ≤ G := by rw [hG]; exact grownCap_ge w _ _ _
 have hGm : G ≤ maxLen := by rw [hG]; exact grownCap_le_maxLen w (n + 1) n e h63
 obtain ⟨ROW, hROW⟩ : ∃ ROW : Array Value, ROW = (xs.take (i * sz)).toArray ++ Builtin.zeroCells z.cells (n + 1 - i) ++ Builtin.zeroCells z.cells (G - (n + 1)) := ⟨_, rfl⟩
 have hzl : ∀ k, (Builtin.zeroCells z.cells k).size = k * sz := fun k => by simp [Builtin.zeroCells, hzs]
 have hRs : ROW.size = G * sz := by
  rw [hROW]
  simp only [Array.size_append, List.size_toArray, htl, hzl]
  rw [← Nat.add_mul, ← Nat.add_mul]
  congr 1; omega
 obtain ⟨W1, hW1⟩ : ∃ W1, W1 = w.drew.alloc (.cells ROW e) := ⟨_, rfl⟩
 have hrz : ∀ ty, (Builtin.append_ #[107, 3] ty #[.slice (some ⟨g, 0, none⟩) i n, .int .i64 ((n : Int) + 1 - (i : Int))]).run Tryz.prog w =
   .ok (.slice (some ⟨w.heap.size, 0, none⟩) (n + 1) G) W1 := fun ty => by
  have h := Lib.run_append_grow_zeros (P := Tryz.prog) w 107 3 ty e i0 z .i64 .i64 ht (by kernel_rfl) q1 q2 (some ⟨g, 0, none⟩) i n (xs.take (i * sz)) hold (n + 1 - i) (by omega) (by omega) (by omega) (by omega) (by
   rw [q4]
   have : (n + 1 - i) * by_ ≤ (n + 1) * by_ := Nat.mul_le_mul_right _ (by omega)
   omega) (by rw [q4, hik]; exact growslice_fits (by omega) hb)
  rw [hik] at h
  rw [hkk, hW1, hROW, hG]
  exact h
 have hgW0 : W1.heap[w.heap.size]? = some (.cells ROW e (0, 0)) := by rw [hW1]; exact heap_alloc_new w.drew _
 have hgl : g < w.heap.size := (Array.getElem?_eq_some_iff.1 hg).1
 have hvl : vb < w.heap.size := (Array.getElem?_eq_some_iff.1 hgv).1
 have hc1 : Chg [] w W1 := by rw [hW1]; exact (Chg.refl [] w).drew.alloc _
 have hgV : W1.heap[vb]? = some (.cells curv e2 (0, 0)) := by rw [hc1.block vb hvl (by simp)]; exact hgv
 have hm1 : (n + 1) * sz ≤ G * sz := Nat.mul_le_mul_right _ hGn
 obtain ⟨R1, hR1⟩ : ∃ R1 : Array Value, R1 = (ROW.toList.take (i * sz) ++ us ++ ROW.toList.drop (i * sz + us.length)).toArray := ⟨_, rfl⟩
 have hs1 : R1.size = G * sz := by
  rw [hR1]
  simp only [List.size_toArray, c5s, c5t, List.length_drop, Array.length_toList, hRs, hul]
  omega
 obtain ⟨W2, hW2⟩ : ∃ W2, W2 = W1.setRow w.heap.size R1 := ⟨_, rfl⟩
 have hcpA : ∀ ty dc, (Builtin.copy_ #[107, 107] ty #[.slice (some ⟨w.heap.size, i * sz, none⟩) (n + 1 - i) dc, .slice (some ⟨vb, 0, none⟩) 1 vcap]).run Tryz.prog W1 = .ok (goInt (Nat.min 1 (n + 1 - i))) W2 := fun ty dc => by
  rw [hW2, hR1]
  refine a6W W1 _ _ ty e sz w.heap.size (i * sz) _ dc ⟨vb, 0, none⟩ _ vcap ROW e us ht hsi hgW0 (by rw [hul]; simp only [Nat.min_def]; split <;> first | omega | rfl | simp) (fun j v hj => ?_) (by rw [hul, hRs]; omega) h1
  rw [Addr.add_lit, cell_of_row _ vb _ curv e2 (0, 0) hgV, Nat.zero_add]
  have hj' := (List.getElem?_eq_some_iff.1 hj).1
  rw [← hvs, List.getElem?_take, if_pos (by omega), Array.getElem?_toList] at hj
  exact hj
 have hgW2 : W2.heap[w.heap.size]? = some (.cells R1 e (0, 0)) := by rw [hW2]; exact setRow_heap _ _ ROW R1 e _ hgW0
 have hgG : W2.heap[g]? = some (.cells cur e (0, 0)) := by
  rw [hW2, (a5d (w := W1) (g := w.heap.size)).block g (Nat.lt_of_lt_of_le hgl hc1.size) (by simp; omega), hc1.block g hgl (by simp)]; exact hg
 obtain ⟨R2, hR2⟩ : ∃ R2 : Array Value, R2 = (R1.toList.take ((i + 1) * sz) ++ xs.drop (i * sz) ++ R1.toList.drop ((i + 1) * sz + (xs.drop (i * sz)).length)).toArray := ⟨_, rfl⟩
 have hs2 : R2.size = G * sz := by
  rw [hR2]
  simp only [List.size_toArray, c5s, c5t, List.length_drop, Array.length_toList, hs1, hxl]
  omega
 obtain ⟨W3, hW3⟩ : ∃ W3, W3 = W2.drew.setRow w.heap.size R2 := ⟨_, rfl⟩
 have hcpB : ∀ ty dc sc, (Builtin.copy_ #[107, 107] ty #[.slice (some ⟨w.heap.size, (i + 1) * sz, none⟩) (n - i) dc, .slice (some ⟨g, i * sz, none⟩) (n - i) sc]).run Tryz.prog W2.drew = .ok (goInt (Nat.min (n - i) (n - i))) W3 := fun ty dc sc => by
  rw [hW3, hR2]
  refine a6W W2.drew _ _ ty e sz w.heap.size ((i + 1) * sz) _ dc ⟨g, i * sz, none⟩ _ sc R1 e (xs.drop (i * sz)) ht hsi hgW2 (by rw [hdl]; congr 1; simp) (fun j v hj => ?_) (by rw [hdl, hs1]; omega) (fun v hv => hx1 v (List.mem_of_mem_drop hv))
  rw [Addr.add_lit]
  rw [List.getElem?_drop] at hj
  have hj' := (List.getElem?_eq_some_iff.1 hj).1
  exact (cell_of_row W2.drew g (i * sz + j) cur e (0, 0) hgG).trans ((hcur _ (by omega)).trans hj)
 have htk2 : R2.toList.take ((n + 1) * sz) = xs.take (i * sz) ++ us ++ xs.drop (i * sz) := by
  have e1 : R1.toList.take ((i + 1) * sz) = xs.take (i * sz) ++ us := by
   rw [hR1, m4]
   simp only []
   rw [List.take_append_of_le_length (by simp only [c5s, c5t, Array.length_toList, hRs, hul]; omega), List.take_of_length_le (by simp only [c5s, c5t, Array.length_toList, hRs, hul]; omega)]
   congr 1
   rw [hROW]
   simp only [Array.toList_append, List.append_assoc]
   rw [List.take_append_of_le_length (by rw [htl]; exact Nat.le_refl _), List.take_of_length_le (by rw [htl]; exact Nat.le_refl _)]
  rw [hR2, e1]
  simp only []
  rw [List.take_append_of_le_length (by simp only [c5s, c5t, List.length_drop, hxl, hul]; omega), List.take_of_length_le (by simp only [c5s, c5t, List.length_drop, hxl, hul]; omega)]
 have hfin : a4k w (.slice (some ⟨g, 0, none⟩) n n) e sz n i xs us (.returned (.slice (some ⟨w.heap.size, 0, none⟩) (n + 1) G)) W3 := by
  refine ⟨_, _, rfl, ⟨?_, .inr ⟨w.heap.size, G, R2, rfl, Nat.zero_le _, by rw [hW3]; exact setRow_heap _ _ R1 R2 e _ hgW2, hGn, hGm, hs2, htk2⟩⟩, ?_, .inr rfl⟩
  ·simp only [c5s, c5t, List.length_drop, hxl, hul]; omega
  ·have c3 : Chg [w.heap.size] W1 W3 := by rw [hW3, hW2]; exact (a5d.drew).trans a5d
   refine ⟨c3.os.trans hc1.os, c3.tape.trans hc1.tape, c3.output.trans hc1.output, Nat.le_trans hc1.size c3.size, fun k hk hn => ?_⟩
   rw [c3.block k (Nat.lt_of_lt_of_le hk hc1.size) (by simp; omega), hc1.block k hk (by simp)]
 have HF := Lib.hid hfin
 have hGi : ¬ (G = i) := by omega
 have hGim : ¬ (G = i + 1) := by omega
 have hG63 : G ≤ 9223372036854775807 := by unfold maxLen at hGm; omega
 obtain ⟨H, hH⟩ : ∃ H, H = w.heap.size := ⟨_, rfl⟩
 rw [← hH] at hrz hcpA hcpB HF
 clear hH hfin hgW0 hgV hgW2 hgG htk2 hs2 hs1 hcur hx1 h1 hvs htk hxl hdl m2 m3 m4 m5 hgv hg hcs hcm hinfo hsi hW1 hW2 hW3 hul hR1 hR2 hROW hRs hzl hold htl hc1 hgl hvl hm1 hkk hik hG q1 q2 q3 q4 hzs
 go_enter Tryz.func163, Tryz.ntmps163
 go_wp2_with (first
  | (at_builtin; refine Lib.wpList_append_run _ rfl _ _ _ _ rfl _ _ rfl rfl _ _ (hrz _) ?_)
  | (at_builtin; refine wpList_copy_runI _ rfl _ _ 107 107 rfl _ _ rfl rfl (hcpA _ _) ?_))
 go_region_law_o (refine step_copy_runI rfl _ _ 107 107 rfl _ _ (by simp [Act.eval, Act.put]) (by simp [Act.eval, Act.put]) (hcpB _ _ _) ?_)
 go_wp2
 go_ret
 exact HF
theorem b9m {e sz by_ n i e2 : Nat} {z : Value} {v u : Value} {xs us : List Value} {w : World} (ht : Tryz.prog.underlying 107 = some (.slice e)) (hinfo : (Tryz.prog.info? e).map (fun i => (i.zero, i.size, i.bytes)) = some (some z, sz, by_)) (hzs : z.cells.size = sz) (hsz : 0 < sz)
  (hown : w.ownsRow 0 e sz v n xs) (hx1 : ∀ u ∈ xs, u.oneCell' = true) (hv : w.ownsRow 0 e2 sz u 1 us) (h1 : ∀ u ∈ us, u.oneCell' = true) (hne : ∀ b, v.ownBlock = some b → u.ownBlock ≠ some b) (hi : i ≤ n) (h63 : n + 1 ≤ maxLen) (hb : (n + 1) * by_ ≤ 140737488355328) :
  Calls Tryz.prog 163 #[v, .int .i64 i, u] w (a4k w v e sz n i xs us) := by
 have hul : us.length = sz := by rw [hv.1, Nat.one_mul]
 rcases hv.2 with ⟨_, h⟩ | ⟨vb, vcap, curv, rfl, _, hgv, hvc, _, _, hvt⟩
 ·cases h
 ·rw [Nat.one_mul] at hvt
  rcases Nat.lt_or_ge i n with hlt | hge
  ·rcases hown.2 with ⟨_, h⟩ | ⟨g, cap, cur, rfl, _, hg, hnc, hcm, hcs, htk⟩
   ·omega
   ·rcases Nat.lt_or_ge n cap with h | h
    ·exact c1g ht hinfo hsz hown.1 hg hcm hcs htk hx1 hgv hul hvt h1 (fun e => hne g rfl (by rw [e]; rfl)) hlt h
    ·have e1 : cap = n := by omega
     subst e1
     exact c4x ht hinfo hzs hsz hown.1 hg hcm hcs htk hx1 hgv hul hvt h1 hlt h63 hb
  ·have e1 : i = n := by omega
   subst e1
   refine c1a ht hinfo hzs hsz hown ⟨by rw [Nat.one_mul]; exact hul, fun _ => ⟨vb, 0, rfl, fun j x hj => ?_⟩⟩ h1 h63 hb
   rw [Nat.zero_add, cell_of_row _ vb _ curv e2 (0, 0) hgv]
   have hj' := (List.getElem?_eq_some_iff.1 hj).1
   rw [← hvt, List.getElem?_take, if_pos (by omega), Array.getElem?_toList] at hj
   exact hj
theorem b8w {sz by_ : Nat} {zc : List CV} (he : look a4I.el 161 = some (sz, by_, zc)) (hl0 : zc.length = sz) (hpos : 0 < sz) : InsOk Tryz.prog 163 161 sz by_ := by
 obtain ⟨inf, z, g1, g2, g3, g4, g5⟩ := hT.el _ _ _ _ he
 refine ⟨hpos, hT.lt _ _ he, fun hown hx1 hv h1 hne hi h63 hb => b9m (z := z) (by kernel_rfl) (by rw [g1]; simp [g2, g3, g4]) (by
  have := a6H g5
  simp only [Array.length_toList] at this
  rw [this, hl0]) hpos hown hx1 hv h1 hne hi h63 hb⟩
section
variable {P : Program} {C : Ctx} {nt : Nat} {σ : St} {o : Oper} {x y : Operand} {T : TT} {L : Lyt} {a : Act} {w : World}
theorem a2R {k i : Nat} (ho : o.op = .nilCheck x) (hx : Ev P C nt σ x (.eptr k i)) : Pu P C nt o σ (.eptr k i) [] [] := Pu.mk fun L a w hr => by
 have h1 := hx.run L a w hr
 simp only [SVr] at h1
 obtain ⟨g, n, c, h2, e⟩ := h1
 refine ⟨_, by simp only [SVr]; exact ⟨g, n, c, h2, rfl⟩, fun w' _ => ?_⟩
 unfold execOp
 simp only [ho, e, Sem.run_pure]
def a5J (σ : St) (k : Nat) : Nat → List CV → List DV → List DV → Prop
 | _, [], d0s, ds => d0s = [] ∧ ds = []
 | off, c :: cs, d0s, ds => ∃ d0 d0s' d ds', d0s = d0 :: d0s' ∧ ds = d :: ds' ∧ ((c = .nest k off d0 ∧ d = d0) ∨ OwC σ c d []) ∧ a5J σ k (off + 1) cs d0s' ds'
theorem b1n {k off : Nat} : a5J σ k off [] [] [] := ⟨rfl, rfl⟩
theorem a9v {k off off' : Nat} {cs : List CV} {d0 : DV} {d0s ds : List DV} (h : a5J σ k (off + 1) cs d0s ds) (e : off' = off) : a5J σ k off (.nest k off' d0 :: cs) (d0 :: d0s) (d0 :: ds) := ⟨d0, d0s, d0, ds, rfl, rfl, .inl ⟨by rw [e], rfl⟩, h⟩
theorem a4o {k off : Nat} {c : CV} {cs : List CV} {d0 d : DV} {d0s ds : List DV} (h1 : OwC σ c d []) (h : a5J σ k (off + 1) cs d0s ds) : a5J σ k off (c :: cs) (d0 :: d0s) (d :: ds) := ⟨d0, d0s, d, ds, rfl, rfl, .inr h1, h⟩
theorem b6f {k : Nat} : ∀ {cs : List CV} {off : Nat} {d0s ds : List DV}, a5J σ k off cs d0s ds → d0s.length = cs.length ∧ ds.length = cs.length
 | [], _, _, _, ⟨e1, e2⟩ => by subst e1; subst e2; exact ⟨rfl, rfl⟩
 | c :: cs, _, _, _, ⟨d0, d0s', d, ds', e1, e2, _, h⟩ => by
  subst e1; subst e2
  obtain ⟨h1, h2⟩ := b6f h
  simp [h1, h2]
theorem b4Z (hr : Rel P C nt L σ a w) {k g n cap : Nat} (e1 : L.rv k = .slice (some ⟨g, 0, none⟩) n cap) : ∀ {cs : List CV} {d0s ds : List DV} {vs us : List Value} {f : List Nat} {off : Nat}, a5J σ k off cs d0s ds → a0N w d0s vs f → CVL C L w cs us → (∀ j u, vs[j]? = some u → w.cell? ⟨g, off + j, none⟩ = some u) → ∃ f', f'.Sublist f ∧ a0N w ds us f'
 | [], _, _, _, _, _, _, ⟨h1, h2⟩, h, hc, _ => by
  subst h1; subst h2
  simp only [a0N] at h
  simp only [CVL] at hc
  exact ⟨[], by simp, hc, rfl⟩
 | c :: cs, _, _, _, _, _, off, ⟨d0, d0s', d, ds', e2, e3, hcd, hrec⟩, h, hc, hcell => by
  subst e2; subst e3
  simp only [a0N] at h
  obtain ⟨v, vs', f1, f2, rfl, rfl, h1, h2⟩ := h
  simp only [CVL] at hc
  obtain ⟨u, us', rfl, k1, k2⟩ := hc
  obtain ⟨f', s1, o1⟩ := b4Z hr e1 hrec h2 k2 (fun j z hz => by have := hcell (j + 1) z (by simpa using hz); rwa [show off + 1 + j = off + (j + 1) by omega])
  simp only [a0N]
  rcases hcd with ⟨rfl, rfl⟩ | hcd
  ·simp only [CVr] at k1
   obtain ⟨_, g', n', c', e2, _, e3⟩ := k1
   rw [e1] at e2
   simp only [Value.slice.injEq, Option.some.injEq, Addr.mk.injEq, and_true, true_and] at e2
   obtain ⟨rfl, _, _⟩ := e2
   have := hcell 0 v rfl
   rw [Nat.add_zero, e3] at this
   simp only [Option.some.injEq] at this
   exact ⟨f1 ++ f', (List.Sublist.refl f1).append s1, u, us', f1, f', rfl, rfl, by rw [this]; exact h1, o1⟩
  ·have := (b7h hr hcd k1).1
   exact ⟨f', s1.trans (List.sublist_append_right f1 f2), u, us', [], f', rfl, rfl, by simpa using this, o1⟩
theorem c1l (hT : TTOk P T) {t k off sz by_ : Nat} {zc : List CV} {c : KC} {v : SV} {p : Bool × List CV} {d0s ds : List DV} (ho : o.op = .store t x y) (hd : o.dst = none) (ht : look T.el t = some (sz, by_, zc)) (hx : Ev P C nt σ x (.eptr k off)) (hy : Ev P C nt σ y v) (hp : v.part = some p) (hkv : a1p σ v = true)
  (hk : lkk σ k = some c) (hE : Nat.blt c.e 1000000 = true) (hput : a5J σ k off p.2 d0s ds) (hl : p.2.length = sz) (hds : sub off sz c.cs = d0s) (hle : off + sz ≤ c.cs.length) : Ef P C nt o σ (fun σ' => σ' = σ.mut k [] true { c with cs := a1c off ds c.cs }) := Ef.mk fun L a w hr K Q hK => by
 have hE' : c.e < 1000000 := by simpa [Nat.blt_eq] using hE
 obtain ⟨pl1, pl2⟩ := b6f hput
 obtain ⟨us, h1, h2, h3⟩ := a4R hr hp hkv (hy.run L a w hr)
 have h4 := hx.run L a w hr
 simp only [SVr] at h4
 obtain ⟨g0, n0, cap0, e1, e2⟩ := h4
 obtain ⟨hpos, hcl, hro⟩ := a8O hr hk hE'
 rcases hro with ⟨e3, _⟩ | ⟨g, cap, cur, vs, f, e3, hg, hnc, hcm, hsz, htake, hfp, hown⟩
 ·rw [e1] at e3; cases e3
 rw [e1] at e3
 simp only [Value.slice.injEq, Option.some.injEq, Addr.mk.injEq, and_true, true_and] at e3
 obtain ⟨rfl, rfl, rfl⟩ := e3
 obtain ⟨inf, z, g1, g2, _⟩ := hT.el t sz by_ zc ht
 have hvl : vs.length = c.cs.length := a2n _ _ _ hown
 have hcur : c.cs.length ≤ cur.toList.length := by rw [hcl, Array.length_toList, hsz]; exact Nat.mul_le_mul_right _ hnc
 have hus : us.length = sz := by rw [a3f h2]; exact hl
 have hcell : ∀ j v, vs[j]? = some v → w.cell? ⟨g0, j, none⟩ = some v := fun j v hj => by
  rw [cell_of_row w g0 j cur c.e (0, 0) hg]
  rw [← htake, List.getElem?_take] at hj
  split at hj
  ·simpa using hj
  ·cases hj
 have hX : c.cs = c.cs.take off ++ (d0s ++ c.cs.drop (off + sz)) := by
  rw [← hds]
  unfold sub
  rw [← List.drop_drop, List.take_append_drop, List.take_append_drop]
 have hown2 := hown
 rw [hX] at hown2
 obtain ⟨v1, r1, f1, s1, rfl, rfl, o1, t1⟩ := a4N _ _ _ _ hown2
 obtain ⟨v2, v3, f2, f3, rfl, rfl, o2, o3⟩ := a4N _ _ _ _ t1
 have l1 := a2n _ _ _ o1
 have l2 := a2n _ _ _ o2
 have lA : (c.cs.take off).length = off := by rw [c5t]; omega
 obtain ⟨f2', hsub, o2'⟩ := b4Z hr e1 hput o2 h2 (fun j v hj => hcell (off + j) v (by
  have hj' := (List.getElem?_eq_some_iff.1 hj).1
  rw [List.getElem?_append_right (by omega), List.getElem?_append_left (by omega), show off + j - v1.length = j by omega]
  exact hj))
 have ecs : a1c off ds c.cs = c.cs.take off ++ (ds ++ c.cs.drop (off + sz)) := by
  have := a5P (A := c.cs.take off) (B := d0s) (us := ds) (D := c.cs.drop (off + sz)) lA.symm (by omega)
  rw [← hX] at this; exact this
 have hnew : a0N w (a1c off ds c.cs) (v1 ++ (us ++ v3)) (f1 ++ (f2' ++ f3)) := by
  rw [ecs]
  exact a3h _ _ _ _ _ _ o1 (a3h _ _ _ _ _ _ o2' o3)
 have evs : a1c off us (cur.toList.take (c.n * c.sz)) = v1 ++ (us ++ v3) := by
  rw [htake]
  exact a5P (by omega) (by omega)
 have hfs : (f1 ++ (f2' ++ f3)).Sublist (f1 ++ (f2 ++ f3)) := (List.Sublist.refl f1).append (hsub.append (List.Sublist.refl f3))
 have hnd := hr.kn k c hk
 rw [hfp, List.nodup_cons] at hnd
 have hrun := a7n (P := P) (vs := cur.toList) (z := z) (off := off) (t' := c.e) g1 g2 h1 hus h3 (by simpa using hg) (by omega)
 have hrel := hr.wrow (off := off) (us := us) (cs' := a1c off ds c.cs) (f' := f1 ++ (f2' ++ f3)) hk hE' e1 hg hnc hcm hsz hpos (by rw [← hcl]; omega) (by rw [evs]; exact hnew)
  (fun b hb => ⟨by rw [hfp]; exact List.mem_cons_of_mem _ (hfs.subset hb), fun e => hnd.1 (by rw [← e]; exact hfs.subset hb)⟩) (by rw [hfp]; simp) (hnd.2.sublist hfs) (by rw [a5T (by omega)]; exact hcl)
 unfold Oper.wp execOp
 simp only [ho, e2, Sem.run_bind, hrun, Result.andThen_ok, Sem.run_pure, Oper.upon, hd, Act.put]
 exact hK _ _ _ _ rfl hrel
theorem b0E {Q : Exit → St → Prop} {all : Array Oper} {rest : List Oper} {tm : List (Nat × SV)} {bx : List (Nat × TypeId × List CV)} {ks : List (Nat × Option KC)} (hT : TTOk P T) {t k off sz by_ : Nat} {zc : List CV} {c : KC} {v : SV} {p : Bool × List CV} {d0s ds cs : List DV} (hg : o.guard = none) (hd : o.dst = none) (ho : o.op = .store t x y) (ht : look T.el t = some (sz, by_, zc)) (hx : Ev P C nt ⟨tm, bx, ks⟩ x (.eptr k off)) (hy : Ev P C nt ⟨tm, bx, ks⟩ y v) (hp : v.part = some p) (hkv : a1p ⟨tm, bx, ks⟩ v = true)
  (hk : lkk ⟨tm, bx, ks⟩ k = some c) (hE : Nat.blt c.e 1000000 = true) (hput : a5J ⟨tm, bx, ks⟩ k off p.2 d0s ds) (hl : p.2.length = sz) (hds : sub off sz c.cs = d0s) (hle : off + sz ≤ c.cs.length) (hcs : a1c off ds c.cs = cs)
  (h : Ops P C nt Q all rest ⟨a0i [k] [] tm, a0h [k] [] bx, (k, some { c with cs := cs }) :: ks⟩) : Ops P C nt Q all (o :: rest) ⟨tm, bx, ks⟩ := a3o hg (c1l hT ho hd ht hx hy hp hkv hk hE hput hl hds hle) (by subst hcs; exact h)
end
section
variable {P : Program} {C : Ctx} {nt : Nat} {Q : Exit → St → Prop} {all : Array Oper} {oB oK : List Nat} {hd' : Nat → Bool} {listed : Array Bool} {fuel b : Nat} {tm : List (Nat × SV)} {bx : List (Nat × TypeId × List CV)} {ks : List (Nat × Option KC)} {o : Oper} {d : Nat} {v X : SV} {Ks Bs : List Nat} {g : Bool} {x y : Operand} {T : TT}
def SWL (Bs : List Nat) (wb w : World) : Prop := wb.heap.size ≤ w.heap.size ∧ ∀ k, k < wb.heap.size → k ∉ Bs → w.heap[k]? = wb.heap[k]?
theorem SWL.refl (Bs : List Nat) (w : World) : SWL Bs w w := ⟨Nat.le_refl _, fun _ _ _ => rfl⟩
theorem SWL.chg {Bs cs : List Nat} {wb w w' : World} (h : SWL Bs wb w) (hc : Chg cs w w') (hs : ∀ x ∈ cs, x ∈ Bs) : SWL Bs wb w' := ⟨Nat.le_trans h.1 hc.size, fun k hk hn => (hc.block k (Nat.lt_of_lt_of_le hk h.1) (fun hm => hn (hs k hm))).trans (h.2 k hk hn)⟩
section
variable {bs : List Nat}
theorem b9N (hd : o.dst = some d) (hn : Nat.blt d nt = true) (hp : Pu P C nt o ⟨tm, bx, ks⟩ v Ks Bs) (hk : a1p ⟨tm, bx, ks⟩ v = true) : EfG P C nt o ⟨tm, bx, ks⟩ (fun σ' => σ' = ⟨(d, v) :: tm, bx, ks⟩) := EfG.mk fun L a w hr K Q' hK => by
 obtain ⟨r, h1, h2⟩ := hp.run L a w hr
 unfold Oper.wp
 rw [h2 w (fun _ _ _ => rfl)]
 simp only [Oper.upon]
 rw [hd]
 exact hK L _ _ _ rfl (hr.put (by simpa [Nat.blt_eq] using hn) h1 (a2f hk).1 (a2f hk).2) ⟨Chg.refl [] w, fun _ _ _ => rfl, fun _ _ _ => rfl⟩
end
end
section
variable {P : Program} {C : Ctx} {nt : Nat} {σ : St} {o : Oper} {x y : Operand}
theorem a3R {σ' σ'' : St} (h1 : Weak P C nt σ σ') (h2 : Weak P C nt σ' σ'') : Weak P C nt σ σ'' := Weak.mk fun L a w hr => by
 obtain ⟨L', h⟩ := h1.run L a w hr
 exact h2.run L' a w h
theorem b5I {k e sz : Nat} (hk : lkk σ k = none) (hsz : Nat.blt 0 sz = true) : Weak P C nt σ { σ with ks := (k, some ⟨false, e, sz, 0, []⟩) :: σ.ks } := Weak.mk fun L a w hr => by
 have hpos : 0 < sz := by simpa [Nat.blt_eq] using hsz
 exact ⟨_, hr.newkey (k := k) (c := ⟨false, e, sz, 0, []⟩) (v := .slice none 0 0) (f := []) hk (a7s w e sz hpos) rfl (by simp) (by simp) (by simp) (by simp)⟩
end
section
variable {P : Program} {C : Ctx} {nt : Nat} {Q : Exit → St → Prop} {all : Array Oper} {rest : List Oper} {tm : List (Nat × SV)} {bx : List (Nat × TypeId × List CV)} {ks : List (Nat × Option KC)}
end
section
variable {P : Program} {C : Ctx} {nt : Nat} {σ : St}
end
/-! ### regions that draw their order and append to a nested cell of a key -/
section
variable {P : Program} {C : Ctx} {nt : Nat} {σ : St} {L : Lyt} {a : Act} {w : World} {o : Oper} {x y : Operand} {T : TT}
theorem Rel.splitX (h : Rel P C nt L σ a w) {k k' off e sz n : Nat} {c : KC} {cs : List DV} (hk : lkk σ k = some c) (hd : c.cs[off]? = some (.sl e sz n cs)) (hk' : lkk σ k' = none) :
  ∃ L' v g m cap, L.rv k = .slice (some ⟨g, 0, none⟩) m cap ∧ w.cell? ⟨g, off, none⟩ = some v ∧ L'.rv k = L.rv k ∧ L'.rv k' = v ∧ g ∈ L'.fp k ∧
   (L'.bb = L.bb ∧ (∀ i, i ≠ k → i ≠ k' → L'.fp i = L.fp i) ∧ (∀ b ∈ L'.fp k, b ∈ L.fp k) ∧ (∀ b ∈ L'.fp k', b ∈ L.fp k)) ∧ Rel P C nt L' ⟨(σ.mut k [] true { c with cs := c.cs.set off .hole }).tm, (σ.mut k [] true { c with cs := c.cs.set off .hole }).bx, (k', some ⟨false, e, sz, n, cs⟩) :: (k, some { c with cs := c.cs.set off .hole }) :: σ.ks⟩ a w := by
 have hlt : off < c.cs.length := (List.getElem?_eq_some_iff.1 hd).1
 have hown := (h.ks k c hk).1
 obtain ⟨g, cap, vs, f, k1, k2, k3, k4⟩ := a9J hown hlt
 obtain ⟨v, fa, fd, fb, m1, m2, m3, m4⟩ := b1m k3 hd
 have hkk : k ≠ k' := fun e' => by rw [← e', hk] at hk'; cases hk'
 have hgm : g ∈ L.fp k := by rw [k2]; simp
 have hnd := h.kn k c hk
 rw [k2, m2] at hnd
 simp only [List.nodup_cons, List.mem_append, not_or] at hnd
 obtain ⟨nd1, nd2⟩ := hnd
 rw [List.nodup_append] at nd2
 obtain ⟨nd2, nd3, nd4⟩ := nd2
 rw [List.nodup_append] at nd3
 obtain ⟨nd3, nd5, nd6⟩ := nd3
 have hown1 : Own w (.sl c.e c.sz c.n (c.cs.set off .hole)) (L.rv k) (g :: (fa ++ fb)) := by
  unfold Own at hown ⊢
  obtain ⟨vs2, f2, p1, p2, p3, p4, p5⟩ := hown
  have hvs : vs2 = vs := by
   rcases (a5o p4).2 with ⟨q1, q2⟩ | ⟨g2, cap2, cur, t2, fz2, q1, q3, q4, q5, q6, q7⟩
   ·rw [k1] at q1; cases q1
   ·rw [k1] at q1
    simp only [Value.slice.injEq, Option.some.injEq, Addr.mk.injEq, and_true, true_and] at q1
    obtain ⟨rfl, rfl⟩ := q1
    apply List.ext_getElem (by rw [a2n _ _ _ p5, a2n _ _ _ k3])
    intro i i1 i2
    have r1 := k4 i _ (List.getElem?_eq_getElem i2)
    rw [cell_of_row _ g i cur t2 fz2 q3] at r1
    have r3 : i < c.n * c.sz := by rw [← p3, ← a2n _ _ _ p5]; exact i1
    have r2 : vs2[i]? = cur[i]? := by rw [← q7, List.getElem?_take, if_pos r3, Array.getElem?_toList]
    rw [List.getElem?_eq_getElem i1] at r2
    rw [← r2] at r1
    exact Option.some.inj r1
  subst hvs
  exact ⟨vs2, fa ++ fb, by rw [k1]; simp [Value.ownBlock], p2, by simpa using p3, p4, m4⟩
 have hrel := h.setkey (k := k) (c := c) (c' := { c with cs := c.cs.set off .hole }) (js := []) (same := true) (v' := L.rv k) (f' := g :: (fa ++ fb)) hk (by simp) (Chg.refl _ _) hown1
  (by
   rw [List.nodup_cons, List.nodup_append]
   refine ⟨fun hm => ?_, nd2, nd5, fun x hx y hy => nd4 x hx y (by simp [hy])⟩
   simp only [List.mem_append] at hm
   rcases hm with hm | hm
   ·exact nd1.1 hm
   ·exact nd1.2.2 hm)
  (fun b hb => .inl (by
   rw [k2, m2]
   simp only [List.mem_cons, List.mem_append] at hb ⊢
   rcases hb with hb | hb | hb
   ·exact .inl hb
   ·exact .inr (.inl hb)
   ·exact .inr (.inr (.inr hb)))) (by simp) (fun _ => rfl) (fun e' => ⟨e', rfl⟩)
 have hfd : ∀ b ∈ fd, b ∈ L.fp k := fun b hb => by rw [k2, m2]; simp [hb]
 have hnew := hrel.newkey (k := k') (c := ⟨false, e, sz, n, cs⟩) (v := v) (f := fd)
  (by
   simp only [lkk, St.mut, List.map_nil, List.nil_append, List.cons_append, a0Y]
   rw [if_neg (fun e' => hkk e'.symm)]
   exact hk') m3 rfl nd3 (fun b hb => h.k1 k c hk b (hfd b hb))
  (fun b hb i x hx e' => by
   have hx' : ∃ y, look σ.bx i = some y := by
    have := a4M (fun q : TypeId × List CV => (q.1, q.2.map (CV.kill [k] []))) σ.bx i
    change look (a0h [k] [] σ.bx) i = _ at this
    change look (a0h [k] [] σ.bx) i = some x at hx
    rw [this] at hx
    cases hy : look σ.bx i with
    | none => rw [hy] at hx; cases hx
    | some q => exact ⟨q, rfl⟩
   obtain ⟨y, hy⟩ := hx'
   exact h.bk i k y c hy hk (by rw [show L.bb i = b from e']; exact hfd b hb))
  (fun b hb j d' hj => by
   simp only [lkk, St.mut, List.map_nil, List.nil_append, List.cons_append, a0Y] at hj
   by_cases hjk : j = k
   ·subst hjk
    simp only [if_true]
    intro hm
    simp only [List.mem_cons, List.mem_append] at hm
    rcases hm with hm | hm | hm
    ·exact nd1.2.1 (hm ▸ hb)
    ·exact nd4 b hm b (by simp [hb]) rfl
    ·exact nd6 b hb b hm rfl
   ·rw [if_neg hjk] at hj
    simp only [if_neg hjk]
    exact fun hm => h.kk j k d' c hj hk hjk b hm (hfd b hb))
 refine ⟨_, v, g, c.n, cap, k1, k4 off v m1, ?_, ?_, ?_, ?_, hnew⟩
 ·simp [hkk]
 ·simp
 ·simp [hkk]
 refine ⟨rfl, fun i h1 h2 => ?_, fun b hb => ?_, fun b hb => ?_⟩
 ·simp [h1, h2]
 ·simp only [if_neg hkk, if_true] at hb
  rw [k2, m2]
  simp only [List.mem_cons, List.mem_append] at hb ⊢
  rcases hb with hb | hb | hb
  ·exact .inl hb
  ·exact .inr (.inl hb)
  ·exact .inr (.inr (.inr hb))
 ·simp only [if_true] at hb
  exact hfd b hb
theorem c2n (hT : TTOk P T) {t e sz by_ d k j : Nat} {zc : List CV} {c c2 : KC} (ho : o.op = .call { callee := .builtin .append, args := #[x, y], argTypes := #[t, t] }) (hd : o.dst = some d) (hnt : Nat.blt d nt = true) (ht : look T.sl t = some e) (he : look T.el e = some (sz, by_, zc)) (hl0 : zc.length = sz)
  (hx : Ev P C nt σ x (.one (.key k))) (hk : lkk σ k = some c) (hce : c.e = e) (hcs : c.sz = sz) (hy : Ev P C nt σ y (.one (.key j))) (hj : lkk σ j = some c2) (hcs2 : c2.sz = sz) (hkj : k ∉ [j]) (hb : (c.n + c2.n) * by_ ≤ 140737488355328) (h63 : c.n + c2.n ≤ 9223372036854775807)
  {L : Lyt} {a : Act} {w : World} {K : Act → World → Prop} {Q : Exit → Act → World → Prop} (hr : Rel P C nt L σ a w) (hK : ∀ L' a' w', Rel P C nt L' ((σ.mut k [j] false ⟨false, e, sz, c.n + c2.n, c.cs ++ c2.cs⟩).put d (.one (.key k))) a' w' → AppF L L' w w' k [j] → K a' w') : o.wp P a w K Q := by
 have h1 := hx.run L a w hr
 have h2 := hy.run L a w hr
 simp only [SVr, CVr] at h1 h2
 have hown := (hr.ks j c2 hj).1
 have hlay := a4O (ok := fun _ => True) _ _ _ hown (fun _ _ => trivial)
 rw [hcs2] at hlay
 simp only [Own] at hown
 obtain ⟨vs, f, e3, h5, h6, h7, h8⟩ := hown
 obtain ⟨A, cap, vs', e1, hrow, hlay'⟩ := b1l hlay
 have hvs : vs' = vs := by
  have h7' := a5o h7
  rcases h7'.2 with ⟨g1, g2⟩ | ⟨g, cap2, cur, t', fz', g1, g2, g3, g4, g5, g6⟩
  ·have l1 : vs.length = 0 := by rw [h7'.1, g2]; simp
   have l2 : vs'.length = 0 := by rw [hrow.1, g2]; simp
   rw [List.eq_nil_of_length_eq_zero l1, List.eq_nil_of_length_eq_zero l2]
  ·rw [e1] at g1
   simp only [Value.slice.injEq, true_and] at g1
   obtain ⟨rfl, rfl⟩ := g1
   rcases Nat.eq_zero_or_pos c2.n with h0 | h0
   ·have l1 : vs.length = 0 := by rw [h7'.1, h0]; simp
    have l2 : vs'.length = 0 := by rw [hrow.1, h0]; simp
    rw [List.eq_nil_of_length_eq_zero l1, List.eq_nil_of_length_eq_zero l2]
   ·obtain ⟨b, off, k1, k2⟩ := hrow.2 h0
    simp only [Option.some.injEq, Addr.mk.injEq, and_true] at k1
    obtain ⟨rfl, rfl⟩ := k1
    apply List.ext_getElem (by rw [hrow.1, h7'.1, hcs2])
    intro i i1 i2
    have q1 := k2 i _ (List.getElem?_eq_getElem i1)
    rw [Nat.zero_add, cell_of_row w _ i cur t' fz' g2] at q1
    have q3 : i < c2.n * c2.sz := by rw [← h7'.1]; exact i2
    have q2 : vs[i]? = cur[i]? := by rw [← g6, List.getElem?_take, if_pos q3, Array.getElem?_toList]
    rw [List.getElem?_eq_getElem i2] at q2
    rw [← q2] at q1
    exact (Option.some.inj q1).symm
 subst hvs
 have hnf : f.Nodup := by
  have := hr.kn j c2 hj
  rw [e3] at this
  exact (List.nodup_append.1 this).2.1
 exact b2P hT ho hd (by simpa [Nat.blt_eq] using hnt) ht he hl0 hr hk hce hcs h1 (by rw [h2]; exact e1) hkj (by simp [hj]) hrow h8 (fun b hb' => ⟨j, by simp, by rw [e3]; simp [hb']⟩) hnf (by simpa [maxLen] using h63) hb hK
end
structure OpsK (P : Program) (C : Ctx) (nt : Nat) (Q : Exit → St → Prop) (all : Array Oper) (oB oK : List Nat) (k0 : Nat) (hd' : Nat → Bool) (listed : Array Bool) (fuel : Nat) (σ : St) : Prop where
 run : ∀ Bs wb L a w, Rel P C nt L σ a w → SWL Bs wb w → C.w0.heap.size ≤ wb.heap.size → (∀ i ∈ oB, L.bb i < wb.heap.size ∧ L.bb i ∉ Bs) → (∀ k ∈ oK, ∀ b ∈ L.fp k, b < wb.heap.size ∧ b ∉ Bs) → (∀ b ∈ L.fp k0, b ∈ Bs) → (∀ b ∈ Bs, a7J C b) → a2q P .any all (QQ P C nt Q) (SWL Bs wb) hd' fuel listed a w
structure OpsKJ (P : Program) (C : Ctx) (nt : Nat) (Q : Exit → St → Prop) (all : Array Oper) (oB oK : List Nat) (k0 : Nat) (hd' : Nat → Bool) (listed : Array Bool) (fuel : Nat) (i : Nat) (σ : St) : Prop where
 run : ∀ Bs wb L a w, Rel P C nt L σ a w → SWL Bs wb w → C.w0.heap.size ≤ wb.heap.size → (∀ i ∈ oB, L.bb i < wb.heap.size ∧ L.bb i ∉ Bs) → (∀ k ∈ oK, ∀ b ∈ L.fp k, b < wb.heap.size ∧ b ∉ Bs) → (∀ b ∈ L.fp k0, b ∈ Bs) → (∀ b ∈ Bs, a7J C b) →
  wpOp P all (QQ P C nt Q) i (fun a' w' => (hd' i = true → SWL Bs wb w') ∧ a2q P .any all (QQ P C nt Q) (SWL Bs wb) hd' fuel (listed.setIfInBounds i true) a' w') a w
def b2D (P : Program) (C : Ctx) (nt : Nat) (Q : Exit → St → Prop) (all : Array Oper) (oB oK : List Nat) (k0 : Nat) (hd' : Nat → Bool) (listed : Array Bool) (fuel : Nat) (σ : St) : List Nat → Prop
 | [] => True
 | i :: is => OpsKJ P C nt Q all oB oK k0 hd' listed fuel i σ ∧ b2D P C nt Q all oB oK k0 hd' listed fuel σ is
section
variable {P : Program} {C : Ctx} {nt : Nat} {Q : Exit → St → Prop} {all : Array Oper} {oB oK : List Nat} {k0 : Nat} {listed : Array Bool} {fuel : Nat} {hd' : Nat → Bool} {tm : List (Nat × SV)} {bx : List (Nat × TypeId × List CV)} {ks : List (Nat × Option KC)} {o : Oper} {d : Nat} {v X : SV} {Ks Bs0 : List Nat} {x y : Operand} {T : TT}
theorem b3W {σ : St} : ∀ {is : List Nat}, b2D P C nt Q all oB oK k0 hd' listed fuel σ is → ∀ i ∈ is, OpsKJ P C nt Q all oB oK k0 hd' listed fuel i σ
 | [], _, _, hi => by cases hi
 | j :: is, h, i, hi => by
  rcases List.mem_cons.1 hi with rfl | hi
  ·exact h.1
  ·exact b3W h.2 i hi
theorem b3E (k0 : Nat) (hs : List Nat) {id : Nat} {l : List Oper} (hm : P.follows .mixedOrders = true) (hb : (oB.all fun i => (look bx i).isSome) = true) (hk : (oK.all fun k => (lkk ⟨tm, bx, ks⟩ k).isSome && !(Nat.beq k k0)) = true) (h0 : (lkk ⟨tm, bx, ks⟩ k0).isSome = true)
  (h : OpsK P C nt Q l.toArray oB oK k0 (fun i => hs.contains i) (Array.replicate l.length false) l.length ⟨tm, bx, ks⟩) : Ok P C nt Q (.region id l.toArray true) ⟨tm, bx, ks⟩ := Ok.mk fun L a w hr => by
 have hr' := a9u hr
 obtain ⟨c0, hc0⟩ := c5r.1 h0
 refine a9K (SWL (L.fp k0) w.drew) (fun i => hs.contains i) hm ?_
 have := h.run (L.fp k0) w.drew L a w.drew hr' (SWL.refl _ _) hr'.chg.size (fun i hi => ?_) (fun k hk' b hb' => ?_) (fun b hb' => hb') (fun b hb' => hr.k1 k0 c0 hc0 b hb')
 ·simpa using this
 ·obtain ⟨x, hx⟩ := c5r.1 (List.all_eq_true.1 hb i hi)
  exact ⟨hr'.bx_lt hx, hr.bk i k0 x c0 hx hc0⟩
 ·have h1 := List.all_eq_true.1 hk k hk'
  simp only [Bool.and_eq_true, Bool.not_eq_true'] at h1
  obtain ⟨c, hc⟩ := c5r.1 h1.1
  have hne : k ≠ k0 := fun e => by rw [e] at h1; simp at h1
  exact ⟨hr'.k_lt hc b hb', hr.kk k k0 c c0 hc hc0 hne b hb'⟩
theorem a2k (i : Nat) (hi : all[i]? = some o) (ht : a4T .any all hd' listed i = true) (hg : o.guard = none) (hd : o.dst = some d) (hp : Pu P C nt o ⟨tm, bx, ks⟩ v Ks Bs0) (h1 : (Ks.all fun k => oK.contains k) = true) (h2 : (Bs0.all fun k => oB.contains k) = true) (hn : Nat.blt d nt = true) (hk : a1p ⟨tm, bx, ks⟩ v = true)
  (h : OpsK P C nt Q all oB oK k0 hd' (listed.setIfInBounds i true) fuel ⟨(d, v) :: tm, bx, ks⟩) : OpsK P C nt Q all oB oK k0 hd' listed (fuel + 1) ⟨tm, bx, ks⟩ := ⟨fun Bs wb L a w hr hs hw hB hK h0 hF => by
 obtain ⟨r, q3, q4⟩ := hp.run L a w hr
 have hy : ∀ w', SWL Bs wb w' → (execOp a.eval o).run P w' = .ok (.value r) w' := fun w' hs' => q4 w' fun z _ hu => by
  have hz : z < wb.heap.size ∧ z ∉ Bs := by
   rcases hu with (⟨h5, h6⟩ | ⟨k, hk, hb⟩) | ⟨i, hi, rfl⟩
   ·refine ⟨by omega, fun hb => ?_⟩
    rcases hF z hb with g | g
    ·omega
    ·exact h6 g
   ·exact hK k (List.contains_iff_mem.1 (List.all_eq_true.1 h1 k hk)) z hb
   ·exact hB i (List.contains_iff_mem.1 (List.all_eq_true.1 h2 i hi))
  rw [hs'.2 z hz.1 hz.2, hs.2 z hz.1 hz.2]
 refine a6w i (v := r) hi ht (fun _ _ _ h => h) hs (.inl ⟨by simp [Region.wanted, hg], hy⟩) ?_
 rw [hd]
 exact h.run Bs wb L _ w (hr.put (by simpa [Nat.blt_eq] using hn) q3 (a2f hk).1 (a2f hk).2) hs hw hB hK h0 hF⟩
theorem a3x {σ : St} (i : Nat) (is : List Nat) (hr : (Region.ready .any all listed == i :: is) = true) (h : b2D P C nt Q all oB oK k0 hd' listed fuel σ (i :: is)) : OpsK P C nt Q all oB oK k0 hd' listed (fuel + 1) σ := ⟨fun Bs wb L a w hrel hs hw hB hK h0 hF => by
 have hr' : Region.ready .any all listed = i :: is := by simpa using hr
 refine ⟨fun h0 => (by rw [hr'] at h0; cases h0), fun j hj => ?_⟩
 rw [hr'] at hj
 exact (b3W h j hj).run Bs wb L a w hrel hs hw hB hK h0 hF⟩
theorem b4I (i : Nat) {σ : St} (hi : all[i]? = some o) (hg : o.guard = none) (h : ∀ Bs wb L a w, Rel P C nt L σ a w → SWL Bs wb w → C.w0.heap.size ≤ wb.heap.size → (∀ i ∈ oB, L.bb i < wb.heap.size ∧ L.bb i ∉ Bs) → (∀ k ∈ oK, ∀ b ∈ L.fp k, b < wb.heap.size ∧ b ∉ Bs) → (∀ b ∈ L.fp k0, b ∈ Bs) → (∀ b ∈ Bs, a7J C b) →
   o.wp P a w (fun a' w' => (hd' i = true → SWL Bs wb w') ∧ a2q P .any all (QQ P C nt Q) (SWL Bs wb) hd' fuel (listed.setIfInBounds i true) a' w') (QQ P C nt Q)) : OpsKJ P C nt Q all oB oK k0 hd' listed fuel i σ := ⟨fun Bs wb L a w hr hs hw hB hK h0 hF => by
 unfold wpOp
 simp only [hi]
 have hw' : Region.wanted o (yielded all a.tmps) = true := by simp [Region.wanted, hg]
 rw [if_pos hw']
 exact .inl (h Bs wb L a w hr hs hw hB hK h0 hF)⟩
theorem b1v (i : Nat) {R : St → Prop} (hi : all[i]? = some o) (hg : o.guard = none) (hp : EfG P C nt o ⟨tm, bx, ks⟩ R) (hb : (oB.all fun i => (look bx i).isSome) = true) (hk : (oK.all fun k => (lkk ⟨tm, bx, ks⟩ k).isSome) = true) (hk0 : (lkk ⟨tm, bx, ks⟩ k0).isSome = true)
  (h : ∀ σ', R σ' → OpsK P C nt Q all oB oK k0 hd' (listed.setIfInBounds i true) fuel σ') : OpsKJ P C nt Q all oB oK k0 hd' listed fuel i ⟨tm, bx, ks⟩ :=
 b4I i hi hg fun Bs wb L a w hr hs hw hB hK h0 hF => hp.run L a w hr _ _ fun L' σ' a' w' h1 h2 h3 => by
  have hs' := hs.chg h3.chg (by simp)
  refine ⟨fun _ => hs', (h σ' h1).run Bs wb L' a' w' h2 hs' hw (fun j hj => ?_) (fun k hk' b' hb' => ?_) (fun b' hb' => ?_) hF⟩
  ·obtain ⟨x, hx⟩ := c5r.1 (List.all_eq_true.1 hb j hj)
   rw [h3.box j x hx]; exact hB j hj
  ·obtain ⟨c, hc⟩ := c5r.1 (List.all_eq_true.1 hk k hk')
   rw [h3.key k c hc] at hb'; exact hK k hk' b' hb'
  ·obtain ⟨c, hc⟩ := c5r.1 hk0
   rw [h3.key k0 c hc] at hb'; exact h0 b' hb'
theorem a8p (i : Nat) (hi : all[i]? = some o) (hg : o.guard = none) (hd : o.dst = some d) (hp : Pu P C nt o ⟨tm, bx, ks⟩ v Ks Bs0) (hn : Nat.blt d nt = true) (hk : a1p ⟨tm, bx, ks⟩ v = true) (hb : (oB.all fun i => (look bx i).isSome) = true) (hk' : (oK.all fun k => (lkk ⟨tm, bx, ks⟩ k).isSome) = true) (hk0 : (lkk ⟨tm, bx, ks⟩ k0).isSome = true)
  (h : OpsK P C nt Q all oB oK k0 hd' (listed.setIfInBounds i true) fuel ⟨(d, v) :: tm, bx, ks⟩) : OpsKJ P C nt Q all oB oK k0 hd' listed fuel i ⟨tm, bx, ks⟩ :=
 b1v i hi hg (b9N hd hn hp hk) hb hk' hk0 fun σ' e => by rw [e]; exact h
theorem a9Y (m i : Nat) {f : FuncId} {xs : List Operand} {ats : Array TypeId} {us : List SV} {kk : List (Nat × Option KC)} (hi : all[i]? = some o) (hg : o.guard = none) (hd : o.dst = some d) (ho : o.op = .call { callee := .value (.func f), args := xs.toArray, argTypes := ats })
  (hc : ∀ (args : Array Value) (w : World), (callFunc f args).run P w = .ok (.enter f args) w) (hf : KFn P f us v kk) (ha : a2t P C nt ⟨tm, bx, ks⟩ xs us) (hn : Nat.blt d nt = true) (hres : v.retOk = true) (hfree : (kk.all fun q => (lkk ⟨tm, bx, ks⟩ (m + q.1)).isNone) = true)
  (hb : (oB.all fun i => (look bx i).isSome) = true) (hk : (oK.all fun k => (lkk ⟨tm, bx, ks⟩ k).isSome) = true) (hk0 : (lkk ⟨tm, bx, ks⟩ k0).isSome = true)
  (h : OpsK P C nt Q all oB oK k0 hd' (listed.setIfInBounds i true) fuel ⟨(d, v.sh m) :: tm, bx, shK m kk ++ ks⟩) : OpsKJ P C nt Q all oB oK k0 hd' listed fuel i ⟨tm, bx, ks⟩ :=
 b1v i hi hg (a9p (ι := Unit) (v := fun _ => v) (kk := fun _ => kk) (p := fun _ => True) m ho hd hn hc hf.ok ha (fun u σ' h => ⟨(), h.1, h.2, trivial⟩) (fun _ => hres) (fun _ => hfree)) hb hk hk0 fun σ' ⟨_, _, e⟩ => by rw [e]; exact h
theorem a8s (i : Nat) (hT : TTOk P T) {t e sz by_ d k n : Nat} {zc cs : List CV} {ds : List DV} {js : List Nat} {ps : List (Nat × Operand)} (hi : all[i]? = some o) (hg : o.guard = none) (hd : o.dst = some d) (ho : o.op = .buildSlice t n ps.toArray) (hn : Nat.blt d nt = true) (ht : look T.sl t = some e) (he : look T.el e = some (sz, by_, zc)) (hl0 : zc.length = sz) (hsz : Nat.blt 0 sz = true) (hsm : Nat.ble (n * sz) 16777216 = true) (hps : ps.length = n) (hn0 : Nat.blt 0 n = true)
  (hx : a6k P C nt ⟨tm, bx, ks⟩ sz 0 ps cs) (how : a4p ⟨tm, bx, ks⟩ cs ds js) (hnj : js.Nodup) (hkj : k ∉ js) (hcl : cs.length = n * sz) (hk : lkk ⟨tm, bx, ks⟩ k = none)
  (hb : (oB.all fun i => (look bx i).isSome) = true) (hk' : (oK.all fun k => (lkk ⟨tm, bx, ks⟩ k).isSome) = true) (hk0 : (lkk ⟨tm, bx, ks⟩ k0).isSome = true)
  (h : OpsK P C nt Q all oB oK k0 hd' (listed.setIfInBounds i true) fuel ⟨(d, .one (.key k)) :: a0i (k :: js) (k :: js) tm, a0h (k :: js) (k :: js) bx, (k, some ⟨false, e, sz, n, ds⟩) :: ((js.map fun j => (j, none)) ++ (k, some ⟨false, e, sz, 0, []⟩) :: ks)⟩) : OpsKJ P C nt Q all oB oK k0 hd' listed fuel i ⟨tm, bx, ks⟩ :=
 b1v i hi hg (b5V hT ho hd hn ht he hl0 hsz hsm hps hn0 hx how hnj hkj hcl hk) hb hk' hk0 fun σ' e => by rw [e]; exact h
theorem a7Y (k' i : Nat) (hT : TTOk P T) {t tt e sz by_ d j off n n2 : Nat} {zc : List CV} {c c2 : KC} {cs ccs cs2 : List DV} (hi : all[i]? = some o) (hg : o.guard = none) (hd : o.dst = some d) (ho : o.op = .call { callee := .builtin .append, args := #[.tmp t, y], argTypes := #[tt, tt] }) (hnt : Nat.blt d nt = true) (ht : look T.sl tt = some e) (he : look T.el e = some (sz, by_, zc)) (hl0 : zc.length = sz)
  (hx : look tm t = some (.one (.nest k0 off (.sl e sz n cs)))) (hk : lkk ⟨tm, bx, ks⟩ k0 = some c) (hcs : c.cs[off]? = some (.sl e sz n cs)) (hk' : lkk ⟨tm, bx, ks⟩ k' = none) (hcc : c.cs.set off .hole = ccs)
  (hy : Ev P C nt (St.outs ⟨tm, bx, ks⟩ t k0 k' off e sz n c cs) y (.one (.key j))) (hj : lkk ⟨tm, bx, ks⟩ j = some c2) (hcs2 : c2.sz = sz) (hj0 : Nat.beq j k0 = false) (hb : (n + c2.n) * by_ ≤ 140737488355328) (h63 : n + c2.n ≤ 9223372036854775807) (hn2 : n + c2.n = n2) (hcs3 : cs ++ c2.cs = cs2)
  (hbb : (oB.all fun i => (look bx i).isSome) = true) (hkk : (oK.all fun k => (lkk ⟨tm, bx, ks⟩ k).isSome && (!(Nat.beq k k0) && !(Nat.beq k j))) = true)
  (h : OpsK P C nt Q all oB oK k0 hd' (listed.setIfInBounds i true) fuel ⟨(d, .one (.key k')) :: a0i [k', j] [k', j] ((t, .one (.key k')) :: a0i [k0] [] tm), a0h [k', j] [k', j] (a0h [k0] [] bx), (k', some ⟨false, e, sz, n2, cs2⟩) :: (j, none) :: (k', some ⟨false, e, sz, n, cs⟩) :: (k0, some { c with cs := ccs }) :: ks⟩) : OpsKJ P C nt Q all oB oK k0 hd' listed fuel i ⟨tm, bx, ks⟩ := by
 subst hcc; subst hn2; subst hcs3
 refine b4I i hi hg fun Bs wb L a w hr hs hw hB hK h0 hF => ?_
 have h1 := hr.tm t _ hx
 simp only [SVr, CVr] at h1
 obtain ⟨_, g, m, cap, e1, e2, e3⟩ := h1
 obtain ⟨L', v, g', m', cap', q1, q2, q3, q4, q5, ⟨s1, s2, s3, s4⟩, q6⟩ := hr.splitX hk hcs hk'
 rw [e1] at q1
 simp only [Value.slice.injEq, Option.some.injEq, Addr.mk.injEq, and_true, true_and] at q1
 obtain ⟨rfl, rfl, rfl⟩ := q1
 rw [e3] at q2
 have hv := Option.some.inj q2
 have hne : j ≠ k0 := fun e => by rw [e] at hj0; simp at hj0
 have hjk' : j ≠ k' := fun e => by rw [e, hk'] at hj; cases hj
 have hk0' : k0 ≠ k' := fun e => by rw [← e, hk] at hk'; cases hk'
 have hr1 : Rel P C nt L' (St.outs ⟨tm, bx, ks⟩ t k0 k' off e sz n c cs) a w := q6.also (d := t) (v := .one (.key k')) (by simp only [SVr, CVr]; rw [q4]; exact hv) (by simp [SV.keys, CV.keys, lkk, a0Y]) (by simp [SV.boxes])
 have hlk' : lkk (St.outs ⟨tm, bx, ks⟩ t k0 k' off e sz n c cs) k' = some ⟨false, e, sz, n, cs⟩ := by simp [lkk, a0Y]
 have hlj : lkk (St.outs ⟨tm, bx, ks⟩ t k0 k' off e sz n c cs) j = some c2 := by
  have : lkk ⟨tm, bx, ks⟩ j = some c2 := hj
  simp only [lkk, a0Y, if_neg hjk', if_neg hne] at this ⊢
  exact this
 refine c2n hT ho hd hnt ht he hl0 (a0a (by simp [a0Y])) hlk' rfl rfl hy hlj hcs2 (by simpa using hjk'.symm) hb h63 hr1 (fun L2 a' w' hr2 hf => ?_)
 have hsub : ∀ b ∈ L'.fp k', b ∈ Bs := fun b hb' => h0 b (s4 b hb')
 have hs' := hs.chg hf.chg hsub
 refine ⟨fun _ => hs', h.run Bs wb L2 a' w' hr2 hs' hw (fun z hz => ?_) (fun z hz b hb' => ?_) (fun b hb' => ?_) hF⟩
 ·rw [hf.bb, s1]; exact hB z hz
 ·have h5 := List.all_eq_true.1 hkk z hz
  simp only [Bool.and_eq_true, Bool.not_eq_true'] at h5
  have z1 : z ≠ k0 := fun e => by rw [e] at h5; simp at h5
  obtain ⟨c5, hc5⟩ := c5r.1 h5.1
  have z2 : z ≠ k' := fun e => by rw [e, hk'] at hc5; cases hc5
  rw [hf.fp z z2, s2 z z1 z2] at hb'
  exact hK z hz b hb'
 ·rw [hf.fp k0 hk0'] at hb'
  exact h0 b (s3 b hb')
theorem a8J (is : List Nat) (hm : (is.all fun i => (all[i]?).isSome) = true) (hf : Nat.ble is.length fuel = true) (hc : a7K .any all hd' is listed = true) (h : Ops P C nt Q all (is.filterMap fun i => all[i]?) ⟨tm, bx, ks⟩) : OpsK P C nt Q all oB oK k0 hd' listed fuel ⟨tm, bx, ks⟩ := ⟨fun _ wb L a w hr _ _ _ _ _ _ =>
 a9h is _ listed fuel a w (a9C hm) (by simpa [Nat.ble_eq] using hf) hc (h.run L a w hr)⟩
end
section
variable {P : Program} {C : Ctx} {nt : Nat} {Q : Exit → St → Prop} {all : Array Oper} {rest : List Oper} {σ : St} {o : Oper} {g : Bool}
structure OkRd (P : Program) (C : Ctx) (nt : Nat) (Q : Exit → St → Prop) (c : Code) (n : Nat) (σ : St) : Prop where
 run : ∀ L a w, Rel P C nt L σ a w → Code.rounds P c (QQ P C nt Q) n a w
theorem b8N (n : Nat) {c : Code} (h : OkRd P C nt Q c n σ) : Ok P C nt Q (.loop c) σ := Ok.mk fun L a w hr => wp_loop_rounds n (h.run L a w hr)
theorem a6p {n : Nat} {c : Code} (h : Ok P C nt (a5i (OkRd P C nt Q c n) Q) c σ) : OkRd P C nt Q c (n + 1) σ := OkRd.mk fun L a w hr => by
 rw [rounds_succ]
 refine wp_mono (h.run L a w hr) ?_
 intro e a w hq
 cases e with
 | normal => obtain ⟨L, σ, h1, h2⟩ := hq; exact h2.run L a w h1
 | exit => exact hq
 | goto => exact hq
 | ret => exact hq
 | panic => exact hq
 | outgrown => exact hq
section
variable {tm : List (Nat × SV)} {bx : List (Nat × TypeId × List CV)} {ks : List (Nat × Option KC)} {oB oK : List Nat} {hd' : Nat → Bool} {listed : Array Bool} {fuel : Nat} {d : Nat} {v X : SV} {Ks Bs : List Nat}
end
end
section
variable {C : Ctx} {nt : Nat} {x y : Operand} {σ : St} {ty0 : TypeId} {ps : String} {af : Array Edge} {dd : Option Tmp} {gg : Option (Nat × Bool)}
theorem qA {v : SV} (hx : Ev Tryz.prog C nt σ x v) : Pu Tryz.prog C nt ⟨dd, .move x, ty0, ps, af, gg⟩ σ v [] [] := a1Q (.inl rfl) hx
theorem qB {v : SV} (hx : Ev Tryz.prog C nt σ x v) : Pu Tryz.prog C nt ⟨dd, .assign x, ty0, ps, af, gg⟩ σ v [] [] := a1Q (.inr rfl) hx
theorem qC {s f off b i : Nat} (hx : Ev Tryz.prog C nt σ x (.box b i)) (h : look a4I.of (1000 * s + f) = some off) (hf : Nat.blt f 1000 = true) : Pu Tryz.prog C nt ⟨dd, .fieldAddr s x f, ty0, ps, af, gg⟩ σ (.box b (i + off)) [] [] := a4S hT rfl h hf hx
theorem qC2 {s f off : Nat} {K : List Nat} {ds : List DV} (hx : Ev Tryz.prog C nt σ x (.ref K ds)) (h : look a4I.of (1000 * s + f) = some off) (hf : Nat.blt f 1000 = true) : Pu Tryz.prog C nt ⟨dd, .fieldAddr s x f, ty0, ps, af, gg⟩ σ (.ref K (ds.drop off)) [] [] := a6i hT rfl h hf hx
theorem qC3 {s f off k i : Nat} (hx : Ev Tryz.prog C nt σ x (.eptr k i)) (h : look a4I.of (1000 * s + f) = some off) (hf : Nat.blt f 1000 = true) : Pu Tryz.prog C nt ⟨dd, .fieldAddr s x f, ty0, ps, af, gg⟩ σ (.eptr k (i + off)) [] [] := a6d hT rfl h hf hx
theorem qD {t n b i t' : Nat} {cs : List CV} (ht : look a4I.ag t = some n) (hx : Ev Tryz.prog C nt σ x (.box b i)) (hb : look σ.bx b = some (t', cs)) (hl : Nat.ble (i + n) cs.length = true) : Pu Tryz.prog C nt ⟨dd, .load t x, ty0, ps, af, gg⟩ σ (.agg (sub i n cs)) [] [b] := a2i hT rfl ht hx hb hl
theorem qD2 {t b i t' : Nat} {cs : List CV} {c : CV} {u : Unit} (ht : look a4I.on t = some u) (hx : Ev Tryz.prog C nt σ x (.box b i)) (hb : look σ.bx b = some (t', cs)) (hl : cs[i]? = some c) : Pu Tryz.prog C nt ⟨dd, .load t x, ty0, ps, af, gg⟩ σ (.one c) [] [b] := a3C hT rfl ht hx hb hl
theorem qD3 {t n : Nat} {K : List Nat} {ds : List DV} (ht : look a4I.ag t = some n) (hx : Ev Tryz.prog C nt σ x (.ref K ds)) (hl : Nat.ble n ds.length = true) : Pu Tryz.prog C nt ⟨dd, .load t x, ty0, ps, af, gg⟩ σ (.agg ((ds.take n).map (dvK K))) K [] := a7p hT rfl ht hx hl
theorem qD4 {t : Nat} {K : List Nat} {dv : DV} {ds : List DV} {u : Unit} (ht : look a4I.on t = some u) (hx : Ev Tryz.prog C nt σ x (.ref K ds)) (hd : ds[0]? = some dv) : Pu Tryz.prog C nt ⟨dd, .load t x, ty0, ps, af, gg⟩ σ (.one (dvK K dv)) K [] := b2c hT rfl ht hx hd
theorem qE {i : Nat} {ts : List (Bool × List CV)} {c : CV} (hx : Ev Tryz.prog C nt σ x (.tup ts)) (h : ts[i]? = some (false, [c])) : Pu Tryz.prog C nt ⟨dd, .extract x i, ty0, ps, af, gg⟩ σ (.one c) [] [] := a4F rfl hx h
theorem qE2 {i : Nat} {ts : List (Bool × List CV)} {cs : List CV} (hx : Ev Tryz.prog C nt σ x (.tup ts)) (h : ts[i]? = some (true, cs)) : Pu Tryz.prog C nt ⟨dd, .extract x i, ty0, ps, af, gg⟩ σ (.agg cs) [] [] := a4z rfl hx h
theorem qN {t : TypeId} {K : List Nat} {b : Bool} (hx : Ev Tryz.prog C nt σ x (.one (.dv K (.bool b)))) : Pu Tryz.prog C nt ⟨dd, .unOp .not t x, ty0, ps, af, gg⟩ σ (.one (.dv [] (.bool (!b)))) [] [] := c4e rfl hx
theorem qG {c : Operand} {K J : List Nat} {b b2 : Bool} (hc : Ev Tryz.prog C nt σ c (.one (.dv K (.bool b)))) (hy : b = true → Ev Tryz.prog C nt σ y (.one (.dv J (.bool b2)))) : Pu Tryz.prog C nt ⟨dd, .pick c y (.const (.bool false)), ty0, ps, af, gg⟩ σ (.one (.dv [] (.bool (b && b2)))) [] [] := c4K rfl hc hy
theorem qH {c : Operand} {K J : List Nat} {b b2 : Bool} (hc : Ev Tryz.prog C nt σ c (.one (.dv K (.bool b)))) (hy : b = false → Ev Tryz.prog C nt σ y (.one (.dv J (.bool b2)))) : Pu Tryz.prog C nt ⟨dd, .pick c (.const (.bool true)) y, ty0, ps, af, gg⟩ σ (.one (.dv [] (.bool (b || b2)))) [] [] := c1P rfl hc hy
theorem b7J {t ty : TypeId} {K J : List Nat} {k : IntKind} {m n : Int} (hx : Ev Tryz.prog C nt σ x (.one (.dv K (.int k m)))) (hy : Ev Tryz.prog C nt σ y (.one (.dv J (.int k n)))) : Pu Tryz.prog C nt ⟨dd, .binOp .lss t x y ty, ty0, ps, af, gg⟩ σ (.one (.dv [] (.bool (decide (m < n))))) [] [] := b9a rfl hx hy
theorem b6U {t ty : TypeId} {K J : List Nat} {k : IntKind} {m n : Int} (hx : Ev Tryz.prog C nt σ x (.one (.dv K (.int k m)))) (hy : Ev Tryz.prog C nt σ y (.one (.dv J (.int k n)))) : Pu Tryz.prog C nt ⟨dd, .binOp .leq t x y ty, ty0, ps, af, gg⟩ σ (.one (.dv [] (.bool (decide (m ≤ n))))) [] [] := c3l rfl hx hy
theorem b7r {t ty : TypeId} {K J : List Nat} {k : IntKind} {m n : Int} (hx : Ev Tryz.prog C nt σ x (.one (.dv K (.int k m)))) (hy : Ev Tryz.prog C nt σ y (.one (.dv J (.int k n)))) : Pu Tryz.prog C nt ⟨dd, .binOp .gtr t x y ty, ty0, ps, af, gg⟩ σ (.one (.dv [] (.bool (decide (n < m))))) [] [] := c3y rfl hx hy
theorem b5W {t ty : TypeId} {K J : List Nat} {k : IntKind} {m n : Int} (hx : Ev Tryz.prog C nt σ x (.one (.dv K (.int k m)))) (hy : Ev Tryz.prog C nt σ y (.one (.dv J (.int k n)))) : Pu Tryz.prog C nt ⟨dd, .binOp .geq t x y ty, ty0, ps, af, gg⟩ σ (.one (.dv [] (.bool (decide (n ≤ m))))) [] [] := c0h rfl hx hy
theorem b5U {t ty : TypeId} {K J : List Nat} {k : IntKind} {m n : Int} (hx : Ev Tryz.prog C nt σ x (.one (.dv K (.int k m)))) (hy : Ev Tryz.prog C nt σ y (.one (.dv J (.int k n)))) : Pu Tryz.prog C nt ⟨dd, .binOp .eql t x y ty, ty0, ps, af, gg⟩ σ (.one (.dv [] (.bool (decide (m = n))))) [] [] := c1Z rfl hx hy
theorem b3O {t ty : TypeId} {K J : List Nat} {k : IntKind} {m n : Int} (hx : Ev Tryz.prog C nt σ x (.one (.dv K (.int k m)))) (hy : Ev Tryz.prog C nt σ y (.one (.dv J (.int k n)))) : Pu Tryz.prog C nt ⟨dd, .binOp .neq t x y ty, ty0, ps, af, gg⟩ σ (.one (.dv [] (.bool (!decide (m = n))))) [] [] := c3W rfl hx hy
theorem b5x {t ty : TypeId} {K J : List Nat} {m n : ByteArray} (hx : Ev Tryz.prog C nt σ x (.one (.dv K (.str m)))) (hy : Ev Tryz.prog C nt σ y (.one (.dv J (.str n)))) : Pu Tryz.prog C nt ⟨dd, .binOp .eql t x y ty, ty0, ps, af, gg⟩ σ (.one (.dv [] (.bool (sEq m n)))) [] [] := c3n rfl hx hy
theorem b3C {t ty : TypeId} {K J : List Nat} {m n : ByteArray} (hx : Ev Tryz.prog C nt σ x (.one (.dv K (.str m)))) (hy : Ev Tryz.prog C nt σ y (.one (.dv J (.str n)))) : Pu Tryz.prog C nt ⟨dd, .binOp .neq t x y ty, ty0, ps, af, gg⟩ σ (.one (.dv [] (.bool (!sEq m n)))) [] [] := c2O rfl hx hy
theorem b4M {t ty : TypeId} {K J : List Nat} {m n : ByteArray} (hx : Ev Tryz.prog C nt σ x (.one (.dv K (.str m)))) (hy : Ev Tryz.prog C nt σ y (.one (.dv J (.str n)))) : Pu Tryz.prog C nt ⟨dd, .binOp .lss t x y ty, ty0, ps, af, gg⟩ σ (.one (.dv [] (.bool (sLt m n)))) [] [] := b9e rfl hx hy
theorem b6j {t ty : TypeId} {K J : List Nat} {m n : ByteArray} (hx : Ev Tryz.prog C nt σ x (.one (.dv K (.str m)))) (hy : Ev Tryz.prog C nt σ y (.one (.dv J (.str n)))) : Pu Tryz.prog C nt ⟨dd, .binOp .leq t x y ty, ty0, ps, af, gg⟩ σ (.one (.dv [] (.bool (sLt m n || sEq m n)))) [] [] := c0g rfl hx hy
theorem b7u {t ty : TypeId} {K J : List Nat} {m n : ByteArray} (hx : Ev Tryz.prog C nt σ x (.one (.dv K (.str m)))) (hy : Ev Tryz.prog C nt σ y (.one (.dv J (.str n)))) : Pu Tryz.prog C nt ⟨dd, .binOp .gtr t x y ty, ty0, ps, af, gg⟩ σ (.one (.dv [] (.bool (!(sLt m n || sEq m n))))) [] [] := c3i rfl hx hy
theorem b4D {t ty : TypeId} {K J : List Nat} {m n : ByteArray} (hx : Ev Tryz.prog C nt σ x (.one (.dv K (.str m)))) (hy : Ev Tryz.prog C nt σ y (.one (.dv J (.str n)))) : Pu Tryz.prog C nt ⟨dd, .binOp .geq t x y ty, ty0, ps, af, gg⟩ σ (.one (.dv [] (.bool (!sLt m n)))) [] [] := c4O rfl hx hy
theorem b4A {t ty : TypeId} {K J : List Nat} {m n : Int} (hx : Ev Tryz.prog C nt σ x (.one (.dv K (.int .i64 m)))) (hy : Ev Tryz.prog C nt σ y (.one (.dv J (.int .i64 n)))) (h1 : -9223372036854775808 ≤ m + n) (h2 : m + n ≤ 9223372036854775807) : Pu Tryz.prog C nt ⟨dd, .binOp .add t x y ty, ty0, ps, af, gg⟩ σ (.one (.dv [] (.int .i64 (m + n)))) [] [] := a5v rfl hx hy (a4c h1 h2)
theorem b5u {t ty : TypeId} {K J : List Nat} {m n : Int} (hx : Ev Tryz.prog C nt σ x (.one (.dv K (.int .i64 m)))) (hy : Ev Tryz.prog C nt σ y (.one (.dv J (.int .i64 n)))) (h1 : -9223372036854775808 ≤ m - n) (h2 : m - n ≤ 9223372036854775807) : Pu Tryz.prog C nt ⟨dd, .binOp .sub t x y ty, ty0, ps, af, gg⟩ σ (.one (.dv [] (.int .i64 (m - n)))) [] [] := a8W rfl hx hy (a4c h1 h2)
theorem qL {t e' e sz n : Nat} {K : List Nat} {cs : List DV} (hx : Ev Tryz.prog C nt σ x (.one (.dv K (.sl e sz n cs)))) (h : look a4I.sl t = some e') : Pu Tryz.prog C nt ⟨dd, .call { callee := .builtin .len, args := #[x], argTypes := #[t] }, ty0, ps, af, gg⟩ σ (.one (.dv [] (.int .i64 (n : Int)))) [] [] := a4H hT rfl h hx
theorem qL2 {t : Nat} {u : Unit} {s : ByteArray} {K : List Nat} (hx : Ev Tryz.prog C nt σ x (.one (.dv K (.str s)))) (h : look a4I.st t = some u) : Pu Tryz.prog C nt ⟨dd, .call { callee := .builtin .len, args := #[x], argTypes := #[t] }, ty0, ps, af, gg⟩ σ (.one (.dv [] (.int .i64 (s.size : Int)))) [] [] := c3K hT rfl h hx
theorem qL3 {t e' : Nat} (hx : Ev Tryz.prog C nt σ x (.one .nil)) (h : look a4I.sl t = some e') : Pu Tryz.prog C nt ⟨dd, .call { callee := .builtin .len, args := #[x], argTypes := #[t] }, ty0, ps, af, gg⟩ σ (.one (.dv [] (.int .i64 0))) [] [] := c2S hT rfl h hx
end
section
variable {P : Program} {C : Ctx} {nt : Nat} {o : Oper} {x y : Operand} {T : TT} {Q : Exit → St → Prop} {N : St → Prop} {all : Array Oper} {rest : List Oper} {σ : St} {tm : List (Nat × SV)} {bx : List (Nat × TypeId × List CV)} {ks : List (Nat × Option KC)} {d t : Nat} {v X : SV} {ty : TypeId} {ps : String} {af : Array Edge} {Ks Bs oB oK : List Nat} {g : Bool} {listed : Array Bool} {fuel : Nat} {hd' : Nat → Bool}
theorem zp (hp : Pu P C nt o σ v Ks Bs := by
  first
  | (apply qA; (first | exact a0a rfl | exact a0y (a0w rfl) | exact a0P | exact a0R (a0S rfl) | exact a0O | exact a0T))
  | (apply qB; (first | exact a0a rfl | exact a0y (a0w rfl) | exact a0P | exact a0R (a0S rfl) | exact a0O | exact a0T))
  | (apply qC; (first | exact a0a rfl | exact a0y (a0w rfl) | exact a0P | exact a0R (a0S rfl) | exact a0O | exact a0T); exact rfl; exact rfl)
  | (apply qC2; (first | exact a0a rfl | exact a0y (a0w rfl) | exact a0P | exact a0R (a0S rfl) | exact a0O | exact a0T); exact rfl; exact rfl)
  | (apply qC3; (first | exact a0a rfl | exact a0y (a0w rfl) | exact a0P | exact a0R (a0S rfl) | exact a0O | exact a0T); exact rfl; exact rfl)
  | (apply qD; exact rfl; (first | exact a0a rfl | exact a0y (a0w rfl) | exact a0P | exact a0R (a0S rfl) | exact a0O | exact a0T); exact rfl; exact rfl)
  | (apply qD2; exact rfl; (first | exact a0a rfl | exact a0y (a0w rfl) | exact a0P | exact a0R (a0S rfl) | exact a0O | exact a0T); exact rfl; exact rfl)
  | (apply qD3; exact rfl; (first | exact a0a rfl | exact a0y (a0w rfl) | exact a0P | exact a0R (a0S rfl) | exact a0O | exact a0T); exact rfl)
  | (apply qD4; exact rfl; (first | exact a0a rfl | exact a0y (a0w rfl) | exact a0P | exact a0R (a0S rfl) | exact a0O | exact a0T); exact rfl)
  | (apply qE; (first | exact a0a rfl | exact a0y (a0w rfl) | exact a0P | exact a0R (a0S rfl) | exact a0O | exact a0T); exact rfl)
  | (apply qE2; (first | exact a0a rfl | exact a0y (a0w rfl) | exact a0P | exact a0R (a0S rfl) | exact a0O | exact a0T); exact rfl)
  | (apply qN; (first | exact a0a rfl | exact a0y (a0w rfl) | exact a0P | exact a0R (a0S rfl) | exact a0O | exact a0T))
  | (apply qG; (first | exact a0a rfl | exact a0y (a0w rfl) | exact a0P | exact a0R (a0S rfl) | exact a0O | exact a0T); (intro hb; first | (refine a0x rfl ?_; first | exact a6R hb | exact a6r hb) | exact a0a rfl | exact a0y (a0w rfl) | exact a0P | exact a0R (a0S rfl) | exact a0O | exact a0T))
  | (apply qH; (first | exact a0a rfl | exact a0y (a0w rfl) | exact a0P | exact a0R (a0S rfl) | exact a0O | exact a0T); (intro hb; first | (refine a0x rfl ?_; first | exact a6R hb | exact a6r hb) | exact a0a rfl | exact a0y (a0w rfl) | exact a0P | exact a0R (a0S rfl) | exact a0O | exact a0T))
  | (apply b7J; (first | exact a0a rfl | exact a0y (a0w rfl) | exact a0P | exact a0R (a0S rfl) | exact a0O | exact a0T); (first | exact a0a rfl | exact a0y (a0w rfl) | exact a0P | exact a0R (a0S rfl) | exact a0O | exact a0T))
  | (apply b6U; (first | exact a0a rfl | exact a0y (a0w rfl) | exact a0P | exact a0R (a0S rfl) | exact a0O | exact a0T); (first | exact a0a rfl | exact a0y (a0w rfl) | exact a0P | exact a0R (a0S rfl) | exact a0O | exact a0T))
  | (apply b7r; (first | exact a0a rfl | exact a0y (a0w rfl) | exact a0P | exact a0R (a0S rfl) | exact a0O | exact a0T); (first | exact a0a rfl | exact a0y (a0w rfl) | exact a0P | exact a0R (a0S rfl) | exact a0O | exact a0T))
  | (apply b5W; (first | exact a0a rfl | exact a0y (a0w rfl) | exact a0P | exact a0R (a0S rfl) | exact a0O | exact a0T); (first | exact a0a rfl | exact a0y (a0w rfl) | exact a0P | exact a0R (a0S rfl) | exact a0O | exact a0T))
  | (apply b5U; (first | exact a0a rfl | exact a0y (a0w rfl) | exact a0P | exact a0R (a0S rfl) | exact a0O | exact a0T); (first | exact a0a rfl | exact a0y (a0w rfl) | exact a0P | exact a0R (a0S rfl) | exact a0O | exact a0T))
  | (apply b3O; (first | exact a0a rfl | exact a0y (a0w rfl) | exact a0P | exact a0R (a0S rfl) | exact a0O | exact a0T); (first | exact a0a rfl | exact a0y (a0w rfl) | exact a0P | exact a0R (a0S rfl) | exact a0O | exact a0T))
  | (apply b5x; (first | exact a0a rfl | exact a0y (a0w rfl) | exact a0P | exact a0R (a0S rfl) | exact a0O | exact a0T); (first | exact a0a rfl | exact a0y (a0w rfl) | exact a0P | exact a0R (a0S rfl) | exact a0O | exact a0T))
  | (apply b3C; (first | exact a0a rfl | exact a0y (a0w rfl) | exact a0P | exact a0R (a0S rfl) | exact a0O | exact a0T); (first | exact a0a rfl | exact a0y (a0w rfl) | exact a0P | exact a0R (a0S rfl) | exact a0O | exact a0T))
  | (apply b4M; (first | exact a0a rfl | exact a0y (a0w rfl) | exact a0P | exact a0R (a0S rfl) | exact a0O | exact a0T); (first | exact a0a rfl | exact a0y (a0w rfl) | exact a0P | exact a0R (a0S rfl) | exact a0O | exact a0T))
  | (apply b6j; (first | exact a0a rfl | exact a0y (a0w rfl) | exact a0P | exact a0R (a0S rfl) | exact a0O | exact a0T); (first | exact a0a rfl | exact a0y (a0w rfl) | exact a0P | exact a0R (a0S rfl) | exact a0O | exact a0T))
  | (apply b7u; (first | exact a0a rfl | exact a0y (a0w rfl) | exact a0P | exact a0R (a0S rfl) | exact a0O | exact a0T); (first | exact a0a rfl | exact a0y (a0w rfl) | exact a0P | exact a0R (a0S rfl) | exact a0O | exact a0T))
  | (apply b4D; (first | exact a0a rfl | exact a0y (a0w rfl) | exact a0P | exact a0R (a0S rfl) | exact a0O | exact a0T); (first | exact a0a rfl | exact a0y (a0w rfl) | exact a0P | exact a0R (a0S rfl) | exact a0O | exact a0T))
  | (apply b4A; (first | exact a0a rfl | exact a0y (a0w rfl) | exact a0P | exact a0R (a0S rfl) | exact a0O | exact a0T); (first | exact a0a rfl | exact a0y (a0w rfl) | exact a0P | exact a0R (a0S rfl) | exact a0O | exact a0T); omega; omega)
  | (apply b5u; (first | exact a0a rfl | exact a0y (a0w rfl) | exact a0P | exact a0R (a0S rfl) | exact a0O | exact a0T); (first | exact a0a rfl | exact a0y (a0w rfl) | exact a0P | exact a0R (a0S rfl) | exact a0O | exact a0T); omega; omega)
  | (apply qL; (first | exact a0a rfl | exact a0y (a0w rfl) | exact a0P | exact a0R (a0S rfl) | exact a0O | exact a0T); exact rfl)
  | (apply qL2; (first | exact a0a rfl | exact a0y (a0w rfl) | exact a0P | exact a0R (a0S rfl) | exact a0O | exact a0T); exact rfl)
  | (apply qL3; (first | exact a0a rfl | exact a0y (a0w rfl) | exact a0P | exact a0R (a0S rfl) | exact a0O | exact a0T); exact rfl)
  | exact a4t hT rfl rfl rfl (by first | exact a0a rfl | exact a0y (a0w rfl) | exact a0P | exact a0R (a0S rfl) | exact a0O | exact a0T) (by first | exact a0a rfl | exact a0y (a0w rfl) | exact a0P | exact a0R (a0S rfl) | exact a0O | exact a0T) (fun _ => rfl) (by omega) (by omega)
  | exact b6h hT rfl rfl (by first | exact a0a rfl | exact a0y (a0w rfl) | exact a0P | exact a0R (a0S rfl) | exact a0O | exact a0T) (by first | exact a0a rfl | exact a0y (a0w rfl) | exact a0P | exact a0R (a0S rfl) | exact a0O | exact a0T) (by omega) (by omega)) : Pu P C nt o σ v Ks Bs := hp
theorem zq {g : Bool} (hg : g = true) (hp : Pu P C nt o σ v Ks Bs := by
  first
  | (apply qA; (first | (refine a0x rfl ?_; first | exact hg | exact a0g hg | exact a0g (a0g hg) | exact a0g (a0g (a0g hg))) | exact a0a rfl | exact a0y (a0w rfl) | exact a0P | exact a0R (a0S rfl) | exact a0O | exact a0T))
  | (apply qB; (first | (refine a0x rfl ?_; first | exact hg | exact a0g hg | exact a0g (a0g hg) | exact a0g (a0g (a0g hg))) | exact a0a rfl | exact a0y (a0w rfl) | exact a0P | exact a0R (a0S rfl) | exact a0O | exact a0T))
  | (apply qC; (first | (refine a0x rfl ?_; first | exact hg | exact a0g hg | exact a0g (a0g hg) | exact a0g (a0g (a0g hg))) | exact a0a rfl | exact a0y (a0w rfl) | exact a0P | exact a0R (a0S rfl) | exact a0O | exact a0T); exact rfl; exact rfl)
  | (apply qC2; (first | (refine a0x rfl ?_; first | exact hg | exact a0g hg | exact a0g (a0g hg) | exact a0g (a0g (a0g hg))) | exact a0a rfl | exact a0y (a0w rfl) | exact a0P | exact a0R (a0S rfl) | exact a0O | exact a0T); exact rfl; exact rfl)
  | (apply qC3; (first | (refine a0x rfl ?_; first | exact hg | exact a0g hg | exact a0g (a0g hg) | exact a0g (a0g (a0g hg))) | exact a0a rfl | exact a0y (a0w rfl) | exact a0P | exact a0R (a0S rfl) | exact a0O | exact a0T); exact rfl; exact rfl)
  | (apply qD; exact rfl; (first | (refine a0x rfl ?_; first | exact hg | exact a0g hg | exact a0g (a0g hg) | exact a0g (a0g (a0g hg))) | exact a0a rfl | exact a0y (a0w rfl) | exact a0P | exact a0R (a0S rfl) | exact a0O | exact a0T); exact rfl; exact rfl)
  | (apply qD2; exact rfl; (first | (refine a0x rfl ?_; first | exact hg | exact a0g hg | exact a0g (a0g hg) | exact a0g (a0g (a0g hg))) | exact a0a rfl | exact a0y (a0w rfl) | exact a0P | exact a0R (a0S rfl) | exact a0O | exact a0T); exact rfl; exact rfl)
  | (apply qD3; exact rfl; (first | (refine a0x rfl ?_; first | exact hg | exact a0g hg | exact a0g (a0g hg) | exact a0g (a0g (a0g hg))) | exact a0a rfl | exact a0y (a0w rfl) | exact a0P | exact a0R (a0S rfl) | exact a0O | exact a0T); exact rfl)
  | (apply qD4; exact rfl; (first | (refine a0x rfl ?_; first | exact hg | exact a0g hg | exact a0g (a0g hg) | exact a0g (a0g (a0g hg))) | exact a0a rfl | exact a0y (a0w rfl) | exact a0P | exact a0R (a0S rfl) | exact a0O | exact a0T); exact rfl)
  | (apply qE; (first | (refine a0x rfl ?_; first | exact hg | exact a0g hg | exact a0g (a0g hg) | exact a0g (a0g (a0g hg))) | exact a0a rfl | exact a0y (a0w rfl) | exact a0P | exact a0R (a0S rfl) | exact a0O | exact a0T); exact rfl)
  | (apply qE2; (first | (refine a0x rfl ?_; first | exact hg | exact a0g hg | exact a0g (a0g hg) | exact a0g (a0g (a0g hg))) | exact a0a rfl | exact a0y (a0w rfl) | exact a0P | exact a0R (a0S rfl) | exact a0O | exact a0T); exact rfl)
  | (apply qN; (first | (refine a0x rfl ?_; first | exact hg | exact a0g hg | exact a0g (a0g hg) | exact a0g (a0g (a0g hg))) | exact a0a rfl | exact a0y (a0w rfl) | exact a0P | exact a0R (a0S rfl) | exact a0O | exact a0T))
  | (apply qG; (first | (refine a0x rfl ?_; first | exact hg | exact a0g hg | exact a0g (a0g hg) | exact a0g (a0g (a0g hg))) | exact a0a rfl | exact a0y (a0w rfl) | exact a0P | exact a0R (a0S rfl) | exact a0O | exact a0T); (intro hb; first | (refine a0x rfl ?_; first | exact a6R hb | exact a6r hb | exact a6T hg (a6R hb) | exact a6T hg (a6r hb) | exact a6T (a0g hg) (a6R hb) | exact a6T (a0g hg) (a6r hb) | exact hg | exact a0g hg) | exact a0a rfl | exact a0y (a0w rfl) | exact a0P | exact a0R (a0S rfl) | exact a0O | exact a0T))
  | (apply qH; (first | (refine a0x rfl ?_; first | exact hg | exact a0g hg | exact a0g (a0g hg) | exact a0g (a0g (a0g hg))) | exact a0a rfl | exact a0y (a0w rfl) | exact a0P | exact a0R (a0S rfl) | exact a0O | exact a0T); (intro hb; first | (refine a0x rfl ?_; first | exact a6R hb | exact a6r hb | exact a6T hg (a6R hb) | exact a6T hg (a6r hb) | exact a6T (a0g hg) (a6R hb) | exact a6T (a0g hg) (a6r hb) | exact hg | exact a0g hg) | exact a0a rfl | exact a0y (a0w rfl) | exact a0P | exact a0R (a0S rfl) | exact a0O | exact a0T))
  | (apply b7J; (first | (refine a0x rfl ?_; first | exact hg | exact a0g hg | exact a0g (a0g hg) | exact a0g (a0g (a0g hg))) | exact a0a rfl | exact a0y (a0w rfl) | exact a0P | exact a0R (a0S rfl) | exact a0O | exact a0T); (first | (refine a0x rfl ?_; first | exact hg | exact a0g hg | exact a0g (a0g hg) | exact a0g (a0g (a0g hg))) | exact a0a rfl | exact a0y (a0w rfl) | exact a0P | exact a0R (a0S rfl) | exact a0O | exact a0T))
  | (apply b6U; (first | (refine a0x rfl ?_; first | exact hg | exact a0g hg | exact a0g (a0g hg) | exact a0g (a0g (a0g hg))) | exact a0a rfl | exact a0y (a0w rfl) | exact a0P | exact a0R (a0S rfl) | exact a0O | exact a0T); (first | (refine a0x rfl ?_; first | exact hg | exact a0g hg | exact a0g (a0g hg) | exact a0g (a0g (a0g hg))) | exact a0a rfl | exact a0y (a0w rfl) | exact a0P | exact a0R (a0S rfl) | exact a0O | exact a0T))
  | (apply b7r; (first | (refine a0x rfl ?_; first | exact hg | exact a0g hg | exact a0g (a0g hg) | exact a0g (a0g (a0g hg))) | exact a0a rfl | exact a0y (a0w rfl) | exact a0P | exact a0R (a0S rfl) | exact a0O | exact a0T); (first | (refine a0x rfl ?_; first | exact hg | exact a0g hg | exact a0g (a0g hg) | exact a0g (a0g (a0g hg))) | exact a0a rfl | exact a0y (a0w rfl) | exact a0P | exact a0R (a0S rfl) | exact a0O | exact a0T))
  | (apply b5W; (first | (refine a0x rfl ?_; first | exact hg | exact a0g hg | exact a0g (a0g hg) | exact a0g (a0g (a0g hg))) | exact a0a rfl | exact a0y (a0w rfl) | exact a0P | exact a0R (a0S rfl) | exact a0O | exact a0T); (first | (refine a0x rfl ?_; first | exact hg | exact a0g hg | exact a0g (a0g hg) | exact a0g (a0g (a0g hg))) | exact a0a rfl | exact a0y (a0w rfl) | exact a0P | exact a0R (a0S rfl) | exact a0O | exact a0T))
  | (apply b5U; (first | (refine a0x rfl ?_; first | exact hg | exact a0g hg | exact a0g (a0g hg) | exact a0g (a0g (a0g hg))) | exact a0a rfl | exact a0y (a0w rfl) | exact a0P | exact a0R (a0S rfl) | exact a0O | exact a0T); (first | (refine a0x rfl ?_; first | exact hg | exact a0g hg | exact a0g (a0g hg) | exact a0g (a0g (a0g hg))) | exact a0a rfl | exact a0y (a0w rfl) | exact a0P | exact a0R (a0S rfl) | exact a0O | exact a0T))
  | (apply b3O; (first | (refine a0x rfl ?_; first | exact hg | exact a0g hg | exact a0g (a0g hg) | exact a0g (a0g (a0g hg))) | exact a0a rfl | exact a0y (a0w rfl) | exact a0P | exact a0R (a0S rfl) | exact a0O | exact a0T); (first | (refine a0x rfl ?_; first | exact hg | exact a0g hg | exact a0g (a0g hg) | exact a0g (a0g (a0g hg))) | exact a0a rfl | exact a0y (a0w rfl) | exact a0P | exact a0R (a0S rfl) | exact a0O | exact a0T))
  | (apply b5x; (first | (refine a0x rfl ?_; first | exact hg | exact a0g hg | exact a0g (a0g hg) | exact a0g (a0g (a0g hg))) | exact a0a rfl | exact a0y (a0w rfl) | exact a0P | exact a0R (a0S rfl) | exact a0O | exact a0T); (first | (refine a0x rfl ?_; first | exact hg | exact a0g hg | exact a0g (a0g hg) | exact a0g (a0g (a0g hg))) | exact a0a rfl | exact a0y (a0w rfl) | exact a0P | exact a0R (a0S rfl) | exact a0O | exact a0T))
  | (apply b3C; (first | (refine a0x rfl ?_; first | exact hg | exact a0g hg | exact a0g (a0g hg) | exact a0g (a0g (a0g hg))) | exact a0a rfl | exact a0y (a0w rfl) | exact a0P | exact a0R (a0S rfl) | exact a0O | exact a0T); (first | (refine a0x rfl ?_; first | exact hg | exact a0g hg | exact a0g (a0g hg) | exact a0g (a0g (a0g hg))) | exact a0a rfl | exact a0y (a0w rfl) | exact a0P | exact a0R (a0S rfl) | exact a0O | exact a0T))
  | (apply b4M; (first | (refine a0x rfl ?_; first | exact hg | exact a0g hg | exact a0g (a0g hg) | exact a0g (a0g (a0g hg))) | exact a0a rfl | exact a0y (a0w rfl) | exact a0P | exact a0R (a0S rfl) | exact a0O | exact a0T); (first | (refine a0x rfl ?_; first | exact hg | exact a0g hg | exact a0g (a0g hg) | exact a0g (a0g (a0g hg))) | exact a0a rfl | exact a0y (a0w rfl) | exact a0P | exact a0R (a0S rfl) | exact a0O | exact a0T))
  | (apply b6j; (first | (refine a0x rfl ?_; first | exact hg | exact a0g hg | exact a0g (a0g hg) | exact a0g (a0g (a0g hg))) | exact a0a rfl | exact a0y (a0w rfl) | exact a0P | exact a0R (a0S rfl) | exact a0O | exact a0T); (first | (refine a0x rfl ?_; first | exact hg | exact a0g hg | exact a0g (a0g hg) | exact a0g (a0g (a0g hg))) | exact a0a rfl | exact a0y (a0w rfl) | exact a0P | exact a0R (a0S rfl) | exact a0O | exact a0T))
  | (apply b7u; (first | (refine a0x rfl ?_; first | exact hg | exact a0g hg | exact a0g (a0g hg) | exact a0g (a0g (a0g hg))) | exact a0a rfl | exact a0y (a0w rfl) | exact a0P | exact a0R (a0S rfl) | exact a0O | exact a0T); (first | (refine a0x rfl ?_; first | exact hg | exact a0g hg | exact a0g (a0g hg) | exact a0g (a0g (a0g hg))) | exact a0a rfl | exact a0y (a0w rfl) | exact a0P | exact a0R (a0S rfl) | exact a0O | exact a0T))
  | (apply b4D; (first | (refine a0x rfl ?_; first | exact hg | exact a0g hg | exact a0g (a0g hg) | exact a0g (a0g (a0g hg))) | exact a0a rfl | exact a0y (a0w rfl) | exact a0P | exact a0R (a0S rfl) | exact a0O | exact a0T); (first | (refine a0x rfl ?_; first | exact hg | exact a0g hg | exact a0g (a0g hg) | exact a0g (a0g (a0g hg))) | exact a0a rfl | exact a0y (a0w rfl) | exact a0P | exact a0R (a0S rfl) | exact a0O | exact a0T))
  | (apply b4A; (first | (refine a0x rfl ?_; first | exact hg | exact a0g hg | exact a0g (a0g hg) | exact a0g (a0g (a0g hg))) | exact a0a rfl | exact a0y (a0w rfl) | exact a0P | exact a0R (a0S rfl) | exact a0O | exact a0T); (first | (refine a0x rfl ?_; first | exact hg | exact a0g hg | exact a0g (a0g hg) | exact a0g (a0g (a0g hg))) | exact a0a rfl | exact a0y (a0w rfl) | exact a0P | exact a0R (a0S rfl) | exact a0O | exact a0T); omega; omega)
  | (apply b5u; (first | (refine a0x rfl ?_; first | exact hg | exact a0g hg | exact a0g (a0g hg) | exact a0g (a0g (a0g hg))) | exact a0a rfl | exact a0y (a0w rfl) | exact a0P | exact a0R (a0S rfl) | exact a0O | exact a0T); (first | (refine a0x rfl ?_; first | exact hg | exact a0g hg | exact a0g (a0g hg) | exact a0g (a0g (a0g hg))) | exact a0a rfl | exact a0y (a0w rfl) | exact a0P | exact a0R (a0S rfl) | exact a0O | exact a0T); omega; omega)
  | (apply qL; (first | (refine a0x rfl ?_; first | exact hg | exact a0g hg | exact a0g (a0g hg) | exact a0g (a0g (a0g hg))) | exact a0a rfl | exact a0y (a0w rfl) | exact a0P | exact a0R (a0S rfl) | exact a0O | exact a0T); exact rfl)
  | (apply qL2; (first | (refine a0x rfl ?_; first | exact hg | exact a0g hg | exact a0g (a0g hg) | exact a0g (a0g (a0g hg))) | exact a0a rfl | exact a0y (a0w rfl) | exact a0P | exact a0R (a0S rfl) | exact a0O | exact a0T); exact rfl)
  | (apply qL3; (first | (refine a0x rfl ?_; first | exact hg | exact a0g hg | exact a0g (a0g hg) | exact a0g (a0g (a0g hg))) | exact a0a rfl | exact a0y (a0w rfl) | exact a0P | exact a0R (a0S rfl) | exact a0O | exact a0T); exact rfl)
  | exact a4t hT rfl rfl rfl (by first | (refine a0x rfl ?_; first | exact hg | exact a0g hg | exact a0g (a0g hg) | exact a0g (a0g (a0g hg))) | exact a0a rfl | exact a0y (a0w rfl) | exact a0P | exact a0R (a0S rfl) | exact a0O | exact a0T) (by first | (refine a0x rfl ?_; first | exact hg | exact a0g hg | exact a0g (a0g hg) | exact a0g (a0g (a0g hg))) | exact a0a rfl | exact a0y (a0w rfl) | exact a0P | exact a0R (a0S rfl) | exact a0O | exact a0T) (fun _ => rfl) (by first | omega | (simp only [Bool.and_eq_true, Bool.or_eq_true, Bool.or_eq_false_iff, Bool.and_eq_false_iff, Bool.not_eq_true', Bool.not_eq_false', beq_iff_eq, decide_eq_true_eq, decide_eq_false_iff_not] at hg; omega) | (have hh := c5p (a4U hg); omega) | (have hh := c5p (a4U (a8c hg)); omega)) (by first | omega | (simp only [Bool.and_eq_true, Bool.or_eq_true, Bool.or_eq_false_iff, Bool.and_eq_false_iff, Bool.not_eq_true', Bool.not_eq_false', beq_iff_eq, decide_eq_true_eq, decide_eq_false_iff_not] at hg; omega) | (have hh := c5p (a4U hg); omega) | (have hh := c5p (a4U (a8c hg)); omega))
  | exact b6h hT rfl rfl (by first | (refine a0x rfl ?_; first | exact hg | exact a0g hg | exact a0g (a0g hg) | exact a0g (a0g (a0g hg))) | exact a0a rfl | exact a0y (a0w rfl) | exact a0P | exact a0R (a0S rfl) | exact a0O | exact a0T) (by first | (refine a0x rfl ?_; first | exact hg | exact a0g hg | exact a0g (a0g hg) | exact a0g (a0g (a0g hg))) | exact a0a rfl | exact a0y (a0w rfl) | exact a0P | exact a0R (a0S rfl) | exact a0O | exact a0T) (by first | omega | (simp only [Bool.and_eq_true, Bool.or_eq_true, Bool.or_eq_false_iff, Bool.and_eq_false_iff, Bool.not_eq_true', Bool.not_eq_false', beq_iff_eq, decide_eq_true_eq, decide_eq_false_iff_not] at hg; omega) | (have hh := c5p (a4U hg); omega) | (have hh := c5p (a4U (a8c hg)); omega)) (by first | omega | (simp only [Bool.and_eq_true, Bool.or_eq_true, Bool.or_eq_false_iff, Bool.and_eq_false_iff, Bool.not_eq_true', Bool.not_eq_false', beq_iff_eq, decide_eq_true_eq, decide_eq_false_iff_not] at hg; omega) | (have hh := c5p (a4U hg); omega) | (have hh := c5p (a4U (a8c hg)); omega))) : Pu P C nt o σ v Ks Bs := hp
theorem zr {xs : List Operand} {us : List SV} (ha : a2t P C nt σ xs us := by repeat' (first | exact a0n | refine a0f (by first | exact a0a rfl | exact a0y (a0w rfl) | exact a0P | exact a0R (a0S rfl) | exact a0O | exact a0T) ?_ ?_ | exact a0H a0b | exact a0H (a0L rfl rfl) | exact a0H (a6E rfl rfl) | exact a0H a9l | exact a0H b8q | refine a0l ?_ | exact a0m | refine a0c ?_ ?_ | exact a0b | exact a0L rfl rfl | exact a6E rfl rfl | exact a9l | exact b8q)) : a2t P C nt σ xs us := ha
theorem zO (h : Ops P C nt Q all rest ⟨(d, v) :: tm, bx, ks⟩) (hg : o.guard = none := by exact rfl) (hd : o.dst = some d := by exact rfl) (hp : Pu P C nt o ⟨tm, bx, ks⟩ v Ks Bs := by
  exact zp) (hk : (Nat.blt d nt && a1p ⟨tm, bx, ks⟩ v) = true := by exact rfl) : Ops P C nt Q all (o :: rest) ⟨tm, bx, ks⟩ := yO hg hd hp hk h
theorem zG (h : Ops P C nt Q all rest ⟨(d, .opt g v) :: tm, bx, ks⟩) (hd : o.dst = some d := by exact rfl) (hG : Gd P C nt ⟨tm, bx, ks⟩ all o g := by first | exact a1l rfl rfl rfl rfl rfl | exact a3G rfl rfl rfl rfl rfl) (hp : g = true → Pu P C nt o ⟨tm, bx, ks⟩ v Ks Bs := by
  intro hg
  exact zq hg) (hk : (Nat.blt d nt && a1p ⟨tm, bx, ks⟩ v) = true := by exact rfl) : Ops P C nt Q all (o :: rest) ⟨tm, bx, ks⟩ := a8V hG hd hp (Bool.and_eq_true_iff.1 hk).1 (Bool.and_eq_true_iff.1 hk).2 h
theorem zD (i : Nat) (h : OpsD P C nt Q all oB oK hd' (listed.setIfInBounds i true) fuel ⟨(d, v) :: tm, bx, ks⟩) (hi : all[i]? = some o := by exact rfl) (hg : o.guard = none := by exact rfl) (hd : o.dst = some d := by exact rfl) (hp : Pu P C nt o ⟨tm, bx, ks⟩ v Ks Bs := by
  exact zp) (hk : (Nat.blt d nt && a1p ⟨tm, bx, ks⟩ v) = true := by exact rfl) (h1 : (Ks.all fun k => oK.contains k) = true := by exact rfl) (h2 : (Bs.all fun k => oB.contains k) = true := by exact rfl) (ht : a4T .any all hd' listed i = true := by kernel_rfl) : OpsD P C nt Q all oB oK hd' listed (fuel + 1) ⟨tm, bx, ks⟩ := a1X i hi ht hg hd hp h1 h2 (Bool.and_eq_true_iff.1 hk).1 (Bool.and_eq_true_iff.1 hk).2 h
theorem zDG (i : Nat) (h : OpsD P C nt Q all oB oK hd' (listed.setIfInBounds i true) fuel ⟨(d, .opt g v) :: tm, bx, ks⟩) (hi : all[i]? = some o := by exact rfl) (hd : o.dst = some d := by exact rfl) (hG : Gd P C nt ⟨tm, bx, ks⟩ all o g := by first | exact a1l rfl rfl rfl rfl rfl | exact a3G rfl rfl rfl rfl rfl) (hp : g = true → Pu P C nt o ⟨tm, bx, ks⟩ v Ks Bs := by
  intro hg
  exact zq hg) (hk : (Nat.blt d nt && a1p ⟨tm, bx, ks⟩ v) = true := by exact rfl) (h1 : (Ks.all fun k => oK.contains k) = true := by exact rfl) (h2 : (Bs.all fun k => oB.contains k) = true := by exact rfl) (ht : a4T .any all hd' listed i = true := by kernel_rfl) : OpsD P C nt Q all oB oK hd' listed (fuel + 1) ⟨tm, bx, ks⟩ := a7k i hi ht hG hd hp h1 h2 (Bool.and_eq_true_iff.1 hk).1 (Bool.and_eq_true_iff.1 hk).2 h
theorem zDX (i : Nat) (h : OpsD P C nt Q all oB oK hd' (listed.setIfInBounds i true) fuel ⟨(d, v) :: tm, bx, ks⟩) (hi : all[i]? = some o := by exact rfl) (hg : o.guard = none := by exact rfl) (hd : o.dst = some d := by exact rfl) (hp : Pu P C nt o ⟨tm, bx, ks⟩ v Ks Bs := by
  exact zp) (hk : (Nat.blt d nt && a1p ⟨tm, bx, ks⟩ v) = true := by exact rfl) (hx : a8A o = true := by exact rfl) (ht : a8S .any all hd' listed i = true := by kernel_rfl) : OpsD P C nt Q all oB oK hd' listed (fuel + 1) ⟨tm, bx, ks⟩ := c4i i hi ht hx hg hd hp (Bool.and_eq_true_iff.1 hk).1 (Bool.and_eq_true_iff.1 hk).2 h
theorem zN {nK : List Nat} (i : Nat) (h : OpsN P C nt Q all oB oK nK hd' (listed.setIfInBounds i true) fuel ⟨(d, v) :: tm, bx, ks⟩) (hi : all[i]? = some o := by exact rfl) (hg : o.guard = none := by exact rfl) (hd : o.dst = some d := by exact rfl) (hp : Pu P C nt o ⟨tm, bx, ks⟩ v Ks Bs := by
  exact zp) (hk : (Nat.blt d nt && a1p ⟨tm, bx, ks⟩ v) = true := by exact rfl) (h1 : (Ks.all fun k => oK.contains k) = true := by exact rfl) (h2 : (Bs.all fun k => oB.contains k) = true := by exact rfl) (ht : a4T .any all hd' listed i = true := by kernel_rfl) : OpsN P C nt Q all oB oK nK hd' listed (fuel + 1) ⟨tm, bx, ks⟩ := a4y i hi ht hg hd hp h1 h2 (Bool.and_eq_true_iff.1 hk).1 (Bool.and_eq_true_iff.1 hk).2 h
theorem zC {f : FuncId} {xs : List Operand} {ats : Array TypeId} {us : List SV} (hc : ∀ (args : Array Value) (w : World), (callFunc f args).run P w = .ok (.enter f args) w) (h : Ops P C nt Q all rest ⟨(d, X) :: tm, bx, ks⟩) (hg : o.guard = none := by exact rfl) (hd : o.dst = some d := by exact rfl) (ho : o.op = .call { callee := .value (.func f), args := xs.toArray, argTypes := ats } := by exact rfl)
  (ha : a2t P C nt ⟨tm, bx, ks⟩ xs us := by exact zr) (hf : PFn P f us X) (hp : X.plain = true := by exact rfl) (hn : Nat.blt d nt = true := by exact rfl) : Ops P C nt Q all (o :: rest) ⟨tm, bx, ks⟩ := a3k hg hd ho hc hf ha hp hn h
theorem zK {f : FuncId} {xs : List Operand} {ats : Array TypeId} {us : List SV} {kk : List (Nat × Option KC)} (m : Nat) (hc : ∀ (args : Array Value) (w : World), (callFunc f args).run P w = .ok (.enter f args) w) (h : Ops P C nt Q all rest ⟨(d, v.sh m) :: tm, bx, shK m kk ++ ks⟩) (hg : o.guard = none := by exact rfl) (hd : o.dst = some d := by exact rfl) (ho : o.op = .call { callee := .value (.func f), args := xs.toArray, argTypes := ats } := by exact rfl)
  (ha : a2t P C nt ⟨tm, bx, ks⟩ xs us := by exact zr) (hf : KFn P f us v kk) (hn : Nat.blt d nt = true := by exact rfl) (hres : v.retOk = true := by exact rfl) (hfree : (kk.all fun q => (lkk ⟨tm, bx, ks⟩ (m + q.1)).isNone) = true := by exact rfl) : Ops P C nt Q all (o :: rest) ⟨tm, bx, ks⟩ := a2U m hg hd ho hc hf ha hn hres hfree h
theorem z {p q : Prop} (h : q) (s : q → p := by
  first
  | with_reducible exact yN
  | with_reducible exact yR
  | with_reducible exact a0p
  | with_reducible exact a3W
  | with_reducible exact c0M
  | with_reducible exact c3v
  | with_reducible exact c5m
  | with_reducible exact c1K
  | with_reducible exact b9G
  | with_reducible exact b9x
  | with_reducible exact b9f
  | with_reducible exact c5k
  | (with_reducible refine fun h => c2C ?_ h) <;> exact rfl
  | (with_reducible refine fun h => c3C ?_ h) <;> exact rfl
  | exact fun h => yA rfl rfl rfl h
  | exact fun h => yX rfl rfl rfl rfl rfl rfl h
  | exact fun h => c2F hT rfl rfl rfl rfl rfl rfl h
  | exact fun h => yS hT rfl rfl rfl rfl rfl rfl rfl rfl h
  | exact fun h => zO h
  | exact fun h => zG h
  | exact yN
  | exact fun h => a1B (a0B rfl) (eqB h)
  | exact fun h => a1B (a0B rfl) (eqI h)
  | exact fun h => a1B (a0B rfl) (eqS h)
  | exact fun h => b3q (a0B rfl) (eqB h)
  | exact fun h => b3q (a0B rfl) (eqI h)
  | exact fun h => b3q (a0B rfl) (eqS h)) : p := s h
end
end Go.Proofs.YteellmjlalgjaaaGreat
