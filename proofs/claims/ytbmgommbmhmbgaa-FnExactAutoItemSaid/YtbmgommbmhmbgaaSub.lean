/-
  A part of a key's cells moved onto another key (append of a slice of it); a key that takes another's place.
-/
import Derived.Test.YtbmgommbmhmbgaaIns
namespace Go.Proofs.Ytbmgommbmhmbgaa
open Go.RowKit
set_option linter.unusedVariables false
set_option linter.unusedSimpArgs false

section
variable {P : Program} {C : Ctx} {nt : Nat} {σ : St} {L : Lyt} {a : Act} {w : World} {o o1 o2 : Oper} {x y : Operand} {T : TT}
theorem getD_setV {t : Array Value} {i d : Nat} {r : Value} (e : i ≠ d) : (t.setIfInBounds d r).getD i undef = t.getD i undef := by
  rw [Array.getD_eq_getD_getElem?, Array.getD_eq_getD_getElem?, Array.getElem?_setIfInBounds_ne (fun e' => e e'.symm)]
theorem killB_some {vs rs : List Nat} {i : Nat} {x : TypeId × List CV} : ∀ {bx : List (Nat × TypeId × List CV)}, look (killB vs rs bx) i = some x → ∃ y, look bx i = some y
  | [], h => by simp [killB, look] at h
  | p :: bx, h => by
    simp only [killB, List.map_cons, look_cons] at h
    obtain ⟨b, q⟩ := p
    rw [look_cons]
    split
    · exact ⟨_, rfl⟩
    · rename_i e
      rw [if_neg e] at h
      exact killB_some h
/-- a slice operation over key j -/
structure SlOk (P : Program) (C : Ctx) (nt : Nat) (σ : St) (o : Oper) (j sz lo hi : Nat) : Prop where
  run : ∀ L a w, Rel P C nt L σ a w → ∀ A n c, L.rv j = .slice A n c → ∀ w', (execOp a.eval o).run P w' = .ok (.value (sliced A lo hi c sz)) w'
theorem key_cap {j : Nat} {c2 : KC} (hr : Rel P C nt L σ a w) (hj : lkk σ j = some c2) {A : Option Addr} {n c : Nat} (e : L.rv j = .slice A n c) : n = c2.n ∧ c2.n ≤ c := by
  have ho := (hr.ks j c2 hj).1
  simp only [Own] at ho
  obtain ⟨vs, f, _, _, _, q4, _⟩ := ho
  rcases (rowE_open q4).2 with ⟨g1, g2⟩ | ⟨g, cap, cur, t, fz, g1, g2, g3, g4, g5, g6⟩
  · rw [e] at g1
    simp only [Value.slice.injEq] at g1
    exact ⟨by rw [g2]; exact g1.2.1, by omega⟩
  · rw [e] at g1
    simp only [Value.slice.injEq] at g1
    exact ⟨g1.2.1, by omega⟩
theorem sl_h (hT : TTOk P T) {t e sz by_ j : Nat} {zc : List CV} {c2 : KC} {J : List Nat} {z : Int} (ho : o.op = .slice t x none (some y) none) (h : look T.sl t = some e) (he : look T.el e = some (sz, by_, zc)) (hx : Ev P C nt σ x (.one (.key j))) (hj : lkk σ j = some c2) (hy : Ev P C nt σ y (.one (.dv J (.int .i64 z)))) (h0 : 0 ≤ z) (h1 : z ≤ c2.n) : SlOk P C nt σ o j sz 0 z.toNat := ⟨fun L a w hr A n c e1 w' => by
  have h2 := hx.run L a w hr
  have h3 := hy.run L a w hr
  simp only [SVr, CVr, Lay] at h2 h3
  obtain ⟨k1, k2⟩ := elem_eq (hT.sl t e h)
  obtain ⟨q1, q2⟩ := key_cap hr hj e1
  rw [e1] at h2
  unfold execOp
  simp only [ho, Option.map_none, Option.map_some, h2, h3.1, Sem.run_bind, run_sliceAt_slice _ _ _ _ _ _ k1, run_slice_h w' t A n c k1 .i64 z h0 (by omega), k2, run_sizeT hT he, Result.andThen_ok, Sem.run_pure]⟩
theorem sl_l (hT : TTOk P T) {t e sz by_ j : Nat} {zc : List CV} {c2 : KC} {J : List Nat} {z : Int} (ho : o.op = .slice t x (some y) none none) (h : look T.sl t = some e) (he : look T.el e = some (sz, by_, zc)) (hx : Ev P C nt σ x (.one (.key j))) (hj : lkk σ j = some c2) (hy : Ev P C nt σ y (.one (.dv J (.int .i64 z)))) (h0 : 0 ≤ z) (h1 : z ≤ c2.n) : SlOk P C nt σ o j sz z.toNat c2.n := ⟨fun L a w hr A n c e1 w' => by
  have h2 := hx.run L a w hr
  have h3 := hy.run L a w hr
  simp only [SVr, CVr, Lay] at h2 h3
  obtain ⟨k1, k2⟩ := elem_eq (hT.sl t e h)
  obtain ⟨q1, q2⟩ := key_cap hr hj e1
  rw [e1] at h2
  unfold execOp
  rw [← q1]
  simp only [ho, Option.map_none, Option.map_some, h2, h3.1, Sem.run_bind, run_sliceAt_slice _ _ _ _ _ _ k1, run_slice_l w' t A n c k1 .i64 z h0 (by omega), k2, run_sizeT hT he, Result.andThen_ok, Sem.run_pure]⟩
def holed (cs : List DV) (l m : Nat) : List DV := cs.take l ++ (List.replicate m .hole ++ (cs.drop l).drop m)
theorem ownL_holes {w : World} : ∀ (vs : List Value), (∀ v ∈ vs, v.oneCell' = true) → OwnL w (List.replicate vs.length .hole) vs []
  | [], _ => by simp [OwnL]
  | v :: vs, h => by
    simp only [List.length_cons, List.replicate_succ, OwnL]
    exact ⟨v, vs, [], [], rfl, rfl, by simp [Own, h v (by simp)], ownL_holes vs fun u hu => h u (by simp [hu])⟩
theorem o_appSub {Q : Exit → St → Prop} {all : Array Oper} {rest : List Oper} {tm : List (Nat × SV)} {bx : List (Nat × TypeId × List CV)} {ks : List (Nat × Option KC)} {t e sz by_ d d1 k j s lo hi n : Nat} {zc : List CV} {c c2 : KC} {cs c2s : List DV} (hT : TTOk P T)
    (hg1 : o1.guard = none) (hd1 : o1.dst = some d1) (hn1 : Nat.blt d1 nt = true) (hs : SlOk P C nt ⟨tm, bx, ks⟩ o1 j sz lo hi)
    (hg2 : o2.guard = none) (hd : o2.dst = some d) (ho : o2.op = .call { callee := .builtin .append, args := #[x, .tmp d1], argTypes := #[t, t] }) (hnt : Nat.blt d nt = true) (ht : look T.sl t = some e) (he : look T.el e = some (sz, by_, zc)) (hl0 : zc.length = sz)
    (hx : Ev P C nt ⟨(d1, .any) :: tm, bx, ks⟩ x (.one (.key k))) (hk : lkk ⟨tm, bx, ks⟩ k = some c) (hce : c.e = e) (hcs : c.sz = sz) (hj : lkk ⟨tm, bx, ks⟩ j = some c2) (hcs2 : c2.sz = sz) (he2 : Nat.blt c2.e 1000000 = true) (hkj : k ∉ [j]) (hh : c2.h = false)
    (hsl : look tm s = some (.one (.key j))) (hsd : Nat.beq s d1 = false ∧ Nat.beq s d = false) (hlh : lo ≤ hi) (hhi : hi ≤ c2.n) (hb : (c.n + (hi - lo)) * by_ ≤ 140737488355328) (h63 : c.n + (hi - lo) ≤ 9223372036854775807) (hn : c.n + (hi - lo) = n) (hcc : c.cs ++ sub (lo * sz) ((hi - lo) * sz) c2.cs = cs) (hcc2 : holed c2.cs (lo * sz) ((hi - lo) * sz) = c2s)
    (h : Ops P C nt Q all rest ⟨(s, .one (.key j)) :: (d, .one (.key k)) :: killT [k, j] [k, j] ((d1, .any) :: tm), killB [k, j] [k, j] bx, (j, some ⟨false, c2.e, sz, c2.n, c2s⟩) :: (k, some ⟨false, e, sz, n, cs⟩) :: (j, none) :: ks⟩) : Ops P C nt Q all (o1 :: o2 :: rest) ⟨tm, bx, ks⟩ := Ops.mk fun L a w hr => by
  subst hn; subst hcc; subst hcc2
  have hkj' : k ≠ j := by simpa using hkj
  refine wpList_plain hg1 fun K1 hK1 => ?_
  -- what stands in memory
  have ho1 := (hr.ks k c hk).1
  have ho2 := (hr.ks j c2 hj).1
  simp only [Own] at ho1 ho2
  obtain ⟨vs, f1, q1, q2, q3, q4, q5⟩ := ho1
  obtain ⟨us, f2, r1, r2, r3, r4, r5⟩ := ho2
  subst hce; subst hcs
  obtain ⟨inf, z, g1, g2, g3, g4, g5⟩ := hT.el c.e c.sz by_ zc he
  have hE : c.e < 1000000 := hT.lt _ _ he
  have hrow := q4.1 hE
  have hE2 : c2.e < 1000000 := by simpa [Nat.blt_eq] using he2
  have hrow2 := r4.1 hE2
  rw [hcs2] at hrow2 r3
  have hul : us.length = c2.n * c.sz := hrow2.1
  have one : ∀ {ds : List DV} {vs : List Value} {f : List Nat}, OwnL w ds vs f → ∀ u ∈ vs, u.oneCell' = true := fun h => layL_one (ok := fun _ => True) _ _ (ownL_lay _ _ _ h (fun _ _ => trivial))
  obtain ⟨A, m, cap, hA⟩ : ∃ A m cap, L.rv j = .slice A m cap := by
    rcases hrow2.2 with ⟨g, _⟩ | ⟨g, cap, cur, g, _⟩
    · exact ⟨_, _, _, g⟩
    · exact ⟨_, _, _, g⟩
  have hrun := hs.run L a w hr A m cap hA w
  have hm1 : (hi - lo) * c.sz + lo * c.sz = hi * c.sz := by rw [← Nat.add_mul]; congr 1; omega
  have hm2 : hi * c.sz ≤ c2.n * c.sz := Nat.mul_le_mul_right _ hhi
  have hm3 : hi * c.sz + (c2.n - hi) * c.sz = c2.n * c.sz := by rw [← Nat.add_mul]; congr 1; omega
  obtain ⟨A1, c1, e1, hrd⟩ : ∃ A1 c1, sliced A lo hi cap c.sz = .slice A1 (hi - lo) c1 ∧ RowRd w A1 (hi - lo) c.sz (sub (lo * c.sz) ((hi - lo) * c.sz) us) := by
    refine ⟨_, _, rfl, by rw [sub_len _ _ _ (by omega)], fun hpos => ?_⟩
    rcases hrow2.2 with ⟨g1, g2⟩ | ⟨g, cap', cur, g1, _, g3, g4, g5, g6, g7⟩
    · omega
    · rw [hA] at g1
      simp only [Value.slice.injEq] at g1
      obtain ⟨rfl, rfl, rfl⟩ := g1
      have hne : ¬ cap = lo := by omega
      refine ⟨g, lo * c.sz, by rw [if_neg hne]; simp only [Option.map_some, add_row, Nat.zero_add], fun i v hi' => ?_⟩
      have hlt : i < (hi - lo) * c.sz := by
        have := (List.getElem?_eq_some_iff.1 hi').1
        rw [sub_len _ _ _ (by omega)] at this
        exact this
      rw [sub_get _ _ _ _ hlt] at hi'
      rw [cell_of_row _ g _ cur c2.e (0, 0) g3]
      rw [← g7, List.getElem?_take, if_pos (by omega), Array.getElem?_toList] at hi'
      exact hi'
  refine wp_new hrun (hK1 _ _ ?_)
  have hr1 : Rel P C nt L ⟨(d1, .any) :: tm, bx, ks⟩ (a.put o1.dst (sliced A lo hi cap c.sz)) w := by
    rw [hd1]
    exact hr.put (v := .any) (by simpa [Nat.blt_eq] using hn1) (by simp only [SVr]) (by simp [SV.keys]) (by simp [SV.boxes])
  have ex := hx.run L _ w hr1
  simp only [SVr, CVr] at ex
  have ey : (a.put o1.dst (sliced A lo hi cap c.sz)).eval (.tmp d1) = .slice A1 (hi - lo) c1 := by
    rw [hd1, ← e1]
    have hsz := hr.sz
    have hlt : d1 < nt := by simpa [Nat.blt_eq] using hn1
    simp [Act.eval, Act.put, hsz, hlt]
  refine wpList_plain hg2 fun K hK => ?_
  have hzs : z.cells.size = c.sz := by
    have := zL_len g5
    simp only [Array.length_toList] at this
    rw [this, hl0]
  refine wp_app w x (.tmp d1) t ho c.e z c.sz by_ (hT.sl t c.e ht) (by rw [g1]; simp [g2, g3, g4]) hzs q2 (L.rv k) c.n vs ex hrow A1 (hi - lo) c1 _ ey hrd (fun u hu => one r5 u (List.mem_of_mem_drop (List.mem_of_mem_take hu))) (by simpa [maxLen] using h63) hb ?_
  intro A' c' w' h9 hchg hblk
  refine hK _ _ ?_
  -- the parts
  obtain ⟨fa, fr, rfl, ta, tr⟩ := ownL_cut (lo * c.sz) r5
  obtain ⟨fb, fc, rfl, tb, tc⟩ := ownL_cut ((hi - lo) * c.sz) tr
  have hkn := hr.kn k c hk
  have hjn := hr.kn j c2 hj
  have hkk := hr.kk k j c c2 hk hj hkj'
  rw [q1] at hkn; rw [r1] at hjn
  obtain ⟨n1, n2, n3⟩ := List.nodup_append.1 hkn
  obtain ⟨p1, p2, p3⟩ := List.nodup_append.1 hjn
  obtain ⟨pa, pbc, p4⟩ := List.nodup_append.1 p2
  obtain ⟨pb, pc, p5⟩ := List.nodup_append.1 pbc
  have hltk : ∀ b ∈ L.fp k, b < w.heap.size := fun b hb' => hr.k_lt hk b hb'
  have hltj : ∀ b ∈ L.fp j, b < w.heap.size := fun b hb' => hr.k_lt hj b hb'
  have inj : ∀ b, b ∈ fa ++ (fb ++ fc) → b ∈ L.fp j := fun b hb' => by rw [r1]; simp only [List.mem_append] at hb' ⊢; exact .inr hb'
  have ink : ∀ b, b ∈ f1 → b ∈ L.fp k := fun b hb' => by rw [q1]; simp [hb']
  have keepk : ∀ b ∈ f1, w'.heap[b]? = w.heap[b]? := fun b hb' => hchg.block b (hltk b (ink b hb')) (fun hm => n3 b hm b hb' rfl)
  have keepj : ∀ b ∈ L.fp j, w'.heap[b]? = w.heap[b]? := fun b hb' => hchg.block b (hltj b hb') (fun hm => hkk b (by rw [q1]; simp [hm]) hb')
  have k1 := ownL_keep _ _ _ q5 keepk
  have k2 := ownL_keep _ _ _ tb (fun b hb' => keepj b (inj b (by simp [hb'])))
  have hbl : ∀ b, b ∈ (Value.slice A' (c.n + (hi - lo)) c').ownBlock.toList → b ∈ (L.rv k).ownBlock.toList ∨ b = w.heap.size := fun b hb' => by
    rcases hblk with g | g
    · rw [← g] at hb'; exact .inl hb'
    · rw [g] at hb'; simp only [Option.toList_some, List.mem_singleton] at hb'; exact .inr hb'
  have hown' : Own w' (.sl c.e c.sz (c.n + (hi - lo)) (c.cs ++ sub (lo * c.sz) ((hi - lo) * c.sz) c2.cs)) (.slice A' (c.n + (hi - lo)) c') ((Value.slice A' (c.n + (hi - lo)) c').ownBlock.toList ++ (f1 ++ fb)) := by
    unfold Own
    refine ⟨_, f1 ++ fb, rfl, q2, ?_, rowE_of hE h9, ownL_append _ _ _ _ _ _ k1 k2⟩
    rw [List.length_append, q3, sub_len _ _ _ (by rw [r3]; omega), Nat.add_mul]
  have hset := hr1.setkey (k := k) (c := c) (c' := ⟨false, c.e, c.sz, c.n + (hi - lo), c.cs ++ sub (lo * c.sz) ((hi - lo) * c.sz) c2.cs⟩) (js := [j]) (same := false) hk hkj (hchg.mono (fun b hb' => by rw [q1]; simp [hb'])) hown'
    (by
      refine List.nodup_append.2 ⟨?_, List.nodup_append.2 ⟨n2, pb, fun x hx' y hy' e' => hkk x (ink x hx') (inj x (by rw [e']; simp [hy']))⟩, fun x hx' y hy' e' => ?_⟩
      · cases (Value.slice A' (c.n + (hi - lo)) c').ownBlock <;> simp
      · subst e'
        rcases hbl x hx' with g | g
        · rcases List.mem_append.1 hy' with hy' | hy'
          · exact n3 x g x hy' rfl
          · exact hkk x (by rw [q1]; simp [g]) (inj x (by simp [hy']))
        · rcases List.mem_append.1 hy' with hy' | hy'
          · have := hltk x (ink x hy'); omega
          · have := hltj x (inj x (by simp [hy'])); omega)
    (fun b hb' => by
      rcases List.mem_append.1 hb' with hb' | hb'
      · rcases hbl b hb' with g | g
        · exact .inl (by rw [q1]; simp [g])
        · exact .inr (.inr (by omega))
      · rcases List.mem_append.1 hb' with hb' | hb'
        · exact .inl (ink b hb')
        · exact .inr (.inl ⟨j, by simp, inj b (by simp [hb'])⟩)) (by intro i hi'; simp only [List.mem_singleton] at hi'; subst hi'; exact Option.isSome_iff_exists.2 ⟨c2, hj⟩) (by simp) (by simp)
  -- key j again, with holes
  have hone2 : ∀ u ∈ us, u.oneCell' = true := one r5
  have hrow3 : w'.ownsRow 0 c2.e c.sz (L.rv j) c2.n us := by
    refine ⟨hrow2.1, ?_⟩
    rcases hrow2.2 with g | ⟨g, cap', cur, g1, g2, g3, g4⟩
    · exact .inl g
    · refine .inr ⟨g, cap', cur, g1, g2, ?_, g4⟩
      rw [keepj g (by rw [r1, g1]; simp [Value.ownBlock])]; exact g3
  have hown2 : Own w' (.sl c2.e c.sz c2.n (holed c2.cs (lo * c.sz) ((hi - lo) * c.sz))) (L.rv j) ((L.rv j).ownBlock.toList ++ (fa ++ ([] ++ fc))) := by
    unfold Own
    have ta' := ownL_keep _ _ _ ta (fun b hb' => keepj b (inj b (by simp [hb'])))
    have tc' := ownL_keep _ _ _ tc (fun b hb' => keepj b (inj b (by simp [hb'])))
    have th : OwnL w' (List.replicate ((hi - lo) * c.sz) .hole) ((us.drop (lo * c.sz)).take ((hi - lo) * c.sz)) [] := by
      have := ownL_holes (w := w') ((us.drop (lo * c.sz)).take ((hi - lo) * c.sz)) (fun v hv => hone2 v (List.mem_of_mem_drop (List.mem_of_mem_take hv)))
      have e' : ((us.drop (lo * c.sz)).take ((hi - lo) * c.sz)).length = (hi - lo) * c.sz := by rw [List.length_take, List.length_drop]; omega
      rwa [e'] at this
    have hall := ownL_append _ _ _ _ _ _ ta' (ownL_append _ _ _ _ _ _ th tc')
    rw [List.take_append_drop, List.take_append_drop] at hall
    refine ⟨us, _, rfl, q2, ?_, rowE_of hE2 hrow3, hall⟩
    simp only [holed, List.length_append, List.length_take, List.length_replicate, List.length_drop, r3]
    omega
  have hlk : ∀ i, lkk (St.mut ⟨(d1, .any) :: tm, bx, ks⟩ k [j] false ⟨false, c.e, c.sz, c.n + (hi - lo), c.cs ++ sub (lo * c.sz) ((hi - lo) * c.sz) c2.cs⟩) i = if i = k then some ⟨false, c.e, c.sz, c.n + (hi - lo), c.cs ++ sub (lo * c.sz) ((hi - lo) * c.sz) c2.cs⟩ else if i = j then none else lkk ⟨tm, bx, ks⟩ i := fun i => by
    simp only [lkk, St.mut, List.map_cons, List.map_nil, List.cons_append, List.nil_append, look_cons]
    split
    · rfl
    · split <;> rfl
  have inj2 : ∀ b, b ∈ (L.rv j).ownBlock.toList ++ (fa ++ ([] ++ fc)) → b ∈ L.fp j := fun b hb' => by
    rw [r1]; simp only [List.mem_append, List.nil_append] at hb' ⊢
    rcases hb' with g | g | g
    · exact .inl g
    · exact .inr (.inl g)
    · exact .inr (.inr (.inr g))
  have hnew := hset.newkey (k := j) (c := ⟨false, c2.e, c.sz, c2.n, holed c2.cs (lo * c.sz) ((hi - lo) * c.sz)⟩) (v := L.rv j) (f := (L.rv j).ownBlock.toList ++ (fa ++ ([] ++ fc))) (by rw [hlk, if_neg (fun e => hkj' e.symm), if_pos rfl]) hown2 rfl
    (by
      rw [List.nil_append]
      refine List.nodup_append.2 ⟨p1, List.nodup_append.2 ⟨pa, pc, fun x hx' y hy' => p4 x hx' y (by simp [hy'])⟩, fun x hx' y hy' => p3 x hx' y (by
        simp only [List.mem_append] at hy' ⊢
        rcases hy' with g | g
        · exact .inl g
        · exact .inr (.inr g))⟩)
    (fun b hb' => hr.k1 j c2 hj b (inj2 b hb'))
    (fun b hb' i x hx' e' => by
      obtain ⟨y, hy⟩ := killB_some hx'
      exact hr.bk i j y c2 hy hj (by rw [show L.bb i = b from e']; exact inj2 b hb'))
    (fun b hb' i q hq hm => by
      rw [hlk] at hq
      by_cases hik : i = k
      · subst hik
        simp only [if_true] at hm
        rcases List.mem_append.1 hm with hm | hm
        · rcases hbl b hm with g | g
          · exact hkk b (by rw [q1]; simp [g]) (inj2 b hb')
          · have := hltj b (inj2 b hb'); omega
        · rcases List.mem_append.1 hm with hm | hm
          · exact hkk b (ink b hm) (inj2 b hb')
          · rw [List.nil_append] at hb'
            rcases List.mem_append.1 hb' with g | g
            · exact p3 b g b (by simp [hm]) rfl
            · rcases List.mem_append.1 g with g | g
              · exact p4 b g b (by simp [hm]) rfl
              · exact p5 b hm b g rfl
      · rw [if_neg hik] at hq
        by_cases hij : i = j
        · rw [if_pos hij] at hq; cases hq
        · rw [if_neg hij] at hq
          simp only [if_neg hik] at hm
          exact hr.kk i j q c2 hq hj hij b hm (inj2 b hb'))
  have hd' : d < nt := by simpa [Nat.blt_eq] using hnt
  have hput := hnew.put (d := d) (v := .one (.key k)) (r := .slice A' (c.n + (hi - lo)) c') hd' (by simp only [SVr, CVr]; rw [if_neg hkj']; simp) (by
    simp only [SV.keys, CV.keys, List.mem_singleton, forall_eq]
    simp [lkk, look_cons, hkj', St.mut]) (by simp [SV.boxes])
  have hsv := hr.tm s _ hsl
  simp only [SVr, CVr] at hsv
  have n1' : s ≠ d1 := Nat.ne_of_beq_eq_false hsd.1
  have n2' : s ≠ d := Nat.ne_of_beq_eq_false hsd.2
  have hval : ((a.put o1.dst (sliced A lo hi cap c.sz)).put (some d) (.slice A' (c.n + (hi - lo)) c')).tmps.getD s undef = L.rv j := by
    rw [← hsv, hd1]
    simp only [Act.put]
    rw [getD_setV n2', getD_setV n1']
  have hal := hput.also (d := s) (v := .one (.key j)) (by simp only [SVr, CVr, if_true]; exact hval) (by simp [SV.keys, CV.keys, lkk, look_cons, St.put]) (by simp [SV.boxes])
  rw [hd]
  exact h.run _ _ _ hal
/-- key k takes the place of key k' -/
theorem weak_swap {tm : List (Nat × SV)} {bx : List (Nat × TypeId × List CV)} {ks : List (Nat × Option KC)} {s k k' : Nat} {c c' : KC} (hs : look tm s = some (.one (.key k))) (hk : lkk ⟨tm, bx, ks⟩ k = some c) (hk' : lkk ⟨tm, bx, ks⟩ k' = some c') (hne : k' ∉ [k]) (hh : c.h = false) :
    Weak P C nt ⟨tm, bx, ks⟩ ⟨(s, .one (.key k')) :: killT [k', k] [k', k] tm, killB [k', k] [k', k] bx, (k', some c) :: (k, none) :: ks⟩ := Weak.mk fun L a w hr => by
  have ho := (hr.ks k c hk).1
  have hsv := hr.tm s _ hs
  simp only [SVr, CVr] at hsv
  have hset := hr.setkey (k := k') (c := c') (c' := c) (js := [k]) (same := false) hk' hne (Chg.refl _ w) ho (hr.kn k c hk) (fun b hb => .inr (.inl ⟨k, by simp, hb⟩)) (by intro i hi'; simp only [List.mem_singleton] at hi'; subst hi'; exact Option.isSome_iff_exists.2 ⟨c, hk⟩) (by simp) (fun h => by rw [hh] at h; cases h)
  exact ⟨_, hset.also (d := s) (v := .one (.key k')) (by simp only [SVr, CVr, if_true]; exact hsv) (by simp [SV.keys, CV.keys, mut_key]) (by simp [SV.boxes])⟩
/-! ### keys in boxes -/
theorem cvL_setk {L : Lyt} {w : World} {c' : CV} {v : Value} : ∀ {cs : List CV} {vs : List Value} {i : Nat}, CVL C L w cs vs → vs[i]? = some v → CVr C L w c' v → CVL C L w (cs.set i c') vs
  | [], _, _, h, _, _ => by simpa using h
  | x :: xs, _, 0, ⟨u, vs', e, h1, h2⟩, hv, hc => by
    subst e
    simp only [List.getElem?_cons_zero, Option.some.injEq] at hv
    subst hv
    exact ⟨u, vs', rfl, hc, h2⟩
  | x :: xs, _, i + 1, ⟨u, vs', e, h1, h2⟩, hv, hc => by
    subst e
    exact ⟨u, vs', rfl, h1, cvL_setk h2 (by simpa using hv) hc⟩
theorem cvL_getk {L : Lyt} {w : World} {c : CV} : ∀ {cs : List CV} {vs : List Value} {i : Nat}, CVL C L w cs vs → cs[i]? = some c → ∃ v, vs[i]? = some v ∧ CVr C L w c v
  | [], _, _, _, h => by simp at h
  | x :: xs, _, 0, ⟨u, vs', e, h1, h2⟩, h => by
    subst e
    simp only [List.getElem?_cons_zero, Option.some.injEq] at h
    subst h
    exact ⟨u, by simp, h1⟩
  | x :: xs, _, i + 1, ⟨u, vs', e, h1, h2⟩, h => by
    subst e
    simpa using cvL_getk h2 (by simpa using h)
/-- a box's cell is a key -/
theorem Rel.alsoK (h : Rel P C nt L σ a w) {b t i k : Nat} {cs : List CV} (hb : look σ.bx b = some (t, cs)) (hv : ∀ vs : List Value, w.heap[L.bb b]? = some (.cells vs.toArray t (0, 0)) → vs[i]? = some (L.rv k)) (hk : (lkk σ k).isSome = true) (hok : (cs.flatMap CV.keys).all (fun j => (lkk σ j).isSome) = true) : Rel P C nt L ⟨σ.tm, (b, t, cs.set i (.key k)) :: σ.bx, σ.ks⟩ a w :=
  have hx : ∀ z x, look ((b, t, cs.set i (.key k)) :: σ.bx) z = some x → ∃ y, look σ.bx z = some y := fun z x hx => by
    simp only [look_cons] at hx
    split at hx
    · rename_i e; exact ⟨_, by rw [e]; exact hb⟩
    · exact ⟨_, hx⟩
  { h with
    tm := h.tm
    bx := fun i' t' cs'' hx => by
      simp only [look_cons] at hx
      split at hx
      · rename_i e
        simp only [Option.some.injEq, Prod.mk.injEq] at hx
        obtain ⟨rfl, rfl⟩ := hx
        obtain ⟨vs, h1, h2⟩ := h.bx b _ _ hb
        exact ⟨vs, by rw [e]; exact h1, cvL_setk h2 (hv vs h1) (by simp [CVr])⟩
      · exact h.bx i' t' cs'' hx
    ks := h.ks
    b1 := fun z x h' => by obtain ⟨y, hy⟩ := hx z x h'; exact h.b1 z y hy
    k1 := h.k1
    kn := h.kn
    bb := fun z j x y h1 h2 => by
      obtain ⟨x', h1'⟩ := hx z x h1
      obtain ⟨y', h2'⟩ := hx j y h2
      exact h.bb z j x' y' h1' h2'
    bk := fun z k2 x c h' hc => by obtain ⟨y, hy⟩ := hx z x h'; exact h.bk z k2 y c hy hc
    kk := h.kk
    lk := fun j hm => by
      simp only [St.tk, List.flatMap_cons, List.mem_append] at hm
      rcases hm with hm | hm | hm
      · exact h.lk j (by simp only [St.tk, List.mem_append]; exact .inl hm)
      · obtain ⟨c, hc, hj⟩ := List.mem_flatMap.1 hm
        rcases List.mem_or_eq_of_mem_set hc with hc | hc
        · exact List.all_eq_true.1 hok j (List.mem_flatMap.2 ⟨c, hc, hj⟩)
        · rw [hc] at hj
          simp only [CV.keys, List.mem_singleton] at hj
          rw [hj]; exact hk
      · exact h.lk j (by simp only [St.tk, List.mem_append]; exact .inr hm)
    lb := fun b' hm => by
      have := h.lb b' hm
      simp only [look_cons]
      split
      · rfl
      · exact this }
theorem look_killB {vs rs : List Nat} {i : Nat} : ∀ {bx : List (Nat × TypeId × List CV)}, look (killB vs rs bx) i = (look bx i).map fun q => (q.1, q.2.map (CV.kill vs rs))
  | [] => by simp [killB, look]
  | p :: bx => by
    obtain ⟨b, q⟩ := p
    have ih := look_killB (vs := vs) (rs := rs) (i := i) (bx := bx)
    simp only [killB] at ih
    simp only [killB, List.map_cons, look_cons]
    split
    · rfl
    · exact ih
/-- key k, which stands in a box's cell, takes the place of key k' -/
theorem weak_swapB {tm : List (Nat × SV)} {bx : List (Nat × TypeId × List CV)} {ks : List (Nat × Option KC)} {b i t k k' : Nat} {cs : List CV} {c c' : KC} (hb : look bx b = some (t, cs)) (hi : cs[i]? = some (.key k)) (hk : lkk ⟨tm, bx, ks⟩ k = some c) (hk' : lkk ⟨tm, bx, ks⟩ k' = some c') (hne : k' ∉ [k]) (hh : c.h = false)
    (hok : ((cs.map (CV.kill [k', k] [k', k])).flatMap CV.keys).all (fun j => (lkk ⟨killT [k', k] [k', k] tm, killB [k', k] [k', k] bx, (k', some c) :: (k, none) :: ks⟩ j).isSome) = true) :
    Weak P C nt ⟨tm, bx, ks⟩ ⟨killT [k', k] [k', k] tm, (b, t, (cs.map (CV.kill [k', k] [k', k])).set i (.key k')) :: killB [k', k] [k', k] bx, (k', some c) :: (k, none) :: ks⟩ := Weak.mk fun L a w hr => by
  have ho := (hr.ks k c hk).1
  obtain ⟨vs0, h1, h2⟩ := hr.bx b t cs hb
  obtain ⟨v, h3, h4⟩ := cvL_getk h2 hi
  simp only [CVr] at h4
  have hset := hr.setkey (k := k') (c := c') (c' := c) (js := [k]) (same := false) hk' hne (Chg.refl _ w) ho (hr.kn k c hk) (fun b hb => .inr (.inl ⟨k, by simp, hb⟩)) (by intro i hi'; simp only [List.mem_singleton] at hi'; subst hi'; exact Option.isSome_iff_exists.2 ⟨c, hk⟩) (by simp) (fun h => by rw [hh] at h; cases h)
  refine ⟨_, hset.alsoK (b := b) (t := t) (i := i) (k := k') (cs := cs.map (CV.kill [k', k] [k', k])) (by show look (killB [k', k] [k', k] bx) b = _; rw [look_killB, hb]; rfl) (fun vs hvs => ?_) (by rw [mut_key]; rfl) hok⟩
  have e : vs = vs0 := by
    have : some (Obj.cells vs.toArray t (0, 0)) = some (Obj.cells vs0.toArray t (0, 0)) := hvs.symm.trans h1
    simpa using this
  subst e
  simp only [if_true]
  rw [h3, h4]
/-- the same; key j stands in a box's cell too -/
theorem o_appSubB {Q : Exit → St → Prop} {all : Array Oper} {rest : List Oper} {tm : List (Nat × SV)} {bx : List (Nat × TypeId × List CV)} {ks : List (Nat × Option KC)} {t e sz by_ d d1 k j s lo hi n : Nat} {zc : List CV} {c c2 : KC} {cs c2s : List DV} {b8 t8 i8 : Nat} {cs8 : List CV} (hT : TTOk P T)
    (hg1 : o1.guard = none) (hd1 : o1.dst = some d1) (hn1 : Nat.blt d1 nt = true) (hs : SlOk P C nt ⟨tm, bx, ks⟩ o1 j sz lo hi)
    (hg2 : o2.guard = none) (hd : o2.dst = some d) (ho : o2.op = .call { callee := .builtin .append, args := #[x, .tmp d1], argTypes := #[t, t] }) (hnt : Nat.blt d nt = true) (ht : look T.sl t = some e) (he : look T.el e = some (sz, by_, zc)) (hl0 : zc.length = sz)
    (hx : Ev P C nt ⟨(d1, .any) :: tm, bx, ks⟩ x (.one (.key k))) (hk : lkk ⟨tm, bx, ks⟩ k = some c) (hce : c.e = e) (hcs : c.sz = sz) (hj : lkk ⟨tm, bx, ks⟩ j = some c2) (hcs2 : c2.sz = sz) (he2 : Nat.blt c2.e 1000000 = true) (hkj : k ∉ [j]) (hh : c2.h = false)
    (hsl : look tm s = some (.one (.key j))) (hsd : Nat.beq s d1 = false ∧ Nat.beq s d = false) (hlh : lo ≤ hi) (hhi : hi ≤ c2.n) (hb : (c.n + (hi - lo)) * by_ ≤ 140737488355328) (h63 : c.n + (hi - lo) ≤ 9223372036854775807) (hn : c.n + (hi - lo) = n) (hcc : c.cs ++ sub (lo * sz) ((hi - lo) * sz) c2.cs = cs) (hcc2 : holed c2.cs (lo * sz) ((hi - lo) * sz) = c2s)
    (hb8 : look bx b8 = some (t8, cs8)) (hi8 : cs8[i8]? = some (.key j)) (hok8 : ((cs8.map (CV.kill [k, j] [k, j])).flatMap CV.keys).all (fun i => (lkk ⟨(s, .one (.key j)) :: (d, .one (.key k)) :: killT [k, j] [k, j] ((d1, .any) :: tm), killB [k, j] [k, j] bx, (j, some ⟨false, c2.e, sz, c2.n, c2s⟩) :: (k, some ⟨false, e, sz, n, cs⟩) :: (j, none) :: ks⟩ i).isSome) = true)
    (h : Ops P C nt Q all rest ⟨(s, .one (.key j)) :: (d, .one (.key k)) :: killT [k, j] [k, j] ((d1, .any) :: tm), (b8, t8, (cs8.map (CV.kill [k, j] [k, j])).set i8 (.key j)) :: killB [k, j] [k, j] bx, (j, some ⟨false, c2.e, sz, c2.n, c2s⟩) :: (k, some ⟨false, e, sz, n, cs⟩) :: (j, none) :: ks⟩) : Ops P C nt Q all (o1 :: o2 :: rest) ⟨tm, bx, ks⟩ := Ops.mk fun L a w hr => by
  subst hn; subst hcc; subst hcc2
  have hkj' : k ≠ j := by simpa using hkj
  refine wpList_plain hg1 fun K1 hK1 => ?_
  -- what stands in memory
  have ho1 := (hr.ks k c hk).1
  have ho2 := (hr.ks j c2 hj).1
  simp only [Own] at ho1 ho2
  obtain ⟨vs, f1, q1, q2, q3, q4, q5⟩ := ho1
  obtain ⟨us, f2, r1, r2, r3, r4, r5⟩ := ho2
  subst hce; subst hcs
  obtain ⟨inf, z, g1, g2, g3, g4, g5⟩ := hT.el c.e c.sz by_ zc he
  have hE : c.e < 1000000 := hT.lt _ _ he
  have hrow := q4.1 hE
  have hE2 : c2.e < 1000000 := by simpa [Nat.blt_eq] using he2
  have hrow2 := r4.1 hE2
  rw [hcs2] at hrow2 r3
  have hul : us.length = c2.n * c.sz := hrow2.1
  have one : ∀ {ds : List DV} {vs : List Value} {f : List Nat}, OwnL w ds vs f → ∀ u ∈ vs, u.oneCell' = true := fun h => layL_one (ok := fun _ => True) _ _ (ownL_lay _ _ _ h (fun _ _ => trivial))
  obtain ⟨A, m, cap, hA⟩ : ∃ A m cap, L.rv j = .slice A m cap := by
    rcases hrow2.2 with ⟨g, _⟩ | ⟨g, cap, cur, g, _⟩
    · exact ⟨_, _, _, g⟩
    · exact ⟨_, _, _, g⟩
  have hrun := hs.run L a w hr A m cap hA w
  have hm1 : (hi - lo) * c.sz + lo * c.sz = hi * c.sz := by rw [← Nat.add_mul]; congr 1; omega
  have hm2 : hi * c.sz ≤ c2.n * c.sz := Nat.mul_le_mul_right _ hhi
  have hm3 : hi * c.sz + (c2.n - hi) * c.sz = c2.n * c.sz := by rw [← Nat.add_mul]; congr 1; omega
  obtain ⟨A1, c1, e1, hrd⟩ : ∃ A1 c1, sliced A lo hi cap c.sz = .slice A1 (hi - lo) c1 ∧ RowRd w A1 (hi - lo) c.sz (sub (lo * c.sz) ((hi - lo) * c.sz) us) := by
    refine ⟨_, _, rfl, by rw [sub_len _ _ _ (by omega)], fun hpos => ?_⟩
    rcases hrow2.2 with ⟨g1, g2⟩ | ⟨g, cap', cur, g1, _, g3, g4, g5, g6, g7⟩
    · omega
    · rw [hA] at g1
      simp only [Value.slice.injEq] at g1
      obtain ⟨rfl, rfl, rfl⟩ := g1
      have hne : ¬ cap = lo := by omega
      refine ⟨g, lo * c.sz, by rw [if_neg hne]; simp only [Option.map_some, add_row, Nat.zero_add], fun i v hi' => ?_⟩
      have hlt : i < (hi - lo) * c.sz := by
        have := (List.getElem?_eq_some_iff.1 hi').1
        rw [sub_len _ _ _ (by omega)] at this
        exact this
      rw [sub_get _ _ _ _ hlt] at hi'
      rw [cell_of_row _ g _ cur c2.e (0, 0) g3]
      rw [← g7, List.getElem?_take, if_pos (by omega), Array.getElem?_toList] at hi'
      exact hi'
  refine wp_new hrun (hK1 _ _ ?_)
  have hr1 : Rel P C nt L ⟨(d1, .any) :: tm, bx, ks⟩ (a.put o1.dst (sliced A lo hi cap c.sz)) w := by
    rw [hd1]
    exact hr.put (v := .any) (by simpa [Nat.blt_eq] using hn1) (by simp only [SVr]) (by simp [SV.keys]) (by simp [SV.boxes])
  have ex := hx.run L _ w hr1
  simp only [SVr, CVr] at ex
  have ey : (a.put o1.dst (sliced A lo hi cap c.sz)).eval (.tmp d1) = .slice A1 (hi - lo) c1 := by
    rw [hd1, ← e1]
    have hsz := hr.sz
    have hlt : d1 < nt := by simpa [Nat.blt_eq] using hn1
    simp [Act.eval, Act.put, hsz, hlt]
  refine wpList_plain hg2 fun K hK => ?_
  have hzs : z.cells.size = c.sz := by
    have := zL_len g5
    simp only [Array.length_toList] at this
    rw [this, hl0]
  refine wp_app w x (.tmp d1) t ho c.e z c.sz by_ (hT.sl t c.e ht) (by rw [g1]; simp [g2, g3, g4]) hzs q2 (L.rv k) c.n vs ex hrow A1 (hi - lo) c1 _ ey hrd (fun u hu => one r5 u (List.mem_of_mem_drop (List.mem_of_mem_take hu))) (by simpa [maxLen] using h63) hb ?_
  intro A' c' w' h9 hchg hblk
  refine hK _ _ ?_
  -- the parts
  obtain ⟨fa, fr, rfl, ta, tr⟩ := ownL_cut (lo * c.sz) r5
  obtain ⟨fb, fc, rfl, tb, tc⟩ := ownL_cut ((hi - lo) * c.sz) tr
  have hkn := hr.kn k c hk
  have hjn := hr.kn j c2 hj
  have hkk := hr.kk k j c c2 hk hj hkj'
  rw [q1] at hkn; rw [r1] at hjn
  obtain ⟨n1, n2, n3⟩ := List.nodup_append.1 hkn
  obtain ⟨p1, p2, p3⟩ := List.nodup_append.1 hjn
  obtain ⟨pa, pbc, p4⟩ := List.nodup_append.1 p2
  obtain ⟨pb, pc, p5⟩ := List.nodup_append.1 pbc
  have hltk : ∀ b ∈ L.fp k, b < w.heap.size := fun b hb' => hr.k_lt hk b hb'
  have hltj : ∀ b ∈ L.fp j, b < w.heap.size := fun b hb' => hr.k_lt hj b hb'
  have inj : ∀ b, b ∈ fa ++ (fb ++ fc) → b ∈ L.fp j := fun b hb' => by rw [r1]; simp only [List.mem_append] at hb' ⊢; exact .inr hb'
  have ink : ∀ b, b ∈ f1 → b ∈ L.fp k := fun b hb' => by rw [q1]; simp [hb']
  have keepk : ∀ b ∈ f1, w'.heap[b]? = w.heap[b]? := fun b hb' => hchg.block b (hltk b (ink b hb')) (fun hm => n3 b hm b hb' rfl)
  have keepj : ∀ b ∈ L.fp j, w'.heap[b]? = w.heap[b]? := fun b hb' => hchg.block b (hltj b hb') (fun hm => hkk b (by rw [q1]; simp [hm]) hb')
  have k1 := ownL_keep _ _ _ q5 keepk
  have k2 := ownL_keep _ _ _ tb (fun b hb' => keepj b (inj b (by simp [hb'])))
  have hbl : ∀ b, b ∈ (Value.slice A' (c.n + (hi - lo)) c').ownBlock.toList → b ∈ (L.rv k).ownBlock.toList ∨ b = w.heap.size := fun b hb' => by
    rcases hblk with g | g
    · rw [← g] at hb'; exact .inl hb'
    · rw [g] at hb'; simp only [Option.toList_some, List.mem_singleton] at hb'; exact .inr hb'
  have hown' : Own w' (.sl c.e c.sz (c.n + (hi - lo)) (c.cs ++ sub (lo * c.sz) ((hi - lo) * c.sz) c2.cs)) (.slice A' (c.n + (hi - lo)) c') ((Value.slice A' (c.n + (hi - lo)) c').ownBlock.toList ++ (f1 ++ fb)) := by
    unfold Own
    refine ⟨_, f1 ++ fb, rfl, q2, ?_, rowE_of hE h9, ownL_append _ _ _ _ _ _ k1 k2⟩
    rw [List.length_append, q3, sub_len _ _ _ (by rw [r3]; omega), Nat.add_mul]
  have hset := hr1.setkey (k := k) (c := c) (c' := ⟨false, c.e, c.sz, c.n + (hi - lo), c.cs ++ sub (lo * c.sz) ((hi - lo) * c.sz) c2.cs⟩) (js := [j]) (same := false) hk hkj (hchg.mono (fun b hb' => by rw [q1]; simp [hb'])) hown'
    (by
      refine List.nodup_append.2 ⟨?_, List.nodup_append.2 ⟨n2, pb, fun x hx' y hy' e' => hkk x (ink x hx') (inj x (by rw [e']; simp [hy']))⟩, fun x hx' y hy' e' => ?_⟩
      · cases (Value.slice A' (c.n + (hi - lo)) c').ownBlock <;> simp
      · subst e'
        rcases hbl x hx' with g | g
        · rcases List.mem_append.1 hy' with hy' | hy'
          · exact n3 x g x hy' rfl
          · exact hkk x (by rw [q1]; simp [g]) (inj x (by simp [hy']))
        · rcases List.mem_append.1 hy' with hy' | hy'
          · have := hltk x (ink x hy'); omega
          · have := hltj x (inj x (by simp [hy'])); omega)
    (fun b hb' => by
      rcases List.mem_append.1 hb' with hb' | hb'
      · rcases hbl b hb' with g | g
        · exact .inl (by rw [q1]; simp [g])
        · exact .inr (.inr (by omega))
      · rcases List.mem_append.1 hb' with hb' | hb'
        · exact .inl (ink b hb')
        · exact .inr (.inl ⟨j, by simp, inj b (by simp [hb'])⟩)) (by intro i hi'; simp only [List.mem_singleton] at hi'; subst hi'; exact Option.isSome_iff_exists.2 ⟨c2, hj⟩) (by simp) (by simp)
  -- key j again, with holes
  have hone2 : ∀ u ∈ us, u.oneCell' = true := one r5
  have hrow3 : w'.ownsRow 0 c2.e c.sz (L.rv j) c2.n us := by
    refine ⟨hrow2.1, ?_⟩
    rcases hrow2.2 with g | ⟨g, cap', cur, g1, g2, g3, g4⟩
    · exact .inl g
    · refine .inr ⟨g, cap', cur, g1, g2, ?_, g4⟩
      rw [keepj g (by rw [r1, g1]; simp [Value.ownBlock])]; exact g3
  have hown2 : Own w' (.sl c2.e c.sz c2.n (holed c2.cs (lo * c.sz) ((hi - lo) * c.sz))) (L.rv j) ((L.rv j).ownBlock.toList ++ (fa ++ ([] ++ fc))) := by
    unfold Own
    have ta' := ownL_keep _ _ _ ta (fun b hb' => keepj b (inj b (by simp [hb'])))
    have tc' := ownL_keep _ _ _ tc (fun b hb' => keepj b (inj b (by simp [hb'])))
    have th : OwnL w' (List.replicate ((hi - lo) * c.sz) .hole) ((us.drop (lo * c.sz)).take ((hi - lo) * c.sz)) [] := by
      have := ownL_holes (w := w') ((us.drop (lo * c.sz)).take ((hi - lo) * c.sz)) (fun v hv => hone2 v (List.mem_of_mem_drop (List.mem_of_mem_take hv)))
      have e' : ((us.drop (lo * c.sz)).take ((hi - lo) * c.sz)).length = (hi - lo) * c.sz := by rw [List.length_take, List.length_drop]; omega
      rwa [e'] at this
    have hall := ownL_append _ _ _ _ _ _ ta' (ownL_append _ _ _ _ _ _ th tc')
    rw [List.take_append_drop, List.take_append_drop] at hall
    refine ⟨us, _, rfl, q2, ?_, rowE_of hE2 hrow3, hall⟩
    simp only [holed, List.length_append, List.length_take, List.length_replicate, List.length_drop, r3]
    omega
  have hlk : ∀ i, lkk (St.mut ⟨(d1, .any) :: tm, bx, ks⟩ k [j] false ⟨false, c.e, c.sz, c.n + (hi - lo), c.cs ++ sub (lo * c.sz) ((hi - lo) * c.sz) c2.cs⟩) i = if i = k then some ⟨false, c.e, c.sz, c.n + (hi - lo), c.cs ++ sub (lo * c.sz) ((hi - lo) * c.sz) c2.cs⟩ else if i = j then none else lkk ⟨tm, bx, ks⟩ i := fun i => by
    simp only [lkk, St.mut, List.map_cons, List.map_nil, List.cons_append, List.nil_append, look_cons]
    split
    · rfl
    · split <;> rfl
  have inj2 : ∀ b, b ∈ (L.rv j).ownBlock.toList ++ (fa ++ ([] ++ fc)) → b ∈ L.fp j := fun b hb' => by
    rw [r1]; simp only [List.mem_append, List.nil_append] at hb' ⊢
    rcases hb' with g | g | g
    · exact .inl g
    · exact .inr (.inl g)
    · exact .inr (.inr (.inr g))
  have hnew := hset.newkey (k := j) (c := ⟨false, c2.e, c.sz, c2.n, holed c2.cs (lo * c.sz) ((hi - lo) * c.sz)⟩) (v := L.rv j) (f := (L.rv j).ownBlock.toList ++ (fa ++ ([] ++ fc))) (by rw [hlk, if_neg (fun e => hkj' e.symm), if_pos rfl]) hown2 rfl
    (by
      rw [List.nil_append]
      refine List.nodup_append.2 ⟨p1, List.nodup_append.2 ⟨pa, pc, fun x hx' y hy' => p4 x hx' y (by simp [hy'])⟩, fun x hx' y hy' => p3 x hx' y (by
        simp only [List.mem_append] at hy' ⊢
        rcases hy' with g | g
        · exact .inl g
        · exact .inr (.inr g))⟩)
    (fun b hb' => hr.k1 j c2 hj b (inj2 b hb'))
    (fun b hb' i x hx' e' => by
      obtain ⟨y, hy⟩ := killB_some hx'
      exact hr.bk i j y c2 hy hj (by rw [show L.bb i = b from e']; exact inj2 b hb'))
    (fun b hb' i q hq hm => by
      rw [hlk] at hq
      by_cases hik : i = k
      · subst hik
        simp only [if_true] at hm
        rcases List.mem_append.1 hm with hm | hm
        · rcases hbl b hm with g | g
          · exact hkk b (by rw [q1]; simp [g]) (inj2 b hb')
          · have := hltj b (inj2 b hb'); omega
        · rcases List.mem_append.1 hm with hm | hm
          · exact hkk b (ink b hm) (inj2 b hb')
          · rw [List.nil_append] at hb'
            rcases List.mem_append.1 hb' with g | g
            · exact p3 b g b (by simp [hm]) rfl
            · rcases List.mem_append.1 g with g | g
              · exact p4 b g b (by simp [hm]) rfl
              · exact p5 b hm b g rfl
      · rw [if_neg hik] at hq
        by_cases hij : i = j
        · rw [if_pos hij] at hq; cases hq
        · rw [if_neg hij] at hq
          simp only [if_neg hik] at hm
          exact hr.kk i j q c2 hq hj hij b hm (inj2 b hb'))
  have hd' : d < nt := by simpa [Nat.blt_eq] using hnt
  have hput := hnew.put (d := d) (v := .one (.key k)) (r := .slice A' (c.n + (hi - lo)) c') hd' (by simp only [SVr, CVr]; rw [if_neg hkj']; simp) (by
    simp only [SV.keys, CV.keys, List.mem_singleton, forall_eq]
    simp [lkk, look_cons, hkj', St.mut]) (by simp [SV.boxes])
  have hsv := hr.tm s _ hsl
  simp only [SVr, CVr] at hsv
  have n1' : s ≠ d1 := Nat.ne_of_beq_eq_false hsd.1
  have n2' : s ≠ d := Nat.ne_of_beq_eq_false hsd.2
  have hval : ((a.put o1.dst (sliced A lo hi cap c.sz)).put (some d) (.slice A' (c.n + (hi - lo)) c')).tmps.getD s undef = L.rv j := by
    rw [← hsv, hd1]
    simp only [Act.put]
    rw [getD_setV n2', getD_setV n1']
  have hal := hput.also (d := s) (v := .one (.key j)) (by simp only [SVr, CVr, if_true]; exact hval) (by simp [SV.keys, CV.keys, lkk, look_cons, St.put]) (by simp [SV.boxes])
  rw [hd]
  obtain ⟨vs0, z1, z2⟩ := hr.bx b8 t8 cs8 hb8
  obtain ⟨v8, z3, z4⟩ := cvL_getk z2 hi8
  simp only [CVr] at z4
  have hbk := hr.bk b8 k _ c hb8 hk
  refine h.run _ _ _ (hal.alsoK (b := b8) (t := t8) (i := i8) (k := j) (cs := cs8.map (CV.kill [k, j] [k, j])) (by show look (killB [k, j] [k, j] bx) b8 = _; rw [look_killB, hb8]; rfl) (fun vs2 hvs2 => ?_) (by simp [lkk, look_cons, St.put]) hok8)
  have hkeep : w'.heap[L.bb b8]? = w.heap[L.bb b8]? := hchg.block _ (hr.bx_lt hb8) (fun hm => hbk (by rw [q1]; simp [hm]))
  have e8 : vs2 = vs0 := by
    have : some (Obj.cells vs2.toArray t8 (0, 0)) = some (Obj.cells vs0.toArray t8 (0, 0)) := hvs2.symm.trans (hkeep.trans z1)
    simpa using this
  subst e8
  simp only [if_true]
  rw [z3, z4]
end
end Go.Proofs.Ytbmgommbmhmbgaa
