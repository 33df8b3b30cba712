/-
  The rules of the abstract logic for operations that make memory or write it.
-/
import Derived.Test.YtbmgommbmhmbgaaOps
namespace Go.Proofs.Ytbmgommbmhmbgaa
open Go.RowKit
set_option linter.unusedVariables false
set_option linter.unusedSimpArgs false

section
variable {P : Program} {C : Ctx} {nt : Nat} {σ : St} {T : TT} {o : Oper} {x y : Operand}
theorem own_sl_one {w : World} {e sz n : Nat} {cs : List DV} {v : Value} {fp : List Nat} (h : Own w (.sl e sz n cs) v fp) : v.oneCell' = true := lay_one _ _ (own_lay (ok := fun _ => True) _ _ _ h (fun _ _ => trivial))
theorem cv_cell {L : Lyt} {a : Act} {w : World} (hr : Rel P C nt L σ a w) {c : CV} {v : Value} (hk : ∀ k ∈ c.keys, (lkk σ k).isSome = true) (h : CVr C L w c v) : v.oneCell' = true :=
  cv_one (fun k hm => by
    obtain ⟨d, hd⟩ := Option.isSome_iff_exists.1 (hk k hm)
    exact own_sl_one (hr.ks k d hd).1) h
theorem cvL_cells {L : Lyt} {a : Act} {w : World} (hr : Rel P C nt L σ a w) : ∀ {cs : List CV} {vs : List Value}, (∀ k ∈ cs.flatMap CV.keys, (lkk σ k).isSome = true) → CVL C L w cs vs → ∀ u ∈ vs, u.oneCell' = true
  | [], _, _, h, u, hu => by simp only [CVL] at h; subst h; simp at hu
  | c :: cs, _, hk, ⟨v, vs', e, h1, h2⟩, u, hu => by
    subst e
    rcases List.mem_cons.1 hu with rfl | hu
    · exact cv_cell hr (fun k hm => hk k (by simp only [List.flatMap_cons, List.mem_append]; exact .inl hm)) h1
    · exact cvL_cells hr (fun k hm => hk k (by simp only [List.flatMap_cons, List.mem_append]; exact .inr hm)) h2 u hu
theorem oneCell_cells {v : Value} (h : v.oneCell' = true) : v.cells = #[v] := by cases v <;> first | rfl | cases h
/-- a value's cells -/
theorem sv_cells {L : Lyt} {a : Act} {w : World} (hr : Rel P C nt L σ a w) {v : SV} {r : Value} {p : Bool × List CV} (hp : v.part = some p) (hk : svOk σ v = true) (h : SVr P C L w v r) : ∃ vs, r.cells = vs.toArray ∧ CVL C L w p.2 vs ∧ (∀ u ∈ vs, u.oneCell' = true) := by
  have hk' := (svOk_spec hk).1
  rw [← part_keys hp] at hk'
  obtain ⟨us, h1, h2⟩ := tvL_part h hp
  have h3 := cvL_cells hr hk' h1
  obtain ⟨g, cs⟩ := p
  cases g with
  | true => simp only [if_true] at h2; subst h2; exact ⟨us, rfl, h1, h3⟩
  | false =>
    simp only [Bool.false_eq_true, if_false] at h2
    subst h2
    exact ⟨[r], by rw [oneCell_cells (h3 r (by simp))], h1, h3⟩
theorem wp_new {a : Act} {w w' : World} {v : Value} {K : Act → World → Prop} {Q : Exit → Act → World → Prop} (h : (execOp a.eval o).run P w = .ok (.value v) w') (hk : K (a.put o.dst v) w') : o.wp P a w K Q := by
  unfold Oper.wp; rw [h]; exact hk
theorem efg_box {t d : Nat} {v : SV} {p : Bool × List CV} (ho : o.op = .box t x) (hd : o.dst = some d) (hn : Nat.blt d nt = true) (hx : Ev P C nt σ x v) (hp : v.part = some p) (hk : svOk σ v = true) (hi : look σ.bx d = none) :
    EfG P C nt o σ (fun σ' => σ' = { σ with bx := (d, t, p.2) :: σ.bx }.put d (.box d 0)) := EfG.mk fun L a w hr K Q hK => by
  obtain ⟨vs, h1, h2, h3⟩ := sv_cells hr hp hk (hx.run L a w hr)
  refine wp_new (v := .pointer (some ⟨w.heap.size, 0, none⟩)) (w' := w.alloc (.cells vs.toArray t)) ?_ ?_
  · unfold execOp
    simp only [ho, Instr.box, newVar, newRow, Sem.run_bind, run_newObj, Result.andThen_ok, Sem.run_pure, h1, World.alloc_eq]
  · have hb := hr.newbox (t := t) hi h2 (by rw [part_keys hp]; exact (svOk_spec hk).1)
    refine hK { L with bb := fun j => if j = d then w.heap.size else L.bb j } _ _ _ rfl (by rw [hd]; exact hb.put (v := .box d 0) (r := .pointer (some ⟨w.heap.size, 0, none⟩)) (by simpa [Nat.blt_eq] using hn) (by simp [SVr]) (by simp [SV.keys]) (by simp [SV.boxes, look_cons])) ⟨(Chg.refl _ _).alloc _, fun _ _ _ => rfl, fun i x hx => ?_⟩
    have : i ≠ d := fun e => by rw [e, hi] at hx; cases hx
    simp [this]
theorem efg_alloc (hT : TTOk P T) {t d sz by_ : Nat} {zc : List CV} (ho : o.op = .alloc t) (hd : o.dst = some d) (hn : Nat.blt d nt = true) (ht : look T.el t = some (sz, by_, zc)) (hi : look σ.bx d = none) :
    EfG P C nt o σ (fun σ' => σ' = { σ with bx := (d, t, zc) :: σ.bx }.put d (.box d 0)) := EfG.mk fun L a w hr K Q hK => by
  obtain ⟨inf, z, h1, h2, h3, h4, h5⟩ := hT.el t sz by_ zc ht
  obtain ⟨h6, h7, h8⟩ := zL_cv (C := C) (L := L) (w := w) h5
  refine wp_new (v := .pointer (some ⟨w.heap.size, 0, none⟩)) (w' := w.alloc (.cells z.cells t)) ?_ ?_
  · unfold execOp
    simp [ho, Instr.alloc, newVar, newRow, zeroValue, typeInfo, h1, h4]
  · have hb := hr.newbox (t := t) (vs := z.cells.toList) hi h6 (by rw [h7]; simp)
    simp only [Array.toArray_toList] at hb
    refine hK { L with bb := fun j => if j = d then w.heap.size else L.bb j } _ _ _ rfl (by rw [hd]; exact hb.put (v := .box d 0) (r := .pointer (some ⟨w.heap.size, 0, none⟩)) (by simpa [Nat.blt_eq] using hn) (by simp [SVr]) (by simp [SV.keys]) (by simp [SV.boxes, look_cons])) ⟨(Chg.refl _ _).alloc _, fun _ _ _ => rfl, fun i x hx => ?_⟩
    have : i ≠ d := fun e => by rw [e, hi] at hx; cases hx
    simp [this]
/-- cells written over others, from off on -/
def setR {α : Type} (off : Nat) (us cs : List α) : List α := cs.take off ++ us ++ cs.drop (off + us.length)
theorem cvL_append {L : Lyt} {w : World} : ∀ {cs ds : List CV} {vs us : List Value}, CVL C L w cs vs → CVL C L w ds us → CVL C L w (cs ++ ds) (vs ++ us)
  | [], _, _, _, h1, h2 => by simp only [CVL] at h1; subst h1; exact h2
  | c :: cs, ds, _, us, ⟨v, vs', e, h1, h3⟩, h2 => by subst e; exact ⟨v, _, rfl, h1, cvL_append h3 h2⟩
theorem cvL_take {L : Lyt} {w : World} {cs : List CV} {vs : List Value} (n : Nat) (h : CVL C L w cs vs) : CVL C L w (cs.take n) (vs.take n) := by
  have := cvL_sub 0 n h
  simpa only [sub, List.drop_zero] using this
theorem cvL_drop {L : Lyt} {w : World} {cs : List CV} {vs : List Value} (n : Nat) (h : CVL C L w cs vs) : CVL C L w (cs.drop n) (vs.drop n) := by
  have := cvL_sub n cs.length h
  rw [show sub n cs.length cs = cs.drop n by simp [sub, List.take_of_length_le], show sub n cs.length vs = vs.drop n by rw [← cvL_len h]; simp [sub, List.take_of_length_le]] at this
  exact this
theorem cvL_setR {L : Lyt} {w : World} {cs us : List CV} {vs xs : List Value} (off : Nat) (h : CVL C L w cs vs) (h2 : CVL C L w us xs) : CVL C L w (setR off us cs) (setR off xs vs) := by
  unfold setR
  rw [cvL_len h2]
  exact cvL_append (cvL_append (cvL_take off h) h2) (cvL_drop _ h)
theorem chg_setRow (w : World) (g : Nat) (c : Array Value) : Chg [g] w (w.setRow g c) :=
  ⟨rfl, rfl, rfl, by simp, fun k _ hk => setRow_other w g k _ (by simpa using hk)⟩
theorem run_store_row {w : World} {t g off t' sz : Nat} {i : TypeInfo} {z : Value} {v : Value} {vs us : List Value} (hi : P.info? t = some i) (hs : i.size = sz) (hv : v.cells = us.toArray) (hl : us.length = sz) (h1 : ∀ u ∈ us, u.oneCell' = true)
    (hg : w.heap[g]? = some (.cells vs.toArray t' (0, 0))) (hb : off + sz ≤ vs.length) : (Instr.storeAt t (.pointer (some ⟨g, off, none⟩)) v).run P w = .ok () (w.setRow g (setR off us vs).toArray) := by
  have h := run_storeCells_at (P := P) g off t' us 0 vs.toArray w hg (by simp; omega) h1
  simp only [Nat.add_zero, List.toList_toArray] at h
  simp only [Instr.storeAt, Instr.sureAddr, storeVar, sizeOf, typeInfo, Sem.run_bind, Sem.run_pure, run_program, Result.andThen_ok, hi, hv, List.size_toArray, hl, hs, ne_eq, not_true_eq_false, if_false, List.toList_toArray]
  exact h
theorem ef_storeBox (hT : TTOk P T) {t b i t' sz by_ : Nat} {zc cs : List CV} {v : SV} {p : Bool × List CV} (ho : o.op = .store t x y) (hd : o.dst = none) (ht : look T.el t = some (sz, by_, zc)) (hx : Ev P C nt σ x (.box b i)) (hy : Ev P C nt σ y v) (hp : v.part = some p) (hk : svOk σ v = true)
    (hb : look σ.bx b = some (t', cs)) (hl : p.2.length = sz) (hle : Nat.ble (i + sz) cs.length = true) (hkc : (cs.flatMap CV.keys).all (fun k => (lkk σ k).isSome) = true) :
    Ef P C nt o σ (fun σ' => σ' = { σ with bx := (b, t', setR i p.2 cs) :: σ.bx }) := Ef.mk fun L a w hr K Q hK => by
  obtain ⟨us, h1, h2, h3⟩ := sv_cells hr hp hk (hy.run L a w hr)
  have h4 := hx.run L a w hr
  simp only [SVr] at h4
  obtain ⟨vs, h5, h6⟩ := hr.bx b t' cs hb
  obtain ⟨inf, z, g1, g2, _⟩ := hT.el t sz by_ zc ht
  have hrun := run_store_row (z := z) g1 g2 h1 (by rw [cvL_len h2]; exact hl) h3 h5 (off := i) (by rw [cvL_len h6]; simpa [Nat.ble_eq] using hle)
  unfold Oper.wp execOp
  simp only [ho, h4, Sem.run_bind, hrun, Result.andThen_ok, Sem.run_pure, Oper.upon, hd, Act.put]
  refine hK L _ _ _ rfl (hr.setbox hb (chg_setRow _ _ _) (setRow_heap _ _ _ _ _ _ h5) (cvL_setR i h6 h2) ?_)
  intro k hm
  simp only [setR, List.flatMap_append, List.mem_append, or_assoc] at hm
  simp only [List.all_eq_true] at hkc
  rcases hm with hm | hm | hm
  · exact hkc k (by
      obtain ⟨c, hc, hk'⟩ := List.mem_flatMap.1 hm
      exact List.mem_flatMap.2 ⟨c, List.mem_of_mem_take hc, hk'⟩)
  · rw [part_keys hp] at hm; exact (svOk_spec hk).1 k hm
  · exact hkc k (by
      obtain ⟨c, hc, hk'⟩ := List.mem_flatMap.1 hm
      exact List.mem_flatMap.2 ⟨c, List.mem_of_mem_drop hc, hk'⟩)
end
end Go.Proofs.Ytbmgommbmhmbgaa
