/-
  The rules of the abstract logic for slices of slices and of strings, and for bytes turned into a string.
-/
import Derived.Test.YtbmgommbmhmbgaaClo
import Derived.Laws.BytesString
namespace Go.Proofs.Ytbmgommbmhmbgaa
open Go.RowKit
set_option linter.unusedVariables false
set_option linter.unusedSimpArgs false

@[reducible] def listD {α : Type} (e sz : Nat) (enc : α → List DV) (xs : List α) : DV := .sl e sz xs.length (xs.flatMap enc)
section
variable {P : Program} {C : Ctx} {nt : Nat} {σ : St} {o : Oper} {x y u : Operand} {T : TT}
theorem lay_sliced {ok : Nat → Prop} {w : World} {e sz n c l m : Nat} {cs : List DV} {A : Option Addr} (h : Lay ok w (.sl e sz n cs) (.slice A n c)) (hlm : l + m ≤ n) : Lay ok w (.sl e sz m (sub (l * sz) (m * sz) cs)) (sliced A l (l + m) c sz) := by
  simp only [Lay] at h
  obtain ⟨A', c', vs, e1, h2, h3, h4, h5, h6, h7⟩ := h
  simp only [Value.slice.injEq, true_and] at e1
  obtain ⟨rfl, rfl⟩ := e1
  have hb : l * sz + m * sz ≤ n * sz := by rw [← Nat.add_mul]; exact Nat.mul_le_mul_right _ hlm
  simp only [Lay, sliced]
  refine ⟨_, _, sub (l * sz) (m * sz) vs, by rw [Nat.add_sub_cancel_left], by omega, by omega, h4, ?_, layL_sub _ _ h6, fun hm => ?_⟩
  · rw [sub_len _ _ _ (by omega)]
  · obtain ⟨b, off, g1, g2, g3⟩ := h7 (by omega)
    have hc : ¬ c = l := by omega
    refine ⟨b, off + l * sz, by rw [if_neg hc, g1]; simp only [Option.map_some, add_row], g2, fun j v hv => ?_⟩
    have hj : j < m * sz := by
      have := (List.getElem?_eq_some_iff.1 hv).1
      rw [sub_len _ _ _ (by rw [layL_len _ _ h6, h5]; exact hb)] at this
      exact this
    rw [sub_get _ _ _ _ hj] at hv
    have := g3 _ _ hv
    rwa [Nat.add_assoc]
theorem sub_flatL {α : Type} {enc : α → List DV} {sz : Nat} (hs : ∀ x, (enc x).length = sz) : ∀ (xs : List α) (l m : Nat), sub (l * sz) (m * sz) (xs.flatMap enc) = (sub l m xs).flatMap enc := by
  have key : ∀ (xs : List α) (l : Nat), (xs.flatMap enc).drop (l * sz) = (xs.drop l).flatMap enc := fun xs => by
    induction xs with
    | nil => intro l; simp
    | cons x xs ih =>
      intro l
      cases l with
      | zero => simp
      | succ l =>
        rw [List.flatMap_cons, show (l + 1) * sz = (enc x).length + l * sz by rw [hs, Nat.add_mul]; omega, ← List.drop_drop, List.drop_left, ih, List.drop_succ_cons]
  have key2 : ∀ (xs : List α) (m : Nat), (xs.flatMap enc).take (m * sz) = (xs.take m).flatMap enc := fun xs => by
    induction xs with
    | nil => intro l; simp
    | cons x xs ih =>
      intro l
      cases l with
      | zero => simp
      | succ l =>
        rw [List.flatMap_cons, show (l + 1) * sz = (enc x).length + l * sz by rw [hs, Nat.add_mul]; omega, List.take_length_add_append, ih, List.take_succ_cons, List.flatMap_cons]
  intro xs l m
  simp only [sub]
  rw [key, key2]
theorem run_sizeT (hT : TTOk P T) {e sz by_ : Nat} {zc : List CV} (he : look T.el e = some (sz, by_, zc)) (w : World) : (sizeOf e).run P w = .ok sz w := by
  obtain ⟨inf, z, g1, g2, _⟩ := hT.el e sz by_ zc he
  simp [sizeOf, typeInfo, g1, g2]
theorem elem_eq {t e : Nat} (h : P.underlying t = some (.slice e)) : P.underlying t = some (.slice (P.elem t)) ∧ P.elem t = e := by
  have : P.elem t = e := by simp [Program.elem, h]
  exact ⟨by rw [this]; exact h, this⟩
/-- v[:h] -/
theorem pu_sliceH (hT : TTOk P T) {α : Type} {t e' sz by_ : Nat} {zc : List CV} {K J : List Nat} {e : Nat} {z : Int} {xs : List α} {enc : α → List DV} (ho : o.op = .slice t x none (some y) none) (h : look T.sl t = some e') (he : look T.el e' = some (sz, by_, zc))
    (hx : Ev P C nt σ x (.one (.dv K (listD e sz enc xs)))) (hy : Ev P C nt σ y (.one (.dv J (.int .i64 z)))) (hs : ∀ x, (enc x).length = sz) (h0 : 0 ≤ z) (h1 : z ≤ xs.length) : Pu P C nt o σ (.one (.dv K (listD e sz enc (xs.take z.toNat)))) [] [] := Pu.mk fun L a w hr => by
  have h2 := hx.run L a w hr
  have h3 := hy.run L a w hr
  simp only [SVr, CVr] at h2 h3
  simp only [Lay] at h3
  have h2' := h2
  simp only [listD, Lay] at h2
  obtain ⟨A, c, vs, e1, h4, h5, h6, h7, h8, h9⟩ := h2
  obtain ⟨k1, k2⟩ := elem_eq (hT.sl t e' h)
  rw [e1] at h2'
  have hl := lay_sliced (l := 0) (m := z.toNat) h2' (by omega)
  rw [sub_flatL hs] at hl
  simp only [sub, List.drop_zero, Nat.zero_add] at hl
  refine ⟨sliced A 0 z.toNat c sz, ?_, fun w' _ => ?_⟩
  · simp only [SVr, CVr, listD]
    rw [List.length_take, Nat.min_eq_left (by omega)]
    exact hl
  · unfold execOp
    simp only [ho, Option.map_none, Option.map_some, e1, h3.1, Sem.run_bind, run_sliceAt_slice _ _ _ _ _ _ k1, run_slice_h w' t A xs.length c k1 .i64 z h0 (by omega), k2, run_sizeT hT he, Result.andThen_ok, Sem.run_pure]
/-- v[l:] -/
theorem pu_sliceL (hT : TTOk P T) {α : Type} {t e' sz by_ : Nat} {zc : List CV} {K J : List Nat} {e : Nat} {z : Int} {xs : List α} {enc : α → List DV} (ho : o.op = .slice t x (some y) none none) (h : look T.sl t = some e') (he : look T.el e' = some (sz, by_, zc))
    (hx : Ev P C nt σ x (.one (.dv K (listD e sz enc xs)))) (hy : Ev P C nt σ y (.one (.dv J (.int .i64 z)))) (hs : ∀ x, (enc x).length = sz) (h0 : 0 ≤ z) (h1 : z ≤ xs.length) : Pu P C nt o σ (.one (.dv K (listD e sz enc (xs.drop z.toNat)))) [] [] := Pu.mk fun L a w hr => by
  have h2 := hx.run L a w hr
  have h3 := hy.run L a w hr
  simp only [SVr, CVr] at h2 h3
  simp only [Lay] at h3
  have h2' := h2
  simp only [listD, Lay] at h2
  obtain ⟨A, c, vs, e1, h4, h5, h6, h7, h8, h9⟩ := h2
  obtain ⟨k1, k2⟩ := elem_eq (hT.sl t e' h)
  rw [e1] at h2'
  have hl := lay_sliced (l := z.toNat) (m := xs.length - z.toNat) h2' (by omega)
  rw [sub_flatL hs, show z.toNat + (xs.length - z.toNat) = xs.length by omega] at hl
  have e2 : sub z.toNat (xs.length - z.toNat) xs = xs.drop z.toNat := by simp [sub, List.take_of_length_le]
  rw [e2] at hl
  refine ⟨sliced A z.toNat xs.length c sz, ?_, fun w' _ => ?_⟩
  · simp only [SVr, CVr, listD]
    rw [List.length_drop]
    exact hl
  · unfold execOp
    simp only [ho, Option.map_none, Option.map_some, e1, h3.1, Sem.run_bind, run_sliceAt_slice _ _ _ _ _ _ k1, run_slice_l w' t A xs.length c k1 .i64 z h0 (by omega), k2, run_sizeT hT he, Result.andThen_ok, Sem.run_pure]
/-- v[l:h] -/
theorem pu_sliceLH (hT : TTOk P T) {α : Type} {t e' sz by_ : Nat} {zc : List CV} {K J I : List Nat} {e : Nat} {z q : Int} {xs : List α} {enc : α → List DV} (ho : o.op = .slice t x (some y) (some u) none) (h : look T.sl t = some e') (he : look T.el e' = some (sz, by_, zc))
    (hx : Ev P C nt σ x (.one (.dv K (listD e sz enc xs)))) (hy : Ev P C nt σ y (.one (.dv J (.int .i64 z)))) (hu : Ev P C nt σ u (.one (.dv I (.int .i64 q)))) (hs : ∀ x, (enc x).length = sz) (h0 : 0 ≤ z) (h1 : z ≤ q) (h1' : q ≤ xs.length) : Pu P C nt o σ (.one (.dv K (listD e sz enc (sub z.toNat (q.toNat - z.toNat) xs)))) [] [] := Pu.mk fun L a w hr => by
  have h2 := hx.run L a w hr
  have h3 := hy.run L a w hr
  have h3' := hu.run L a w hr
  simp only [SVr, CVr] at h2 h3 h3'
  simp only [Lay] at h3 h3'
  have h2' := h2
  simp only [listD, Lay] at h2
  obtain ⟨A, c, vs, e1, h4, h5, h6, h7, h8, h9⟩ := h2
  obtain ⟨k1, k2⟩ := elem_eq (hT.sl t e' h)
  rw [e1] at h2'
  have hl := lay_sliced (l := z.toNat) (m := q.toNat - z.toNat) h2' (by omega)
  rw [sub_flatL hs, show z.toNat + (q.toNat - z.toNat) = q.toNat by omega] at hl
  refine ⟨sliced A z.toNat q.toNat c sz, ?_, fun w' _ => ?_⟩
  · simp only [SVr, CVr, listD]
    rw [sub_len _ _ _ (by omega)]
    exact hl
  · unfold execOp
    simp only [ho, Option.map_none, Option.map_some, e1, h3.1, h3'.1, Sem.run_bind, run_sliceAt_slice _ _ _ _ _ _ k1, run_slice_lh w' t A xs.length c k1 .i64 .i64 z q h0 h1 (by omega), k2, run_sizeT hT he, Result.andThen_ok, Sem.run_pure]
theorem pu_convI (hT : TTOk P T) {s d : Nat} {k k' k2 : IntKind} {J : List Nat} {z : Int} (ho : o.op = .convert s d x) (h : look T.it s = some k2) (hi : look T.it d = some k) (hx : Ev P C nt σ x (.one (.dv J (.int k' z)))) : Pu P C nt o σ (.one (.dv [] (.int k (k.wrap z)))) [] [] := Pu.mk fun L a w hr => by
  have h2 := hx.run L a w hr
  simp only [SVr, CVr, Lay] at h2
  refine ⟨.int k (k.wrap z), by simp only [SVr, CVr, Lay]; exact ⟨trivial, inR_wrap _ _⟩, fun w' _ => ?_⟩
  unfold execOp
  simp [ho, h2.1, convert, run_underlying (hT.it s k2 h), run_underlying (hT.it d k hi), Conv.intToInt]
/-! ### bytes to a string -/
theorem bytes_vals {ok : Nat → Prop} {w : World} : ∀ {xs : List UInt8} {vs : List Value}, LayL ok w (xs.flatMap fun b => [DV.int .u8 (b.toNat : Int)]) vs → vs = (xs.map fun b => (b.toNat : Int)).map (Value.int .u8)
  | [], vs, h => by simp only [List.flatMap_nil, LayL] at h; simpa using h
  | x :: xs, vs, h => by
    simp only [List.flatMap_cons, List.cons_append, List.nil_append, LayL] at h
    obtain ⟨v, vs', rfl, h1, h2⟩ := h
    simp only [Lay] at h1
    rw [bytes_vals h2, h1.1]
    simp
theorem push_all : ∀ (xs : List UInt8) (s : ByteArray), (xs.map fun b => (b.toNat : Int)).foldl (fun r n => r.push (UInt8.ofNat n.toNat)) s = ⟨s.data ++ xs.toArray⟩
  | [], s => by simp
  | x :: xs, s => by
    simp only [List.map_cons, List.foldl_cons]
    rw [push_all xs]
    congr 1
    have : UInt8.ofNat ((x.toNat : Int)).toNat = x := by simp
    rw [this]
    simp [ByteArray.push, ByteArray.data_push]
def strOf (xs : List UInt8) : ByteArray := ⟨xs.toArray⟩
theorem strOf_list (xs : List UInt8) : (strOf xs).data.toList = xs := by simp [strOf]
theorem pu_convBS (hT : TTOk P T) {s d e' : Nat} {v : Unit} {K : List Nat} {e : Nat} {xs : List UInt8} (ho : o.op = .convert s d x) (h : look T.sl s = some e') (hi : look T.it e' = some .u8) (hst : look T.st d = some v) (hx : Ev P C nt σ x (.one (.dv K (listD e 1 (fun b : UInt8 => [DV.int .u8 (b.toNat : Int)]) xs)))) : Pu P C nt o σ (.one (.dv [] (.str (strOf xs)))) K [] := Pu.mk fun L a w hr => by
  have h2 := hx.run L a w hr
  simp only [SVr, CVr, listD, Lay] at h2
  obtain ⟨A, c, vs, e1, h4, h5, h6, h7, h8, h9⟩ := h2
  have hv := bytes_vals h8
  refine ⟨.string (strOf xs), ?_, fun w' hw => ?_⟩
  · simp only [SVr, CVr, Lay]
    refine ⟨trivial, ?_⟩
    unfold maxLen at h5
    have : (strOf xs).size = xs.length := by simp [strOf, ByteArray.size]
    omega
  · unfold execOp
    have hs := hT.sl s e' h
    have hconv : ∀ A c, (convert s d (.slice A xs.length c)).run P w' = (Conv.bytesToString (.slice A xs.length c)).run P w' := fun A c => run_convert_bytes_string w' s d e' A xs.length c hs (hT.it e' _ hi) (hT.st d v hst)
    have hlen : vs.length = xs.length := by rw [hv]; simp
    have hfin : (Conv.bytesToString (.slice A xs.length c)).run P w' = .ok (.string (strOf xs)) w' := by
      cases A with
      | none =>
        have h0 : xs.length = 0 := by
          rcases Nat.eq_zero_or_pos xs.length with h0 | h0
          · exact h0
          · obtain ⟨b, off, k1, _⟩ := h9 h0
            cases k1
        have hxs : xs = [] := List.eq_nil_of_length_eq_zero h0
        subst hxs
        rfl
      | some ad =>
        have hld : (loadCells ad xs.length).run P w' = .ok ((xs.map fun b => (b.toNat : Int)).map (Value.int .u8)).toArray w' := by
          rw [← hv, ← hlen]
          refine run_loadCells_list w' ad vs (fun j u hu => ?_)
          have hpos : 0 < xs.length := by
            have := (List.getElem?_eq_some_iff.1 hu).1
            omega
          obtain ⟨b, off, k1, k2, k3⟩ := h9 hpos
          simp only [Option.some.injEq] at k1
          subst k1
          have hlt : b < w.heap.size := cell_lt (k3 j u hu)
          rw [add_row]
          exact (World.cell?_of_block (a := ⟨b, off + j, none⟩) (hw b hlt (.inl k2))).trans (k3 j u hu)
        rw [run_bytesToString w' ad xs.length c _ hld, push_all]
        simp [strOf]
    simp only [ho, e1, Sem.run_bind, hconv, hfin, Result.andThen_ok, Sem.run_pure]
end
end Go.Proofs.Ytbmgommbmhmbgaa
