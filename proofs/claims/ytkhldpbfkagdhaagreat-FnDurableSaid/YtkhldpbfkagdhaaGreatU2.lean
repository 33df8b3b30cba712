/-
  The rules of a small program logic over abstract states: no program is in sight but in the table of its types. Conditions: none.
-/
import Derived.BigQuiet
import Derived.Deep.QuietTactic
import Derived.Great.BuildSlice
import Derived.Laws.BytesString
import Derived.Laws.CopyRow
import Derived.Laws.Externs
import Derived.Lib.AppendStr
import Derived.Lib.AppendZerosOnto
import Derived.Lib.Bytealg
import Derived.Lib.ConvBytes
import Derived.Lib.Overlaps
import Derived.Lib.Slices
import Derived.Lib.Strings
import Derived.Lib.Walk
import Derived.Outline
import Derived.Shelf.RegionOpenPlain
import Derived.Shelf.Spec.SlicesInsert
import Derived.Test.YtkhldpbfkagdhaaGreatProg
import Derived.WalkKit
import Derived.WalkLawsBesides
import Derived.Test.YtkhldpbfkagdhaaGreatU1
namespace Go.Proofs.YtkhldpbfkagdhaaGreat
open Go.RowKit
set_option linter.unusedVariables false
set_option linter.unusedSimpArgs false
@[reducible] def a2M {α : Type} (e sz : Nat) (enc : α → List DV) (xs : List α) : DV := .sl e sz xs.length (xs.flatMap enc)
section
variable {P : Program} {C : Ctx} {nt : Nat} {σ : St} {o : Oper} {x y u : Operand} {T : TT}
theorem b9P {ok : Nat → Prop} {w : World} {e sz n c l m : Nat} {cs : List DV} {A : Option Addr} (h : Lay ok w (.sl e sz n cs) (.slice A n c)) (hlm : l + m ≤ n) : Lay ok w (.sl e sz m (sub (l * sz) (m * sz) cs)) (sliced A l (l + m) c sz) := by
 simp only [Lay] at h
 obtain ⟨A', c', vs, e1, h2, h3, h4, h5, h6, h7⟩ := h
 simp only [Value.slice.injEq, true_and] at e1
 obtain ⟨rfl, rfl⟩ := e1
 have hb : l * sz + m * sz ≤ n * sz := by rw [← Nat.add_mul]; exact Nat.mul_le_mul_right _ hlm
 simp only [Lay, sliced]
 refine ⟨_, _, sub (l * sz) (m * sz) vs, by rw [Nat.add_sub_cancel_left], by omega, by omega, h4, ?_, b1n _ _ h6, fun hm => ?_⟩
 ·rw [a4t _ _ _ (by omega)]
 ·obtain ⟨b, off, g1, g2, g3⟩ := h7 (by omega)
  have hc : ¬ c = l := by omega
  refine ⟨b, off + l * sz, by rw [if_neg hc, g1]; simp only [Option.map_some, a5h], g2, fun j v hv => ?_⟩
  have hj : j < m * sz := by
   have := (List.getElem?_eq_some_iff.1 hv).1
   rw [a4t _ _ _ (by rw [a4n _ _ h6, h5]; exact hb)] at this
   exact this
  rw [a9l _ _ _ _ hj] at hv
  have := g3 _ _ hv
  rwa [Nat.add_assoc]
theorem c0d {α : Type} {enc : α → List DV} {sz : Nat} (hs : ∀ x, (enc x).length = sz) : ∀ (xs : List α) (l m : Nat), sub (l * sz) (m * sz) (xs.flatMap enc) = (sub l m xs).flatMap enc := by
 have key : ∀ (xs : List α) (l : Nat), (xs.flatMap enc).drop (l * sz) = (xs.drop l).flatMap enc := fun xs => by
  induction xs with
  | nil => intro l; simp
  | cons x xs ih =>
   intro l
   cases l with
   | zero => simp
   | succ l =>
    rw [List.flatMap_cons, show (l + 1) * sz = (enc x).length + l * sz by rw [hs, Nat.add_mul]; omega, ← List.drop_drop, List.drop_left, ih, List.drop_succ_cons]
 have key2 : ∀ (xs : List α) (m : Nat), (xs.flatMap enc).take (m * sz) = (xs.take m).flatMap enc := fun xs => by
  induction xs with
  | nil => intro l; simp
  | cons x xs ih =>
   intro l
   cases l with
   | zero => simp
   | succ l =>
    rw [List.flatMap_cons, show (l + 1) * sz = (enc x).length + l * sz by rw [hs, Nat.add_mul]; omega, List.take_length_add_append, ih, List.take_succ_cons, List.flatMap_cons]
 intro xs l m
 simp only [sub]
 rw [key, key2]
theorem b1v (hT : TTOk P T) {e sz by_ : Nat} {zc : List CV} (he : look T.el e = some (sz, by_, zc)) (w : World) : (sizeOf e).run P w = .ok sz w := by
 obtain ⟨inf, z, g1, g2, _⟩ := hT.el e sz by_ zc he
 simp [sizeOf, typeInfo, g1, g2]
theorem b2l {t e : Nat} (h : P.underlying t = some (.slice e)) : P.underlying t = some (.slice (P.elem t)) ∧ P.elem t = e := by
 have : P.elem t = e := by simp [Program.elem, h]
 exact ⟨by rw [this]; exact h, this⟩
theorem b1z (hT : TTOk P T) {α : Type} {t e' sz by_ : Nat} {zc : List CV} {K J : List Nat} {e : Nat} {z : Int} {xs : List α} {enc : α → List DV} (ho : o.op = .slice t x none (some y) none) (h : look T.sl t = some e') (he : look T.el e' = some (sz, by_, zc))
  (hx : Ev P C nt σ x (.one (.dv K (a2M e sz enc xs)))) (hy : Ev P C nt σ y (.one (.dv J (.int .i64 z)))) (hs : ∀ x, (enc x).length = sz) (h0 : 0 ≤ z) (h1 : z ≤ xs.length) : Pu P C nt o σ (.one (.dv K (a2M e sz enc (xs.take z.toNat)))) [] [] := Pu.mk fun L a w hr => by
 have h2 := hx.run L a w hr
 have h3 := hy.run L a w hr
 simp only [SVr, CVr] at h2 h3
 simp only [Lay] at h3
 have h2' := h2
 simp only [a2M, Lay] at h2
 obtain ⟨A, c, vs, e1, h4, h5, h6, h7, h8, h9⟩ := h2
 obtain ⟨k1, k2⟩ := b2l (hT.sl t e' h)
 rw [e1] at h2'
 have hl := b9P (l := 0) (m := z.toNat) h2' (by omega)
 rw [c0d hs] at hl
 simp only [sub, List.drop_zero, Nat.zero_add] at hl
 refine ⟨sliced A 0 z.toNat c sz, ?_, fun w' _ => ?_⟩
 ·simp only [SVr, CVr, a2M]
  rw [c9j, Nat.min_eq_left (by omega)]
  exact hl
 ·unfold execOp
  simp only [ho, Option.map_none, Option.map_some, e1, h3.1, Sem.run_bind, run_sliceAt_slice _ _ _ _ _ _ k1, run_slice_h w' t A xs.length c k1 .i64 z h0 (by omega), k2, b1v hT he, Result.andThen_ok, Sem.run_pure]
theorem b3q (hT : TTOk P T) {α : Type} {t e' sz by_ : Nat} {zc : List CV} {K J : List Nat} {e : Nat} {z : Int} {xs : List α} {enc : α → List DV} (ho : o.op = .slice t x (some y) none none) (h : look T.sl t = some e') (he : look T.el e' = some (sz, by_, zc))
  (hx : Ev P C nt σ x (.one (.dv K (a2M e sz enc xs)))) (hy : Ev P C nt σ y (.one (.dv J (.int .i64 z)))) (hs : ∀ x, (enc x).length = sz) (h0 : 0 ≤ z) (h1 : z ≤ xs.length) : Pu P C nt o σ (.one (.dv K (a2M e sz enc (xs.drop z.toNat)))) [] [] := Pu.mk fun L a w hr => by
 have h2 := hx.run L a w hr
 have h3 := hy.run L a w hr
 simp only [SVr, CVr] at h2 h3
 simp only [Lay] at h3
 have h2' := h2
 simp only [a2M, Lay] at h2
 obtain ⟨A, c, vs, e1, h4, h5, h6, h7, h8, h9⟩ := h2
 obtain ⟨k1, k2⟩ := b2l (hT.sl t e' h)
 rw [e1] at h2'
 have hl := b9P (l := z.toNat) (m := xs.length - z.toNat) h2' (by omega)
 rw [c0d hs, show z.toNat + (xs.length - z.toNat) = xs.length by omega] at hl
 have e2 : sub z.toNat (xs.length - z.toNat) xs = xs.drop z.toNat := by simp [sub, List.take_of_length_le]
 rw [e2] at hl
 refine ⟨sliced A z.toNat xs.length c sz, ?_, fun w' _ => ?_⟩
 ·simp only [SVr, CVr, a2M]
  rw [List.length_drop]
  exact hl
 ·unfold execOp
  simp only [ho, Option.map_none, Option.map_some, e1, h3.1, Sem.run_bind, run_sliceAt_slice _ _ _ _ _ _ k1, run_slice_l w' t A xs.length c k1 .i64 z h0 (by omega), k2, b1v hT he, Result.andThen_ok, Sem.run_pure]
theorem a6X (hT : TTOk P T) {s d : Nat} {k k' k2 : IntKind} {J : List Nat} {z : Int} (ho : o.op = .convert s d x) (h : look T.it s = some k2) (hi : look T.it d = some k) (hx : Ev P C nt σ x (.one (.dv J (.int k' z)))) : Pu P C nt o σ (.one (.dv [] (.int k (k.wrap z)))) [] [] := Pu.mk fun L a w hr => by
 have h2 := hx.run L a w hr
 simp only [SVr, CVr, Lay] at h2
 refine ⟨.int k (k.wrap z), by simp only [SVr, CVr, Lay]; exact ⟨trivial, a6w _ _⟩, fun w' _ => ?_⟩
 unfold execOp
 simp [ho, h2.1, convert, run_underlying (hT.it s k2 h), run_underlying (hT.it d k hi), Conv.intToInt]
/-! ### bytes to a string -/
theorem b7D {ok : Nat → Prop} {w : World} : ∀ {xs : List UInt8} {vs : List Value}, a1m ok w (xs.flatMap fun b => [DV.int .u8 (b.toNat : Int)]) vs → vs = (xs.map fun b => (b.toNat : Int)).map (Value.int .u8)
 | [], vs, h => by simp only [List.flatMap_nil, a1m] at h; simpa using h
 | x :: xs, vs, h => by
  simp only [List.flatMap_cons, List.cons_append, List.nil_append, a1m] at h
  obtain ⟨v, vs', rfl, h1, h2⟩ := h
  simp only [Lay] at h1
  rw [b7D h2, h1.1]
  simp
theorem b6e : ∀ (xs : List UInt8) (s : ByteArray), (xs.map fun b => (b.toNat : Int)).foldl (fun r n => r.push (UInt8.ofNat n.toNat)) s = ⟨s.data ++ xs.toArray⟩
 | [], s => by simp
 | x :: xs, s => by
  simp only [List.map_cons, List.foldl_cons]
  rw [b6e xs]
  congr 1
  have : UInt8.ofNat ((x.toNat : Int)).toNat = x := by simp
  rw [this]
  simp [ByteArray.push, ByteArray.data_push]
def a2h (xs : List UInt8) : ByteArray := ⟨xs.toArray⟩
theorem b1w (xs : List UInt8) : (a2h xs).data.toList = xs := by simp [a2h]
theorem a9O (hT : TTOk P T) {s d e' : Nat} {v : Unit} {K : List Nat} {e : Nat} {xs : List UInt8} (ho : o.op = .convert s d x) (h : look T.sl s = some e') (hi : look T.it e' = some .u8) (hst : look T.st d = some v) (hx : Ev P C nt σ x (.one (.dv K (a2M e 1 (fun b : UInt8 => [DV.int .u8 (b.toNat : Int)]) xs)))) : Pu P C nt o σ (.one (.dv [] (.str (a2h xs)))) K [] := Pu.mk fun L a w hr => by
 have h2 := hx.run L a w hr
 simp only [SVr, CVr, a2M, Lay] at h2
 obtain ⟨A, c, vs, e1, h4, h5, h6, h7, h8, h9⟩ := h2
 have hv := b7D h8
 refine ⟨.string (a2h xs), ?_, fun w' hw => ?_⟩
 ·simp only [SVr, CVr, Lay]
  refine ⟨trivial, ?_⟩
  unfold maxLen at h5
  have : (a2h xs).size = xs.length := by simp [a2h, ByteArray.size]
  omega
 ·unfold execOp
  have hs := hT.sl s e' h
  have hconv : ∀ A c, (convert s d (.slice A xs.length c)).run P w' = (Conv.bytesToString (.slice A xs.length c)).run P w' := fun A c => run_convert_bytes_string w' s d e' A xs.length c hs (hT.it e' _ hi) (hT.st d v hst)
  have hlen : vs.length = xs.length := by rw [hv]; simp
  have hfin : (Conv.bytesToString (.slice A xs.length c)).run P w' = .ok (.string (a2h xs)) w' := by
   cases A with
   | none =>
    have h0 : xs.length = 0 := by
     rcases Nat.eq_zero_or_pos xs.length with h0 | h0
     ·exact h0
     ·obtain ⟨b, off, k1, _⟩ := h9 h0
      cases k1
    have hxs : xs = [] := List.eq_nil_of_length_eq_zero h0
    subst hxs
    rfl
   | some ad =>
    have hld : (loadCells ad xs.length).run P w' = .ok ((xs.map fun b => (b.toNat : Int)).map (Value.int .u8)).toArray w' := by
     rw [← hv, ← hlen]
     refine run_loadCells_list w' ad vs (fun j u hu => ?_)
     have hpos : 0 < xs.length := by
      have := (List.getElem?_eq_some_iff.1 hu).1
      omega
     obtain ⟨b, off, k1, k2, k3⟩ := h9 hpos
     simp only [Option.some.injEq] at k1
     subst k1
     have hlt : b < w.heap.size := a6k (k3 j u hu)
     rw [a5h]
     exact (World.cell?_of_block (a := ⟨b, off + j, none⟩) (hw b hlt (.inl k2))).trans (k3 j u hu)
    rw [run_bytesToString w' ad xs.length c _ hld, b6e]
    simp [a2h]
  simp only [ho, e1, Sem.run_bind, hconv, hfin, Result.andThen_ok, Sem.run_pure]
end
section
variable {P : Program} {C : Ctx} {nt : Nat} {σ : St} {L : Lyt} {a : Act} {w : World} {o : Oper} {x y : Operand} {T : TT}
theorem a5o {k : Nat} {js : List Nat} {c' : KC} {same : Bool} : lkk (σ.mut k js same c') k = some c' := by
 simp only [lkk, St.mut, List.cons_append, a0W, if_true]; rfl
structure AppF (L L' : Lyt) (w w' : World) (k : Nat) (js : List Nat) : Prop where
 chg : Chg (L.fp k) w w'
 fp : ∀ i, i ≠ k → L'.fp i = L.fp i
 bb : L'.bb = L.bb
 new : ∀ b ∈ L'.fp k, b ∈ L.fp k ∨ (∃ j ∈ js, b ∈ L.fp j) ∨ w.heap.size ≤ b
theorem b5I {d k m : Nat} {c : KC} {js : List Nat} {us : List Value} {ds : List DV} {f2 : List Nat} {K : Act → World → Prop} {A' : Option Addr} {c' : Nat} {w' : World} {vs : List Value} {f : List Nat}
  (hd : o.dst = some d) (hnt : d < nt) (hr : Rel P C nt L σ a w) (hk : lkk σ k = some c) (hE' : c.e < 1000000) (hkj : k ∉ js) (hj : ∀ j ∈ js, (lkk σ j).isSome = true) (hm' : ds.length = m * c.sz) (ho2 : a0Q w ds us f2) (hf2 : ∀ b ∈ f2, ∃ j ∈ js, b ∈ L.fp j) (hn2 : f2.Nodup)
  (e3 : L.fp k = (L.rv k).ownBlock.toList ++ f) (h5 : 0 < c.sz) (h6 : c.cs.length = c.n * c.sz) (h8 : a0Q w c.cs vs f)
  (h9 : w'.ownsRow 0 c.e c.sz (.slice A' (c.n + m) c') (c.n + m) (vs ++ us)) (hchg : Chg (L.rv k).ownBlock.toList w w') (hblk : (L.rv k).ownBlock = (Value.slice A' (c.n + m) c').ownBlock ∨ (Value.slice A' (c.n + m) c').ownBlock = some w.heap.size)
  (hK : ∀ L' a' w', Rel P C nt L' ((σ.mut k js false ⟨false, c.e, c.sz, c.n + m, c.cs ++ ds⟩).put d (.one (.key k))) a' w' → AppF L L' w w' k js → K a' w') : K (a.put o.dst (.slice A' (c.n + m) c')) w' := by
 have hkn := hr.kn k c hk
 rw [e3] at hkn
 obtain ⟨n1, n2, n3⟩ := List.nodup_append.1 hkn
 have hdis : ∀ b ∈ f2, b ∉ L.fp k := fun b hb' hm => by
  obtain ⟨j, hj', hb''⟩ := hf2 b hb'
  obtain ⟨q, hq⟩ := c9h.1 (hj j hj')
  exact hr.kk j k q c hq hk (fun e => hkj (by rw [← e]; exact hj')) b hb'' hm
 have hlt1 : ∀ b ∈ f, b < w.heap.size := a4E _ _ _ h8
 have hlt2 : ∀ b ∈ f2, b < w.heap.size := a4E _ _ _ ho2
 have k1 : a0Q w' c.cs vs f := a2V _ _ _ h8 (fun b hb' => hchg.block b (hlt1 b hb') (fun hm => n3 b hm b hb' rfl))
 have k2 : a0Q w' ds us f2 := a2V _ _ _ ho2 (fun b hb' => hchg.block b (hlt2 b hb') (fun hm => hdis b hb' (by rw [e3]; simp [hm])))
 have hown' : Own w' (.sl c.e c.sz (c.n + m) (c.cs ++ ds)) (.slice A' (c.n + m) c') ((Value.slice A' (c.n + m) c').ownBlock.toList ++ (f ++ f2)) := by
  unfold Own
  exact ⟨vs ++ us, f ++ f2, rfl, h5, by rw [c9i, h6, hm', Nat.add_mul], a3I hE' h9, a3n _ _ _ _ _ _ k1 k2⟩
 have hnod : (f ++ f2).Nodup := List.nodup_append.2 ⟨n2, hn2, fun x hx' y hy' e' => hdis y hy' (by rw [e3, ← e']; simp [hx'])⟩
 have hsub : ∀ b ∈ (Value.slice A' (c.n + m) c').ownBlock.toList ++ (f ++ f2), b ∈ L.fp k ∨ (∃ j ∈ js, b ∈ L.fp j) ∨ w.heap.size ≤ b := fun b hb' => by
   rcases List.mem_append.1 hb' with hb' | hb'
   ·rcases hblk with hbl | hbl
    ·rw [← hbl] at hb'; exact .inl (by rw [e3]; simp [hb'])
    ·rw [hbl] at hb'
     simp only [Option.toList_some, List.mem_singleton] at hb'
     exact .inr (.inr (by omega))
   ·rcases List.mem_append.1 hb' with hb' | hb'
    ·exact .inl (by rw [e3]; simp [hb'])
    ·obtain ⟨j, hj', hb''⟩ := hf2 b hb'
     exact .inr (.inl ⟨j, hj', hb''⟩)
 have hset := hr.setkey (k := k) (c := c) (c' := ⟨false, c.e, c.sz, c.n + m, c.cs ++ ds⟩) (js := js) (same := false) hk hkj (hchg.mono (fun b hb' => by rw [e3]; simp [hb'])) hown'
  (by
   rcases hblk with hb' | hb'
   ·rw [← hb']
    refine List.nodup_append.2 ⟨n1, hnod, fun x hx' y hy' e' => ?_⟩
    subst e'
    rcases List.mem_append.1 hy' with hy' | hy'
    ·exact n3 x hx' x hy' rfl
    ·exact hdis x hy' (by rw [e3]; simp [hx'])
   ·rw [hb']
    refine List.nodup_append.2 ⟨by simp, hnod, fun x hx' y hy' e' => ?_⟩
    subst e'
    simp only [Option.toList_some, List.mem_singleton] at hx'
    subst hx'
    rcases List.mem_append.1 hy' with hy' | hy'
    ·exact absurd (hlt1 _ hy') (by omega)
    ·exact absurd (hlt2 _ hy') (by omega))
  hsub hj (by simp) (by simp)
 refine hK { L with fp := fun i => if i = k then (Value.slice A' (c.n + m) c').ownBlock.toList ++ (f ++ f2) else L.fp i, rv := fun i => if i = k then .slice A' (c.n + m) c' else L.rv i } _ _ ?_ ?_
 ·rw [hd]
  exact hset.put (v := .one (.key k)) (r := .slice A' (c.n + m) c') hnt (by simp [SVr, CVr]) (by simp [SV.keys, CV.keys, a5o]) (by simp [SV.boxes])
 ·exact ⟨hchg.mono (fun b hb' => by rw [e3]; simp [hb']), fun i hi => if_neg hi, rfl, by simpa using hsub⟩
theorem c8K {d k m : Nat} {c : KC} {js : List Nat} {us : List Value} {ds : List DV} {f2 : List Nat} {K : Act → World → Prop} {A' : Option Addr} {c' : Nat} {w' : World} {vs : List Value} {f : List Nat}
  (hd : o.dst = some d) (hnt : d < nt) (hr : Rel P C nt L σ a w) (hk : lkk σ k = some c) (hE' : c.e < 1000000) (hkj : k ∉ js) (hj : ∀ j ∈ js, (lkk σ j).isSome = true) (hm' : ds.length = m * c.sz) (ho2 : a0Q w ds us f2) (hf2 : ∀ b ∈ f2, ∃ j ∈ js, b ∈ L.fp j) (hn2 : f2.Nodup)
  (e3 : L.fp k = (L.rv k).ownBlock.toList ++ f) (h5 : 0 < c.sz) (h6 : c.cs.length = c.n * c.sz) (h8 : a0Q w c.cs vs f)
  (h9 : w'.ownsRow 0 c.e c.sz (.slice A' (c.n + m) c') (c.n + m) (vs ++ us)) (hchg : Chg (L.rv k).ownBlock.toList w w') (hblk : (L.rv k).ownBlock = (Value.slice A' (c.n + m) c').ownBlock ∨ (Value.slice A' (c.n + m) c').ownBlock = some w.heap.size)
  (hK : ∀ L' a' w', Rel P C nt L' ((σ.mut k js false ⟨false, c.e, c.sz, c.n + m, c.cs ++ ds⟩).put d (.one (.key k))) a' w' → K a' w') : K (a.put o.dst (.slice A' (c.n + m) c')) w' :=
 b5I hd hnt hr hk hE' hkj hj hm' ho2 hf2 hn2 e3 h5 h6 h8 h9 hchg hblk (fun L' a' w' h _ => hK L' a' w' h)
theorem b5t (hT : TTOk P T) {t e sz by_ d k m cap : Nat} {zc : List CV} {c : KC} {js : List Nat} {A : Option Addr} {us : List Value} {ds : List DV} {f2 : List Nat} {K : Act → World → Prop} {Q : Exit → Act → World → Prop}
  (ho : o.op = .call { callee := .builtin .append, args := #[x, y], argTypes := #[t, t] }) (hd : o.dst = some d) (hnt : d < nt) (ht : look T.sl t = some e) (he : look T.el e = some (sz, by_, zc)) (hl0 : zc.length = sz)
  (hr : Rel P C nt L σ a w) (hk : lkk σ k = some c) (hce : c.e = e) (hcs : c.sz = sz) (hx : a.eval x = L.rv k) (hy : a.eval y = .slice A m cap) (hkj : k ∉ js) (hj : ∀ j ∈ js, (lkk σ j).isSome = true)
  (hsrc : a2y w A m sz us) (ho2 : a0Q w ds us f2) (hf2 : ∀ b ∈ f2, ∃ j ∈ js, b ∈ L.fp j) (hn2 : f2.Nodup) (h63 : c.n + m ≤ maxLen) (hb : (c.n + m) * by_ ≤ 140737488355328)
  (hK : ∀ L' a' w', Rel P C nt L' ((σ.mut k js false ⟨false, e, sz, c.n + m, c.cs ++ ds⟩).put d (.one (.key k))) a' w' → AppF L L' w w' k js → K a' w') : o.wp P a w K Q := by
 subst hce; subst hcs
 obtain ⟨inf, z, g1, g2, g3, g4, g5⟩ := hT.el c.e c.sz by_ zc he
 have hown := (hr.ks k c hk).1
 simp only [Own] at hown
 obtain ⟨vs, f, e3, h5, h6, h7, h8⟩ := hown
 have hE' : c.e < 1000000 := hT.lt _ _ he
 have h7 := h7.1 hE'
 have hm' : ds.length = m * c.sz := by rw [← a3e _ _ _ ho2, hsrc.1]
 have hone : ∀ u ∈ us, u.oneCell' = true := a8J (ok := fun _ => True) _ _ (a7K _ _ _ ho2 (fun _ _ => trivial))
 have hzs : z.cells.size = c.sz := by
  have := a7f g5
  simp only [Array.length_toList] at this
  rw [this, hl0]
 refine b2c w x y t ho c.e z c.sz by_ (hT.sl t c.e ht) (by rw [g1]; simp [g2, g3, g4]) hzs h5 (L.rv k) c.n vs hx h7 A m cap us hy hsrc hone h63 hb ?_
 intro A' c' w' h9 hchg hblk
 exact b5I hd hnt hr hk hE' hkj hj hm' ho2 hf2 hn2 e3 h5 h6 h8 h9 hchg hblk hK
theorem b5B (hT : TTOk P T) {t e sz by_ d k m cap : Nat} {zc : List CV} {c : KC} {js : List Nat} {A : Option Addr} {us : List Value} {ds : List DV} {f2 : List Nat} {K : Act → World → Prop} {Q : Exit → Act → World → Prop}
  (ho : o.op = .call { callee := .builtin .append, args := #[x, y], argTypes := #[t, t] }) (hd : o.dst = some d) (hnt : d < nt) (ht : look T.sl t = some e) (he : look T.el e = some (sz, by_, zc)) (hl0 : zc.length = sz)
  (hr : Rel P C nt L σ a w) (hk : lkk σ k = some c) (hce : c.e = e) (hcs : c.sz = sz) (hx : a.eval x = L.rv k) (hy : a.eval y = .slice A m cap) (hkj : k ∉ js) (hj : ∀ j ∈ js, (lkk σ j).isSome = true)
  (hsrc : a2y w A m sz us) (ho2 : a0Q w ds us f2) (hf2 : ∀ b ∈ f2, ∃ j ∈ js, b ∈ L.fp j) (hn2 : f2.Nodup) (h63 : c.n + m ≤ maxLen) (hb : (c.n + m) * by_ ≤ 140737488355328)
  (hK : ∀ L' a' w', Rel P C nt L' ((σ.mut k js false ⟨false, e, sz, c.n + m, c.cs ++ ds⟩).put d (.one (.key k))) a' w' → K a' w') : o.wp P a w K Q :=
 b5t hT ho hd hnt ht he hl0 hr hk hce hcs hx hy hkj hj hsrc ho2 hf2 hn2 h63 hb (fun L' a' w' h _ => hK L' a' w' h)
theorem b3d {ok : Nat → Prop} {w w' : World} : ∀ {ds : List DV} {vs : List Value}, ds.all DV.plain = true → a1m ok w ds vs → a0Q w' ds vs []
 | [], _, _, h => by simp only [a1m] at h; subst h; simp [a0Q]
 | d :: ds, _, hp, h => by
  simp only [List.all_cons, Bool.and_eq_true] at hp
  simp only [a1m] at h
  obtain ⟨v, vs', rfl, h1, h2⟩ := h
  simp only [a0Q]
  exact ⟨v, vs', [], [], rfl, rfl, b0b hp.1 h1, b3d hp.2 h2⟩
theorem b3e {ok : Nat → Prop} {w : World} {e sz n : Nat} {cs : List DV} {v : Value} (h : Lay ok w (.sl e sz n cs) v) : ∃ A c vs, v = .slice A n c ∧ a2y w A n sz vs ∧ a1m ok w cs vs := by
 simp only [Lay] at h
 obtain ⟨A, c, vs, e1, h2, h3, h4, h5, h6, h7⟩ := h
 refine ⟨A, c, vs, e1, ⟨by rw [a4n _ _ h6, h5], fun hn => ?_⟩, h6⟩
 obtain ⟨b, off, k1, _, k3⟩ := h7 hn
 exact ⟨b, off, k1, k3⟩
theorem a3v {α : Type} {enc : α → List DV} (h : ∀ x, (enc x).all DV.plain = true) : ∀ xs : List α, (xs.flatMap enc).all DV.plain = true
 | [] => rfl
 | x :: xs => by rw [List.flatMap_cons, List.all_append, h, a3v h xs]; rfl
theorem c4S (hT : TTOk P T) {t e sz by_ d k m : Nat} {zc : List CV} {c : KC} {J : List Nat} {e2 : Nat} {ds : List DV} (ho : o.op = .call { callee := .builtin .append, args := #[x, y], argTypes := #[t, t] }) (hd : o.dst = some d) (hnt : Nat.blt d nt = true) (ht : look T.sl t = some e) (he : look T.el e = some (sz, by_, zc)) (hl0 : zc.length = sz)
  (hx : Ev P C nt σ x (.one (.key k))) (hk : lkk σ k = some c) (hce : c.e = e) (hcs : c.sz = sz) (hy : Ev P C nt σ y (.one (.dv J (.sl e2 sz m ds)))) (hp : ds.all DV.plain = true) (hb : (c.n + m) * by_ ≤ 140737488355328) (h63 : c.n + m ≤ 9223372036854775807) :
  Ef P C nt o σ (fun σ' => σ' = (σ.mut k [] false ⟨false, e, sz, c.n + m, c.cs ++ ds⟩).put d (.one (.key k))) := Ef.mk fun L a w hr K Q hK => by
 have h1 := hx.run L a w hr
 have h2 := hy.run L a w hr
 simp only [SVr, CVr] at h1 h2
 obtain ⟨A, cap, vs, e1, hrow, hlay⟩ := b3e h2
 exact b5B hT ho hd (by simpa [Nat.blt_eq] using hnt) ht he hl0 hr hk hce hcs h1 e1 (by simp) (by simp) hrow (b3d hp hlay) (by simp) (by simp) (by simpa [maxLen] using h63) hb (fun L' a' w' h => hK L' _ _ _ rfl h)
theorem c7A (hT : TTOk P T) {t e sz by_ d k j : Nat} {zc : List CV} {c c2 : KC} (ho : o.op = .call { callee := .builtin .append, args := #[x, y], argTypes := #[t, t] }) (hd : o.dst = some d) (hnt : Nat.blt d nt = true) (ht : look T.sl t = some e) (he : look T.el e = some (sz, by_, zc)) (hl0 : zc.length = sz)
  (hx : Ev P C nt σ x (.one (.key k))) (hk : lkk σ k = some c) (hce : c.e = e) (hcs : c.sz = sz) (hy : Ev P C nt σ y (.one (.key j))) (hj : lkk σ j = some c2) (hcs2 : c2.sz = sz) (hkj : k ∉ [j]) (hb : (c.n + c2.n) * by_ ≤ 140737488355328) (h63 : c.n + c2.n ≤ 9223372036854775807) :
  Ef P C nt o σ (fun σ' => σ' = (σ.mut k [j] false ⟨false, e, sz, c.n + c2.n, c.cs ++ c2.cs⟩).put d (.one (.key k))) := Ef.mk fun L a w hr K Q hK => by
 have h1 := hx.run L a w hr
 have h2 := hy.run L a w hr
 simp only [SVr, CVr] at h1 h2
 have hown := (hr.ks j c2 hj).1
 have hlay := a4l (ok := fun _ => True) _ _ _ hown (fun _ _ => trivial)
 rw [hcs2] at hlay
 simp only [Own] at hown
 obtain ⟨vs, f, e3, h5, h6, h7, h8⟩ := hown
 obtain ⟨A, cap, vs', e1, hrow, hlay'⟩ := b3e hlay
 have hvs : vs' = vs := by
  have h7' := a6K h7
  rcases h7'.2 with ⟨g1, g2⟩ | ⟨g, cap2, cur, t', fz', g1, g2, g3, g4, g5, g6⟩
  ·have l1 : vs.length = 0 := by rw [h7'.1, g2]; simp
   have l2 : vs'.length = 0 := by rw [hrow.1, g2]; simp
   rw [List.eq_nil_of_length_eq_zero l1, List.eq_nil_of_length_eq_zero l2]
  ·rw [e1] at g1
   simp only [Value.slice.injEq, true_and] at g1
   obtain ⟨rfl, rfl⟩ := g1
   rcases Nat.eq_zero_or_pos c2.n with h0 | h0
   ·have l1 : vs.length = 0 := by rw [h7'.1, h0]; simp
    have l2 : vs'.length = 0 := by rw [hrow.1, h0]; simp
    rw [List.eq_nil_of_length_eq_zero l1, List.eq_nil_of_length_eq_zero l2]
   ·obtain ⟨b, off, k1, k2⟩ := hrow.2 h0
    simp only [Option.some.injEq, Addr.mk.injEq, and_true] at k1
    obtain ⟨rfl, rfl⟩ := k1
    apply List.ext_getElem (by rw [hrow.1, h7'.1, hcs2])
    intro i i1 i2
    have q1 := k2 i _ (List.getElem?_eq_getElem i1)
    rw [Nat.zero_add, cell_of_row w _ i cur t' fz' g2] at q1
    have q3 : i < c2.n * c2.sz := by rw [← h7'.1]; exact i2
    have q2 : vs[i]? = cur[i]? := by rw [← g6, List.getElem?_take, if_pos q3, Array.getElem?_toList]
    rw [List.getElem?_eq_getElem i2] at q2
    rw [← q2] at q1
    exact (Option.some.inj q1).symm
 subst hvs
 have hnf : f.Nodup := by
  have := hr.kn j c2 hj
  rw [e3] at this
  exact (List.nodup_append.1 this).2.1
 exact b5B hT ho hd (by simpa [Nat.blt_eq] using hnt) ht he hl0 hr hk hce hcs h1 (by rw [h2]; exact e1) hkj (by simp [hj]) hrow h8 (fun b hb' => ⟨j, by simp, by rw [e3]; simp [hb']⟩) hnf (by simpa [maxLen] using h63) hb (fun L' a' w' h => hK L' _ _ _ rfl h)
theorem Rel.also (h : Rel P C nt L σ a w) {d : Nat} {v : SV} (hv : SVr P C L w v (a.tmps.getD d undef)) (hk : ∀ k ∈ v.keys, (lkk σ k).isSome = true) (hb : ∀ b ∈ v.boxes, (look σ.bx b).isSome = true) : Rel P C nt L (σ.put d v) a w :=
 { h with
  tm := fun i u hu => by
   simp only [St.put, a0W] at hu
   split at hu
   ·rename_i e
    simp only [Option.some.injEq] at hu
    rw [e, ← hu]; exact hv
   ·exact h.tm i u hu
  bx := h.bx
  ks := h.ks
  b1 := h.b1
  k1 := h.k1
  kn := h.kn
  bb := h.bb
  bk := h.bk
  kk := h.kk
  lk := fun k hk' => by
   simp only [St.tk, St.put, List.flatMap_cons, List.append_assoc, List.mem_append] at hk'
   rcases hk' with hk' | hk'
   ·exact hk k hk'
   ·exact h.lk k (by simp only [St.tk, List.mem_append]; exact hk')
  lb := fun b hb' => by
   simp only [St.tb, St.put, List.flatMap_cons, List.mem_append] at hb'
   rcases hb' with hb' | hb'
   ·exact hb b hb'
   ·exact h.lb b hb' }
theorem Rel.alsoB (h : Rel P C nt L σ a w) {b t : Nat} {cs cs' : List CV} (hb : look σ.bx b = some (t, cs)) (hv : ∀ vs, CVL C L w cs vs → CVL C L w cs' vs) (hk : ∀ k ∈ cs'.flatMap CV.keys, (lkk σ k).isSome = true) : Rel P C nt L ⟨σ.tm, (b, t, cs') :: σ.bx, σ.ks⟩ a w :=
 have hx : ∀ i x, look ((b, t, cs') :: σ.bx) i = some x → ∃ y, look σ.bx i = some y := fun i x hx => by
  simp only [a0W] at hx
  split at hx
  ·rename_i e; exact ⟨_, by rw [e]; exact hb⟩
  ·exact ⟨_, hx⟩
 { h with
  tm := h.tm
  bx := fun i t' cs'' hx => by
   simp only [a0W] at hx
   split at hx
   ·rename_i e
    simp only [Option.some.injEq, Prod.mk.injEq] at hx
    obtain ⟨rfl, rfl⟩ := hx
    obtain ⟨vs, h1, h2⟩ := h.bx b _ _ hb
    exact ⟨vs, by rw [e]; exact h1, hv vs h2⟩
   ·exact h.bx i t' cs'' hx
  ks := h.ks
  b1 := fun i x h' => by obtain ⟨y, hy⟩ := hx i x h'; exact h.b1 i y hy
  k1 := h.k1
  kn := h.kn
  bb := fun i j x y h1 h2 => by
   obtain ⟨x', h1'⟩ := hx i x h1
   obtain ⟨y', h2'⟩ := hx j y h2
   exact h.bb i j x' y' h1' h2'
  bk := fun i k x c h' hc => by obtain ⟨y, hy⟩ := hx i x h'; exact h.bk i k y c hy hc
  kk := h.kk
  lk := fun k hm => by
   simp only [St.tk, List.flatMap_cons, List.mem_append] at hm
   rcases hm with hm | hm | hm
   ·exact h.lk k (by simp only [St.tk, List.mem_append]; exact .inl hm)
   ·exact hk k hm
   ·exact h.lk k (by simp only [St.tk, List.mem_append]; exact .inr hm)
  lb := fun b' hm => by
   have := h.lb b' hm
   simp only [a0W]
   split
   ·rfl
   ·exact this }
theorem b1C {L : Lyt} {w : World} {c' : CV} : ∀ {cs : List CV} {vs : List Value} {i : Nat} {c : CV}, cs[i]? = some c → (∀ v, CVr C L w c v → CVr C L w c' v) → CVL C L w cs vs → CVL C L w (cs.set i c') vs
 | [], _, i, _, h, _, _ => by simp at h
 | x :: xs, _, 0, c, h, hc, ⟨v, vs', e, h1, h2⟩ => by
  simp only [List.getElem?_cons_zero, Option.some.injEq] at h
  subst h
  exact ⟨v, vs', e, hc v h1, h2⟩
 | x :: xs, _, i + 1, c, h, hc, ⟨v, vs', e, h1, h2⟩ => ⟨v, vs', e, h1, b1C (by simpa using h) hc h2⟩
theorem a3p (k : Nat) {b i t e sz : Nat} {cs : List CV} (hb : look σ.bx b = some (t, cs)) (hi : cs[i]? = some .nil) (hk : lkk σ k = none) (hsz : Nat.blt 0 sz = true) (hl : ((cs.set i (.key k)).flatMap CV.keys).all (fun j => Nat.beq j k || (lkk σ j).isSome) = true) :
  Weak P C nt σ ⟨σ.tm, (b, t, cs.set i (.key k)) :: σ.bx, (k, some ⟨false, e, sz, 0, []⟩) :: σ.ks⟩ := Weak.mk fun L a w hr => by
 have hpos : 0 < sz := by simpa [Nat.blt_eq] using hsz
 have h1 := hr.newkey (k := k) (c := ⟨false, e, sz, 0, []⟩) (v := .slice none 0 0) (f := []) hk (a6U w e sz hpos) rfl (by simp) (by simp) (by simp) (by simp)
 refine ⟨_, h1.alsoB (b := b) hb (fun vs hv => b1C hi (fun v hv => ?_) hv) (fun j hj => ?_)⟩
 ·simp only [CVr] at hv ⊢
  rw [hv]; simp
 ·have := List.all_eq_true.1 hl j hj
  simp only [Bool.or_eq_true] at this
  simp only [lkk, a0W]
  split
  ·rfl
  ·rename_i e'
   rcases this with this | this
   ·exact absurd (Nat.eq_of_beq_eq_true this) e'
   ·exact this
theorem a8E (w : World) (o : Obj) : (w.alloc o).heap[w.heap.size]? = some o := heap_alloc_new w o
theorem b6L (off : Nat) : ∀ (us : List Value) (k : Nat) (cs : List Value), off + k + us.length ≤ cs.length → (us.zipIdx k).foldl (fun (acc : Array Value) (p : Value × Nat) => acc.setIfInBounds (off + p.2) p.1) cs.toArray = (a1d (off + k) us cs).toArray
 | [], k, cs, _ => by simp [a1d]
 | u :: us, k, cs, h => by
  simp only [List.length_cons] at h
  rw [List.zipIdx_cons, List.foldl_cons]
  have e : (cs.toArray.setIfInBounds (off + k) u) = (cs.set (off + k) u).toArray := by simp
  simp only [e]
  rw [b6L off us (k + 1) _ (by simp; omega)]
  congr 1
  have hlt : off + k < cs.length := by omega
  unfold a1d
  rw [List.set_eq_take_append_cons_drop, if_pos hlt]
  have h1 : (cs.take (off + k)).length = off + k := by simp; omega
  have e1 : (cs.take (off + k) ++ u :: cs.drop (off + k + 1)).take (off + (k + 1)) = cs.take (off + k) ++ [u] := by
   rw [show off + (k + 1) = (cs.take (off + k)).length + 1 by omega, List.take_length_add_append]
   simp
  have e2 : (cs.take (off + k) ++ u :: cs.drop (off + k + 1)).drop (off + (k + 1) + us.length) = cs.drop (off + k + (us.length + 1)) := by
   rw [show off + (k + 1) + us.length = (cs.take (off + k)).length + (1 + us.length) by omega, ← List.drop_drop, List.drop_left, ← List.drop_drop]
   simp only [List.drop_succ_cons, List.drop_zero, List.drop_drop]
   congr 1; omega
  rw [e1, e2]
  simp
theorem b4a {place : Nat → Option (Nat × Nat)} {i off sz : Nat} {v : Value} {us cs : List Value} {rest : List (Nat × Value)} (hp : place i = some (off, sz)) (hv : v.cells = us.toArray) (hl : us.length = sz) (hb : off + sz ≤ cs.length) :
  Instr.fill place cs.toArray ((i, v) :: rest) = Instr.fill place (a1d off us cs).toArray rest := by
 have h2 := b6L off us 0 cs (by omega)
 simp only [Nat.add_zero] at h2
 have e2 : (us.toArray.zipIdx.foldl (fun (acc : Array Value) (p : Value × Nat) => acc.setIfInBounds (off + p.2) p.1) cs.toArray) = (a1d off us cs).toArray := by
  rw [← h2]; simp
 conv => lhs; unfold Instr.fill
 simp only [hp, hv, List.size_toArray, hl, ne_eq, not_true_eq_false, decide_false, Bool.false_or, gt_iff_lt, decide_eq_true_eq, Bool.or_eq_true]
 rw [if_neg (by omega)]
 exact congrArg (fun z => Instr.fill place z rest) e2
theorem b2Y {t e sz by_ : Nat} {zc : List CV} (hT : TTOk P T) (ht : look T.sl t = some e) (he : look T.el e = some (sz, by_, zc)) (hl0 : zc.length = sz) (hpos : 0 < sz) (hsm : sz ≤ 16777216) {v : Value} {us : List Value} (hv : v.cells = us.toArray) (hl : us.length = sz) :
  (Instr.buildSlice t 1 #[(0, v)]).run P w = .ok (.slice (some ⟨w.heap.size, 0, none⟩) 1 1) (w.alloc (.cells us.toArray e)) := by
 obtain ⟨inf, z, g1, g2, g3, g4, g5⟩ := hT.el e sz by_ zc he
 refine run_buildSlice w t e 1 _ us.toArray inf z (hT.sl t e ht) g1 g4 (by rw [g2]; omega) (by rw [g2]; omega) ?_
 rw [g2]
 have : ((Array.range (1 * sz)).map fun j => z.cells[j % z.cells.size]!) = (((List.range sz).map fun j => z.cells[j % z.cells.size]!)).toArray := by
  rw [Nat.one_mul]
  apply Array.ext'
  simp
 rw [this, b4a (off := 0) (sz := sz) (by simp) hv hl (by simp)]
 have h2 : a1d 0 us ((List.range sz).map fun j => z.cells[j % z.cells.size]!) = us := by
  unfold a1d
  simp [hl]
 rw [h2]
 rfl
theorem b7h {t e sz by_ : Nat} {zc : List CV} (hT : TTOk P T) (ht : look T.sl t = some e) (he : look T.el e = some (sz, by_, zc)) :
  (Instr.buildSlice t 0 #[]).run P w = .ok (.slice (some ⟨w.heap.size, 0, none⟩) 0 0) (w.alloc (.cells #[] e)) := by
 obtain ⟨inf, z, g1, g2, g3, g4, g5⟩ := hT.el e sz by_ zc he
 have h0 : (Array.range 0) = #[] := rfl
 simp [Instr.buildSlice, run_underlying (hT.sl t e ht), sizeOf, typeInfo, g1, Instr.fill, newRow, h0]
theorem c1o (hT : TTOk P T) {t e sz by_ d k : Nat} {zc : List CV} (ho : o.op = .buildSlice t 0 #[]) (hd : o.dst = some d) (hn : Nat.blt d nt = true) (ht : look T.sl t = some e) (he : look T.el e = some (sz, by_, zc)) (hsz : Nat.blt 0 sz = true) (hk : lkk σ k = none) :
  EfG P C nt o σ (fun σ' => σ' = { σ with ks := (k, some ⟨false, e, sz, 0, []⟩) :: σ.ks }.put d (.one (.key k))) := EfG.mk fun L a w hr K Q hK => by
 have hpos : 0 < sz := by simpa [Nat.blt_eq] using hsz
 have hchg : Chg [] w (w.alloc (.cells #[] e)) := (Chg.refl [] w).alloc _
 refine a4U (v := .slice (some ⟨w.heap.size, 0, none⟩) 0 0) (w' := w.alloc (.cells #[] e)) ?_ ?_
 ·unfold execOp
  simp only [ho, List.map_toArray, List.map_nil, b7h (P := P) (w := w) hT ht he, Sem.run_bind, Result.andThen_ok, Sem.run_pure]
 ·have hb := hr.newkey' hchg (c := ⟨false, e, sz, 0, []⟩) (v := .slice (some ⟨w.heap.size, 0, none⟩) 0 0) (f := [w.heap.size]) hk
   (by
    unfold Own
    exact ⟨[], [], rfl, hpos, by simp, a3I (hT.lt e _ he) ⟨by simp, .inr ⟨w.heap.size, 0, #[], rfl, Nat.zero_le _, a8E w _, Nat.le_refl _, Nat.zero_le _, by simp, by simp⟩⟩, by simp [a0Q]⟩) rfl (by simp) (by simp)
  refine hK { L with fp := fun j => if j = k then [w.heap.size] else L.fp j, rv := fun j => if j = k then .slice (some ⟨w.heap.size, 0, none⟩) 0 0 else L.rv j } _ _ _ rfl (by rw [hd]; exact hb.put (v := .one (.key k)) (r := .slice (some ⟨w.heap.size, 0, none⟩) 0 0) (by simpa [Nat.blt_eq] using hn) (by simp [SVr, CVr]) (by simp [SV.keys, CV.keys, lkk, a0W]) (by simp [SV.boxes])) ⟨hchg, fun i c hc => ?_, fun _ _ _ => rfl⟩
  have : i ≠ k := fun e => by rw [e, hk] at hc; cases hc
  simp [this]
theorem c2A (hT : TTOk P T) {t e sz by_ d k : Nat} {zc : List CV} {v : SV} {p : Bool × List CV} {ds : List DV} {js : List Nat} (ho : o.op = .buildSlice t 1 #[(0, x)]) (hd : o.dst = some d) (hn : Nat.blt d nt = true) (ht : look T.sl t = some e) (he : look T.el e = some (sz, by_, zc)) (hl0 : zc.length = sz) (hsz : Nat.blt 0 sz = true) (hsm : Nat.ble sz 16777216 = true)
  (hx : Ev P C nt σ x v) (hp : v.part = some p) (hkv : a1p σ v = true) (how : a3z σ p.2 ds js) (hnj : js.Nodup) (hkj : k ∉ js) (hl : p.2.length = sz) (hk : lkk σ k = none) :
  Ef P C nt o σ (fun σ' => σ' = (St.mut { σ with ks := (k, some ⟨false, e, sz, 0, []⟩) :: σ.ks } k js false ⟨false, e, sz, 1, ds⟩).put d (.one (.key k))) := Ef.mk fun L a w hr K Q hK => by
 have hpos : 0 < sz := by simpa [Nat.blt_eq] using hsz
 obtain ⟨us, h1, h2, h3⟩ := a4y hr hp hkv (hx.run L a w hr)
 have hus : us.length = sz := by rw [a2S h2]; exact hl
 obtain ⟨o1, o2, o3⟩ := a8n hr how h2
 have hchg : Chg [] w (w.alloc (.cells us.toArray e)) := (Chg.refl [] w).alloc _
 have hr1 := hr.newkey (k := k) (c := ⟨false, e, sz, 0, []⟩) (v := .slice none 0 0) (f := []) hk (a6U w e sz hpos) rfl (by simp) (by simp) (by simp) (by simp)
 have hlj : ∀ j ∈ js, (lkk { σ with ks := (k, some ⟨false, e, sz, 0, []⟩) :: σ.ks } j).isSome = true := fun j hj => by
  have hjk : j ≠ k := fun e' => hkj (by rw [← e']; exact hj)
  have := o2 j hj
  simp only [lkk, a0W, if_neg hjk] at this ⊢
  exact this
 have hlt : ∀ b ∈ js.flatMap L.fp, b < w.heap.size := a4E _ _ _ o1
 have o1' : a0Q (w.alloc (.cells us.toArray e)) ds us (js.flatMap L.fp) := a2V _ _ _ o1 (fun b hb => hchg.block b (hlt b hb) (by simp))
 have hset := hr1.setkey (k := k) (c := ⟨false, e, sz, 0, []⟩) (c' := ⟨false, e, sz, 1, ds⟩) (js := js) (same := false) (w' := w.alloc (.cells us.toArray e)) (v' := .slice (some ⟨w.heap.size, 0, none⟩) 1 1) (f' := w.heap.size :: js.flatMap L.fp)
  (by simp [lkk, a0W]) hkj (by simpa using hchg)
  (by
   unfold Own
   refine ⟨us, js.flatMap L.fp, rfl, hpos, by rw [o3, hl, Nat.one_mul], a3I (hT.lt e _ he) ⟨by rw [hus, Nat.one_mul], .inr ⟨w.heap.size, 1, us.toArray, rfl, Nat.zero_le _, a8E w _, Nat.le_refl _, by simp [maxLen], by simp [hus], by rw [Nat.one_mul, ← hus]; simp⟩⟩, o1'⟩)
  (by
   rw [List.nodup_cons]
   exact ⟨fun hm => absurd (hlt _ hm) (by omega), a8K hr hnj o2⟩)
  (fun b hb => by
   rcases List.mem_cons.1 hb with hb | hb
   ·exact .inr (.inr (by omega))
   ·obtain ⟨j, hj, hb'⟩ := List.mem_flatMap.1 hb
    have hjk : j ≠ k := fun e' => hkj (by rw [← e']; exact hj)
    exact .inr (.inl ⟨j, hj, by simpa [hjk] using hb'⟩)) hlj (by simp) (by simp)
 refine a4U (v := .slice (some ⟨w.heap.size, 0, none⟩) 1 1) (w' := w.alloc (.cells us.toArray e)) ?_ ?_
 ·unfold execOp
  simp only [ho, List.map_toArray, List.map_cons, List.map_nil, b2Y (P := P) (w := w) hT ht he hl0 hpos (by simpa [Nat.ble_eq] using hsm) h1 hus, Sem.run_bind, Result.andThen_ok, Sem.run_pure]
 ·rw [hd]
  exact hK _ _ _ _ rfl (hset.put (v := .one (.key k)) (r := .slice (some ⟨w.heap.size, 0, none⟩) 1 1) (by simpa [Nat.blt_eq] using hn) (by simp [SVr, CVr]) (by simp [SV.keys, CV.keys, a5o]) (by simp [SV.boxes]))
/-! over states that are written out -/
section
variable {Q : Exit → St → Prop} {all : Array Oper} {rest : List Oper} {tm : List (Nat × SV)} {bx : List (Nat × TypeId × List CV)} {ks : List (Nat × Option KC)}
theorem a9h (hT : TTOk P T) {t e sz by_ d k m : Nat} {zc : List CV} {c : KC} {J : List Nat} {e2 : Nat} {ds cs : List DV} (hg : o.guard = none) (hd : o.dst = some d) (ho : o.op = .call { callee := .builtin .append, args := #[x, y], argTypes := #[t, t] }) (hnt : Nat.blt d nt = true) (ht : look T.sl t = some e) (he : look T.el e = some (sz, by_, zc)) (hl0 : zc.length = sz)
  (hx : Ev P C nt ⟨tm, bx, ks⟩ x (.one (.key k))) (hk : lkk ⟨tm, bx, ks⟩ k = some c) (hce : c.e = e) (hcs : c.sz = sz) (hy : Ev P C nt ⟨tm, bx, ks⟩ y (.one (.dv J (.sl e2 sz m ds)))) (hp : ds.all DV.plain = true) (hb : (c.n + m) * by_ ≤ 140737488355328) (h63 : c.n + m ≤ 9223372036854775807) {n : Nat} (hn : c.n + m = n) (hcc : c.cs ++ ds = cs)
  (h : Ops P C nt Q all rest ⟨(d, .one (.key k)) :: a0p [k] [k] tm, a0k [k] [k] bx, (k, some ⟨false, e, sz, n, cs⟩) :: ks⟩) : Ops P C nt Q all (o :: rest) ⟨tm, bx, ks⟩ :=
 a3L hg (c4S hT ho hd hnt ht he hl0 hx hk hce hcs hy hp hb h63) (by subst hn; subst hcc; exact h)
theorem a3f (hT : TTOk P T) {t e sz by_ d k j : Nat} {zc : List CV} {c c2 : KC} {cs : List DV} (hg : o.guard = none) (hd : o.dst = some d) (ho : o.op = .call { callee := .builtin .append, args := #[x, y], argTypes := #[t, t] }) (hnt : Nat.blt d nt = true) (ht : look T.sl t = some e) (he : look T.el e = some (sz, by_, zc)) (hl0 : zc.length = sz)
  (hx : Ev P C nt ⟨tm, bx, ks⟩ x (.one (.key k))) (hk : lkk ⟨tm, bx, ks⟩ k = some c) (hce : c.e = e) (hcs : c.sz = sz) (hy : Ev P C nt ⟨tm, bx, ks⟩ y (.one (.key j))) (hj : lkk ⟨tm, bx, ks⟩ j = some c2) (hcs2 : c2.sz = sz) (hkj : k ∉ [j]) (hb : (c.n + c2.n) * by_ ≤ 140737488355328) (h63 : c.n + c2.n ≤ 9223372036854775807) {n : Nat} (hn : c.n + c2.n = n) (hcc : c.cs ++ c2.cs = cs)
  (h : Ops P C nt Q all rest ⟨(d, .one (.key k)) :: a0p [k, j] [k, j] tm, a0k [k, j] [k, j] bx, (k, some ⟨false, e, sz, n, cs⟩) :: (j, none) :: ks⟩) : Ops P C nt Q all (o :: rest) ⟨tm, bx, ks⟩ :=
 a3L hg (c7A hT ho hd hnt ht he hl0 hx hk hce hcs hy hj hcs2 hkj hb h63) (by subst hn; subst hcc; exact h)
theorem a2J (hT : TTOk P T) {t e sz by_ d k : Nat} {zc : List CV} (hg : o.guard = none) (hd : o.dst = some d) (ho : o.op = .buildSlice t 0 #[]) (hn : Nat.blt d nt = true) (ht : look T.sl t = some e) (he : look T.el e = some (sz, by_, zc)) (hsz : Nat.blt 0 sz = true) (hk : lkk ⟨tm, bx, ks⟩ k = none)
  (h : Ops P C nt Q all rest ⟨(d, .one (.key k)) :: tm, bx, (k, some ⟨false, e, sz, 0, []⟩) :: ks⟩) : Ops P C nt Q all (o :: rest) ⟨tm, bx, ks⟩ := a3L hg (c1o hT ho hd hn ht he hsz hk).ef h
theorem a3H (hT : TTOk P T) {t e sz by_ d k : Nat} {zc : List CV} {v : SV} {p : Bool × List CV} {ds : List DV} {js : List Nat} (hg : o.guard = none) (hd : o.dst = some d) (ho : o.op = .buildSlice t 1 #[(0, x)]) (hn : Nat.blt d nt = true) (ht : look T.sl t = some e) (he : look T.el e = some (sz, by_, zc)) (hl0 : zc.length = sz) (hsz : Nat.blt 0 sz = true) (hsm : Nat.ble sz 16777216 = true)
  (hx : Ev P C nt ⟨tm, bx, ks⟩ x v) (hp : v.part = some p) (hkv : a1p ⟨tm, bx, ks⟩ v = true) (how : a3z ⟨tm, bx, ks⟩ p.2 ds js) (hnj : js.Nodup) (hkj : k ∉ js) (hl : p.2.length = sz) (hk : lkk ⟨tm, bx, ks⟩ k = none)
  (h : Ops P C nt Q all rest ⟨(d, .one (.key k)) :: a0p (k :: js) (k :: js) tm, a0k (k :: js) (k :: js) bx, (k, some ⟨false, e, sz, 1, ds⟩) :: ((js.map fun j => (j, none)) ++ (k, some ⟨false, e, sz, 0, []⟩) :: ks)⟩) : Ops P C nt Q all (o :: rest) ⟨tm, bx, ks⟩ :=
 a3L hg (c2A hT ho hd hn ht he hl0 hsz hsm hx hp hkv how hnj hkj hl hk) h
end
end
def c7E (P : Program) (T : List (Nat × List (Nat × Nat))) : Bool := T.all fun p => match P.underlying p.1 with
 | some (.struct fs) => (fs.toList.map fun f => (f.offset, (P.info? f.type).map (·.size))) == p.2.map fun q => (q.1, some q.2)
 | _ => false
structure BOk (P : Program) (T : List (Nat × List (Nat × Nat))) : Prop where
 bs : ∀ t pl, look T t = some pl → ∃ fs, P.underlying t = some (.struct fs) ∧ (fs.toList.map fun f => (f.offset, (P.info? f.type).map (·.size))) = pl.map fun q => (q.1, some q.2)
theorem bOk {P : Program} {T : List (Nat × List (Nat × Nat))} (h : c7E P T = true) : BOk P T := by
 refine ⟨fun t pl hl => ?_⟩
 have := List.all_eq_true.1 h _ (a4g hl)
 dsimp only at this
 split at this
 ·rename_i fs hfs; exact ⟨fs, hfs, by simpa using this⟩
 ·cases this
section
variable {P : Program} {C : Ctx} {nt : Nat} {σ : St} {L : Lyt} {a : Act} {w : World} {o : Oper} {x y : Operand} {T : TT} {B : List (Nat × List (Nat × Nat))}
theorem b8M {α β : Type} {g : α → Sem β} {q : α → β} : ∀ {xs : List α}, (∀ x ∈ xs, (g x).run P w = .ok (q x) w) → (xs.mapM g).run P w = .ok (xs.map q) w
 | [], _ => by simp only [List.mapM_nil, Sem.run_pure, List.map_nil]
 | x :: xs, h => by
  have ih := b8M (xs := xs) (fun y hy => h y (by simp [hy]))
  rw [List.mapM_cons]
  simp only [Sem.run_bind, h x (by simp), ih, Result.andThen_ok, Sem.run_pure, List.map_cons]
theorem c8a {α β : Type} {g : α → Sem β} {q : α → β} {xs : Array α} (h : ∀ x ∈ xs.toList, (g x).run P w = .ok (q x) w) : (xs.mapM g).run P w = .ok (xs.toList.map q).toArray w := by
 rw [Array.mapM_eq_mapM_toList, map_eq_pure_bind, Sem.run_bind, b8M h]
 simp only [Result.andThen_ok, Sem.run_pure]
def a7r (P : Program) (C : Ctx) (nt : Nat) (σ : St) (pl : List (Nat × Nat)) : List (Nat × Operand) → List CV → List CV → Prop
 | [], acc, res => acc = res
 | (i, x) :: ps, acc, res => ∃ v p off sz, Ev P C nt σ x v ∧ v.part = some p ∧ a1p σ v = true ∧ pl[i]? = some (off, sz) ∧ p.2.length = sz ∧ off + sz ≤ acc.length ∧ a7r P C nt σ pl ps (a1d off p.2 acc) res
theorem a1w {pl : List (Nat × Nat)} {cs : List CV} : a7r P C nt σ pl [] cs cs := rfl
theorem a1c {pl : List (Nat × Nat)} {i off sz : Nat} {v : SV} {p : Bool × List CV} {ps : List (Nat × Operand)} {acc res : List CV} (hx : Ev P C nt σ x v) (hp : v.part = some p) (hk : a1p σ v = true) (hi : pl[i]? = some (off, sz)) (hl : p.2.length = sz) (hle : Nat.ble (off + sz) acc.length = true)
  (h : a7r P C nt σ pl ps (a1d off p.2 acc) res) : a7r P C nt σ pl ((i, x) :: ps) acc res := ⟨v, p, off, sz, hx, hp, hk, hi, hl, by simpa [Nat.ble_eq] using hle, h⟩
theorem b8A (hr : Rel P C nt L σ a w) {pl : List (Nat × Nat)} : ∀ {ps : List (Nat × Operand)} {acc res : List CV} {us : List Value}, a7r P C nt σ pl ps acc res → CVL C L w acc us →
  ∃ vs, Instr.fill (fun i => pl.toArray[i]?) us.toArray (ps.map fun q => (q.1, a.eval q.2)) = some vs.toArray ∧ CVL C L w res vs
 | [], acc, res, us, h, hu => by simp only [a7r] at h; subst h; exact ⟨us, rfl, hu⟩
 | (i, x) :: ps, acc, res, us, ⟨v, p, off, sz, h1, h2, h3, h4, h5, h6, h7⟩, hu => by
  obtain ⟨xs, k1, k2, k3⟩ := a4y hr h2 h3 (h1.run L a w hr)
  obtain ⟨vs, g1, g2⟩ := b8A hr h7 (a9N off hu k2)
  refine ⟨vs, ?_, g2⟩
  rw [List.map_cons, b4a (off := off) (sz := sz) (by simpa using h4) k1 (by rw [a2S k2]; exact h5) (by rw [a2S hu]; exact h6)]
  exact g1
theorem a1v (hT : TTOk P T) (hB : BOk P B) {t sz by_ : Nat} {zc cs : List CV} {pl : List (Nat × Nat)} {ps : List (Nat × Operand)} (ho : o.op = .build t ps.toArray) (ht : look T.el t = some (sz, by_, zc)) (hb : look B t = some pl) (h : a7r P C nt σ pl ps zc cs) : Pu P C nt o σ (.agg cs) [] [] := Pu.mk fun L a w hr => by
 obtain ⟨inf, z, g1, g2, g3, g4, g5⟩ := hT.el t sz by_ zc ht
 obtain ⟨c1, _, _⟩ := a9p (C := C) (L := L) (w := w) g5
 obtain ⟨fs, f1, f2⟩ := hB.bs t pl hb
 obtain ⟨vs, k1, k2⟩ := b8A hr h c1
 refine ⟨.agg vs.toArray, by simp only [SVr]; exact ⟨vs, rfl, k2⟩, fun w' _ => ?_⟩
 have hsz : ∀ f ∈ fs.toList, ∃ i, P.info? f.type = some i := fun f hf => by
  have : (f.offset, (P.info? f.type).map (·.size)) ∈ pl.map fun q => (q.1, some q.2) := by rw [← f2]; exact List.mem_map.2 ⟨f, hf, rfl⟩
  obtain ⟨q, _, hq⟩ := List.mem_map.1 this
  simp only [Prod.mk.injEq] at hq
  cases hi : P.info? f.type with
  | none => rw [hi] at hq; cases hq.2
  | some i => exact ⟨i, rfl⟩
 have hpl : (fs.toList.map fun f => (f.offset, ((P.info? f.type).map (·.size)).getD 0)) = pl := by
  have h2 := congrArg (List.map fun q : Nat × Option Nat => (q.1, q.2.getD 0)) f2
  simp only [List.map_map, Function.comp_def, Option.getD_some] at h2
  simpa using h2
 have hm : ∀ g : Field → Sem (Nat × Nat), (∀ f, g f = (do pure (f.offset, ← sizeOf f.type))) → (fs.mapM g).run P w' = .ok pl.toArray w' := fun g hg => by
  rw [c8a (q := fun f => (f.offset, ((P.info? f.type).map (·.size)).getD 0)) (fun f hf => by
   obtain ⟨i, hi⟩ := hsz f hf
   rw [hg f]
   simp [sizeOf, typeInfo, hi]), hpl]
 have hz : z.cells = z.cells.toList.toArray := by simp
 have hps : (Array.map (fun q => (q.1, a.eval q.2)) ps.toArray).toList = ps.map fun q => (q.1, a.eval q.2) := by simp
 unfold execOp
 simp only [ho, Instr.build, zeroValue, typeInfo, Sem.run_bind, run_program, g1, g4, Result.andThen_ok, Sem.run_pure, run_underlying f1, hm _ (fun _ => rfl), hps]
 rw [hz, k1]
 simp
end
/-! ### ownership of one cell -/
theorem b6V {w : World} : ∀ {ds : List DV} {vs : List Value} {fp : List Nat} {i : Nat} {d : DV}, a0Q w ds vs fp → ds[i]? = some d → ∃ v fa fd fb, vs[i]? = some v ∧ fp = fa ++ (fd ++ fb) ∧ Own w d v fd ∧ a0Q w (ds.set i .hole) vs (fa ++ fb)
 | [], _, _, _, _, _, hd => by simp at hd
 | x :: xs, _, _, 0, d, h, hd => by
  simp only [List.getElem?_cons_zero, Option.some.injEq] at hd
  subst hd
  simp only [a0Q] at h
  obtain ⟨v, vs', f1, f2, rfl, rfl, h1, h2⟩ := h
  refine ⟨v, [], f1, f2, rfl, rfl, h1, ?_⟩
  simp only [List.set_cons_zero, a0Q, List.nil_append]
  exact ⟨v, vs', [], f2, rfl, rfl, by unfold Own; exact ⟨a8d _ _ (a4l (ok := fun _ => True) _ _ _ h1 (fun _ _ => trivial)), rfl⟩, h2⟩
 | x :: xs, _, _, i + 1, d, h, hd => by
  simp only [List.getElem?_cons_succ] at hd
  simp only [a0Q] at h
  obtain ⟨v, vs', f1, f2, rfl, rfl, h1, h2⟩ := h
  obtain ⟨u, fa, fd, fb, g1, rfl, g3, g4⟩ := b6V h2 hd
  refine ⟨u, f1 ++ fa, fd, fb, by simpa using g1, by simp, g3, ?_⟩
  simp only [List.set_cons_succ, a0Q]
  exact ⟨v, vs', f1, fa ++ fb, rfl, by simp, h1, g4⟩
theorem b8N {w : World} {e sz n o : Nat} {cs : List DV} {v : Value} {fp : List Nat} (h : Own w (.sl e sz n cs) v fp) (ho : o < cs.length) : ∃ g cap vs f, v = .slice (some ⟨g, 0, none⟩) n cap ∧ fp = g :: f ∧ a0Q w cs vs f ∧ (∀ j u, vs[j]? = some u → w.cell? ⟨g, j, none⟩ = some u) := by
 simp only [Own] at h
 obtain ⟨vs, f, rfl, h1, h2, h3, h4⟩ := h
 rcases (a6K h3).2 with ⟨rfl, rfl⟩ | ⟨g, cap, cur, t, fz, rfl, hg, _, _, _, ht⟩
 ·simp at h2; subst h2; simp at ho
 ·refine ⟨g, cap, vs, f, rfl, by simp [Value.ownBlock], h4, fun j u hu => ?_⟩
  rw [cell_of_row _ g j cur t fz hg]
  rw [← ht, List.getElem?_take] at hu
  split at hu
  ·simpa using hu
  ·cases hu
def dvE (k o : Nat) (d : DV) : CV := bif d.plain then .dv [] d else .nest k o d
def a3b (k : Nat) : Nat → List DV → List CV
 | _, [] => []
 | o, d :: ds => dvE k o d :: a3b k (o + 1) ds
section
variable {P : Program} {C : Ctx} {nt : Nat} {L : Lyt} {σ : St} {a : Act} {w : World} {o : Oper} {x y : Operand} {T : TT}
theorem c0T {k off g n c : Nat} {d : DV} {v : Value} {fd : List Nat} (ho : Own w d v fd) (hf : ∀ b ∈ fd, b ∈ L.fp k) (hr : L.rv k = .slice (some ⟨g, 0, none⟩) n c) (hg : g ∈ L.fp k) (hc : w.cell? ⟨g, off, none⟩ = some v) : CVr C L w (dvE k off d) v := by
 unfold dvE
 have hl : Lay (okB C L [k]) w d v := a4l _ _ _ ho (fun b hb => .inr ⟨k, by simp, hf b hb⟩)
 cases hp : d.plain with
 | true =>
  simp only [cond_true, CVr]
  exact a4l _ _ _ (b0b (w' := w) hp hl) (by simp)
 | false => exact ⟨hl, g, n, c, hr, hg, hc⟩
theorem c4R {k off : Nat} {d : DV} : ∀ j ∈ (dvE k off d).keys, j = k := by
 unfold dvE
 cases d.plain <;> simp [CV.keys]
theorem b7o {k g n c : Nat} (hr : L.rv k = .slice (some ⟨g, 0, none⟩) n c) (hg : g ∈ L.fp k) : ∀ {ds : List DV} {vs : List Value} {f : List Nat} {off : Nat}, a0Q w ds vs f → (∀ b ∈ f, b ∈ L.fp k) → (∀ j u, vs[j]? = some u → w.cell? ⟨g, off + j, none⟩ = some u) → CVL C L w (a3b k off ds) vs
 | [], _, _, _, h, _, _ => by simp only [a0Q] at h; obtain ⟨rfl, _⟩ := h; rfl
 | d :: ds, _, _, off, h, hf, hc => by
  simp only [a0Q] at h
  obtain ⟨v, vs', f1, f2, rfl, rfl, h1, h2⟩ := h
  refine ⟨v, vs', rfl, c0T h1 (fun b hb => hf b (by simp [hb])) hr hg (by simpa using hc 0 v rfl), b7o hr hg h2 (fun b hb => hf b (by simp [hb])) (fun j u hu => ?_)⟩
  have := hc (j + 1) u (by simpa using hu)
  rwa [show off + 1 + j = off + (j + 1) by omega]
theorem b3b {k : Nat} : ∀ {ds : List DV} {off : Nat}, ∀ j ∈ (a3b k off ds).flatMap CV.keys, j = k
 | [], _, j, hj => by simp [a3b] at hj
 | d :: ds, off, j, hj => by
  simp only [a3b, List.flatMap_cons, List.mem_append] at hj
  rcases hj with hj | hj
  ·exact c4R j hj
  ·exact b3b j hj
theorem b4l (hT : TTOk P T) {t k off n : Nat} {c : KC} {ds : List DV} (ho : o.op = .load t x) (ht : look T.ag t = some n) (hx : Ev P C nt σ x (.eptr k off)) (hk : lkk σ k = some c) (hl : ds.length = n) (hpos : 0 < n) (hd : sub off n c.cs = ds) : Pu P C nt o σ (.agg (a3b k off ds)) [k] [] := Pu.mk fun L a w hr => by
 subst hd
 have h1 := hx.run L a w hr
 simp only [SVr] at h1
 obtain ⟨g, m, cap, e1, e2⟩ := h1
 have hle : off + n ≤ c.cs.length := by
  simp only [sub, c9j, List.length_drop] at hl
  omega
 obtain ⟨g', cap', vs, f, k1, k2, k3, k4⟩ := b8N (hr.ks k c hk).1 (show off < c.cs.length by omega)
 rw [e1] at k1
 simp only [Value.slice.injEq, Option.some.injEq, Addr.mk.injEq, and_true, true_and] at k1
 obtain ⟨rfl, rfl, rfl⟩ := k1
 have hgm : g ∈ L.fp k := by rw [k2]; simp
 have hsp : c.cs = c.cs.take off ++ (sub off n c.cs ++ (c.cs.drop off).drop n) := by rw [sub, List.take_append_drop, List.take_append_drop]
 have k3' := k3
 rw [hsp] at k3'
 obtain ⟨u1, u2, f1, f2, rfl, rfl, q1, q2⟩ := a4T _ _ _ _ k3'
 obtain ⟨u3, u4, f3, f4, rfl, rfl, q3, q4⟩ := a4T _ _ _ _ q2
 have l1 : u1.length = off := by rw [a3e _ _ _ q1]; simp; omega
 have l3 : u3.length = n := by rw [a3e _ _ _ q3]; exact hl
 have hcell : ∀ j u, u3[j]? = some u → w.cell? ⟨g, off + j, none⟩ = some u := fun j u hu => k4 (off + j) u (by
  have hj : j < u3.length := (List.getElem?_eq_some_iff.1 hu).1
  rw [List.getElem?_append_right (by omega), List.getElem?_append_left (by omega), show off + j - u1.length = j by omega]
  exact hu)
 refine ⟨.agg u3.toArray, by simp only [SVr]; exact ⟨u3, rfl, b7o e1 hgm q3 (fun b hb => by rw [k2]; simp [hb]) hcell⟩, fun w' hw => ?_⟩
 have hb' : w'.heap[g]? = w.heap[g]? := hw g (hr.k_lt hk g hgm) (.inl (.inr ⟨k, by simp, hgm⟩))
 unfold execOp
 simp only [ho, e2, Instr.loadAt, Instr.sureAddr, Sem.run_bind, Sem.run_pure, Result.andThen_ok]
 rw [b3m (us := u3) (hT.ag t n ht) l3 (fun j u hu => (World.cell?_of_block (a := ⟨g, off + j, none⟩) hb').trans (hcell j u hu))]
 rfl
/-! ### a nested cell, taken out and put back -/
theorem Rel.split (h : Rel P C nt L σ a w) {k k' off e sz n : Nat} {c : KC} {cs : List DV} (hk : lkk σ k = some c) (hd : c.cs[off]? = some (.sl e sz n cs)) (hk' : lkk σ k' = none) :
  ∃ L' v g m cap, L.rv k = .slice (some ⟨g, 0, none⟩) m cap ∧ w.cell? ⟨g, off, none⟩ = some v ∧ L'.rv k = L.rv k ∧ L'.rv k' = v ∧ g ∈ L'.fp k ∧
   Rel P C nt L' ⟨(σ.mut k [] true { c with cs := c.cs.set off .hole }).tm, (σ.mut k [] true { c with cs := c.cs.set off .hole }).bx, (k', some ⟨false, e, sz, n, cs⟩) :: (k, some { c with cs := c.cs.set off .hole }) :: σ.ks⟩ a w := by
 have hlt : off < c.cs.length := (List.getElem?_eq_some_iff.1 hd).1
 have hown := (h.ks k c hk).1
 obtain ⟨g, cap, vs, f, k1, k2, k3, k4⟩ := b8N hown hlt
 obtain ⟨v, fa, fd, fb, m1, m2, m3, m4⟩ := b6V k3 hd
 have hkk : k ≠ k' := fun e' => by rw [← e', hk] at hk'; cases hk'
 have hgm : g ∈ L.fp k := by rw [k2]; simp
 have hnd := h.kn k c hk
 rw [k2, m2] at hnd
 simp only [List.nodup_cons, List.mem_append, not_or] at hnd
 obtain ⟨nd1, nd2⟩ := hnd
 rw [List.nodup_append] at nd2
 obtain ⟨nd2, nd3, nd4⟩ := nd2
 rw [List.nodup_append] at nd3
 obtain ⟨nd3, nd5, nd6⟩ := nd3
 have hown1 : Own w (.sl c.e c.sz c.n (c.cs.set off .hole)) (L.rv k) (g :: (fa ++ fb)) := by
  unfold Own at hown ⊢
  obtain ⟨vs2, f2, p1, p2, p3, p4, p5⟩ := hown
  have hvs : vs2 = vs := by
   rcases (a6K p4).2 with ⟨q1, q2⟩ | ⟨g2, cap2, cur, t2, fz2, q1, q3, q4, q5, q6, q7⟩
   ·rw [k1] at q1; cases q1
   ·rw [k1] at q1
    simp only [Value.slice.injEq, Option.some.injEq, Addr.mk.injEq, and_true, true_and] at q1
    obtain ⟨rfl, rfl⟩ := q1
    apply List.ext_getElem (by rw [a3e _ _ _ p5, a3e _ _ _ k3])
    intro i i1 i2
    have r1 := k4 i _ (List.getElem?_eq_getElem i2)
    rw [cell_of_row _ g i cur t2 fz2 q3] at r1
    have r3 : i < c.n * c.sz := by rw [← p3, ← a3e _ _ _ p5]; exact i1
    have r2 : vs2[i]? = cur[i]? := by rw [← q7, List.getElem?_take, if_pos r3, Array.getElem?_toList]
    rw [List.getElem?_eq_getElem i1] at r2
    rw [← r2] at r1
    exact Option.some.inj r1
  subst hvs
  exact ⟨vs2, fa ++ fb, by rw [k1]; simp [Value.ownBlock], p2, by simpa using p3, p4, m4⟩
 have hrel := h.setkey (k := k) (c := c) (c' := { c with cs := c.cs.set off .hole }) (js := []) (same := true) (v' := L.rv k) (f' := g :: (fa ++ fb)) hk (by simp) (Chg.refl _ _) hown1
  (by
   rw [List.nodup_cons, List.nodup_append]
   refine ⟨fun hm => ?_, nd2, nd5, fun x hx y hy => nd4 x hx y (by simp [hy])⟩
   simp only [List.mem_append] at hm
   rcases hm with hm | hm
   ·exact nd1.1 hm
   ·exact nd1.2.2 hm)
  (fun b hb => .inl (by
   rw [k2, m2]
   simp only [List.mem_cons, List.mem_append] at hb ⊢
   rcases hb with hb | hb | hb
   ·exact .inl hb
   ·exact .inr (.inl hb)
   ·exact .inr (.inr (.inr hb)))) (by simp) (fun _ => rfl) (fun e' => ⟨e', rfl⟩)
 have hfd : ∀ b ∈ fd, b ∈ L.fp k := fun b hb => by rw [k2, m2]; simp [hb]
 have hnew := hrel.newkey (k := k') (c := ⟨false, e, sz, n, cs⟩) (v := v) (f := fd)
  (by
   simp only [lkk, St.mut, List.map_nil, List.nil_append, List.cons_append, a0W]
   rw [if_neg (fun e' => hkk e'.symm)]
   exact hk') m3 rfl nd3 (fun b hb => h.k1 k c hk b (hfd b hb))
  (fun b hb i x hx e' => by
   have hx' : ∃ y, look σ.bx i = some y := by
    have := a9j (fun q : TypeId × List CV => (q.1, q.2.map (CV.kill [k] []))) σ.bx i
    change look (a0k [k] [] σ.bx) i = _ at this
    change look (a0k [k] [] σ.bx) i = some x at hx
    rw [this] at hx
    cases hy : look σ.bx i with
    | none => rw [hy] at hx; cases hx
    | some q => exact ⟨q, rfl⟩
   obtain ⟨y, hy⟩ := hx'
   exact h.bk i k y c hy hk (by rw [show L.bb i = b from e']; exact hfd b hb))
  (fun b hb j d' hj => by
   simp only [lkk, St.mut, List.map_nil, List.nil_append, List.cons_append, a0W] at hj
   by_cases hjk : j = k
   ·subst hjk
    simp only [if_true]
    intro hm
    simp only [List.mem_cons, List.mem_append] at hm
    rcases hm with hm | hm | hm
    ·exact nd1.2.1 (hm ▸ hb)
    ·exact nd4 b hm b (by simp [hb]) rfl
    ·exact nd6 b hb b hm rfl
   ·rw [if_neg hjk] at hj
    simp only [if_neg hjk]
    exact fun hm => h.kk j k d' c hj hk hjk b hm (hfd b hb))
 refine ⟨_, v, g, c.n, cap, k1, k4 off v m1, ?_, ?_, ?_, hnew⟩
 ·simp [hkk]
 ·simp
 ·simp [hkk]
section
variable {Q : Exit → St → Prop} {all : Array Oper} {rest : List Oper} {tm : List (Nat × SV)} {bx : List (Nat × TypeId × List CV)} {ks : List (Nat × Option KC)}
def a9M : List Nat → Bool
 | [] => true
 | x :: xs => !(xs.any fun y => Nat.beq x y) && a9M xs
theorem b2z : ∀ {xs : List Nat}, a9M xs = true → xs.Nodup
 | [], _ => List.nodup_nil
 | x :: xs, h => by
  simp only [a9M, Bool.and_eq_true, Bool.not_eq_true', List.any_eq_false] at h
  refine List.nodup_cons.2 ⟨fun hm => ?_, b2z h.2⟩
  have := h.1 x hm
  simp at this
end
/-! ### contents written out at an element -/
def mid (pre B post : List DV) : List DV := pre ++ (B ++ post)
theorem b9p {pre B B' post ds : List DV} {m off j : Nat} (hp : pre.length = m) (ho : off = m + j) (hB : a1d j ds B = B') (hj : j + ds.length ≤ B.length) : a1d off ds (mid pre B post) = mid pre B' post := by
 subst hB
 subst ho
 subst hp
 unfold a1d mid
 rw [List.take_length_add_append, Nat.add_assoc, ← List.drop_drop, List.drop_left, List.take_append_of_le_length (by omega), List.drop_append_of_le_length (by omega)]
 simp
theorem Rel.same (h : Rel P C nt L σ a w) {ks : List (Nat × Option KC)} (e : ∀ i, lkk ⟨σ.tm, σ.bx, ks⟩ i = lkk σ i) : Rel P C nt L ⟨σ.tm, σ.bx, ks⟩ a w where
 df := h.df
 sz := h.sz
 tm := h.tm
 bx := h.bx
 ks := fun k c hc => h.ks k c (by rw [← e]; exact hc)
 b1 := h.b1
 k1 := fun k c hc => h.k1 k c (by rw [← e]; exact hc)
 kn := fun k c hc => h.kn k c (by rw [← e]; exact hc)
 bb := h.bb
 bk := fun i k x c hx hc => h.bk i k x c hx (by rw [← e]; exact hc)
 kk := fun k j c d hc hd => h.kk k j c d (by rw [← e]; exact hc) (by rw [← e]; exact hd)
 lk := fun k hk => by rw [e]; exact h.lk k hk
 lb := h.lb
 s0 := h.s0
 chg := h.chg
end
section
variable {P : Program} {C : Ctx} {nt : Nat} {L : Lyt} {σ : St} {a : Act} {w : World} {o : Oper} {x y : Operand} {T : TT}
theorem b0u (w : World) : ∀ bs : List UInt8, a0Q w (bs.flatMap fun b => [DV.int .u8 (b.toNat : Int)]) (bs.map fun b => Value.int .u8 (b.toNat : Int)) []
 | [] => by simp [a0Q]
 | b :: bs => by
  have hb := b.toNat_lt
  simp only [List.flatMap_cons, List.map_cons, List.singleton_append, a0Q]
  refine ⟨_, _, [], [], rfl, rfl, ?_, b0u w bs⟩
  unfold Own
  exact ⟨rfl, by simp [InR, IntKind.min, IntKind.max, IntKind.signed, IntKind.bits]; omega, rfl⟩
theorem c5k (w : World) (e : TypeId) (s : ByteArray) : Chg [] w (Lib.bytesWorld w e s) :=
 ⟨by simp [Lib.bytesWorld, World.freeze, World.alloc, World.drew, -World.alloc_eq, -World.drew_eq], by simp [Lib.bytesWorld, World.freeze, World.alloc, World.drew, -World.alloc_eq, -World.drew_eq],
  by simp [Lib.bytesWorld, World.freeze, World.alloc, World.drew, -World.alloc_eq, -World.drew_eq], by rw [Lib.bytesWorld_size]; omega, fun k hk _ => Lib.bytesWorld_at_old w e s k hk⟩
theorem b9i (bs : List UInt8) : (bs.flatMap fun b => [DV.int .u8 (b.toNat : Int)]).length = bs.length := by
 induction bs with
 | nil => rfl
 | cons b bs ih => rw [List.flatMap_cons, c9i, ih, List.length_cons]; simp; omega
theorem b7C (hT : TTOk P T) {s t e d k : Nat} {u : Unit} {J : List Nat} {v : ByteArray} (ho : o.op = .convert s t x) (hd : o.dst = some d) (hn : Nat.blt d nt = true) (hs : look T.st s = some u) (ht : look T.sl t = some e) (he : look T.it e = some .u8)
  (hx : Ev P C nt σ x (.one (.dv J (.str v)))) (hk : lkk σ k = none) :
  EfG P C nt o σ (fun σ' => σ' = { σ with ks := (k, some ⟨false, 1000005, 1, v.data.toList.length, v.data.toList.flatMap fun b : UInt8 => [DV.int .u8 (b.toNat : Int)]⟩) :: σ.ks }.put d (.one (.key k))) := EfG.mk fun L a w hr K Q hK => by
 have h1 := hx.run L a w hr
 simp only [SVr, CVr, Lay] at h1
 obtain ⟨h1, h2⟩ := h1
 have hchg := c5k w e v
 have hlen : v.data.toList.length = v.size := rfl
 have hrow : a6t (Lib.bytesWorld w e v) 1000005 1 (.slice (some ⟨w.heap.size, 0, none⟩) v.size (grownCap w v.size 0 e)) v.size (v.data.toList.map fun b => Value.int .u8 (b.toNat : Int)) := by
  refine ⟨fun h => absurd h (by decide), fun _ => ⟨by simp [hlen], .inr ⟨w.heap.size, _, Lib.bytesCells w e v, e, _, rfl, Lib.bytesWorld_at_new w e v, ?_, ?_, ?_, ?_⟩⟩⟩
  ·exact grownCap_ge w v.size 0 e
  ·exact grownCap_le_maxLen w v.size 0 e (by simpa [maxLen] using h2)
  ·simp [Lib.bytesCells]
  ·simp [Lib.bytesCells]
 have hb := hr.newkey' hchg (c := ⟨false, 1000005, 1, v.data.toList.length, v.data.toList.flatMap fun b : UInt8 => [DV.int .u8 (b.toNat : Int)]⟩) (v := .slice (some ⟨w.heap.size, 0, none⟩) v.size (grownCap w v.size 0 e)) (f := [w.heap.size]) hk
  (by unfold Own; exact ⟨_, [], rfl, Nat.one_pos, by rw [b9i, Nat.mul_one], hrow, b0u _ _⟩) rfl (by simp) (by simp)
 refine a4U (v := .slice (some ⟨w.heap.size, 0, none⟩) v.size (grownCap w v.size 0 e)) (w' := Lib.bytesWorld w e v) ?_ ?_
 ·unfold execOp
  simp only [ho, h1, Lib.run_convert_string_bytes w s t e v (hT.st s u hs) (hT.sl t e ht) (hT.it e _ he), Sem.run_bind, Result.andThen_ok, Sem.run_pure]
 ·refine hK { L with fp := fun j => if j = k then [w.heap.size] else L.fp j, rv := fun j => if j = k then .slice (some ⟨w.heap.size, 0, none⟩) v.size (grownCap w v.size 0 e) else L.rv j } _ _ _ rfl (by rw [hd]; exact hb.put (v := .one (.key k)) (by simpa [Nat.blt_eq] using hn) (by simp [SVr, CVr]) (by simp [SV.keys, CV.keys, lkk, a0W]) (by simp [SV.boxes])) ⟨hchg, fun i c hc => ?_, fun _ _ _ => rfl⟩
  have : i ≠ k := fun e => by rw [e, hk] at hc; cases hc
  simp [this]
theorem a2I (hT : TTOk P T) {t e' k n : Nat} {c : KC} (ho : o.op = .call { callee := .builtin .len, args := #[x], argTypes := #[t] }) (h : look T.sl t = some e') (hx : Ev P C nt σ x (.one (.key k))) (hk : lkk σ k = some c) (hn : c.n = n) : Pu P C nt o σ (.one (.dv [] (.int .i64 (n : Int)))) [] [] := by
 subst hn
 exact c2J hT ho h hx hk
theorem c5M (k : IntKind) : k.min ≤ 0 := by cases k <;> decide
theorem b3V {k : IntKind} {m z : Int} (h : InR k m) (h0 : 0 ≤ z) (h1 : z ≤ m) : InR k z := ⟨by have := c5M k; omega, by have := h.2; omega⟩
theorem b4X {t ty : TypeId} {K J : List Nat} {k : IntKind} {m n : Int} (ho : o.op = .binOp .rem t x y ty) (hx : Ev P C nt σ x (.one (.dv K (.int k m)))) (hy : Ev P C nt σ y (.one (.dv J (.int k n)))) (hm : 0 ≤ m) (hn : 0 < n) : Pu P C nt o σ (.one (.dv [] (.int k (m % n)))) [] [] := by
 have e : m.tmod n = m % n := Int.tmod_eq_emod_of_nonneg hm
 have hq : InR k m → InR k (m % n) := fun h1 => b3V h1 (Int.emod_nonneg m (show n ≠ 0 by omega)) (by
  rcases Int.lt_or_le m n with h | h
  ·rw [Int.emod_eq_of_lt hm h]; omega
  ·have := Int.emod_lt_of_pos m hn; omega)
 exact a4u ho hx hy fun h1 h2 => ⟨_, fun ok w => by unfold Lay; exact ⟨rfl, hq h1⟩, fun w => by simp [binOp, Op.intDiv, show n ≠ 0 by omega, e]⟩
theorem c4Y {t ty : TypeId} {K J : List Nat} {k : IntKind} {m n : Int} (ho : o.op = .binOp .quo t x y ty) (hx : Ev P C nt σ x (.one (.dv K (.int k m)))) (hy : Ev P C nt σ y (.one (.dv J (.int k n)))) (hm : 0 ≤ m) (hn : 0 < n) : Pu P C nt o σ (.one (.dv [] (.int k (m / n)))) [] [] := by
 have h := c3x ho hx hy (show n ≠ 0 by omega)
 have e : m.tdiv n = m / n := Int.tdiv_eq_ediv_of_nonneg hm
 rw [e] at h
 refine Pu.mk fun L a w hr => ?_
 have h1 := hx.run L a w hr
 simp only [SVr, CVr, Lay] at h1
 have h2 : InR k (m / n) := b3V h1.2 (Int.ediv_nonneg hm (show (0 : Int) ≤ n by omega)) (Int.ediv_le_self n hm)
 have := h.run L a w hr
 rwa [b1m h2] at this
theorem c7O {t ty : TypeId} {K J : List Nat} {k j : IntKind} {m n : Int} (ho : o.op = .binOp .shr t x y ty) (hx : Ev P C nt σ x (.one (.dv K (.int k m)))) (hy : Ev P C nt σ y (.one (.dv J (.int j n)))) (hm : 0 ≤ m) (hn : 0 ≤ n) (hn2 : n.toNat ≤ k.bits) : Pu P C nt o σ (.one (.dv [] (.int k (m / (2 ^ n.toNat : Nat))))) [] [] := Pu.mk fun L a w hr => by
 have h1 := hx.run L a w hr
 have h2 := hy.run L a w hr
 simp only [SVr, CVr, Lay] at h1 h2
 have hp : (0 : Int) < ((2 ^ n.toNat : Nat) : Int) := by have : 0 < 2 ^ n.toNat := Nat.two_pow_pos _; omega
 have e : m.fdiv (2 ^ n.toNat) = m / ((2 ^ n.toNat : Nat) : Int) := by
  have : ((2 ^ n.toNat : Nat) : Int) = (2 : Int) ^ n.toNat := by simp
  rw [← this, Int.fdiv_eq_ediv_of_nonneg _ (by omega)]
 have h3 : InR k (m / ((2 ^ n.toNat : Nat) : Int)) := b3V h1.2 (Int.ediv_nonneg hm (Int.le_of_lt hp)) (Int.ediv_le_self _ hm)
 refine ⟨.int k (m / ((2 ^ n.toNat : Nat) : Int)), by simp only [SVr, CVr, Lay]; exact ⟨trivial, h3⟩, fun w' _ => ?_⟩
 unfold execOp
 simp only [ho, h1.1, h2.1, Sem.run_bind]
 have hg : (eqGuard .shr t x y (.int k m) (.int j n)).run P w' = .ok () w' := by unfold eqGuard; rfl
 have hb : (binOp .shr t (.int k m) (.int j n)).run P w' = .ok (.int k (m / ((2 ^ n.toNat : Nat) : Int))) w' := by
  simp only [binOp, Op.shift]
  rw [if_neg (by omega), Nat.min_eq_left hn2, e]
  rfl
 simp only [hg, Result.andThen_ok, hb, Sem.run_pure]
theorem c3S {t ty : TypeId} {K J : List Nat} {k j : IntKind} {m n : Int} (ho : o.op = .binOp .shl t x y ty) (hx : Ev P C nt σ x (.one (.dv K (.int k m)))) (hy : Ev P C nt σ y (.one (.dv J (.int j n)))) (hn : 0 ≤ n) (hn2 : n.toNat ≤ k.bits) : Pu P C nt o σ (.one (.dv [] (.int k (k.wrap (m * (2 ^ n.toNat : Nat)))))) [] [] := Pu.mk fun L a w hr => by
 have h1 := hx.run L a w hr
 have h2 := hy.run L a w hr
 simp only [SVr, CVr, Lay] at h1 h2
 refine ⟨.int k (k.wrap (m * (2 ^ n.toNat : Nat))), by simp only [SVr, CVr, Lay]; exact ⟨trivial, a6w _ _⟩, fun w' _ => ?_⟩
 unfold execOp
 simp only [ho, h1.1, h2.1, Sem.run_bind]
 have hg : (eqGuard .shl t x y (.int k m) (.int j n)).run P w' = .ok () w' := by unfold eqGuard; rfl
 have hb : (binOp .shl t (.int k m) (.int j n)).run P w' = .ok (.int k (k.wrap (m * (2 ^ n.toNat : Nat)))) w' := by
  simp only [binOp, Op.shift]
  rw [if_neg (by omega), Nat.min_eq_left hn2]
  have : ((2 ^ n.toNat : Nat) : Int) = (2 : Int) ^ n.toNat := by simp
  rw [this]; rfl
 simp only [hg, Result.andThen_ok, hb, Sem.run_pure]
end
section
variable {P : Program} {C : Ctx} {nt : Nat} {o : Oper} {x y : Operand} {T : TT} {Q : Exit → St → Prop} {all : Array Oper} {rest : List Oper} {tm : List (Nat × SV)} {bx : List (Nat × TypeId × List CV)} {ks : List (Nat × Option KC)}
end
abbrev a1S := List (Nat × Nat × Nat × List CV)
def a3l : a1S → List (Nat × SV) → List (Nat × SV)
 | [], tm => tm
 | p :: B, tm => (p.2.1, .box p.2.1 0) :: a3l B tm
def a3d : a1S → List (Nat × TypeId × List CV) → List (Nat × TypeId × List CV)
 | [], bx => bx
 | p :: B, bx => (p.2.1, p.2.2.1, p.2.2.2) :: a3d B bx
@[reducible] def St.adds (σ : St) (B : a1S) : St := ⟨a3l B σ.tm, a3d B σ.bx, σ.ks⟩
def a2w (listed : Array Bool) : List Nat → Array Bool
 | [] => listed
 | j :: js => (a2w listed js).setIfInBounds j true
theorem b1Y (listed : Array Bool) : ∀ js, (a2w listed js).size = listed.size
 | [] => rfl
 | j :: js => by rw [a2w, Array.size_setIfInBounds, b1Y listed js]
theorem b2v (listed : Array Bool) (k : Nat) (hk : k < listed.size) : ∀ js, (a2w listed js)[k]? = some (listed[k] || js.contains k)
 | [] => by simp [a2w, Array.getElem?_eq_getElem hk]
 | j :: js => by
  have ih := b2v listed k hk js
  have e : a2w listed (j :: js) = (a2w listed js).setIfInBounds j true := rfl
  rw [e, Array.getElem?_setIfInBounds, ih, List.contains_cons, b1Y]
  by_cases h : j = k
  ·subst h; simp [hk]
  ·have h2 : (k == j) = false := by simpa using fun e => h e.symm
   rw [if_neg h, h2, Bool.false_or]
theorem c8R {listed : Array Bool} {js ks : List Nat} (h : ∀ k, js.contains k = ks.contains k) : a2w listed js = a2w listed ks := by
 apply Array.ext_getElem?
 intro k
 by_cases h1 : k < listed.size
 ·rw [b2v listed k h1, b2v listed k h1, h]
 ·rw [Array.getElem?_eq_none (by rw [b1Y]; omega), Array.getElem?_eq_none (by rw [b1Y]; omega)]
theorem a9o {listed : Array Bool} {i : Nat} : ∀ {js : List Nat}, i ∉ js → a2w (listed.setIfInBounds i true) js = (a2w listed js).setIfInBounds i true
 | [], _ => rfl
 | j :: js, h => by
  simp only [List.mem_cons, not_or] at h
  rw [a2w, a9o h.2, a2w, Array.setIfInBounds_comm _ _ h.1]
@[reducible] def nos (B : a1S) : List Nat := B.map fun p => p.1
section
variable {σ σ' : St}
theorem b3E {B : a1S} {tm : List (Nat × SV)} (j : Nat) : look (a3l B tm) j = if (B.map fun p => p.2.1).contains j then some (.box j 0) else look tm j := by
 induction B with
 | nil => simp [a3l]
 | cons p B ih =>
  simp only [a3l, a0W, List.map_cons, List.contains_cons, ih]
  by_cases h : j = p.2.1
  ·simp [h]
  ·have h2 : (j == p.2.1) = false := by simpa using h
   rw [if_neg h, h2, Bool.false_or]
def a5I : a1S → Nat → Option (TypeId × List CV)
 | [], _ => none
 | p :: B, j => if j = p.2.1 then some (p.2.2.1, p.2.2.2) else a5I B j
theorem b0U {B : a1S} {bx : List (Nat × TypeId × List CV)} (j : Nat) : look (a3d B bx) j = (a5I B j).or (look bx j) := by
 induction B with
 | nil => simp [a3d, a5I]
 | cons p B ih =>
  simp only [a3d, a0W, a5I, ih]
  split <;> simp
theorem b2h {B : a1S} {j : Nat} (h : ∀ p ∈ B, p.2.1 ≠ j) : a5I B j = none := by
 induction B with
 | nil => rfl
 | cons p B ih =>
  rw [a5I, if_neg (fun e => h p (by simp) e.symm)]
  exact ih fun q hq => h q (by simp [hq])
theorem b9x {B : a1S} (hn : (B.map fun p => p.2.1).Nodup) {p : Nat × Nat × Nat × List CV} (hp : p ∈ B) : a5I B p.2.1 = some (p.2.2.1, p.2.2.2) := by
 induction B with
 | nil => simp at hp
 | cons q B ih =>
  simp only [List.map_cons, List.nodup_cons] at hn
  rw [a5I]
  rcases List.mem_cons.1 hp with rfl | hp
  ·simp
  ·rw [if_neg (fun e => hn.1 (by rw [← e]; exact List.mem_map.2 ⟨p, hp, rfl⟩))]
   exact ih hn.2 hp
variable {P : Program} {C : Ctx} {nt : Nat} {L : Lyt} {a : Act} {w : World}
theorem Rel.sub' (h : Rel P C nt L σ' a w) (h1 : ∀ i v, look σ.tm i = some v → look σ'.tm i = some v) (h2 : ∀ i x, look σ.bx i = some x → look σ'.bx i = some x) (h3 : ∀ k c, lkk σ k = some c → lkk σ' k = some c) (h4 : σ.okB = true) : Rel P C nt L σ a w := by
 simp only [St.okB, Bool.and_eq_true, List.all_eq_true] at h4
 exact {
  df := h.df, sz := h.sz
  tm := fun i v hv => h.tm i v (h1 i v hv)
  bx := fun i t cs hx => h.bx i t cs (h2 i _ hx)
  ks := fun k c hc => h.ks k c (h3 k c hc)
  b1 := fun i x hx => h.b1 i x (h2 i _ hx)
  k1 := fun k c hc => h.k1 k c (h3 k c hc)
  kn := fun k c hc => h.kn k c (h3 k c hc)
  bb := fun i j x y hx hy => h.bb i j x y (h2 i _ hx) (h2 j _ hy)
  bk := fun i k x c hx hc => h.bk i k x c (h2 i _ hx) (h3 k c hc)
  kk := fun k j c d hc hd => h.kk k j c d (h3 k c hc) (h3 j d hd)
  lk := h4.1, lb := h4.2
  s0 := h.s0, chg := h.chg }
structure VOk (P : Program) (all : Array Oper) (nt : Nat) (A : a1S) (σ : St) : Prop where
 op : ∀ p ∈ A, ∃ o, all[p.1]? = some o ∧ o.guard = none ∧ o.dst = some p.2.1 ∧ o.op = .alloc p.2.2.1
 ty : ∀ p ∈ A, ∃ T sz by_, TTOk P T ∧ look T.el p.2.2.1 = some (sz, by_, p.2.2.2)
 lt : ∀ p ∈ A, p.2.1 < nt
 zk : ∀ p ∈ A, p.2.2.2.flatMap CV.keys = []
 bn : ∀ p ∈ A, look σ.bx p.2.1 = none
 tn : ∀ p ∈ A, look σ.tm p.2.1 = none
 nd : (A.map fun p => p.2.1).Nodup
 ni : (nos A).Nodup
 ok : σ.okB = true
theorem VOk.okA {all : Array Oper} {A : a1S} (h : VOk P all nt A σ) {B : a1S} (hB : ∀ p ∈ B, p ∈ A) : (σ.adds B).okB = true := by
 have h0 := h.ok
 simp only [St.okB, Bool.and_eq_true, List.all_eq_true] at h0 ⊢
 have hbx : ∀ b, (look σ.bx b).isSome = true → (look (a3d B σ.bx) b).isSome = true := fun b hb => by
  rw [b0U]; cases a5I B b <;> simp [hb]
 have hin : ∀ {B : a1S} (hB : ∀ p ∈ B, p ∈ A), ∀ p ∈ B, (look (a3d B σ.bx) p.2.1).isSome = true := by
  intro B
  induction B with
  | nil => intro _ p hp; simp at hp
  | cons q B ih =>
   intro hB p hp
   simp only [a3d, a0W]
   split
   ·rfl
   ·rcases List.mem_cons.1 hp with rfl | hp
    ·rename_i e; exact absurd rfl e
    ·exact ih (fun r hr => hB r (by simp [hr])) p hp
 constructor
 ·intro k hk
  refine h0.1 k ?_
  simp only [St.tk, List.mem_append] at hk ⊢
  have key : ∀ {B : a1S}, (∀ p ∈ B, p ∈ A) → (k ∈ (a3l B σ.tm).flatMap (fun p => p.2.keys) → k ∈ σ.tm.flatMap fun p => p.2.keys) ∧ (k ∈ (a3d B σ.bx).flatMap (fun p => p.2.2.flatMap CV.keys) → k ∈ σ.bx.flatMap fun p => p.2.2.flatMap CV.keys) := by
   intro B
   induction B with
   | nil => intro _; exact ⟨id, id⟩
   | cons p B ih =>
    intro hB
    obtain ⟨i1, i2⟩ := ih fun q hq => hB q (by simp [hq])
    refine ⟨fun hm => i1 ?_, fun hm => i2 ?_⟩
    ·simpa [a3l, SV.keys] using hm
    ·simpa [a3d, h.zk p (hB p (by simp))] using hm
  rcases hk with hk | hk
  ·exact .inl ((key hB).1 hk)
  ·exact .inr ((key hB).2 hk)
 ·intro b hb
  have key : ∀ {B : a1S}, b ∈ (a3l B σ.tm).flatMap (fun p => p.2.boxes) → b ∈ σ.tm.flatMap (fun p => p.2.boxes) ∨ ∃ p ∈ B, b = p.2.1 := by
   intro B
   induction B with
   | nil => intro hm; exact .inl hm
   | cons p B ih =>
    intro hm
    simp only [a3l, List.flatMap_cons, SV.boxes, List.mem_append, List.mem_singleton] at hm
    rcases hm with hm | hm
    ·exact .inr ⟨p, by simp, hm⟩
    ·rcases ih hm with hm | ⟨q, hq, e⟩
     ·exact .inl hm
     ·exact .inr ⟨q, by simp [hq], e⟩
  rcases key hb with hb | ⟨p, hp, rfl⟩
  ·exact hbx b (h0.2 b hb)
  ·exact hin hB p hp
theorem VOk.tmE {all : Array Oper} {A : a1S} (h : VOk P all nt A σ) {B : a1S} (hB : ∀ p ∈ B, p ∈ A) (i : Nat) (v : SV) (hv : look σ.tm i = some v) : look (σ.adds B).tm i = some v := by
 rw [b3E, if_neg]
 ·exact hv
 ·simp only [List.contains_iff_mem, List.mem_map, not_exists, not_and]
  intro p hp e
  rw [← e, h.tn p (hB p hp)] at hv
  cases hv
theorem VOk.bxE {all : Array Oper} {A : a1S} (h : VOk P all nt A σ) {B : a1S} (hB : ∀ p ∈ B, p ∈ A) (i : Nat) (x : TypeId × List CV) (hv : look σ.bx i = some x) : look (σ.adds B).bx i = some x := by
 rw [b0U, b2h, Option.none_or]
 ·exact hv
 ·intro p hp e
  rw [← e, h.bn p (hB p hp)] at hv
  cases hv
theorem VOk.drop {all : Array Oper} {A : a1S} (h : VOk P all nt A σ) {B : a1S} (hB : ∀ p ∈ B, p ∈ A) (hr : Rel P C nt L (σ.adds B) a w) : Rel P C nt L σ a w :=
 hr.sub' (h.tmE hB) (h.bxE hB) (fun k c hc => hc) h.ok
/-! ### what holds of a state holds of a greater one -/
structure Ext (P : Program) (C : Ctx) (nt : Nat) (σ σ' : St) : Prop where
 rel : ∀ L a w, Rel P C nt L σ' a w → Rel P C nt L σ a w
 bx : ∀ i x, look σ.bx i = some x → look σ'.bx i = some x
 ks : σ'.ks = σ.ks
theorem VOk.ext {all : Array Oper} {A : a1S} (h : VOk P all nt A σ) {B : a1S} (hB : ∀ p ∈ B, p ∈ A) : Ext P C nt σ (σ.adds B) := ⟨fun _ _ _ hr => h.drop hB hr, h.bxE hB, rfl⟩
theorem Ext.lkk (h : Ext P C nt σ σ') (k : Nat) : lkk σ' k = Go.Proofs.YtkhldpbfkagdhaaGreat.lkk σ k := by simp only [Go.Proofs.YtkhldpbfkagdhaaGreat.lkk, h.ks]
theorem Ext.ev (h : Ext P C nt σ σ') {x : Operand} {v : SV} (hx : Ev P C nt σ x v) : Ev P C nt σ' x v := Ev.mk fun L a w hr => hx.run L a w (h.rel L a w hr)
theorem Ext.pu (h : Ext P C nt σ σ') {o : Oper} {v : SV} {Ks Bs : List Nat} (hx : Pu P C nt o σ v Ks Bs) : Pu P C nt o σ' v Ks Bs := Pu.mk fun L a w hr => hx.run L a w (h.rel L a w hr)
theorem Ext.argC (h : Ext P C nt σ σ') {c u : CV} (hx : a1V σ c u) : a1V σ' c u := by
 cases c with
 | key k => simp only [a1V, h.lkk] at hx ⊢; exact hx
 | dv K d => exact hx
 | nest k o d => exact hx
 | arg i d => exact hx
 | nil => exact hx
 | any => exact hx
theorem Ext.argCs (h : Ext P C nt σ σ') : ∀ {cs us : List CV}, a4P σ cs us → a4P σ' cs us
 | [], _, hx => hx
 | c :: cs, _, ⟨u, us', e, h1, h2⟩ => ⟨u, us', e, h.argC h1, h.argCs h2⟩
theorem Ext.cloB (h : Ext P C nt σ σ') : ∀ {bs : List Nat} {dss : List (List DV)}, a4i σ bs dss → a4i σ' bs dss
 | [], _, hx => hx
 | b :: bs, _, ⟨ds, dss', t, e, h1, h2⟩ => ⟨ds, dss', t, e, h.bx b _ h1, h.cloB h2⟩
theorem Ext.argS (h : Ext P C nt σ σ') {v u : SV} (hx : a3i σ v u) : a3i σ' v u := by
 cases v with
 | one c => obtain ⟨c', h1, e⟩ := hx; exact ⟨c', h.argC h1, e⟩
 | agg cs => obtain ⟨c', h1, e⟩ := hx; exact ⟨c', h.argCs h1, e⟩
 | ref K ds => exact hx
 | fn f caps => exact hx
 | clo f bs => obtain ⟨caps, h1, e⟩ := hx; exact ⟨caps, h.cloB h1, e⟩
 | _ => exact hx
theorem Ext.args (h : Ext P C nt σ σ') : ∀ {xs : List Operand} {us : List SV}, a2b P C nt σ xs us → a2b P C nt σ' xs us
 | [], _, hx => hx
 | x :: xs, _, ⟨v, u, us', e, h1, h2, h3⟩ => ⟨v, u, us', e, h.ev h1, h.argS h2, h.args h3⟩
end
/-! ### the judgement -/
structure OpsA (P : Program) (C : Ctx) (nt : Nat) (Q : Exit → St → Prop) (all : Array Oper) (oB oK : List Nat) (hd : Nat → Bool) (A : a1S) (listed : Array Bool) (fuel : Nat) (σ : St) : Prop where
 run : ∀ m : Nat → Bool, ∀ wb L a w, Rel P C nt L (σ.adds (A.filter fun p => m p.1)) a w → SW wb w → C.w0.heap.size ≤ wb.heap.size → (∀ i ∈ oB, L.bb i < wb.heap.size) → (∀ k ∈ oK, ∀ b ∈ L.fp k, b < wb.heap.size) →
  a2m P .any all (QQ P C nt Q) (SW wb) hd (fuel + (A.filter fun p => !m p.1).length) (a2w listed (nos (A.filter fun p => m p.1))) a w
section
variable {P : Program} {C : Ctx} {nt : Nat} {Q : Exit → St → Prop} {all : Array Oper} {oB oK : List Nat} {hd' : Nat → Bool} {A : a1S} {listed : Array Bool} {fuel : Nat} {o : Oper} {d : Nat} {v X : SV} {Ks Bs : List Nat} {g : Bool} {σ σ₁ : St}
def a5n {α : Type} : List α → List (List α)
 | [] => [[]]
 | x :: xs => (a5n xs).map (x :: ·) ++ a5n xs
theorem b5x {α : Type} (m : α → Bool) : ∀ l : List α, l.filter m ∈ a5n l
 | [] => by simp [a5n]
 | x :: xs => by
  have ih := b5x m xs
  rw [List.filter_cons, a5n]
  split
  ·exact List.mem_append.2 (.inl (List.mem_map.2 ⟨_, ih, rfl⟩))
  ·exact List.mem_append.2 (.inr ih)
def b1X (all : Array Oper) (listed : Array Bool) (A : a1S) (i : Nat) : Bool := (a5n A).all fun B =>
 (Region.ready .any all (a2w listed (nos B))).contains i && (Region.ready .any all (a2w listed (nos B))).all fun j => j == i || ((nos A).contains j && !(nos B).contains j)
def b8S (all : Array Oper) (listed : Array Bool) (A : a1S) : Bool := (a5n A).all fun B =>
 B.length == A.length || (!(Region.ready .any all (a2w listed (nos B))).isEmpty && (Region.ready .any all (a2w listed (nos B))).all fun j => (nos A).contains j && !(nos B).contains j)
def c6s (hd : Nat → Bool) (all : Array Oper) (listed : Array Bool) (A : a1S) (i : Nat) : Bool := (a5n A).all fun B => a4G .any all hd (a2w listed (nos B)) i
def c4M (hd : Nat → Bool) (all : Array Oper) (listed : Array Bool) (A : a1S) (i : Nat) : Bool := (a5n A).all fun B => a7W .any all hd (a2w listed (nos B)) i
theorem a9b (m : Nat → Bool) : A.filter (fun p => m p.1) ∈ a5n A := b5x _ A
theorem b4e {m : Nat → Bool} {j : Nat} (hA : (nos A).contains j = true) (h : (nos (A.filter fun p => m p.1)).contains j = false) : m j = false := by
 simp only [List.contains_iff_mem, List.mem_map] at hA
 obtain ⟨p, hp, rfl⟩ := hA
 cases hm : m p.1 with
 | false => rfl
 | true =>
  have : (nos (A.filter fun p => m p.1)).contains p.1 = true := by
   simp only [List.contains_iff_mem, List.mem_map]
   exact ⟨p, List.mem_filter.2 ⟨hp, hm⟩, rfl⟩
  rw [this] at h; cases h
theorem b2q : ∀ {A : a1S} {m : Nat → Bool} {j : Nat}, (nos A).Nodup → j ∈ nos A → m j = false → (A.filter fun p => !m p.1).length = (A.filter fun p => !(m p.1 || p.1 == j)).length + 1
 | [], _, _, _, h, _ => by simp at h
 | p :: A, m, j, hn, h, hm => by
  simp only [List.map_cons, List.nodup_cons] at hn
  simp only [List.map_cons, List.mem_cons] at h
  by_cases e : p.1 = j
  ·subst e
   have h1 : (A.filter fun q => !m q.1) = A.filter fun q => !(m q.1 || q.1 == p.1) := by
    apply List.filter_congr
    intro q hq
    have : q.1 ≠ p.1 := fun e => hn.1 (by rw [← e]; exact List.mem_map.2 ⟨q, hq, rfl⟩)
    simp [this]
   rw [List.filter_cons, List.filter_cons, hm]
   simp [h1]
  ·have hj : j ∈ nos A := by
    rcases h with h | h
    ·exact absurd h.symm e
    ·exact h
   have ih := b2q hn.2 hj hm
   rw [List.filter_cons, List.filter_cons]
   have e2 : (p.1 == j) = false := by simpa using e
   rw [e2, Bool.or_false]
   split
   ·simp [ih]
   ·exact ih
theorem b6U {m : Nat → Bool} {j : Nat} (hj : j ∈ nos A) : a2w listed (nos (A.filter fun p => m p.1 || p.1 == j)) = (a2w listed (nos (A.filter fun p => m p.1))).setIfInBounds j true := by
 have : (a2w listed (nos (A.filter fun p => m p.1))).setIfInBounds j true = a2w listed (j :: nos (A.filter fun p => m p.1)) := rfl
 rw [this]
 apply c8R
 intro k
 rw [Bool.eq_iff_iff]
 simp only [List.contains_iff_mem, List.mem_map, List.mem_filter, List.mem_cons, Bool.or_eq_true, beq_iff_eq]
 constructor
 ·rintro ⟨p, ⟨hp, h⟩, rfl⟩
  rcases h with h | h
  ·exact .inr ⟨p, ⟨hp, h⟩, rfl⟩
  ·exact .inl h
 ·rintro (rfl | ⟨p, ⟨hp, h⟩, rfl⟩)
  ·obtain ⟨p, hp, rfl⟩ := List.mem_map.1 hj
   exact ⟨p, ⟨hp, .inr rfl⟩, rfl⟩
  ·exact ⟨p, ⟨hp, .inl h⟩, rfl⟩
theorem vfm {m : Nat → Bool} : ∀ p ∈ A.filter (fun p => m p.1), p ∈ A := fun p hp => (List.mem_filter.1 hp).1
theorem b8Z (h : VOk P all nt A σ) {m : Nat → Bool} {j : Nat} (hj : j ∈ nos A) (hm : m j = false) {L : Lyt} {a : Act} {w wb : World} (hr : Rel P C nt L (σ.adds (A.filter fun p => m p.1)) a w) (hs : SW wb w) (hB : ∀ i ∈ oB, L.bb i < wb.heap.size) (hK : ∀ k ∈ oK, ∀ b ∈ L.fp k, b < wb.heap.size)
  (hob : (oB.all fun i => (look σ.bx i).isSome) = true) (hok : (oK.all fun k => (lkk σ k).isSome) = true) (K : Act → World → Prop) (Q' : Exit → Act → World → Prop)
  (hk : ∀ L' a' w', Rel P C nt L' (σ.adds (A.filter fun p => m p.1 || p.1 == j)) a' w' → SW wb w' → (∀ i ∈ oB, L'.bb i < wb.heap.size) → (∀ k ∈ oK, ∀ b ∈ L'.fp k, b < wb.heap.size) → K a' w') : ∃ oj, all[j]? = some oj ∧ oj.guard = none ∧ oj.wp P a w K Q' := by
 obtain ⟨p, hp, rfl⟩ := List.mem_map.1 hj
 obtain ⟨oj, h1, h2, h3, h4⟩ := h.op p hp
 obtain ⟨T, sz, by_, hT, ht⟩ := h.ty p hp
 refine ⟨oj, h1, h2, ?_⟩
 have hout : ∀ q ∈ A.filter (fun p => m p.1), q.2.1 ≠ p.2.1 := fun q hq e => by
  obtain ⟨hq1, hq2⟩ := List.mem_filter.1 hq
  have : q = p := by
   have key : ∀ {l : a1S}, (l.map fun p => p.2.1).Nodup → q ∈ l → p ∈ l → q = p := by
    intro l
    induction l with
    | nil => intro _ h; simp at h
    | cons x l ih =>
     intro hn h1 h2
     simp only [List.map_cons, List.nodup_cons] at hn
     rcases List.mem_cons.1 h1 with e1 | e1 <;> rcases List.mem_cons.1 h2 with e2 | e2
     ·rw [e1, e2]
     ·exact absurd (List.mem_map.2 ⟨p, e2, by rw [← e, e1]⟩ : x.2.1 ∈ l.map fun p => p.2.1) hn.1
     ·exact absurd (List.mem_map.2 ⟨q, e1, by rw [e, e2]⟩ : x.2.1 ∈ l.map fun p => p.2.1) hn.1
     ·exact ih hn.2 e1 e2
   exact key h.nd hq1 hp
  subst this
  rw [hm] at hq2; cases hq2
 have hbn : look (σ.adds (A.filter fun p => m p.1)).bx p.2.1 = none := by
  rw [b0U, b2h hout, Option.none_or]; exact h.bn p hp
 have hef := b4y (P := P) (C := C) (nt := nt) (σ := σ.adds (A.filter fun p => m p.1)) hT h4 h3 (by simpa [Nat.blt_eq] using h.lt p hp) ht hbn
 refine hef.run L a w hr K Q' fun L' σ' a' w' e h5 h6 => hk L' a' w' ?_ (hs.chg h6.chg) (fun i hi => ?_) (fun k hk' => ?_)
 ·subst e
  have hmm : ∀ q ∈ A.filter (fun q => m q.1 || q.1 == p.1), q ∈ A.filter (fun q => m q.1) ∨ q = p := fun q hq => by
   obtain ⟨hq1, hq2⟩ := List.mem_filter.1 hq
   simp only [Bool.or_eq_true, beq_iff_eq] at hq2
   rcases hq2 with hq2 | hq2
   ·exact .inl (List.mem_filter.2 ⟨hq1, hq2⟩)
   ·right
    have key : ∀ {l : a1S}, (nos l).Nodup → q ∈ l → p ∈ l → q = p := by
     intro l
     induction l with
     | nil => intro _ h; simp at h
     | cons x l ih =>
      intro hn h1 h2
      simp only [List.map_cons, List.nodup_cons] at hn
      rcases List.mem_cons.1 h1 with e1 | e1 <;> rcases List.mem_cons.1 h2 with e2 | e2
      ·rw [e1, e2]
      ·exact absurd (List.mem_map.2 ⟨p, e2, by rw [← hq2, e1]⟩ : x.1 ∈ nos l) hn.1
      ·exact absurd (List.mem_map.2 ⟨q, e1, by rw [hq2, e2]⟩ : x.1 ∈ nos l) hn.1
      ·exact ih hn.2 e1 e2
    exact key h.ni hq1 hp
  refine h5.sub' (fun i u hu => ?_) (fun i x hx => ?_) (fun k c hc => hc) (h.okA fun p hp => (List.mem_filter.1 hp).1)
  ·simp only [St.put, a0W]
   rw [b3E] at hu ⊢
   split at hu
   ·rename_i hc
    simp only [List.contains_iff_mem, List.mem_map] at hc
    obtain ⟨q, hq, rfl⟩ := hc
    rcases hmm q hq with hq | rfl
    ·rw [if_neg (hout q hq), if_pos (by simp only [List.contains_iff_mem, List.mem_map]; exact ⟨q, hq, rfl⟩)]
     exact hu
    ·rw [if_pos rfl]; exact hu
   ·rename_i hc
    split
    ·rename_i e; rw [e, h.tn p hp] at hu; cases hu
    ·split
     ·rename_i h7
      exfalso
      apply hc
      simp only [List.contains_iff_mem, List.mem_map] at h7 ⊢
      obtain ⟨q, hq, e⟩ := h7
      obtain ⟨hq1, hq2⟩ := List.mem_filter.1 hq
      exact ⟨q, List.mem_filter.2 ⟨hq1, by simp [hq2]⟩, e⟩
     ·exact hu
  ·simp only [St.put, a0W]
   rw [b0U] at hx ⊢
   have hnd' : ((A.filter fun q => m q.1 || q.1 == p.1).map fun p => p.2.1).Nodup := (List.Sublist.map _ List.filter_sublist).nodup h.nd
   have hnd2 : ((A.filter fun q => m q.1).map fun p => p.2.1).Nodup := (List.Sublist.map _ List.filter_sublist).nodup h.nd
   by_cases hq : ∃ q ∈ A.filter (fun q => m q.1 || q.1 == p.1), q.2.1 = i
   ·obtain ⟨q, hq, rfl⟩ := hq
    rw [b9x hnd' hq, Option.some_or] at hx
    rcases hmm q hq with hq | rfl
    ·rw [if_neg (hout q hq), b9x hnd2 hq, Option.some_or]; exact hx
    ·rw [if_pos rfl]; exact hx
   ·rw [b2h (fun q hq' e => hq ⟨q, hq', e⟩), Option.none_or] at hx
    split
    ·rename_i e; rw [e, h.bn p hp] at hx; cases hx
    ·rw [b2h (fun q hq' e => hq ⟨q, List.mem_filter.2 ⟨(List.mem_filter.1 hq').1, by simp [(List.mem_filter.1 hq').2]⟩, e⟩), Option.none_or]
     exact hx
 ·obtain ⟨x, hx⟩ := c9h.1 (List.all_eq_true.1 hob i hi)
  rw [h6.box i x (h.bxE vfm i x hx)]; exact hB i hi
 ·obtain ⟨c, hc⟩ := c9h.1 (List.all_eq_true.1 hok k hk')
  rw [h6.key k c hc]; exact hK k hk'
theorem b0L {ops : Array Oper} {Q' : Exit → Act → World → Prop} {i : Nat} {oi : Oper} {K : Act → World → Prop} {a : Act} {w : World} (hi : ops[i]? = some oi) (hg : oi.guard = none) (h : oi.wp P a w K Q') : wpOp P ops Q' i K a w := by
 unfold wpOp
 simp only [hi]
 have hw : Region.wanted oi (yielded ops a.tmps) = true := by simp [Region.wanted, hg]
 rw [if_pos hw]
 exact .inl h
theorem c5R (A : a1S) (h : OpsA P C nt Q all oB oK hd' A listed fuel σ) : OpsD P C nt Q all oB oK hd' listed (fuel + A.length) σ := ⟨fun wb L a w hr hs hw hB hK => by
 have e1 : A.filter (fun p => (fun _ : Nat => false) p.1) = [] := by rw [List.filter_eq_nil_iff]; simp
 have e2 : A.filter (fun p => !(fun _ : Nat => false) p.1) = A := by rw [List.filter_eq_self]; simp
 have := h.run (fun _ => false) wb L a w (by rw [e1]; exact hr) hs hw hB hK
 rw [e1, e2] at this
 exact this⟩
theorem c4b (hv : VOk P all nt A σ) (hob : (oB.all fun i => (look σ.bx i).isSome) = true) (hok : (oK.all fun k => (lkk σ k).isSome) = true) (hr0 : b8S all listed A = true) (h : OpsD P C nt Q all oB oK hd' (a2w listed (nos A)) fuel (σ.adds A)) : OpsA P C nt Q all oB oK hd' A listed fuel σ := by
 refine ⟨fun m => ?_⟩
 obtain ⟨n, hn⟩ : ∃ n, n = (A.filter fun p => !m p.1).length := ⟨_, rfl⟩
 induction n generalizing m with
 | zero =>
  intro wb L a w hr hs hw hB hK
  have hall : A.filter (fun p => m p.1) = A := by
   rw [List.filter_eq_self]
   intro p hp
   cases hm : m p.1 with
   | true => rfl
   | false =>
    have : p ∈ A.filter fun p => !m p.1 := List.mem_filter.2 ⟨hp, by simp [hm]⟩
    rw [List.eq_nil_of_length_eq_zero hn.symm] at this
    simp at this
  rw [← hn, hall]
  rw [hall] at hr
  exact h.run wb L a w hr hs hw hB hK
 | succ n ih =>
  intro wb L a w hr hs hw hB hK
  have h1 := List.all_eq_true.1 hr0 _ (a9b m)
  rw [← hn]
  simp only [Bool.or_eq_true, beq_iff_eq, Bool.and_eq_true, Bool.not_eq_true', List.all_eq_true] at h1
  rcases h1 with h1 | ⟨h1, h2⟩
  ·exfalso
   have : A.filter (fun p => m p.1) = A := List.Sublist.eq_of_length List.filter_sublist h1
   rw [List.filter_eq_self] at this
   have h3 : (A.filter fun p => !m p.1) = [] := by rw [List.filter_eq_nil_iff]; intro p hp; simp [this p hp]
   rw [h3] at hn; simp at hn
  ·refine ⟨fun e => (by rw [e] at h1; simp at h1), fun j hj => ?_⟩
   obtain ⟨g1, g2⟩ := h2 j hj
   have hjA : j ∈ nos A := by simpa using g1
   have hmj := b4e g1 g2
   have hlen := b2q hv.ni hjA hmj
   obtain ⟨oj, k1, k2, k3⟩ := b8Z (Q' := QQ P C nt Q) (K := fun a' w' => (hd' j = true → SW wb w') ∧ a2m P .any all (QQ P C nt Q) (SW wb) hd' (fuel + n) ((a2w listed (nos (A.filter fun p => m p.1))).setIfInBounds j true) a' w') hv hjA hmj hr hs hB hK hob hok
    (fun L' a' w' q1 q2 q3 q4 => ⟨fun _ => q2, by
     have := ih (fun i => m i || i == j) (by omega) wb L' a' w' q1 q2 hw q3 q4
     rw [b6U hjA] at this
     rw [show n = (A.filter fun p => !(m p.1 || p.1 == j)).length by omega]
     exact this⟩)
   exact b0L k1 k2 k3
theorem b2S (i : Nat) (hi : all[i]? = some o) (hg : o.guard = none) (hv : VOk P all nt A σ) (hiA : (nos A).contains i = false) (hob : (oB.all fun i => (look σ.bx i).isSome) = true) (hok : (oK.all fun k => (lkk σ k).isSome) = true) (hr0 : b1X all listed A i = true)
  (hp : ∀ B : a1S, (∀ p ∈ B, p ∈ A) → EfG P C nt o (σ.adds B) (fun σ' => σ' = σ₁.adds B ∨ ∀ L a w, Rel P C nt L σ' a w → Rel P C nt L (σ₁.adds B) a w)) (h : OpsA P C nt Q all oB oK hd' A (listed.setIfInBounds i true) fuel σ₁) : OpsA P C nt Q all oB oK hd' A listed (fuel + 1) σ := by
 refine ⟨fun m => ?_⟩
 obtain ⟨n, hn⟩ : ∃ n, n = (A.filter fun p => !m p.1).length := ⟨_, rfl⟩
 induction n generalizing m with
 | zero =>
  intro wb L a w hr hs hw hB hK
  have h1 := List.all_eq_true.1 hr0 _ (a9b m)
  simp only [Bool.and_eq_true, List.all_eq_true, Bool.or_eq_true, beq_iff_eq, Bool.not_eq_true'] at h1
  rw [← hn]
  refine ⟨fun e => (by rw [e] at h1; simp at h1), fun j hj => ?_⟩
  rcases h1.2 j hj with rfl | ⟨g1, g2⟩
  ·refine b0L hi hg ((hp _ vfm).run L a w hr _ _ fun L' σ' a' w' e h5 h6 => ⟨fun _ => hs.chg h6.chg, ?_⟩)
   have h7 : Rel P C nt L' (σ₁.adds (A.filter fun p => m p.1)) a' w' := by
    rcases e with e | e
    ·rw [← e]; exact h5
    ·exact e _ _ _ h5
   have := h.run m wb L' a' w' h7 (hs.chg h6.chg) hw (fun i hi => by
    obtain ⟨x, hx⟩ := c9h.1 (List.all_eq_true.1 hob i hi)
    rw [h6.box i x (hv.bxE vfm i x hx)]; exact hB i hi) (fun k hk' => by
    obtain ⟨c, hc⟩ := c9h.1 (List.all_eq_true.1 hok k hk')
    rw [h6.key k c hc]; exact hK k hk')
   rw [← hn, a9o (fun hm => by
    obtain ⟨p, hp', e⟩ := List.mem_map.1 hm
    have : (nos A).contains j = true := by simp only [List.contains_iff_mem, List.mem_map]; exact ⟨p, vfm p hp', e⟩
    rw [this] at hiA; cases hiA)] at this
   exact this
  ·exfalso
   have hmj := b4e g1 g2
   obtain ⟨p, hp', rfl⟩ := List.mem_map.1 (by simpa using g1 : j ∈ nos A)
   have : p ∈ A.filter fun p => !m p.1 := List.mem_filter.2 ⟨hp', by simp [hmj]⟩
   rw [List.eq_nil_of_length_eq_zero hn.symm] at this
   simp at this
 | succ n ih =>
  intro wb L a w hr hs hw hB hK
  have h1 := List.all_eq_true.1 hr0 _ (a9b m)
  simp only [Bool.and_eq_true, List.all_eq_true, Bool.or_eq_true, beq_iff_eq, Bool.not_eq_true'] at h1
  rw [← hn]
  refine ⟨fun e => (by rw [e] at h1; simp at h1), fun j hj => ?_⟩
  rcases h1.2 j hj with rfl | ⟨g1, g2⟩
  ·refine b0L hi hg ((hp _ vfm).run L a w hr _ _ fun L' σ' a' w' e h5 h6 => ⟨fun _ => hs.chg h6.chg, ?_⟩)
   have h7 : Rel P C nt L' (σ₁.adds (A.filter fun p => m p.1)) a' w' := by
    rcases e with e | e
    ·rw [← e]; exact h5
    ·exact e _ _ _ h5
   have := h.run m wb L' a' w' h7 (hs.chg h6.chg) hw (fun i hi => by
    obtain ⟨x, hx⟩ := c9h.1 (List.all_eq_true.1 hob i hi)
    rw [h6.box i x (hv.bxE vfm i x hx)]; exact hB i hi) (fun k hk' => by
    obtain ⟨c, hc⟩ := c9h.1 (List.all_eq_true.1 hok k hk')
    rw [h6.key k c hc]; exact hK k hk')
   rw [← hn, a9o (fun hm => by
    obtain ⟨p, hp', e⟩ := List.mem_map.1 hm
    have : (nos A).contains j = true := by simp only [List.contains_iff_mem, List.mem_map]; exact ⟨p, vfm p hp', e⟩
    rw [this] at hiA; cases hiA)] at this
   rw [show fuel + (n + 1) = fuel + 1 + n by omega] at this
   exact this
  ·have hjA : j ∈ nos A := by simpa using g1
   have hmj := b4e g1 g2
   have hlen := b2q hv.ni hjA hmj
   obtain ⟨oj, k1, k2, k3⟩ := b8Z (Q' := QQ P C nt Q) (K := fun a' w' => (hd' j = true → SW wb w') ∧ a2m P .any all (QQ P C nt Q) (SW wb) hd' (fuel + 1 + n) ((a2w listed (nos (A.filter fun p => m p.1))).setIfInBounds j true) a' w') hv hjA hmj hr hs hB hK hob hok
    (fun L' a' w' q1 q2 q3 q4 => ⟨fun _ => q2, by
     have := ih (fun i => m i || i == j) (by omega) wb L' a' w' q1 q2 hw q3 q4
     rw [b6U hjA] at this
     rw [show n = (A.filter fun p => !(m p.1 || p.1 == j)).length by omega]
     exact this⟩)
   exact b0L k1 k2 k3
theorem VOk.perm {tm : List (Nat × SV)} {bx : List (Nat × TypeId × List CV)} {ks : List (Nat × Option KC)} (hv : VOk P all nt A ⟨(d, v) :: tm, bx, ks⟩) {B : a1S} (hB : ∀ p ∈ B, p ∈ A) {C : Ctx} {L : Lyt} {a : Act} {w : World} (hr : Rel P C nt L ⟨(d, v) :: a3l B tm, a3d B bx, ks⟩ a w) : Rel P C nt L (St.adds ⟨(d, v) :: tm, bx, ks⟩ B) a w :=
 hr.sub' (fun i u hu => by
  simp only [a0W]
  rw [b3E] at hu ⊢
  split at hu
  ·rename_i hc
   have hne : i ≠ d := by
    rintro rfl
    simp only [List.contains_iff_mem, List.mem_map] at hc
    obtain ⟨q, hq, rfl⟩ := hc
    have := hv.tn q (hB q hq)
    rw [a0W, if_pos rfl] at this
    cases this
   rw [if_neg hne, if_pos hc]; exact hu
  ·rename_i hc
   simp only [a0W] at hu
   split at hu
   ·rename_i e; rw [if_pos e]; exact hu
   ·rename_i e; rw [if_neg e, if_neg hc]; exact hu) (fun _ _ h => h) (fun _ _ h => h) (hv.okA hB)
def b6z (all : Array Oper) (nt : Nat) (A : a1S) (tms bxs : List Nat) : Bool :=
 (A.all fun p => (match all[p.1]? with
  | some o => o.guard.isNone && o.dst == some p.2.1 && (match o.op with | .alloc t => t == p.2.2.1 | _ => false)
  | none => false) && Nat.blt p.2.1 nt && !(tms.contains p.2.1) && !(bxs.contains p.2.1)) && a9M (A.map fun p => p.2.1) && a9M (nos A)
def a9S (T : TT) : a1S → Prop
 | [] => True
 | p :: A => (∃ sz by_, look T.el p.2.2.1 = some (sz, by_, p.2.2.2)) ∧ p.2.2.2.flatMap CV.keys = [] ∧ a9S T A
theorem a9S.mem {T : TT} : ∀ {A : a1S}, a9S T A → ∀ p ∈ A, (∃ sz by_, look T.el p.2.2.1 = some (sz, by_, p.2.2.2)) ∧ p.2.2.2.flatMap CV.keys = []
 | [], _, p, hp => by simp at hp
 | q :: A, h, p, hp => by
  rcases List.mem_cons.1 hp with rfl | hp
  ·exact ⟨h.1, h.2.1⟩
  ·exact h.2.2.mem p hp
theorem b5e {α : Type} : ∀ {l : List (Nat × α)} {j : Nat}, (l.map fun p => p.1).contains j = false → look l j = none
 | [], _, _ => by simp [look]
 | p :: l, j, h => by
  simp only [List.map_cons, List.contains_cons, Bool.or_eq_false_iff] at h
  obtain ⟨k, x⟩ := p
  rw [a0W, if_neg (by simpa using h.1)]
  exact b5e h.2
theorem vok {T : TT} (hT : TTOk P T) (ht : a9S T A) (hb : b6z all nt A (σ.tm.map fun p => p.1) (σ.bx.map fun p => p.1) = true) (ho : σ.okB = true) : VOk P all nt A σ := by
 simp only [b6z, Bool.and_eq_true, List.all_eq_true, Bool.not_eq_true'] at hb
 obtain ⟨⟨h1, h2⟩, h3⟩ := hb
 refine ⟨fun p hp => ?_, fun p hp => ?_, fun p hp => by have := (h1 p hp).1.1.2; simpa [Nat.blt_eq] using this, fun p hp => (ht.mem p hp).2, fun p hp => b5e (h1 p hp).2, fun p hp => b5e (h1 p hp).1.2, b2z h2, b2z h3, ho⟩
 ·have := (h1 p hp).1.1.1
  split at this
  ·rename_i oj hoj
   simp only [Bool.and_eq_true, beq_iff_eq, Option.isNone_iff_eq_none] at this
   refine ⟨oj, hoj, this.1.1, this.1.2, ?_⟩
   have h4 := this.2
   split at h4
   ·rename_i t e; rw [e]; rw [beq_iff_eq] at h4; rw [h4]
   ·cases h4
  ·cases this
 ·obtain ⟨⟨sz, by_, h⟩, _⟩ := ht.mem p hp
  exact ⟨T, sz, by_, hT, h⟩
/-! the steps, over states that are written out -/
section
variable {tm : List (Nat × SV)} {bx : List (Nat × TypeId × List CV)} {ks : List (Nat × Option KC)}
theorem a6c {T : TT} {A : a1S} (hT : TTOk P T) (ht : a9S T A) (h : OpsA P C nt Q all oB oK hd' A listed fuel ⟨tm, bx, ks⟩) : OpsD P C nt Q all oB oK hd' listed (fuel + A.length) ⟨tm, bx, ks⟩ := c5R A h
theorem a6h (hv : VOk P all nt A ⟨tm, bx, ks⟩) (hob : (oB.all fun i => (look bx i).isSome) = true) (hok : (oK.all fun k => (lkk ⟨tm, bx, ks⟩ k).isSome) = true) (hr0 : b8S all listed A = true) (h : OpsD P C nt Q all oB oK hd' (a2w listed (nos A)) fuel ⟨a3l A tm, a3d A bx, ks⟩) : OpsA P C nt Q all oB oK hd' A listed fuel ⟨tm, bx, ks⟩ := c4b hv hob hok hr0 h
theorem a5X (i : Nat) (hi : all[i]? = some o) (ht : c6s hd' all listed A i = true) (hiA : (nos A).contains i = false) (hg : o.guard = none) (hd : o.dst = some d) (hv : VOk P all nt A ⟨tm, bx, ks⟩) (hv1 : VOk P all nt A ⟨(d, v) :: tm, bx, ks⟩) (hp : Pu P C nt o ⟨tm, bx, ks⟩ v Ks Bs) (h1 : (Ks.all fun k => oK.contains k) = true) (h2 : (Bs.all fun k => oB.contains k) = true) (hn : Nat.blt d nt = true) (hk : a1p ⟨tm, bx, ks⟩ v = true)
  (h : OpsA P C nt Q all oB oK hd' A (listed.setIfInBounds i true) fuel ⟨(d, v) :: tm, bx, ks⟩) : OpsA P C nt Q all oB oK hd' A listed (fuel + 1) ⟨tm, bx, ks⟩ := ⟨fun m wb L a w hr hs hw hB hK => by
 have hx := hv.ext (C := C) (B := A.filter fun p => m p.1) vfm
 obtain ⟨r, h3, h4⟩ := b0O hr hs hw hB hK (hx.pu hp) h1 h2
 rw [show fuel + 1 + (A.filter fun p => !m p.1).length = fuel + (A.filter fun p => !m p.1).length + 1 by omega]
 refine a7a i (v := r) hi (List.all_eq_true.1 ht _ (a9b m)) (fun _ _ _ h => h) hs (.inl ⟨by simp [Region.wanted, hg], h4⟩) ?_
 rw [hd, ← a9o (fun hm => by
  obtain ⟨p, hp', e⟩ := List.mem_map.1 hm
  have : (nos A).contains i = true := by simp only [List.contains_iff_mem, List.mem_map]; exact ⟨p, vfm p hp', e⟩
  rw [this] at hiA; cases hiA)]
 refine h.run m wb L _ w (hv1.perm vfm ?_) hs hw hB hK
 refine hr.put (by simpa [Nat.blt_eq] using hn) h3 (a1R hk).1 fun b hb => ?_
 obtain ⟨x, hx'⟩ := c9h.1 ((a1R hk).2 b hb)
 rw [hx.bx b x hx']; rfl⟩
theorem a2D (i : Nat) (hi : all[i]? = some o) (ht : c4M hd' all listed A i = true) (hex : a7M o = true) (hiA : (nos A).contains i = false) (hg : o.guard = none) (hd : o.dst = some d) (hv : VOk P all nt A ⟨tm, bx, ks⟩) (hv1 : VOk P all nt A ⟨(d, v) :: tm, bx, ks⟩) (hp : Pu P C nt o ⟨tm, bx, ks⟩ v Ks Bs) (hn : Nat.blt d nt = true) (hk : a1p ⟨tm, bx, ks⟩ v = true)
  (h : OpsA P C nt Q all oB oK hd' A (listed.setIfInBounds i true) fuel ⟨(d, v) :: tm, bx, ks⟩) : OpsA P C nt Q all oB oK hd' A listed (fuel + 1) ⟨tm, bx, ks⟩ := ⟨fun m wb L a w hr hs hw hB hK => by
 have hx := hv.ext (C := C) (B := A.filter fun p => m p.1) vfm
 obtain ⟨r, h3, h4⟩ := (hx.pu hp).run L a w hr
 rw [show fuel + 1 + (A.filter fun p => !m p.1).length = fuel + (A.filter fun p => !m p.1).length + 1 by omega]
 refine b4G i (v := r) hi (List.all_eq_true.1 ht _ (a9b m)) (fun _ _ _ h => h) (.inl ⟨by simp [Region.wanted, hg], fun w' _ => b5c hex (h4 w fun _ _ _ => rfl) w'⟩) ?_
 rw [hd, ← a9o (fun hm => by
  obtain ⟨p, hp', e⟩ := List.mem_map.1 hm
  have : (nos A).contains i = true := by simp only [List.contains_iff_mem, List.mem_map]; exact ⟨p, vfm p hp', e⟩
  rw [this] at hiA; cases hiA)]
 refine h.run m wb L _ w (hv1.perm vfm ?_) hs hw hB hK
 refine hr.put (by simpa [Nat.blt_eq] using hn) h3 (a1R hk).1 fun b hb => ?_
 obtain ⟨x, hx'⟩ := c9h.1 ((a1R hk).2 b hb)
 rw [hx.bx b x hx']; rfl⟩
theorem a8T (m i : Nat) {f : FuncId} {xs : List Operand} {ats : Array TypeId} {us : List SV} {kk : List (Nat × Option KC)} (hi : all[i]? = some o) (ht : b1X all listed A i = true) (hiA : (nos A).contains i = false) (hg : o.guard = none) (hd : o.dst = some d) (hv : VOk P all nt A ⟨tm, bx, ks⟩) (hv1 : VOk P all nt A ⟨(d, v.sh m) :: tm, bx, shK m kk ++ ks⟩) (ho : o.op = .call { callee := .value (.func f), args := xs.toArray, argTypes := ats })
  (hc : ∀ (args : Array Value) (w : World), (callFunc f args).run P w = .ok (.enter f args) w) (hf : KFn P f us v kk) (ha : a2b P C nt ⟨tm, bx, ks⟩ xs us) (hn : Nat.blt d nt = true) (hres : v.retOk = true) (hfree : (kk.all fun q => (lkk ⟨tm, bx, ks⟩ (m + q.1)).isNone) = true)
  (hb : (oB.all fun i => (look bx i).isSome) = true) (hk : (oK.all fun k => (lkk ⟨tm, bx, ks⟩ k).isSome) = true)
  (h : OpsA P C nt Q all oB oK hd' A (listed.setIfInBounds i true) fuel ⟨(d, v.sh m) :: tm, bx, shK m kk ++ ks⟩) : OpsA P C nt Q all oB oK hd' A listed (fuel + 1) ⟨tm, bx, ks⟩ :=
 b2S i hi hg hv hiA hb hk ht (fun B hB => EfG.mk fun L a w hr K Q' hk' =>
  (a7c (σ := St.adds ⟨tm, bx, ks⟩ B) (ι := Unit) (v := fun _ => v) (kk := fun _ => kk) (p := fun _ => True) m ho hd hn hc hf.ok ((hv.ext hB).args ha) (fun u σ' h => ⟨(), h.1, h.2, trivial⟩) (fun _ => hres) (fun _ => hfree)).run L a w hr K Q' fun L' σ' a' w' h1 h2 h3 => hk' L' σ' a' w' (.inr (by
   obtain ⟨_, _, e⟩ := h1
   subst e
   exact fun L a w hr => hv1.perm hB hr)) h2 h3) h
theorem c0N (i : Nat) {f : FuncId} {xs : List Operand} {ats : Array TypeId} {us : List SV} (hi : all[i]? = some o) (ht : b1X all listed A i = true) (hiA : (nos A).contains i = false) (hg : o.guard = none) (hd : o.dst = some d) (hv : VOk P all nt A ⟨tm, bx, ks⟩) (hv1 : VOk P all nt A ⟨(d, X) :: tm, bx, ks⟩) (ho : o.op = .call { callee := .value (.func f), args := xs.toArray, argTypes := ats })
  (hc : ∀ (args : Array Value) (w : World), (callFunc f args).run P w = .ok (.enter f args) w) (hf : PFn P f us X) (ha : a2b P C nt ⟨tm, bx, ks⟩ xs us) (hp : X.plain = true) (hn : Nat.blt d nt = true)
  (hb : (oB.all fun i => (look bx i).isSome) = true) (hk : (oK.all fun k => (lkk ⟨tm, bx, ks⟩ k).isSome) = true)
  (h : OpsA P C nt Q all oB oK hd' A (listed.setIfInBounds i true) fuel ⟨(d, X) :: tm, bx, ks⟩) : OpsA P C nt Q all oB oK hd' A listed (fuel + 1) ⟨tm, bx, ks⟩ :=
 b2S i hi hg hv hiA hb hk ht (fun B hB => EfG.mk fun L a w hr K Q' hk' =>
  ((a7U ho hc hf hp ((hv.ext hB).args ha)).efg (σ := St.adds ⟨tm, bx, ks⟩ B) hd hn).run L a w hr K Q' fun L' σ' a' w' h1 h2 h3 => hk' L' σ' a' w' (.inr (by
   obtain ⟨u, hu, e⟩ := h1
   subst e
   subst hu
   exact fun L a w hr => hv1.perm hB hr)) h2 h3) h
end
end
open Go.Proofs
def a4v : TT where
 sl := [(22, 5), (24, 77), (25, 79), (30, 37), (33, 27), (34, 3), (37, 65), (61, 135), (67, 22), (75, 119), (129, 9)]
 ag := [(7, 4), (13, 2), (26, 4), (27, 4), (28, 6), (29, 6), (59, 3), (60, 3), (62, 1), (63, 1), (64, 7), (65, 7), (76, 3), (77, 3), (78, 2), (79, 2), (81, 3), (82, 3), (88, 3), (89, 3), (112, 4), (118, 4), (119, 4), (134, 2), (135, 2), (145, 8), (146, 8)]
 on := [(2, ()), (3, ()), (4, ()), (5, ()), (9, ()), (12, ()), (21, ()), (22, ()), (24, ()), (25, ()), (30, ()), (33, ()), (34, ()), (37, ()), (61, ()), (67, ()), (75, ()), (129, ()), (130, ()), (180, ())]
 of := [(7000, 0), (7001, 1), (7002, 2), (7003, 3), (13000, 0), (13001, 1), (26000, 0), (26001, 1), (26002, 2), (26003, 3), (27000, 0), (27001, 1), (27002, 2), (27003, 3), (28000, 0), (28001, 4), (28002, 5), (29000, 0), (29001, 4), (29002, 5), (59000, 0), (59001, 1), (59002, 2), (60000, 0), (60001, 1), (60002, 2), (62000, 0), (63000, 0), (64000, 0), (64001, 1), (64002, 2), (64003, 5), (64004, 6), (65000, 0), (65001, 1), (65002, 2), (65003, 5), (65004, 6), (76000, 0), (76001, 1), (76002, 2), (77000, 0), (77001, 1), (77002, 2), (78000, 0), (78001, 1), (79000, 0), (79001, 1), (81000, 0), (81001, 1), (81002, 2), (82000, 0), (82001, 1), (82002, 2), (88000, 0), (88001, 1), (88002, 2), (89000, 0), (89001, 1), (89002, 2), (118000, 0), (118001, 3), (119000, 0), (119001, 3), (134000, 0), (134001, 1), (135000, 0), (135001, 1), (145000, 0), (145001, 1), (145002, 2), (145003, 5), (146000, 0), (146001, 1), (146002, 2), (146003, 5)]
 el := [(2, (1, 8, [.dv [] (.int .i64 0)])), (3, (1, 8, [.dv [] (.int .i64 0)])), (4, (1, 1, [.dv [] (.bool false)])), (5, (1, 1, [.dv [] (.int .u8 0)])), (7, (4, 24, [.dv [] (.int .i64 0), .dv [] (.int .i64 0), .dv [] (.bool false), .dv [] (.int .u8 0)])), (9, (1, 16, [.dv [] (.str ByteArray.empty)])), (12, (1, 8, [.dv [] (.int .u64 0)])), (13, (2, 24, [.dv [] (.str ByteArray.empty), .dv [] (.int .u64 0)])), (21, (1, 4, [.dv [] (.int .i32 0)])), (22, (1, 24, [.nil])), (24, (1, 24, [.nil])), (25, (1, 24, [.nil])), (26, (4, 72, [.dv [] (.str ByteArray.empty), .dv [] (.int .i64 0), .nil, .nil])), (27, (4, 72, [.dv [] (.str ByteArray.empty), .dv [] (.int .i64 0), .nil, .nil])), (28, (6, 104, [.dv [] (.str ByteArray.empty), .dv [] (.int .i64 0), .nil, .nil, .nil, .dv [] (.int .i64 0)])), (29, (6, 104, [.dv [] (.str ByteArray.empty), .dv [] (.int .i64 0), .nil, .nil, .nil, .dv [] (.int .i64 0)])), (30, (1, 24, [.nil])), (33, (1, 24, [.nil])), (34, (1, 24, [.nil])), (37, (1, 24, [.nil])), (59, (3, 32, [.dv [] (.int .i64 0), .dv [] (.int .i64 0), .dv [] (.str ByteArray.empty)])), (60, (3, 32, [.dv [] (.int .i64 0), .dv [] (.int .i64 0), .dv [] (.str ByteArray.empty)])), (61, (1, 24, [.nil])), (62, (1, 24, [.nil])), (63, (1, 24, [.nil])), (64, (7, 96, [.dv [] (.int .i64 0), .dv [] (.str ByteArray.empty), .dv [] (.int .i64 0), .dv [] (.int .i64 0), .dv [] (.str ByteArray.empty), .nil, .dv [] (.str ByteArray.empty)])), (65, (7, 96, [.dv [] (.int .i64 0), .dv [] (.str ByteArray.empty), .dv [] (.int .i64 0), .dv [] (.int .i64 0), .dv [] (.str ByteArray.empty), .nil, .dv [] (.str ByteArray.empty)])), (67, (1, 24, [.nil])), (75, (1, 24, [.nil])), (76, (3, 48, [.dv [] (.str ByteArray.empty), .nil, .dv [] (.int .i64 0)])), (77, (3, 48, [.dv [] (.str ByteArray.empty), .nil, .dv [] (.int .i64 0)])), (78, (2, 32, [.dv [] (.str ByteArray.empty), .dv [] (.str ByteArray.empty)])), (79, (2, 32, [.dv [] (.str ByteArray.empty), .dv [] (.str ByteArray.empty)])), (81, (3, 40, [.nil, .dv [] (.int .i64 0), .dv [] (.int .i64 0)])), (82, (3, 40, [.nil, .dv [] (.int .i64 0), .dv [] (.int .i64 0)])), (88, (3, 40, [.dv [] (.int .i64 0), .dv [] (.str ByteArray.empty), .dv [] (.str ByteArray.empty)])), (89, (3, 40, [.dv [] (.int .i64 0), .dv [] (.str ByteArray.empty), .dv [] (.str ByteArray.empty)])), (112, (4, 96, [.nil, .nil, .nil, .nil])), (118, (4, 56, [.dv [] (.int .i64 0), .dv [] (.int .i64 0), .dv [] (.str ByteArray.empty), .nil])), (119, (4, 56, [.dv [] (.int .i64 0), .dv [] (.int .i64 0), .dv [] (.str ByteArray.empty), .nil])), (129, (1, 24, [.nil])), (130, (1, 8, [.dv [] (.int .u64 0)])), (134, (2, 24, [.dv [] (.str ByteArray.empty), .dv [] (.int .i64 0)])), (135, (2, 24, [.dv [] (.str ByteArray.empty), .dv [] (.int .i64 0)])), (145, (8, 72, [.dv [] (.bool false), .dv [] (.bool false), .dv [] (.int .i64 0), .dv [] (.int .i64 0), .dv [] (.str ByteArray.empty), .dv [] (.int .i64 0), .dv [] (.int .i64 0), .dv [] (.str ByteArray.empty)])), (146, (8, 72, [.dv [] (.bool false), .dv [] (.bool false), .dv [] (.int .i64 0), .dv [] (.int .i64 0), .dv [] (.str ByteArray.empty), .dv [] (.int .i64 0), .dv [] (.int .i64 0), .dv [] (.str ByteArray.empty)])), (180, (1, 4, [.dv [] (.int .u32 0)]))]
 st := [(9, ())]
 bo := [(4, ())]
 it := [(2, .i64), (3, .i64), (5, .u8), (12, .u64), (21, .i32), (130, .u64), (180, .u32)]
def c4u : List (Nat × List (Nat × Nat)) := [(7, [(0, 1), (1, 1), (2, 1), (3, 1)]), (13, [(0, 1), (1, 1)]), (26, [(0, 1), (1, 1), (2, 1), (3, 1)]), (27, [(0, 1), (1, 1), (2, 1), (3, 1)]), (28, [(0, 4), (4, 1), (5, 1)]), (29, [(0, 4), (4, 1), (5, 1)]), (59, [(0, 1), (1, 1), (2, 1)]), (60, [(0, 1), (1, 1), (2, 1)]), (62, [(0, 1)]), (63, [(0, 1)]), (64, [(0, 1), (1, 1), (2, 3), (5, 1), (6, 1)]), (65, [(0, 1), (1, 1), (2, 3), (5, 1), (6, 1)]), (76, [(0, 1), (1, 1), (2, 1)]), (77, [(0, 1), (1, 1), (2, 1)]), (78, [(0, 1), (1, 1)]), (79, [(0, 1), (1, 1)]), (81, [(0, 1), (1, 1), (2, 1)]), (82, [(0, 1), (1, 1), (2, 1)]), (88, [(0, 1), (1, 1), (2, 1)]), (89, [(0, 1), (1, 1), (2, 1)]), (118, [(0, 3), (3, 1)]), (119, [(0, 3), (3, 1)]), (134, [(0, 1), (1, 1)]), (135, [(0, 1), (1, 1)]), (145, [(0, 1), (1, 1), (2, 3), (5, 3)]), (146, [(0, 1), (1, 1), (2, 3), (5, 3)])]
theorem hT : TTOk Tryz.prog a4v := TT.ok (by kernel_rfl)
theorem hB : BOk Tryz.prog c4u := bOk (by kernel_rfl)
theorem b7r (a : Int) (b : Int) (s : ByteArray) (a' : Int) (b' : Int) (s' : ByteArray) (w : World) : (binOp .eql 60 (.agg [Value.int .i64 a, .int .i64 b, .string s].toArray) (.agg [Value.int .i64 a', .int .i64 b', .string s'].toArray)).run Tryz.prog w = .ok (.bool (((decide (a = a') && (decide (b = b') && sEq s s'))))) w := by
 rw [run_eql_struct]; simp [go_sem, sEq]; by_cases h_a : a = a' <;> by_cases h_b : b = b' <;> by_cases h_s : s.toList = s'.toList <;> simp [h_a, h_b, h_s]
theorem c2r (a : Int) (b : Int) (s : ByteArray) (a' : Int) (b' : Int) (s' : ByteArray) (w : World) : (binOp .neq 60 (.agg [Value.int .i64 a, .int .i64 b, .string s].toArray) (.agg [Value.int .i64 a', .int .i64 b', .string s'].toArray)).run Tryz.prog w = .ok (.bool (!((decide (a = a') && (decide (b = b') && sEq s s'))))) w := by
 rw [run_neq_struct]; simp [go_sem, sEq]; by_cases h_a : a = a' <;> by_cases h_b : b = b' <;> by_cases h_s : s.toList = s'.toList <;> simp [h_a, h_b, h_s]
theorem c4d (s : ByteArray) (a : Int) (s' : ByteArray) (a' : Int) (w : World) : (binOp .neq 135 (.agg [Value.string s, .int .i64 a].toArray) (.agg [Value.string s', .int .i64 a'].toArray)).run Tryz.prog w = .ok (.bool (!((sEq s s' && decide (a = a'))))) w := by
 rw [run_neq_struct]; simp [go_sem, sEq]; by_cases h_s : s.toList = s'.toList <;> by_cases h_a : a = a' <;> simp [h_s, h_a]
theorem b8C (s : ByteArray) (u : ByteArray) (s' : ByteArray) (u' : ByteArray) (w : World) : (binOp .eql 79 (.agg [Value.string s, .string u].toArray) (.agg [Value.string s', .string u'].toArray)).run Tryz.prog w = .ok (.bool (((sEq s s' && sEq u u')))) w := by
 rw [run_eql_struct]; simp [go_sem, sEq]; by_cases h_s : s.toList = s'.toList <;> by_cases h_u : u.toList = u'.toList <;> simp [h_s, h_u]
theorem c4I (s : ByteArray) (u : ByteArray) (s' : ByteArray) (u' : ByteArray) (w : World) : (binOp .neq 79 (.agg [Value.string s, .string u].toArray) (.agg [Value.string s', .string u'].toArray)).run Tryz.prog w = .ok (.bool (!((sEq s s' && sEq u u')))) w := by
 rw [run_neq_struct]; simp [go_sem, sEq]; by_cases h_s : s.toList = s'.toList <;> by_cases h_u : u.toList = u'.toList <;> simp [h_s, h_u]
@[reducible] def a1x (b : UInt8) : List DV := [.int .u8 (b.toNat : Int)]
@[reducible] def a3X (n : Int) : List DV := [.int .i64 n]
@[reducible] def c7s (s : Str) : List DV := [.str s]
@[reducible] def a0m (bs : List UInt8) : DV := a2M 5 1 a1x bs
@[reducible] def a5g (bs : List Int) : DV := a2M 3 1 a3X bs
@[reducible] def c8I (bs : List Str) : DV := a2M 9 1 c7s bs
@[reducible] def a1B (f : a4A) : List DV := [.str f.1, .int .i64 f.2]
@[reducible] def a0I (r : a0v) : DV := a2M 135 2 a1B r
@[reducible] def a0F (x : a0T) : List DV := [.int .i64 x.1.1, .int .i64 x.1.2.1, .str x.1.2.2, a0I x.2]
abbrev a3R := Bool × Bool × a0K × a0K
@[reducible] def a0w (xs : List a0T) : DV := a2M 119 4 a0F xs
@[reducible] def a1L (s : a0G) : List DV := [.str s.1, a0w s.2.1, .int .i64 s.2.2]
@[reducible] def a0x (xs : List a0G) : DV := a2M 77 3 a1L xs
@[reducible] def a2z (d : a3Q) : List DV := [.str d.1, .str d.2]
@[reducible] def a0z (xs : List a3Q) : DV := a2M 79 2 a2z xs
@[reducible] def eDb (d : DbT) : List DV := [.str d.1, .int .i64 d.2.1, a0x d.2.2.1, a0z d.2.2.2]
@[reducible] def eOp (o : OpT) : List DV := [.int .i64 o.1, .str o.2.1, .int .i64 o.2.2.1.1, .int .i64 o.2.2.1.2.1, .str o.2.2.1.2.2, a0I o.2.2.2.1, .str o.2.2.2.2]
@[reducible] def a2a (xs : List OpT) : DV := a2M 65 7 eOp xs
section
variable {P : Program}
theorem b7s {ok : Nat → Prop} {w : World} : ∀ {bs : List UInt8} {vs : List Value}, a1m ok w (bs.flatMap fun b => [DV.int .u8 (b.toNat : Int)]) vs → vs = bs.map fun b => Value.int .u8 (b.toNat : Int)
 | [], _, h => by simpa [a1m] using h
 | b :: bs, _, h => by
  simp only [List.flatMap_cons, List.singleton_append, a1m] at h
  obtain ⟨v, vs', rfl, h1, h2⟩ := h
  simp only [Lay] at h1
  rw [h1.1, b7s h2]; rfl
theorem b9z {w : World} {B : Nat} : ∀ bs : List UInt8, a2p (a4m.Rd w B) bs (bs.map fun b => Value.int .u8 (b.toNat : Int))
 | [] => rfl
 | b :: bs => ⟨[_], _, rfl, rfl, b9z bs⟩
theorem c4U {ok : Nat → Prop} {w : World} {e : Nat} {bs : List UInt8} {v : Value} (h : Lay ok w (.sl e 1 bs.length (bs.flatMap fun b => [DV.int .u8 (b.toNat : Int)])) v) : ∃ A c, v = .slice A bs.length c ∧ a2u.Rd w w.heap.size bs [.slice A bs.length c] := by
 simp only [Lay] at h
 obtain ⟨A, c, vs, rfl, h1, h2, h3, h4, h5, h6⟩ := h
 have hvs := b7s h5
 subst hvs
 refine ⟨A, c, rfl, A, c, _, rfl, h1, h2, b9z bs, fun hn => ?_⟩
 obtain ⟨b, off, e1, _, e3⟩ := h6 hn
 exact ⟨b, off, e1, a6k (e3 0 _ (by rw [List.getElem?_map, List.getElem?_eq_getElem hn]; rfl)), e3⟩
theorem b7g {α : Type} {w : World} {e : Nat} {C' : Cod α} {enc : α → List DV} (he : e < 1000000) (hl : ∀ x, (enc x).length = C'.size) (hx : ∀ x cs f, C'.Own w x cs f → a0Q w (enc x) cs f) {xs : List α} {v : Value} {fp : List Nat} (h : (a2T e C').Own w xs [v] fp) : Own w (.sl e C'.size xs.length (xs.flatMap enc)) v fp := by
 obtain ⟨u, cells, f, h1, h2, h3, h4⟩ := h
 simp only [List.cons.injEq, and_true] at h1
 subst h1
 have key : ∀ (xs : List α) (cs : List Value) (g : List Nat), a1n (C'.Own w) xs cs g → a0Q w (xs.flatMap enc) cs g := by
  intro xs
  induction xs with
  | nil => intro cs g h; obtain ⟨rfl, rfl⟩ := h; simp [a0Q]
  | cons x xs ih =>
   rintro cs g ⟨c1, c2, f1, f2, rfl, rfl, h1, h2⟩
   rw [List.flatMap_cons]
   exact a3n _ _ _ _ _ _ (hx _ _ _ h1) (ih _ _ h2)
 unfold Own
 exact ⟨_, _, h2, C'.pos, a9J hl xs, a3I he h3, key _ _ _ h4⟩
theorem b2d {w : World} {bs : List UInt8} {v : Value} {fp : List Nat} (h : a2u.Own w bs [v] fp) : Own w (.sl 5 1 bs.length (bs.flatMap fun b => [DV.int .u8 (b.toNat : Int)])) v fp :=
 b7g (C' := a4m) (by decide) (fun _ => rfl) (fun x cs f h => by
  obtain ⟨rfl, rfl⟩ := h
  have := b0u w [x]
  simpa using this) h
theorem b5z {C : Ctx} {nt : Nat} {L : Lyt} {σ : St} {a : Act} {w : World} (h : Rel P C nt L σ a w) (r : Value) : Rel P C 1 L ⟨[], [], []⟩ ⟨#[r], []⟩ w where
 df := rfl
 sz := rfl
 tm := fun i v hv => by cases hv
 bx := fun i t cs h => by cases h
 ks := fun k c h => by cases h
 b1 := fun i x h => by cases h
 k1 := fun k c h => by cases h
 kn := fun k c h => by cases h
 bb := fun i j x y h => by cases h
 bk := fun i k x c h => by cases h
 kk := fun k j c d h => by cases h
 lk := fun k hk => by simp [St.tk] at hk
 lb := fun b hb => by simp [St.tb] at hb
 s0 := h.s0
 chg := h.chg
theorem b7F {C : Ctx} {nt : Nat} {L : Lyt} {σ : St} {a : Act} {w w' : World} (h : Rel P C nt L σ a w) {e sz m : Nat} {cs : List DV} {v : Value} {fp : List Nat} (r : Value) (ho : Own w' (.sl e sz m cs) v fp) (hf : a3D w.heap.size fp) (hc : Chg [] w w') :
  ∃ L', L'.rv 0 = v ∧ Rel P C 1 L' ⟨[], [], [(0, some (KC.mk false e sz m cs))]⟩ ⟨#[r], []⟩ w' := by
 have h1 := (b5z h r).newkey' hc (k := 0) (c := KC.mk false e sz m cs) (v := v) (f := fp) rfl ho rfl hf.1 hf.2
 exact ⟨_, by simp, h1⟩
theorem c8F (us : List SV) {i : Nat} {v : SV} (h : us[i]? = some v) : look (a2j 0 us) i = some v := by
 have key : ∀ (l : List SV) (j i : Nat), l[i]? = some v → look (a2j j l) (j + i) = some v := by
  intro l
  induction l with
  | nil => intro j i h; simp at h
  | cons u l ih =>
   intro j i h
   simp only [a2j, a0W]
   cases i with
   | zero => simpa using h
   | succ i =>
    rw [if_neg (by omega), show j + (i + 1) = j + 1 + i by omega]
    exact ih (j + 1) i (by simpa using h)
 simpa using key us 0 i h
@[reducible] def a8F (P : Program) (us : List SV) (w : World) (vals : List Value) : Prop := ∃ (C : Ctx) (L : Lyt), ∀ (i : Nat) (v : SV), us[i]? = some v → ∃ x, vals[i]? = some x ∧ SVr P C L w v x
theorem b2A {C : Ctx} {L : Lyt} {w : World} {us : List SV} {vals : List Value} (hl : vals.length = us.length) {bx : List (Nat × TypeId × List CV)} {ks : List (Nat × Option KC)} {nt : Nat} (hr : Rel P C nt L ⟨a2j 0 us, bx, ks⟩ ⟨vals.toArray, []⟩ w) : a8F P us w vals := by
 refine ⟨C, L, fun i v hv => ?_⟩
 have hi : i < vals.length := by rw [hl]; exact (List.getElem?_eq_some_iff.1 hv).1
 refine ⟨vals[i], List.getElem?_eq_getElem hi, ?_⟩
 have h1 := hr.tm i v (c8F us hv)
 have h2 : vals.toArray.getD i undef = vals[i] := by simp [Array.getD_eq_getD_getElem?, List.getElem?_eq_getElem hi]
 simpa only [h2] using h1
theorem c2v {f : FuncId} {us : List SV} {e sz m : Nat} {cs : List DV} (h : ∀ (w : World) (vals : List Value), vals.length = us.length → a8F P us w vals →
   Calls P f vals.toArray w fun x w' => ∃ v fp, x = .returned v ∧ Own w' (.sl e sz m cs) v fp ∧ a3D w.heap.size fp ∧ Chg [] w w') :
  KFn P f us (.one (.key 0)) [(0, some (KC.mk false e sz m cs))] := by
 refine ⟨fun w S0 L vals hl hr => ?_⟩
 refine (h w vals hl (b2A hl hr)).mono ?_
 rintro x w' ⟨v, fp, rfl, ho, hf, hc⟩
 obtain ⟨L', h1, h2⟩ := b7F hr v ho hf hc
 refine ⟨_, .one (.key 0), ⟨[], [], _⟩, L', rfl, ⟨rfl, rfl⟩, ?_⟩
 exact h2.also (d := 0) (v := .one (.key 0)) (by simp only [SVr, CVr]; rw [h1]; rfl) (by simp [SV.keys, CV.keys, lkk, a0W]) (by simp [SV.boxes])
def b9y (ts : List (DV × Value)) : Prop := ∀ t ∈ ts, ∀ (ok : Nat → Prop) (w : World), Lay ok w t.1 t.2
theorem b3F {f : FuncId} {us : List SV} {e sz m : Nat} {cs : List DV} {ts : List (DV × Value)} (ht : b9y ts) (h : ∀ (w : World) (vals : List Value), vals.length = us.length → a8F P us w vals →
   Calls P f vals.toArray w fun x w' => ∃ v fp, x = .returned (.tuple (v :: ts.map (·.2)).toArray) ∧ Own w' (.sl e sz m cs) v fp ∧ a3D w.heap.size fp ∧ Chg [] w w') :
  KFn P f us (.tup ((false, [.key 0]) :: ts.map fun t => (false, [CV.dv [] t.1]))) [(0, some (KC.mk false e sz m cs))] := by
 refine ⟨fun w S0 L vals hl hr => ?_⟩
 refine (h w vals hl (b2A hl hr)).mono ?_
 rintro x w' ⟨v, fp, rfl, ho, hf, hc⟩
 obtain ⟨L', h1, h2⟩ := b7F hr (.tuple (v :: ts.map (·.2)).toArray) ho hf hc
 refine ⟨_, .tup ((false, [.key 0]) :: ts.map fun t => (false, [CV.dv [] t.1])), ⟨[], [], _⟩, L', rfl, ⟨rfl, rfl⟩, ?_⟩
 have key : ∀ ts : List (DV × Value), b9y ts → TVL ⟨w, S0, L.rv⟩ L' w' (ts.map fun t => (false, [CV.dv [] t.1])) (ts.map (·.2)) := by
  intro ts
  induction ts with
  | nil => intro _; rfl
  | cons t ts ih =>
   intro ht
   exact ⟨[t.2], t.2, _, rfl, ⟨t.2, [], rfl, ht t (by simp) _ _, rfl⟩, by simp, ih (fun u hu => ht u (by simp [hu]))⟩
 have kk : ∀ ts : List (DV × Value), ((ts.map fun t => (false, [CV.dv [] t.1])).flatMap fun t => t.2.flatMap CV.keys) = [] := by
  intro ts
  induction ts with
  | nil => rfl
  | cons t ts ih => simp only [List.map_cons, List.flatMap_cons, ih]; rfl
 refine h2.also (d := 0) ?_ ?_ (by simp [SV.boxes])
 ·simp only [SVr]
  refine ⟨_, by simp [Array.getD], [v], v, _, rfl, ⟨v, [], rfl, by simp only [CVr]; exact h1.symm, rfl⟩, by simp, key ts ht⟩
 ·intro k hk
  simp only [SV.keys, List.flatMap_cons, kk, CV.keys, List.flatMap_nil, List.append_nil, List.mem_singleton] at hk
  subst hk
  simp [lkk, a0W]
theorem b4n {f : FuncId} {us : List SV} {X : SV} {v : Value} (hX : X.plain = true) (hv : ∀ C L w, SVr P C L w X v) (h : ∀ (w : World) (vals : List Value), vals.length = us.length → a8F P us w vals → Calls P f vals.toArray w (Ret v w)) : PFn P f us X := by
 refine ⟨fun w S0 L vals hl hr => ?_⟩
 refine (h w vals hl (b2A hl hr)).mono ?_
 rintro x w' ⟨rfl, hc⟩
 obtain ⟨p1, p2, p3, p4⟩ := a9m hX
 refine ⟨_, X, ⟨[], [], []⟩, L, rfl, rfl, ?_⟩
 exact ((b5z hr v).grow hc).also (d := 0) (v := X) (by simpa [Array.getD] using hv _ _ _) (by rw [p2]; simp) (by rw [p3]; simp)
end
set_option maxHeartbeats 1000000 in
set_option maxRecDepth 100000 in
theorem c1r (a b : ByteArray) (w : World) :
  Calls Tryz.prog 129 #[.string a, .string b] w fun e w' => e = .returned (.int .i64 (Lib.compareBytes a.data.toList b.data.toList)) ∧ w' = w := by
 go_enter Tryz.func129, Tryz.ntmps129
 go_wp2
 rw [run_callFunc_extern Tryz.func136 (by kernel_rfl) (by kernel_rfl) (by kernel_rfl) (e := Extern.BytealgCompare.compare) (by kernel_rfl), Lib.run_compareString]
 simp only [Result.andThen]
 rw [Oper.upon_value]
 go_wp2
 go_ret
 exact ⟨rfl, rfl⟩
set_option maxHeartbeats 1000000 in
theorem c6z (a b : ByteArray) (w : World) :
  Calls Tryz.prog 119 #[.string a, .string b] w fun e w' => e = .returned (.int .i64 (Lib.compareBytes a.data.toList b.data.toList)) ∧ w' = w := by
 go_enter Tryz.func119, Tryz.ntmps119
 go_wp2_with (go_at_call 129; refine (c1r _ _ _).mono ?_; rintro e w' ⟨rfl, rfl⟩)
 go_ret
 exact ⟨rfl, rfl⟩
def a4r (a b : Str) : Int := if sLt a b then -1 else if sLt b a then 1 else 0
theorem b7W : ∀ x y : List UInt8, Lib.compareBytes x y = if Op.bytesLess x y then -1 else if Op.bytesLess y x then 1 else 0
 | [], [] => rfl
 | [], _ :: _ => rfl
 | _ :: _, [] => rfl
 | a :: x, b :: y => by
  have ih := b7W x y
  have e1 : ∀ a b : UInt8, (a < b) ↔ a.toNat < b.toNat := fun _ _ => Iff.rfl
  simp only [Lib.compareBytes, Op.bytesLess]
  rcases Nat.lt_trichotomy a.toNat b.toNat with h | h | h
  ·simp [(e1 a b).2 h]
  ·have e : a = b := UInt8.toNat_inj.1 h
   subst e
   have : ¬ a < a := by rw [e1]; omega
   simp [this, ih]
  ·have h2 : ¬ a < b := by rw [e1]; omega
   have h3 : ¬ a = b := by rintro rfl; omega
   have h4 : ¬ b = a := fun e => h3 e.symm
   simp [(e1 b a).2 h, h2, h3]
theorem c3i (s : ByteArray) : ∀ (n i : Nat) (r : List UInt8), s.size - i = n → ByteArray.toList.loop s i r = r.reverse ++ s.data.toList.drop i := by
 intro n
 induction n with
 | zero =>
  intro i r h
  rw [ByteArray.toList.loop, if_neg (by omega), List.drop_eq_nil_of_le (by have : s.data.toList.length = s.size := rfl; omega)]; simp
 | succ n ih =>
  intro i r h
  have hl : s.data.toList.length = s.size := rfl
  have hi : i < s.data.toList.length := by omega
  rw [ByteArray.toList.loop, if_pos (by omega), ih (i + 1) _ (by omega), List.drop_eq_getElem_cons hi]
  have : s.get! i = s.data.toList[i] := by
   rw [ByteArray.get!]
   simp only [Array.getElem_toList]
   exact getElem!_pos s.data i (by simpa using hi)
  rw [this]
  simp
theorem a9G (s : ByteArray) : s.toList = s.data.toList := by
 rw [ByteArray.toList, c3i s _ 0 [] rfl]; simp
theorem c7g (a b : ByteArray) : Lib.compareBytes a.data.toList b.data.toList = a4r a b := by
 rw [b7W, a4r, sLt, sLt, a9G, a9G]
theorem c3N {x y : Str} : PFn Tryz.prog 119 [.one (.dv [] (.str x)), .one (.dv [] (.str y))] (.one (.dv [] (.int .i64 (a4r x y)))) := by
 refine b4n (v := .int .i64 (a4r x y)) rfl (fun C L w => ?_) (fun w vals hl h => ?_)
 ·simp only [SVr, CVr, Lay]
  refine ⟨trivial, ?_⟩
  unfold a4r
  split
  ·exact ⟨by decide, by decide⟩
  ·split <;> exact ⟨by decide, by decide⟩
 ·obtain ⟨C, L, h⟩ := h
  obtain ⟨u, h1, h2⟩ := h 0 _ rfl
  obtain ⟨v, h3, h4⟩ := h 1 _ rfl
  simp only [SVr, CVr, Lay] at h2 h4
  obtain ⟨rfl, _⟩ := h2
  obtain ⟨rfl, _⟩ := h4
  obtain rfl : vals = [.string x, .string y] := by
   match vals, hl with
   | [a, b], _ => simp at h1 h3; rw [h1, h3]
  refine (c6z x y w).mono ?_
  rintro e w' ⟨rfl, rfl⟩
  exact ⟨by rw [c7g], Chg.refl _ _⟩
def b0a (b : UInt8) : Value := .int .u8 (b.toNat : Int)
theorem b2j : (Tryz.prog.info? 5).map (fun i => (i.zero, i.size, i.bytes)) = some (some (.int .u8 0), 1, 1) := by kernel_rfl
theorem b3w {w : World} : ∀ (bs : List UInt8), a1n (a4m.Own w) bs (bs.map b0a) []
 | [] => ⟨rfl, rfl⟩
 | _ :: bs => ⟨_, _, [], [], rfl, rfl, ⟨rfl, rfl⟩, b3w bs⟩
theorem c0f {w : World} {B : Nat} {bs : List UInt8} {A : Option Addr} {n c k : Nat} (h : a2u.Rd w B bs [.slice A n c]) (hk : k < n) :
  ∃ b off v, A = some ⟨b, off, none⟩ ∧ b < B ∧ bs[k]? = some v ∧ w.cell? ⟨b, off + k, none⟩ = some (.int .u8 (v.toNat : Int)) := by
 have hl : k < bs.length := by rw [← a4h h]; exact hk
 obtain ⟨b, off, ci, rfl, hb, hr, hc⟩ := b5o h (List.getElem?_eq_getElem hl)
 have hci : ci = [.int .u8 ((bs[k]).toNat : Int)] := hr
 subst hci
 have := hc 0 _ rfl
 simp only [a4m, Nat.mul_one, Nat.add_zero] at this
 exact ⟨b, off, bs[k], rfl, hb, List.getElem?_eq_getElem hl, this⟩
theorem c6G {a b : Bool} (h : a = b) : Ending.returned (.bool a) = Ending.returned (.bool b) := by rw [h]
theorem b0x {a b : Int} (h : a = b) : Ending.returned (.int .i64 a) = Ending.returned (.int .i64 b) := by rw [h]
theorem b1k {α : Type} {e : TypeId} {C : Cod α} {w : World} {k : Nat} (hk : k = w.heap.size) : (a2T e C).Own (w.alloc (.cells #[] e)) [] [.slice (some ⟨k, 0, none⟩) 0 0] [k] :=
 ⟨_, [], [], rfl, rfl, c5n (b1T hk), rfl, rfl⟩
theorem b2Q {w : World} {bs : List UInt8} {A : Option Addr} {n c : Nat} (h : a2u.Rd w w.heap.size bs [.slice A n c]) :
  n = bs.length ∧ n ≤ c ∧ c ≤ maxLen ∧ a2y w A n 1 (bs.map b0a) ∧ (0 < n → ∃ b off, A = some ⟨b, off, none⟩ ∧ b < w.heap.size) := by
 obtain ⟨h1, h2, h3, cells, h4, h5, h6⟩ := a8q h
 have : ∀ (bs : List UInt8) cells, a2p (a4m.Rd w w.heap.size) bs cells → cells = bs.map b0a := by
  intro bs
  induction bs with
  | nil => intro cells h; exact h
  | cons b bs ih => intro cells h; obtain ⟨c1, c2, e, g1, g2⟩ := h; rw [e, ih _ g2]; rw [show c1 = [.int .u8 (b.toNat : Int)] from g1]; rfl
 rw [this _ _ h4] at h5
 exact ⟨h1, h2, h3, h5, h6⟩
set_option maxHeartbeats 400000 in
theorem a8h (w : World) (bs : List UInt8) (A : Option Addr) (n c : Nat) (hr : a2u.Rd w w.heap.size bs [.slice A n c]) (hsz : n ≤ 1073741824) :
  Calls Tryz.prog 40 #[.slice A n c] w (b0g a2u bs w) := by
 obtain ⟨hl, _, _, hrow, hlt⟩ := b2Q hr
 have HL := Lib.hid hl
 clear hl hr
 go_enter Tryz.func40, Tryz.ntmps40
 go_wp2_with (first | (at_builtin; refine a7C a4m _ rfl _ _ _ rfl 5 _ 1 Tryz.underlying22 b2j rfl _ 0 0 rfl [] [w.heap.size] (b1k (by simp)) A n c rfl bs [] (bs.map b0a) (hrow.chg hlt (Nat.le_refl _) ((Chg.refl _ _).alloc _)) (b3w _) HL.out (by simp) (by simp only [maxLen]; omega) (by omega) ?hk))
 case hk =>
  intro A' c' w1 fp hown hnd hfp hchg
  have H1 := Lib.hid hown
  have H2 := Lib.hid (((Chg.refl [] w).alloc _).andThen hchg (by simp))
  have H3 := Lib.hid hfp
  clear hown hchg hfp
  go_wp2
  go_ret
  exact ⟨A', n, c', fp, rfl, H1.out, ⟨hnd, fun b hb => by have h := H3.out b hb; (try simp at h); omega⟩, H2.out⟩
theorem b8n {α : Type} {r : α → List Value → Prop} {n : Nat} (h : ∀ x c, r x c → c.length = n) : ∀ (xs : List α) (cs : List Value) (j : Nat), a2p r xs cs → a2p r (xs.take j) (cs.take (j * n))
 | [], cs, j, hc => by simp [a2p] at hc; simp [hc, a2p]
 | x :: xs, _, 0, _ => by simp [a2p]
 | x :: xs, _, j + 1, ⟨c1, c2, e, h1, h2⟩ => by
  refine ⟨c1, c2.take (j * n), ?_, h1, b8n h xs c2 j h2⟩
  have hl := h _ _ h1
  rw [e, List.take_append, hl, List.take_of_length_le (by rw [hl, Nat.add_mul]; omega)]
  congr 2
  rw [Nat.add_mul]; omega
theorem b9B {α : Type} {e : TypeId} {C : Cod α} {w : World} {B : Nat} {xs : List α} {A : Option Addr} {n c : Nat} (h : (a2T e C).Rd w B xs [.slice A n c]) (j : Nat) (hj : j ≤ n) :
  (a2T e C).Rd w B (xs.take j) [.slice A j c] := by
 obtain ⟨A', c', cells, e1, h2, h3, h4, h5⟩ := h
 simp only [List.cons.injEq, Value.slice.injEq, and_true] at e1
 obtain ⟨rfl, rfl, rfl⟩ := e1
 have hl : (xs.take j).length = j := by simp; omega
 refine ⟨A, c, cells.take (j * C.size), by rw [hl], by omega, h3, b8n (fun _ _ hr => C.rd_len hr) _ _ j h4, fun hp => ?_⟩
 obtain ⟨b, off, e1, e2, e3⟩ := h5 (by omega)
 refine ⟨b, off, e1, e2, fun i u hu => e3 i u ?_⟩
 rw [List.getElem?_take] at hu
 split at hu
 ·exact hu
 ·cases hu
abbrev a8A : Cod (List Int) := a2T 3 a5t
def a6D (acc v : Int) : Int := (acc * 1000003 + v % 2147483647 + 13) % 2147483647
def a5Y (l : List Int) : Int := l.foldl a6D 11
theorem b9I (acc v : Int) : 0 ≤ a6D acc v ∧ a6D acc v < 2147483647 := by unfold a6D; omega
theorem c6e (l : List Int) : ∀ acc : Int, 0 ≤ acc → acc < 2147483647 → 0 ≤ l.foldl a6D acc ∧ l.foldl a6D acc < 2147483647 := by
 induction l with
 | nil => intro acc h1 h2; exact ⟨h1, h2⟩
 | cons v l ih => intro acc _ _; exact ih _ (b9I acc v).1 (b9I acc v).2
theorem b4T (l : List Int) : 0 ≤ a5Y l ∧ a5Y l < 2147483647 := c6e l 11 (by decide) (by decide)
theorem c2b (l : List Int) (v : Int) : a5Y (l ++ [v]) = a6D (a5Y l) v := by simp [a5Y]
theorem b9S : (Tryz.prog.info? 3).map (fun i => (i.zero, i.size, i.bytes)) = some (some (.int .i64 0), 1, 8) := by kernel_rfl
theorem c4j {w : World} {B : Nat} {bs : List Int} {A : Option Addr} {n c k : Nat} (h : a8A.Rd w B bs [.slice A n c]) (hk : k < n) :
  ∃ b off v, A = some ⟨b, off, none⟩ ∧ b < B ∧ bs[k]? = some v ∧ w.cell? ⟨b, off + k, none⟩ = some (.int .i64 v) ∧ -9223372036854775808 ≤ v ∧ v ≤ 9223372036854775807 := by
 have hl : k < bs.length := by rw [← a4h h]; exact hk
 obtain ⟨b, off, ci, rfl, hb, hr, hc⟩ := b5o h (List.getElem?_eq_getElem hl)
 obtain ⟨rfl, h1, h2⟩ := hr
 have := hc 0 _ rfl
 simp only [a5t, Nat.mul_one, Nat.add_zero] at this
 exact ⟨b, off, bs[k], rfl, hb, List.getElem?_eq_getElem hl, this, h1, h2⟩
theorem c3A (v : Int) (h : v < 0) : (v.tmod 2147483647 < 0 ∧ v.tmod 2147483647 + 2147483647 = v % 2147483647) ∨ (v.tmod 2147483647 = 0 ∧ v % 2147483647 = 0) := by
 have h1 : v.tmod 2147483647 = - ((-v) % 2147483647) := by
  have := Int.tmod_eq_emod_of_nonneg (a := -v) (b := 2147483647) (by omega)
  rw [Int.neg_tmod] at this
  omega
 rw [h1]; omega
set_option maxHeartbeats 400000 in
theorem c1I (w : World) (v : Int) (h1 : -9223372036854775808 ≤ v) (h2 : v ≤ 9223372036854775807) :
  Calls Tryz.prog 112 #[.int .i64 v, .int .i64 2147483647] w (fun e w' => e = .returned (.int .i64 (v % 2147483647)) ∧ w = w') := by
 by_cases hv : 0 ≤ v
 ·have h3 : 0 ≤ v % 2147483647 ∧ v % 2147483647 < 2147483647 := by omega
  obtain ⟨h4, h5⟩ := h3
  go_enter Tryz.func112, Tryz.ntmps112
  go_wp2
  go_ret
  exact ⟨rfl, rfl⟩
 ·have hv' : v < 0 := by omega
  rcases c3A v hv' with ⟨g1, g2⟩ | ⟨g1, g2⟩
  ·have g3 : -2147483647 ≤ v.tmod 2147483647 := by omega
   have HG := Lib.hid g2
   clear g2
   go_enter Tryz.func112, Tryz.ntmps112
   go_wp2
   go_ret
   exact ⟨b0x (by rw [← HG.out]), rfl⟩
  ·have HG := Lib.hid g2
   have g3 : (v.tmod 2147483647) ≤ 0 ∧ 0 ≤ v.tmod 2147483647 := by omega
   obtain ⟨g4, g5⟩ := g3
   have HG1 := Lib.hid g1
   clear g2 g1
   go_enter Tryz.func112, Tryz.ntmps112
   go_wp2
   go_ret
   exact ⟨b0x (by rw [HG.out, HG1.out]), rfl⟩
theorem b6w {α : Type} (l : List α) (k : Nat) (v : α) (h : l[k]? = some v) : l.take (k + 1) = l.take k ++ [v] := by
 rw [List.take_add_one, h]; rfl
set_option maxHeartbeats 400000 in
theorem c1W (w : World) (l : List Int) (A : Option Addr) (n c : Nat) (hr : a8A.Rd w w.heap.size l [.slice A n c]) (hn : n ≤ 1073741824) :
  Calls Tryz.prog 82 #[.slice A n c] w (fun e w' => e = .returned (.int .i64 (a5Y l)) ∧ w = w') := by
 have HR := Lib.hid hr
 have HN := Lib.hid (a4h hr)
 clear hr
 go_enter Tryz.func82, Tryz.ntmps82
 go_wp2
 go_loop [3, 8] (fun a i => ∃ k : Nat, k ≤ n ∧ i = .int .i64 k ∧ a = .int .i64 (a5Y (l.take k))) (fun _ i => n - (intOf i).toNat)
 case atStart => exact ⟨0, Nat.zero_le _, rfl, rfl⟩
 case round =>
  obtain ⟨k, hk, rfl, rfl⟩ := hrel
  have hb := b4T (l.take k)
  obtain ⟨hb1, hb2⟩ := hb
  by_cases hlt : k < n
  ·obtain ⟨b, off, v, rfl, hb, hv, hc, hv1, hv2⟩ := c4j HR.out hlt
   have HV := Lib.hid hv
   have HS := Lib.hid ((congrArg a5Y (b6w l k v hv)).trans (c2b _ v))
   clear hv
   go_wp2_with (first | (go_at_call 112; refine (c1I _ v hv1 hv2).mono ?_; rintro e w' ⟨rfl, rfl⟩))
   go_round
   case rel => exact ⟨k + 1, by omega, by go_num, by rw [HS.out]; unfold a6D; first | rfl | go_num⟩
   case measure => simp [intOf]; omega
  ·obtain rfl : k = n := by omega
   go_wp2
   go_ret
   exact ⟨b0x (by rw [List.take_of_length_le (by rw [← HN.out]; omega)]), rfl⟩
def b2i (n : Nat) (l : List UInt8) : List Int := (n : Int) :: l.map (fun b => (b.toNat : Int))
theorem c6u (n : Nat) (l : List UInt8) (b : UInt8) : b2i n (l ++ [b]) = b2i n l ++ [(b.toNat : Int)] := by simp [b2i]
theorem b1y {w : World} {v : Int} (h1 : -9223372036854775808 ≤ v) (h2 : v ≤ 9223372036854775807) : a1n (a5t.Own w) [v] [.int .i64 v] [] := a1n.one ⟨rfl, rfl, h1, h2⟩
theorem c7J {w : World} {v : Int} {k : Nat} (hk : k = w.heap.size) (h1 : -9223372036854775808 ≤ v) (h2 : v ≤ 9223372036854775807) :
  a8A.Own (w.alloc (.cells #[.int .i64 v] 3)) [v] [.slice (some ⟨k, 0, none⟩) 1 1] [k] :=
 c0l (C := a5t) (xs := [v]) (cells := [.int .i64 v]) (spare := []) (b1T hk) (b1y h1 h2) (by simp) (by simp [maxLen]) (by simp [a5t])
set_option maxHeartbeats 400000 in
theorem c3R (w : World) (bs : List UInt8) (A : Option Addr) (n c : Nat) (hr : a2u.Rd w w.heap.size bs [.slice A n c]) (hn : n ≤ 1073741824) :
  Calls Tryz.prog 83 #[.slice A n c] w (b0g a8A (b2i n bs) w) := by
 have HR := Lib.hid hr
 have HN := Lib.hid (a4h hr)
 clear hr
 go_enter Tryz.func83, Tryz.ntmps83
 go_wp2
 go_loopw [3, 11] (fun o i wr => ∃ (k : Nat) (A' : Option Addr) (c' : Nat) (fp : List Nat), k ≤ n ∧ i = .int .i64 k ∧ o = .slice A' (k + 1) c' ∧ a8A.Own wr (b2i n (bs.take k)) [.slice A' (k + 1) c'] fp ∧ a3D w.heap.size fp ∧ Chg [] w wr) (fun _ i _ => n - (intOf i).toNat)
 case atStart => exact ⟨0, _, _, [w.heap.size], Nat.zero_le _, rfl, rfl, c7J rfl (by omega) (by omega), ⟨by simp, by simp⟩, (Chg.refl _ _).alloc _⟩
 case round =>
  obtain ⟨k, A', c', fp, hk, rfl, rfl, hown, hfr, hchg⟩ := hrel
  have HO := Lib.hid hown
  have HF := Lib.hid hfr
  have HC := Lib.hid hchg
  have hz := hchg.size
  clear hown hfr
  by_cases hlt : k < n
  ·obtain ⟨b, off, v, rfl, hb, hv, hc⟩ := c0f HR.out hlt
   have h1 := (hchg.cell (off := off + k) hb (by simp)).trans hc
   have hv1 : (0 : Int) ≤ (v.toNat : Int) := by omega
   have hv2 : (v.toNat : Int) ≤ 255 := by have := v.toNat_lt; omega
   have HV := Lib.hid hv
   clear hv hchg hc
   go_wp2_with (first | (at_builtin; refine a7C a5t _ rfl _ _ _ rfl 3 _ 8 Tryz.underlying34 b9S rfl A' (k + 1) c' rfl (b2i n (bs.take k)) fp (a5i HO.out ((Chg.refl _ _).alloc _)) (some ⟨wr.heap.size, 0, none⟩) 1 1 rfl [(v.toNat : Int)] [] [.int .i64 (v.toNat : Int)] (a2y.new _ _ 1 1 3 rfl rfl) (b1y (by omega) (by omega)) rfl (by rw [List.append_nil]; exact HF.out.1) (by simp only [maxLen]; omega) (by omega) ?_; intro A1 c1 w2 fp1 hown hnd hfp hchg; have H1 := Lib.hid hown; have H2 := Lib.hid ((HC.out.alloc _).andThen hchg (fun x hx => .inr (HF.out.2 x hx))); have H3 := Lib.hid hfp; clear hown hchg hfp))
   go_roundw
   case rel =>
    refine ⟨k + 1, A1, c1, fp1, by omega, by go_num, rfl, ?_, ⟨hnd, fun x hx => ?_⟩, H2.out⟩
    ·rw [b6w bs k v HV.out, c6u]; exact H1.out
    ·rcases H3.out x hx with h | h | h
     ·exact HF.out.2 x h
     ·simp at h
     ·(try simp at h); omega
   case measure => simp [intOf]; omega
  ·obtain rfl : k = n := by omega
   clear hchg
   go_wp2
   go_ret
   have h := HO.out
   rw [List.take_of_length_le (by rw [← HN.out]; omega)] at h
   exact ⟨A', _, c', fp, rfl, h, HF.out, HC.out⟩
def a2o (number : Int) (bs : List UInt8) : Int := a5Y ([101, number] ++ b2i bs.length bs)
theorem c7M {w : World} {u v : Int} {k : Nat} (hk : k = w.heap.size) (h1 : -9223372036854775808 ≤ u) (h2 : u ≤ 9223372036854775807) (h3 : -9223372036854775808 ≤ v) (h4 : v ≤ 9223372036854775807) :
  a8A.Own (w.alloc (.cells #[.int .i64 u, .int .i64 v] 3)) [u, v] [.slice (some ⟨k, 0, none⟩) 2 2] [k] :=
 c0l (C := a5t) (xs := [u, v]) (cells := [.int .i64 u, .int .i64 v]) (spare := []) (b1T hk) (a1n.append [u] [v] [_] [_] [] [] (b1y h1 h2) (b1y h3 h4)) (by simp) (by simp [maxLen]) (by simp [a5t])
set_option maxHeartbeats 400000 in
theorem b5A (w : World) (v : Int) (bs : List UInt8) (A : Option Addr) (n c : Nat) (hr : a2u.Rd w w.heap.size bs [.slice A n c]) (hn : n ≤ 536870912) (h1 : -9223372036854775808 ≤ v) (h2 : v ≤ 9223372036854775807) :
  Calls Tryz.prog 48 #[.int .i64 v, .slice A n c] w (Ret (.int .i64 (a2o v bs)) w) := by
 have HR := Lib.hid hr
 have HN := Lib.hid (a4h hr)
 clear hr
 go_enter Tryz.func48, Tryz.ntmps48
 go_wp2_with fail
 refine (c3R _ bs A n c (a7G HR.out ((Chg.refl _ _).alloc _)) (by omega)).mono ?_
 rintro e w1 ⟨A1, n1, c1, fp, rfl, hown, hfr, hchg⟩
 have hn1 : n1 = n + 1 := by rw [own_len hown, HN.out]; simp [b2i]
 subst hn1
 obtain ⟨cells, f, hrow, hall, hf⟩ : ∃ cells f, a2y w1 A1 (n + 1) 1 cells ∧ a1n (a5t.Own w1) (b2i n bs) cells f ∧ (∀ b ∈ f, b ∈ fp) ∧ f.Nodup := by
  have := c2O hown hfr.1
  exact this
 have HC := Lib.hid (((Chg.refl [] w).alloc _).trans hchg)
 have HO := Lib.hid (a5i (c7M (w := w) (u := 101) (v := v) rfl (by omega) (by omega) h1 h2) hchg)
 have hgt : w.heap.size + 1 ≤ w1.heap.size := by have := hchg.size; simp at this; omega
 have HF := Lib.hid hfr
 have HL := Lib.hid hall
 have HFF := Lib.hid hf
 clear hown hfr hchg hall hf
 go_wp2_with (first | (at_builtin; refine a7C a5t _ rfl _ _ _ rfl 3 _ 8 Tryz.underlying34 b9S rfl (some ⟨w.heap.size, 0, none⟩) 2 2 rfl [101, v] [w.heap.size] HO.out A1 (n + 1) c1 rfl (b2i n bs) f cells hrow HL.out (by have := HN.out; simp [b2i]; omega) ?nd (by simp only [maxLen]; omega) (by omega) ?hk))
 case nd =>
  refine List.nodup_append.2 ⟨by simp, HFF.out.2, fun a ha b hb e => ?_⟩
  have h := HF.out.2 b (HFF.out.1 b hb)
  simp at ha h
  omega
 case hk =>
  intro A2 c2 w2 fp2 hown hnd hfp hchg
  have H1 := Lib.hid hown
  have H2 := Lib.hid (HC.out.andThen hchg (fun x hx => .inr (by simp at hx; omega)))
  clear hown hchg hfp
  go_wp2_with fail
  refine (c1W _ ([101, v] ++ b2i n bs) A2 _ c2 (b0K H1.out) (by omega)).mono ?_
  rintro e w' ⟨rfl, rfl⟩
  go_wp2
  go_ret
  exact ⟨b0x (by rw [HN.out]; rfl), H2.out⟩
def uv (n : Nat) : List UInt8 := if n < 128 then [UInt8.ofNat n] else UInt8.ofNat (n % 128 + 128) :: uv (n / 128)
termination_by n
decreasing_by omega
theorem a5x {n : Nat} (h : n < 128) : uv n = [UInt8.ofNat n] := by rw [uv, if_pos h]
theorem a5R {n : Nat} (h : ¬ n < 128) : uv n = UInt8.ofNat (n % 128 + 128) :: uv (n / 128) := by rw [uv, if_neg h]
def a4R (b : List UInt8) (n : Int) : List UInt8 := if 0 ≤ n ∧ n ≤ 1000000000000 then b ++ uv n.toNat else b
theorem b4A {b : List UInt8} {n : Int} (h : 0 ≤ n ∧ n ≤ 1000000000000) : a4R b n = b ++ uv n.toNat := if_pos h
theorem c9c {b : List UInt8} {n : Int} (h : ¬ (0 ≤ n ∧ n ≤ 1000000000000)) : a4R b n = b := if_neg h
theorem c3d (w : World) (n lo hi : Int) (h1 : lo ≤ n) (h2 : n ≤ hi) : Calls Tryz.prog 73 #[.int .i64 n, .int .i64 lo, .int .i64 hi] w (fun e w' => e = .returned (.bool true) ∧ w = w') := by
 go_enter Tryz.func73, Tryz.ntmps73
 go_wp2
 go_ret
 exact ⟨rfl, rfl⟩
theorem c4f (w : World) (n lo hi : Int) (h : n < lo ∨ hi < n) : Calls Tryz.prog 73 #[.int .i64 n, .int .i64 lo, .int .i64 hi] w (fun e w' => e = .returned (.bool false) ∧ w = w') := by
 by_cases h1 : n < lo
 ·clear h
  go_enter Tryz.func73, Tryz.ntmps73
  go_wp2
  go_ret
  exact ⟨rfl, rfl⟩
 ·have h2 : hi < n := by omega
  have h3 : lo ≤ n := by omega
  clear h
  go_enter Tryz.func73, Tryz.ntmps73
  go_wp2
  go_ret
  exact ⟨c6G (by simp; try omega), rfl⟩
theorem b7d (x : Nat) : ((UInt8.ofNat x).toNat : Int) = ((x % 256 : Nat) : Int) := by simp
theorem c0H {w : World} (b : UInt8) : a1n (a4m.Own w) [b] [.int .u8 (b.toNat : Int)] [] := a1n.one ⟨rfl, rfl⟩
/-! bits of integers that are not below 0 -/
set_option maxRecDepth 100000 in
set_option maxHeartbeats 400000 in
theorem b7H (w : World) (bs : List UInt8) (A : Option Addr) (n c : Nat) (m : Int) (hr : a2u.Rd w w.heap.size bs [.slice A n c]) (hn : n ≤ 16777216) :
  Calls Tryz.prog 44 #[.slice A n c, .int .i64 m] w (b0g a2u (a4R bs m) w) := by
 have HR := Lib.hid hr
 have HN := Lib.hid (a4h hr)
 clear hr
 by_cases hm : 0 ≤ m ∧ m ≤ 1000000000000
 ·have HU := Lib.hid (b4A (b := bs) hm)
  obtain ⟨hm1, hm2⟩ := hm
  go_enter Tryz.func44, Tryz.ntmps44
  go_wp2_with (first | (go_at_call 40; refine (a8h _ bs A n c HR.out (by omega)).mono ?_; rintro e w1 ⟨A1, n1, c1, fp, rfl, hown, hfr, hchg⟩; have HO := Lib.hid hown; have HF := Lib.hid hfr; have HC := Lib.hid hchg; clear hown hfr hchg) | (go_at_call 73; refine (c3d _ _ _ _ (by omega) (by omega)).mono ?_; rintro e w' ⟨rfl, rfl⟩))
  have hn1 : n1 = n := (own_len HO.out).trans HN.out.symm
  subst hn1
  go_loopw [1, 5] (fun m' o wr => ∃ (k : Nat) (pre : List UInt8) (A' : Option Addr) (c' : Nat) (fp : List Nat), (k : Int) ≤ 1000000000000 ∧ m' = .int .i64 k ∧ o = .slice A' (n1 + pre.length) c' ∧ pre ++ uv k = uv m.toNat ∧ (pre.length : Int) + k ≤ 1000000000000 ∧ a2u.Own wr (bs ++ pre) [.slice A' (n1 + pre.length) c'] fp ∧ a3D w.heap.size fp ∧ Chg [] w wr) (fun m' _ _ => (intOf m').toNat)
  case atStart => exact ⟨m.toNat, [], A1, c1, fp, by omega, by rw [show ((m.toNat : Nat) : Int) = m by omega], rfl, rfl, by simp; omega, by simpa using HO.out, HF.out, HC.out⟩
  case round =>
   obtain ⟨k, pre, A', c', fp', hk, rfl, rfl, hpre, hpl, hown, hfr, hchg⟩ := hrel
   have HP := Lib.hid hpre
   have HO' := Lib.hid hown
   have HF' := Lib.hid hfr
   have HC' := Lib.hid hchg
   have hz := hchg.size
   clear hpre hown hfr hchg
   by_cases hlt : k < 128
   ·have HS : Hid (a1n (a4m.Own (wr.alloc (.cells #[.int .u8 (k : Int)] 5))) [UInt8.ofNat k] [.int .u8 (k : Int)] []) := by
     have h := c0H (w := wr.alloc (.cells #[.int .u8 (k : Int)] 5)) (UInt8.ofNat k)
     rw [b7d, Nat.mod_eq_of_lt (by omega)] at h
     exact h
    have HE := Lib.hid (a5x hlt)
    go_wp2_with (first | (at_builtin; refine a7C a4m _ rfl _ _ _ rfl 5 _ 1 Tryz.underlying22 b2j rfl A' (n1 + pre.length) c' rfl (bs ++ pre) fp' (a5i HO'.out ((Chg.refl _ _).alloc _)) (some ⟨wr.heap.size, 0, none⟩) 1 1 rfl [UInt8.ofNat k] [] [.int .u8 (k : Int)] (a2y.new _ _ 1 1 5 rfl rfl) HS.out rfl (by rw [List.append_nil]; exact HF'.out.1) (by simp only [maxLen]; omega) (by omega) ?_; intro A2 c2 w2 fp2 hown hnd hfp hchg; have H1 := Lib.hid hown; have H2 := Lib.hid ((HC'.out.alloc _).andThen hchg (fun x hx => .inr (HF'.out.2 x hx))); have H3 := Lib.hid hfp; clear hown hchg hfp))
    go_ret
    refine ⟨A2, _, c2, fp2, rfl, ?_, ⟨hnd, fun x hx => ?_⟩, H2.out⟩
    ·rw [HU.out, ← HP.out, HE.out, ← List.append_assoc]; exact H1.out
    ·rcases H3.out x hx with h | h | h
     ·exact HF'.out.2 x h
     ·simp at h
     ·(try simp at h); omega
   ·have hge : (128 : Int) ≤ (k : Int) := by omega
    have HS : Hid (a1n (a4m.Own (wr.alloc (.cells #[.int .u8 ((k : Int) % 128 + 128)] 5))) [UInt8.ofNat (k % 128 + 128)] [.int .u8 ((k : Int) % 128 + 128)] []) := by
     have h := c0H (w := wr.alloc (.cells #[.int .u8 ((k : Int) % 128 + 128)] 5)) (UInt8.ofNat (k % 128 + 128))
     rw [b7d, Nat.mod_eq_of_lt (a := k % 128 + 128) (b := 256) (by omega), show ((k % 128 + 128 : Nat) : Int) = (k : Int) % 128 + 128 by omega] at h
     exact h
    have HE := Lib.hid (a5R hlt)
    go_wp2_with (first | (at_builtin; refine a7C a4m _ rfl _ _ _ rfl 5 _ 1 Tryz.underlying22 b2j rfl A' (n1 + pre.length) c' rfl (bs ++ pre) fp' (a5i HO'.out ((Chg.refl _ _).alloc _)) (some ⟨wr.heap.size, 0, none⟩) 1 1 rfl [UInt8.ofNat (k % 128 + 128)] [] [.int .u8 ((k : Int) % 128 + 128)] (a2y.new _ _ 1 1 5 rfl rfl) HS.out rfl (by rw [List.append_nil]; exact HF'.out.1) (by simp only [maxLen]; omega) (by omega) ?_; intro A2 c2 w2 fp2 hown hnd hfp hchg; have H1 := Lib.hid hown; have H2 := Lib.hid ((HC'.out.alloc _).andThen hchg (fun x hx => .inr (HF'.out.2 x hx))); have H3 := Lib.hid hfp; clear hown hchg hfp))
    go_roundw
    case rel =>
     refine ⟨k / 128, pre ++ [UInt8.ofNat (k % 128 + 128)], A2, c2, fp2, by omega, by go_num, ?_, ?_, by simp; omega, ?_, ⟨hnd, fun x hx => ?_⟩, H2.out⟩
     ·simp [Nat.add_assoc]
     ·rw [← HP.out, HE.out]; simp
     ·have h := H1.out
      rw [List.append_assoc] at h
      simpa [Nat.add_assoc] using h
     ·rcases H3.out x hx with h | h | h
      ·exact HF'.out.2 x h
      ·simp at h
      ·(try simp at h); omega
    case measure => simp [intOf]; omega
 ·have HU := Lib.hid (c9c (b := bs) hm)
  have hm' : m < 0 ∨ 1000000000000 < m := by omega
  clear hm
  go_enter Tryz.func44, Tryz.ntmps44
  go_wp2_with (first | (go_at_call 40; refine (a8h _ bs A n c HR.out (by omega)).mono ?_; rintro e w1 ⟨A1, n1, c1, fp, rfl, hown, hfr, hchg⟩; have HO := Lib.hid hown; have HF := Lib.hid hfr; have HC := Lib.hid hchg; clear hown hfr hchg) | (go_at_call 73; refine (c4f _ _ _ _ hm').mono ?_; rintro e w' ⟨rfl, rfl⟩))
  go_ret
  exact ⟨A1, n1, c1, fp, rfl, by rw [HU.out]; exact HO.out, HF.out, HC.out⟩
theorem b7u (n : Nat) : n ≤ 1000000000000 → (uv n).length ≤ 6 := by
 intro h
 by_cases h1 : n < 128
 ·rw [a5x h1]; simp
 rw [a5R h1]
 by_cases h2 : n / 128 < 128
 ·rw [a5x h2]; simp
 rw [a5R h2]
 by_cases h3 : n / 128 / 128 < 128
 ·rw [a5x h3]; simp
 rw [a5R h3]
 by_cases h4 : n / 128 / 128 / 128 < 128
 ·rw [a5x h4]; simp
 rw [a5R h4]
 by_cases h5 : n / 128 / 128 / 128 / 128 < 128
 ·rw [a5x h5]; simp
 rw [a5R h5]
 have h6 : n / 128 / 128 / 128 / 128 / 128 < 128 := by omega
 rw [a5x h6]; simp
theorem b3O (b : List UInt8) (n : Int) : (a4R b n).length ≤ b.length + 6 := by
 unfold a4R
 split
 ·rename_i h; have := b7u n.toNat (by omega); simp; omega
 ·omega
def a5j (b d : List UInt8) : List UInt8 := a4R b d.length ++ d
set_option maxRecDepth 100000 in
set_option maxHeartbeats 400000 in
theorem c1f (w : World) (bs ds : List UInt8) (A : Option Addr) (n c : Nat) (B : Option Addr) (m d : Nat) (hr : a2u.Rd w w.heap.size bs [.slice A n c]) (hd : a2u.Rd w w.heap.size ds [.slice B m d]) (hn : n ≤ 8388608) (hm : m ≤ 8388608) :
  Calls Tryz.prog 47 #[.slice A n c, .slice B m d] w (b0g a2u (a5j bs ds) w) := by
 obtain ⟨hl, _, _, hrow, hlt0⟩ := b2Q hd
 have HN := Lib.hid (a4h hr)
 have HM := Lib.hid hl
 have HR := Lib.hid hr
 clear hr hd hl
 go_enter Tryz.func47, Tryz.ntmps47
 go_wp2_with fail
 refine (b7H _ bs A n c m HR.out (by omega)).mono ?_
 rintro e w1 ⟨A1, n1, c1, fp, rfl, hown, hfr, hchg⟩
 have hn1 : n1 ≤ 16777216 := by have h := own_len hown; have h2 := b3O bs m; have h3 := HN.out; omega
 have hrow1 := hrow.chg hlt0 (Nat.le_refl _) hchg
 have HO := Lib.hid hown
 have HF := Lib.hid hfr
 have HC := Lib.hid hchg
 clear hown hfr hchg
 go_wp2_with (first | (at_builtin; refine a7C a4m _ rfl _ _ _ rfl 5 _ 1 Tryz.underlying22 b2j rfl A1 n1 c1 rfl (a4R bs m) fp HO.out B m d rfl ds [] (ds.map b0a) hrow1 (b3w _) HM.out (by rw [List.append_nil]; exact HF.out.1) (by simp only [maxLen]; omega) (by omega) ?_; intro A2 c2 w2 fp2 hown hnd hfp hchg; have H1 := Lib.hid hown; have H2 := Lib.hid (HC.out.andThen hchg (fun x hx => .inr (HF.out.2 x hx))); have H3 := Lib.hid hfp; clear hown hchg hfp))
 go_ret
 refine ⟨A2, _, c2, fp2, rfl, by have h := H1.out; unfold a5j; rw [← HM.out]; exact h, ⟨hnd, fun b hb => ?_⟩, H2.out⟩
 rcases H3.out b hb with h | h | h
 ·exact HF.out.2 b h
 ·simp at h
 ·have := HC.out.size; omega
def rdF : Nat → Nat → Nat → List UInt8 → Option (Nat × Nat)
 | 0, _, _, _ => none
 | _ + 1, _, _, [] => none
 | f + 1, i, acc, x :: r =>
  if x.toNat < 128 then (if (0 < i ∧ x.toNat = 0) ∨ 1000000000000 < acc + (x.toNat % 128) * 2 ^ (7 * i) then none else some (acc + (x.toNat % 128) * 2 ^ (7 * i), i + 1))
  else rdF f (i + 1) (acc + (x.toNat % 128) * 2 ^ (7 * i)) r
def rdU (b : List UInt8) (off : Int) : Option (Nat × Nat) := if 0 ≤ off ∧ off < b.length then rdF 6 0 0 (b.drop off.toNat) else none
def a5G (off : Int) : Option (Nat × Nat) → Value
 | none => .tuple #[.int .i64 0, .int .i64 0, .bool false]
 | some (v, k) => .tuple #[.int .i64 (v : Int), .int .i64 (off + (k : Int)), .bool true]
theorem c2y (k acc : Nat) (hk : k < 6) (x : UInt8) (r : List UInt8) : rdF (6 - k) k acc (x :: r) =
  if x.toNat < 128 then (if (0 < k ∧ x.toNat = 0) ∨ 1000000000000 < acc + (x.toNat % 128) * 2 ^ (7 * k) then none else some (acc + (x.toNat % 128) * 2 ^ (7 * k), k + 1))
  else rdF (6 - (k + 1)) (k + 1) (acc + (x.toNat % 128) * 2 ^ (7 * k)) r := by
 rw [show 6 - k = (6 - (k + 1)) + 1 by omega]; rfl
theorem b8E (k : Nat) (hk : k < 6) : 2 ^ (7 * k) ≤ 34359738368 := Nat.le_trans (Nat.pow_le_pow_right (by omega) (show 7 * k ≤ 35 by omega)) (by decide)
theorem c8d {k acc x : Nat} (ha : acc < 2 ^ (7 * k)) : acc + (x % 128) * 2 ^ (7 * k) < 2 ^ (7 * (k + 1)) := by
 have h1 : x % 128 ≤ 127 := by omega
 have h2 : (x % 128) * 2 ^ (7 * k) ≤ 127 * 2 ^ (7 * k) := Nat.mul_le_mul_right _ h1
 rw [show 7 * (k + 1) = 7 * k + 7 by omega, Nat.pow_add]
 omega
theorem c3U {α : Type} {l : List α} {i : Nat} {v : α} (h : l[i]? = some v) : l.drop i = v :: l.drop (i + 1) := by
 obtain ⟨h1, h2⟩ := List.getElem?_eq_some_iff.1 h
 rw [List.drop_eq_getElem_cons h1, h2]
theorem c2G (v : UInt8) (k : Nat) (hk : k < 6) : ∃ t : Nat, v.toNat % 128 * 2 ^ (7 * k) = t ∧ ((v.toNat : Int) % 128) * 2 ^ (7 * k) = (t : Int) ∧ (t : Int) ≤ 4398046511104 := by
 refine ⟨_, rfl, by push_cast; rfl, ?_⟩
 have h1 := b8E k hk
 have h2 : v.toNat % 128 * 2 ^ (7 * k) ≤ 128 * 34359738368 := Nat.mul_le_mul (by omega) h1
 omega
set_option maxRecDepth 100000 in
set_option maxHeartbeats 1000000 in
theorem b3Y (w : World) (bs : List UInt8) (A : Option Addr) (n c : Nat) (off : Int) (hr : a2u.Rd w w.heap.size bs [.slice A n c]) (hn : n ≤ 16777216) :
    Calls Tryz.prog 59 #[.slice A n c, .int .i64 off] w (fun e w' => e = .returned (a5G off (rdU bs off)) ∧ w = w') := by
  have HR := Lib.hid hr
  have HN := Lib.hid (a4h hr)
  clear hr
  by_cases hoff : 0 ≤ off ∧ off < n
  · have HU : Hid (rdU bs off = rdF 6 0 0 (bs.drop off.toNat)) := if_pos (by have := HN.out; omega)
    obtain ⟨h1, h2⟩ := hoff
    obtain ⟨o, rfl⟩ := Int.eq_ofNat_of_zero_le h1
    rw [Int.toNat_natCast] at HU
    have hd1 : decide ((o : Int) < 0) = false := decide_eq_false (by omega)
    go_enter Tryz.func59, Tryz.ntmps59
    go_wp2
    go_loop [4, 5, 6, 7, 8] (fun _ _ _ a i => ∃ k acc : Nat, k ≤ 6 ∧ i = .int .i64 k ∧ a = .int .i64 acc ∧ acc < 2 ^ (7 * k) ∧ rdF 6 0 0 (bs.drop o) = rdF (6 - k) k acc (bs.drop (o + k))) (fun _ _ _ _ i => 6 - (intOf i).toNat)
    case atStart => exact ⟨0, 0, by omega, rfl, rfl, by decide, rfl⟩
    case round =>
      obtain ⟨k, acc, hk, rfl, rfl, hacc, hrd⟩ := hrel
      have HA := Lib.hid hacc
      have HD := Lib.hid hrd
      by_cases hlt : k < 6 ∧ o + k < n
      · obtain ⟨g1, g2⟩ := hlt
        have hab : (acc : Int) ≤ 34359738368 := by have := b8E k g1; omega
        clear hacc hrd
        obtain ⟨b, off', v, rfl, hb, hv, hc⟩ := c0f HR.out g2
        obtain ⟨t, ht, htI, htb⟩ := c2G v k g1
        have hv1 : (0 : Int) ≤ (v.toNat : Int) := by omega
        have hv2 : (v.toNat : Int) ≤ 255 := by have := v.toNat_lt; omega
        have HV : Hid (rdF (6 - k) k acc (bs.drop (o + k)) = _) := (congrArg (rdF (6 - k) k acc) (c3U hv)).trans (c2y k acc g1 v _)
        rw [ht] at HV
        have HT := Lib.hid ht
        clear hv ht
        by_cases hx : v.toNat < 128
        · have hx1 : (v.toNat : Int) < 128 := by omega
          by_cases hbad : (0 < k ∧ v.toNat = 0) ∨ 1000000000000 < acc + t
          · have HF := Lib.hid (show rdU bs o = none by rw [HU.out, HD.out, HV.out, if_pos hx, if_pos hbad])
            have hbad1 : (0 < (k : Int) ∧ (v.toNat : Int) = 0) ∨ (1000000000000 : Int) < (acc : Int) + t := by omega
            clear hbad
            rcases hbad1 with ⟨g3, g4⟩ | g3
            · rw [g4] at hc
              have htz : t = 0 := by rw [← HT.out]; have : v.toNat = 0 := by omega
                                     rw [this]; simp
              subst htz
              rw [g4] at htI
              clear htI hx1 hv1 hv2 g4
              go_wp2
              go_ret3
              exact ⟨by rw [HF.out]; rfl, rfl⟩
            · go_wp2
              all_goals
                go_ret3
                exact ⟨by rw [HF.out]; rfl, rfl⟩
          · have HF := Lib.hid (show rdU bs o = some (acc + t, k + 1) by rw [HU.out, HD.out, HV.out, if_pos hx, if_neg hbad])
            have hgood : ((k : Int) ≤ 0 ∨ 1 ≤ (v.toNat : Int)) ∧ (acc : Int) + t ≤ 1000000000000 := by omega
            obtain ⟨g3, g4⟩ := hgood
            clear hbad
            have hval : Hid (Value.tuple #[.int .i64 ((acc : Int) + (t : Int)), .int .i64 ((o : Int) + (k : Int) + 1), .bool true] = a5G o (some (acc + t, k + 1))) := by
              show _ = _
              simp [a5G, Int.add_assoc]
            rcases g3 with g3 | g3
            all_goals
              go_wp2
              all_goals
                go_ret3
                first
                  | exact ⟨by rw [HF.out, ← hval.out]; rfl, rfl⟩
                  | (exfalso; rename_i h9 _; rcases h9 with h9 | h9 <;> first | omega | (have h10 : (v.toNat : Int) = 0 := eq_of_beq h9; omega))
        · have hx1 : (128 : Int) ≤ (v.toNat : Int) := by omega
          have HF := Lib.hid (show rdF (6 - k) k acc (bs.drop (o + k)) = rdF (6 - (k + 1)) (k + 1) (acc + t) (bs.drop (o + (k + 1))) by rw [HV.out, if_neg hx]; rfl)
          go_wp2
          refine ⟨⟨_, _, _, _, _, ⟨k + 1, by omega, rfl, acc + t, rfl, by rw [← HT.out]; exact c8d HA.out, by rw [HD.out, HF.out]⟩, rfl, rfl, rfl, by go_num, by go_num⟩, by simp [intOf]; omega⟩
      · have HF := Lib.hid (show rdU bs o = none by
          rw [HU.out, HD.out]
          by_cases h6 : k = 6
          · subst h6; rfl
          · rw [List.drop_eq_nil_of_le (by have := HN.out; omega)]
            rw [show 6 - k = (6 - (k + 1)) + 1 by omega]; rfl)
        clear hacc hrd
        have hend : (6 : Int) ≤ (k : Int) ∨ ((k : Int) < 6 ∧ (n : Int) ≤ (o : Int) + (k : Int)) := by omega
        clear hlt
        rcases hend with g3 | ⟨g3, g4⟩
        all_goals
          go_wp2
          go_ret3
          exact ⟨by rw [HF.out]; rfl, rfl⟩
  · have HF := Lib.hid (show rdU bs off = none from if_neg (by have := HN.out; omega))
    have hout : off < 0 ∨ (0 ≤ off ∧ (n : Int) ≤ off) := by omega
    clear hoff
    rcases hout with g3 | ⟨g3, g4⟩
    all_goals
      go_enter Tryz.func59, Tryz.ntmps59
      go_wp2
      go_ret3
      exact ⟨by rw [HF.out]; rfl, rfl⟩
theorem b7c : ∀ (f i acc : Nat) (l : List UInt8) (v k : Nat), rdF f i acc l = some (v, k) → v ≤ 1000000000000 ∧ i < k ∧ k ≤ i + l.length
 | 0, _, _, _, _, _, h => by simp [rdF] at h
 | _ + 1, _, _, [], _, _, h => by simp [rdF] at h
 | f + 1, i, acc, x :: r, v, k, h => by
  unfold rdF at h
  split at h
  ·split at h
   ·cases h
   ·rename_i hb
    simp only [Option.some.injEq, Prod.mk.injEq] at h
    obtain ⟨rfl, rfl⟩ := h
    simp only [not_or] at hb
    refine ⟨by omega, by omega, by simp⟩
  ·have h2 := b7c f (i + 1) _ r v k h
   simp only [List.length_cons]
   omega
theorem a8z {bs : List UInt8} {off : Int} {v k : Nat} (h : rdU bs off = some (v, k)) : ∃ o p : Nat, off = o ∧ p = o + k ∧ 0 < k ∧ p ≤ bs.length ∧ v ≤ 1000000000000 := by
 unfold rdU at h
 split at h
 ·rename_i h1
  obtain ⟨h2, h3⟩ := h1
  have h4 := b7c _ _ _ _ _ _ h
  rw [List.length_drop] at h4
  exact ⟨off.toNat, off.toNat + k, by omega, rfl, by omega, by omega, h4.1⟩
 ·cases h
def rdB (bs : List UInt8) (off : Int) (most : Int) : Option (List UInt8 × Nat) :=
 match rdU bs off with
 | none => none
 | some (v, k) => if (v : Int) ≤ most ∧ off.toNat + k + v ≤ bs.length then some ((bs.drop (off.toNat + k)).take v, off.toNat + k + v) else none
def b1s : Option (List UInt8 × Nat) → List Value
 | none => [.int .i64 0, .bool false]
 | some (_, p) => [.int .i64 (p : Int), .bool true]
def a2F : Option (List UInt8 × Nat) → List UInt8
 | none => []
 | some (d, _) => d
def b3U {α : Type} (C : Cod (List α)) (x : List α) (t : List Value) (w : World) (e : Ending) (w' : World) : Prop :=
 ∃ A n c fp, e = .returned (.tuple (Value.slice A n c :: t).toArray) ∧ C.Own w' x [.slice A n c] fp ∧ a3D w.heap.size fp ∧ Chg [] w w'
theorem b7G {α : Type} {r : α → List Value → Prop} {n : Nat} (h : ∀ x c, r x c → c.length = n) : ∀ (xs : List α) (cs : List Value) (j : Nat), a2p r xs cs → a2p r (xs.drop j) (cs.drop (j * n))
 | [], cs, j, hc => by simp [a2p] at hc; simp [hc, a2p]
 | x :: xs, cs, 0, hc => by simpa using hc
 | x :: xs, _, j + 1, ⟨c1, c2, e, h1, h2⟩ => by
  have hl := h _ _ h1
  rw [e, List.drop_succ_cons, Nat.add_mul, List.drop_append, List.drop_of_length_le (l := c1) (by rw [hl]; omega), List.nil_append, hl]
  rw [show j * n + 1 * n - n = j * n by omega]
  exact b7G h xs c2 j h2
theorem c4K {α : Type} {e : TypeId} {C : Cod α} {w : World} {B : Nat} {xs : List α} {b o n c : Nat} (h : (a2T e C).Rd w B xs [.slice (some ⟨b, o, none⟩) n c]) (j : Nat) (hj : j ≤ n) (hz : 0 < n) :
  (a2T e C).Rd w B (xs.drop j) [.slice (some ⟨b, o + j * C.size, none⟩) (n - j) (c - j)] := by
 obtain ⟨A', c', cells, e1, h2, h3, h4, h5⟩ := h
 simp only [List.cons.injEq, Value.slice.injEq, and_true] at e1
 obtain ⟨rfl, rfl, rfl⟩ := e1
 refine ⟨_, _, cells.drop (j * C.size), by rw [List.length_drop], by rw [List.length_drop]; omega, by omega, b7G (fun _ _ hr => C.rd_len hr) _ _ j h4, fun hp => ?_⟩
 obtain ⟨b', off, e1, e2, e3⟩ := h5 (by omega)
 cases e1
 refine ⟨b, o + j * C.size, rfl, e2, fun i u hu => ?_⟩
 rw [List.getElem?_drop] at hu
 rw [Nat.add_assoc]
 exact e3 _ u hu
theorem c7W {α : Type} {e : TypeId} {C : Cod α} {w : World} {B : Nat} {xs : List α} {A : Option Addr} {v c : Nat} (h : v = 0) (hc : c ≤ 9223372036854775807) : (a2T e C).Rd w B (xs.take v) [.slice A v c] := by
 subst h
 exact ⟨A, c, [], rfl, Nat.zero_le _, hc, rfl, fun h => absurd h (Nat.lt_irrefl _)⟩
set_option maxRecDepth 100000 in
set_option maxHeartbeats 1000000 in
theorem b6l (w : World) (bs : List UInt8) (A : Option Addr) (n c : Nat) (off : Int) (most : Int) (hr : a2u.Rd w w.heap.size bs [.slice A n c]) (hn : n ≤ 16777216) :
  Calls Tryz.prog 58 #[.slice A n c, .int .i64 off, .int .i64 most] w (b3U a2u (a2F (rdB bs off most)) (b1s (rdB bs off most)) w) := by
 have hN := a4h hr
 have hU := b3Y w bs A n c off hr hn
 cases hu : rdU bs off with
 | none =>
  have HB := Lib.hid (show rdB bs off most = none by simp [rdB, hu])
  rw [hu, show a5G off none = .tuple #[.int .i64 0, .int .i64 0, .bool false] from rfl] at hU
  have HU := Lib.hid hU
  clear hU hu hr hN
  go_enter Tryz.func58, Tryz.ntmps58
  go_wp2_with fail
  refine (HU.out).mono ?_
  rintro e w' ⟨rfl, rfl⟩
  go_wp2_with fail
  go_ret3
  rw [HB.out]
  exact ⟨_, _, _, [w.heap.size], rfl, b1k rfl, ⟨by simp, by simp⟩, (Chg.refl _ _).alloc _⟩
 | some vk =>
  obtain ⟨v, k⟩ := vk
  obtain ⟨o, p, rfl, hp, hk, hpl, hv⟩ := a8z hu
  have hcn := (a8q hr).2.1
  have hcm := (a8q hr).2.2.1
  obtain ⟨b, o', rfl, hb⟩ := (b2Q hr).2.2.2.2 (by omega)
  have hRU : a5G (o : Int) (some (v, k)) = .tuple #[.int .i64 (v : Int), .int .i64 (p : Int), .bool true] := by subst hp; simp [a5G]
  rw [hu, hRU] at hU
  have HU := Lib.hid hU
  have HN := Lib.hid hN
  have hpn : p ≤ n := by omega
  have hcm2 : c ≤ 9223372036854775807 := by simp only [maxLen] at hcm; omega
  clear hRU hU hcm
  by_cases hok : (v : Int) ≤ most ∧ p + v ≤ n
  ·have HB := Lib.hid (show rdB bs o most = some ((bs.drop p).take v, p + v) by
    unfold rdB; rw [hu]; simp only [Int.toNat_natCast]; rw [← hp, if_pos (by omega)])
   have hD1 := b9B (c4K hr p hpn (by omega)) v (by omega)
   rw [show a4m.size = 1 from rfl, Nat.mul_one] at hD1
   have HD := Lib.hid hD1
   clear hD1
   obtain ⟨h1, h2⟩ := hok
   have h3 : (v : Int) ≤ (n : Int) - (p : Int) := by omega
   clear hr hu hN hp
   go_enter Tryz.func58, Tryz.ntmps58
   go_wp2_with fail
   refine (HU.out).mono ?_
   rintro e w' ⟨rfl, rfl⟩
   go_wp2_with fail
   all_goals
    refine (a8h _ ((bs.drop p).take v) _ v _ (by first | exact HD.out | exact c7W (by omega) (by omega)) (by omega)).mono ?_
    rintro e w1 ⟨A1, n1, c1, fp, rfl, hown, hfr, hchg⟩
    have HO := Lib.hid hown
    have HF := Lib.hid hfr
    have HC := Lib.hid hchg
    clear hown hfr hchg
    go_wp2_with fail
    go_ret3
    rw [HB.out]
    exact ⟨A1, n1, c1, fp, rfl, HO.out, HF.out, HC.out⟩
  ·have HB := Lib.hid (show rdB bs o most = none by
    unfold rdB; rw [hu]; simp only [Int.toNat_natCast]; rw [← hp, if_neg (by omega)])
   have hok' : most < (v : Int) ∨ ((v : Int) ≤ most ∧ (n : Int) - (p : Int) < (v : Int)) := by omega
   clear hok hr hu hN hp
   rcases hok' with h1 | ⟨h1, h2⟩
   all_goals
    go_enter Tryz.func58, Tryz.ntmps58
    go_wp2_with fail
    refine (HU.out).mono ?_
    rintro e w' ⟨rfl, rfl⟩
    go_wp2_with fail
    go_ret3
    rw [HB.out]
    exact ⟨_, _, _, [w.heap.size], rfl, b1k rfl, ⟨by simp, by simp⟩, (Chg.refl _ _).alloc _⟩
def a6i (bs : List UInt8) (v : Int) (ds : List UInt8) : List UInt8 := a4R (a5j bs ds) (a2o v ds)
def a5b (bs : List UInt8) (v : Int) (ds : List UInt8) : Prop := v < 0 ∨ 4000 < (a6i bs v ds).length
instance (bs : List UInt8) (v : Int) (ds : List UInt8) : Decidable (a5b bs v ds) := by unfold a5b; infer_instance
def a5v (bs : List UInt8) (v : Int) (ds : List UInt8) : List UInt8 := if a5b bs v ds then bs else a6i bs v ds
def a8O (bs : List UInt8) (v : Int) (ds : List UInt8) : List Value := if a5b bs v ds then [.bool false] else [.bool true]
theorem b8Q (bs ds : List UInt8) : (a5j bs ds).length ≤ bs.length + ds.length + 6 := by
 have h := b3O bs ds.length
 unfold a5j
 simp only [c9i]
 omega
set_option maxRecDepth 100000 in
set_option maxHeartbeats 1000000 in
theorem c2f (w : World) (bs ds : List UInt8) (v : Int) (A : Option Addr) (n c : Nat) (B : Option Addr) (m d : Nat) (hr : a2u.Rd w w.heap.size bs [.slice A n c]) (hd : a2u.Rd w w.heap.size ds [.slice B m d])
  (hn : n ≤ 2097152) (hm : m ≤ 2097152) (h1 : -9223372036854775808 ≤ v) (h2 : v ≤ 9223372036854775807) :
  Calls Tryz.prog 22 #[.slice A n c, .int .i64 v, .slice B m d] w (b3U a2u (a5v bs v ds) (a8O bs v ds) w) := by
 have HN := Lib.hid (a4h hr)
 have HM := Lib.hid (a4h hd)
 have HR := Lib.hid hr
 have HD := Lib.hid hd
 clear hr hd
 go_enter Tryz.func22, Tryz.ntmps22
 go_wp2_with fail
 refine (c1f _ bs ds A n c B m d HR.out HD.out (by omega) (by omega)).mono ?_
 rintro e w1 ⟨A1, n1, c1, f1, rfl, hown, hfr, hchg⟩
 have hn1 : n1 ≤ 8388608 := by have h := own_len hown; have h2 := b8Q bs ds; have h3 := HN.out; have h4 := HM.out; omega
 have HO1 := Lib.hid hown
 have HF1 := Lib.hid hfr
 have HC1 := Lib.hid hchg
 clear hown hfr hchg
 go_wp2_with fail
 refine (b5A _ v ds B m d (a7G HD.out HC1.out) (by omega) h1 h2).mono ?_
 rintro e w2 ⟨rfl, hchg⟩
 have HC2 := Lib.hid (HC1.out.trans hchg)
 have HO2 := Lib.hid (a5i HO1.out hchg)
 have hck := b4T ([101, v] ++ b2i ds.length ds)
 have HK := Lib.hid (show 0 ≤ a2o v ds ∧ a2o v ds < 2147483647 from hck)
 clear hchg hck
 go_wp2_with fail
 refine (b7H _ (a5j bs ds) A1 n1 c1 (a2o v ds) (b0K HO2.out) (by omega)).mono ?_
 rintro e w3 ⟨A3, n3, c3, f3, rfl, hown, hfr, hchg⟩
 have HL3 := Lib.hid (own_len hown)
 have HO3 := Lib.hid (show a2u.Own w3 (a6i bs v ds) [.slice A3 n3 c3] f3 from hown)
 have HF3 := Lib.hid (hfr.mono HC2.out.size)
 have HC3 := Lib.hid (HC2.out.trans hchg)
 clear hown hfr hchg
 rcases (show v < 0 ∨ (0 ≤ v ∧ 4000 < (n3 : Int)) ∨ (0 ≤ v ∧ (n3 : Int) ≤ 4000) by omega) with g1 | ⟨g1, g2⟩ | ⟨g1, g2⟩
 ·have HB := Lib.hid (show a5b bs v ds from .inl g1)
  go_wp2_with fail
  refine (a8h _ bs A n c (a7G HR.out HC3.out) (by omega)).mono ?_
  rintro e w4 ⟨A4, n4, c4, f4, rfl, hown, hfr, hchg⟩
  have HO4 := Lib.hid hown
  have HF4 := Lib.hid (hfr.mono HC3.out.size)
  have HC4 := Lib.hid (HC3.out.trans hchg)
  clear hown hfr hchg
  go_wp2_with fail
  go_ret2
  exact ⟨A4, n4, c4, f4, by rw [a8O, if_pos HB.out]; rfl, by rw [a5v, if_pos HB.out]; exact HO4.out, HF4.out, HC4.out⟩
 ·have HB := Lib.hid (show a5b bs v ds from .inr (by have h := HL3.out; have h2 : (a4R (a5j bs ds) (a2o v ds)).length = (a6i bs v ds).length := rfl; omega))
  go_wp2_with fail
  refine (a8h _ bs A n c (a7G HR.out HC3.out) (by omega)).mono ?_
  rintro e w4 ⟨A4, n4, c4, f4, rfl, hown, hfr, hchg⟩
  have HO4 := Lib.hid hown
  have HF4 := Lib.hid (hfr.mono HC3.out.size)
  have HC4 := Lib.hid (HC3.out.trans hchg)
  clear hown hfr hchg
  go_wp2_with fail
  go_ret2
  exact ⟨A4, n4, c4, f4, by rw [a8O, if_pos HB.out]; rfl, by rw [a5v, if_pos HB.out]; exact HO4.out, HF4.out, HC4.out⟩
 ·have HB := Lib.hid (show ¬ a5b bs v ds by unfold a5b; have h := HL3.out; have h2 : (a4R (a5j bs ds) (a2o v ds)).length = (a6i bs v ds).length := rfl; omega)
  go_wp2_with fail
  go_ret2
  exact ⟨A3, n3, c3, f3, by rw [a8O, if_neg HB.out]; rfl, by rw [a5v, if_neg HB.out]; exact HO3.out, HF3.out, HC3.out⟩
abbrev b3H : Cod (List (List UInt8)) := a2T 22 a2u
theorem c7e : (Tryz.prog.info? 22).map (fun i => (i.zero, i.size, i.bytes)) = some (some (.slice none 0 0), 1, 24) := by kernel_rfl
def a2X (bs : List UInt8) : Nat → Nat → List (List UInt8) → List (List UInt8) × Nat
 | 0, p, acc => (acc, p)
 | f + 1, p, acc => match rdB bs p 4000 with
  | none => (acc, p)
  | some (d, nx) => match rdU bs nx with
   | none => (acc, p)
   | some (s, k) => if (s : Int) = a2o acc.length d then a2X bs f (nx + k) (acc ++ [d]) else (acc, p)
theorem b0Q {bs : List UInt8} {off : Int} {most : Int} {d : List UInt8} {nx : Nat} (h : rdB bs off most = some (d, nx)) : off < (nx : Int) ∧ nx ≤ bs.length ∧ d.length ≤ most ∧ d.length ≤ bs.length := by
 unfold rdB at h
 split at h
 ·cases h
 ·rename_i v k hu
  split at h
  ·rename_i hc
   obtain ⟨o, p, rfl, hp, hk, hpl, hv⟩ := a8z hu
   simp only [Option.some.injEq, Prod.mk.injEq, Int.toNat_natCast] at h hc
   obtain ⟨rfl, rfl⟩ := h
   simp only [c9j, List.length_drop]
   omega
  ·cases h
theorem a7p {bs : List UInt8} {f p : Nat} {acc : List (List UInt8)} (h : rdB bs p 4000 = none) : a2X bs (f + 1) p acc = (acc, p) := by simp [a2X, h]
theorem a9a {bs : List UInt8} {f p nx : Nat} {acc : List (List UInt8)} {d : List UInt8} (h : rdB bs p 4000 = some (d, nx)) (hu : rdU bs nx = none) : a2X bs (f + 1) p acc = (acc, p) := by simp [a2X, h, hu]
theorem b0P {bs : List UInt8} {f p nx s k : Nat} {acc : List (List UInt8)} {d : List UInt8} (h : rdB bs p 4000 = some (d, nx)) (hu : rdU bs nx = some (s, k)) (hs : ¬ (s : Int) = a2o acc.length d) : a2X bs (f + 1) p acc = (acc, p) := by simp [a2X, h, hu, hs]
theorem a9Z {bs : List UInt8} {f p nx s k : Nat} {acc : List (List UInt8)} {d : List UInt8} (h : rdB bs p 4000 = some (d, nx)) (hu : rdU bs nx = some (s, k)) (hs : (s : Int) = a2o acc.length d) : a2X bs (f + 1) p acc = a2X bs f (nx + k) (acc ++ [d]) := by simp [a2X, h, hu, hs]
def rl (bs : List UInt8) : List (List UInt8) × Nat := a2X bs (bs.length + 1) 0 []
set_option maxRecDepth 100000 in
set_option maxHeartbeats 1000000 in
theorem b4J (w : World) (bs : List UInt8) (A : Option Addr) (n c : Nat) (hr : a2u.Rd w w.heap.size bs [.slice A n c]) (hn : n ≤ 2097152) :
  Calls Tryz.prog 28 #[.slice A n c] w (b3U b3H (rl bs).1 [.int .i64 ((rl bs).2 : Int)] w) := by
 have HN := Lib.hid (a4h hr)
 have HR := Lib.hid hr
 clear hr
 go_enter Tryz.func28, Tryz.ntmps28
 go_wp2
 go_loopw [2, 3, 4, 5] (fun _ _ o a wr => ∃ (f p : Nat) (acc : List (List UInt8)) (A' : Option Addr) (no c' : Nat) (fp : List Nat), o = .slice A' no c' ∧ a = .int .i64 p ∧ p ≤ n ∧ n - p < f ∧ no ≤ p ∧ rl bs = a2X bs f p acc ∧ b3H.Own wr acc [.slice A' no c'] fp ∧ a3D w.heap.size fp ∧ Chg [] w wr) (fun _ _ _ a _ => n - (intOf a).toNat)
 case atStart => exact ⟨n + 1, 0, [], _, 0, 0, [w.heap.size], rfl, rfl, by omega, by omega, by omega, by rw [HN.out]; rfl, b1k rfl, ⟨by simp, by simp⟩, (Chg.refl _ _).alloc _⟩
 case round =>
  obtain ⟨f, p, acc, A', no, c', fp, rfl, rfl, hp, hf, hnp, heq, hown, hfr, hchg⟩ := hrel
  obtain ⟨f', rfl⟩ : ∃ f', f = f' + 1 := ⟨f - 1, by omega⟩
  have HE := Lib.hid heq
  have HO := Lib.hid hown
  have HF := Lib.hid hfr
  have HC := Lib.hid hchg
  have HL := Lib.hid (own_len hown)
  have hRB := b6l wr bs A n c p 4000 (a7G HR.out hchg) (by omega)
  clear heq hown hfr hchg
  cases hb : rdB bs p 4000 with
  | none =>
   rw [hb, show b1s none = [.int .i64 0, .bool false] from rfl] at hRB
   have HRB := Lib.hid hRB
   have HX := Lib.hid (HE.out.trans (a7p hb))
   clear hRB hb
   go_wp2_with fail
   refine (HRB.out).mono ?_
   rintro e w1 ⟨A1, n1, c1, f1, rfl, hown1, hfr1, hchg1⟩
   have HO1 := Lib.hid (a5i HO.out hchg1)
   have HC1 := Lib.hid (HC.out.trans hchg1)
   clear hown1 hfr1 hchg1
   go_wp2_with fail
   go_ret2
   exact ⟨A', no, c', fp, by rw [HX.out]; rfl, by rw [HX.out]; exact HO1.out, HF.out, HC1.out⟩
  | some dn =>
   obtain ⟨d, nx⟩ := dn
   have hbd := b0Q hb
   have hnx : p < nx ∧ nx ≤ n ∧ (d.length : Int) ≤ 4000 := by have := HN.out; omega
   obtain ⟨hx1, hx2, hx3⟩ := hnx
   rw [hb, show b1s (some (d, nx)) = [.int .i64 (nx : Int), .bool true] from rfl, show a2F (some (d, nx)) = d from rfl] at hRB
   have HRB := Lib.hid hRB
   have HB := Lib.hid hb
   clear hRB hb hbd
   go_wp2_with fail
   refine (HRB.out).mono ?_
   rintro e w1 ⟨A1, n1, c1, f1, rfl, hown1, hfr1, hchg1⟩
   have HO1 := Lib.hid (a5i HO.out hchg1)
   have HC1 := Lib.hid (HC.out.trans hchg1)
   have HD1 := Lib.hid hown1
   have HFD := Lib.hid hfr1
   have hn1 : n1 ≤ 4000 := by have := own_len hown1; omega
   have hz := hchg1.size
   have hUR := b3Y w1 bs A n c nx (a7G HR.out HC1.out) (by omega)
   clear hown1 hfr1 hchg1
   cases hu : rdU bs nx with
   | none =>
    rw [hu, show a5G (nx : Int) none = .tuple #[.int .i64 0, .int .i64 0, .bool false] from rfl] at hUR
    have HUR := Lib.hid hUR
    have HX := Lib.hid (HE.out.trans (a9a HB.out hu))
    clear hUR hu
    go_wp2_with fail
    refine (HUR.out).mono ?_
    rintro e w2 ⟨rfl, rfl⟩
    go_wp2_with fail
    go_ret2
    exact ⟨A', no, c', fp, by rw [HX.out]; rfl, by rw [HX.out]; exact HO1.out, HF.out, HC1.out⟩
   | some sk =>
    obtain ⟨s, k⟩ := sk
    obtain ⟨o, q, ho, hq, hk, hql, hs⟩ := a8z hu
    have ho' : o = nx := by omega
    subst ho'
    have hqn : q ≤ n := by have := HN.out; omega
    rw [hu, show a5G (o : Int) (some (s, k)) = .tuple #[.int .i64 (s : Int), .int .i64 (q : Int), .bool true] by rw [hq]; simp [a5G]] at hUR
    have HUR := Lib.hid hUR
    have HQ := Lib.hid hq
    have HU := Lib.hid hu
    clear hUR hu hq ho hql
    go_wp2_with fail
    refine (HUR.out).mono ?_
    rintro e w2 ⟨rfl, rfl⟩
    go_wp2_with fail
    refine (b5A _ no d A1 n1 c1 (b0K HD1.out) (by omega) (by omega) (by omega)).mono ?_
    rintro e w3 ⟨rfl, hchg3⟩
    have HO3 := Lib.hid (a5i HO1.out hchg3)
    have HC3 := Lib.hid (HC1.out.trans hchg3)
    have HD3 := Lib.hid (a5i HD1.out hchg3)
    have hz3 := hchg3.size
    clear hchg3
    by_cases hsum : (s : Int) = a2o no d
    ·have HX := Lib.hid (HE.out.trans (a9Z (f := f') HB.out HU.out (by rw [← HL.out]; exact hsum)))
     have HND := Lib.hid (HF.out.append HFD.out (b3H.own_lt HO.out) HC.out.size)
     go_wp2_with (first | (at_builtin; refine a7C a2u _ rfl _ _ _ rfl 22 _ 24 Tryz.underlying67 c7e rfl A' no c' rfl acc fp (a5i HO3.out ((Chg.refl _ _).alloc _)) (some ⟨w3.heap.size, 0, none⟩) 1 1 rfl [d] f1 [.slice A1 n1 c1] (a2y.new _ _ 1 1 _ rfl rfl) (a1n.one (a5i HD3.out ((Chg.refl _ _).alloc _))) rfl HND.out.1 (by simp only [maxLen]; omega) (by omega) ?_; intro A2 c2 w4 fp2 hown hnd hfp hchg; have H1 := Lib.hid hown; have H2 := Lib.hid ((HC3.out.alloc _).andThen hchg (fun x hx => .inr (HF.out.2 x hx))); have H3 := Lib.hid hfp; have H4 := Lib.hid hnd; clear hown hchg hfp hnd))
     go_roundw
     case rel =>
      refine ⟨f', q, acc ++ [d], A2, no + 1, c2, fp2, by go_num, by go_num, hqn, by have := HQ.out; omega, by have := HQ.out; omega, by rw [HX.out, HQ.out], H1.out, ⟨H4.out, fun x hx => ?_⟩, H2.out⟩
      rcases H3.out x hx with h | h | h
      ·exact HND.out.2 x (by simp [h])
      ·exact HND.out.2 x (by simp [h])
      ·have := HC3.out.size; (try simp at h); omega
     case measure => have := HQ.out; simp [intOf]; omega
    ·have HX := Lib.hid (HE.out.trans (b0P HB.out HU.out (by rw [← HL.out]; exact hsum)))
     go_wp2_with fail
     go_ret2
     exact ⟨A', no, c', fp, by rw [HX.out]; rfl, by rw [HX.out]; exact HO3.out, HF.out, HC3.out⟩
set_option maxRecDepth 100000 in
theorem c2p (w : World) (bs : List UInt8) (A : Option Addr) (n c : Nat) (hr : a2u.Rd w w.heap.size bs [.slice A n c]) (hn : n ≤ 2097152) :
  Calls Tryz.prog 31 #[.slice A n c] w (Ret (.int .i64 ((rl bs).1.length : Int)) w) := by
 have HR := Lib.hid hr
 clear hr
 go_enter Tryz.func31, Tryz.ntmps31
 go_wp2_with fail
 refine (b4J _ bs A n c HR.out hn).mono ?_
 rintro e w1 ⟨A1, n1, c1, f1, rfl, hown, hfr, hchg⟩
 have HL := Lib.hid (own_len hown)
 have HC := Lib.hid hchg
 clear hown hfr hchg
 go_wp2_with fail
 go_ret
 exact ⟨by rw [← HL.out]; rfl, HC.out⟩
theorem b9o (bs : List UInt8) : ∀ (f p : Nat) (acc : List (List UInt8)), p ≤ bs.length → (a2X bs f p acc).2 ≤ bs.length
 | 0, p, acc, h => h
 | f + 1, p, acc, h => by
  cases hb : rdB bs p 4000 with
  | none => rw [a7p hb]; exact h
  | some dn =>
   obtain ⟨d, nx⟩ := dn
   cases hu : rdU bs nx with
   | none => rw [a9a hb hu]; exact h
   | some sk =>
    obtain ⟨s, k⟩ := sk
    by_cases hs : (s : Int) = a2o acc.length d
    ·rw [a9Z hb hu hs]
     obtain ⟨o, p', ho, hp, hk, hpl, hv⟩ := a8z hu
     exact b9o bs f _ _ (by omega)
    ·rw [b0P hb hu hs]; exact h
theorem b9N (bs : List UInt8) : (rl bs).2 ≤ bs.length := b9o bs _ 0 [] (by omega)
set_option maxRecDepth 100000 in
theorem c8Z (w : World) (bs : List UInt8) (A : Option Addr) (n c : Nat) (hr : a2u.Rd w w.heap.size bs [.slice A n c]) (hn : n ≤ 2097152) :
  Calls Tryz.prog 30 #[.slice A n c] w (b0g a2u (bs.take (rl bs).2) w) := by
 have hp := b9N bs
 have hRL := b4J w bs A n c hr hn
 have hl := a4h hr
 obtain ⟨p, hp0⟩ : ∃ p, (rl bs).2 = p := ⟨_, rfl⟩
 rw [hp0] at hRL hp
 rw [hp0]
 have hcn := (a8q hr).2.1
 have hpn : p ≤ n := by omega
 have HRL := Lib.hid hRL
 have HT := Lib.hid (b9B hr p hpn)
 clear hr hRL hl hp
 go_enter Tryz.func30, Tryz.ntmps30
 go_wp2_with fail
 refine (HRL.out).mono ?_
 rintro e w1 ⟨A1, n1, c1, f1, rfl, hown, hfr, hchg⟩
 have HC := Lib.hid hchg
 clear hown hfr hchg
 go_wp2_with fail
 refine (a8h _ (bs.take p) A p c (a7G HT.out HC.out) (by omega)).mono ?_
 rintro e w2 ⟨A2, n2, c2, f2, rfl, hown, hfr, hchg⟩
 have HO2 := Lib.hid hown
 have HF2 := Lib.hid (hfr.mono HC.out.size)
 have HC2 := Lib.hid (HC.out.trans hchg)
 clear hown hfr hchg
 go_wp2_with fail
 go_ret
 exact ⟨A2, n2, c2, f2, rfl, HO2.out, HF2.out, HC2.out⟩
theorem a3E {P : Program} {C : Ctx} {nt : Nat} {σ : St} {o : Oper} {Ks Bs K : List Nat} {k : IntKind} {m n : Int} (h : Pu P C nt o σ (.one (.dv K (.int k m))) Ks Bs) (e : m = n) : Pu P C nt o σ (.one (.dv K (.int k n))) Ks Bs := e ▸ h
def uvV (b : List UInt8) (off : Int) : Int := match rdU b off with | none => 0 | some (v, _) => (v : Int)
def uvP (b : List UInt8) (off : Int) : Int := match rdU b off with | none => 0 | some (_, k) => off + (k : Int)
def uvK (b : List UInt8) (off : Int) : Bool := (rdU b off).isSome
def rbP : Option (List UInt8 × Nat) → Int
 | none => 0
 | some (_, p) => (p : Int)
theorem c5E (b : List UInt8) (off : Int) : a5G off (rdU b off) = .tuple [Value.int .i64 (uvV b off), .int .i64 (uvP b off), .bool (uvK b off)].toArray := by
 unfold uvV uvP uvK
 cases rdU b off with
 | none => rfl
 | some r => obtain ⟨v, k⟩ := r; rfl
theorem b4D (b : List UInt8) (off : Int) : 0 ≤ uvV b off ∧ uvV b off ≤ 1000000000000 ∧ 0 ≤ uvP b off ∧ uvP b off ≤ (b.length : Int) := by
 unfold uvV uvP
 cases h : rdU b off with
 | none => simp
 | some r =>
  obtain ⟨v, k⟩ := r
  obtain ⟨o, p, h1, h2, h3, h4, h5⟩ := a8z h
  simp only
  omega
theorem c3M (r : Option (List UInt8 × Nat)) : b1s r = [.int .i64 (rbP r), .bool r.isSome] := by
 cases r with
 | none => rfl
 | some q => obtain ⟨d, p⟩ := q; rfl
theorem b4F (b : List UInt8) (off most : Int) : 0 ≤ rbP (rdB b off most) ∧ rbP (rdB b off most) ≤ (b.length : Int) ∧ (a2F (rdB b off most)).length ≤ b.length := by
 cases h : rdB b off most with
 | none => simp [rbP, a2F]
 | some r =>
  obtain ⟨d, p⟩ := r
  have := b0Q h
  simp only [rbP, a2F]
  omega
theorem b6u (bs : List UInt8) : ∀ (f p : Nat) (acc : List (List UInt8)), acc.length ≤ p → (a2X bs f p acc).1.length ≤ (a2X bs f p acc).2
 | 0, p, acc, h => h
 | f + 1, p, acc, h => by
  cases hb : rdB bs p 4000 with
  | none => rw [a7p hb]; exact h
  | some dn =>
   obtain ⟨d, nx⟩ := dn
   have hbs := b0Q hb
   cases hu : rdU bs nx with
   | none => rw [a9a hb hu]; exact h
   | some sk =>
    obtain ⟨s, k⟩ := sk
    by_cases hs : (s : Int) = a2o acc.length d
    ·rw [a9Z hb hu hs]
     exact b6u bs f _ _ (by rw [c9i]; simp only [List.length_cons, List.length_nil]; omega)
    ·rw [b0P hb hu hs]; exact h
theorem b1b (bs : List UInt8) : (rl bs).1.length ≤ bs.length ∧ (rl bs).2 ≤ bs.length := by
 have h1 := b6u bs (bs.length + 1) 0 [] (by simp)
 have h2 := b9N bs
 have h3 : (rl bs).1.length ≤ (rl bs).2 := h1
 omega
theorem a7e {P : Program} {us : List SV} {w : World} {vals : List Value} {bs : List UInt8} {i : Nat} (h : a8F P us w vals) (hi : us[i]? = some (.one (.dv [] (a0m bs)))) : ∃ A c, vals[i]? = some (.slice A bs.length c) ∧ a2u.Rd w w.heap.size bs [.slice A bs.length c] := by
 obtain ⟨C, L, h⟩ := h
 obtain ⟨u, h1, h2⟩ := h i _ hi
 simp only [SVr, CVr] at h2
 obtain ⟨A, c, rfl, hr⟩ := c4U h2
 exact ⟨A, c, h1, hr⟩
theorem b0X {P : Program} {us : List SV} {w : World} {vals : List Value} {n : Int} {i : Nat} (h : a8F P us w vals) (hi : us[i]? = some (.one (.dv [] (.int .i64 n)))) : vals[i]? = some (.int .i64 n) := by
 obtain ⟨C, L, h⟩ := h
 obtain ⟨u, h1, h2⟩ := h i _ hi
 simp only [SVr, CVr, Lay] at h2
 rw [h1, h2.1]
theorem b2G {ok : Nat → Prop} {w : World} {n : Int} (h1 : -9223372036854775808 ≤ n) (h2 : n ≤ 9223372036854775807) : Lay ok w (.int .i64 n) (.int .i64 n) := by
 simp only [Lay]
 exact ⟨trivial, h1, h2⟩
theorem b2R {ok : Nat → Prop} {w : World} {b : Bool} : Lay ok w (.bool b) (.bool b) := by
 simp only [Lay]
theorem b3c {C : Ctx} {L : Lyt} {w : World} {n : Int} (h1 : -9223372036854775808 ≤ n) (h2 : n ≤ 9223372036854775807) : CVr C L w (.dv [] (.int .i64 n)) (.int .i64 n) := by
 simp only [CVr]
 exact b2G h1 h2
theorem c1b {C : Ctx} {L : Lyt} {w : World} {b : Bool} : CVr C L w (.dv [] (.bool b)) (.bool b) := by
 simp only [CVr]
 exact b2R
theorem b0A {b : List UInt8} {off : Int} (hb : b.length ≤ 16777216) : PFn Tryz.prog 59 [.one (.dv [] (a0m (b))), .one (.dv [] (.int .i64 (off)))] (.tup [(false, [.dv [] (.int .i64 (uvV b off))]), (false, [.dv [] (.int .i64 (uvP b off))]), (false, [.dv [] (.bool (uvK b off))])]) := by
 have hbd := b4D b off
 refine b4n (v := .tuple [Value.int .i64 (uvV b off), .int .i64 (uvP b off), .bool (uvK b off)].toArray) rfl (fun C L w => ?_) (fun w vals hl h => ?_)
 ·simp only [SVr]
  exact ⟨_, rfl, _, _, _, rfl, ⟨_, _, rfl, b3c (by omega) (by omega), rfl⟩, by simp, _, _, _, rfl, ⟨_, _, rfl, b3c (by omega) (by omega), rfl⟩, by simp, _, _, _, rfl, ⟨_, _, rfl, c1b, rfl⟩, by simp, rfl⟩
 ·obtain ⟨A, c, h1, hr⟩ := a7e (i := 0) (bs := b) h rfl
  have h3 := b0X (i := 1) (n := off) h rfl
  obtain rfl : vals = [.slice A b.length c, .int .i64 off] := by
   match vals, hl with
   | [x, y], _ => simp at h1 h3; rw [h1, h3]
  refine (b3Y w b A b.length c off hr hb).mono ?_
  rintro e w' ⟨rfl, rfl⟩
  exact ⟨by rw [c5E], Chg.refl _ _⟩
theorem a9n {b : List UInt8} {off m : Int} (hb : b.length ≤ 16777216) : KFn Tryz.prog 58 [.one (.dv [] (a0m (b))), .one (.dv [] (.int .i64 (off))), .one (.dv [] (.int .i64 (m)))] (.tup [(false, [.key 0]), (false, [.dv [] (.int .i64 (rbP (rdB b off m)))]), (false, [.dv [] (.bool ((rdB b off m).isSome))])]) [(0, some (a0b false (a0m (a2F (rdB b off m)))))] := by
 have hbd := b4F b off m
 refine b3F (ts := [(.int .i64 (rbP (rdB b off m)), .int .i64 (rbP (rdB b off m))), (.bool (rdB b off m).isSome, .bool (rdB b off m).isSome)]) (fun t ht ok w => ?_) (fun w vals hl h => ?_)
 ·simp only [List.mem_cons, List.not_mem_nil, or_false] at ht
  rcases ht with rfl | rfl
  ·exact b2G (by omega) (by omega)
  ·exact b2R
 ·obtain ⟨A, c, h1, hr⟩ := a7e (i := 0) (bs := b) h rfl
  have h3 := b0X (i := 1) (n := off) h rfl
  have h5 := b0X (i := 2) (n := m) h rfl
  obtain rfl : vals = [.slice A b.length c, .int .i64 off, .int .i64 m] := by
   match vals, hl with
   | [x, y, z], _ => simp at h1 h3 h5; rw [h1, h3, h5]
  refine (b6l w b A b.length c off m hr hb).mono ?_
  rintro e w' ⟨A1, n1, c1, fp, rfl, ho, hf, hc⟩
  exact ⟨_, fp, by rw [c3M]; rfl, b2d ho, hf, hc⟩
theorem c8l {b : List UInt8} (hb : b.length ≤ 2097152) : KFn Tryz.prog 30 [.one (.dv [] (a0m (b)))] (.one (.key 0)) [(0, some (a0b false (a0m (b.take (rl b).2))))] := by
 refine c2v (fun w vals hl h => ?_)
 obtain ⟨A, c, h1, hr⟩ := a7e (i := 0) (bs := b) h rfl
 obtain rfl : vals = [.slice A b.length c] := by
  match vals, hl with
  | [x], _ => simp at h1; rw [h1]
 refine (c8Z w b A b.length c hr hb).mono ?_
 rintro e w' ⟨A1, n1, c1, fp, rfl, ho, hf, hc⟩
 exact ⟨_, fp, rfl, b2d ho, hf, hc⟩
theorem c5p {b : List UInt8} (hb : b.length ≤ 2097152) : PFn Tryz.prog 31 [.one (.dv [] (a0m (b)))] (.one (.dv [] (.int .i64 ((rl b).1.length : Int)))) := by
 have hcn := b1b b
 refine b4n (v := .int .i64 ((rl b).1.length : Int)) rfl (fun C L w => ?_) (fun w vals hl h => ?_)
 ·simp only [SVr]; exact b3c (by omega) (by omega)
 ·obtain ⟨A, c, h1, hr⟩ := a7e (i := 0) (bs := b) h rfl
  obtain rfl : vals = [.slice A b.length c] := by
   match vals, hl with
   | [x], _ => simp at h1; rw [h1]
  exact c2p w b A b.length c hr hb
theorem c7j {b : List UInt8} (hb : b.length ≤ 2097152) : KFn Tryz.prog 28 [.one (.dv [] (a0m (b)))] (.tup [(false, [.key 0]), (false, [.dv [] (.int .i64 ((rl b).2 : Int))])]) [(0, some (KC.mk false 22 1 (rl b).1.length ((rl b).1.flatMap fun d => [a0m d])))] := by
 have hcn := b1b b
 refine b3F (ts := [(.int .i64 ((rl b).2 : Int), .int .i64 ((rl b).2 : Int))]) (fun t ht ok w => ?_) (fun w vals hl h => ?_)
 ·simp only [List.mem_cons, List.not_mem_nil, or_false] at ht
  subst ht
  exact b2G (by omega) (by omega)
 ·obtain ⟨A, c, h1, hr⟩ := a7e (i := 0) (bs := b) h rfl
  obtain rfl : vals = [.slice A b.length c] := by
   match vals, hl with
   | [x], _ => simp at h1; rw [h1]
  refine (b4J w b A b.length c hr hb).mono ?_
  rintro e w' ⟨A1, n1, c1, fp, rfl, ho, hf, hc⟩
  refine ⟨_, fp, rfl, b7g (e := 22) (C' := a2u) (enc := fun d => [a0m d]) (by decide) (fun _ => rfl) (fun x cs f h => ?_) ho, hf, hc⟩
  obtain ⟨v, rfl⟩ : ∃ v, cs = [v] := by
   obtain ⟨u, _, _, h1, _⟩ := h
   exact ⟨u, h1⟩
  simp only [a0Q]
  exact ⟨v, [], f, [], rfl, by simp, b2d h, rfl, rfl⟩
section
variable {P : Program}
theorem a6N (w : World) (dT sT ty elem : TypeId) (sz g o dLen dCap : Nat) (a : Addr) (sLen sCap : Nat) (cur : Array Value) (t : TypeId) (cs : List Value)
  (hu : P.underlying dT = some (.slice elem)) (hs : (P.info? elem).map (·.size) = some sz)
  (hg : w.heap[g]? = some (.cells cur t (0, 0))) (hn : cs.length = Nat.min sLen dLen * sz)
  (hsrc : ∀ j v, cs[j]? = some v → w.cell? (a.add j) = some v) (hfit : o + cs.length ≤ cur.size) (h1 : ∀ v ∈ cs, v.oneCell' = true) :
  (Builtin.copy_ #[dT, sT] ty #[.slice (some ⟨g, o, none⟩) dLen dCap, .slice (some a) sLen sCap]).run P w =
   .ok (goInt (Nat.min sLen dLen)) (w.setRow g (cur.toList.take o ++ cs ++ cur.toList.drop (o + cs.length)).toArray) := by
 have hl := run_loadCells_list (P := P) w a cs hsrc
 have hst := run_storeCells_at P g o t cs 0 cur w hg (by simpa using hfit) h1
 cases hq : P.info? elem with
 | none => simp [hq] at hs
 | some i =>
  have hi : i.size = sz := by simpa [hq] using hs
  simp [Builtin.copy_, run_underlying hu, Builtin.lenOf, Builtin.firstCells, sizeOf, typeInfo, hq, hi, ← hn, hl, hst]
end
def a4c (w : World) (v : Value) (e sz n i : Nat) (xs us : List Value) (ex : Ending) (w' : World) : Prop :=
 ∃ A' c', ex = .returned (.slice A' (n + 1) c') ∧ w'.ownsRow 0 e sz (.slice A' (n + 1) c') (n + 1) (xs.take (i * sz) ++ us ++ xs.drop (i * sz)) ∧
  Chg v.ownBlock.toList w w' ∧ (v.ownBlock = (Value.slice A' (n + 1) c').ownBlock ∨ (Value.slice A' (n + 1) c').ownBlock = some w.heap.size)
set_option maxHeartbeats 4000000 in
set_option maxRecDepth 100000 in
theorem c3c {e sz by_ n vc : Nat} {z : Value} {v : Value} {xs us : List Value} {va : Addr} {w : World} (ht : Tryz.prog.underlying 75 = some (.slice e)) (hinfo : (Tryz.prog.info? e).map (fun i => (i.zero, i.size, i.bytes)) = some (some z, sz, by_)) (hzs : z.cells.size = sz) (hsz : 0 < sz)
  (hown : w.ownsRow 0 e sz v n xs) (hsrc : a2y w (some va) 1 sz us) (h1 : ∀ u ∈ us, u.oneCell' = true) (h63 : n + 1 ≤ maxLen) (hb : (n + 1) * by_ ≤ 140737488355328) :
  Calls Tryz.prog 121 #[v, .int .i64 n, .slice (some va) 1 vc] w (a4c w v e sz n n xs us) := by
 have hm : n ≤ 9223372036854775807 := by unfold maxLen at h63; omega
 have hx1 : xs.length = n * sz := hown.1
 have hso : ∀ w, (Go.sizeOf e).run Tryz.prog w = .ok sz w := fun w => by
  obtain ⟨i0, q1, q2, q3, q4⟩ := info_parts hinfo
  simp [sizeOf, typeInfo, q1, q3]
 have hfin : ∀ A' c' w', w'.ownsRow 0 e sz (.slice A' (n + 1) c') (n + 1) (xs ++ us) → Chg v.ownBlock.toList w w' → (v.ownBlock = (Value.slice A' (n + 1) c').ownBlock ∨ (Value.slice A' (n + 1) c').ownBlock = some w.heap.size) → a4c w v e sz n n xs us (.returned (.slice A' (n + 1) c')) w' := fun A' c' w' g1 g2 g3 =>
  ⟨A', c', rfl, by rw [← hx1]; simpa using g1, g2, g3⟩
 rcases hown.2 with ⟨rfl, rfl⟩ | ⟨g, cap, cur, rfl, _, hg, hnc, hcm, hcs, htk⟩
 ·have HO := Lib.hid hown
  have HF := Lib.hid hfin
  have HS := Lib.hid hsrc
  have H1 := Lib.hid h1
  clear hown hfin hsrc h1 hx1
  go_enter Tryz.func121, Tryz.ntmps121
  go_wp2_with (at_builtin; refine a8Z _ rfl _ _ 75 rfl e z sz by_ ht hinfo hzs hsz _ 0 xs rfl HO (some va) 1 vc us rfl HS H1 h63 hb ?_; intro A' c' w' h9 hchg hblk)
  all_goals (go_ret; exact HF _ _ _ h9 hchg hblk)
 ·have HO := Lib.hid hown
  have HF := Lib.hid hfin
  have HS := Lib.hid hsrc
  have H1 := Lib.hid h1
  have HG := Lib.hid hg
  have HT := Lib.hid htk
  have hc63 : cap ≤ 9223372036854775807 := by unfold maxLen at hcm; omega
  clear hown hfin hsrc h1 hx1 hg htk
  go_enter Tryz.func121, Tryz.ntmps121
  go_wp2_with (at_builtin; refine a8Z _ rfl _ _ 75 rfl e z sz by_ ht hinfo hzs hsz _ n xs rfl HO (some va) 1 vc us rfl HS H1 h63 hb ?_; intro A' c' w' h9 hchg hblk)
  all_goals (go_ret; exact HF _ _ _ h9 hchg hblk)
theorem a4B {w : World} {g : Nat} {cur : Array Value} : Chg [g] w (w.setRow g cur) := by
 refine ⟨rfl, rfl, rfl, by simp [World.setRow], fun k hk hn => ?_⟩
 simp only [World.setRow]
 rw [Array.getElem?_modify, if_neg (by simpa using fun e => hn (by simp [e]))]
set_option maxHeartbeats 4000000 in
set_option maxRecDepth 100000 in
theorem c3B {e sz by_ n i cap vb vcap e2 : Nat} {z : Value} {g : Nat} {xs us : List Value} {w : World} {cur curv : Array Value} (ht : Tryz.prog.underlying 75 = some (.slice e)) (hinfo : (Tryz.prog.info? e).map (fun i => (i.zero, i.size, i.bytes)) = some (some z, sz, by_)) (hsz : 0 < sz)
  (hxl : xs.length = n * sz) (hg : w.heap[g]? = some (.cells cur e (0, 0))) (hcm : cap ≤ maxLen) (hcs : cur.size = cap * sz) (htk : cur.toList.take (n * sz) = xs) (hx1 : ∀ u ∈ xs, u.oneCell' = true)
  (hgv : w.heap[vb]? = some (.cells curv e2 (0, 0))) (hul : us.length = sz) (hvs : curv.toList.take sz = us) (h1 : ∀ u ∈ us, u.oneCell' = true) (hne : vb ≠ g) (hi : i < n) (hroom : n + 1 ≤ cap) :
  Calls Tryz.prog 121 #[.slice (some ⟨g, 0, none⟩) n cap, .int .i64 i, .slice (some ⟨vb, 0, none⟩) 1 vcap] w (a4c w (.slice (some ⟨g, 0, none⟩) n cap) e sz n i xs us) := by
 have hso : ∀ w, (Go.sizeOf e).run Tryz.prog w = .ok sz w := fun w => by
  obtain ⟨i0, q1, q2, q3, q4⟩ := info_parts hinfo
  simp [sizeOf, typeInfo, q1, q3]
 have hsi : (Tryz.prog.info? e).map (·.size) = some sz := by
  obtain ⟨i0, q1, q2, q3, q4⟩ := info_parts hinfo
  rw [q1]; simp [q3]
 have hc63 : cap ≤ 9223372036854775807 := by unfold maxLen at hcm; omega
 have hz2 : ¬ ((i : Int) = (n : Int)) := by omega
 have hw1 : IntKind.i64.wrap ((i : Int) + 1) = (i : Int) + 1 := by rw [IntKind.wrap_i64]; omega
 have hw2 : IntKind.i64.wrap ((n : Int) + 1) = (n : Int) + 1 := by rw [IntKind.wrap_i64]; omega
 have hb1 : (0 : Int) ≤ (i : Int) + 1 := by omega
 have hin : i ≤ n := by omega
 have htn : ((i : Int) + 1).toNat = i + 1 := by omega
 have htn2 : ((n : Int) + 1).toNat = n + 1 := by omega
 have hb2 : ¬ (cap = i + 1) := by omega
 have hb3 : (i : Int) ≤ (n : Int) + 1 := by omega
 have hb4 : ¬ (cap = i) := by omega
 have hov : ∀ off lb cb, (callFunc 130 #[.slice (some ⟨vb, 0, none⟩) 1 vcap, .slice (some ⟨g, off, none⟩) lb cb]).run Tryz.prog w = .ok (.value (.bool false)) w := fun off lb cb => by
  rw [run_callFunc_extern Tryz.func130 (by kernel_rfl) (by kernel_rfl) (by kernel_rfl) (e := Extern.SlicesOverlaps.overlaps #[75, 75] #[4]) (by kernel_rfl),
   Lib.run_overlaps_apart w 75 4 e ht sz hso ⟨vb, 0, none⟩ ⟨g, off, none⟩ 1 vcap lb cb hne e2 e curv.size cur.size (by simp [World.shape?, hgv]) (by simp [World.shape?, hg]) (by rw [hcs]; exact Nat.ne_of_gt (Nat.mul_pos (by omega) hsz)) (by simp [World.frozen?, hgv]) (by simp [World.frozen?, hgv])]
  rfl
 have mixed : Tryz.prog.follows .mixedOrders = true := by kernel_rfl
 have hdl : (xs.drop (i * sz)).length = (n - i) * sz := by rw [List.length_drop, hxl, Nat.sub_mul]
 have m1 : (n + 1) * sz ≤ cap * sz := Nat.mul_le_mul_right _ hroom
 have m2 : (i + 1) * sz + (n - i) * sz = (n + 1) * sz := by rw [← Nat.add_mul]; congr 1; omega
 have m3 : i * sz + (n - i) * sz = n * sz := by rw [← Nat.add_mul]; congr 1; omega
 have m4 : (i + 1) * sz = i * sz + sz := by rw [Nat.add_mul, Nat.one_mul]
 have m5 : (n + 1) * sz = n * sz + sz := by rw [Nat.add_mul, Nat.one_mul]
 have hcur : ∀ j, j < n * sz → cur[j]? = xs[j]? := fun j hj => by rw [← htk, List.getElem?_take, if_pos hj, Array.getElem?_toList]
 obtain ⟨cur1, hcur1⟩ : ∃ cur1 : Array Value, cur1 = (cur.toList.take ((i + 1) * sz) ++ xs.drop (i * sz) ++ cur.toList.drop ((i + 1) * sz + (xs.drop (i * sz)).length)).toArray := ⟨_, rfl⟩
 obtain ⟨cur2, hcur2⟩ : ∃ cur2 : Array Value, cur2 = (cur1.toList.take (i * sz) ++ us ++ cur1.toList.drop (i * sz + us.length)).toArray := ⟨_, rfl⟩
 have hs1 : cur1.size = cap * sz := by
  rw [hcur1]
  simp only [List.size_toArray, c9i, c9j, List.length_drop, Array.length_toList, hcs, hxl]
  omega
 have hs2 : cur2.size = cap * sz := by
  rw [hcur2]
  simp only [List.size_toArray, c9i, c9j, List.length_drop, Array.length_toList, hs1, hul]
  omega
 have htk2 : cur2.toList.take ((n + 1) * sz) = xs.take (i * sz) ++ us ++ xs.drop (i * sz) := by
  have e1 : cur1.toList.take (i * sz) = xs.take (i * sz) := by
   rw [hcur1, ← htk, List.take_take, List.append_assoc, List.take_append_of_le_length (by simp only [c9j, Array.length_toList, hcs]; omega), List.take_take]
   congr 1; omega
  have e2 : (cur1.toList.drop (i * sz + us.length)).take ((n - i) * sz) = xs.drop (i * sz) := by
   rw [hcur1, hul, ← m4]
   have l1 : (cur.toList.take ((i + 1) * sz)).length = (i + 1) * sz := by simp only [c9j, Array.length_toList, hcs]; omega
   simp only [List.append_assoc]
   rw [List.drop_append_of_le_length (by omega), List.drop_eq_nil_of_le (by omega), List.nil_append, List.take_append_of_le_length (by omega), List.take_of_length_le (by omega)]
  rw [hcur2, e1]
  simp only []
  rw [← m2, m4, List.take_append, List.take_of_length_le (by simp only [c9i, c9j, hxl, hul]; omega)]
  congr 1
  rw [← e2]
  congr 1
  simp only [c9i, c9j, hxl, hul]
  omega
 have hcp1 : ∀ ty dc sc, (Builtin.copy_ #[75, 75] ty #[.slice (some ⟨g, (i + 1) * sz, none⟩) (n - i) dc, .slice (some ⟨g, i * sz, none⟩) (n + 1 - i) sc]).run Tryz.prog w.drew = .ok (goInt (Nat.min (n + 1 - i) (n - i))) (w.drew.setRow g cur1) := fun ty dc sc => by
  rw [hcur1]
  refine a6N w.drew _ _ ty e sz g ((i + 1) * sz) _ dc ⟨g, i * sz, none⟩ _ sc cur e (xs.drop (i * sz)) ht hsi hg (by rw [hdl]; congr 1; simp only [Nat.min_def]; split <;> omega) (fun j v hj => ?_) (by rw [hdl, hcs]; omega) (fun v hv => hx1 v (List.mem_of_mem_drop hv))
  rw [Addr.add_lit]
  rw [List.getElem?_drop] at hj
  have hj' := (List.getElem?_eq_some_iff.1 hj).1
  exact (cell_of_row w.drew g (i * sz + j) cur e (0, 0) hg).trans ((hcur _ (by omega)).trans hj)
 obtain ⟨W1, hW1⟩ : ∃ W1, W1 = w.drew.setRow g cur1 := ⟨_, rfl⟩
 have hgW : W1.heap[g]? = some (.cells cur1 e (0, 0)) := by rw [hW1]; exact setRow_heap _ g cur cur1 e _ hg
 have hgV : W1.heap[vb]? = some (.cells curv e2 (0, 0)) := by rw [hW1, (a4B (w := w.drew)).block vb (Array.getElem?_eq_some_iff.1 hgv).1 (by simpa using hne)]; exact hgv
 have hcp2 : ∀ ty dc, (Builtin.copy_ #[75, 75] ty #[.slice (some ⟨g, i * sz, none⟩) (n + 1 - i) dc, .slice (some ⟨vb, 0, none⟩) 1 vcap]).run Tryz.prog W1 = .ok (goInt (Nat.min 1 (n + 1 - i))) (W1.setRow g cur2) := fun ty dc => by
  rw [hcur2]
  refine a6N W1 _ _ ty e sz g (i * sz) _ dc ⟨vb, 0, none⟩ _ vcap cur1 e us ht hsi hgW (by rw [hul]; simp only [Nat.min_def]; split <;> first | omega | rfl | simp) (fun j v hj => ?_) (by rw [hul, hs1]; omega) h1
  rw [Addr.add_lit, cell_of_row _ vb _ curv e2 (0, 0) hgV, Nat.zero_add]
  have hj' := (List.getElem?_eq_some_iff.1 hj).1
  rw [← hvs, List.getElem?_take, if_pos (by omega), Array.getElem?_toList] at hj
  exact hj
 have hfin : a4c w (.slice (some ⟨g, 0, none⟩) n cap) e sz n i xs us (.returned (.slice (some ⟨g, 0, none⟩) (n + 1) cap)) (W1.setRow g cur2) := by
  refine ⟨_, _, rfl, ⟨?_, .inr ⟨g, cap, cur2, rfl, Nat.zero_le _, setRow_heap _ g cur1 cur2 e _ hgW, hroom, hcm, hs2, htk2⟩⟩, ?_, .inl rfl⟩
  ·simp only [c9i, c9j, List.length_drop, hxl, hul]; omega
  ·rw [hW1]
   exact ((Chg.refl [g] w).drew.trans a4B).trans a4B
 rw [← hW1] at hcp1
 have HF := Lib.hid hfin
 clear hcur1 hcur2 hfin hgW hgV htk2 hs2 hs1 hcur hx1 h1 hvs htk hxl hdl m1 m2 m3 m4 m5 hgv hg hcs hcm hinfo hsi hW1 hul
 go_enter Tryz.func121, Tryz.ntmps121
 go_wp2_with (simp only [hov])
 go_region_law_o (refine step_copy_runI rfl _ _ 75 75 rfl _ _ (by simp [Act.eval, Act.put]) (by simp [Act.eval, Act.put]) (hcp1 _ _ _) ?_)
 go_wp2_with (at_builtin; refine wpList_copy_runI _ rfl _ _ 75 75 rfl _ _ rfl rfl (hcp2 _ _) ?_)
 go_ret
 exact HF
set_option maxHeartbeats 4000000 in
set_option maxRecDepth 100000 in
theorem c2W {e sz by_ n i vb vcap e2 : Nat} {z : Value} {g : Nat} {xs us : List Value} {w : World} {cur curv : Array Value} (ht : Tryz.prog.underlying 75 = some (.slice e)) (hinfo : (Tryz.prog.info? e).map (fun i => (i.zero, i.size, i.bytes)) = some (some z, sz, by_)) (hzs : z.cells.size = sz) (hsz : 0 < sz)
  (hxl : xs.length = n * sz) (hg : w.heap[g]? = some (.cells cur e (0, 0))) (hcm : n ≤ maxLen) (hcs : cur.size = n * sz) (htk : cur.toList.take (n * sz) = xs) (hx1 : ∀ u ∈ xs, u.oneCell' = true)
  (hgv : w.heap[vb]? = some (.cells curv e2 (0, 0))) (hul : us.length = sz) (hvs : curv.toList.take sz = us) (h1 : ∀ u ∈ us, u.oneCell' = true) (hi : i < n) (h63 : n + 1 ≤ maxLen) (hb : (n + 1) * by_ ≤ 140737488355328) :
  Calls Tryz.prog 121 #[.slice (some ⟨g, 0, none⟩) n n, .int .i64 i, .slice (some ⟨vb, 0, none⟩) 1 vcap] w (a4c w (.slice (some ⟨g, 0, none⟩) n n) e sz n i xs us) := by
 obtain ⟨i0, q1, q2, q3, q4⟩ := info_parts hinfo
 have hso : ∀ w, (Go.sizeOf e).run Tryz.prog w = .ok sz w := fun w => by
  simp [sizeOf, typeInfo, q1, q3]
 have hsi : (Tryz.prog.info? e).map (·.size) = some sz := by
  rw [q1]; simp [q3]
 have hc63 : n + 1 ≤ 9223372036854775807 := by unfold maxLen at h63; omega
 have mixed : Tryz.prog.follows .mixedOrders = true := by kernel_rfl
 have hz2 : ¬ ((i : Int) = (n : Int)) := by omega
 have hw1 : IntKind.i64.wrap ((i : Int) + 1) = (i : Int) + 1 := by rw [IntKind.wrap_i64]; omega
 have hw2 : IntKind.i64.wrap ((n : Int) + 1) = (n : Int) + 1 := by rw [IntKind.wrap_i64]; omega
 have hw3 : IntKind.i64.wrap ((n : Int) + 1 - (i : Int)) = (n : Int) + 1 - (i : Int) := by rw [IntKind.wrap_i64]; omega
 have hb1 : (0 : Int) ≤ (i : Int) + 1 := by omega
 have hin : i ≤ n := by omega
 have htn : ((i : Int) + 1).toNat = i + 1 := by omega
 have hni : ¬ (n = i) := by omega
 have hkk : (n : Int) + 1 - (i : Int) = ((n + 1 - i : Nat) : Int) := by omega
 have hik : i + (n + 1 - i) = n + 1 := by omega
 have hdl : (xs.drop (i * sz)).length = (n - i) * sz := by rw [List.length_drop, hxl, Nat.sub_mul]
 have m2 : (i + 1) * sz + (n - i) * sz = (n + 1) * sz := by rw [← Nat.add_mul]; congr 1; omega
 have m3 : i * sz + (n - i) * sz = n * sz := by rw [← Nat.add_mul]; congr 1; omega
 have m4 : (i + 1) * sz = i * sz + sz := by rw [Nat.add_mul, Nat.one_mul]
 have m5 : (n + 1) * sz = n * sz + sz := by rw [Nat.add_mul, Nat.one_mul]
 have hcur : ∀ j, j < n * sz → cur[j]? = xs[j]? := fun j hj => by rw [← htk, List.getElem?_take, if_pos hj, Array.getElem?_toList]
 have htl : (xs.take (i * sz)).length = i * sz := by rw [c9j, hxl]; omega
 have hold : (Builtin.firstCells i0.size i (.slice (some ⟨g, 0, none⟩) i n)).run Tryz.prog w.drew = .ok (xs.take (i * sz)).toArray w.drew := by
  rw [q3]
  refine run_firstCells_some w.drew sz i ⟨g, 0, none⟩ i n (xs.take (i * sz)) (by rw [htl]) (fun j v hj => ?_)
  rw [Addr.add_lit, Nat.zero_add]
  rw [List.getElem?_take] at hj
  split at hj
  ·exact (cell_of_row w.drew g j cur e (0, 0) hg).trans ((hcur _ (by omega)).trans hj)
  ·cases hj
 obtain ⟨G, hG⟩ : ∃ G, G = grownCap w (n + 1) n e := ⟨_, rfl⟩
 have hGn : n + 1 ≤ G := by rw [hG]; exact grownCap_ge w _ _ _
 have hGm : G ≤ maxLen := by rw [hG]; exact grownCap_le_maxLen w (n + 1) n e h63
 obtain ⟨ROW, hROW⟩ : ∃ ROW : Array Value, ROW = (xs.take (i * sz)).toArray ++ Builtin.zeroCells z.cells (n + 1 - i) ++ Builtin.zeroCells z.cells (G - (n + 1)) := ⟨_, rfl⟩
 have hzl : ∀ k, (Builtin.zeroCells z.cells k).size = k * sz := fun k => by simp [Builtin.zeroCells, hzs]
 have hRs : ROW.size = G * sz := by
  rw [hROW]
  simp only [Array.size_append, List.size_toArray, htl, hzl]
  rw [← Nat.add_mul, ← Nat.add_mul]
  congr 1; omega
 obtain ⟨W1, hW1⟩ : ∃ W1, W1 = w.drew.alloc (.cells ROW e) := ⟨_, rfl⟩
 have hrz : ∀ ty, (Builtin.append_ #[75, 3] ty #[.slice (some ⟨g, 0, none⟩) i n, .int .i64 ((n : Int) + 1 - (i : Int))]).run Tryz.prog w =
   .ok (.slice (some ⟨w.heap.size, 0, none⟩) (n + 1) G) W1 := fun ty => by
  have h := Lib.run_append_grow_zeros (P := Tryz.prog) w 75 3 ty e i0 z .i64 .i64 ht (by kernel_rfl) q1 q2 (some ⟨g, 0, none⟩) i n (xs.take (i * sz)) hold (n + 1 - i) (by omega) (by omega) (by omega) (by omega) (by
   rw [q4]
   have : (n + 1 - i) * by_ ≤ (n + 1) * by_ := Nat.mul_le_mul_right _ (by omega)
   omega) (by rw [q4, hik]; exact growslice_fits (by omega) hb)
  rw [hik] at h
  rw [hkk, hW1, hROW, hG]
  exact h
 have hgW0 : W1.heap[w.heap.size]? = some (.cells ROW e (0, 0)) := by rw [hW1]; exact heap_alloc_new w.drew _
 have hgl : g < w.heap.size := (Array.getElem?_eq_some_iff.1 hg).1
 have hvl : vb < w.heap.size := (Array.getElem?_eq_some_iff.1 hgv).1
 have hc1 : Chg [] w W1 := by rw [hW1]; exact (Chg.refl [] w).drew.alloc _
 have hgV : W1.heap[vb]? = some (.cells curv e2 (0, 0)) := by rw [hc1.block vb hvl (by simp)]; exact hgv
 have hm1 : (n + 1) * sz ≤ G * sz := Nat.mul_le_mul_right _ hGn
 obtain ⟨R1, hR1⟩ : ∃ R1 : Array Value, R1 = (ROW.toList.take (i * sz) ++ us ++ ROW.toList.drop (i * sz + us.length)).toArray := ⟨_, rfl⟩
 have hs1 : R1.size = G * sz := by
  rw [hR1]
  simp only [List.size_toArray, c9i, c9j, List.length_drop, Array.length_toList, hRs, hul]
  omega
 obtain ⟨W2, hW2⟩ : ∃ W2, W2 = W1.setRow w.heap.size R1 := ⟨_, rfl⟩
 have hcpA : ∀ ty dc, (Builtin.copy_ #[75, 75] ty #[.slice (some ⟨w.heap.size, i * sz, none⟩) (n + 1 - i) dc, .slice (some ⟨vb, 0, none⟩) 1 vcap]).run Tryz.prog W1 = .ok (goInt (Nat.min 1 (n + 1 - i))) W2 := fun ty dc => by
  rw [hW2, hR1]
  refine a6N W1 _ _ ty e sz w.heap.size (i * sz) _ dc ⟨vb, 0, none⟩ _ vcap ROW e us ht hsi hgW0 (by rw [hul]; simp only [Nat.min_def]; split <;> first | omega | rfl | simp) (fun j v hj => ?_) (by rw [hul, hRs]; omega) h1
  rw [Addr.add_lit, cell_of_row _ vb _ curv e2 (0, 0) hgV, Nat.zero_add]
  have hj' := (List.getElem?_eq_some_iff.1 hj).1
  rw [← hvs, List.getElem?_take, if_pos (by omega), Array.getElem?_toList] at hj
  exact hj
 have hgW2 : W2.heap[w.heap.size]? = some (.cells R1 e (0, 0)) := by rw [hW2]; exact setRow_heap _ _ ROW R1 e _ hgW0
 have hgG : W2.heap[g]? = some (.cells cur e (0, 0)) := by
  rw [hW2, (a4B (w := W1) (g := w.heap.size)).block g (Nat.lt_of_lt_of_le hgl hc1.size) (by simp; omega), hc1.block g hgl (by simp)]; exact hg
 obtain ⟨R2, hR2⟩ : ∃ R2 : Array Value, R2 = (R1.toList.take ((i + 1) * sz) ++ xs.drop (i * sz) ++ R1.toList.drop ((i + 1) * sz + (xs.drop (i * sz)).length)).toArray := ⟨_, rfl⟩
 have hs2 : R2.size = G * sz := by
  rw [hR2]
  simp only [List.size_toArray, c9i, c9j, List.length_drop, Array.length_toList, hs1, hxl]
  omega
 obtain ⟨W3, hW3⟩ : ∃ W3, W3 = W2.drew.setRow w.heap.size R2 := ⟨_, rfl⟩
 have hcpB : ∀ ty dc sc, (Builtin.copy_ #[75, 75] ty #[.slice (some ⟨w.heap.size, (i + 1) * sz, none⟩) (n - i) dc, .slice (some ⟨g, i * sz, none⟩) (n - i) sc]).run Tryz.prog W2.drew = .ok (goInt (Nat.min (n - i) (n - i))) W3 := fun ty dc sc => by
  rw [hW3, hR2]
  refine a6N W2.drew _ _ ty e sz w.heap.size ((i + 1) * sz) _ dc ⟨g, i * sz, none⟩ _ sc R1 e (xs.drop (i * sz)) ht hsi hgW2 (by rw [hdl]; congr 1; simp) (fun j v hj => ?_) (by rw [hdl, hs1]; omega) (fun v hv => hx1 v (List.mem_of_mem_drop hv))
  rw [Addr.add_lit]
  rw [List.getElem?_drop] at hj
  have hj' := (List.getElem?_eq_some_iff.1 hj).1
  exact (cell_of_row W2.drew g (i * sz + j) cur e (0, 0) hgG).trans ((hcur _ (by omega)).trans hj)
 have htk2 : R2.toList.take ((n + 1) * sz) = xs.take (i * sz) ++ us ++ xs.drop (i * sz) := by
  have e1 : R1.toList.take ((i + 1) * sz) = xs.take (i * sz) ++ us := by
   rw [hR1, m4]
   simp only []
   rw [List.take_append_of_le_length (by simp only [c9i, c9j, Array.length_toList, hRs, hul]; omega), List.take_of_length_le (by simp only [c9i, c9j, Array.length_toList, hRs, hul]; omega)]
   congr 1
   rw [hROW]
   simp only [Array.toList_append, List.append_assoc]
   rw [List.take_append_of_le_length (by rw [htl]; exact Nat.le_refl _), List.take_of_length_le (by rw [htl]; exact Nat.le_refl _)]
  rw [hR2, e1]
  simp only []
  rw [List.take_append_of_le_length (by simp only [c9i, c9j, List.length_drop, hxl, hul]; omega), List.take_of_length_le (by simp only [c9i, c9j, List.length_drop, hxl, hul]; omega)]
 have hfin : a4c w (.slice (some ⟨g, 0, none⟩) n n) e sz n i xs us (.returned (.slice (some ⟨w.heap.size, 0, none⟩) (n + 1) G)) W3 := by
  refine ⟨_, _, rfl, ⟨?_, .inr ⟨w.heap.size, G, R2, rfl, Nat.zero_le _, by rw [hW3]; exact setRow_heap _ _ R1 R2 e _ hgW2, hGn, hGm, hs2, htk2⟩⟩, ?_, .inr rfl⟩
  ·simp only [c9i, c9j, List.length_drop, hxl, hul]; omega
  ·have c3 : Chg [w.heap.size] W1 W3 := by rw [hW3, hW2]; exact (a4B.drew).trans a4B
   refine ⟨c3.os.trans hc1.os, c3.tape.trans hc1.tape, c3.output.trans hc1.output, Nat.le_trans hc1.size c3.size, fun k hk hn => ?_⟩
   rw [c3.block k (Nat.lt_of_lt_of_le hk hc1.size) (by simp; omega), hc1.block k hk (by simp)]
 have HF := Lib.hid hfin
 have hGi : ¬ (G = i) := by omega
 have hGim : ¬ (G = i + 1) := by omega
 have hG63 : G ≤ 9223372036854775807 := by unfold maxLen at hGm; omega
 obtain ⟨H, hH⟩ : ∃ H, H = w.heap.size := ⟨_, rfl⟩
 rw [← hH] at hrz hcpA hcpB HF
 clear hH hfin hgW0 hgV hgW2 hgG htk2 hs2 hs1 hcur hx1 h1 hvs htk hxl hdl m2 m3 m4 m5 hgv hg hcs hcm hinfo hsi hW1 hW2 hW3 hul hR1 hR2 hROW hRs hzl hold htl hc1 hgl hvl hm1 hkk hik hG q1 q2 q3 q4 hzs
 go_enter Tryz.func121, Tryz.ntmps121
 go_wp2_with (first
  | (at_builtin; refine Lib.wpList_append_run _ rfl _ _ _ _ rfl _ _ rfl rfl _ _ (hrz _) ?_)
  | (at_builtin; refine wpList_copy_runI _ rfl _ _ 75 75 rfl _ _ rfl rfl (hcpA _ _) ?_))
 go_region_law_o (refine step_copy_runI rfl _ _ 75 75 rfl _ _ (by simp [Act.eval, Act.put]) (by simp [Act.eval, Act.put]) (hcpB _ _ _) ?_)
 go_wp2
 go_ret
 exact HF
theorem c1n {e sz by_ n i e2 : Nat} {z : Value} {v u : Value} {xs us : List Value} {w : World} (ht : Tryz.prog.underlying 75 = some (.slice e)) (hinfo : (Tryz.prog.info? e).map (fun i => (i.zero, i.size, i.bytes)) = some (some z, sz, by_)) (hzs : z.cells.size = sz) (hsz : 0 < sz)
  (hown : w.ownsRow 0 e sz v n xs) (hx1 : ∀ u ∈ xs, u.oneCell' = true) (hv : w.ownsRow 0 e2 sz u 1 us) (h1 : ∀ u ∈ us, u.oneCell' = true) (hne : ∀ b, v.ownBlock = some b → u.ownBlock ≠ some b) (hi : i ≤ n) (h63 : n + 1 ≤ maxLen) (hb : (n + 1) * by_ ≤ 140737488355328) :
  Calls Tryz.prog 121 #[v, .int .i64 i, u] w (a4c w v e sz n i xs us) := by
 have hul : us.length = sz := by rw [hv.1, Nat.one_mul]
 rcases hv.2 with ⟨_, h⟩ | ⟨vb, vcap, curv, rfl, _, hgv, hvc, _, _, hvt⟩
 ·cases h
 ·rw [Nat.one_mul] at hvt
  rcases Nat.lt_or_ge i n with hlt | hge
  ·rcases hown.2 with ⟨_, h⟩ | ⟨g, cap, cur, rfl, _, hg, hnc, hcm, hcs, htk⟩
   ·omega
   ·rcases Nat.lt_or_ge n cap with h | h
    ·exact c3B ht hinfo hsz hown.1 hg hcm hcs htk hx1 hgv hul hvt h1 (fun e => hne g rfl (by rw [e]; rfl)) hlt h
    ·have e1 : cap = n := by omega
     subst e1
     exact c2W ht hinfo hzs hsz hown.1 hg hcm hcs htk hx1 hgv hul hvt h1 hlt h63 hb
  ·have e1 : i = n := by omega
   subst e1
   refine c3c ht hinfo hzs hsz hown ⟨by rw [Nat.one_mul]; exact hul, fun _ => ⟨vb, 0, rfl, fun j x hj => ?_⟩⟩ h1 h63 hb
   rw [Nat.zero_add, cell_of_row _ vb _ curv e2 (0, 0) hgv]
   have hj' := (List.getElem?_eq_some_iff.1 hj).1
   rw [← hvt, List.getElem?_take, if_pos (by omega), Array.getElem?_toList] at hj
   exact hj
section
variable {P : Program} {C : Ctx} {nt : Nat} {σ : St} {L : Lyt} {a : Act} {w : World} {o : Oper} {x y y2 : Operand} {T : TT}
theorem a7A {w : World} : ∀ (k : Nat) {ds : List DV} {vs : List Value} {f : List Nat}, a0Q w ds vs f → ∃ f1 f2, f = f1 ++ f2 ∧ a0Q w (ds.take k) (vs.take k) f1 ∧ a0Q w (ds.drop k) (vs.drop k) f2
 | 0, ds, vs, f, h => ⟨[], f, rfl, by simp [a0Q], by simpa using h⟩
 | k + 1, [], vs, f, h => by
  simp only [a0Q] at h
  obtain ⟨rfl, rfl⟩ := h
  exact ⟨[], [], rfl, by simp [a0Q], by simp [a0Q]⟩
 | k + 1, d :: ds, _, _, h => by
  simp only [a0Q] at h
  obtain ⟨v, vs', f1, f2, rfl, rfl, h1, h2⟩ := h
  obtain ⟨g1, g2, rfl, h3, h4⟩ := a7A k h2
  refine ⟨f1 ++ g1, g2, by simp, ?_, by simpa using h4⟩
  simp only [List.take_succ_cons, a0Q]
  exact ⟨v, _, f1, g1, rfl, rfl, h1, h3⟩
def a5s (c : List DV) (p : Nat) (us : List DV) : List DV := c.take p ++ us ++ c.drop p
structure InsOk (P : Program) (f e sz by_ : Nat) : Prop where
 pos : 0 < sz
 lt : e < 1000000
 run : ∀ {n i e2 : Nat} {v u : Value} {xs us : List Value} {w : World}, w.ownsRow 0 e sz v n xs → (∀ u ∈ xs, u.oneCell' = true) → w.ownsRow 0 e2 sz u 1 us → (∀ u ∈ us, u.oneCell' = true) → (∀ b, v.ownBlock = some b → u.ownBlock ≠ some b) → i ≤ n → n + 1 ≤ maxLen → (n + 1) * by_ ≤ 140737488355328 →
  Calls P f #[v, .int .i64 i, u] w (a4c w v e sz n i xs us)
theorem c3j {f e sz by_ d k j : Nat} {ats : Array TypeId} {c c2 : KC} {J : List Nat} {p : Int} (hf : InsOk P f e sz by_) (ho : o.op = .call { callee := .value (.func f), args := #[x, y, y2], argTypes := ats }) (hc : ∀ (args : Array Value) (w : World), (callFunc f args).run P w = .ok (.enter f args) w) (hd : o.dst = some d) (hnt : Nat.blt d nt = true)
  (hx : Ev P C nt σ x (.one (.key k))) (hk : lkk σ k = some c) (hce : c.e = e) (hcs : c.sz = sz) (hp : Ev P C nt σ y (.one (.dv J (.int .i64 p)))) (hp0 : 0 ≤ p) (hp1 : p ≤ c.n) (hy : Ev P C nt σ y2 (.one (.key j))) (hj : lkk σ j = some c2) (hcs2 : c2.sz = sz) (hn2 : c2.n = 1) (he2 : Nat.blt c2.e 1000000 = true) (hkj : k ∉ [j]) (hb : (c.n + 1) * by_ ≤ 140737488355328) (h63 : c.n + 1 ≤ 9223372036854775807) :
  Ef P C nt o σ (fun σ' => σ' = (σ.mut k [j] false ⟨false, e, sz, c.n + 1, a5s c.cs (p.toNat * sz) c2.cs⟩).put d (.one (.key k))) := Ef.mk fun L a w hr K Q hK => by
 have hd' : d < nt := by simpa [Nat.blt_eq] using hnt
 have hkj' : k ≠ j := by simpa using hkj
 have e1 := hx.run L a w hr
 have e2 := hp.run L a w hr
 have e3 := hy.run L a w hr
 simp only [SVr, CVr, Lay] at e1 e2 e3
 have ho1 := (hr.ks k c hk).1
 have ho2 := (hr.ks j c2 hj).1
 simp only [Own] at ho1 ho2
 obtain ⟨vs, f1, q1, q2, q3, q4, q5⟩ := ho1
 obtain ⟨us, f2, r1, r2, r3, r4, r5⟩ := ho2
 subst hce; subst hcs
 have hrow := q4.1 hf.lt
 have hrow2 := r4.1 (by simpa [Nat.blt_eq] using he2)
 rw [hn2, hcs2] at hrow2
 have hkn := hr.kn k c hk
 have hjn := hr.kn j c2 hj
 have hkk := hr.kk k j c c2 hk hj hkj'
 rw [q1] at hkn; rw [r1] at hjn
 obtain ⟨n1, n2, n3⟩ := List.nodup_append.1 hkn
 obtain ⟨_, n5, _⟩ := List.nodup_append.1 hjn
 have one : ∀ {ds : List DV} {vs : List Value} {f : List Nat}, a0Q w ds vs f → ∀ u ∈ vs, u.oneCell' = true := fun h => a8J (ok := fun _ => True) _ _ (a7K _ _ _ h (fun _ _ => trivial))
 have hpn : ((p.toNat : Nat) : Int) = p := Int.toNat_of_nonneg hp0
 refine a7R (xs := [x, y, y2]) ho hc ?_
 simp only [List.map_cons, List.map_nil, e1, e2.1, e3]
 rw [← hpn]
 refine (hf.run (i := p.toNat) hrow (one q5) hrow2 (one r5) (fun b hb' hb2 => hkk b (by rw [q1, hb']; simp) (by rw [r1, hb2]; simp)) (by omega) (by simpa [maxLen] using h63) hb).mono ?_
 rintro ex w' ⟨A', c', rfl, g1, g2, g3⟩
 refine ⟨_, rfl, ?_⟩
 obtain ⟨fa, fb, rfl, t1, t2⟩ := a7A (p.toNat * c.sz) q5
 have hlt1 : ∀ b ∈ fa ++ fb, b < w.heap.size := a4E _ _ _ q5
 have hlt2 : ∀ b ∈ f2, b < w.heap.size := a4E _ _ _ r5
 have hf2k : ∀ b ∈ f2, b ∉ L.fp k := fun b hb' hm => hkk b hm (by rw [r1]; simp [hb'])
 have keep : ∀ b ∈ fa ++ fb, w'.heap[b]? = w.heap[b]? := fun b hb' => g2.block b (hlt1 b hb') (fun hm => n3 b hm b hb' rfl)
 have keep2 : ∀ b ∈ f2, w'.heap[b]? = w.heap[b]? := fun b hb' => g2.block b (hlt2 b hb') (fun hm => hf2k b hb' (by rw [q1]; simp [hm]))
 have k1 := a2V _ _ _ t1 (fun b hb' => keep b (by simp [hb']))
 have k2 := a2V _ _ _ t2 (fun b hb' => keep b (by simp [hb']))
 have k3 := a2V _ _ _ r5 keep2
 have hlen : (a5s c.cs (p.toNat * c.sz) c2.cs).length = (c.n + 1) * c.sz := by
  have : c2.cs.length = c.sz := by rw [r3, hn2, Nat.one_mul, hcs2]
  have m : p.toNat * c.sz ≤ c.n * c.sz := Nat.mul_le_mul_right _ (by omega)
  simp only [a5s, c9i, c9j, List.length_drop, this, q3, Nat.add_mul, Nat.one_mul]
  omega
 have hown' : Own w' (.sl c.e c.sz (c.n + 1) (a5s c.cs (p.toNat * c.sz) c2.cs)) (.slice A' (c.n + 1) c') ((Value.slice A' (c.n + 1) c').ownBlock.toList ++ (fa ++ f2 ++ fb)) := by
  unfold Own
  exact ⟨_, fa ++ f2 ++ fb, rfl, q2, hlen, a3I hf.lt g1, a3n _ _ _ _ _ _ (a3n _ _ _ _ _ _ k1 k3) k2⟩
 obtain ⟨p1, p2, p3⟩ := List.nodup_append.1 n2
 have hnod : (fa ++ f2 ++ fb).Nodup := by
  refine List.nodup_append.2 ⟨List.nodup_append.2 ⟨p1, n5, fun x hx' y hy' e' => hf2k y hy' (by rw [q1, ← e']; simp [hx'])⟩, p2, fun x hx' y hy' e' => ?_⟩
  rcases List.mem_append.1 hx' with hx' | hx'
  ·exact p3 x hx' y hy' e'
  ·exact hf2k x hx' (by rw [q1, e']; simp [hy'])
 have hset := hr.setkey (k := k) (c := c) (c' := ⟨false, c.e, c.sz, c.n + 1, a5s c.cs (p.toNat * c.sz) c2.cs⟩) (js := [j]) (same := false) hk hkj (g2.mono (fun b hb' => by rw [q1]; simp [hb'])) hown'
  (by
   refine List.nodup_append.2 ⟨?_, hnod, fun x hx' y hy' e' => ?_⟩
   ·cases (Value.slice A' (c.n + 1) c').ownBlock <;> simp
   ·subst e'
    rcases g3 with hb' | hb'
    ·rw [← hb'] at hx'
     rcases List.mem_append.1 hy' with hy' | hy'
     ·rcases List.mem_append.1 hy' with hy' | hy'
      ·exact n3 x hx' x (by simp [hy']) rfl
      ·exact hf2k x hy' (by rw [q1]; simp [hx'])
     ·exact n3 x hx' x (by simp [hy']) rfl
    ·rw [hb'] at hx'
     simp only [Option.toList_some, List.mem_singleton] at hx'
     subst hx'
     rcases List.mem_append.1 hy' with hy' | hy'
     ·rcases List.mem_append.1 hy' with hy' | hy'
      ·exact absurd (hlt1 w.heap.size (by simp [hy'])) (by omega)
      ·exact absurd (hlt2 _ hy') (by omega)
     ·exact absurd (hlt1 w.heap.size (by simp [hy'])) (by omega))
  (fun b hb' => by
   rcases List.mem_append.1 hb' with hb' | hb'
   ·rcases g3 with hbl | hbl
    ·rw [← hbl] at hb'; exact .inl (by rw [q1]; simp [hb'])
    ·rw [hbl] at hb'
     simp only [Option.toList_some, List.mem_singleton] at hb'
     exact .inr (.inr (by omega))
   ·rcases List.mem_append.1 hb' with hb' | hb'
    ·rcases List.mem_append.1 hb' with hb' | hb'
     ·exact .inl (by rw [q1]; simp [hb'])
     ·exact .inr (.inl ⟨j, by simp, by rw [r1]; simp [hb']⟩)
    ·exact .inl (by rw [q1]; simp [hb'])) (by simp [hj]) (by simp) (by simp)
 refine hK { L with fp := fun i => if i = k then (Value.slice A' (c.n + 1) c').ownBlock.toList ++ (fa ++ f2 ++ fb) else L.fp i, rv := fun i => if i = k then .slice A' (c.n + 1) c' else L.rv i } _ _ _ rfl ?_
 rw [hd]
 exact hset.put (v := .one (.key k)) (r := .slice A' (c.n + 1) c') hd' (by simp [SVr, CVr]) (by simp [SV.keys, CV.keys, a5o]) (by simp [SV.boxes])
theorem b5b {Q : Exit → St → Prop} {all : Array Oper} {rest : List Oper} {tm : List (Nat × SV)} {bx : List (Nat × TypeId × List CV)} {ks : List (Nat × Option KC)} {f e sz by_ d k j n : Nat} {ats : Array TypeId} {c c2 : KC} {J : List Nat} {p : Int} {cs : List DV} (hf : InsOk P f e sz by_) (hg : o.guard = none) (ho : o.op = .call { callee := .value (.func f), args := #[x, y, y2], argTypes := ats }) (hc : ∀ (args : Array Value) (w : World), (callFunc f args).run P w = .ok (.enter f args) w) (hd : o.dst = some d) (hnt : Nat.blt d nt = true)
  (hx : Ev P C nt ⟨tm, bx, ks⟩ x (.one (.key k))) (hk : lkk ⟨tm, bx, ks⟩ k = some c) (hce : c.e = e) (hcs : c.sz = sz) (hp : Ev P C nt ⟨tm, bx, ks⟩ y (.one (.dv J (.int .i64 p)))) (hp0 : 0 ≤ p) (hp1 : p ≤ c.n) (hy : Ev P C nt ⟨tm, bx, ks⟩ y2 (.one (.key j))) (hj : lkk ⟨tm, bx, ks⟩ j = some c2) (hcs2 : c2.sz = sz) (hn2 : c2.n = 1) (he2 : Nat.blt c2.e 1000000 = true) (hkj : k ∉ [j]) (hb : (c.n + 1) * by_ ≤ 140737488355328) (h63 : c.n + 1 ≤ 9223372036854775807) (hn : c.n + 1 = n) (hcc : a5s c.cs (p.toNat * sz) c2.cs = cs)
  (h : Ops P C nt Q all rest ⟨(d, .one (.key k)) :: a0p [k, j] [k, j] tm, a0k [k, j] [k, j] bx, (k, some ⟨false, e, sz, n, cs⟩) :: (j, none) :: ks⟩) : Ops P C nt Q all (o :: rest) ⟨tm, bx, ks⟩ :=
 a3L hg (c3j hf ho hc hd hnt hx hk hce hcs hp hp0 hp1 hy hj hcs2 hn2 he2 hkj hb h63) (by subst hn; subst hcc; exact h)
end
theorem a2L {P : Program} {C : Ctx} {nt : Nat} {σ : St} {x : Operand} {k : Nat} {c : KC} {d : DV} (h : Ev P C nt σ x (.one (.key k))) (hk : lkk σ k = some c) (hd : DV.sl c.e c.sz c.n c.cs = d) : Ev P C nt σ x (.one (.dv [k] d)) := by subst hd; exact a8Y h hk
theorem b6v {sz by_ : Nat} {zc : List CV} (he : look a4v.el 119 = some (sz, by_, zc)) (hl0 : zc.length = sz) (hpos : 0 < sz) : InsOk Tryz.prog 121 119 sz by_ := by
 obtain ⟨inf, z, g1, g2, g3, g4, g5⟩ := hT.el _ _ _ _ he
 refine ⟨hpos, hT.lt _ _ he, fun hown hx1 hv h1 hne hi h63 hb => c1n (z := z) (by kernel_rfl) (by rw [g1]; simp [g2, g3, g4]) (by
  have := a7f g5
  simp only [Array.length_toList] at this
  rw [this, hl0]) hpos hown hx1 hv h1 hne hi h63 hb⟩
section
variable {P : Program} {C : Ctx} {nt : Nat} {σ : St} {L : Lyt} {a : Act} {w : World} {o o1 o2 : Oper} {x y : Operand} {T : TT}
theorem b1N {t : Array Value} {i d : Nat} {r : Value} (e : i ≠ d) : (t.setIfInBounds d r).getD i undef = t.getD i undef := by
 rw [Array.getD_eq_getD_getElem?, Array.getD_eq_getD_getElem?, Array.getElem?_setIfInBounds_ne (fun e' => e e'.symm)]
theorem b4j {vs rs : List Nat} {i : Nat} {x : TypeId × List CV} : ∀ {bx : List (Nat × TypeId × List CV)}, look (a0k vs rs bx) i = some x → ∃ y, look bx i = some y
 | [], h => by simp [a0k, look] at h
 | p :: bx, h => by
  simp only [a0k, List.map_cons, a0W] at h
  obtain ⟨b, q⟩ := p
  rw [a0W]
  split
  ·exact ⟨_, rfl⟩
  ·rename_i e
   rw [if_neg e] at h
   exact b4j h
structure SlOk (P : Program) (C : Ctx) (nt : Nat) (σ : St) (o : Oper) (j sz lo hi : Nat) : Prop where
 run : ∀ L a w, Rel P C nt L σ a w → ∀ A n c, L.rv j = .slice A n c → ∀ w', (execOp a.eval o).run P w' = .ok (.value (sliced A lo hi c sz)) w'
theorem b6f {j : Nat} {c2 : KC} (hr : Rel P C nt L σ a w) (hj : lkk σ j = some c2) {A : Option Addr} {n c : Nat} (e : L.rv j = .slice A n c) : n = c2.n ∧ c2.n ≤ c := by
 have ho := (hr.ks j c2 hj).1
 simp only [Own] at ho
 obtain ⟨vs, f, _, _, _, q4, _⟩ := ho
 rcases (a6K q4).2 with ⟨g1, g2⟩ | ⟨g, cap, cur, t, fz, g1, g2, g3, g4, g5, g6⟩
 ·rw [e] at g1
  simp only [Value.slice.injEq] at g1
  exact ⟨by rw [g2]; exact g1.2.1, by omega⟩
 ·rw [e] at g1
  simp only [Value.slice.injEq] at g1
  exact ⟨g1.2.1, by omega⟩
theorem b3u (hT : TTOk P T) {t e sz by_ j : Nat} {zc : List CV} {c2 : KC} {J : List Nat} {z : Int} (ho : o.op = .slice t x none (some y) none) (h : look T.sl t = some e) (he : look T.el e = some (sz, by_, zc)) (hx : Ev P C nt σ x (.one (.key j))) (hj : lkk σ j = some c2) (hy : Ev P C nt σ y (.one (.dv J (.int .i64 z)))) (h0 : 0 ≤ z) (h1 : z ≤ c2.n) : SlOk P C nt σ o j sz 0 z.toNat := ⟨fun L a w hr A n c e1 w' => by
 have h2 := hx.run L a w hr
 have h3 := hy.run L a w hr
 simp only [SVr, CVr, Lay] at h2 h3
 obtain ⟨k1, k2⟩ := b2l (hT.sl t e h)
 obtain ⟨q1, q2⟩ := b6f hr hj e1
 rw [e1] at h2
 unfold execOp
 simp only [ho, Option.map_none, Option.map_some, h2, h3.1, Sem.run_bind, run_sliceAt_slice _ _ _ _ _ _ k1, run_slice_h w' t A n c k1 .i64 z h0 (by omega), k2, b1v hT he, Result.andThen_ok, Sem.run_pure]⟩
theorem b4x (hT : TTOk P T) {t e sz by_ j : Nat} {zc : List CV} {c2 : KC} {J : List Nat} {z : Int} (ho : o.op = .slice t x (some y) none none) (h : look T.sl t = some e) (he : look T.el e = some (sz, by_, zc)) (hx : Ev P C nt σ x (.one (.key j))) (hj : lkk σ j = some c2) (hy : Ev P C nt σ y (.one (.dv J (.int .i64 z)))) (h0 : 0 ≤ z) (h1 : z ≤ c2.n) : SlOk P C nt σ o j sz z.toNat c2.n := ⟨fun L a w hr A n c e1 w' => by
 have h2 := hx.run L a w hr
 have h3 := hy.run L a w hr
 simp only [SVr, CVr, Lay] at h2 h3
 obtain ⟨k1, k2⟩ := b2l (hT.sl t e h)
 obtain ⟨q1, q2⟩ := b6f hr hj e1
 rw [e1] at h2
 unfold execOp
 rw [← q1]
 simp only [ho, Option.map_none, Option.map_some, h2, h3.1, Sem.run_bind, run_sliceAt_slice _ _ _ _ _ _ k1, run_slice_l w' t A n c k1 .i64 z h0 (by omega), k2, b1v hT he, Result.andThen_ok, Sem.run_pure]⟩
def a5m (cs : List DV) (l m : Nat) : List DV := cs.take l ++ (List.replicate m .hole ++ (cs.drop l).drop m)
theorem a9w {w : World} : ∀ (vs : List Value), (∀ v ∈ vs, v.oneCell' = true) → a0Q w (List.replicate vs.length .hole) vs []
 | [], _ => by simp [a0Q]
 | v :: vs, h => by
  simp only [List.length_cons, List.replicate_succ, a0Q]
  exact ⟨v, vs, [], [], rfl, rfl, by simp [Own, h v (by simp)], a9w vs fun u hu => h u (by simp [hu])⟩
theorem b4Y {Q : Exit → St → Prop} {all : Array Oper} {rest : List Oper} {tm : List (Nat × SV)} {bx : List (Nat × TypeId × List CV)} {ks : List (Nat × Option KC)} {t e sz by_ d d1 k j s lo hi n : Nat} {zc : List CV} {c c2 : KC} {cs c2s : List DV} (hT : TTOk P T)
  (hg1 : o1.guard = none) (hd1 : o1.dst = some d1) (hn1 : Nat.blt d1 nt = true) (hs : SlOk P C nt ⟨tm, bx, ks⟩ o1 j sz lo hi)
  (hg2 : o2.guard = none) (hd : o2.dst = some d) (ho : o2.op = .call { callee := .builtin .append, args := #[x, .tmp d1], argTypes := #[t, t] }) (hnt : Nat.blt d nt = true) (ht : look T.sl t = some e) (he : look T.el e = some (sz, by_, zc)) (hl0 : zc.length = sz)
  (hx : Ev P C nt ⟨(d1, .any) :: tm, bx, ks⟩ x (.one (.key k))) (hk : lkk ⟨tm, bx, ks⟩ k = some c) (hce : c.e = e) (hcs : c.sz = sz) (hj : lkk ⟨tm, bx, ks⟩ j = some c2) (hcs2 : c2.sz = sz) (he2 : Nat.blt c2.e 1000000 = true) (hkj : k ∉ [j]) (hh : c2.h = false)
  (hsl : look tm s = some (.one (.key j))) (hsd : Nat.beq s d1 = false ∧ Nat.beq s d = false) (hlh : lo ≤ hi) (hhi : hi ≤ c2.n) (hb : (c.n + (hi - lo)) * by_ ≤ 140737488355328) (h63 : c.n + (hi - lo) ≤ 9223372036854775807) (hn : c.n + (hi - lo) = n) (hcc : c.cs ++ sub (lo * sz) ((hi - lo) * sz) c2.cs = cs) (hcc2 : a5m c2.cs (lo * sz) ((hi - lo) * sz) = c2s)
  (h : Ops P C nt Q all rest ⟨(s, .one (.key j)) :: (d, .one (.key k)) :: a0p [k, j] [k, j] ((d1, .any) :: tm), a0k [k, j] [k, j] bx, (j, some ⟨false, c2.e, sz, c2.n, c2s⟩) :: (k, some ⟨false, e, sz, n, cs⟩) :: (j, none) :: ks⟩) : Ops P C nt Q all (o1 :: o2 :: rest) ⟨tm, bx, ks⟩ := Ops.mk fun L a w hr => by
 subst hn; subst hcc; subst hcc2
 have hkj' : k ≠ j := by simpa using hkj
 refine wpList_plain hg1 fun K1 hK1 => ?_
 -- what stands in memory
 have ho1 := (hr.ks k c hk).1
 have ho2 := (hr.ks j c2 hj).1
 simp only [Own] at ho1 ho2
 obtain ⟨vs, f1, q1, q2, q3, q4, q5⟩ := ho1
 obtain ⟨us, f2, r1, r2, r3, r4, r5⟩ := ho2
 subst hce; subst hcs
 obtain ⟨inf, z, g1, g2, g3, g4, g5⟩ := hT.el c.e c.sz by_ zc he
 have hE : c.e < 1000000 := hT.lt _ _ he
 have hrow := q4.1 hE
 have hE2 : c2.e < 1000000 := by simpa [Nat.blt_eq] using he2
 have hrow2 := r4.1 hE2
 rw [hcs2] at hrow2 r3
 have hul : us.length = c2.n * c.sz := hrow2.1
 have one : ∀ {ds : List DV} {vs : List Value} {f : List Nat}, a0Q w ds vs f → ∀ u ∈ vs, u.oneCell' = true := fun h => a8J (ok := fun _ => True) _ _ (a7K _ _ _ h (fun _ _ => trivial))
 obtain ⟨A, m, cap, hA⟩ : ∃ A m cap, L.rv j = .slice A m cap := by
  rcases hrow2.2 with ⟨g, _⟩ | ⟨g, cap, cur, g, _⟩
  ·exact ⟨_, _, _, g⟩
  ·exact ⟨_, _, _, g⟩
 have hrun := hs.run L a w hr A m cap hA w
 have hm1 : (hi - lo) * c.sz + lo * c.sz = hi * c.sz := by rw [← Nat.add_mul]; congr 1; omega
 have hm2 : hi * c.sz ≤ c2.n * c.sz := Nat.mul_le_mul_right _ hhi
 have hm3 : hi * c.sz + (c2.n - hi) * c.sz = c2.n * c.sz := by rw [← Nat.add_mul]; congr 1; omega
 obtain ⟨A1, c1, e1, hrd⟩ : ∃ A1 c1, sliced A lo hi cap c.sz = .slice A1 (hi - lo) c1 ∧ a2y w A1 (hi - lo) c.sz (sub (lo * c.sz) ((hi - lo) * c.sz) us) := by
  refine ⟨_, _, rfl, by rw [a4t _ _ _ (by omega)], fun hpos => ?_⟩
  rcases hrow2.2 with ⟨g1, g2⟩ | ⟨g, cap', cur, g1, _, g3, g4, g5, g6, g7⟩
  ·omega
  ·rw [hA] at g1
   simp only [Value.slice.injEq] at g1
   obtain ⟨rfl, rfl, rfl⟩ := g1
   have hne : ¬ cap = lo := by omega
   refine ⟨g, lo * c.sz, by rw [if_neg hne]; simp only [Option.map_some, a5h, Nat.zero_add], fun i v hi' => ?_⟩
   have hlt : i < (hi - lo) * c.sz := by
    have := (List.getElem?_eq_some_iff.1 hi').1
    rw [a4t _ _ _ (by omega)] at this
    exact this
   rw [a9l _ _ _ _ hlt] at hi'
   rw [cell_of_row _ g _ cur c2.e (0, 0) g3]
   rw [← g7, List.getElem?_take, if_pos (by omega), Array.getElem?_toList] at hi'
   exact hi'
 refine a4U hrun (hK1 _ _ ?_)
 have hr1 : Rel P C nt L ⟨(d1, .any) :: tm, bx, ks⟩ (a.put o1.dst (sliced A lo hi cap c.sz)) w := by
  rw [hd1]
  exact hr.put (v := .any) (by simpa [Nat.blt_eq] using hn1) (by simp only [SVr]) (by simp [SV.keys]) (by simp [SV.boxes])
 have ex := hx.run L _ w hr1
 simp only [SVr, CVr] at ex
 have ey : (a.put o1.dst (sliced A lo hi cap c.sz)).eval (.tmp d1) = .slice A1 (hi - lo) c1 := by
  rw [hd1, ← e1]
  have hsz := hr.sz
  have hlt : d1 < nt := by simpa [Nat.blt_eq] using hn1
  simp [Act.eval, Act.put, hsz, hlt]
 refine wpList_plain hg2 fun K hK => ?_
 have hzs : z.cells.size = c.sz := by
  have := a7f g5
  simp only [Array.length_toList] at this
  rw [this, hl0]
 refine b2c w x (.tmp d1) t ho c.e z c.sz by_ (hT.sl t c.e ht) (by rw [g1]; simp [g2, g3, g4]) hzs q2 (L.rv k) c.n vs ex hrow A1 (hi - lo) c1 _ ey hrd (fun u hu => one r5 u (List.mem_of_mem_drop (List.mem_of_mem_take hu))) (by simpa [maxLen] using h63) hb ?_
 intro A' c' w' h9 hchg hblk
 refine hK _ _ ?_
 -- the parts
 obtain ⟨fa, fr, rfl, ta, tr⟩ := a7A (lo * c.sz) r5
 obtain ⟨fb, fc, rfl, tb, tc⟩ := a7A ((hi - lo) * c.sz) tr
 have hkn := hr.kn k c hk
 have hjn := hr.kn j c2 hj
 have hkk := hr.kk k j c c2 hk hj hkj'
 rw [q1] at hkn; rw [r1] at hjn
 obtain ⟨n1, n2, n3⟩ := List.nodup_append.1 hkn
 obtain ⟨p1, p2, p3⟩ := List.nodup_append.1 hjn
 obtain ⟨pa, pbc, p4⟩ := List.nodup_append.1 p2
 obtain ⟨pb, pc, p5⟩ := List.nodup_append.1 pbc
 have hltk : ∀ b ∈ L.fp k, b < w.heap.size := fun b hb' => hr.k_lt hk b hb'
 have hltj : ∀ b ∈ L.fp j, b < w.heap.size := fun b hb' => hr.k_lt hj b hb'
 have inj : ∀ b, b ∈ fa ++ (fb ++ fc) → b ∈ L.fp j := fun b hb' => by rw [r1]; simp only [List.mem_append] at hb' ⊢; exact .inr hb'
 have ink : ∀ b, b ∈ f1 → b ∈ L.fp k := fun b hb' => by rw [q1]; simp [hb']
 have keepk : ∀ b ∈ f1, w'.heap[b]? = w.heap[b]? := fun b hb' => hchg.block b (hltk b (ink b hb')) (fun hm => n3 b hm b hb' rfl)
 have keepj : ∀ b ∈ L.fp j, w'.heap[b]? = w.heap[b]? := fun b hb' => hchg.block b (hltj b hb') (fun hm => hkk b (by rw [q1]; simp [hm]) hb')
 have k1 := a2V _ _ _ q5 keepk
 have k2 := a2V _ _ _ tb (fun b hb' => keepj b (inj b (by simp [hb'])))
 have hbl : ∀ b, b ∈ (Value.slice A' (c.n + (hi - lo)) c').ownBlock.toList → b ∈ (L.rv k).ownBlock.toList ∨ b = w.heap.size := fun b hb' => by
  rcases hblk with g | g
  ·rw [← g] at hb'; exact .inl hb'
  ·rw [g] at hb'; simp only [Option.toList_some, List.mem_singleton] at hb'; exact .inr hb'
 have hown' : Own w' (.sl c.e c.sz (c.n + (hi - lo)) (c.cs ++ sub (lo * c.sz) ((hi - lo) * c.sz) c2.cs)) (.slice A' (c.n + (hi - lo)) c') ((Value.slice A' (c.n + (hi - lo)) c').ownBlock.toList ++ (f1 ++ fb)) := by
  unfold Own
  refine ⟨_, f1 ++ fb, rfl, q2, ?_, a3I hE h9, a3n _ _ _ _ _ _ k1 k2⟩
  rw [c9i, q3, a4t _ _ _ (by rw [r3]; omega), Nat.add_mul]
 have hset := hr1.setkey (k := k) (c := c) (c' := ⟨false, c.e, c.sz, c.n + (hi - lo), c.cs ++ sub (lo * c.sz) ((hi - lo) * c.sz) c2.cs⟩) (js := [j]) (same := false) hk hkj (hchg.mono (fun b hb' => by rw [q1]; simp [hb'])) hown'
  (by
   refine List.nodup_append.2 ⟨?_, List.nodup_append.2 ⟨n2, pb, fun x hx' y hy' e' => hkk x (ink x hx') (inj x (by rw [e']; simp [hy']))⟩, fun x hx' y hy' e' => ?_⟩
   ·cases (Value.slice A' (c.n + (hi - lo)) c').ownBlock <;> simp
   ·subst e'
    rcases hbl x hx' with g | g
    ·rcases List.mem_append.1 hy' with hy' | hy'
     ·exact n3 x g x hy' rfl
     ·exact hkk x (by rw [q1]; simp [g]) (inj x (by simp [hy']))
    ·rcases List.mem_append.1 hy' with hy' | hy'
     ·have := hltk x (ink x hy'); omega
     ·have := hltj x (inj x (by simp [hy'])); omega)
  (fun b hb' => by
   rcases List.mem_append.1 hb' with hb' | hb'
   ·rcases hbl b hb' with g | g
    ·exact .inl (by rw [q1]; simp [g])
    ·exact .inr (.inr (by omega))
   ·rcases List.mem_append.1 hb' with hb' | hb'
    ·exact .inl (ink b hb')
    ·exact .inr (.inl ⟨j, by simp, inj b (by simp [hb'])⟩)) (by intro i hi'; simp only [List.mem_singleton] at hi'; subst hi'; exact c9h.2 ⟨c2, hj⟩) (by simp) (by simp)
 -- key j again, with holes
 have hone2 : ∀ u ∈ us, u.oneCell' = true := one r5
 have hrow3 : w'.ownsRow 0 c2.e c.sz (L.rv j) c2.n us := by
  refine ⟨hrow2.1, ?_⟩
  rcases hrow2.2 with g | ⟨g, cap', cur, g1, g2, g3, g4⟩
  ·exact .inl g
  ·refine .inr ⟨g, cap', cur, g1, g2, ?_, g4⟩
   rw [keepj g (by rw [r1, g1]; simp [Value.ownBlock])]; exact g3
 have hown2 : Own w' (.sl c2.e c.sz c2.n (a5m c2.cs (lo * c.sz) ((hi - lo) * c.sz))) (L.rv j) ((L.rv j).ownBlock.toList ++ (fa ++ ([] ++ fc))) := by
  unfold Own
  have ta' := a2V _ _ _ ta (fun b hb' => keepj b (inj b (by simp [hb'])))
  have tc' := a2V _ _ _ tc (fun b hb' => keepj b (inj b (by simp [hb'])))
  have th : a0Q w' (List.replicate ((hi - lo) * c.sz) .hole) ((us.drop (lo * c.sz)).take ((hi - lo) * c.sz)) [] := by
   have := a9w (w := w') ((us.drop (lo * c.sz)).take ((hi - lo) * c.sz)) (fun v hv => hone2 v (List.mem_of_mem_drop (List.mem_of_mem_take hv)))
   have e' : ((us.drop (lo * c.sz)).take ((hi - lo) * c.sz)).length = (hi - lo) * c.sz := by rw [c9j, List.length_drop]; omega
   rwa [e'] at this
  have hall := a3n _ _ _ _ _ _ ta' (a3n _ _ _ _ _ _ th tc')
  rw [List.take_append_drop, List.take_append_drop] at hall
  refine ⟨us, _, rfl, q2, ?_, a3I hE2 hrow3, hall⟩
  simp only [a5m, c9i, c9j, List.length_replicate, List.length_drop, r3]
  omega
 have hlk : ∀ i, lkk (St.mut ⟨(d1, .any) :: tm, bx, ks⟩ k [j] false ⟨false, c.e, c.sz, c.n + (hi - lo), c.cs ++ sub (lo * c.sz) ((hi - lo) * c.sz) c2.cs⟩) i = if i = k then some ⟨false, c.e, c.sz, c.n + (hi - lo), c.cs ++ sub (lo * c.sz) ((hi - lo) * c.sz) c2.cs⟩ else if i = j then none else lkk ⟨tm, bx, ks⟩ i := fun i => by
  simp only [lkk, St.mut, List.map_cons, List.map_nil, List.cons_append, List.nil_append, a0W]
  split
  ·rfl
  ·split <;> rfl
 have inj2 : ∀ b, b ∈ (L.rv j).ownBlock.toList ++ (fa ++ ([] ++ fc)) → b ∈ L.fp j := fun b hb' => by
  rw [r1]; simp only [List.mem_append, List.nil_append] at hb' ⊢
  rcases hb' with g | g | g
  ·exact .inl g
  ·exact .inr (.inl g)
  ·exact .inr (.inr (.inr g))
 have hnew := hset.newkey (k := j) (c := ⟨false, c2.e, c.sz, c2.n, a5m c2.cs (lo * c.sz) ((hi - lo) * c.sz)⟩) (v := L.rv j) (f := (L.rv j).ownBlock.toList ++ (fa ++ ([] ++ fc))) (by rw [hlk, if_neg (fun e => hkj' e.symm), if_pos rfl]) hown2 rfl
  (by
   rw [List.nil_append]
   refine List.nodup_append.2 ⟨p1, List.nodup_append.2 ⟨pa, pc, fun x hx' y hy' => p4 x hx' y (by simp [hy'])⟩, fun x hx' y hy' => p3 x hx' y (by
    simp only [List.mem_append] at hy' ⊢
    rcases hy' with g | g
    ·exact .inl g
    ·exact .inr (.inr g))⟩)
  (fun b hb' => hr.k1 j c2 hj b (inj2 b hb'))
  (fun b hb' i x hx' e' => by
   obtain ⟨y, hy⟩ := b4j hx'
   exact hr.bk i j y c2 hy hj (by rw [show L.bb i = b from e']; exact inj2 b hb'))
  (fun b hb' i q hq hm => by
   rw [hlk] at hq
   by_cases hik : i = k
   ·subst hik
    simp only [if_true] at hm
    rcases List.mem_append.1 hm with hm | hm
    ·rcases hbl b hm with g | g
     ·exact hkk b (by rw [q1]; simp [g]) (inj2 b hb')
     ·have := hltj b (inj2 b hb'); omega
    ·rcases List.mem_append.1 hm with hm | hm
     ·exact hkk b (ink b hm) (inj2 b hb')
     ·rw [List.nil_append] at hb'
      rcases List.mem_append.1 hb' with g | g
      ·exact p3 b g b (by simp [hm]) rfl
      ·rcases List.mem_append.1 g with g | g
       ·exact p4 b g b (by simp [hm]) rfl
       ·exact p5 b hm b g rfl
   ·rw [if_neg hik] at hq
    by_cases hij : i = j
    ·rw [if_pos hij] at hq; cases hq
    ·rw [if_neg hij] at hq
     simp only [if_neg hik] at hm
     exact hr.kk i j q c2 hq hj hij b hm (inj2 b hb'))
 have hd' : d < nt := by simpa [Nat.blt_eq] using hnt
 have hput := hnew.put (d := d) (v := .one (.key k)) (r := .slice A' (c.n + (hi - lo)) c') hd' (by simp only [SVr, CVr]; rw [if_neg hkj']; simp) (by
  simp only [SV.keys, CV.keys, List.mem_singleton, forall_eq]
  simp [lkk, a0W, hkj', St.mut]) (by simp [SV.boxes])
 have hsv := hr.tm s _ hsl
 simp only [SVr, CVr] at hsv
 have n1' : s ≠ d1 := Nat.ne_of_beq_eq_false hsd.1
 have n2' : s ≠ d := Nat.ne_of_beq_eq_false hsd.2
 have hval : ((a.put o1.dst (sliced A lo hi cap c.sz)).put (some d) (.slice A' (c.n + (hi - lo)) c')).tmps.getD s undef = L.rv j := by
  rw [← hsv, hd1]
  simp only [Act.put]
  rw [b1N n2', b1N n1']
 have hal := hput.also (d := s) (v := .one (.key j)) (by simp only [SVr, CVr, if_true]; exact hval) (by simp [SV.keys, CV.keys, lkk, a0W, St.put]) (by simp [SV.boxes])
 rw [hd]
 exact h.run _ _ _ hal
theorem b0S {tm : List (Nat × SV)} {bx : List (Nat × TypeId × List CV)} {ks : List (Nat × Option KC)} {s k k' : Nat} {c c' : KC} (hs : look tm s = some (.one (.key k))) (hk : lkk ⟨tm, bx, ks⟩ k = some c) (hk' : lkk ⟨tm, bx, ks⟩ k' = some c') (hne : k' ∉ [k]) (hh : c.h = false) :
  Weak P C nt ⟨tm, bx, ks⟩ ⟨(s, .one (.key k')) :: a0p [k', k] [k', k] tm, a0k [k', k] [k', k] bx, (k', some c) :: (k, none) :: ks⟩ := Weak.mk fun L a w hr => by
 have ho := (hr.ks k c hk).1
 have hsv := hr.tm s _ hs
 simp only [SVr, CVr] at hsv
 have hset := hr.setkey (k := k') (c := c') (c' := c) (js := [k]) (same := false) hk' hne (Chg.refl _ w) ho (hr.kn k c hk) (fun b hb => .inr (.inl ⟨k, by simp, hb⟩)) (by intro i hi'; simp only [List.mem_singleton] at hi'; subst hi'; exact c9h.2 ⟨c, hk⟩) (by simp) (fun h => by rw [hh] at h; cases h)
 exact ⟨_, hset.also (d := s) (v := .one (.key k')) (by simp only [SVr, CVr, if_true]; exact hsv) (by simp [SV.keys, CV.keys, a5o]) (by simp [SV.boxes])⟩
/-! ### keys in boxes -/
theorem b1q {L : Lyt} {w : World} {c' : CV} {v : Value} : ∀ {cs : List CV} {vs : List Value} {i : Nat}, CVL C L w cs vs → vs[i]? = some v → CVr C L w c' v → CVL C L w (cs.set i c') vs
 | [], _, _, h, _, _ => by simpa using h
 | x :: xs, _, 0, ⟨u, vs', e, h1, h2⟩, hv, hc => by
  subst e
  simp only [List.getElem?_cons_zero, Option.some.injEq] at hv
  subst hv
  exact ⟨u, vs', rfl, hc, h2⟩
 | x :: xs, _, i + 1, ⟨u, vs', e, h1, h2⟩, hv, hc => by
  subst e
  exact ⟨u, vs', rfl, h1, b1q h2 (by simpa using hv) hc⟩
theorem a9y {L : Lyt} {w : World} {c : CV} : ∀ {cs : List CV} {vs : List Value} {i : Nat}, CVL C L w cs vs → cs[i]? = some c → ∃ v, vs[i]? = some v ∧ CVr C L w c v
 | [], _, _, _, h => by simp at h
 | x :: xs, _, 0, ⟨u, vs', e, h1, h2⟩, h => by
  subst e
  simp only [List.getElem?_cons_zero, Option.some.injEq] at h
  subst h
  exact ⟨u, by simp, h1⟩
 | x :: xs, _, i + 1, ⟨u, vs', e, h1, h2⟩, h => by
  subst e
  simpa using a9y h2 (by simpa using h)
theorem Rel.alsoK (h : Rel P C nt L σ a w) {b t i k : Nat} {cs : List CV} (hb : look σ.bx b = some (t, cs)) (hv : ∀ vs : List Value, w.heap[L.bb b]? = some (.cells vs.toArray t (0, 0)) → vs[i]? = some (L.rv k)) (hk : (lkk σ k).isSome = true) (hok : (cs.flatMap CV.keys).all (fun j => (lkk σ j).isSome) = true) : Rel P C nt L ⟨σ.tm, (b, t, cs.set i (.key k)) :: σ.bx, σ.ks⟩ a w :=
 have hx : ∀ z x, look ((b, t, cs.set i (.key k)) :: σ.bx) z = some x → ∃ y, look σ.bx z = some y := fun z x hx => by
  simp only [a0W] at hx
  split at hx
  ·rename_i e; exact ⟨_, by rw [e]; exact hb⟩
  ·exact ⟨_, hx⟩
 { h with
  tm := h.tm
  bx := fun i' t' cs'' hx => by
   simp only [a0W] at hx
   split at hx
   ·rename_i e
    simp only [Option.some.injEq, Prod.mk.injEq] at hx
    obtain ⟨rfl, rfl⟩ := hx
    obtain ⟨vs, h1, h2⟩ := h.bx b _ _ hb
    exact ⟨vs, by rw [e]; exact h1, b1q h2 (hv vs h1) (by simp [CVr])⟩
   ·exact h.bx i' t' cs'' hx
  ks := h.ks
  b1 := fun z x h' => by obtain ⟨y, hy⟩ := hx z x h'; exact h.b1 z y hy
  k1 := h.k1
  kn := h.kn
  bb := fun z j x y h1 h2 => by
   obtain ⟨x', h1'⟩ := hx z x h1
   obtain ⟨y', h2'⟩ := hx j y h2
   exact h.bb z j x' y' h1' h2'
  bk := fun z k2 x c h' hc => by obtain ⟨y, hy⟩ := hx z x h'; exact h.bk z k2 y c hy hc
  kk := h.kk
  lk := fun j hm => by
   simp only [St.tk, List.flatMap_cons, List.mem_append] at hm
   rcases hm with hm | hm | hm
   ·exact h.lk j (by simp only [St.tk, List.mem_append]; exact .inl hm)
   ·obtain ⟨c, hc, hj⟩ := List.mem_flatMap.1 hm
    rcases List.mem_or_eq_of_mem_set hc with hc | hc
    ·exact List.all_eq_true.1 hok j (List.mem_flatMap.2 ⟨c, hc, hj⟩)
    ·rw [hc] at hj
     simp only [CV.keys, List.mem_singleton] at hj
     rw [hj]; exact hk
   ·exact h.lk j (by simp only [St.tk, List.mem_append]; exact .inr hm)
  lb := fun b' hm => by
   have := h.lb b' hm
   simp only [a0W]
   split
   ·rfl
   ·exact this }
theorem b3g {vs rs : List Nat} {i : Nat} : ∀ {bx : List (Nat × TypeId × List CV)}, look (a0k vs rs bx) i = (look bx i).map fun q => (q.1, q.2.map (CV.kill vs rs))
 | [] => by simp [a0k, look]
 | p :: bx => by
  obtain ⟨b, q⟩ := p
  have ih := b3g (vs := vs) (rs := rs) (i := i) (bx := bx)
  simp only [a0k] at ih
  simp only [a0k, List.map_cons, a0W]
  split
  ·rfl
  ·exact ih
theorem a2N {tm : List (Nat × SV)} {bx : List (Nat × TypeId × List CV)} {ks : List (Nat × Option KC)} {b i t k k' : Nat} {cs : List CV} {c c' : KC} (hb : look bx b = some (t, cs)) (hi : cs[i]? = some (.key k)) (hk : lkk ⟨tm, bx, ks⟩ k = some c) (hk' : lkk ⟨tm, bx, ks⟩ k' = some c') (hne : k' ∉ [k]) (hh : c.h = false)
  (hok : ((cs.map (CV.kill [k', k] [k', k])).flatMap CV.keys).all (fun j => (lkk ⟨a0p [k', k] [k', k] tm, a0k [k', k] [k', k] bx, (k', some c) :: (k, none) :: ks⟩ j).isSome) = true) :
  Weak P C nt ⟨tm, bx, ks⟩ ⟨a0p [k', k] [k', k] tm, (b, t, (cs.map (CV.kill [k', k] [k', k])).set i (.key k')) :: a0k [k', k] [k', k] bx, (k', some c) :: (k, none) :: ks⟩ := Weak.mk fun L a w hr => by
 have ho := (hr.ks k c hk).1
 obtain ⟨vs0, h1, h2⟩ := hr.bx b t cs hb
 obtain ⟨v, h3, h4⟩ := a9y h2 hi
 simp only [CVr] at h4
 have hset := hr.setkey (k := k') (c := c') (c' := c) (js := [k]) (same := false) hk' hne (Chg.refl _ w) ho (hr.kn k c hk) (fun b hb => .inr (.inl ⟨k, by simp, hb⟩)) (by intro i hi'; simp only [List.mem_singleton] at hi'; subst hi'; exact c9h.2 ⟨c, hk⟩) (by simp) (fun h => by rw [hh] at h; cases h)
 refine ⟨_, hset.alsoK (b := b) (t := t) (i := i) (k := k') (cs := cs.map (CV.kill [k', k] [k', k])) (by show look (a0k [k', k] [k', k] bx) b = _; rw [b3g, hb]; rfl) (fun vs hvs => ?_) (by rw [a5o]; rfl) hok⟩
 have e : vs = vs0 := by
  have : some (Obj.cells vs.toArray t (0, 0)) = some (Obj.cells vs0.toArray t (0, 0)) := hvs.symm.trans h1
  simpa using this
 subst e
 simp only [if_true]
 rw [h3, h4]
theorem c6V {Q : Exit → St → Prop} {all : Array Oper} {rest : List Oper} {tm : List (Nat × SV)} {bx : List (Nat × TypeId × List CV)} {ks : List (Nat × Option KC)} {t e sz by_ d d1 k j s lo hi n : Nat} {zc : List CV} {c c2 : KC} {cs c2s : List DV} {b8 t8 i8 : Nat} {cs8 : List CV} (hT : TTOk P T)
  (hg1 : o1.guard = none) (hd1 : o1.dst = some d1) (hn1 : Nat.blt d1 nt = true) (hs : SlOk P C nt ⟨tm, bx, ks⟩ o1 j sz lo hi)
  (hg2 : o2.guard = none) (hd : o2.dst = some d) (ho : o2.op = .call { callee := .builtin .append, args := #[x, .tmp d1], argTypes := #[t, t] }) (hnt : Nat.blt d nt = true) (ht : look T.sl t = some e) (he : look T.el e = some (sz, by_, zc)) (hl0 : zc.length = sz)
  (hx : Ev P C nt ⟨(d1, .any) :: tm, bx, ks⟩ x (.one (.key k))) (hk : lkk ⟨tm, bx, ks⟩ k = some c) (hce : c.e = e) (hcs : c.sz = sz) (hj : lkk ⟨tm, bx, ks⟩ j = some c2) (hcs2 : c2.sz = sz) (he2 : Nat.blt c2.e 1000000 = true) (hkj : k ∉ [j]) (hh : c2.h = false)
  (hsl : look tm s = some (.one (.key j))) (hsd : Nat.beq s d1 = false ∧ Nat.beq s d = false) (hlh : lo ≤ hi) (hhi : hi ≤ c2.n) (hb : (c.n + (hi - lo)) * by_ ≤ 140737488355328) (h63 : c.n + (hi - lo) ≤ 9223372036854775807) (hn : c.n + (hi - lo) = n) (hcc : c.cs ++ sub (lo * sz) ((hi - lo) * sz) c2.cs = cs) (hcc2 : a5m c2.cs (lo * sz) ((hi - lo) * sz) = c2s)
  (hb8 : look bx b8 = some (t8, cs8)) (hi8 : cs8[i8]? = some (.key j)) (hok8 : ((cs8.map (CV.kill [k, j] [k, j])).flatMap CV.keys).all (fun i => (lkk ⟨(s, .one (.key j)) :: (d, .one (.key k)) :: a0p [k, j] [k, j] ((d1, .any) :: tm), a0k [k, j] [k, j] bx, (j, some ⟨false, c2.e, sz, c2.n, c2s⟩) :: (k, some ⟨false, e, sz, n, cs⟩) :: (j, none) :: ks⟩ i).isSome) = true)
  (h : Ops P C nt Q all rest ⟨(s, .one (.key j)) :: (d, .one (.key k)) :: a0p [k, j] [k, j] ((d1, .any) :: tm), (b8, t8, (cs8.map (CV.kill [k, j] [k, j])).set i8 (.key j)) :: a0k [k, j] [k, j] bx, (j, some ⟨false, c2.e, sz, c2.n, c2s⟩) :: (k, some ⟨false, e, sz, n, cs⟩) :: (j, none) :: ks⟩) : Ops P C nt Q all (o1 :: o2 :: rest) ⟨tm, bx, ks⟩ := Ops.mk fun L a w hr => by
 subst hn; subst hcc; subst hcc2
 have hkj' : k ≠ j := by simpa using hkj
 refine wpList_plain hg1 fun K1 hK1 => ?_
 -- what stands in memory
 have ho1 := (hr.ks k c hk).1
 have ho2 := (hr.ks j c2 hj).1
 simp only [Own] at ho1 ho2
 obtain ⟨vs, f1, q1, q2, q3, q4, q5⟩ := ho1
 obtain ⟨us, f2, r1, r2, r3, r4, r5⟩ := ho2
 subst hce; subst hcs
 obtain ⟨inf, z, g1, g2, g3, g4, g5⟩ := hT.el c.e c.sz by_ zc he
 have hE : c.e < 1000000 := hT.lt _ _ he
 have hrow := q4.1 hE
 have hE2 : c2.e < 1000000 := by simpa [Nat.blt_eq] using he2
 have hrow2 := r4.1 hE2
 rw [hcs2] at hrow2 r3
 have hul : us.length = c2.n * c.sz := hrow2.1
 have one : ∀ {ds : List DV} {vs : List Value} {f : List Nat}, a0Q w ds vs f → ∀ u ∈ vs, u.oneCell' = true := fun h => a8J (ok := fun _ => True) _ _ (a7K _ _ _ h (fun _ _ => trivial))
 obtain ⟨A, m, cap, hA⟩ : ∃ A m cap, L.rv j = .slice A m cap := by
  rcases hrow2.2 with ⟨g, _⟩ | ⟨g, cap, cur, g, _⟩
  ·exact ⟨_, _, _, g⟩
  ·exact ⟨_, _, _, g⟩
 have hrun := hs.run L a w hr A m cap hA w
 have hm1 : (hi - lo) * c.sz + lo * c.sz = hi * c.sz := by rw [← Nat.add_mul]; congr 1; omega
 have hm2 : hi * c.sz ≤ c2.n * c.sz := Nat.mul_le_mul_right _ hhi
 have hm3 : hi * c.sz + (c2.n - hi) * c.sz = c2.n * c.sz := by rw [← Nat.add_mul]; congr 1; omega
 obtain ⟨A1, c1, e1, hrd⟩ : ∃ A1 c1, sliced A lo hi cap c.sz = .slice A1 (hi - lo) c1 ∧ a2y w A1 (hi - lo) c.sz (sub (lo * c.sz) ((hi - lo) * c.sz) us) := by
  refine ⟨_, _, rfl, by rw [a4t _ _ _ (by omega)], fun hpos => ?_⟩
  rcases hrow2.2 with ⟨g1, g2⟩ | ⟨g, cap', cur, g1, _, g3, g4, g5, g6, g7⟩
  ·omega
  ·rw [hA] at g1
   simp only [Value.slice.injEq] at g1
   obtain ⟨rfl, rfl, rfl⟩ := g1
   have hne : ¬ cap = lo := by omega
   refine ⟨g, lo * c.sz, by rw [if_neg hne]; simp only [Option.map_some, a5h, Nat.zero_add], fun i v hi' => ?_⟩
   have hlt : i < (hi - lo) * c.sz := by
    have := (List.getElem?_eq_some_iff.1 hi').1
    rw [a4t _ _ _ (by omega)] at this
    exact this
   rw [a9l _ _ _ _ hlt] at hi'
   rw [cell_of_row _ g _ cur c2.e (0, 0) g3]
   rw [← g7, List.getElem?_take, if_pos (by omega), Array.getElem?_toList] at hi'
   exact hi'
 refine a4U hrun (hK1 _ _ ?_)
 have hr1 : Rel P C nt L ⟨(d1, .any) :: tm, bx, ks⟩ (a.put o1.dst (sliced A lo hi cap c.sz)) w := by
  rw [hd1]
  exact hr.put (v := .any) (by simpa [Nat.blt_eq] using hn1) (by simp only [SVr]) (by simp [SV.keys]) (by simp [SV.boxes])
 have ex := hx.run L _ w hr1
 simp only [SVr, CVr] at ex
 have ey : (a.put o1.dst (sliced A lo hi cap c.sz)).eval (.tmp d1) = .slice A1 (hi - lo) c1 := by
  rw [hd1, ← e1]
  have hsz := hr.sz
  have hlt : d1 < nt := by simpa [Nat.blt_eq] using hn1
  simp [Act.eval, Act.put, hsz, hlt]
 refine wpList_plain hg2 fun K hK => ?_
 have hzs : z.cells.size = c.sz := by
  have := a7f g5
  simp only [Array.length_toList] at this
  rw [this, hl0]
 refine b2c w x (.tmp d1) t ho c.e z c.sz by_ (hT.sl t c.e ht) (by rw [g1]; simp [g2, g3, g4]) hzs q2 (L.rv k) c.n vs ex hrow A1 (hi - lo) c1 _ ey hrd (fun u hu => one r5 u (List.mem_of_mem_drop (List.mem_of_mem_take hu))) (by simpa [maxLen] using h63) hb ?_
 intro A' c' w' h9 hchg hblk
 refine hK _ _ ?_
 -- the parts
 obtain ⟨fa, fr, rfl, ta, tr⟩ := a7A (lo * c.sz) r5
 obtain ⟨fb, fc, rfl, tb, tc⟩ := a7A ((hi - lo) * c.sz) tr
 have hkn := hr.kn k c hk
 have hjn := hr.kn j c2 hj
 have hkk := hr.kk k j c c2 hk hj hkj'
 rw [q1] at hkn; rw [r1] at hjn
 obtain ⟨n1, n2, n3⟩ := List.nodup_append.1 hkn
 obtain ⟨p1, p2, p3⟩ := List.nodup_append.1 hjn
 obtain ⟨pa, pbc, p4⟩ := List.nodup_append.1 p2
 obtain ⟨pb, pc, p5⟩ := List.nodup_append.1 pbc
 have hltk : ∀ b ∈ L.fp k, b < w.heap.size := fun b hb' => hr.k_lt hk b hb'
 have hltj : ∀ b ∈ L.fp j, b < w.heap.size := fun b hb' => hr.k_lt hj b hb'
 have inj : ∀ b, b ∈ fa ++ (fb ++ fc) → b ∈ L.fp j := fun b hb' => by rw [r1]; simp only [List.mem_append] at hb' ⊢; exact .inr hb'
 have ink : ∀ b, b ∈ f1 → b ∈ L.fp k := fun b hb' => by rw [q1]; simp [hb']
 have keepk : ∀ b ∈ f1, w'.heap[b]? = w.heap[b]? := fun b hb' => hchg.block b (hltk b (ink b hb')) (fun hm => n3 b hm b hb' rfl)
 have keepj : ∀ b ∈ L.fp j, w'.heap[b]? = w.heap[b]? := fun b hb' => hchg.block b (hltj b hb') (fun hm => hkk b (by rw [q1]; simp [hm]) hb')
 have k1 := a2V _ _ _ q5 keepk
 have k2 := a2V _ _ _ tb (fun b hb' => keepj b (inj b (by simp [hb'])))
 have hbl : ∀ b, b ∈ (Value.slice A' (c.n + (hi - lo)) c').ownBlock.toList → b ∈ (L.rv k).ownBlock.toList ∨ b = w.heap.size := fun b hb' => by
  rcases hblk with g | g
  ·rw [← g] at hb'; exact .inl hb'
  ·rw [g] at hb'; simp only [Option.toList_some, List.mem_singleton] at hb'; exact .inr hb'
 have hown' : Own w' (.sl c.e c.sz (c.n + (hi - lo)) (c.cs ++ sub (lo * c.sz) ((hi - lo) * c.sz) c2.cs)) (.slice A' (c.n + (hi - lo)) c') ((Value.slice A' (c.n + (hi - lo)) c').ownBlock.toList ++ (f1 ++ fb)) := by
  unfold Own
  refine ⟨_, f1 ++ fb, rfl, q2, ?_, a3I hE h9, a3n _ _ _ _ _ _ k1 k2⟩
  rw [c9i, q3, a4t _ _ _ (by rw [r3]; omega), Nat.add_mul]
 have hset := hr1.setkey (k := k) (c := c) (c' := ⟨false, c.e, c.sz, c.n + (hi - lo), c.cs ++ sub (lo * c.sz) ((hi - lo) * c.sz) c2.cs⟩) (js := [j]) (same := false) hk hkj (hchg.mono (fun b hb' => by rw [q1]; simp [hb'])) hown'
  (by
   refine List.nodup_append.2 ⟨?_, List.nodup_append.2 ⟨n2, pb, fun x hx' y hy' e' => hkk x (ink x hx') (inj x (by rw [e']; simp [hy']))⟩, fun x hx' y hy' e' => ?_⟩
   ·cases (Value.slice A' (c.n + (hi - lo)) c').ownBlock <;> simp
   ·subst e'
    rcases hbl x hx' with g | g
    ·rcases List.mem_append.1 hy' with hy' | hy'
     ·exact n3 x g x hy' rfl
     ·exact hkk x (by rw [q1]; simp [g]) (inj x (by simp [hy']))
    ·rcases List.mem_append.1 hy' with hy' | hy'
     ·have := hltk x (ink x hy'); omega
     ·have := hltj x (inj x (by simp [hy'])); omega)
  (fun b hb' => by
   rcases List.mem_append.1 hb' with hb' | hb'
   ·rcases hbl b hb' with g | g
    ·exact .inl (by rw [q1]; simp [g])
    ·exact .inr (.inr (by omega))
   ·rcases List.mem_append.1 hb' with hb' | hb'
    ·exact .inl (ink b hb')
    ·exact .inr (.inl ⟨j, by simp, inj b (by simp [hb'])⟩)) (by intro i hi'; simp only [List.mem_singleton] at hi'; subst hi'; exact c9h.2 ⟨c2, hj⟩) (by simp) (by simp)
 -- key j again, with holes
 have hone2 : ∀ u ∈ us, u.oneCell' = true := one r5
 have hrow3 : w'.ownsRow 0 c2.e c.sz (L.rv j) c2.n us := by
  refine ⟨hrow2.1, ?_⟩
  rcases hrow2.2 with g | ⟨g, cap', cur, g1, g2, g3, g4⟩
  ·exact .inl g
  ·refine .inr ⟨g, cap', cur, g1, g2, ?_, g4⟩
   rw [keepj g (by rw [r1, g1]; simp [Value.ownBlock])]; exact g3
 have hown2 : Own w' (.sl c2.e c.sz c2.n (a5m c2.cs (lo * c.sz) ((hi - lo) * c.sz))) (L.rv j) ((L.rv j).ownBlock.toList ++ (fa ++ ([] ++ fc))) := by
  unfold Own
  have ta' := a2V _ _ _ ta (fun b hb' => keepj b (inj b (by simp [hb'])))
  have tc' := a2V _ _ _ tc (fun b hb' => keepj b (inj b (by simp [hb'])))
  have th : a0Q w' (List.replicate ((hi - lo) * c.sz) .hole) ((us.drop (lo * c.sz)).take ((hi - lo) * c.sz)) [] := by
   have := a9w (w := w') ((us.drop (lo * c.sz)).take ((hi - lo) * c.sz)) (fun v hv => hone2 v (List.mem_of_mem_drop (List.mem_of_mem_take hv)))
   have e' : ((us.drop (lo * c.sz)).take ((hi - lo) * c.sz)).length = (hi - lo) * c.sz := by rw [c9j, List.length_drop]; omega
   rwa [e'] at this
  have hall := a3n _ _ _ _ _ _ ta' (a3n _ _ _ _ _ _ th tc')
  rw [List.take_append_drop, List.take_append_drop] at hall
  refine ⟨us, _, rfl, q2, ?_, a3I hE2 hrow3, hall⟩
  simp only [a5m, c9i, c9j, List.length_replicate, List.length_drop, r3]
  omega
 have hlk : ∀ i, lkk (St.mut ⟨(d1, .any) :: tm, bx, ks⟩ k [j] false ⟨false, c.e, c.sz, c.n + (hi - lo), c.cs ++ sub (lo * c.sz) ((hi - lo) * c.sz) c2.cs⟩) i = if i = k then some ⟨false, c.e, c.sz, c.n + (hi - lo), c.cs ++ sub (lo * c.sz) ((hi - lo) * c.sz) c2.cs⟩ else if i = j then none else lkk ⟨tm, bx, ks⟩ i := fun i => by
  simp only [lkk, St.mut, List.map_cons, List.map_nil, List.cons_append, List.nil_append, a0W]
  split
  ·rfl
  ·split <;> rfl
 have inj2 : ∀ b, b ∈ (L.rv j).ownBlock.toList ++ (fa ++ ([] ++ fc)) → b ∈ L.fp j := fun b hb' => by
  rw [r1]; simp only [List.mem_append, List.nil_append] at hb' ⊢
  rcases hb' with g | g | g
  ·exact .inl g
  ·exact .inr (.inl g)
  ·exact .inr (.inr (.inr g))
 have hnew := hset.newkey (k := j) (c := ⟨false, c2.e, c.sz, c2.n, a5m c2.cs (lo * c.sz) ((hi - lo) * c.sz)⟩) (v := L.rv j) (f := (L.rv j).ownBlock.toList ++ (fa ++ ([] ++ fc))) (by rw [hlk, if_neg (fun e => hkj' e.symm), if_pos rfl]) hown2 rfl
  (by
   rw [List.nil_append]
   refine List.nodup_append.2 ⟨p1, List.nodup_append.2 ⟨pa, pc, fun x hx' y hy' => p4 x hx' y (by simp [hy'])⟩, fun x hx' y hy' => p3 x hx' y (by
    simp only [List.mem_append] at hy' ⊢
    rcases hy' with g | g
    ·exact .inl g
    ·exact .inr (.inr g))⟩)
  (fun b hb' => hr.k1 j c2 hj b (inj2 b hb'))
  (fun b hb' i x hx' e' => by
   obtain ⟨y, hy⟩ := b4j hx'
   exact hr.bk i j y c2 hy hj (by rw [show L.bb i = b from e']; exact inj2 b hb'))
  (fun b hb' i q hq hm => by
   rw [hlk] at hq
   by_cases hik : i = k
   ·subst hik
    simp only [if_true] at hm
    rcases List.mem_append.1 hm with hm | hm
    ·rcases hbl b hm with g | g
     ·exact hkk b (by rw [q1]; simp [g]) (inj2 b hb')
     ·have := hltj b (inj2 b hb'); omega
    ·rcases List.mem_append.1 hm with hm | hm
     ·exact hkk b (ink b hm) (inj2 b hb')
     ·rw [List.nil_append] at hb'
      rcases List.mem_append.1 hb' with g | g
      ·exact p3 b g b (by simp [hm]) rfl
      ·rcases List.mem_append.1 g with g | g
       ·exact p4 b g b (by simp [hm]) rfl
       ·exact p5 b hm b g rfl
   ·rw [if_neg hik] at hq
    by_cases hij : i = j
    ·rw [if_pos hij] at hq; cases hq
    ·rw [if_neg hij] at hq
     simp only [if_neg hik] at hm
     exact hr.kk i j q c2 hq hj hij b hm (inj2 b hb'))
 have hd' : d < nt := by simpa [Nat.blt_eq] using hnt
 have hput := hnew.put (d := d) (v := .one (.key k)) (r := .slice A' (c.n + (hi - lo)) c') hd' (by simp only [SVr, CVr]; rw [if_neg hkj']; simp) (by
  simp only [SV.keys, CV.keys, List.mem_singleton, forall_eq]
  simp [lkk, a0W, hkj', St.mut]) (by simp [SV.boxes])
 have hsv := hr.tm s _ hsl
 simp only [SVr, CVr] at hsv
 have n1' : s ≠ d1 := Nat.ne_of_beq_eq_false hsd.1
 have n2' : s ≠ d := Nat.ne_of_beq_eq_false hsd.2
 have hval : ((a.put o1.dst (sliced A lo hi cap c.sz)).put (some d) (.slice A' (c.n + (hi - lo)) c')).tmps.getD s undef = L.rv j := by
  rw [← hsv, hd1]
  simp only [Act.put]
  rw [b1N n2', b1N n1']
 have hal := hput.also (d := s) (v := .one (.key j)) (by simp only [SVr, CVr, if_true]; exact hval) (by simp [SV.keys, CV.keys, lkk, a0W, St.put]) (by simp [SV.boxes])
 rw [hd]
 obtain ⟨vs0, z1, z2⟩ := hr.bx b8 t8 cs8 hb8
 obtain ⟨v8, z3, z4⟩ := a9y z2 hi8
 simp only [CVr] at z4
 have hbk := hr.bk b8 k _ c hb8 hk
 refine h.run _ _ _ (hal.alsoK (b := b8) (t := t8) (i := i8) (k := j) (cs := cs8.map (CV.kill [k, j] [k, j])) (by show look (a0k [k, j] [k, j] bx) b8 = _; rw [b3g, hb8]; rfl) (fun vs2 hvs2 => ?_) (by simp [lkk, a0W, St.put]) hok8)
 have hkeep : w'.heap[L.bb b8]? = w.heap[L.bb b8]? := hchg.block _ (hr.bx_lt hb8) (fun hm => hbk (by rw [q1]; simp [hm]))
 have e8 : vs2 = vs0 := by
  have : some (Obj.cells vs2.toArray t8 (0, 0)) = some (Obj.cells vs0.toArray t8 (0, 0)) := hvs2.symm.trans (hkeep.trans z1)
  simpa using this
 subst e8
 simp only [if_true]
 rw [z3, z4]
end
end Go.Proofs.YtkhldpbfkagdhaaGreat
