/-
  The rules of a small program logic over abstract states: no program is in sight but in the table of its types. Conditions: none.
-/
import Derived.BigQuiet
import Derived.Deep.QuietTactic
import Derived.Great.BuildSlice
import Derived.Laws.BytesString
import Derived.Lib.AppendStr
import Derived.Lib.Bytealg
import Derived.Lib.ConvBytes
import Derived.Lib.Slices
import Derived.Lib.Strings
import Derived.Lib.Walk
import Derived.Outline
import Derived.Test.YtfejjkndbpejbaaGreatProg
import Derived.WalkKit
import Derived.WalkLawsBesides
import Derived.Test.YtfejjkndbpejbaaGreatU1
namespace Go.Proofs.YtfejjkndbpejbaaGreat
open Go.RowKit
set_option linter.unusedVariables false
set_option linter.unusedSimpArgs false
@[reducible] def a2H {α : Type} (e sz : Nat) (enc : α → List DV) (xs : List α) : DV := .sl e sz xs.length (xs.flatMap enc)
section
variable {P : Program} {C : Ctx} {nt : Nat} {σ : St} {o : Oper} {x y u : Operand} {T : TT}
theorem b4H {ok : Nat → Prop} {w : World} {e sz n c l m : Nat} {cs : List DV} {A : Option Addr} (h : Lay ok w (.sl e sz n cs) (.slice A n c)) (hlm : l + m ≤ n) : Lay ok w (.sl e sz m (sub (l * sz) (m * sz) cs)) (sliced A l (l + m) c sz) := by
 simp only [Lay] at h
 obtain ⟨A', c', vs, e1, h2, h3, h4, h5, h6, h7⟩ := h
 simp only [Value.slice.injEq, true_and] at e1
 obtain ⟨rfl, rfl⟩ := e1
 have hb : l * sz + m * sz ≤ n * sz := by rw [← Nat.add_mul]; exact Nat.mul_le_mul_right _ hlm
 simp only [Lay, sliced]
 refine ⟨_, _, sub (l * sz) (m * sz) vs, by rw [Nat.add_sub_cancel_left], by omega, by omega, h4, ?_, b0Z _ _ h6, fun hm => ?_⟩
 ·rw [a4A _ _ _ (by omega)]
 ·obtain ⟨b, off, g1, g2, g3⟩ := h7 (by omega)
  have hc : ¬ c = l := by omega
  refine ⟨b, off + l * sz, by rw [if_neg hc, g1]; simp only [Option.map_some, a4Z], g2, fun j v hv => ?_⟩
  have hj : j < m * sz := by
   have := (List.getElem?_eq_some_iff.1 hv).1
   rw [a4A _ _ _ (by rw [a4t _ _ h6, h5]; exact hb)] at this
   exact this
  rw [a9m _ _ _ _ hj] at hv
  have := g3 _ _ hv
  rwa [Nat.add_assoc]
theorem b7a {α : Type} {enc : α → List DV} {sz : Nat} (hs : ∀ x, (enc x).length = sz) : ∀ (xs : List α) (l m : Nat), sub (l * sz) (m * sz) (xs.flatMap enc) = (sub l m xs).flatMap enc := by
 have key : ∀ (xs : List α) (l : Nat), (xs.flatMap enc).drop (l * sz) = (xs.drop l).flatMap enc := fun xs => by
  induction xs with
  | nil => intro l; simp
  | cons x xs ih =>
   intro l
   cases l with
   | zero => simp
   | succ l =>
    rw [List.flatMap_cons, show (l + 1) * sz = (enc x).length + l * sz by rw [hs, Nat.add_mul]; omega, ← List.drop_drop, List.drop_left, ih, List.drop_succ_cons]
 have key2 : ∀ (xs : List α) (m : Nat), (xs.flatMap enc).take (m * sz) = (xs.take m).flatMap enc := fun xs => by
  induction xs with
  | nil => intro l; simp
  | cons x xs ih =>
   intro l
   cases l with
   | zero => simp
   | succ l =>
    rw [List.flatMap_cons, show (l + 1) * sz = (enc x).length + l * sz by rw [hs, Nat.add_mul]; omega, List.take_length_add_append, ih, List.take_succ_cons, List.flatMap_cons]
 intro xs l m
 simp only [sub]
 rw [key, key2]
theorem b1B (hT : TTOk P T) {e sz by_ : Nat} {zc : List CV} (he : look T.el e = some (sz, by_, zc)) (w : World) : (sizeOf e).run P w = .ok sz w := by
 obtain ⟨inf, z, g1, g2, _⟩ := hT.el e sz by_ zc he
 simp [sizeOf, typeInfo, g1, g2]
theorem b0N {t e : Nat} (h : P.underlying t = some (.slice e)) : P.underlying t = some (.slice (P.elem t)) ∧ P.elem t = e := by
 have : P.elem t = e := by simp [Program.elem, h]
 exact ⟨by rw [this]; exact h, this⟩
theorem b3V (hT : TTOk P T) {α : Type} {t e' sz by_ : Nat} {zc : List CV} {K J : List Nat} {e : Nat} {z : Int} {xs : List α} {enc : α → List DV} (ho : o.op = .slice t x none (some y) none) (h : look T.sl t = some e') (he : look T.el e' = some (sz, by_, zc))
  (hx : Ev P C nt σ x (.one (.dv K (a2H e sz enc xs)))) (hy : Ev P C nt σ y (.one (.dv J (.int .i64 z)))) (hs : ∀ x, (enc x).length = sz) (h0 : 0 ≤ z) (h1 : z ≤ xs.length) : Pu P C nt o σ (.one (.dv K (a2H e sz enc (xs.take z.toNat)))) [] [] := Pu.mk fun L a w hr => by
 have h2 := hx.run L a w hr
 have h3 := hy.run L a w hr
 simp only [SVr, CVr] at h2 h3
 simp only [Lay] at h3
 have h2' := h2
 simp only [a2H, Lay] at h2
 obtain ⟨A, c, vs, e1, h4, h5, h6, h7, h8, h9⟩ := h2
 obtain ⟨k1, k2⟩ := b0N (hT.sl t e' h)
 rw [e1] at h2'
 have hl := b4H (l := 0) (m := z.toNat) h2' (by omega)
 rw [b7a hs] at hl
 simp only [sub, List.drop_zero, Nat.zero_add] at hl
 refine ⟨sliced A 0 z.toNat c sz, ?_, fun w' _ => ?_⟩
 ·simp only [SVr, CVr, a2H]
  rw [List.length_take, Nat.min_eq_left (by omega)]
  exact hl
 ·unfold execOp
  simp only [ho, Option.map_none, Option.map_some, e1, h3.1, Sem.run_bind, run_sliceAt_slice _ _ _ _ _ _ k1, run_slice_h w' t A xs.length c k1 .i64 z h0 (by omega), k2, b1B hT he, Result.andThen_ok, Sem.run_pure]
theorem b0c (hT : TTOk P T) {α : Type} {t e' sz by_ : Nat} {zc : List CV} {K J : List Nat} {e : Nat} {z : Int} {xs : List α} {enc : α → List DV} (ho : o.op = .slice t x (some y) none none) (h : look T.sl t = some e') (he : look T.el e' = some (sz, by_, zc))
  (hx : Ev P C nt σ x (.one (.dv K (a2H e sz enc xs)))) (hy : Ev P C nt σ y (.one (.dv J (.int .i64 z)))) (hs : ∀ x, (enc x).length = sz) (h0 : 0 ≤ z) (h1 : z ≤ xs.length) : Pu P C nt o σ (.one (.dv K (a2H e sz enc (xs.drop z.toNat)))) [] [] := Pu.mk fun L a w hr => by
 have h2 := hx.run L a w hr
 have h3 := hy.run L a w hr
 simp only [SVr, CVr] at h2 h3
 simp only [Lay] at h3
 have h2' := h2
 simp only [a2H, Lay] at h2
 obtain ⟨A, c, vs, e1, h4, h5, h6, h7, h8, h9⟩ := h2
 obtain ⟨k1, k2⟩ := b0N (hT.sl t e' h)
 rw [e1] at h2'
 have hl := b4H (l := z.toNat) (m := xs.length - z.toNat) h2' (by omega)
 rw [b7a hs, show z.toNat + (xs.length - z.toNat) = xs.length by omega] at hl
 have e2 : sub z.toNat (xs.length - z.toNat) xs = xs.drop z.toNat := by simp [sub, List.take_of_length_le]
 rw [e2] at hl
 refine ⟨sliced A z.toNat xs.length c sz, ?_, fun w' _ => ?_⟩
 ·simp only [SVr, CVr, a2H]
  rw [List.length_drop]
  exact hl
 ·unfold execOp
  simp only [ho, Option.map_none, Option.map_some, e1, h3.1, Sem.run_bind, run_sliceAt_slice _ _ _ _ _ _ k1, run_slice_l w' t A xs.length c k1 .i64 z h0 (by omega), k2, b1B hT he, Result.andThen_ok, Sem.run_pure]
theorem a4r (hT : TTOk P T) {s d : Nat} {k k' k2 : IntKind} {J : List Nat} {z : Int} (ho : o.op = .convert s d x) (h : look T.it s = some k2) (hi : look T.it d = some k) (hx : Ev P C nt σ x (.one (.dv J (.int k' z)))) : Pu P C nt o σ (.one (.dv [] (.int k (k.wrap z)))) [] [] := Pu.mk fun L a w hr => by
 have h2 := hx.run L a w hr
 simp only [SVr, CVr, Lay] at h2
 refine ⟨.int k (k.wrap z), by simp only [SVr, CVr, Lay]; exact ⟨trivial, a7G _ _⟩, fun w' _ => ?_⟩
 unfold execOp
 simp [ho, h2.1, convert, run_underlying (hT.it s k2 h), run_underlying (hT.it d k hi), Conv.intToInt]
/-! ### bytes to a string -/
theorem b6R {ok : Nat → Prop} {w : World} : ∀ {xs : List UInt8} {vs : List Value}, a1g ok w (xs.flatMap fun b => [DV.int .u8 (b.toNat : Int)]) vs → vs = (xs.map fun b => (b.toNat : Int)).map (Value.int .u8)
 | [], vs, h => by simp only [List.flatMap_nil, a1g] at h; simpa using h
 | x :: xs, vs, h => by
  simp only [List.flatMap_cons, List.cons_append, List.nil_append, a1g] at h
  obtain ⟨v, vs', rfl, h1, h2⟩ := h
  simp only [Lay] at h1
  rw [b6R h2, h1.1]
  simp
theorem b6S : ∀ (xs : List UInt8) (s : ByteArray), (xs.map fun b => (b.toNat : Int)).foldl (fun r n => r.push (UInt8.ofNat n.toNat)) s = ⟨s.data ++ xs.toArray⟩
 | [], s => by simp
 | x :: xs, s => by
  simp only [List.map_cons, List.foldl_cons]
  rw [b6S xs]
  congr 1
  have : UInt8.ofNat ((x.toNat : Int)).toNat = x := by simp
  rw [this]
  simp [ByteArray.push, ByteArray.data_push]
def a1u (xs : List UInt8) : ByteArray := ⟨xs.toArray⟩
theorem a8f (xs : List UInt8) : (a1u xs).data.toList = xs := by simp [a1u]
theorem a4G (hT : TTOk P T) {s d e' : Nat} {v : Unit} {K : List Nat} {e : Nat} {xs : List UInt8} (ho : o.op = .convert s d x) (h : look T.sl s = some e') (hi : look T.it e' = some .u8) (hst : look T.st d = some v) (hx : Ev P C nt σ x (.one (.dv K (a2H e 1 (fun b : UInt8 => [DV.int .u8 (b.toNat : Int)]) xs)))) : Pu P C nt o σ (.one (.dv [] (.str (a1u xs)))) K [] := Pu.mk fun L a w hr => by
 have h2 := hx.run L a w hr
 simp only [SVr, CVr, a2H, Lay] at h2
 obtain ⟨A, c, vs, e1, h4, h5, h6, h7, h8, h9⟩ := h2
 have hv := b6R h8
 refine ⟨.string (a1u xs), ?_, fun w' hw => ?_⟩
 ·simp only [SVr, CVr, Lay]
  refine ⟨trivial, ?_⟩
  unfold maxLen at h5
  have : (a1u xs).size = xs.length := by simp [a1u, ByteArray.size]
  omega
 ·unfold execOp
  have hs := hT.sl s e' h
  have hconv : ∀ A c, (convert s d (.slice A xs.length c)).run P w' = (Conv.bytesToString (.slice A xs.length c)).run P w' := fun A c => run_convert_bytes_string w' s d e' A xs.length c hs (hT.it e' _ hi) (hT.st d v hst)
  have hlen : vs.length = xs.length := by rw [hv]; simp
  have hfin : (Conv.bytesToString (.slice A xs.length c)).run P w' = .ok (.string (a1u xs)) w' := by
   cases A with
   | none =>
    have h0 : xs.length = 0 := by
     rcases Nat.eq_zero_or_pos xs.length with h0 | h0
     ·exact h0
     ·obtain ⟨b, off, k1, _⟩ := h9 h0
      cases k1
    have hxs : xs = [] := List.eq_nil_of_length_eq_zero h0
    subst hxs
    rfl
   | some ad =>
    have hld : (loadCells ad xs.length).run P w' = .ok ((xs.map fun b => (b.toNat : Int)).map (Value.int .u8)).toArray w' := by
     rw [← hv, ← hlen]
     refine run_loadCells_list w' ad vs (fun j u hu => ?_)
     have hpos : 0 < xs.length := by
      have := (List.getElem?_eq_some_iff.1 hu).1
      omega
     obtain ⟨b, off, k1, k2, k3⟩ := h9 hpos
     simp only [Option.some.injEq] at k1
     subst k1
     have hlt : b < w.heap.size := a5e (k3 j u hu)
     rw [a4Z]
     exact (World.cell?_of_block (a := ⟨b, off + j, none⟩) (hw b hlt (.inl k2))).trans (k3 j u hu)
    rw [run_bytesToString w' ad xs.length c _ hld, b6S]
    simp [a1u]
  simp only [ho, e1, Sem.run_bind, hconv, hfin, Result.andThen_ok, Sem.run_pure]
end
section
variable {P : Program} {C : Ctx} {nt : Nat} {σ : St} {L : Lyt} {a : Act} {w : World} {o : Oper} {x y : Operand} {T : TT}
theorem a6j {k : Nat} {js : List Nat} {c' : KC} {same : Bool} : lkk (σ.mut k js same c') k = some c' := by
 simp only [lkk, St.mut, List.cons_append, a0U, if_true]; rfl
structure AppF (L L' : Lyt) (w w' : World) (k : Nat) (js : List Nat) : Prop where
 chg : Chg (L.fp k) w w'
 fp : ∀ i, i ≠ k → L'.fp i = L.fp i
 bb : L'.bb = L.bb
 new : ∀ b ∈ L'.fp k, b ∈ L.fp k ∨ (∃ j ∈ js, b ∈ L.fp j) ∨ w.heap.size ≤ b
theorem b7U {d k m : Nat} {c : KC} {js : List Nat} {us : List Value} {ds : List DV} {f2 : List Nat} {K : Act → World → Prop} {A' : Option Addr} {c' : Nat} {w' : World} {vs : List Value} {f : List Nat}
  (hd : o.dst = some d) (hnt : d < nt) (hr : Rel P C nt L σ a w) (hk : lkk σ k = some c) (hE' : c.e < 1000000) (hkj : k ∉ js) (hj : ∀ j ∈ js, (lkk σ j).isSome = true) (hm' : ds.length = m * c.sz) (ho2 : a0I w ds us f2) (hf2 : ∀ b ∈ f2, ∃ j ∈ js, b ∈ L.fp j) (hn2 : f2.Nodup)
  (e3 : L.fp k = (L.rv k).ownBlock.toList ++ f) (h5 : 0 < c.sz) (h6 : c.cs.length = c.n * c.sz) (h8 : a0I w c.cs vs f)
  (h9 : w'.ownsRow 0 c.e c.sz (.slice A' (c.n + m) c') (c.n + m) (vs ++ us)) (hchg : Chg (L.rv k).ownBlock.toList w w') (hblk : (L.rv k).ownBlock = (Value.slice A' (c.n + m) c').ownBlock ∨ (Value.slice A' (c.n + m) c').ownBlock = some w.heap.size)
  (hK : ∀ L' a' w', Rel P C nt L' ((σ.mut k js false ⟨false, c.e, c.sz, c.n + m, c.cs ++ ds⟩).put d (.one (.key k))) a' w' → AppF L L' w w' k js → K a' w') : K (a.put o.dst (.slice A' (c.n + m) c')) w' := by
 have hkn := hr.kn k c hk
 rw [e3] at hkn
 obtain ⟨n1, n2, n3⟩ := List.nodup_append.1 hkn
 have hdis : ∀ b ∈ f2, b ∉ L.fp k := fun b hb' hm => by
  obtain ⟨j, hj', hb''⟩ := hf2 b hb'
  obtain ⟨q, hq⟩ := Option.isSome_iff_exists.1 (hj j hj')
  exact hr.kk j k q c hq hk (fun e => hkj (by rw [← e]; exact hj')) b hb'' hm
 have hlt1 : ∀ b ∈ f, b < w.heap.size := a5b _ _ _ h8
 have hlt2 : ∀ b ∈ f2, b < w.heap.size := a5b _ _ _ ho2
 have k1 : a0I w' c.cs vs f := a3h _ _ _ h8 (fun b hb' => hchg.block b (hlt1 b hb') (fun hm => n3 b hm b hb' rfl))
 have k2 : a0I w' ds us f2 := a3h _ _ _ ho2 (fun b hb' => hchg.block b (hlt2 b hb') (fun hm => hdis b hb' (by rw [e3]; simp [hm])))
 have hown' : Own w' (.sl c.e c.sz (c.n + m) (c.cs ++ ds)) (.slice A' (c.n + m) c') ((Value.slice A' (c.n + m) c').ownBlock.toList ++ (f ++ f2)) := by
  unfold Own
  exact ⟨vs ++ us, f ++ f2, rfl, h5, by rw [List.length_append, h6, hm', Nat.add_mul], a3T hE' h9, a3m _ _ _ _ _ _ k1 k2⟩
 have hnod : (f ++ f2).Nodup := List.nodup_append.2 ⟨n2, hn2, fun x hx' y hy' e' => hdis y hy' (by rw [e3, ← e']; simp [hx'])⟩
 have hsub : ∀ b ∈ (Value.slice A' (c.n + m) c').ownBlock.toList ++ (f ++ f2), b ∈ L.fp k ∨ (∃ j ∈ js, b ∈ L.fp j) ∨ w.heap.size ≤ b := fun b hb' => by
   rcases List.mem_append.1 hb' with hb' | hb'
   ·rcases hblk with hbl | hbl
    ·rw [← hbl] at hb'; exact .inl (by rw [e3]; simp [hb'])
    ·rw [hbl] at hb'
     simp only [Option.toList_some, List.mem_singleton] at hb'
     exact .inr (.inr (by omega))
   ·rcases List.mem_append.1 hb' with hb' | hb'
    ·exact .inl (by rw [e3]; simp [hb'])
    ·obtain ⟨j, hj', hb''⟩ := hf2 b hb'
     exact .inr (.inl ⟨j, hj', hb''⟩)
 have hset := hr.setkey (k := k) (c := c) (c' := ⟨false, c.e, c.sz, c.n + m, c.cs ++ ds⟩) (js := js) (same := false) hk hkj (hchg.mono (fun b hb' => by rw [e3]; simp [hb'])) hown'
  (by
   rcases hblk with hb' | hb'
   ·rw [← hb']
    refine List.nodup_append.2 ⟨n1, hnod, fun x hx' y hy' e' => ?_⟩
    subst e'
    rcases List.mem_append.1 hy' with hy' | hy'
    ·exact n3 x hx' x hy' rfl
    ·exact hdis x hy' (by rw [e3]; simp [hx'])
   ·rw [hb']
    refine List.nodup_append.2 ⟨by simp, hnod, fun x hx' y hy' e' => ?_⟩
    subst e'
    simp only [Option.toList_some, List.mem_singleton] at hx'
    subst hx'
    rcases List.mem_append.1 hy' with hy' | hy'
    ·exact absurd (hlt1 _ hy') (by omega)
    ·exact absurd (hlt2 _ hy') (by omega))
  hsub hj (by simp) (by simp)
 refine hK { L with fp := fun i => if i = k then (Value.slice A' (c.n + m) c').ownBlock.toList ++ (f ++ f2) else L.fp i, rv := fun i => if i = k then .slice A' (c.n + m) c' else L.rv i } _ _ ?_ ?_
 ·rw [hd]
  exact hset.put (v := .one (.key k)) (r := .slice A' (c.n + m) c') hnt (by simp [SVr, CVr]) (by simp [SV.keys, CV.keys, a6j]) (by simp [SV.boxes])
 ·exact ⟨hchg.mono (fun b hb' => by rw [e3]; simp [hb']), fun i hi => if_neg hi, rfl, by simpa using hsub⟩
theorem c3W {d k m : Nat} {c : KC} {js : List Nat} {us : List Value} {ds : List DV} {f2 : List Nat} {K : Act → World → Prop} {A' : Option Addr} {c' : Nat} {w' : World} {vs : List Value} {f : List Nat}
  (hd : o.dst = some d) (hnt : d < nt) (hr : Rel P C nt L σ a w) (hk : lkk σ k = some c) (hE' : c.e < 1000000) (hkj : k ∉ js) (hj : ∀ j ∈ js, (lkk σ j).isSome = true) (hm' : ds.length = m * c.sz) (ho2 : a0I w ds us f2) (hf2 : ∀ b ∈ f2, ∃ j ∈ js, b ∈ L.fp j) (hn2 : f2.Nodup)
  (e3 : L.fp k = (L.rv k).ownBlock.toList ++ f) (h5 : 0 < c.sz) (h6 : c.cs.length = c.n * c.sz) (h8 : a0I w c.cs vs f)
  (h9 : w'.ownsRow 0 c.e c.sz (.slice A' (c.n + m) c') (c.n + m) (vs ++ us)) (hchg : Chg (L.rv k).ownBlock.toList w w') (hblk : (L.rv k).ownBlock = (Value.slice A' (c.n + m) c').ownBlock ∨ (Value.slice A' (c.n + m) c').ownBlock = some w.heap.size)
  (hK : ∀ L' a' w', Rel P C nt L' ((σ.mut k js false ⟨false, c.e, c.sz, c.n + m, c.cs ++ ds⟩).put d (.one (.key k))) a' w' → K a' w') : K (a.put o.dst (.slice A' (c.n + m) c')) w' :=
 b7U hd hnt hr hk hE' hkj hj hm' ho2 hf2 hn2 e3 h5 h6 h8 h9 hchg hblk (fun L' a' w' h _ => hK L' a' w' h)
theorem c0m (hT : TTOk P T) {t e sz by_ d k m cap : Nat} {zc : List CV} {c : KC} {js : List Nat} {A : Option Addr} {us : List Value} {ds : List DV} {f2 : List Nat} {K : Act → World → Prop} {Q : Exit → Act → World → Prop}
  (ho : o.op = .call { callee := .builtin .append, args := #[x, y], argTypes := #[t, t] }) (hd : o.dst = some d) (hnt : d < nt) (ht : look T.sl t = some e) (he : look T.el e = some (sz, by_, zc)) (hl0 : zc.length = sz)
  (hr : Rel P C nt L σ a w) (hk : lkk σ k = some c) (hce : c.e = e) (hcs : c.sz = sz) (hx : a.eval x = L.rv k) (hy : a.eval y = .slice A m cap) (hkj : k ∉ js) (hj : ∀ j ∈ js, (lkk σ j).isSome = true)
  (hsrc : a2z w A m sz us) (ho2 : a0I w ds us f2) (hf2 : ∀ b ∈ f2, ∃ j ∈ js, b ∈ L.fp j) (hn2 : f2.Nodup) (h63 : c.n + m ≤ maxLen) (hb : (c.n + m) * by_ ≤ 140737488355328)
  (hK : ∀ L' a' w', Rel P C nt L' ((σ.mut k js false ⟨false, e, sz, c.n + m, c.cs ++ ds⟩).put d (.one (.key k))) a' w' → AppF L L' w w' k js → K a' w') : o.wp P a w K Q := by
 subst hce; subst hcs
 obtain ⟨inf, z, g1, g2, g3, g4, g5⟩ := hT.el c.e c.sz by_ zc he
 have hown := (hr.ks k c hk).1
 simp only [Own] at hown
 obtain ⟨vs, f, e3, h5, h6, h7, h8⟩ := hown
 have hE' : c.e < 1000000 := hT.lt _ _ he
 have h7 := h7.1 hE'
 have hm' : ds.length = m * c.sz := by rw [← a2L _ _ _ ho2, hsrc.1]
 have hone : ∀ u ∈ us, u.oneCell' = true := a8M (ok := fun _ => True) _ _ (a7p _ _ _ ho2 (fun _ _ => trivial))
 have hzs : z.cells.size = c.sz := by
  have := a6L g5
  simp only [Array.length_toList] at this
  rw [this, hl0]
 refine b0D w x y t ho c.e z c.sz by_ (hT.sl t c.e ht) (by rw [g1]; simp [g2, g3, g4]) hzs h5 (L.rv k) c.n vs hx h7 A m cap us hy hsrc hone h63 hb ?_
 intro A' c' w' h9 hchg hblk
 exact b7U hd hnt hr hk hE' hkj hj hm' ho2 hf2 hn2 e3 h5 h6 h8 h9 hchg hblk hK
theorem b6E (hT : TTOk P T) {t e sz by_ d k m cap : Nat} {zc : List CV} {c : KC} {js : List Nat} {A : Option Addr} {us : List Value} {ds : List DV} {f2 : List Nat} {K : Act → World → Prop} {Q : Exit → Act → World → Prop}
  (ho : o.op = .call { callee := .builtin .append, args := #[x, y], argTypes := #[t, t] }) (hd : o.dst = some d) (hnt : d < nt) (ht : look T.sl t = some e) (he : look T.el e = some (sz, by_, zc)) (hl0 : zc.length = sz)
  (hr : Rel P C nt L σ a w) (hk : lkk σ k = some c) (hce : c.e = e) (hcs : c.sz = sz) (hx : a.eval x = L.rv k) (hy : a.eval y = .slice A m cap) (hkj : k ∉ js) (hj : ∀ j ∈ js, (lkk σ j).isSome = true)
  (hsrc : a2z w A m sz us) (ho2 : a0I w ds us f2) (hf2 : ∀ b ∈ f2, ∃ j ∈ js, b ∈ L.fp j) (hn2 : f2.Nodup) (h63 : c.n + m ≤ maxLen) (hb : (c.n + m) * by_ ≤ 140737488355328)
  (hK : ∀ L' a' w', Rel P C nt L' ((σ.mut k js false ⟨false, e, sz, c.n + m, c.cs ++ ds⟩).put d (.one (.key k))) a' w' → K a' w') : o.wp P a w K Q :=
 c0m hT ho hd hnt ht he hl0 hr hk hce hcs hx hy hkj hj hsrc ho2 hf2 hn2 h63 hb (fun L' a' w' h _ => hK L' a' w' h)
theorem b3A {ok : Nat → Prop} {w w' : World} : ∀ {ds : List DV} {vs : List Value}, ds.all DV.plain = true → a1g ok w ds vs → a0I w' ds vs []
 | [], _, _, h => by simp only [a1g] at h; subst h; simp [a0I]
 | d :: ds, _, hp, h => by
  simp only [List.all_cons, Bool.and_eq_true] at hp
  simp only [a1g] at h
  obtain ⟨v, vs', rfl, h1, h2⟩ := h
  simp only [a0I]
  exact ⟨v, vs', [], [], rfl, rfl, a8a hp.1 h1, b3A hp.2 h2⟩
theorem b3L {ok : Nat → Prop} {w : World} {e sz n : Nat} {cs : List DV} {v : Value} (h : Lay ok w (.sl e sz n cs) v) : ∃ A c vs, v = .slice A n c ∧ a2z w A n sz vs ∧ a1g ok w cs vs := by
 simp only [Lay] at h
 obtain ⟨A, c, vs, e1, h2, h3, h4, h5, h6, h7⟩ := h
 refine ⟨A, c, vs, e1, ⟨by rw [a4t _ _ h6, h5], fun hn => ?_⟩, h6⟩
 obtain ⟨b, off, k1, _, k3⟩ := h7 hn
 exact ⟨b, off, k1, k3⟩
theorem a3r {α : Type} {enc : α → List DV} (h : ∀ x, (enc x).all DV.plain = true) : ∀ xs : List α, (xs.flatMap enc).all DV.plain = true
 | [] => rfl
 | x :: xs => by rw [List.flatMap_cons, List.all_append, h, a3r h xs]; rfl
theorem c8c (hT : TTOk P T) {t e sz by_ d k m : Nat} {zc : List CV} {c : KC} {J : List Nat} {e2 : Nat} {ds : List DV} (ho : o.op = .call { callee := .builtin .append, args := #[x, y], argTypes := #[t, t] }) (hd : o.dst = some d) (hnt : Nat.blt d nt = true) (ht : look T.sl t = some e) (he : look T.el e = some (sz, by_, zc)) (hl0 : zc.length = sz)
  (hx : Ev P C nt σ x (.one (.key k))) (hk : lkk σ k = some c) (hce : c.e = e) (hcs : c.sz = sz) (hy : Ev P C nt σ y (.one (.dv J (.sl e2 sz m ds)))) (hp : ds.all DV.plain = true) (hb : (c.n + m) * by_ ≤ 140737488355328) (h63 : c.n + m ≤ 9223372036854775807) :
  Ef P C nt o σ (fun σ' => σ' = (σ.mut k [] false ⟨false, e, sz, c.n + m, c.cs ++ ds⟩).put d (.one (.key k))) := Ef.mk fun L a w hr K Q hK => by
 have h1 := hx.run L a w hr
 have h2 := hy.run L a w hr
 simp only [SVr, CVr] at h1 h2
 obtain ⟨A, cap, vs, e1, hrow, hlay⟩ := b3L h2
 exact b6E hT ho hd (by simpa [Nat.blt_eq] using hnt) ht he hl0 hr hk hce hcs h1 e1 (by simp) (by simp) hrow (b3A hp hlay) (by simp) (by simp) (by simpa [maxLen] using h63) hb (fun L' a' w' h => hK L' _ _ _ rfl h)
theorem c2S (hT : TTOk P T) {t e sz by_ d k j : Nat} {zc : List CV} {c c2 : KC} (ho : o.op = .call { callee := .builtin .append, args := #[x, y], argTypes := #[t, t] }) (hd : o.dst = some d) (hnt : Nat.blt d nt = true) (ht : look T.sl t = some e) (he : look T.el e = some (sz, by_, zc)) (hl0 : zc.length = sz)
  (hx : Ev P C nt σ x (.one (.key k))) (hk : lkk σ k = some c) (hce : c.e = e) (hcs : c.sz = sz) (hy : Ev P C nt σ y (.one (.key j))) (hj : lkk σ j = some c2) (hcs2 : c2.sz = sz) (hkj : k ∉ [j]) (hb : (c.n + c2.n) * by_ ≤ 140737488355328) (h63 : c.n + c2.n ≤ 9223372036854775807) :
  Ef P C nt o σ (fun σ' => σ' = (σ.mut k [j] false ⟨false, e, sz, c.n + c2.n, c.cs ++ c2.cs⟩).put d (.one (.key k))) := Ef.mk fun L a w hr K Q hK => by
 have h1 := hx.run L a w hr
 have h2 := hy.run L a w hr
 simp only [SVr, CVr] at h1 h2
 have hown := (hr.ks j c2 hj).1
 have hlay := a4Q (ok := fun _ => True) _ _ _ hown (fun _ _ => trivial)
 rw [hcs2] at hlay
 simp only [Own] at hown
 obtain ⟨vs, f, e3, h5, h6, h7, h8⟩ := hown
 obtain ⟨A, cap, vs', e1, hrow, hlay'⟩ := b3L hlay
 have hvs : vs' = vs := by
  have h7' := a6c h7
  rcases h7'.2 with ⟨g1, g2⟩ | ⟨g, cap2, cur, t', fz', g1, g2, g3, g4, g5, g6⟩
  ·have l1 : vs.length = 0 := by rw [h7'.1, g2]; simp
   have l2 : vs'.length = 0 := by rw [hrow.1, g2]; simp
   rw [List.eq_nil_of_length_eq_zero l1, List.eq_nil_of_length_eq_zero l2]
  ·rw [e1] at g1
   simp only [Value.slice.injEq, true_and] at g1
   obtain ⟨rfl, rfl⟩ := g1
   rcases Nat.eq_zero_or_pos c2.n with h0 | h0
   ·have l1 : vs.length = 0 := by rw [h7'.1, h0]; simp
    have l2 : vs'.length = 0 := by rw [hrow.1, h0]; simp
    rw [List.eq_nil_of_length_eq_zero l1, List.eq_nil_of_length_eq_zero l2]
   ·obtain ⟨b, off, k1, k2⟩ := hrow.2 h0
    simp only [Option.some.injEq, Addr.mk.injEq, and_true] at k1
    obtain ⟨rfl, rfl⟩ := k1
    apply List.ext_getElem (by rw [hrow.1, h7'.1, hcs2])
    intro i i1 i2
    have q1 := k2 i _ (List.getElem?_eq_getElem i1)
    rw [Nat.zero_add, cell_of_row w _ i cur t' fz' g2] at q1
    have q3 : i < c2.n * c2.sz := by rw [← h7'.1]; exact i2
    have q2 : vs[i]? = cur[i]? := by rw [← g6, List.getElem?_take, if_pos q3, Array.getElem?_toList]
    rw [List.getElem?_eq_getElem i2] at q2
    rw [← q2] at q1
    exact (Option.some.inj q1).symm
 subst hvs
 have hnf : f.Nodup := by
  have := hr.kn j c2 hj
  rw [e3] at this
  exact (List.nodup_append.1 this).2.1
 exact b6E hT ho hd (by simpa [Nat.blt_eq] using hnt) ht he hl0 hr hk hce hcs h1 (by rw [h2]; exact e1) hkj (by simp [hj]) hrow h8 (fun b hb' => ⟨j, by simp, by rw [e3]; simp [hb']⟩) hnf (by simpa [maxLen] using h63) hb (fun L' a' w' h => hK L' _ _ _ rfl h)
theorem Rel.also (h : Rel P C nt L σ a w) {d : Nat} {v : SV} (hv : SVr P C L w v (a.tmps.getD d undef)) (hk : ∀ k ∈ v.keys, (lkk σ k).isSome = true) (hb : ∀ b ∈ v.boxes, (look σ.bx b).isSome = true) : Rel P C nt L (σ.put d v) a w :=
 { h with
  tm := fun i u hu => by
   simp only [St.put, a0U] at hu
   split at hu
   ·rename_i e
    simp only [Option.some.injEq] at hu
    rw [e, ← hu]; exact hv
   ·exact h.tm i u hu
  bx := h.bx
  ks := h.ks
  b1 := h.b1
  k1 := h.k1
  kn := h.kn
  bb := h.bb
  bk := h.bk
  kk := h.kk
  lk := fun k hk' => by
   simp only [St.tk, St.put, List.flatMap_cons, List.append_assoc, List.mem_append] at hk'
   rcases hk' with hk' | hk'
   ·exact hk k hk'
   ·exact h.lk k (by simp only [St.tk, List.mem_append]; exact hk')
  lb := fun b hb' => by
   simp only [St.tb, St.put, List.flatMap_cons, List.mem_append] at hb'
   rcases hb' with hb' | hb'
   ·exact hb b hb'
   ·exact h.lb b hb' }
theorem Rel.alsoB (h : Rel P C nt L σ a w) {b t : Nat} {cs cs' : List CV} (hb : look σ.bx b = some (t, cs)) (hv : ∀ vs, CVL C L w cs vs → CVL C L w cs' vs) (hk : ∀ k ∈ cs'.flatMap CV.keys, (lkk σ k).isSome = true) : Rel P C nt L ⟨σ.tm, (b, t, cs') :: σ.bx, σ.ks⟩ a w :=
 have hx : ∀ i x, look ((b, t, cs') :: σ.bx) i = some x → ∃ y, look σ.bx i = some y := fun i x hx => by
  simp only [a0U] at hx
  split at hx
  ·rename_i e; exact ⟨_, by rw [e]; exact hb⟩
  ·exact ⟨_, hx⟩
 { h with
  tm := h.tm
  bx := fun i t' cs'' hx => by
   simp only [a0U] at hx
   split at hx
   ·rename_i e
    simp only [Option.some.injEq, Prod.mk.injEq] at hx
    obtain ⟨rfl, rfl⟩ := hx
    obtain ⟨vs, h1, h2⟩ := h.bx b _ _ hb
    exact ⟨vs, by rw [e]; exact h1, hv vs h2⟩
   ·exact h.bx i t' cs'' hx
  ks := h.ks
  b1 := fun i x h' => by obtain ⟨y, hy⟩ := hx i x h'; exact h.b1 i y hy
  k1 := h.k1
  kn := h.kn
  bb := fun i j x y h1 h2 => by
   obtain ⟨x', h1'⟩ := hx i x h1
   obtain ⟨y', h2'⟩ := hx j y h2
   exact h.bb i j x' y' h1' h2'
  bk := fun i k x c h' hc => by obtain ⟨y, hy⟩ := hx i x h'; exact h.bk i k y c hy hc
  kk := h.kk
  lk := fun k hm => by
   simp only [St.tk, List.flatMap_cons, List.mem_append] at hm
   rcases hm with hm | hm | hm
   ·exact h.lk k (by simp only [St.tk, List.mem_append]; exact .inl hm)
   ·exact hk k hm
   ·exact h.lk k (by simp only [St.tk, List.mem_append]; exact .inr hm)
  lb := fun b' hm => by
   have := h.lb b' hm
   simp only [a0U]
   split
   ·rfl
   ·exact this }
theorem b5f {L : Lyt} {w : World} {c' : CV} : ∀ {cs : List CV} {vs : List Value} {i : Nat} {c : CV}, cs[i]? = some c → (∀ v, CVr C L w c v → CVr C L w c' v) → CVL C L w cs vs → CVL C L w (cs.set i c') vs
 | [], _, i, _, h, _, _ => by simp at h
 | x :: xs, _, 0, c, h, hc, ⟨v, vs', e, h1, h2⟩ => by
  simp only [List.getElem?_cons_zero, Option.some.injEq] at h
  subst h
  exact ⟨v, vs', e, hc v h1, h2⟩
 | x :: xs, _, i + 1, c, h, hc, ⟨v, vs', e, h1, h2⟩ => ⟨v, vs', e, h1, b5f (by simpa using h) hc h2⟩
theorem a4h (k : Nat) {b i t e sz : Nat} {cs : List CV} (hb : look σ.bx b = some (t, cs)) (hi : cs[i]? = some .nil) (hk : lkk σ k = none) (hsz : Nat.blt 0 sz = true) (hl : ((cs.set i (.key k)).flatMap CV.keys).all (fun j => Nat.beq j k || (lkk σ j).isSome) = true) :
  Weak P C nt σ ⟨σ.tm, (b, t, cs.set i (.key k)) :: σ.bx, (k, some ⟨false, e, sz, 0, []⟩) :: σ.ks⟩ := Weak.mk fun L a w hr => by
 have hpos : 0 < sz := by simpa [Nat.blt_eq] using hsz
 have h1 := hr.newkey (k := k) (c := ⟨false, e, sz, 0, []⟩) (v := .slice none 0 0) (f := []) hk (a7J w e sz hpos) rfl (by simp) (by simp) (by simp) (by simp)
 refine ⟨_, h1.alsoB (b := b) hb (fun vs hv => b5f hi (fun v hv => ?_) hv) (fun j hj => ?_)⟩
 ·simp only [CVr] at hv ⊢
  rw [hv]; simp
 ·have := List.all_eq_true.1 hl j hj
  simp only [Bool.or_eq_true] at this
  simp only [lkk, a0U]
  split
  ·rfl
  ·rename_i e'
   rcases this with this | this
   ·exact absurd (Nat.eq_of_beq_eq_true this) e'
   ·exact this
theorem a9W (w : World) (o : Obj) : (w.alloc o).heap[w.heap.size]? = some o := heap_alloc_new w o
theorem b5O (off : Nat) : ∀ (us : List Value) (k : Nat) (cs : List Value), off + k + us.length ≤ cs.length → (us.zipIdx k).foldl (fun (acc : Array Value) (p : Value × Nat) => acc.setIfInBounds (off + p.2) p.1) cs.toArray = (a1a (off + k) us cs).toArray
 | [], k, cs, _ => by simp [a1a]
 | u :: us, k, cs, h => by
  simp only [List.length_cons] at h
  rw [List.zipIdx_cons, List.foldl_cons]
  have e : (cs.toArray.setIfInBounds (off + k) u) = (cs.set (off + k) u).toArray := by simp
  simp only [e]
  rw [b5O off us (k + 1) _ (by simp; omega)]
  congr 1
  have hlt : off + k < cs.length := by omega
  unfold a1a
  rw [List.set_eq_take_append_cons_drop, if_pos hlt]
  have h1 : (cs.take (off + k)).length = off + k := by simp; omega
  have e1 : (cs.take (off + k) ++ u :: cs.drop (off + k + 1)).take (off + (k + 1)) = cs.take (off + k) ++ [u] := by
   rw [show off + (k + 1) = (cs.take (off + k)).length + 1 by omega, List.take_length_add_append]
   simp
  have e2 : (cs.take (off + k) ++ u :: cs.drop (off + k + 1)).drop (off + (k + 1) + us.length) = cs.drop (off + k + (us.length + 1)) := by
   rw [show off + (k + 1) + us.length = (cs.take (off + k)).length + (1 + us.length) by omega, ← List.drop_drop, List.drop_left, ← List.drop_drop]
   simp only [List.drop_succ_cons, List.drop_zero, List.drop_drop]
   congr 1; omega
  rw [e1, e2]
  simp
theorem b3E {place : Nat → Option (Nat × Nat)} {i off sz : Nat} {v : Value} {us cs : List Value} {rest : List (Nat × Value)} (hp : place i = some (off, sz)) (hv : v.cells = us.toArray) (hl : us.length = sz) (hb : off + sz ≤ cs.length) :
  Instr.fill place cs.toArray ((i, v) :: rest) = Instr.fill place (a1a off us cs).toArray rest := by
 have h2 := b5O off us 0 cs (by omega)
 simp only [Nat.add_zero] at h2
 have e2 : (us.toArray.zipIdx.foldl (fun (acc : Array Value) (p : Value × Nat) => acc.setIfInBounds (off + p.2) p.1) cs.toArray) = (a1a off us cs).toArray := by
  rw [← h2]; simp
 conv => lhs; unfold Instr.fill
 simp only [hp, hv, List.size_toArray, hl, ne_eq, not_true_eq_false, decide_false, Bool.false_or, gt_iff_lt, decide_eq_true_eq, Bool.or_eq_true]
 rw [if_neg (by omega)]
 exact congrArg (fun z => Instr.fill place z rest) e2
theorem b6r {t e sz by_ : Nat} {zc : List CV} (hT : TTOk P T) (ht : look T.sl t = some e) (he : look T.el e = some (sz, by_, zc)) (hl0 : zc.length = sz) (hpos : 0 < sz) (hsm : sz ≤ 16777216) {v : Value} {us : List Value} (hv : v.cells = us.toArray) (hl : us.length = sz) :
  (Instr.buildSlice t 1 #[(0, v)]).run P w = .ok (.slice (some ⟨w.heap.size, 0, none⟩) 1 1) (w.alloc (.cells us.toArray e)) := by
 obtain ⟨inf, z, g1, g2, g3, g4, g5⟩ := hT.el e sz by_ zc he
 refine run_buildSlice w t e 1 _ us.toArray inf z (hT.sl t e ht) g1 g4 (by rw [g2]; omega) (by rw [g2]; omega) ?_
 rw [g2]
 have : ((Array.range (1 * sz)).map fun j => z.cells[j % z.cells.size]!) = (((List.range sz).map fun j => z.cells[j % z.cells.size]!)).toArray := by
  rw [Nat.one_mul]
  apply Array.ext'
  simp
 rw [this, b3E (off := 0) (sz := sz) (by simp) hv hl (by simp)]
 have h2 : a1a 0 us ((List.range sz).map fun j => z.cells[j % z.cells.size]!) = us := by
  unfold a1a
  simp [hl]
 rw [h2]
 rfl
theorem b8u {t e sz by_ : Nat} {zc : List CV} (hT : TTOk P T) (ht : look T.sl t = some e) (he : look T.el e = some (sz, by_, zc)) :
  (Instr.buildSlice t 0 #[]).run P w = .ok (.slice (some ⟨w.heap.size, 0, none⟩) 0 0) (w.alloc (.cells #[] e)) := by
 obtain ⟨inf, z, g1, g2, g3, g4, g5⟩ := hT.el e sz by_ zc he
 have h0 : (Array.range 0) = #[] := rfl
 simp [Instr.buildSlice, run_underlying (hT.sl t e ht), sizeOf, typeInfo, g1, Instr.fill, newRow, h0]
theorem c1v (hT : TTOk P T) {t e sz by_ d k : Nat} {zc : List CV} (ho : o.op = .buildSlice t 0 #[]) (hd : o.dst = some d) (hn : Nat.blt d nt = true) (ht : look T.sl t = some e) (he : look T.el e = some (sz, by_, zc)) (hsz : Nat.blt 0 sz = true) (hk : lkk σ k = none) :
  EfG P C nt o σ (fun σ' => σ' = { σ with ks := (k, some ⟨false, e, sz, 0, []⟩) :: σ.ks }.put d (.one (.key k))) := EfG.mk fun L a w hr K Q hK => by
 have hpos : 0 < sz := by simpa [Nat.blt_eq] using hsz
 have hchg : Chg [] w (w.alloc (.cells #[] e)) := (Chg.refl [] w).alloc _
 refine a5c (v := .slice (some ⟨w.heap.size, 0, none⟩) 0 0) (w' := w.alloc (.cells #[] e)) ?_ ?_
 ·unfold execOp
  simp only [ho, List.map_toArray, List.map_nil, b8u (P := P) (w := w) hT ht he, Sem.run_bind, Result.andThen_ok, Sem.run_pure]
 ·have hb := hr.newkey' hchg (c := ⟨false, e, sz, 0, []⟩) (v := .slice (some ⟨w.heap.size, 0, none⟩) 0 0) (f := [w.heap.size]) hk
   (by
    unfold Own
    exact ⟨[], [], rfl, hpos, by simp, a3T (hT.lt e _ he) ⟨by simp, .inr ⟨w.heap.size, 0, #[], rfl, Nat.zero_le _, a9W w _, Nat.le_refl _, Nat.zero_le _, by simp, by simp⟩⟩, by simp [a0I]⟩) rfl (by simp) (by simp)
  refine hK { L with fp := fun j => if j = k then [w.heap.size] else L.fp j, rv := fun j => if j = k then .slice (some ⟨w.heap.size, 0, none⟩) 0 0 else L.rv j } _ _ _ rfl (by rw [hd]; exact hb.put (v := .one (.key k)) (r := .slice (some ⟨w.heap.size, 0, none⟩) 0 0) (by simpa [Nat.blt_eq] using hn) (by simp [SVr, CVr]) (by simp [SV.keys, CV.keys, lkk, a0U]) (by simp [SV.boxes])) ⟨hchg, fun i c hc => ?_, fun _ _ _ => rfl⟩
  have : i ≠ k := fun e => by rw [e, hk] at hc; cases hc
  simp [this]
theorem c6H (hT : TTOk P T) {t e sz by_ d k : Nat} {zc : List CV} {v : SV} {p : Bool × List CV} {ds : List DV} {js : List Nat} (ho : o.op = .buildSlice t 1 #[(0, x)]) (hd : o.dst = some d) (hn : Nat.blt d nt = true) (ht : look T.sl t = some e) (he : look T.el e = some (sz, by_, zc)) (hl0 : zc.length = sz) (hsz : Nat.blt 0 sz = true) (hsm : Nat.ble sz 16777216 = true)
  (hx : Ev P C nt σ x v) (hp : v.part = some p) (hkv : a1v σ v = true) (how : a3Z σ p.2 ds js) (hnj : js.Nodup) (hkj : k ∉ js) (hl : p.2.length = sz) (hk : lkk σ k = none) :
  Ef P C nt o σ (fun σ' => σ' = (St.mut { σ with ks := (k, some ⟨false, e, sz, 0, []⟩) :: σ.ks } k js false ⟨false, e, sz, 1, ds⟩).put d (.one (.key k))) := Ef.mk fun L a w hr K Q hK => by
 have hpos : 0 < sz := by simpa [Nat.blt_eq] using hsz
 obtain ⟨us, h1, h2, h3⟩ := a5p hr hp hkv (hx.run L a w hr)
 have hus : us.length = sz := by rw [a3j h2]; exact hl
 obtain ⟨o1, o2, o3⟩ := a7X hr how h2
 have hchg : Chg [] w (w.alloc (.cells us.toArray e)) := (Chg.refl [] w).alloc _
 have hr1 := hr.newkey (k := k) (c := ⟨false, e, sz, 0, []⟩) (v := .slice none 0 0) (f := []) hk (a7J w e sz hpos) rfl (by simp) (by simp) (by simp) (by simp)
 have hlj : ∀ j ∈ js, (lkk { σ with ks := (k, some ⟨false, e, sz, 0, []⟩) :: σ.ks } j).isSome = true := fun j hj => by
  have hjk : j ≠ k := fun e' => hkj (by rw [← e']; exact hj)
  have := o2 j hj
  simp only [lkk, a0U, if_neg hjk] at this ⊢
  exact this
 have hlt : ∀ b ∈ js.flatMap L.fp, b < w.heap.size := a5b _ _ _ o1
 have o1' : a0I (w.alloc (.cells us.toArray e)) ds us (js.flatMap L.fp) := a3h _ _ _ o1 (fun b hb => hchg.block b (hlt b hb) (by simp))
 have hset := hr1.setkey (k := k) (c := ⟨false, e, sz, 0, []⟩) (c' := ⟨false, e, sz, 1, ds⟩) (js := js) (same := false) (w' := w.alloc (.cells us.toArray e)) (v' := .slice (some ⟨w.heap.size, 0, none⟩) 1 1) (f' := w.heap.size :: js.flatMap L.fp)
  (by simp [lkk, a0U]) hkj (by simpa using hchg)
  (by
   unfold Own
   refine ⟨us, js.flatMap L.fp, rfl, hpos, by rw [o3, hl, Nat.one_mul], a3T (hT.lt e _ he) ⟨by rw [hus, Nat.one_mul], .inr ⟨w.heap.size, 1, us.toArray, rfl, Nat.zero_le _, a9W w _, Nat.le_refl _, by simp [maxLen], by simp [hus], by rw [Nat.one_mul, ← hus]; simp⟩⟩, o1'⟩)
  (by
   rw [List.nodup_cons]
   exact ⟨fun hm => absurd (hlt _ hm) (by omega), b0n hr hnj o2⟩)
  (fun b hb => by
   rcases List.mem_cons.1 hb with hb | hb
   ·exact .inr (.inr (by omega))
   ·obtain ⟨j, hj, hb'⟩ := List.mem_flatMap.1 hb
    have hjk : j ≠ k := fun e' => hkj (by rw [← e']; exact hj)
    exact .inr (.inl ⟨j, hj, by simpa [hjk] using hb'⟩)) hlj (by simp) (by simp)
 refine a5c (v := .slice (some ⟨w.heap.size, 0, none⟩) 1 1) (w' := w.alloc (.cells us.toArray e)) ?_ ?_
 ·unfold execOp
  simp only [ho, List.map_toArray, List.map_cons, List.map_nil, b6r (P := P) (w := w) hT ht he hl0 hpos (by simpa [Nat.ble_eq] using hsm) h1 hus, Sem.run_bind, Result.andThen_ok, Sem.run_pure]
 ·rw [hd]
  exact hK _ _ _ _ rfl (hset.put (v := .one (.key k)) (r := .slice (some ⟨w.heap.size, 0, none⟩) 1 1) (by simpa [Nat.blt_eq] using hn) (by simp [SVr, CVr]) (by simp [SV.keys, CV.keys, a6j]) (by simp [SV.boxes]))
/-! over states that are written out -/
section
variable {Q : Exit → St → Prop} {all : Array Oper} {rest : List Oper} {tm : List (Nat × SV)} {bx : List (Nat × TypeId × List CV)} {ks : List (Nat × Option KC)}
theorem a8y (hT : TTOk P T) {t e sz by_ d k m : Nat} {zc : List CV} {c : KC} {J : List Nat} {e2 : Nat} {ds cs : List DV} (hg : o.guard = none) (hd : o.dst = some d) (ho : o.op = .call { callee := .builtin .append, args := #[x, y], argTypes := #[t, t] }) (hnt : Nat.blt d nt = true) (ht : look T.sl t = some e) (he : look T.el e = some (sz, by_, zc)) (hl0 : zc.length = sz)
  (hx : Ev P C nt ⟨tm, bx, ks⟩ x (.one (.key k))) (hk : lkk ⟨tm, bx, ks⟩ k = some c) (hce : c.e = e) (hcs : c.sz = sz) (hy : Ev P C nt ⟨tm, bx, ks⟩ y (.one (.dv J (.sl e2 sz m ds)))) (hp : ds.all DV.plain = true) (hb : (c.n + m) * by_ ≤ 140737488355328) (h63 : c.n + m ≤ 9223372036854775807) {n : Nat} (hn : c.n + m = n) (hcc : c.cs ++ ds = cs)
  (h : Ops P C nt Q all rest ⟨(d, .one (.key k)) :: a0l [k] [k] tm, a0j [k] [k] bx, (k, some ⟨false, e, sz, n, cs⟩) :: ks⟩) : Ops P C nt Q all (o :: rest) ⟨tm, bx, ks⟩ :=
 a3x hg (c8c hT ho hd hnt ht he hl0 hx hk hce hcs hy hp hb h63) (by subst hn; subst hcc; exact h)
theorem a3l (hT : TTOk P T) {t e sz by_ d k j : Nat} {zc : List CV} {c c2 : KC} {cs : List DV} (hg : o.guard = none) (hd : o.dst = some d) (ho : o.op = .call { callee := .builtin .append, args := #[x, y], argTypes := #[t, t] }) (hnt : Nat.blt d nt = true) (ht : look T.sl t = some e) (he : look T.el e = some (sz, by_, zc)) (hl0 : zc.length = sz)
  (hx : Ev P C nt ⟨tm, bx, ks⟩ x (.one (.key k))) (hk : lkk ⟨tm, bx, ks⟩ k = some c) (hce : c.e = e) (hcs : c.sz = sz) (hy : Ev P C nt ⟨tm, bx, ks⟩ y (.one (.key j))) (hj : lkk ⟨tm, bx, ks⟩ j = some c2) (hcs2 : c2.sz = sz) (hkj : k ∉ [j]) (hb : (c.n + c2.n) * by_ ≤ 140737488355328) (h63 : c.n + c2.n ≤ 9223372036854775807) {n : Nat} (hn : c.n + c2.n = n) (hcc : c.cs ++ c2.cs = cs)
  (h : Ops P C nt Q all rest ⟨(d, .one (.key k)) :: a0l [k, j] [k, j] tm, a0j [k, j] [k, j] bx, (k, some ⟨false, e, sz, n, cs⟩) :: (j, none) :: ks⟩) : Ops P C nt Q all (o :: rest) ⟨tm, bx, ks⟩ :=
 a3x hg (c2S hT ho hd hnt ht he hl0 hx hk hce hcs hy hj hcs2 hkj hb h63) (by subst hn; subst hcc; exact h)
theorem a2f (hT : TTOk P T) {t e sz by_ d k : Nat} {zc : List CV} (hg : o.guard = none) (hd : o.dst = some d) (ho : o.op = .buildSlice t 0 #[]) (hn : Nat.blt d nt = true) (ht : look T.sl t = some e) (he : look T.el e = some (sz, by_, zc)) (hsz : Nat.blt 0 sz = true) (hk : lkk ⟨tm, bx, ks⟩ k = none)
  (h : Ops P C nt Q all rest ⟨(d, .one (.key k)) :: tm, bx, (k, some ⟨false, e, sz, 0, []⟩) :: ks⟩) : Ops P C nt Q all (o :: rest) ⟨tm, bx, ks⟩ := a3x hg (c1v hT ho hd hn ht he hsz hk).ef h
theorem a3B (hT : TTOk P T) {t e sz by_ d k : Nat} {zc : List CV} {v : SV} {p : Bool × List CV} {ds : List DV} {js : List Nat} (hg : o.guard = none) (hd : o.dst = some d) (ho : o.op = .buildSlice t 1 #[(0, x)]) (hn : Nat.blt d nt = true) (ht : look T.sl t = some e) (he : look T.el e = some (sz, by_, zc)) (hl0 : zc.length = sz) (hsz : Nat.blt 0 sz = true) (hsm : Nat.ble sz 16777216 = true)
  (hx : Ev P C nt ⟨tm, bx, ks⟩ x v) (hp : v.part = some p) (hkv : a1v ⟨tm, bx, ks⟩ v = true) (how : a3Z ⟨tm, bx, ks⟩ p.2 ds js) (hnj : js.Nodup) (hkj : k ∉ js) (hl : p.2.length = sz) (hk : lkk ⟨tm, bx, ks⟩ k = none)
  (h : Ops P C nt Q all rest ⟨(d, .one (.key k)) :: a0l (k :: js) (k :: js) tm, a0j (k :: js) (k :: js) bx, (k, some ⟨false, e, sz, 1, ds⟩) :: ((js.map fun j => (j, none)) ++ (k, some ⟨false, e, sz, 0, []⟩) :: ks)⟩) : Ops P C nt Q all (o :: rest) ⟨tm, bx, ks⟩ :=
 a3x hg (c6H hT ho hd hn ht he hl0 hsz hsm hx hp hkv how hnj hkj hl hk) h
end
end
def c5x (P : Program) (T : List (Nat × List (Nat × Nat))) : Bool := T.all fun p => match P.underlying p.1 with
 | some (.struct fs) => (fs.toList.map fun f => (f.offset, (P.info? f.type).map (·.size))) == p.2.map fun q => (q.1, some q.2)
 | _ => false
structure BOk (P : Program) (T : List (Nat × List (Nat × Nat))) : Prop where
 bs : ∀ t pl, look T t = some pl → ∃ fs, P.underlying t = some (.struct fs) ∧ (fs.toList.map fun f => (f.offset, (P.info? f.type).map (·.size))) = pl.map fun q => (q.1, some q.2)
theorem bOk {P : Program} {T : List (Nat × List (Nat × Nat))} (h : c5x P T = true) : BOk P T := by
 refine ⟨fun t pl hl => ?_⟩
 have := List.all_eq_true.1 h _ (a3o hl)
 dsimp only at this
 split at this
 ·rename_i fs hfs; exact ⟨fs, hfs, by simpa using this⟩
 ·cases this
section
variable {P : Program} {C : Ctx} {nt : Nat} {σ : St} {L : Lyt} {a : Act} {w : World} {o : Oper} {x y : Operand} {T : TT} {B : List (Nat × List (Nat × Nat))}
theorem b7c {α β : Type} {g : α → Sem β} {q : α → β} : ∀ {xs : List α}, (∀ x ∈ xs, (g x).run P w = .ok (q x) w) → (xs.mapM g).run P w = .ok (xs.map q) w
 | [], _ => by simp only [List.mapM_nil, Sem.run_pure, List.map_nil]
 | x :: xs, h => by
  have ih := b7c (xs := xs) (fun y hy => h y (by simp [hy]))
  rw [List.mapM_cons]
  simp only [Sem.run_bind, h x (by simp), ih, Result.andThen_ok, Sem.run_pure, List.map_cons]
theorem c2r {α β : Type} {g : α → Sem β} {q : α → β} {xs : Array α} (h : ∀ x ∈ xs.toList, (g x).run P w = .ok (q x) w) : (xs.mapM g).run P w = .ok (xs.toList.map q).toArray w := by
 rw [Array.mapM_eq_mapM_toList, map_eq_pure_bind, Sem.run_bind, b7c h]
 simp only [Result.andThen_ok, Sem.run_pure]
def a7C (P : Program) (C : Ctx) (nt : Nat) (σ : St) (pl : List (Nat × Nat)) : List (Nat × Operand) → List CV → List CV → Prop
 | [], acc, res => acc = res
 | (i, x) :: ps, acc, res => ∃ v p off sz, Ev P C nt σ x v ∧ v.part = some p ∧ a1v σ v = true ∧ pl[i]? = some (off, sz) ∧ p.2.length = sz ∧ off + sz ≤ acc.length ∧ a7C P C nt σ pl ps (a1a off p.2 acc) res
theorem a1w {pl : List (Nat × Nat)} {cs : List CV} : a7C P C nt σ pl [] cs cs := rfl
theorem a1r {pl : List (Nat × Nat)} {i off sz : Nat} {v : SV} {p : Bool × List CV} {ps : List (Nat × Operand)} {acc res : List CV} (hx : Ev P C nt σ x v) (hp : v.part = some p) (hk : a1v σ v = true) (hi : pl[i]? = some (off, sz)) (hl : p.2.length = sz) (hle : Nat.ble (off + sz) acc.length = true)
  (h : a7C P C nt σ pl ps (a1a off p.2 acc) res) : a7C P C nt σ pl ((i, x) :: ps) acc res := ⟨v, p, off, sz, hx, hp, hk, hi, hl, by simpa [Nat.ble_eq] using hle, h⟩
theorem b8J (hr : Rel P C nt L σ a w) {pl : List (Nat × Nat)} : ∀ {ps : List (Nat × Operand)} {acc res : List CV} {us : List Value}, a7C P C nt σ pl ps acc res → CVL C L w acc us →
  ∃ vs, Instr.fill (fun i => pl.toArray[i]?) us.toArray (ps.map fun q => (q.1, a.eval q.2)) = some vs.toArray ∧ CVL C L w res vs
 | [], acc, res, us, h, hu => by simp only [a7C] at h; subst h; exact ⟨us, rfl, hu⟩
 | (i, x) :: ps, acc, res, us, ⟨v, p, off, sz, h1, h2, h3, h4, h5, h6, h7⟩, hu => by
  obtain ⟨xs, k1, k2, k3⟩ := a5p hr h2 h3 (h1.run L a w hr)
  obtain ⟨vs, g1, g2⟩ := b8J hr h7 (b1X off hu k2)
  refine ⟨vs, ?_, g2⟩
  rw [List.map_cons, b3E (off := off) (sz := sz) (by simpa using h4) k1 (by rw [a3j k2]; exact h5) (by rw [a3j hu]; exact h6)]
  exact g1
theorem a1x (hT : TTOk P T) (hB : BOk P B) {t sz by_ : Nat} {zc cs : List CV} {pl : List (Nat × Nat)} {ps : List (Nat × Operand)} (ho : o.op = .build t ps.toArray) (ht : look T.el t = some (sz, by_, zc)) (hb : look B t = some pl) (h : a7C P C nt σ pl ps zc cs) : Pu P C nt o σ (.agg cs) [] [] := Pu.mk fun L a w hr => by
 obtain ⟨inf, z, g1, g2, g3, g4, g5⟩ := hT.el t sz by_ zc ht
 obtain ⟨c1, _, _⟩ := a8T (C := C) (L := L) (w := w) g5
 obtain ⟨fs, f1, f2⟩ := hB.bs t pl hb
 obtain ⟨vs, k1, k2⟩ := b8J hr h c1
 refine ⟨.agg vs.toArray, by simp only [SVr]; exact ⟨vs, rfl, k2⟩, fun w' _ => ?_⟩
 have hsz : ∀ f ∈ fs.toList, ∃ i, P.info? f.type = some i := fun f hf => by
  have : (f.offset, (P.info? f.type).map (·.size)) ∈ pl.map fun q => (q.1, some q.2) := by rw [← f2]; exact List.mem_map.2 ⟨f, hf, rfl⟩
  obtain ⟨q, _, hq⟩ := List.mem_map.1 this
  simp only [Prod.mk.injEq] at hq
  cases hi : P.info? f.type with
  | none => rw [hi] at hq; cases hq.2
  | some i => exact ⟨i, rfl⟩
 have hpl : (fs.toList.map fun f => (f.offset, ((P.info? f.type).map (·.size)).getD 0)) = pl := by
  have h2 := congrArg (List.map fun q : Nat × Option Nat => (q.1, q.2.getD 0)) f2
  simp only [List.map_map, Function.comp_def, Option.getD_some] at h2
  simpa using h2
 have hm : ∀ g : Field → Sem (Nat × Nat), (∀ f, g f = (do pure (f.offset, ← sizeOf f.type))) → (fs.mapM g).run P w' = .ok pl.toArray w' := fun g hg => by
  rw [c2r (q := fun f => (f.offset, ((P.info? f.type).map (·.size)).getD 0)) (fun f hf => by
   obtain ⟨i, hi⟩ := hsz f hf
   rw [hg f]
   simp [sizeOf, typeInfo, hi]), hpl]
 have hz : z.cells = z.cells.toList.toArray := by simp
 have hps : (Array.map (fun q => (q.1, a.eval q.2)) ps.toArray).toList = ps.map fun q => (q.1, a.eval q.2) := by simp
 unfold execOp
 simp only [ho, Instr.build, zeroValue, typeInfo, Sem.run_bind, run_program, g1, g4, Result.andThen_ok, Sem.run_pure, run_underlying f1, hm _ (fun _ => rfl), hps]
 rw [hz, k1]
 simp
theorem c0q {t ty : TypeId} {K J : List Nat} {m n : ByteArray} (ho : o.op = .binOp .add t x y ty) (hx : Ev P C nt σ x (.one (.dv K (.str m)))) (hy : Ev P C nt σ y (.one (.dv J (.str n)))) (h : m.size + n.size ≤ 9223372036854775807) : Pu P C nt o σ (.one (.dv [] (.str (m ++ n)))) [] [] :=
 a7m ho hx hy ⟨.string (m ++ n), fun ok w => by
  unfold Lay
  exact ⟨rfl, by rw [ByteArray.size_append]; exact h⟩, fun w => by
  have : ¬ (((m.size + n.size : Nat) : Int) > IntKind.i64.max) := by
   have e : IntKind.i64.max = 9223372036854775807 := rfl
   rw [e]; omega
  unfold Op.stringOp
  simp only [if_neg this, Sem.run_pure]⟩ ⟨by simp, by simp⟩
end
section
variable {P : Program} {C : Ctx} {nt : Nat} {L : Lyt} {σ : St} {a : Act} {w w' : World}
def St.muts (σ : St) (ups : List (Nat × KC × List Nat)) : St :=
 ⟨a0l (ups.map (·.1)) [] σ.tm, a0j (ups.map (·.1)) [] σ.bx, (ups.map fun u => (u.1, some u.2.1)) ++ σ.ks⟩
def a2P (L : Lyt) (ups : List (Nat × KC × List Nat)) (i : Nat) : List Nat := match look ups i with
 | some u => u.2
 | none => L.fp i
theorem c0f {α : Type} {l : List (Nat × α)} {i : Nat} : look l i = none ↔ i ∉ l.map (·.1) := by
 induction l with
 | nil => simp [look]
 | cons p l ih =>
  obtain ⟨k, v⟩ := p
  rw [a0U]
  by_cases h : i = k
  ·simp [h]
  ·simp only [if_neg h, ih, List.map_cons, List.mem_cons, not_or]
   exact ⟨fun h' => ⟨h, h'⟩, fun h' => h'.2⟩
theorem b9I {ups : List (Nat × KC × List Nat)} (i : Nat) : lkk (σ.muts ups) i = match look ups i with | some u => some u.1 | none => lkk σ i := by
 simp only [lkk, St.muts]
 rw [a9P, a4R (fun u : KC × List Nat => some u.1) ups i]
 cases look ups i with
 | none => simp
 | some u => simp
theorem Rel.setkeys (h : Rel P C nt L σ a w) {ups : List (Nat × KC × List Nat)} (hc : Chg (ups.flatMap fun u => L.fp u.1) w w')
  (hu : ∀ i u, look ups i = some u → ∃ c, lkk σ i = some c ∧ Own w' (.sl u.1.e u.1.sz u.1.n u.1.cs) (L.rv i) u.2 ∧ u.2.Nodup ∧ (∀ b ∈ u.2, (b ∈ ups.flatMap fun u => L.fp u.1) ∨ w.heap.size ≤ b) ∧ (u.1.h = true → c.h = true))
  (hd : ∀ i j u v, look ups i = some u → look ups j = some v → i ≠ j → ∀ b ∈ u.2, b ∉ v.2) :
  Rel P C nt { L with fp := a2P L ups } (σ.muts ups) a w' := by
 have hin : ∀ p ∈ ups, ∃ u, look ups p.1 = some u := fun p hp => by
  cases hq : look ups p.1 with
  | none => exact absurd (List.mem_map.2 ⟨p, hp, rfl⟩) (c0f.1 hq)
  | some u => exact ⟨u, rfl⟩
 have hout : ∀ i c, lkk σ i = some c → look ups i = none → ∀ b ∈ L.fp i, b ∉ ups.flatMap fun u => L.fp u.1 := fun i c hi hn b hb hm => by
  obtain ⟨p, hp, hb'⟩ := List.mem_flatMap.1 hm
  obtain ⟨u, hu'⟩ := hin p hp
  obtain ⟨c', hc', _⟩ := hu p.1 u hu'
  have hne : i ≠ p.1 := fun e => by rw [e, hu'] at hn; cases hn
  exact h.kk i p.1 c c' hi hc' hne b hb hb'
 have hfr : ∀ b ∈ ups.flatMap fun u => L.fp u.1, b0u C b := fun b hm => by
  obtain ⟨p, hp, hb'⟩ := List.mem_flatMap.1 hm
  obtain ⟨u, hu'⟩ := hin p hp
  obtain ⟨c', hc', _⟩ := hu p.1 u hu'
  exact h.k1 p.1 c' hc' b hb'
 have hnf : ∀ i, look ups i = none → a2P L ups i = L.fp i := fun i hi => by simp only [a2P, hi]
 have hnf' : ∀ i u, look ups i = some u → a2P L ups i = u.2 := fun i u hi => by simp only [a2P, hi]
 have hK : KillOk C L { L with fp := a2P L ups } w w' (fun i => (lkk σ i).isSome = true) (ups.map (·.1)) [] := {
  key := fun i hi hv => by
   have hn := c0f.2 hv
   obtain ⟨d, hd'⟩ := Option.isSome_iff_exists.1 hi
   exact ⟨hnf i hn, fun b hb hlt => hc.block b hlt (hout i d hd' hn b hb)⟩
  root := fun i _ _ => rfl
  sub := fun i _ hr => by simp at hr
  old := fun b hb hs0 => hc.block b (Nat.lt_of_lt_of_le hb h.chg.size) (fun hm => by
   rcases hfr b hm with h1 | h1
   ·omega
   ·exact hs0 h1) }
 have hcase : ∀ i d, lkk (σ.muts ups) i = some d → (∃ u, look ups i = some u ∧ d = u.1) ∨ (look ups i = none ∧ lkk σ i = some d) := fun i d hd' => by
  rw [b9I] at hd'
  cases hq : look ups i with
  | none => rw [hq] at hd'; exact .inr ⟨rfl, hd'⟩
  | some u => rw [hq] at hd'; exact .inl ⟨u, rfl, (Option.some.inj hd').symm⟩
 have hlive : ∀ i, (lkk σ i).isSome = true → (lkk (σ.muts ups) i).isSome = true := fun i hi => by
  rw [b9I]
  cases look ups i with
  | none => exact hi
  | some u => rfl
 have hbx : ∀ i t cs, look (a0j (ups.map (·.1)) [] σ.bx) i = some (t, cs) → ∃ cs0, look σ.bx i = some (t, cs0) ∧ cs = cs0.map (CV.kill (ups.map (·.1)) []) := fun i t cs hx => by
  have := a4R (fun q : TypeId × List CV => (q.1, q.2.map (CV.kill (ups.map (·.1)) []))) σ.bx i
  change look (a0j (ups.map (·.1)) [] σ.bx) i = _ at this
  rw [this] at hx
  cases hy : look σ.bx i with
  | none => rw [hy] at hx; cases hx
  | some q =>
   rw [hy] at hx
   simp only [Option.map_some, Option.some.injEq, Prod.mk.injEq] at hx
   exact ⟨q.2, by rw [← hx.1], hx.2.symm⟩
 have hbx' : ∀ i, (look σ.bx i).isSome = true → (look (a0j (ups.map (·.1)) [] σ.bx) i).isSome = true := fun i hi => by
  have := a4R (fun q : TypeId × List CV => (q.1, q.2.map (CV.kill (ups.map (·.1)) []))) σ.bx i
  change look (a0j (ups.map (·.1)) [] σ.bx) i = _ at this
  rw [this]
  simpa using hi
 have hbb : ∀ i x, look (a0j (ups.map (·.1)) [] σ.bx) i = some x → ∃ y, look σ.bx i = some y := fun i x hx => by
  obtain ⟨cs0, h1, _⟩ := hbx i x.1 x.2 hx
  exact ⟨_, h1⟩
 exact {
  df := h.df, sz := h.sz
  tm := fun i u hu' => by
   have := a4R (SV.kill (ups.map (·.1)) []) σ.tm i
   change look (a0l (ups.map (·.1)) [] σ.tm) i = _ at this
   change look (a0l (ups.map (·.1)) [] σ.tm) i = some u at hu'
   rw [this] at hu'
   cases hy : look σ.tm i with
   | none => rw [hy] at hu'; cases hu'
   | some v =>
    rw [hy] at hu'
    simp only [Option.map_some, Option.some.injEq] at hu'
    subst hu'
    exact b3e h hK rfl (fun j hj => h.lk j (a8F hy j hj)) (h.tm i v hy)
  bx := fun i t cs hx => by
   obtain ⟨cs0, h1, rfl⟩ := hbx i t cs hx
   obtain ⟨us, h2, h3⟩ := h.bx i t cs0 h1
   have hl' : ∀ j ∈ cs0.flatMap CV.keys, (lkk σ j).isSome = true := fun j hj => h.lk j (a8J h1 j hj)
   refine ⟨us, (hc.block _ (a6l h2) (fun hm => ?_)).trans h2, (a9Y hK hl' (a8i h hl' h3) h3).1⟩
   obtain ⟨p, hp, hb'⟩ := List.mem_flatMap.1 hm
   obtain ⟨u, hu'⟩ := hin p hp
   obtain ⟨c', hc', _⟩ := hu p.1 u hu'
   exact h.bk i p.1 _ c' h1 hc' hb'
  ks := fun i d hd' => by
   rcases hcase i d hd' with ⟨u, h1, rfl⟩ | ⟨h1, h2⟩
   ·obtain ⟨c, k1, k2, k3, k4, k5⟩ := hu i u h1
    rw [show ({ L with fp := a2P L ups } : Lyt).fp i = u.2 from hnf' i u h1]
    exact ⟨k2, fun e => (h.ks i c k1).2 (k5 e)⟩
   ·rw [show ({ L with fp := a2P L ups } : Lyt).fp i = L.fp i from hnf i h1]
    exact ⟨own_keep _ _ _ (h.ks i d h2).1 (fun b hb => hc.block b (h.k_lt h2 b hb) (hout i d h2 h1 b hb)), (h.ks i d h2).2⟩
  b1 := fun i x hx => by obtain ⟨y, hy⟩ := hbb i x hx; exact h.b1 i y hy
  k1 := fun i d hd' b hb => by
   rcases hcase i d hd' with ⟨u, h1, rfl⟩ | ⟨h1, h2⟩
   ·obtain ⟨c, k1, k2, k3, k4, k5⟩ := hu i u h1
    rw [show ({ L with fp := a2P L ups } : Lyt).fp i = u.2 from hnf' i u h1] at hb
    rcases k4 b hb with h3 | h3
    ·exact hfr b h3
    ·exact .inl (Nat.le_trans h.chg.size h3)
   ·rw [show ({ L with fp := a2P L ups } : Lyt).fp i = L.fp i from hnf i h1] at hb
    exact h.k1 i d h2 b hb
  kn := fun i d hd' => by
   rcases hcase i d hd' with ⟨u, h1, rfl⟩ | ⟨h1, h2⟩
   ·rw [show ({ L with fp := a2P L ups } : Lyt).fp i = u.2 from hnf' i u h1]
    obtain ⟨c, k1, k2, k3, k4, k5⟩ := hu i u h1
    exact k3
   ·rw [show ({ L with fp := a2P L ups } : Lyt).fp i = L.fp i from hnf i h1]
    exact h.kn i d h2
  bb := fun i j x y hx hy => by
   obtain ⟨x', hx'⟩ := hbb i x hx
   obtain ⟨y', hy'⟩ := hbb j y hy
   exact h.bb i j x' y' hx' hy'
  bk := fun i j x d hx hd' hm => by
   obtain ⟨x', hx'⟩ := hbb i x hx
   rcases hcase j d hd' with ⟨u, h1, rfl⟩ | ⟨h1, h2⟩
   ·rw [show ({ L with fp := a2P L ups } : Lyt).fp j = u.2 from hnf' j u h1] at hm
    obtain ⟨c, k1, k2, k3, k4, k5⟩ := hu j u h1
    rcases k4 _ hm with h3 | h3
    ·obtain ⟨p, hp, hb'⟩ := List.mem_flatMap.1 h3
     obtain ⟨u', hu'⟩ := hin p hp
     obtain ⟨c', hc', _⟩ := hu p.1 u' hu'
     exact h.bk i p.1 x' c' hx' hc' hb'
    ·have := h.bx_lt hx'
     have e : ({ L with fp := a2P L ups } : Lyt).bb i = L.bb i := rfl
     omega
   ·rw [show ({ L with fp := a2P L ups } : Lyt).fp j = L.fp j from hnf j h1] at hm
    exact h.bk i j x' d hx' h2 hm
  kk := fun i j x y hx hy hij b hb hm => by
   rcases hcase i x hx with ⟨u, h1, rfl⟩ | ⟨h1, h2⟩ <;> rcases hcase j y hy with ⟨v, h3, rfl⟩ | ⟨h3, h4⟩
   ·rw [show ({ L with fp := a2P L ups } : Lyt).fp i = u.2 from hnf' i u h1] at hb
    rw [show ({ L with fp := a2P L ups } : Lyt).fp j = v.2 from hnf' j v h3] at hm
    exact hd i j u v h1 h3 hij b hb hm
   ·rw [show ({ L with fp := a2P L ups } : Lyt).fp i = u.2 from hnf' i u h1] at hb
    rw [show ({ L with fp := a2P L ups } : Lyt).fp j = L.fp j from hnf j h3] at hm
    obtain ⟨c, k1, k2, k3, k4, k5⟩ := hu i u h1
    rcases k4 b hb with h5 | h5
    ·exact hout j y h4 h3 b hm h5
    ·have := h.k_lt h4 b hm; omega
   ·rw [show ({ L with fp := a2P L ups } : Lyt).fp i = L.fp i from hnf i h1] at hb
    rw [show ({ L with fp := a2P L ups } : Lyt).fp j = v.2 from hnf' j v h3] at hm
    obtain ⟨c, k1, k2, k3, k4, k5⟩ := hu j v h3
    rcases k4 b hm with h5 | h5
    ·exact hout i x h2 h1 b hb h5
    ·have := h.k_lt h2 b hb; omega
   ·rw [show ({ L with fp := a2P L ups } : Lyt).fp i = L.fp i from hnf i h1] at hb
    rw [show ({ L with fp := a2P L ups } : Lyt).fp j = L.fp j from hnf j h3] at hm
    exact h.kk i j x y h2 h4 hij b hb hm
  lk := fun i hi => by
   simp only [St.tk, St.muts, List.mem_append, List.mem_flatMap] at hi
   rcases hi with ⟨p, hp, hi⟩ | ⟨p, hp, hi⟩
   ·obtain ⟨q, hq, rfl⟩ := List.mem_map.1 hp
    obtain ⟨g1, _⟩ := (b0m hK.sub q.2).1 i hi
    exact hlive i (h.lk i (by simp only [St.tk, List.mem_append, List.mem_flatMap]; exact .inl ⟨q, hq, g1⟩))
   ·obtain ⟨q, hq, rfl⟩ := List.mem_map.1 hp
    obtain ⟨g1, _⟩ := a9I hK.sub q.2.2 i (List.mem_flatMap.2 (by simpa using hi))
    exact hlive i (h.lk i (by simp only [St.tk, List.mem_append, List.mem_flatMap]; exact .inr ⟨q, hq, by simpa using g1⟩))
  lb := fun b hb => by
   simp only [St.tb, St.muts, List.mem_flatMap] at hb
   obtain ⟨p, hp, hb⟩ := hb
   obtain ⟨q, hq, rfl⟩ := List.mem_map.1 hp
   have := List.all_eq_true.1 (b0m hK.sub q.2).2 b hb
   exact hbx' b (h.lb b (by simp only [St.tb, List.mem_flatMap]; exact ⟨q, hq, by simpa using this⟩))
  s0 := h.s0
  chg := h.chg.andThen hc (fun x hx => (hfr x hx).symm) }
/-! ### calls that write what they are handed -/
def a5t (km : List (Nat × Nat)) : CV → CV → Prop
 | .key k, u => ∃ i, look km i = some k ∧ u = .key i
 | .dv _ d, u => d.plain = true ∧ u = .dv [] d
 | _, _ => False
def a6T (km : List (Nat × Nat)) : List CV → List CV → Prop
 | [], us => us = []
 | c :: cs, us => ∃ u us', us = u :: us' ∧ a5t km c u ∧ a6T km cs us'
def a6Z (km : List (Nat × Nat)) : SV → SV → Prop
 | .one c, u => ∃ c', a5t km c c' ∧ u = .one c'
 | .agg cs, u => ∃ cs', a6T km cs cs' ∧ u = .agg cs'
 | _, _ => False
def a5q (P : Program) (C : Ctx) (nt : Nat) (σ : St) (km : List (Nat × Nat)) : List Operand → List SV → Prop
 | [], us => us = []
 | x :: xs, us => ∃ v u us', us = u :: us' ∧ Ev P C nt σ x v ∧ a6Z km v u ∧ a5q P C nt σ km xs us'
structure WFn (P : Program) (f : FuncId) (us : List SV) (X : SV) (ks0 ks1 : List (Nat × KC)) : Prop where
 ok : a7l P f [] (ks0.map fun q => (q.1, some q.2)) us fun v σ' => v = X ∧ ∀ i c, look ks1 i = some c → lkk σ' i = some c
def a3N (L : Lyt) (km : List (Nat × Nat)) : Lyt := { L with fp := fun i => match look km i with | some k => L.fp k | none => [], rv := fun i => match look km i with | some k => L.rv k | none => .bool false }
theorem c6K {ok ok' : Nat → Prop} {w w' : World} {d : DV} {v : Value} (hp : d.plain = true) (h : Lay ok w d v) : Lay ok' w' d v :=
 a4Q _ _ _ (a8a hp h) (fun b hb => by simp at hb)
theorem b6P {km : List (Nat × Nat)} {C' : Ctx} {c u : CV} {v : Value} (h : a5t km c u) (hv : CVr C L w c v) : CVr C' (a3N L km) w u v ∧ (∀ j ∈ u.keys, (look km j).isSome = true) := by
 cases c with
 | dv K d =>
  simp only [a5t] at h
  obtain ⟨h1, rfl⟩ := h
  exact ⟨c6K h1 hv, by simp [CV.keys]⟩
 | key k =>
  simp only [a5t] at h
  obtain ⟨i, h1, rfl⟩ := h
  simp only [CVr] at hv ⊢
  exact ⟨by simp only [a3N, h1]; exact hv, by simp [CV.keys, h1]⟩
 | _ => simp [a5t] at h
theorem b5P {km : List (Nat × Nat)} {C' : Ctx} : ∀ {cs us : List CV} {vs : List Value}, a6T km cs us → CVL C L w cs vs → CVL C' (a3N L km) w us vs ∧ (∀ j ∈ us.flatMap CV.keys, (look km j).isSome = true)
 | [], _, _, h, hv => by simp only [a6T] at h; subst h; exact ⟨hv, by simp⟩
 | c :: cs, _, _, ⟨u, us', e, h1, h2⟩, ⟨v, vs', e', h3, h4⟩ => by
  subst e; subst e'
  obtain ⟨g1, g2⟩ := b6P (C' := C') h1 h3
  obtain ⟨k1, k2⟩ := b5P (C' := C') h2 h4
  refine ⟨⟨v, vs', rfl, g1, k1⟩, fun j hj => ?_⟩
  simp only [List.flatMap_cons, List.mem_append] at hj
  rcases hj with hj | hj
  ·exact g2 j hj
  ·exact k2 j hj
theorem c3U {km : List (Nat × Nat)} {C' : Ctx} {v u : SV} {r : Value} (h : a6Z km v u) (hv : SVr P C L w v r) : SVr P C' (a3N L km) w u r ∧ (∀ j ∈ u.keys, (look km j).isSome = true) ∧ u.boxes = [] := by
 cases v with
 | one c =>
  simp only [a6Z] at h
  obtain ⟨c', h1, rfl⟩ := h
  simp only [SVr] at hv ⊢
  obtain ⟨g1, g2⟩ := b6P (C' := C') h1 hv
  exact ⟨g1, g2, rfl⟩
 | agg cs =>
  simp only [a6Z] at h
  obtain ⟨cs', h1, rfl⟩ := h
  simp only [SVr] at hv ⊢
  obtain ⟨vs, e, h2⟩ := hv
  obtain ⟨g1, g2⟩ := b5P (C' := C') h1 h2
  exact ⟨⟨vs, e, g1⟩, g2, rfl⟩
 | _ => simp [a6Z] at h
theorem b7J (hr : Rel P C nt L σ a w) {km : List (Nat × Nat)} {C' : Ctx} : ∀ {xs : List Operand} {us : List SV}, a5q P C nt σ km xs us →
  us.length = xs.length ∧ (∀ (i : Nat) u, us[i]? = some u → ∃ x, xs[i]? = some x ∧ SVr P C' (a3N L km) w u (a.eval x) ∧ (∀ j ∈ u.keys, (look km j).isSome = true) ∧ u.boxes = [])
 | [], _, h => by simp only [a5q] at h; subst h; exact ⟨rfl, fun i u hu => by simp at hu⟩
 | x :: xs, _, ⟨v, u, us', e, h1, h2, h3⟩ => by
  subst e
  obtain ⟨k1, k2⟩ := b7J (C' := C') hr h3
  refine ⟨by simp [k1], fun i u' hu => ?_⟩
  cases i with
  | zero =>
   simp only [List.getElem?_cons_zero, Option.some.injEq] at hu
   subst hu
   exact ⟨x, rfl, c3U (C' := C') h2 (h1.run L a w hr)⟩
  | succ i => simpa using k2 i u' (by simpa using hu)
@[reducible] def itK (it : List (Nat × Nat × KC × KC)) : List (Nat × Nat) := it.map fun q => (q.1, q.2.1)
@[reducible] def it0 (it : List (Nat × Nat × KC × KC)) : List (Nat × KC) := it.map fun q => (q.1, { q.2.2.1 with h := true })
@[reducible] def it1 (it : List (Nat × Nat × KC × KC)) : List (Nat × KC) := it.map fun q => (q.1, { q.2.2.2 with h := true })
theorem b6z {β : Type} (g : Nat × KC × KC → β) : ∀ {it : List (Nat × Nat × KC × KC)} {i : Nat} {v : β}, look (it.map fun q => (q.1, g q.2)) i = some v → ∃ q, look it i = some q ∧ v = g q := fun {it i v} h => by
 rw [a4R g it i] at h
 cases hq : look it i with
 | none => rw [hq] at h; cases h
 | some q => rw [hq] at h; exact ⟨q, rfl, (Option.some.inj h).symm⟩
theorem b0B {β : Type} (g : Nat × KC × KC → β) {it : List (Nat × Nat × KC × KC)} {i : Nat} {q : Nat × KC × KC} (h : look it i = some q) : look (it.map fun q => (q.1, g q.2)) i = some (g q) := by
 rw [a4R g it i, h]; rfl
theorem c2u (hr : Rel P C nt L σ a w) {it : List (Nat × Nat × KC × KC)} {us : List SV} {vs : List Value} (hl : vs.length = us.length) (hlive : ∀ i q, look it i = some q → lkk σ q.1 = some q.2.1) (hmem : ∀ q ∈ it, look it q.1 = some q.2) (hinj : ∀ i j q r, look it i = some q → look it j = some r → q.1 = r.1 → i = j)
  (h : ∀ (i : Nat) u, us[i]? = some u → ∃ x, vs[i]? = some x ∧ SVr P ⟨w, it.flatMap fun q => L.fp q.2.1, (a3N L (itK it)).rv⟩ (a3N L (itK it)) w u x ∧ (∀ j ∈ u.keys, (look (itK it) j).isSome = true) ∧ u.boxes = []) :
  Rel P ⟨w, it.flatMap fun q => L.fp q.2.1, (a3N L (itK it)).rv⟩ us.length (a3N L (itK it)) ⟨a2s 0 us, [], (it0 it).map fun q => (q.1, some q.2)⟩ ⟨vs.toArray, []⟩ w := by
 have hlk : ∀ i c, lkk ⟨a2s 0 us, [], (it0 it).map fun q => (q.1, some q.2)⟩ i = some c → ∃ q, look it i = some q ∧ c = { q.2.1 with h := true } := fun i c hc => by
  simp only [lkk] at hc
  rw [a4R (fun q : KC => some q) (it0 it) i] at hc
  cases hq : look (it0 it) i with
  | none => rw [hq] at hc; cases hc
  | some d =>
   rw [hq] at hc
   obtain ⟨q, h1, h2⟩ := b6z (fun q => { q.2.1 with h := true }) hq
   exact ⟨q, h1, by rw [← h2]; exact (Option.some.inj hc).symm⟩
 have hfp : ∀ i q, look it i = some q → (a3N L (itK it)).fp i = L.fp q.1 ∧ (a3N L (itK it)).rv i = L.rv q.1 := fun i q hq => by
  have : look (itK it) i = some q.1 := b0B (fun q => q.1) hq
  simp only [a3N, this]; exact ⟨trivial, trivial⟩
 have hmem' : ∀ i q, look it i = some q → ∀ b ∈ L.fp q.1, b ∈ it.flatMap fun q => L.fp q.2.1 := fun i q hq b hb => List.mem_flatMap.2 ⟨(i, q), a3o hq, hb⟩
 have hb0 : ∀ u ∈ us, u.boxes = [] := fun u hu => by
  obtain ⟨i, hi⟩ := List.mem_iff_getElem?.1 hu
  obtain ⟨_, _, _, _, h4⟩ := h i u hi
  exact h4
 have hkeys : ∀ p ∈ a2s 0 us, (∀ j ∈ p.2.keys, (look (itK it) j).isSome = true) ∧ p.2.boxes = [] := fun p hp => by
  have key : ∀ (us' : List SV) (n : Nat), (∀ u ∈ us', (∀ j ∈ u.keys, (look (itK it) j).isSome = true) ∧ u.boxes = []) → ∀ p ∈ a2s n us', (∀ j ∈ p.2.keys, (look (itK it) j).isSome = true) ∧ p.2.boxes = [] := fun us' => by
   induction us' with
   | nil => intro n _ p hp; simp [a2s] at hp
   | cons u us' ih =>
    intro n hu p hp
    simp only [a2s, List.mem_cons] at hp
    rcases hp with rfl | hp
    ·exact hu u (by simp)
    ·exact ih (n + 1) (fun v hv => hu v (by simp [hv])) p hp
  exact key us 0 (fun u hu => by
   obtain ⟨i, hi⟩ := List.mem_iff_getElem?.1 hu
   obtain ⟨_, _, _, h3, h4⟩ := h i u hi
   exact ⟨h3, h4⟩) p hp
 exact {
  df := rfl
  sz := by simp [hl]
  tm := fun i v hv => by
   obtain ⟨_, h4⟩ := a7k us 0 i v hv
   obtain ⟨x, h5, h6, _⟩ := h i v (by simpa using h4)
   have : vs.toArray.getD i undef = x := by simp [Array.getD_eq_getD_getElem?, h5]
   rw [this]; exact h6
  bx := fun i t cs h => by cases h
  ks := fun k c hc => by
   obtain ⟨q, h1, rfl⟩ := hlk k c hc
   obtain ⟨f1, f2⟩ := hfp k q h1
   rw [f1, f2]
   exact ⟨(hr.ks q.1 q.2.1 (hlive k q h1)).1, fun _ => f2.symm⟩
  b1 := fun i x h => by cases h
  k1 := fun k c hc b hb => by
   obtain ⟨q, h1, rfl⟩ := hlk k c hc
   rw [(hfp k q h1).1] at hb
   exact .inr (hmem' k q h1 b hb)
  kn := fun k c hc => by
   obtain ⟨q, h1, rfl⟩ := hlk k c hc
   rw [(hfp k q h1).1]
   exact hr.kn q.1 q.2.1 (hlive k q h1)
  bb := fun i j x y h => by cases h
  bk := fun i k x c h => by cases h
  kk := fun i j c d hc hd hij b hb hm => by
   obtain ⟨q, h1, rfl⟩ := hlk i c hc
   obtain ⟨r, h2, rfl⟩ := hlk j d hd
   rw [(hfp i q h1).1] at hb
   rw [(hfp j r h2).1] at hm
   exact hr.kk q.1 r.1 q.2.1 r.2.1 (hlive i q h1) (hlive j r h2) (fun e => hij (hinj i j q r h1 h2 e)) b hb hm
  lk := fun k hk => by
   simp only [St.tk, List.flatMap_nil, List.append_nil, List.mem_flatMap] at hk
   obtain ⟨p, hp, hk⟩ := hk
   have h1 := (hkeys p hp).1 k hk
   obtain ⟨k', hk'⟩ := Option.isSome_iff_exists.1 h1
   obtain ⟨q, h2, _⟩ := b6z (fun q => q.1) hk'
   simp only [lkk]
   have h3 : look (it0 it) k = some { q.2.1 with h := true } := b0B (fun q => ({ q.2.1 with h := true } : KC)) h2
   rw [a4R (fun q : KC => some q) (it0 it) k, h3]
   rfl
  lb := fun b hb => by
   simp only [St.tb, List.mem_flatMap] at hb
   obtain ⟨p, hp, hb⟩ := hb
   rw [(hkeys p hp).2] at hb
   cases hb
  s0 := fun b hb => by
   obtain ⟨q, hq, hb⟩ := List.mem_flatMap.1 hb
   exact hr.k_lt (hlive q.1 q.2 (hmem q hq)) b hb
  chg := Chg.refl _ _ }
def a8S (L'' : Lyt) (it : List (Nat × Nat × KC × KC)) : List (Nat × KC × List Nat) := it.map fun q => (q.2.1, { q.2.2.2 with h := q.2.2.1.h }, L''.fp q.1)
def St.wrote (σ : St) (it : List (Nat × Nat × KC × KC)) : St :=
 ⟨a0l (it.map fun q => q.2.1) [] σ.tm, a0j (it.map fun q => q.2.1) [] σ.bx, (it.map fun q => (q.2.1, some { q.2.2.2 with h := q.2.2.1.h })) ++ σ.ks⟩
theorem c7v {L'' : Lyt} {it : List (Nat × Nat × KC × KC)} : σ.muts (a8S L'' it) = σ.wrote it := by
 simp only [St.muts, St.wrote, a8S, List.map_map, Function.comp_def]
theorem b8o {o : Oper} {f : FuncId} {xs : List Operand} {ats : Array TypeId} {us : List SV} {X : SV} {it : List (Nat × Nat × KC × KC)} {d : Nat} (ho : o.op = .call { callee := .value (.func f), args := xs.toArray, argTypes := ats }) (hd : o.dst = some d) (hn : Nat.blt d nt = true)
  (hc : ∀ (args : Array Value) (w : World), (callFunc f args).run P w = .ok (.enter f args) w) (hf : WFn P f us X (it0 it) (it1 it)) (ha : a5q P C nt σ (itK it) xs us) (hX : X.plain = true)
  (hlive : ∀ i q, look it i = some q → lkk σ q.1 = some q.2.1) (hmem : ∀ q ∈ it, look it q.1 = some q.2) (hinj : ∀ i j q r, look it i = some q → look it j = some r → q.1 = r.1 → i = j) 
  (hr : Rel P C nt L σ a w) {K : Act → World → Prop} {Q' : Exit → Act → World → Prop} (hK : ∀ L2 a' w', Rel P C nt L2 ((σ.wrote it).put d X) a' w' → L2.rv = L.rv → Chg (it.flatMap fun q => L.fp q.2.1) w w' → K a' w') : o.wp P a w K Q' := by
 refine a7T ho hc ?_
 obtain ⟨g1, g2⟩ := b7J (C' := ⟨w, it.flatMap fun q => L.fp q.2.1, (a3N L (itK it)).rv⟩) hr ha
 have hent := c2u hr (us := us) (vs := xs.map a.eval) (by simp [g1]) hlive hmem hinj (fun i u hu => by
  obtain ⟨x, k1, k2⟩ := g2 i u hu
  exact ⟨a.eval x, by simp [k1], k2⟩)
 refine (hf.ok w _ (a3N L (itK it)) (xs.map a.eval) (by simp [g1]) hent).mono ?_
 rintro e w' ⟨r, res, σ', L'', rfl, ⟨rfl, h2⟩, h3⟩
 obtain ⟨p1, p2, p3, p4⟩ := a7U hX
 have hfp : ∀ i q, look it i = some q → (a3N L (itK it)).fp i = L.fp q.1 ∧ (a3N L (itK it)).rv i = L.rv q.1 := fun i q hq => by
  have : look (itK it) i = some q.1 := b0B (fun q => q.1) hq
  simp only [a3N, this]; exact ⟨trivial, trivial⟩
 have hk' : ∀ i q, look it i = some q → lkk { σ' with tm := [(0, res)] } i = some { q.2.2 with h := true } := fun i q hq => h2 i _ (b0B (fun q => ({ q.2.2 with h := true } : KC)) hq)
 have hlu : ∀ k u, look (a8S L'' it) k = some u → ∃ i q, look it i = some q ∧ q.1 = k ∧ u = ({ q.2.2 with h := q.2.1.h }, L''.fp i) := fun k u hu => by
  have := a3o hu
  obtain ⟨p, hp, he⟩ := List.mem_map.1 this
  simp only [Prod.mk.injEq] at he
  exact ⟨p.1, p.2, hmem p hp, he.1, he.2.symm⟩
 have hset := hr.setkeys (ups := a8S L'' it) (w' := w')
  (h3.chg.mono (fun b hb => by
   obtain ⟨q, hq, hb⟩ := List.mem_flatMap.1 hb
   exact List.mem_flatMap.2 ⟨_, List.mem_map.2 ⟨q, hq, rfl⟩, hb⟩))
  (fun k u hu => by
   obtain ⟨i, q, hq, rfl, rfl⟩ := hlu k u hu
   obtain ⟨o1, o2⟩ := h3.ks i _ (hk' i q hq)
   refine ⟨q.2.1, hlive i q hq, ?_, h3.kn i _ (hk' i q hq), fun b hb => ?_, fun e => e⟩
   ·have o1' : Own w' (.sl q.2.2.e q.2.2.sz q.2.2.n q.2.2.cs) (L''.rv i) (L''.fp i) := o1
    have o2' : L''.rv i = L.rv q.1 := (o2 rfl).trans (hfp i q hq).2
    show Own w' (.sl q.2.2.e q.2.2.sz q.2.2.n q.2.2.cs) (L.rv q.1) (L''.fp i)
    rw [← o2']; exact o1'
   ·rcases h3.k1 i _ (hk' i q hq) b hb with h4 | h4
    ·exact .inr h4
    ·obtain ⟨p, hp, hb'⟩ := List.mem_flatMap.1 h4
     exact .inl (List.mem_flatMap.2 ⟨_, List.mem_map.2 ⟨p, hp, rfl⟩, hb'⟩))
  (fun k l u v hu hv hkl b hb hm => by
   obtain ⟨i, q, hq, rfl, rfl⟩ := hlu k u hu
   obtain ⟨j, r', hr', rfl, rfl⟩ := hlu l v hv
   exact h3.kk i j _ _ (hk' i q hq) (hk' j r' hr') (fun e => hkl (by subst e; rw [hq] at hr'; rw [Option.some.inj hr'])) b hb hm)
 rw [c7v] at hset
 refine ⟨r, rfl, hK { L with fp := a2P L (a8S L'' it) } _ _ ?_ rfl h3.chg⟩
 rw [hd]
 refine hset.put (v := res) (by simpa [Nat.blt_eq] using hn) ?_ (by rw [p2]; simp) (by rw [p3]; simp)
 have := b1w (C := C) (L := { L with fp := a2P L (a8S L'' it) }) (m := 0) p1 (by rw [p2]; simp) (h3.tm 0 res (by simp [a0U]))
 rwa [p4] at this
theorem c5n {o : Oper} {f : FuncId} {xs : List Operand} {ats : Array TypeId} {us : List SV} {X : SV} {it : List (Nat × Nat × KC × KC)} {d : Nat} (ho : o.op = .call { callee := .value (.func f), args := xs.toArray, argTypes := ats }) (hd : o.dst = some d) (hn : Nat.blt d nt = true)
  (hc : ∀ (args : Array Value) (w : World), (callFunc f args).run P w = .ok (.enter f args) w) (hf : WFn P f us X (it0 it) (it1 it)) (ha : a5q P C nt σ (itK it) xs us) (hX : X.plain = true)
  (hlive : ∀ i q, look it i = some q → lkk σ q.1 = some q.2.1) (hmem : ∀ q ∈ it, look it q.1 = some q.2) (hinj : ∀ i j q r, look it i = some q → look it j = some r → q.1 = r.1 → i = j) :
  Ef P C nt o σ (fun σ' => σ' = (σ.wrote it).put d X) := Ef.mk fun L a w hr K Q' hK => b8o ho hd hn hc hf ha hX hlive hmem hinj hr (fun L2 a' w' h _ _ => hK L2 _ a' w' rfl h)
end
/-! ### ownership of one cell -/
theorem b3D {w : World} : ∀ {ds : List DV} {vs : List Value} {fp : List Nat} {i : Nat} {d : DV}, a0I w ds vs fp → ds[i]? = some d → ∃ v fa fd fb, vs[i]? = some v ∧ fp = fa ++ (fd ++ fb) ∧ Own w d v fd ∧ a0I w (ds.set i .hole) vs (fa ++ fb)
 | [], _, _, _, _, _, hd => by simp at hd
 | x :: xs, _, _, 0, d, h, hd => by
  simp only [List.getElem?_cons_zero, Option.some.injEq] at hd
  subst hd
  simp only [a0I] at h
  obtain ⟨v, vs', f1, f2, rfl, rfl, h1, h2⟩ := h
  refine ⟨v, [], f1, f2, rfl, rfl, h1, ?_⟩
  simp only [List.set_cons_zero, a0I, List.nil_append]
  exact ⟨v, vs', [], f2, rfl, rfl, by unfold Own; exact ⟨a8t _ _ (a4Q (ok := fun _ => True) _ _ _ h1 (fun _ _ => trivial)), rfl⟩, h2⟩
 | x :: xs, _, _, i + 1, d, h, hd => by
  simp only [List.getElem?_cons_succ] at hd
  simp only [a0I] at h
  obtain ⟨v, vs', f1, f2, rfl, rfl, h1, h2⟩ := h
  obtain ⟨u, fa, fd, fb, g1, rfl, g3, g4⟩ := b3D h2 hd
  refine ⟨u, f1 ++ fa, fd, fb, by simpa using g1, by simp, g3, ?_⟩
  simp only [List.set_cons_succ, a0I]
  exact ⟨v, vs', f1, fa ++ fb, rfl, by simp, h1, g4⟩
theorem b5m {w : World} {d : DV} {v : Value} {fd : List Nat} (ho : Own w d v fd) : ∀ {ds : List DV} {vs : List Value} {fp : List Nat} {i : Nat}, a0I w ds vs fp → ds[i]? = some .hole → vs[i]? = some v → ∃ fa fb, fp = fa ++ fb ∧ a0I w (ds.set i d) vs (fa ++ (fd ++ fb))
 | [], _, _, _, _, hd, _ => by simp at hd
 | x :: xs, _, _, 0, h, hd, hv => by
  simp only [List.getElem?_cons_zero, Option.some.injEq] at hd
  subst hd
  simp only [a0I] at h
  obtain ⟨u, vs', f1, f2, rfl, rfl, h1, h2⟩ := h
  simp only [List.getElem?_cons_zero, Option.some.injEq] at hv
  subst hv
  simp only [Own] at h1
  obtain ⟨_, rfl⟩ := h1
  refine ⟨[], f2, rfl, ?_⟩
  simp only [List.set_cons_zero, a0I, List.nil_append]
  exact ⟨u, vs', fd, f2, rfl, rfl, ho, h2⟩
 | x :: xs, _, _, i + 1, h, hd, hv => by
  simp only [List.getElem?_cons_succ] at hd
  simp only [a0I] at h
  obtain ⟨u, vs', f1, f2, rfl, rfl, h1, h2⟩ := h
  simp only [List.getElem?_cons_succ] at hv
  obtain ⟨fa, fb, rfl, g⟩ := b5m ho h2 hd hv
  refine ⟨f1 ++ fa, fb, by simp, ?_⟩
  simp only [List.set_cons_succ, a0I]
  exact ⟨u, vs', f1, fa ++ (fd ++ fb), rfl, by simp, h1, g⟩
theorem b0U {w : World} {e sz n o : Nat} {cs : List DV} {v : Value} {fp : List Nat} (h : Own w (.sl e sz n cs) v fp) (ho : o < cs.length) : ∃ g cap vs f, v = .slice (some ⟨g, 0, none⟩) n cap ∧ fp = g :: f ∧ a0I w cs vs f ∧ (∀ j u, vs[j]? = some u → w.cell? ⟨g, j, none⟩ = some u) := by
 simp only [Own] at h
 obtain ⟨vs, f, rfl, h1, h2, h3, h4⟩ := h
 rcases (a6c h3).2 with ⟨rfl, rfl⟩ | ⟨g, cap, cur, t, fz, rfl, hg, _, _, _, ht⟩
 ·simp at h2; subst h2; simp at ho
 ·refine ⟨g, cap, vs, f, rfl, by simp [Value.ownBlock], h4, fun j u hu => ?_⟩
  rw [cell_of_row _ g j cur t fz hg]
  rw [← ht, List.getElem?_take] at hu
  split at hu
  ·simpa using hu
  ·cases hu
def dvE (k o : Nat) (d : DV) : CV := bif d.plain then .dv [] d else .nest k o d
def a3f (k : Nat) : Nat → List DV → List CV
 | _, [] => []
 | o, d :: ds => dvE k o d :: a3f k (o + 1) ds
section
variable {P : Program} {C : Ctx} {nt : Nat} {L : Lyt} {σ : St} {a : Act} {w : World} {o : Oper} {x y : Operand} {T : TT}
theorem c0k {k off g n c : Nat} {d : DV} {v : Value} {fd : List Nat} (ho : Own w d v fd) (hf : ∀ b ∈ fd, b ∈ L.fp k) (hr : L.rv k = .slice (some ⟨g, 0, none⟩) n c) (hg : g ∈ L.fp k) (hc : w.cell? ⟨g, off, none⟩ = some v) : CVr C L w (dvE k off d) v := by
 unfold dvE
 have hl : Lay (okB C L [k]) w d v := a4Q _ _ _ ho (fun b hb => .inr ⟨k, by simp, hf b hb⟩)
 cases hp : d.plain with
 | true =>
  simp only [cond_true, CVr]
  exact a4Q _ _ _ (a8a (w' := w) hp hl) (by simp)
 | false => exact ⟨hl, g, n, c, hr, hg, hc⟩
theorem c5h {k off : Nat} {d : DV} : ∀ j ∈ (dvE k off d).keys, j = k := by
 unfold dvE
 cases d.plain <;> simp [CV.keys]
theorem b5d (hT : TTOk P T) {t k off : Nat} {d : DV} {c : KC} {u : Unit} (ho : o.op = .load t x) (ht : look T.on t = some u) (hx : Ev P C nt σ x (.eptr k off)) (hk : lkk σ k = some c) (hd : c.cs[off]? = some d) : Pu P C nt o σ (.one (dvE k off d)) [k] [] := Pu.mk fun L a w hr => by
 have h1 := hx.run L a w hr
 simp only [SVr] at h1
 obtain ⟨g, n, cap, e1, e2⟩ := h1
 have hlt : off < c.cs.length := (List.getElem?_eq_some_iff.1 hd).1
 obtain ⟨g', cap', vs, f, k1, k2, k3, k4⟩ := b0U (hr.ks k c hk).1 hlt
 rw [e1] at k1
 simp only [Value.slice.injEq, Option.some.injEq, Addr.mk.injEq, and_true, true_and] at k1
 obtain ⟨rfl, rfl, rfl⟩ := k1
 obtain ⟨v, fa, fd, fb, m1, m2, m3, _⟩ := b3D k3 hd
 have hc := k4 off v m1
 have hgm : g ∈ L.fp k := by rw [k2]; simp
 refine ⟨v, by simp only [SVr]; exact c0k m3 (fun b hb => by rw [k2, m2]; simp [hb]) e1 hgm hc, fun w' hw => ?_⟩
 have hc' : w'.cell? ⟨g, off, none⟩ = some v := (World.cell?_of_block (a := ⟨g, off, none⟩) (hw g (a5e hc) (.inl (.inr ⟨k, by simp, hgm⟩)))).trans hc
 unfold execOp
 simp only [ho, e2, Instr.loadAt, Instr.sureAddr, Sem.run_bind, Sem.run_pure, Result.andThen_ok]
 rw [b4y (hT.on t u ht) hc']
 rfl
theorem b8k {k g n c : Nat} (hr : L.rv k = .slice (some ⟨g, 0, none⟩) n c) (hg : g ∈ L.fp k) : ∀ {ds : List DV} {vs : List Value} {f : List Nat} {off : Nat}, a0I w ds vs f → (∀ b ∈ f, b ∈ L.fp k) → (∀ j u, vs[j]? = some u → w.cell? ⟨g, off + j, none⟩ = some u) → CVL C L w (a3f k off ds) vs
 | [], _, _, _, h, _, _ => by simp only [a0I] at h; obtain ⟨rfl, _⟩ := h; rfl
 | d :: ds, _, _, off, h, hf, hc => by
  simp only [a0I] at h
  obtain ⟨v, vs', f1, f2, rfl, rfl, h1, h2⟩ := h
  refine ⟨v, vs', rfl, c0k h1 (fun b hb => hf b (by simp [hb])) hr hg (by simpa using hc 0 v rfl), b8k hr hg h2 (fun b hb => hf b (by simp [hb])) (fun j u hu => ?_)⟩
  have := hc (j + 1) u (by simpa using hu)
  rwa [show off + 1 + j = off + (j + 1) by omega]
theorem b3s {k : Nat} : ∀ {ds : List DV} {off : Nat}, ∀ j ∈ (a3f k off ds).flatMap CV.keys, j = k
 | [], _, j, hj => by simp [a3f] at hj
 | d :: ds, off, j, hj => by
  simp only [a3f, List.flatMap_cons, List.mem_append] at hj
  rcases hj with hj | hj
  ·exact c5h j hj
  ·exact b3s j hj
theorem b2x (hT : TTOk P T) {t k off n : Nat} {c : KC} {ds : List DV} (ho : o.op = .load t x) (ht : look T.ag t = some n) (hx : Ev P C nt σ x (.eptr k off)) (hk : lkk σ k = some c) (hl : ds.length = n) (hpos : 0 < n) (hd : sub off n c.cs = ds) : Pu P C nt o σ (.agg (a3f k off ds)) [k] [] := Pu.mk fun L a w hr => by
 subst hd
 have h1 := hx.run L a w hr
 simp only [SVr] at h1
 obtain ⟨g, m, cap, e1, e2⟩ := h1
 have hle : off + n ≤ c.cs.length := by
  simp only [sub, List.length_take, List.length_drop] at hl
  omega
 obtain ⟨g', cap', vs, f, k1, k2, k3, k4⟩ := b0U (hr.ks k c hk).1 (show off < c.cs.length by omega)
 rw [e1] at k1
 simp only [Value.slice.injEq, Option.some.injEq, Addr.mk.injEq, and_true, true_and] at k1
 obtain ⟨rfl, rfl, rfl⟩ := k1
 have hgm : g ∈ L.fp k := by rw [k2]; simp
 have hsp : c.cs = c.cs.take off ++ (sub off n c.cs ++ (c.cs.drop off).drop n) := by rw [sub, List.take_append_drop, List.take_append_drop]
 have k3' := k3
 rw [hsp] at k3'
 obtain ⟨u1, u2, f1, f2, rfl, rfl, q1, q2⟩ := a5f _ _ _ _ k3'
 obtain ⟨u3, u4, f3, f4, rfl, rfl, q3, q4⟩ := a5f _ _ _ _ q2
 have l1 : u1.length = off := by rw [a2L _ _ _ q1]; simp; omega
 have l3 : u3.length = n := by rw [a2L _ _ _ q3]; exact hl
 have hcell : ∀ j u, u3[j]? = some u → w.cell? ⟨g, off + j, none⟩ = some u := fun j u hu => k4 (off + j) u (by
  have hj : j < u3.length := (List.getElem?_eq_some_iff.1 hu).1
  rw [List.getElem?_append_right (by omega), List.getElem?_append_left (by omega), show off + j - u1.length = j by omega]
  exact hu)
 refine ⟨.agg u3.toArray, by simp only [SVr]; exact ⟨u3, rfl, b8k e1 hgm q3 (fun b hb => by rw [k2]; simp [hb]) hcell⟩, fun w' hw => ?_⟩
 have hb' : w'.heap[g]? = w.heap[g]? := hw g (hr.k_lt hk g hgm) (.inl (.inr ⟨k, by simp, hgm⟩))
 unfold execOp
 simp only [ho, e2, Instr.loadAt, Instr.sureAddr, Sem.run_bind, Sem.run_pure, Result.andThen_ok]
 rw [b2S (us := u3) (hT.ag t n ht) l3 (fun j u hu => (World.cell?_of_block (a := ⟨g, off + j, none⟩) hb').trans (hcell j u hu))]
 rfl
/-! ### a nested cell, taken out and put back -/
theorem Rel.split (h : Rel P C nt L σ a w) {k k' off e sz n : Nat} {c : KC} {cs : List DV} (hk : lkk σ k = some c) (hd : c.cs[off]? = some (.sl e sz n cs)) (hk' : lkk σ k' = none) :
  ∃ L' v g m cap, L.rv k = .slice (some ⟨g, 0, none⟩) m cap ∧ w.cell? ⟨g, off, none⟩ = some v ∧ L'.rv k = L.rv k ∧ L'.rv k' = v ∧ g ∈ L'.fp k ∧
   Rel P C nt L' ⟨(σ.mut k [] true { c with cs := c.cs.set off .hole }).tm, (σ.mut k [] true { c with cs := c.cs.set off .hole }).bx, (k', some ⟨false, e, sz, n, cs⟩) :: (k, some { c with cs := c.cs.set off .hole }) :: σ.ks⟩ a w := by
 have hlt : off < c.cs.length := (List.getElem?_eq_some_iff.1 hd).1
 have hown := (h.ks k c hk).1
 obtain ⟨g, cap, vs, f, k1, k2, k3, k4⟩ := b0U hown hlt
 obtain ⟨v, fa, fd, fb, m1, m2, m3, m4⟩ := b3D k3 hd
 have hkk : k ≠ k' := fun e' => by rw [← e', hk] at hk'; cases hk'
 have hgm : g ∈ L.fp k := by rw [k2]; simp
 have hnd := h.kn k c hk
 rw [k2, m2] at hnd
 simp only [List.nodup_cons, List.mem_append, not_or] at hnd
 obtain ⟨nd1, nd2⟩ := hnd
 rw [List.nodup_append] at nd2
 obtain ⟨nd2, nd3, nd4⟩ := nd2
 rw [List.nodup_append] at nd3
 obtain ⟨nd3, nd5, nd6⟩ := nd3
 have hown1 : Own w (.sl c.e c.sz c.n (c.cs.set off .hole)) (L.rv k) (g :: (fa ++ fb)) := by
  unfold Own at hown ⊢
  obtain ⟨vs2, f2, p1, p2, p3, p4, p5⟩ := hown
  have hvs : vs2 = vs := by
   rcases (a6c p4).2 with ⟨q1, q2⟩ | ⟨g2, cap2, cur, t2, fz2, q1, q3, q4, q5, q6, q7⟩
   ·rw [k1] at q1; cases q1
   ·rw [k1] at q1
    simp only [Value.slice.injEq, Option.some.injEq, Addr.mk.injEq, and_true, true_and] at q1
    obtain ⟨rfl, rfl⟩ := q1
    apply List.ext_getElem (by rw [a2L _ _ _ p5, a2L _ _ _ k3])
    intro i i1 i2
    have r1 := k4 i _ (List.getElem?_eq_getElem i2)
    rw [cell_of_row _ g i cur t2 fz2 q3] at r1
    have r3 : i < c.n * c.sz := by rw [← p3, ← a2L _ _ _ p5]; exact i1
    have r2 : vs2[i]? = cur[i]? := by rw [← q7, List.getElem?_take, if_pos r3, Array.getElem?_toList]
    rw [List.getElem?_eq_getElem i1] at r2
    rw [← r2] at r1
    exact Option.some.inj r1
  subst hvs
  exact ⟨vs2, fa ++ fb, by rw [k1]; simp [Value.ownBlock], p2, by simpa using p3, p4, m4⟩
 have hrel := h.setkey (k := k) (c := c) (c' := { c with cs := c.cs.set off .hole }) (js := []) (same := true) (v' := L.rv k) (f' := g :: (fa ++ fb)) hk (by simp) (Chg.refl _ _) hown1
  (by
   rw [List.nodup_cons, List.nodup_append]
   refine ⟨fun hm => ?_, nd2, nd5, fun x hx y hy => nd4 x hx y (by simp [hy])⟩
   simp only [List.mem_append] at hm
   rcases hm with hm | hm
   ·exact nd1.1 hm
   ·exact nd1.2.2 hm)
  (fun b hb => .inl (by
   rw [k2, m2]
   simp only [List.mem_cons, List.mem_append] at hb ⊢
   rcases hb with hb | hb | hb
   ·exact .inl hb
   ·exact .inr (.inl hb)
   ·exact .inr (.inr (.inr hb)))) (by simp) (fun _ => rfl) (fun e' => ⟨e', rfl⟩)
 have hfd : ∀ b ∈ fd, b ∈ L.fp k := fun b hb => by rw [k2, m2]; simp [hb]
 have hnew := hrel.newkey (k := k') (c := ⟨false, e, sz, n, cs⟩) (v := v) (f := fd)
  (by
   simp only [lkk, St.mut, List.map_nil, List.nil_append, List.cons_append, a0U]
   rw [if_neg (fun e' => hkk e'.symm)]
   exact hk') m3 rfl nd3 (fun b hb => h.k1 k c hk b (hfd b hb))
  (fun b hb i x hx e' => by
   have hx' : ∃ y, look σ.bx i = some y := by
    have := a4R (fun q : TypeId × List CV => (q.1, q.2.map (CV.kill [k] []))) σ.bx i
    change look (a0j [k] [] σ.bx) i = _ at this
    change look (a0j [k] [] σ.bx) i = some x at hx
    rw [this] at hx
    cases hy : look σ.bx i with
    | none => rw [hy] at hx; cases hx
    | some q => exact ⟨q, rfl⟩
   obtain ⟨y, hy⟩ := hx'
   exact h.bk i k y c hy hk (by rw [show L.bb i = b from e']; exact hfd b hb))
  (fun b hb j d' hj => by
   simp only [lkk, St.mut, List.map_nil, List.nil_append, List.cons_append, a0U] at hj
   by_cases hjk : j = k
   ·subst hjk
    simp only [if_true]
    intro hm
    simp only [List.mem_cons, List.mem_append] at hm
    rcases hm with hm | hm | hm
    ·exact nd1.2.1 (hm ▸ hb)
    ·exact nd4 b hm b (by simp [hb]) rfl
    ·exact nd6 b hb b hm rfl
   ·rw [if_neg hjk] at hj
    simp only [if_neg hjk]
    exact fun hm => h.kk j k d' c hj hk hjk b hm (hfd b hb))
 refine ⟨_, v, g, c.n, cap, k1, k4 off v m1, ?_, ?_, ?_, hnew⟩
 ·simp [hkk]
 ·simp
 ·simp [hkk]
theorem Rel.join (h : Rel P C nt L σ a w) {k k' off g m cap : Nat} {c c' : KC} (hk : lkk σ k = some c) (hk' : lkk σ k' = some c') (hkk : k ≠ k') (ho : c.cs[off]? = some .hole) (hr : L.rv k = .slice (some ⟨g, 0, none⟩) m cap) (hc : w.cell? ⟨g, off, none⟩ = some (L.rv k')) :
  ∃ L', Rel P C nt L' (σ.mut k [k'] true { c with cs := c.cs.set off (.sl c'.e c'.sz c'.n c'.cs) }) a w := by
 have hlt : off < c.cs.length := (List.getElem?_eq_some_iff.1 ho).1
 have hown := (h.ks k c hk).1
 obtain ⟨g', cap', vs, f, k1, k2, k3, k4⟩ := b0U hown hlt
 rw [hr] at k1
 simp only [Value.slice.injEq, Option.some.injEq, Addr.mk.injEq, and_true, true_and] at k1
 obtain ⟨rfl, rfl, rfl⟩ := k1
 have hown' := (h.ks k' c' hk').1
 have hv : vs[off]? = some (L.rv k') := by
  have hl : off < vs.length := by rw [a2L _ _ _ k3]; exact hlt
  have := k4 off _ (List.getElem?_eq_getElem hl)
  rw [hc] at this
  rw [List.getElem?_eq_getElem hl, ← Option.some.inj this]
 obtain ⟨fa, fb, e1, e2⟩ := b5m hown' k3 ho hv
 have hnd := h.kn k c hk
 rw [k2, e1] at hnd
 simp only [List.nodup_cons, List.mem_append, not_or] at hnd
 obtain ⟨nd1, nd2⟩ := hnd
 rw [List.nodup_append] at nd2
 obtain ⟨nd2, nd3, nd4⟩ := nd2
 have hdis : ∀ b ∈ L.fp k', b ∉ L.fp k := fun b hb hm => h.kk k' k c' c hk' hk (fun e' => hkk e'.symm) b hb hm
 have hin : ∀ b, b ∈ fa ∨ b ∈ fb → b ∈ L.fp k := fun b hb => by
  rw [k2, e1]
  rcases hb with hb | hb <;> simp [hb]
 have hset := h.setkey (k := k) (c := c) (c' := { c with cs := c.cs.set off (.sl c'.e c'.sz c'.n c'.cs) }) (js := [k']) (same := true) (v' := L.rv k) (f' := g :: (fa ++ (L.fp k' ++ fb))) hk (by simpa using hkk) (Chg.refl _ _)
  (by
   unfold Own at hown ⊢
   obtain ⟨vs2, f2, p1, p2, p3, p4, p5⟩ := hown
   have hvs : vs2 = vs := by
    rcases (a6c p4).2 with ⟨q1, q2⟩ | ⟨g2, cap2, cur, t2, fz2, q1, q3, q4, q5, q6, q7⟩
    ·rw [hr] at q1; cases q1
    ·rw [hr] at q1
     simp only [Value.slice.injEq, Option.some.injEq, Addr.mk.injEq, and_true, true_and] at q1
     obtain ⟨rfl, rfl⟩ := q1
     apply List.ext_getElem (by rw [a2L _ _ _ p5, a2L _ _ _ k3])
     intro i i1 i2
     have r1 := k4 i _ (List.getElem?_eq_getElem i2)
     rw [cell_of_row _ g i cur t2 fz2 q3] at r1
     have r3 : i < c.n * c.sz := by rw [← p3, ← a2L _ _ _ p5]; exact i1
     have r2 : vs2[i]? = cur[i]? := by rw [← q7, List.getElem?_take, if_pos r3, Array.getElem?_toList]
     rw [List.getElem?_eq_getElem i1] at r2
     rw [← r2] at r1
     exact Option.some.inj r1
   subst hvs
   exact ⟨vs2, fa ++ (L.fp k' ++ fb), by rw [hr]; simp [Value.ownBlock], p2, by simpa using p3, p4, e2⟩)
  (by
   rw [List.nodup_cons, List.nodup_append, List.nodup_append]
   refine ⟨fun hm => ?_, nd2, ⟨h.kn k' c' hk', nd3, fun x hx y hy e' => hdis x hx (hin x (.inr (e' ▸ hy)))⟩, fun x hx y hy e' => ?_⟩
   ·simp only [List.mem_append] at hm
    rcases hm with hm | hm | hm
    ·exact nd1.1 hm
    ·exact hdis g hm (by rw [k2]; simp)
    ·exact nd1.2 hm
   ·rcases List.mem_append.1 hy with hy | hy
    ·exact hdis y hy (hin y (.inl (e' ▸ hx)))
    ·exact nd4 x hx y hy e')
  (fun b hb => by
   simp only [List.mem_cons, List.mem_append] at hb
   rcases hb with hb | hb | hb | hb
   ·exact .inl (by rw [k2, hb]; simp)
   ·exact .inl (hin b (.inl hb))
   ·exact .inr (.inl ⟨k', by simp, hb⟩)
   ·exact .inl (hin b (.inr hb)))
  (fun j hj => by simp only [List.mem_singleton] at hj; subst hj; simp [hk']) (fun _ => rfl) (fun e' => ⟨e', rfl⟩)
 exact ⟨_, hset⟩
@[reducible] def St.outs (σ : St) (t k k' off e sz n : Nat) (c : KC) (cs : List DV) : St :=
 ⟨(t, .one (.key k')) :: a0l [k] [] σ.tm, a0j [k] [] σ.bx, (k', some ⟨false, e, sz, n, cs⟩) :: (k, some { c with cs := c.cs.set off .hole }) :: σ.ks⟩
theorem c2L {f : FuncId} {xs : List Operand} {ats : Array TypeId} {us : List SV} {X : SV} {t k k' off e sz n n2 d : Nat} {c : KC} {cs cs2 : List DV} (ho : o.op = .call { callee := .value (.func f), args := xs.toArray, argTypes := ats }) (hd : o.dst = some d) (hn : Nat.blt d nt = true)
  (hc : ∀ (args : Array Value) (w : World), (callFunc f args).run P w = .ok (.enter f args) w) (hf : WFn P f us X [(0, ⟨true, e, sz, n, cs⟩)] [(0, ⟨true, e, sz, n2, cs2⟩)])
  (ht : look σ.tm t = some (.one (.nest k off (.sl e sz n cs)))) (hk : lkk σ k = some c) (hcs : c.cs[off]? = some (.sl e sz n cs)) (hk' : lkk σ k' = none)
  (ha : a5q P C nt (σ.outs t k k' off e sz n c cs) [(0, k')] xs us) (hX : X.plain = true) :
  Ef P C nt o σ (fun σ' => σ' = ((((σ.outs t k k' off e sz n c cs).wrote [(0, k', ⟨false, e, sz, n, cs⟩, ⟨false, e, sz, n2, cs2⟩)]).put d X).mut k [k'] true { c with cs := c.cs.set off (.sl e sz n2 cs2) })) := Ef.mk fun L a w hr K Q' hK => by
 have h1 := hr.tm t _ ht
 simp only [SVr, CVr] at h1
 obtain ⟨_, g, m, cap, e1, e2, e3⟩ := h1
 have hkk : k ≠ k' := fun e' => by rw [← e', hk] at hk'; cases hk'
 have hlt : off < c.cs.length := (List.getElem?_eq_some_iff.1 hcs).1
 obtain ⟨L', v, g', m', cap', q1, q2, q3, q4, q5, q6⟩ := hr.split hk hcs hk'
 rw [e1] at q1
 simp only [Value.slice.injEq, Option.some.injEq, Addr.mk.injEq, and_true, true_and] at q1
 obtain ⟨rfl, rfl, rfl⟩ := q1
 rw [e3] at q2
 have hv := Option.some.inj q2
 have hr1 : Rel P C nt L' (σ.outs t k k' off e sz n c cs) a w := q6.also (d := t) (v := .one (.key k')) (by simp only [SVr, CVr]; rw [q4]; exact hv) (by simp [SV.keys, CV.keys, lkk, a0U]) (by simp [SV.boxes])
 have hlk' : lkk (σ.outs t k k' off e sz n c cs) k' = some ⟨false, e, sz, n, cs⟩ := by simp [lkk, a0U]
 have hlk : lkk (σ.outs t k k' off e sz n c cs) k = some { c with cs := c.cs.set off .hole } := by simp [lkk, a0U, hkk]
 refine b8o (it := [(0, k', ⟨false, e, sz, n, cs⟩, ⟨false, e, sz, n2, cs2⟩)]) ho hd hn hc hf ha hX ?_ ?_ ?_ hr1 ?_
 ·intro i q hq
  simp only [a0U] at hq
  split at hq
  ·simp only [Option.some.injEq] at hq; subst hq; exact hlk'
  ·cases hq
 ·intro q hq
  simp only [List.mem_singleton] at hq
  subst hq; rfl
 ·intro i j q r hq hr' _
  simp only [a0U] at hq hr'
  split at hq <;> split at hr'
  ·rename_i a1 a2; rw [a1, a2]
  ·cases hr'
  ·cases hq
  ·cases hq
 ·intro L2 a' w' hr2 hrv hchg
  simp only [List.flatMap_cons, List.flatMap_nil, List.append_nil] at hchg
  have hgn : g ∉ L'.fp k' := fun hm => hr1.kk k' k _ _ hlk' hlk (fun e' => hkk e'.symm) g hm q5
  have hcell : w'.cell? ⟨g, off, none⟩ = some (L2.rv k') := by
   rw [hrv, q4]
   exact (World.cell?_of_block (a := ⟨g, off, none⟩) (hchg.block g (a5e e3) hgn)).trans (hv ▸ e3)
  obtain ⟨L3, hr3⟩ := hr2.join (k := k) (k' := k') (off := off) (g := g) (m := m) (cap := cap) (c := { c with cs := c.cs.set off .hole }) (c' := ⟨false, e, sz, n2, cs2⟩)
   (by simp [lkk, St.put, St.wrote, a0U, hkk]) (by simp [lkk, St.put, St.wrote, a0U]) hkk (by simp [hlt]) (by rw [hrv, q3]; exact e1) hcell
  simp only [List.set_set] at hr3
  exact hK L3 _ a' w' rfl hr3
section
variable {Q : Exit → St → Prop} {all : Array Oper} {rest : List Oper} {tm : List (Nat × SV)} {bx : List (Nat × TypeId × List CV)} {ks : List (Nat × Option KC)}
theorem b7N {f : FuncId} {xs : List Operand} {ats : Array TypeId} {us : List SV} {X : SV} {t k off e sz n n2 d : Nat} {c : KC} {cs cs2 ccs : List DV} (k' : Nat) (hg : o.guard = none) (hd : o.dst = some d) (ho : o.op = .call { callee := .value (.func f), args := xs.toArray, argTypes := ats })
  (hc : ∀ (args : Array Value) (w : World), (callFunc f args).run P w = .ok (.enter f args) w) (hf : WFn P f us X [(0, ⟨true, e, sz, n, cs⟩)] [(0, ⟨true, e, sz, n2, cs2⟩)])
  (ht : look tm t = some (.one (.nest k off (.sl e sz n cs)))) (hk : lkk ⟨tm, bx, ks⟩ k = some c) (hcs : c.cs[off]? = some (.sl e sz n cs)) (hk' : lkk ⟨tm, bx, ks⟩ k' = none)
  (ha : a5q P C nt (St.outs ⟨tm, bx, ks⟩ t k k' off e sz n c cs) [(0, k')] xs us) (hX : X.plain = true) (hn : Nat.blt d nt = true) (hcc : c.cs.set off (.sl e sz n2 cs2) = ccs)
  (h : Ops P C nt Q all rest ⟨a0l [k, k'] [k'] ((d, X) :: a0l [k'] [] ((t, .one (.key k')) :: a0l [k] [] tm)), a0j [k, k'] [k'] (a0j [k'] [] (a0j [k] [] bx)), (k, some { c with cs := ccs }) :: (k', none) :: (k', some ⟨false, e, sz, n2, cs2⟩) :: (k', some ⟨false, e, sz, n, cs⟩) :: (k, some { c with cs := c.cs.set off .hole }) :: ks⟩) : Ops P C nt Q all (o :: rest) ⟨tm, bx, ks⟩ :=
 a3x hg (c2L ho hd hn hc hf ht hk hcs hk' ha hX) (by subst hcc; exact h)
def b4d (σ : St) : List (Nat × Nat × KC × KC) → Prop
 | [] => True
 | q :: l => lkk σ q.2.1 = some q.2.2.1 ∧ b4d σ l
def a7v : List Nat → Bool
 | [] => true
 | x :: xs => !(xs.any fun y => Nat.beq x y) && a7v xs
theorem a9S : ∀ {xs : List Nat}, a7v xs = true → xs.Nodup
 | [], _ => List.nodup_nil
 | x :: xs, h => by
  simp only [a7v, Bool.and_eq_true, Bool.not_eq_true', List.any_eq_false] at h
  refine List.nodup_cons.2 ⟨fun hm => ?_, a9S h.2⟩
  have := h.1 x hm
  simp at this
def b8U (it : List (Nat × Nat × KC × KC)) : Bool := a7v (it.map fun q => q.1) && a7v (it.map fun q => q.2.1)
theorem b8C {σ : St} : ∀ {it : List (Nat × Nat × KC × KC)}, b4d σ it → ∀ q ∈ it, lkk σ q.2.1 = some q.2.2.1
 | [], _, q, hq => by simp at hq
 | p :: l, ⟨h1, h2⟩, q, hq => by
  rcases List.mem_cons.1 hq with rfl | hq
  ·exact h1
  ·exact b8C h2 q hq
theorem b5x {α : Type} : ∀ {l : List (Nat × α)}, (l.map fun q => q.1).Nodup → ∀ q ∈ l, look l q.1 = some q.2
 | [], _, q, hq => by simp at hq
 | p :: l, h, q, hq => by
  simp only [List.map_cons, List.nodup_cons] at h
  obtain ⟨i, v⟩ := p
  rw [a0U]
  rcases List.mem_cons.1 hq with rfl | hq
  ·simp
  ·have : q.1 ≠ i := fun e => h.1 (by rw [← e]; exact List.mem_map.2 ⟨q, hq, rfl⟩)
   rw [if_neg this]
   exact b5x h.2 q hq
theorem b6M : ∀ {it : List (Nat × Nat × KC × KC)}, (it.map fun q => q.2.1).Nodup → ∀ p ∈ it, ∀ q ∈ it, p.2.1 = q.2.1 → p = q
 | [], _, p, hp, _, _, _ => by simp at hp
 | x :: l, h, p, hp, q, hq, e => by
  simp only [List.map_cons, List.nodup_cons] at h
  rcases List.mem_cons.1 hp with h1 | h1 <;> rcases List.mem_cons.1 hq with h2 | h2
  ·rw [h1, h2]
  ·exact absurd (List.mem_map.2 ⟨q, h2, by rw [← e, h1]⟩ : x.2.1 ∈ l.map fun q => q.2.1) h.1
  ·exact absurd (List.mem_map.2 ⟨p, h1, by rw [e, h2]⟩ : x.2.1 ∈ l.map fun q => q.2.1) h.1
  ·exact b6M h.2 p h1 q h2 e
theorem a8w {f : FuncId} {xs : List Operand} {ats : Array TypeId} {us : List SV} {X : SV} {d : Nat} (it : List (Nat × Nat × KC × KC)) (hg : o.guard = none) (hd : o.dst = some d) (ho : o.op = .call { callee := .value (.func f), args := xs.toArray, argTypes := ats })
  (hc : ∀ (args : Array Value) (w : World), (callFunc f args).run P w = .ok (.enter f args) w) (hf : WFn P f us X (it0 it) (it1 it)) (hi : b4d ⟨tm, bx, ks⟩ it) (hdi : b8U it = true) (ha : a5q P C nt ⟨tm, bx, ks⟩ (itK it) xs us) (hX : X.plain = true) (hn : Nat.blt d nt = true)
  (h : Ops P C nt Q all rest ⟨(d, X) :: a0l (it.map fun q => q.2.1) [] tm, a0j (it.map fun q => q.2.1) [] bx, (it.map fun q => (q.2.1, some { q.2.2.2 with h := q.2.2.1.h })) ++ ks⟩) : Ops P C nt Q all (o :: rest) ⟨tm, bx, ks⟩ := by
 simp only [b8U, Bool.and_eq_true] at hdi
 replace hdi := And.intro (a9S hdi.1) (a9S hdi.2)
 refine a3x hg (c5n (it := it) ho hd hn hc hf ha hX (fun i q hq => b8C hi _ (a3o hq)) (fun q hq => b5x hdi.1 q hq) (fun i j q r hq hr e => ?_)) h
 have := b6M hdi.2 _ (a3o hq) _ (a3o hr) e
 exact congrArg Prod.fst this
theorem a6s {σ : St} {km : List (Nat × Nat)} : a5q P C nt σ km [] [] := rfl
theorem a3X {σ : St} {km : List (Nat × Nat)} {x : Operand} {xs : List Operand} {us : List SV} {v u : SV} (h1 : Ev P C nt σ x v) (h2 : a6Z km v u) (h3 : a5q P C nt σ km xs us) : a5q P C nt σ km (x :: xs) (u :: us) := ⟨v, u, us, rfl, h1, h2, h3⟩
theorem a4D {km : List (Nat × Nat)} {c c' : CV} (h : a5t km c c') : a6Z km (.one c) (.one c') := ⟨c', h, rfl⟩
theorem b2K {km : List (Nat × Nat)} {cs cs' : List CV} (h : a6T km cs cs') : a6Z km (.agg cs) (.agg cs') := ⟨cs', h, rfl⟩
theorem b3N {km : List (Nat × Nat)} : a6T km [] [] := rfl
theorem a4s {km : List (Nat × Nat)} {c u : CV} {cs us : List CV} (h1 : a5t km c u) (h2 : a6T km cs us) : a6T km (c :: cs) (u :: us) := ⟨u, us, rfl, h1, h2⟩
theorem a4M {km : List (Nat × Nat)} {i k : Nat} (h : look km i = some k) : a5t km (.key k) (.key i) := ⟨i, h, rfl⟩
theorem a4l {km : List (Nat × Nat)} {K : List Nat} {d : DV} (h : d.plain = true) : a5t km (.dv K d) (.dv [] d) := ⟨h, rfl⟩
end
/-! ### contents written out at an element -/
def mid (pre B post : List DV) : List DV := pre ++ (B ++ post)
theorem b1P {pre B post : List DV} {m off j : Nat} {d : DV} (hp : pre.length = m) (ho : off = m + j) (hB : B[j]? = some d) : (mid pre B post)[off]? = some d := by
 unfold mid
 have hj : j < B.length := (List.getElem?_eq_some_iff.1 hB).1
 rw [List.getElem?_append_right (by omega), List.getElem?_append_left (by omega), show off - pre.length = j by omega]
 exact hB
theorem b7m {pre B B' post : List DV} {m off j : Nat} {d : DV} (hp : pre.length = m) (ho : off = m + j) (hB : B.set j d = B') (hj : j < B.length) : (mid pre B post).set off d = mid pre B' post := by
 unfold mid
 rw [List.set_append_right _ _ (by omega), List.set_append_left _ _ (by omega), show off - pre.length = j by omega, hB]
theorem a4I {pre B B' post ds : List DV} {m off j : Nat} (hp : pre.length = m) (ho : off = m + j) (hB : a1a j ds B = B') (hj : j + ds.length ≤ B.length) : a1a off ds (mid pre B post) = mid pre B' post := by
 subst hB
 subst ho
 subst hp
 unfold a1a mid
 rw [List.take_length_add_append, Nat.add_assoc, ← List.drop_drop, List.drop_left, List.take_append_of_le_length (by omega), List.drop_append_of_le_length (by omega)]
 simp
theorem a5y {pre B post : List DV} {m off j n : Nat} (hp : pre.length = m) (ho : off = m + j) (hj : j + n ≤ B.length) : off + n ≤ (mid pre B post).length := by
 simp only [mid, List.length_append]
 omega
theorem Rel.same (h : Rel P C nt L σ a w) {ks : List (Nat × Option KC)} (e : ∀ i, lkk ⟨σ.tm, σ.bx, ks⟩ i = lkk σ i) : Rel P C nt L ⟨σ.tm, σ.bx, ks⟩ a w where
 df := h.df
 sz := h.sz
 tm := h.tm
 bx := h.bx
 ks := fun k c hc => h.ks k c (by rw [← e]; exact hc)
 b1 := h.b1
 k1 := fun k c hc => h.k1 k c (by rw [← e]; exact hc)
 kn := fun k c hc => h.kn k c (by rw [← e]; exact hc)
 bb := h.bb
 bk := fun i k x c hx hc => h.bk i k x c hx (by rw [← e]; exact hc)
 kk := fun k j c d hc hd => h.kk k j c d (by rw [← e]; exact hc) (by rw [← e]; exact hd)
 lk := fun k hk => by rw [e]; exact h.lk k hk
 lb := h.lb
 s0 := h.s0
 chg := h.chg
theorem b0j {Q : Exit → St → Prop} {c : Code} {tm : List (Nat × SV)} {bx : List (Nat × TypeId × List CV)} {ks : List (Nat × Option KC)} {k : Nat} {kc : KC} {cs' : List DV} (hk : lkk ⟨tm, bx, ks⟩ k = some kc) (e : kc.cs = cs')
  (h : Ok P C nt Q c ⟨tm, bx, (k, some { kc with cs := cs' }) :: ks⟩) : Ok P C nt Q c ⟨tm, bx, ks⟩ := by
 subst e
 refine a0h (Weak.mk fun L a w hr => ⟨L, hr.same (ks := (k, some kc) :: ks) fun i => ?_⟩) h
 simp only [lkk, a0U] at hk ⊢
 split
 ·rename_i e'; rw [e', hk]; rfl
 ·rfl
theorem b0k {σ' : St} {i : Nat} {c : KC} (h : lkk σ' i = some c) : ∀ j d, look [(i, c)] j = some d → lkk σ' j = some d := by
 intro j d hj
 simp only [a0U] at hj
 split at hj
 ·rename_i e; rw [e, h]; exact hj
 ·cases hj
theorem c2V {σ' : St} {i i2 : Nat} {c c2 : KC} (h : lkk σ' i = some c) (h2 : lkk σ' i2 = some c2) : ∀ j d, look [(i, c), (i2, c2)] j = some d → lkk σ' j = some d := by
 intro j d hj
 simp only [a0U] at hj
 split at hj
 ·rename_i e; rw [e, h]; exact hj
 ·split at hj
  ·rename_i e; rw [e, h2]; exact hj
  ·cases hj
theorem c4r {σ' : St} {i i2 i3 : Nat} {c c2 c3 : KC} (h : lkk σ' i = some c) (h2 : lkk σ' i2 = some c2) (h3 : lkk σ' i3 = some c3) : ∀ j d, look [(i, c), (i2, c2), (i3, c3)] j = some d → lkk σ' j = some d := by
 intro j d hj
 simp only [a0U] at hj
 split at hj
 ·rename_i e; rw [e, h]; exact hj
 ·split at hj
  ·rename_i e; rw [e, h2]; exact hj
  ·split at hj
   ·rename_i e; rw [e, h3]; exact hj
   ·cases hj
end
section
variable {P : Program} {C : Ctx} {nt : Nat} {L : Lyt} {σ : St} {a : Act} {w : World} {o : Oper} {x y : Operand} {T : TT}
theorem b1F (w : World) : ∀ bs : List UInt8, a0I w (bs.flatMap fun b => [DV.int .u8 (b.toNat : Int)]) (bs.map fun b => Value.int .u8 (b.toNat : Int)) []
 | [] => by simp [a0I]
 | b :: bs => by
  have hb := b.toNat_lt
  simp only [List.flatMap_cons, List.map_cons, List.singleton_append, a0I]
  refine ⟨_, _, [], [], rfl, rfl, ?_, b1F w bs⟩
  unfold Own
  exact ⟨rfl, by simp [InR, IntKind.min, IntKind.max, IntKind.signed, IntKind.bits]; omega, rfl⟩
theorem c6G (w : World) (e : TypeId) (s : ByteArray) : Chg [] w (Lib.bytesWorld w e s) :=
 ⟨by simp [Lib.bytesWorld, World.freeze, World.alloc, World.drew, -World.alloc_eq, -World.drew_eq], by simp [Lib.bytesWorld, World.freeze, World.alloc, World.drew, -World.alloc_eq, -World.drew_eq],
  by simp [Lib.bytesWorld, World.freeze, World.alloc, World.drew, -World.alloc_eq, -World.drew_eq], by rw [Lib.bytesWorld_size]; omega, fun k hk _ => Lib.bytesWorld_at_old w e s k hk⟩
theorem b8e (bs : List UInt8) : (bs.flatMap fun b => [DV.int .u8 (b.toNat : Int)]).length = bs.length := by
 induction bs with
 | nil => rfl
 | cons b bs ih => rw [List.flatMap_cons, List.length_append, ih, List.length_cons]; simp; omega
theorem b3X (hT : TTOk P T) {s t e d k : Nat} {u : Unit} {J : List Nat} {v : ByteArray} (ho : o.op = .convert s t x) (hd : o.dst = some d) (hn : Nat.blt d nt = true) (hs : look T.st s = some u) (ht : look T.sl t = some e) (he : look T.it e = some .u8)
  (hx : Ev P C nt σ x (.one (.dv J (.str v)))) (hk : lkk σ k = none) :
  EfG P C nt o σ (fun σ' => σ' = { σ with ks := (k, some ⟨false, 1000005, 1, v.data.toList.length, v.data.toList.flatMap fun b : UInt8 => [DV.int .u8 (b.toNat : Int)]⟩) :: σ.ks }.put d (.one (.key k))) := EfG.mk fun L a w hr K Q hK => by
 have h1 := hx.run L a w hr
 simp only [SVr, CVr, Lay] at h1
 obtain ⟨h1, h2⟩ := h1
 have hchg := c6G w e v
 have hlen : v.data.toList.length = v.size := rfl
 have hrow : a6E (Lib.bytesWorld w e v) 1000005 1 (.slice (some ⟨w.heap.size, 0, none⟩) v.size (grownCap w v.size 0 e)) v.size (v.data.toList.map fun b => Value.int .u8 (b.toNat : Int)) := by
  refine ⟨fun h => absurd h (by decide), fun _ => ⟨by simp [hlen], .inr ⟨w.heap.size, _, Lib.bytesCells w e v, e, _, rfl, Lib.bytesWorld_at_new w e v, ?_, ?_, ?_, ?_⟩⟩⟩
  ·exact grownCap_ge w v.size 0 e
  ·exact grownCap_le_maxLen w v.size 0 e (by simpa [maxLen] using h2)
  ·simp [Lib.bytesCells]
  ·simp [Lib.bytesCells]
 have hb := hr.newkey' hchg (c := ⟨false, 1000005, 1, v.data.toList.length, v.data.toList.flatMap fun b : UInt8 => [DV.int .u8 (b.toNat : Int)]⟩) (v := .slice (some ⟨w.heap.size, 0, none⟩) v.size (grownCap w v.size 0 e)) (f := [w.heap.size]) hk
  (by unfold Own; exact ⟨_, [], rfl, Nat.one_pos, by rw [b8e, Nat.mul_one], hrow, b1F _ _⟩) rfl (by simp) (by simp)
 refine a5c (v := .slice (some ⟨w.heap.size, 0, none⟩) v.size (grownCap w v.size 0 e)) (w' := Lib.bytesWorld w e v) ?_ ?_
 ·unfold execOp
  simp only [ho, h1, Lib.run_convert_string_bytes w s t e v (hT.st s u hs) (hT.sl t e ht) (hT.it e _ he), Sem.run_bind, Result.andThen_ok, Sem.run_pure]
 ·refine hK { L with fp := fun j => if j = k then [w.heap.size] else L.fp j, rv := fun j => if j = k then .slice (some ⟨w.heap.size, 0, none⟩) v.size (grownCap w v.size 0 e) else L.rv j } _ _ _ rfl (by rw [hd]; exact hb.put (v := .one (.key k)) (by simpa [Nat.blt_eq] using hn) (by simp [SVr, CVr]) (by simp [SV.keys, CV.keys, lkk, a0U]) (by simp [SV.boxes])) ⟨hchg, fun i c hc => ?_, fun _ _ _ => rfl⟩
  have : i ≠ k := fun e => by rw [e, hk] at hc; cases hc
  simp [this]
theorem a2S (hT : TTOk P T) {t e' k n : Nat} {c : KC} (ho : o.op = .call { callee := .builtin .len, args := #[x], argTypes := #[t] }) (h : look T.sl t = some e') (hx : Ev P C nt σ x (.one (.key k))) (hk : lkk σ k = some c) (hn : c.n = n) : Pu P C nt o σ (.one (.dv [] (.int .i64 (n : Int)))) [] [] := by
 subst hn
 exact c5l hT ho h hx hk
theorem c3S (k : IntKind) : k.min ≤ 0 := by cases k <;> decide
theorem b2R {k : IntKind} {m z : Int} (h : InR k m) (h0 : 0 ≤ z) (h1 : z ≤ m) : InR k z := ⟨by have := c3S k; omega, by have := h.2; omega⟩
theorem b6D {t ty : TypeId} {K J : List Nat} {k : IntKind} {m n : Int} (ho : o.op = .binOp .rem t x y ty) (hx : Ev P C nt σ x (.one (.dv K (.int k m)))) (hy : Ev P C nt σ y (.one (.dv J (.int k n)))) (hm : 0 ≤ m) (hn : 0 < n) : Pu P C nt o σ (.one (.dv [] (.int k (m % n)))) [] [] := by
 have e : m.tmod n = m % n := Int.tmod_eq_emod_of_nonneg hm
 have hq : InR k m → InR k (m % n) := fun h1 => b2R h1 (Int.emod_nonneg m (show n ≠ 0 by omega)) (by
  rcases Int.lt_or_le m n with h | h
  ·rw [Int.emod_eq_of_lt hm h]; omega
  ·have := Int.emod_lt_of_pos m hn; omega)
 exact a4z ho hx hy fun h1 h2 => ⟨_, fun ok w => by unfold Lay; exact ⟨rfl, hq h1⟩, fun w => by simp [binOp, Op.intDiv, show n ≠ 0 by omega, e]⟩
theorem b4U {t ty : TypeId} {K J : List Nat} {k : IntKind} {m n : Int} (ho : o.op = .binOp .quo t x y ty) (hx : Ev P C nt σ x (.one (.dv K (.int k m)))) (hy : Ev P C nt σ y (.one (.dv J (.int k n)))) (hm : 0 ≤ m) (hn : 0 < n) : Pu P C nt o σ (.one (.dv [] (.int k (m / n)))) [] [] := by
 have h := c0R ho hx hy (show n ≠ 0 by omega)
 have e : m.tdiv n = m / n := Int.tdiv_eq_ediv_of_nonneg hm
 rw [e] at h
 refine Pu.mk fun L a w hr => ?_
 have h1 := hx.run L a w hr
 simp only [SVr, CVr, Lay] at h1
 have h2 : InR k (m / n) := b2R h1.2 (Int.ediv_nonneg hm (show (0 : Int) ≤ n by omega)) (Int.ediv_le_self n hm)
 have := h.run L a w hr
 rwa [b1l h2] at this
theorem b3w {t ty : TypeId} {K J : List Nat} {k j : IntKind} {m n : Int} (ho : o.op = .binOp .shr t x y ty) (hx : Ev P C nt σ x (.one (.dv K (.int k m)))) (hy : Ev P C nt σ y (.one (.dv J (.int j n)))) (hm : 0 ≤ m) (hn : 0 ≤ n) (hn2 : n.toNat ≤ k.bits) : Pu P C nt o σ (.one (.dv [] (.int k (m / (2 ^ n.toNat : Nat))))) [] [] := Pu.mk fun L a w hr => by
 have h1 := hx.run L a w hr
 have h2 := hy.run L a w hr
 simp only [SVr, CVr, Lay] at h1 h2
 have hp : (0 : Int) < ((2 ^ n.toNat : Nat) : Int) := by have : 0 < 2 ^ n.toNat := Nat.two_pow_pos _; omega
 have e : m.fdiv (2 ^ n.toNat) = m / ((2 ^ n.toNat : Nat) : Int) := by
  have : ((2 ^ n.toNat : Nat) : Int) = (2 : Int) ^ n.toNat := by simp
  rw [← this, Int.fdiv_eq_ediv_of_nonneg _ (by omega)]
 have h3 : InR k (m / ((2 ^ n.toNat : Nat) : Int)) := b2R h1.2 (Int.ediv_nonneg hm (Int.le_of_lt hp)) (Int.ediv_le_self _ hm)
 refine ⟨.int k (m / ((2 ^ n.toNat : Nat) : Int)), by simp only [SVr, CVr, Lay]; exact ⟨trivial, h3⟩, fun w' _ => ?_⟩
 unfold execOp
 simp only [ho, h1.1, h2.1, Sem.run_bind]
 have hg : (eqGuard .shr t x y (.int k m) (.int j n)).run P w' = .ok () w' := by unfold eqGuard; rfl
 have hb : (binOp .shr t (.int k m) (.int j n)).run P w' = .ok (.int k (m / ((2 ^ n.toNat : Nat) : Int))) w' := by
  simp only [binOp, Op.shift]
  rw [if_neg (by omega), Nat.min_eq_left hn2, e]
  rfl
 simp only [hg, Result.andThen_ok, hb, Sem.run_pure]
theorem b7p {t ty : TypeId} {K J : List Nat} {k j : IntKind} {m n : Int} (ho : o.op = .binOp .shl t x y ty) (hx : Ev P C nt σ x (.one (.dv K (.int k m)))) (hy : Ev P C nt σ y (.one (.dv J (.int j n)))) (hn : 0 ≤ n) (hn2 : n.toNat ≤ k.bits) : Pu P C nt o σ (.one (.dv [] (.int k (k.wrap (m * (2 ^ n.toNat : Nat)))))) [] [] := Pu.mk fun L a w hr => by
 have h1 := hx.run L a w hr
 have h2 := hy.run L a w hr
 simp only [SVr, CVr, Lay] at h1 h2
 refine ⟨.int k (k.wrap (m * (2 ^ n.toNat : Nat))), by simp only [SVr, CVr, Lay]; exact ⟨trivial, a7G _ _⟩, fun w' _ => ?_⟩
 unfold execOp
 simp only [ho, h1.1, h2.1, Sem.run_bind]
 have hg : (eqGuard .shl t x y (.int k m) (.int j n)).run P w' = .ok () w' := by unfold eqGuard; rfl
 have hb : (binOp .shl t (.int k m) (.int j n)).run P w' = .ok (.int k (k.wrap (m * (2 ^ n.toNat : Nat)))) w' := by
  simp only [binOp, Op.shift]
  rw [if_neg (by omega), Nat.min_eq_left hn2]
  have : ((2 ^ n.toNat : Nat) : Int) = (2 : Int) ^ n.toNat := by simp
  rw [this]; rfl
 simp only [hg, Result.andThen_ok, hb, Sem.run_pure]
theorem c2W (z : Int) : IntKind.u8.wrap z = ((UInt8.ofNat (IntKind.u8.wrap z).toNat).toNat : Int) := by
 have h := a7G .u8 z
 simp only [InR, IntKind.min, IntKind.max, IntKind.signed, IntKind.bits] at h
 obtain ⟨h1, h2⟩ := h
 simp at h1 h2
 simp only [UInt8.toNat_ofNat']
 have : (IntKind.u8.wrap z).toNat % 2 ^ 8 = (IntKind.u8.wrap z).toNat := Nat.mod_eq_of_lt (by omega)
 omega
theorem c2h (hT : TTOk P T) {s d e' : Nat} {v : Unit} {K : List Nat} {e : Nat} {z : Int} {b : UInt8} (ho : o.op = .convert s d x) (h : look T.sl s = some e') (he : look T.it e' = some .u8) (hd : look T.st d = some v) (hx : Ev P C nt σ x (.one (.dv K (.sl e 1 1 [.int .u8 z])))) (hz : z = (b.toNat : Int)) :
  Pu P C nt o σ (.one (.dv [] (.str (a1u [b])))) K [] := by
 subst hz
 exact a4G (xs := [b]) hT ho h he hd hx
end
section
variable {P : Program} {C : Ctx} {nt : Nat} {o : Oper} {x y : Operand} {T : TT} {Q : Exit → St → Prop} {all : Array Oper} {rest : List Oper} {tm : List (Nat × SV)} {bx : List (Nat × TypeId × List CV)} {ks : List (Nat × Option KC)}
theorem b8d (hT : TTOk P T) {s t e d k : Nat} {u : Unit} {J : List Nat} {v : ByteArray} (hg : o.guard = none) (hd : o.dst = some d) (ho : o.op = .convert s t x) (hn : Nat.blt d nt = true) (hs : look T.st s = some u) (ht : look T.sl t = some e) (he : look T.it e = some .u8)
  (hx : Ev P C nt ⟨tm, bx, ks⟩ x (.one (.dv J (.str v)))) (hk : lkk ⟨tm, bx, ks⟩ k = none)
  (h : Ops P C nt Q all rest ⟨(d, .one (.key k)) :: tm, bx, (k, some ⟨false, 1000005, 1, v.data.toList.length, v.data.toList.flatMap fun b : UInt8 => [DV.int .u8 (b.toNat : Int)]⟩) :: ks⟩) : Ops P C nt Q all (o :: rest) ⟨tm, bx, ks⟩ := a3x hg (b3X hT ho hd hn hs ht he hx hk).ef h
end
abbrev a1P := List (Nat × Nat × Nat × List CV)
def a3K : a1P → List (Nat × SV) → List (Nat × SV)
 | [], tm => tm
 | p :: B, tm => (p.2.1, .box p.2.1 0) :: a3K B tm
def a3G : a1P → List (Nat × TypeId × List CV) → List (Nat × TypeId × List CV)
 | [], bx => bx
 | p :: B, bx => (p.2.1, p.2.2.1, p.2.2.2) :: a3G B bx
@[reducible] def St.adds (σ : St) (B : a1P) : St := ⟨a3K B σ.tm, a3G B σ.bx, σ.ks⟩
def a2x (listed : Array Bool) : List Nat → Array Bool
 | [] => listed
 | j :: js => (a2x listed js).setIfInBounds j true
theorem b1Y (listed : Array Bool) : ∀ js, (a2x listed js).size = listed.size
 | [] => rfl
 | j :: js => by rw [a2x, Array.size_setIfInBounds, b1Y listed js]
theorem b3u (listed : Array Bool) (k : Nat) (hk : k < listed.size) : ∀ js, (a2x listed js)[k]? = some (listed[k] || js.contains k)
 | [] => by simp [a2x, Array.getElem?_eq_getElem hk]
 | j :: js => by
  have ih := b3u listed k hk js
  have e : a2x listed (j :: js) = (a2x listed js).setIfInBounds j true := rfl
  rw [e, Array.getElem?_setIfInBounds, ih, List.contains_cons, b1Y]
  by_cases h : j = k
  ·subst h; simp [hk]
  ·have h2 : (k == j) = false := by simpa using fun e => h e.symm
   rw [if_neg h, h2, Bool.false_or]
theorem c5S {listed : Array Bool} {js ks : List Nat} (h : ∀ k, js.contains k = ks.contains k) : a2x listed js = a2x listed ks := by
 apply Array.ext_getElem?
 intro k
 by_cases h1 : k < listed.size
 ·rw [b3u listed k h1, b3u listed k h1, h]
 ·rw [Array.getElem?_eq_none (by rw [b1Y]; omega), Array.getElem?_eq_none (by rw [b1Y]; omega)]
theorem a9b {listed : Array Bool} {i : Nat} : ∀ {js : List Nat}, i ∉ js → a2x (listed.setIfInBounds i true) js = (a2x listed js).setIfInBounds i true
 | [], _ => rfl
 | j :: js, h => by
  simp only [List.mem_cons, not_or] at h
  rw [a2x, a9b h.2, a2x, Array.setIfInBounds_comm _ _ h.1]
@[reducible] def nos (B : a1P) : List Nat := B.map fun p => p.1
section
variable {σ σ' : St}
theorem b3I {B : a1P} {tm : List (Nat × SV)} (j : Nat) : look (a3K B tm) j = if (B.map fun p => p.2.1).contains j then some (.box j 0) else look tm j := by
 induction B with
 | nil => simp [a3K]
 | cons p B ih =>
  simp only [a3K, a0U, List.map_cons, List.contains_cons, ih]
  by_cases h : j = p.2.1
  ·simp [h]
  ·have h2 : (j == p.2.1) = false := by simpa using h
   rw [if_neg h, h2, Bool.false_or]
def a5T : a1P → Nat → Option (TypeId × List CV)
 | [], _ => none
 | p :: B, j => if j = p.2.1 then some (p.2.2.1, p.2.2.2) else a5T B j
theorem b1m {B : a1P} {bx : List (Nat × TypeId × List CV)} (j : Nat) : look (a3G B bx) j = (a5T B j).or (look bx j) := by
 induction B with
 | nil => simp [a3G, a5T]
 | cons p B ih =>
  simp only [a3G, a0U, a5T, ih]
  split <;> simp
theorem b1T {B : a1P} {j : Nat} (h : ∀ p ∈ B, p.2.1 ≠ j) : a5T B j = none := by
 induction B with
 | nil => rfl
 | cons p B ih =>
  rw [a5T, if_neg (fun e => h p (by simp) e.symm)]
  exact ih fun q hq => h q (by simp [hq])
theorem b9u {B : a1P} (hn : (B.map fun p => p.2.1).Nodup) {p : Nat × Nat × Nat × List CV} (hp : p ∈ B) : a5T B p.2.1 = some (p.2.2.1, p.2.2.2) := by
 induction B with
 | nil => simp at hp
 | cons q B ih =>
  simp only [List.map_cons, List.nodup_cons] at hn
  rw [a5T]
  rcases List.mem_cons.1 hp with rfl | hp
  ·simp
  ·rw [if_neg (fun e => hn.1 (by rw [← e]; exact List.mem_map.2 ⟨p, hp, rfl⟩))]
   exact ih hn.2 hp
variable {P : Program} {C : Ctx} {nt : Nat} {L : Lyt} {a : Act} {w : World}
theorem Rel.sub' (h : Rel P C nt L σ' a w) (h1 : ∀ i v, look σ.tm i = some v → look σ'.tm i = some v) (h2 : ∀ i x, look σ.bx i = some x → look σ'.bx i = some x) (h3 : ∀ k c, lkk σ k = some c → lkk σ' k = some c) (h4 : σ.okB = true) : Rel P C nt L σ a w := by
 simp only [St.okB, Bool.and_eq_true, List.all_eq_true] at h4
 exact {
  df := h.df, sz := h.sz
  tm := fun i v hv => h.tm i v (h1 i v hv)
  bx := fun i t cs hx => h.bx i t cs (h2 i _ hx)
  ks := fun k c hc => h.ks k c (h3 k c hc)
  b1 := fun i x hx => h.b1 i x (h2 i _ hx)
  k1 := fun k c hc => h.k1 k c (h3 k c hc)
  kn := fun k c hc => h.kn k c (h3 k c hc)
  bb := fun i j x y hx hy => h.bb i j x y (h2 i _ hx) (h2 j _ hy)
  bk := fun i k x c hx hc => h.bk i k x c (h2 i _ hx) (h3 k c hc)
  kk := fun k j c d hc hd => h.kk k j c d (h3 k c hc) (h3 j d hd)
  lk := h4.1, lb := h4.2
  s0 := h.s0, chg := h.chg }
structure VOk (P : Program) (all : Array Oper) (nt : Nat) (A : a1P) (σ : St) : Prop where
 op : ∀ p ∈ A, ∃ o, all[p.1]? = some o ∧ o.guard = none ∧ o.dst = some p.2.1 ∧ o.op = .alloc p.2.2.1
 ty : ∀ p ∈ A, ∃ T sz by_, TTOk P T ∧ look T.el p.2.2.1 = some (sz, by_, p.2.2.2)
 lt : ∀ p ∈ A, p.2.1 < nt
 zk : ∀ p ∈ A, p.2.2.2.flatMap CV.keys = []
 bn : ∀ p ∈ A, look σ.bx p.2.1 = none
 tn : ∀ p ∈ A, look σ.tm p.2.1 = none
 nd : (A.map fun p => p.2.1).Nodup
 ni : (nos A).Nodup
 ok : σ.okB = true
theorem VOk.okA {all : Array Oper} {A : a1P} (h : VOk P all nt A σ) {B : a1P} (hB : ∀ p ∈ B, p ∈ A) : (σ.adds B).okB = true := by
 have h0 := h.ok
 simp only [St.okB, Bool.and_eq_true, List.all_eq_true] at h0 ⊢
 have hbx : ∀ b, (look σ.bx b).isSome = true → (look (a3G B σ.bx) b).isSome = true := fun b hb => by
  rw [b1m]; cases a5T B b <;> simp [hb]
 have hin : ∀ {B : a1P} (hB : ∀ p ∈ B, p ∈ A), ∀ p ∈ B, (look (a3G B σ.bx) p.2.1).isSome = true := by
  intro B
  induction B with
  | nil => intro _ p hp; simp at hp
  | cons q B ih =>
   intro hB p hp
   simp only [a3G, a0U]
   split
   ·rfl
   ·rcases List.mem_cons.1 hp with rfl | hp
    ·rename_i e; exact absurd rfl e
    ·exact ih (fun r hr => hB r (by simp [hr])) p hp
 constructor
 ·intro k hk
  refine h0.1 k ?_
  simp only [St.tk, List.mem_append] at hk ⊢
  have key : ∀ {B : a1P}, (∀ p ∈ B, p ∈ A) → (k ∈ (a3K B σ.tm).flatMap (fun p => p.2.keys) → k ∈ σ.tm.flatMap fun p => p.2.keys) ∧ (k ∈ (a3G B σ.bx).flatMap (fun p => p.2.2.flatMap CV.keys) → k ∈ σ.bx.flatMap fun p => p.2.2.flatMap CV.keys) := by
   intro B
   induction B with
   | nil => intro _; exact ⟨id, id⟩
   | cons p B ih =>
    intro hB
    obtain ⟨i1, i2⟩ := ih fun q hq => hB q (by simp [hq])
    refine ⟨fun hm => i1 ?_, fun hm => i2 ?_⟩
    ·simpa [a3K, SV.keys] using hm
    ·simpa [a3G, h.zk p (hB p (by simp))] using hm
  rcases hk with hk | hk
  ·exact .inl ((key hB).1 hk)
  ·exact .inr ((key hB).2 hk)
 ·intro b hb
  have key : ∀ {B : a1P}, b ∈ (a3K B σ.tm).flatMap (fun p => p.2.boxes) → b ∈ σ.tm.flatMap (fun p => p.2.boxes) ∨ ∃ p ∈ B, b = p.2.1 := by
   intro B
   induction B with
   | nil => intro hm; exact .inl hm
   | cons p B ih =>
    intro hm
    simp only [a3K, List.flatMap_cons, SV.boxes, List.mem_append, List.mem_singleton] at hm
    rcases hm with hm | hm
    ·exact .inr ⟨p, by simp, hm⟩
    ·rcases ih hm with hm | ⟨q, hq, e⟩
     ·exact .inl hm
     ·exact .inr ⟨q, by simp [hq], e⟩
  rcases key hb with hb | ⟨p, hp, rfl⟩
  ·exact hbx b (h0.2 b hb)
  ·exact hin hB p hp
theorem VOk.tmE {all : Array Oper} {A : a1P} (h : VOk P all nt A σ) {B : a1P} (hB : ∀ p ∈ B, p ∈ A) (i : Nat) (v : SV) (hv : look σ.tm i = some v) : look (σ.adds B).tm i = some v := by
 rw [b3I, if_neg]
 ·exact hv
 ·simp only [List.contains_iff_mem, List.mem_map, not_exists, not_and]
  intro p hp e
  rw [← e, h.tn p (hB p hp)] at hv
  cases hv
theorem VOk.bxE {all : Array Oper} {A : a1P} (h : VOk P all nt A σ) {B : a1P} (hB : ∀ p ∈ B, p ∈ A) (i : Nat) (x : TypeId × List CV) (hv : look σ.bx i = some x) : look (σ.adds B).bx i = some x := by
 rw [b1m, b1T, Option.none_or]
 ·exact hv
 ·intro p hp e
  rw [← e, h.bn p (hB p hp)] at hv
  cases hv
theorem VOk.drop {all : Array Oper} {A : a1P} (h : VOk P all nt A σ) {B : a1P} (hB : ∀ p ∈ B, p ∈ A) (hr : Rel P C nt L (σ.adds B) a w) : Rel P C nt L σ a w :=
 hr.sub' (h.tmE hB) (h.bxE hB) (fun k c hc => hc) h.ok
/-! ### what holds of a state holds of a greater one -/
structure Ext (P : Program) (C : Ctx) (nt : Nat) (σ σ' : St) : Prop where
 rel : ∀ L a w, Rel P C nt L σ' a w → Rel P C nt L σ a w
 bx : ∀ i x, look σ.bx i = some x → look σ'.bx i = some x
 ks : σ'.ks = σ.ks
theorem VOk.ext {all : Array Oper} {A : a1P} (h : VOk P all nt A σ) {B : a1P} (hB : ∀ p ∈ B, p ∈ A) : Ext P C nt σ (σ.adds B) := ⟨fun _ _ _ hr => h.drop hB hr, h.bxE hB, rfl⟩
theorem Ext.lkk (h : Ext P C nt σ σ') (k : Nat) : lkk σ' k = Go.Proofs.YtfejjkndbpejbaaGreat.lkk σ k := by simp only [Go.Proofs.YtfejjkndbpejbaaGreat.lkk, h.ks]
theorem Ext.ev (h : Ext P C nt σ σ') {x : Operand} {v : SV} (hx : Ev P C nt σ x v) : Ev P C nt σ' x v := Ev.mk fun L a w hr => hx.run L a w (h.rel L a w hr)
theorem Ext.pu (h : Ext P C nt σ σ') {o : Oper} {v : SV} {Ks Bs : List Nat} (hx : Pu P C nt o σ v Ks Bs) : Pu P C nt o σ' v Ks Bs := Pu.mk fun L a w hr => hx.run L a w (h.rel L a w hr)
theorem Ext.argC (h : Ext P C nt σ σ') {c u : CV} (hx : a2G σ c u) : a2G σ' c u := by
 cases c with
 | key k => simp only [a2G, h.lkk] at hx ⊢; exact hx
 | dv K d => exact hx
 | nest k o d => exact hx
 | arg i d => exact hx
 | nil => exact hx
 | any => exact hx
theorem Ext.argCs (h : Ext P C nt σ σ') : ∀ {cs us : List CV}, a5B σ cs us → a5B σ' cs us
 | [], _, hx => hx
 | c :: cs, _, ⟨u, us', e, h1, h2⟩ => ⟨u, us', e, h.argC h1, h.argCs h2⟩
theorem Ext.cloB (h : Ext P C nt σ σ') : ∀ {bs : List Nat} {dss : List (List DV)}, a4o σ bs dss → a4o σ' bs dss
 | [], _, hx => hx
 | b :: bs, _, ⟨ds, dss', t, e, h1, h2⟩ => ⟨ds, dss', t, e, h.bx b _ h1, h.cloB h2⟩
theorem Ext.argS (h : Ext P C nt σ σ') {v u : SV} (hx : a4n σ v u) : a4n σ' v u := by
 cases v with
 | one c => obtain ⟨c', h1, e⟩ := hx; exact ⟨c', h.argC h1, e⟩
 | agg cs => obtain ⟨c', h1, e⟩ := hx; exact ⟨c', h.argCs h1, e⟩
 | ref K ds => exact hx
 | fn f caps => exact hx
 | clo f bs => obtain ⟨caps, h1, e⟩ := hx; exact ⟨caps, h.cloB h1, e⟩
 | _ => exact hx
theorem Ext.args (h : Ext P C nt σ σ') : ∀ {xs : List Operand} {us : List SV}, a2i P C nt σ xs us → a2i P C nt σ' xs us
 | [], _, hx => hx
 | x :: xs, _, ⟨v, u, us', e, h1, h2, h3⟩ => ⟨v, u, us', e, h.ev h1, h.argS h2, h.args h3⟩
end
/-! ### the judgement -/
structure OpsA (P : Program) (C : Ctx) (nt : Nat) (Q : Exit → St → Prop) (all : Array Oper) (oB oK : List Nat) (hd : Nat → Bool) (A : a1P) (listed : Array Bool) (fuel : Nat) (σ : St) : Prop where
 run : ∀ m : Nat → Bool, ∀ wb L a w, Rel P C nt L (σ.adds (A.filter fun p => m p.1)) a w → SW wb w → C.w0.heap.size ≤ wb.heap.size → (∀ i ∈ oB, L.bb i < wb.heap.size) → (∀ k ∈ oK, ∀ b ∈ L.fp k, b < wb.heap.size) →
  a2u P .any all (QQ P C nt Q) (SW wb) hd (fuel + (A.filter fun p => !m p.1).length) (a2x listed (nos (A.filter fun p => m p.1))) a w
section
variable {P : Program} {C : Ctx} {nt : Nat} {Q : Exit → St → Prop} {all : Array Oper} {oB oK : List Nat} {hd' : Nat → Bool} {A : a1P} {listed : Array Bool} {fuel : Nat} {o : Oper} {d : Nat} {v X : SV} {Ks Bs : List Nat} {g : Bool} {σ σ₁ : St}
def a5v {α : Type} : List α → List (List α)
 | [] => [[]]
 | x :: xs => (a5v xs).map (x :: ·) ++ a5v xs
theorem b8x {α : Type} (m : α → Bool) : ∀ l : List α, l.filter m ∈ a5v l
 | [] => by simp [a5v]
 | x :: xs => by
  have ih := b8x m xs
  rw [List.filter_cons, a5v]
  split
  ·exact List.mem_append.2 (.inl (List.mem_map.2 ⟨_, ih, rfl⟩))
  ·exact List.mem_append.2 (.inr ih)
def b0O (all : Array Oper) (listed : Array Bool) (A : a1P) (i : Nat) : Bool := (a5v A).all fun B =>
 (Region.ready .any all (a2x listed (nos B))).contains i && (Region.ready .any all (a2x listed (nos B))).all fun j => j == i || ((nos A).contains j && !(nos B).contains j)
def c0v (all : Array Oper) (listed : Array Bool) (A : a1P) : Bool := (a5v A).all fun B =>
 B.length == A.length || (!(Region.ready .any all (a2x listed (nos B))).isEmpty && (Region.ready .any all (a2x listed (nos B))).all fun j => (nos A).contains j && !(nos B).contains j)
def c3h (hd : Nat → Bool) (all : Array Oper) (listed : Array Bool) (A : a1P) (i : Nat) : Bool := (a5v A).all fun B => a5m .any all hd (a2x listed (nos B)) i
def c3n (hd : Nat → Bool) (all : Array Oper) (listed : Array Bool) (A : a1P) (i : Nat) : Bool := (a5v A).all fun B => a8Z .any all hd (a2x listed (nos B)) i
theorem a9N (m : Nat → Bool) : A.filter (fun p => m p.1) ∈ a5v A := b8x _ A
theorem b3c {m : Nat → Bool} {j : Nat} (hA : (nos A).contains j = true) (h : (nos (A.filter fun p => m p.1)).contains j = false) : m j = false := by
 simp only [List.contains_iff_mem, List.mem_map] at hA
 obtain ⟨p, hp, rfl⟩ := hA
 cases hm : m p.1 with
 | false => rfl
 | true =>
  have : (nos (A.filter fun p => m p.1)).contains p.1 = true := by
   simp only [List.contains_iff_mem, List.mem_map]
   exact ⟨p, List.mem_filter.2 ⟨hp, hm⟩, rfl⟩
  rw [this] at h; cases h
theorem b2v : ∀ {A : a1P} {m : Nat → Bool} {j : Nat}, (nos A).Nodup → j ∈ nos A → m j = false → (A.filter fun p => !m p.1).length = (A.filter fun p => !(m p.1 || p.1 == j)).length + 1
 | [], _, _, _, h, _ => by simp at h
 | p :: A, m, j, hn, h, hm => by
  simp only [List.map_cons, List.nodup_cons] at hn
  simp only [List.map_cons, List.mem_cons] at h
  by_cases e : p.1 = j
  ·subst e
   have h1 : (A.filter fun q => !m q.1) = A.filter fun q => !(m q.1 || q.1 == p.1) := by
    apply List.filter_congr
    intro q hq
    have : q.1 ≠ p.1 := fun e => hn.1 (by rw [← e]; exact List.mem_map.2 ⟨q, hq, rfl⟩)
    simp [this]
   rw [List.filter_cons, List.filter_cons, hm]
   simp [h1]
  ·have hj : j ∈ nos A := by
    rcases h with h | h
    ·exact absurd h.symm e
    ·exact h
   have ih := b2v hn.2 hj hm
   rw [List.filter_cons, List.filter_cons]
   have e2 : (p.1 == j) = false := by simpa using e
   rw [e2, Bool.or_false]
   split
   ·simp [ih]
   ·exact ih
theorem b8N {m : Nat → Bool} {j : Nat} (hj : j ∈ nos A) : a2x listed (nos (A.filter fun p => m p.1 || p.1 == j)) = (a2x listed (nos (A.filter fun p => m p.1))).setIfInBounds j true := by
 have : (a2x listed (nos (A.filter fun p => m p.1))).setIfInBounds j true = a2x listed (j :: nos (A.filter fun p => m p.1)) := rfl
 rw [this]
 apply c5S
 intro k
 rw [Bool.eq_iff_iff]
 simp only [List.contains_iff_mem, List.mem_map, List.mem_filter, List.mem_cons, Bool.or_eq_true, beq_iff_eq]
 constructor
 ·rintro ⟨p, ⟨hp, h⟩, rfl⟩
  rcases h with h | h
  ·exact .inr ⟨p, ⟨hp, h⟩, rfl⟩
  ·exact .inl h
 ·rintro (rfl | ⟨p, ⟨hp, h⟩, rfl⟩)
  ·obtain ⟨p, hp, rfl⟩ := List.mem_map.1 hj
   exact ⟨p, ⟨hp, .inr rfl⟩, rfl⟩
  ·exact ⟨p, ⟨hp, .inl h⟩, rfl⟩
theorem vfm {m : Nat → Bool} : ∀ p ∈ A.filter (fun p => m p.1), p ∈ A := fun p hp => (List.mem_filter.1 hp).1
theorem b5Y (h : VOk P all nt A σ) {m : Nat → Bool} {j : Nat} (hj : j ∈ nos A) (hm : m j = false) {L : Lyt} {a : Act} {w wb : World} (hr : Rel P C nt L (σ.adds (A.filter fun p => m p.1)) a w) (hs : SW wb w) (hB : ∀ i ∈ oB, L.bb i < wb.heap.size) (hK : ∀ k ∈ oK, ∀ b ∈ L.fp k, b < wb.heap.size)
  (hob : (oB.all fun i => (look σ.bx i).isSome) = true) (hok : (oK.all fun k => (lkk σ k).isSome) = true) (K : Act → World → Prop) (Q' : Exit → Act → World → Prop)
  (hk : ∀ L' a' w', Rel P C nt L' (σ.adds (A.filter fun p => m p.1 || p.1 == j)) a' w' → SW wb w' → (∀ i ∈ oB, L'.bb i < wb.heap.size) → (∀ k ∈ oK, ∀ b ∈ L'.fp k, b < wb.heap.size) → K a' w') : ∃ oj, all[j]? = some oj ∧ oj.guard = none ∧ oj.wp P a w K Q' := by
 obtain ⟨p, hp, rfl⟩ := List.mem_map.1 hj
 obtain ⟨oj, h1, h2, h3, h4⟩ := h.op p hp
 obtain ⟨T, sz, by_, hT, ht⟩ := h.ty p hp
 refine ⟨oj, h1, h2, ?_⟩
 have hout : ∀ q ∈ A.filter (fun p => m p.1), q.2.1 ≠ p.2.1 := fun q hq e => by
  obtain ⟨hq1, hq2⟩ := List.mem_filter.1 hq
  have : q = p := by
   have key : ∀ {l : a1P}, (l.map fun p => p.2.1).Nodup → q ∈ l → p ∈ l → q = p := by
    intro l
    induction l with
    | nil => intro _ h; simp at h
    | cons x l ih =>
     intro hn h1 h2
     simp only [List.map_cons, List.nodup_cons] at hn
     rcases List.mem_cons.1 h1 with e1 | e1 <;> rcases List.mem_cons.1 h2 with e2 | e2
     ·rw [e1, e2]
     ·exact absurd (List.mem_map.2 ⟨p, e2, by rw [← e, e1]⟩ : x.2.1 ∈ l.map fun p => p.2.1) hn.1
     ·exact absurd (List.mem_map.2 ⟨q, e1, by rw [e, e2]⟩ : x.2.1 ∈ l.map fun p => p.2.1) hn.1
     ·exact ih hn.2 e1 e2
   exact key h.nd hq1 hp
  subst this
  rw [hm] at hq2; cases hq2
 have hbn : look (σ.adds (A.filter fun p => m p.1)).bx p.2.1 = none := by
  rw [b1m, b1T hout, Option.none_or]; exact h.bn p hp
 have hef := b3W (P := P) (C := C) (nt := nt) (σ := σ.adds (A.filter fun p => m p.1)) hT h4 h3 (by simpa [Nat.blt_eq] using h.lt p hp) ht hbn
 refine hef.run L a w hr K Q' fun L' σ' a' w' e h5 h6 => hk L' a' w' ?_ (hs.chg h6.chg) (fun i hi => ?_) (fun k hk' => ?_)
 ·subst e
  have hmm : ∀ q ∈ A.filter (fun q => m q.1 || q.1 == p.1), q ∈ A.filter (fun q => m q.1) ∨ q = p := fun q hq => by
   obtain ⟨hq1, hq2⟩ := List.mem_filter.1 hq
   simp only [Bool.or_eq_true, beq_iff_eq] at hq2
   rcases hq2 with hq2 | hq2
   ·exact .inl (List.mem_filter.2 ⟨hq1, hq2⟩)
   ·right
    have key : ∀ {l : a1P}, (nos l).Nodup → q ∈ l → p ∈ l → q = p := by
     intro l
     induction l with
     | nil => intro _ h; simp at h
     | cons x l ih =>
      intro hn h1 h2
      simp only [List.map_cons, List.nodup_cons] at hn
      rcases List.mem_cons.1 h1 with e1 | e1 <;> rcases List.mem_cons.1 h2 with e2 | e2
      ·rw [e1, e2]
      ·exact absurd (List.mem_map.2 ⟨p, e2, by rw [← hq2, e1]⟩ : x.1 ∈ nos l) hn.1
      ·exact absurd (List.mem_map.2 ⟨q, e1, by rw [hq2, e2]⟩ : x.1 ∈ nos l) hn.1
      ·exact ih hn.2 e1 e2
    exact key h.ni hq1 hp
  refine h5.sub' (fun i u hu => ?_) (fun i x hx => ?_) (fun k c hc => hc) (h.okA fun p hp => (List.mem_filter.1 hp).1)
  ·simp only [St.put, a0U]
   rw [b3I] at hu ⊢
   split at hu
   ·rename_i hc
    simp only [List.contains_iff_mem, List.mem_map] at hc
    obtain ⟨q, hq, rfl⟩ := hc
    rcases hmm q hq with hq | rfl
    ·rw [if_neg (hout q hq), if_pos (by simp only [List.contains_iff_mem, List.mem_map]; exact ⟨q, hq, rfl⟩)]
     exact hu
    ·rw [if_pos rfl]; exact hu
   ·rename_i hc
    split
    ·rename_i e; rw [e, h.tn p hp] at hu; cases hu
    ·split
     ·rename_i h7
      exfalso
      apply hc
      simp only [List.contains_iff_mem, List.mem_map] at h7 ⊢
      obtain ⟨q, hq, e⟩ := h7
      obtain ⟨hq1, hq2⟩ := List.mem_filter.1 hq
      exact ⟨q, List.mem_filter.2 ⟨hq1, by simp [hq2]⟩, e⟩
     ·exact hu
  ·simp only [St.put, a0U]
   rw [b1m] at hx ⊢
   have hnd' : ((A.filter fun q => m q.1 || q.1 == p.1).map fun p => p.2.1).Nodup := (List.Sublist.map _ List.filter_sublist).nodup h.nd
   have hnd2 : ((A.filter fun q => m q.1).map fun p => p.2.1).Nodup := (List.Sublist.map _ List.filter_sublist).nodup h.nd
   by_cases hq : ∃ q ∈ A.filter (fun q => m q.1 || q.1 == p.1), q.2.1 = i
   ·obtain ⟨q, hq, rfl⟩ := hq
    rw [b9u hnd' hq, Option.some_or] at hx
    rcases hmm q hq with hq | rfl
    ·rw [if_neg (hout q hq), b9u hnd2 hq, Option.some_or]; exact hx
    ·rw [if_pos rfl]; exact hx
   ·rw [b1T (fun q hq' e => hq ⟨q, hq', e⟩), Option.none_or] at hx
    split
    ·rename_i e; rw [e, h.bn p hp] at hx; cases hx
    ·rw [b1T (fun q hq' e => hq ⟨q, List.mem_filter.2 ⟨(List.mem_filter.1 hq').1, by simp [(List.mem_filter.1 hq').2]⟩, e⟩), Option.none_or]
     exact hx
 ·obtain ⟨x, hx⟩ := Option.isSome_iff_exists.1 (List.all_eq_true.1 hob i hi)
  rw [h6.box i x (h.bxE vfm i x hx)]; exact hB i hi
 ·obtain ⟨c, hc⟩ := Option.isSome_iff_exists.1 (List.all_eq_true.1 hok k hk')
  rw [h6.key k c hc]; exact hK k hk'
theorem b1W {ops : Array Oper} {Q' : Exit → Act → World → Prop} {i : Nat} {oi : Oper} {K : Act → World → Prop} {a : Act} {w : World} (hi : ops[i]? = some oi) (hg : oi.guard = none) (h : oi.wp P a w K Q') : wpOp P ops Q' i K a w := by
 unfold wpOp
 simp only [hi]
 have hw : Region.wanted oi (yielded ops a.tmps) = true := by simp [Region.wanted, hg]
 rw [if_pos hw]
 exact .inl h
theorem c6q (A : a1P) (h : OpsA P C nt Q all oB oK hd' A listed fuel σ) : OpsD P C nt Q all oB oK hd' listed (fuel + A.length) σ := ⟨fun wb L a w hr hs hw hB hK => by
 have e1 : A.filter (fun p => (fun _ : Nat => false) p.1) = [] := by rw [List.filter_eq_nil_iff]; simp
 have e2 : A.filter (fun p => !(fun _ : Nat => false) p.1) = A := by rw [List.filter_eq_self]; simp
 have := h.run (fun _ => false) wb L a w (by rw [e1]; exact hr) hs hw hB hK
 rw [e1, e2] at this
 exact this⟩
theorem c3o (hv : VOk P all nt A σ) (hob : (oB.all fun i => (look σ.bx i).isSome) = true) (hok : (oK.all fun k => (lkk σ k).isSome) = true) (hr0 : c0v all listed A = true) (h : OpsD P C nt Q all oB oK hd' (a2x listed (nos A)) fuel (σ.adds A)) : OpsA P C nt Q all oB oK hd' A listed fuel σ := by
 refine ⟨fun m => ?_⟩
 obtain ⟨n, hn⟩ : ∃ n, n = (A.filter fun p => !m p.1).length := ⟨_, rfl⟩
 induction n generalizing m with
 | zero =>
  intro wb L a w hr hs hw hB hK
  have hall : A.filter (fun p => m p.1) = A := by
   rw [List.filter_eq_self]
   intro p hp
   cases hm : m p.1 with
   | true => rfl
   | false =>
    have : p ∈ A.filter fun p => !m p.1 := List.mem_filter.2 ⟨hp, by simp [hm]⟩
    rw [List.eq_nil_of_length_eq_zero hn.symm] at this
    simp at this
  rw [← hn, hall]
  rw [hall] at hr
  exact h.run wb L a w hr hs hw hB hK
 | succ n ih =>
  intro wb L a w hr hs hw hB hK
  have h1 := List.all_eq_true.1 hr0 _ (a9N m)
  rw [← hn]
  simp only [Bool.or_eq_true, beq_iff_eq, Bool.and_eq_true, Bool.not_eq_true', List.all_eq_true] at h1
  rcases h1 with h1 | ⟨h1, h2⟩
  ·exfalso
   have : A.filter (fun p => m p.1) = A := List.Sublist.eq_of_length List.filter_sublist h1
   rw [List.filter_eq_self] at this
   have h3 : (A.filter fun p => !m p.1) = [] := by rw [List.filter_eq_nil_iff]; intro p hp; simp [this p hp]
   rw [h3] at hn; simp at hn
  ·refine ⟨fun e => (by rw [e] at h1; simp at h1), fun j hj => ?_⟩
   obtain ⟨g1, g2⟩ := h2 j hj
   have hjA : j ∈ nos A := by simpa using g1
   have hmj := b3c g1 g2
   have hlen := b2v hv.ni hjA hmj
   obtain ⟨oj, k1, k2, k3⟩ := b5Y (Q' := QQ P C nt Q) (K := fun a' w' => (hd' j = true → SW wb w') ∧ a2u P .any all (QQ P C nt Q) (SW wb) hd' (fuel + n) ((a2x listed (nos (A.filter fun p => m p.1))).setIfInBounds j true) a' w') hv hjA hmj hr hs hB hK hob hok
    (fun L' a' w' q1 q2 q3 q4 => ⟨fun _ => q2, by
     have := ih (fun i => m i || i == j) (by omega) wb L' a' w' q1 q2 hw q3 q4
     rw [b8N hjA] at this
     rw [show n = (A.filter fun p => !(m p.1 || p.1 == j)).length by omega]
     exact this⟩)
   exact b1W k1 k2 k3
theorem b4i (i : Nat) (hi : all[i]? = some o) (hg : o.guard = none) (hv : VOk P all nt A σ) (hiA : (nos A).contains i = false) (hob : (oB.all fun i => (look σ.bx i).isSome) = true) (hok : (oK.all fun k => (lkk σ k).isSome) = true) (hr0 : b0O all listed A i = true)
  (hp : ∀ B : a1P, (∀ p ∈ B, p ∈ A) → EfG P C nt o (σ.adds B) (fun σ' => σ' = σ₁.adds B ∨ ∀ L a w, Rel P C nt L σ' a w → Rel P C nt L (σ₁.adds B) a w)) (h : OpsA P C nt Q all oB oK hd' A (listed.setIfInBounds i true) fuel σ₁) : OpsA P C nt Q all oB oK hd' A listed (fuel + 1) σ := by
 refine ⟨fun m => ?_⟩
 obtain ⟨n, hn⟩ : ∃ n, n = (A.filter fun p => !m p.1).length := ⟨_, rfl⟩
 induction n generalizing m with
 | zero =>
  intro wb L a w hr hs hw hB hK
  have h1 := List.all_eq_true.1 hr0 _ (a9N m)
  simp only [Bool.and_eq_true, List.all_eq_true, Bool.or_eq_true, beq_iff_eq, Bool.not_eq_true'] at h1
  rw [← hn]
  refine ⟨fun e => (by rw [e] at h1; simp at h1), fun j hj => ?_⟩
  rcases h1.2 j hj with rfl | ⟨g1, g2⟩
  ·refine b1W hi hg ((hp _ vfm).run L a w hr _ _ fun L' σ' a' w' e h5 h6 => ⟨fun _ => hs.chg h6.chg, ?_⟩)
   have h7 : Rel P C nt L' (σ₁.adds (A.filter fun p => m p.1)) a' w' := by
    rcases e with e | e
    ·rw [← e]; exact h5
    ·exact e _ _ _ h5
   have := h.run m wb L' a' w' h7 (hs.chg h6.chg) hw (fun i hi => by
    obtain ⟨x, hx⟩ := Option.isSome_iff_exists.1 (List.all_eq_true.1 hob i hi)
    rw [h6.box i x (hv.bxE vfm i x hx)]; exact hB i hi) (fun k hk' => by
    obtain ⟨c, hc⟩ := Option.isSome_iff_exists.1 (List.all_eq_true.1 hok k hk')
    rw [h6.key k c hc]; exact hK k hk')
   rw [← hn, a9b (fun hm => by
    obtain ⟨p, hp', e⟩ := List.mem_map.1 hm
    have : (nos A).contains j = true := by simp only [List.contains_iff_mem, List.mem_map]; exact ⟨p, vfm p hp', e⟩
    rw [this] at hiA; cases hiA)] at this
   exact this
  ·exfalso
   have hmj := b3c g1 g2
   obtain ⟨p, hp', rfl⟩ := List.mem_map.1 (by simpa using g1 : j ∈ nos A)
   have : p ∈ A.filter fun p => !m p.1 := List.mem_filter.2 ⟨hp', by simp [hmj]⟩
   rw [List.eq_nil_of_length_eq_zero hn.symm] at this
   simp at this
 | succ n ih =>
  intro wb L a w hr hs hw hB hK
  have h1 := List.all_eq_true.1 hr0 _ (a9N m)
  simp only [Bool.and_eq_true, List.all_eq_true, Bool.or_eq_true, beq_iff_eq, Bool.not_eq_true'] at h1
  rw [← hn]
  refine ⟨fun e => (by rw [e] at h1; simp at h1), fun j hj => ?_⟩
  rcases h1.2 j hj with rfl | ⟨g1, g2⟩
  ·refine b1W hi hg ((hp _ vfm).run L a w hr _ _ fun L' σ' a' w' e h5 h6 => ⟨fun _ => hs.chg h6.chg, ?_⟩)
   have h7 : Rel P C nt L' (σ₁.adds (A.filter fun p => m p.1)) a' w' := by
    rcases e with e | e
    ·rw [← e]; exact h5
    ·exact e _ _ _ h5
   have := h.run m wb L' a' w' h7 (hs.chg h6.chg) hw (fun i hi => by
    obtain ⟨x, hx⟩ := Option.isSome_iff_exists.1 (List.all_eq_true.1 hob i hi)
    rw [h6.box i x (hv.bxE vfm i x hx)]; exact hB i hi) (fun k hk' => by
    obtain ⟨c, hc⟩ := Option.isSome_iff_exists.1 (List.all_eq_true.1 hok k hk')
    rw [h6.key k c hc]; exact hK k hk')
   rw [← hn, a9b (fun hm => by
    obtain ⟨p, hp', e⟩ := List.mem_map.1 hm
    have : (nos A).contains j = true := by simp only [List.contains_iff_mem, List.mem_map]; exact ⟨p, vfm p hp', e⟩
    rw [this] at hiA; cases hiA)] at this
   rw [show fuel + (n + 1) = fuel + 1 + n by omega] at this
   exact this
  ·have hjA : j ∈ nos A := by simpa using g1
   have hmj := b3c g1 g2
   have hlen := b2v hv.ni hjA hmj
   obtain ⟨oj, k1, k2, k3⟩ := b5Y (Q' := QQ P C nt Q) (K := fun a' w' => (hd' j = true → SW wb w') ∧ a2u P .any all (QQ P C nt Q) (SW wb) hd' (fuel + 1 + n) ((a2x listed (nos (A.filter fun p => m p.1))).setIfInBounds j true) a' w') hv hjA hmj hr hs hB hK hob hok
    (fun L' a' w' q1 q2 q3 q4 => ⟨fun _ => q2, by
     have := ih (fun i => m i || i == j) (by omega) wb L' a' w' q1 q2 hw q3 q4
     rw [b8N hjA] at this
     rw [show n = (A.filter fun p => !(m p.1 || p.1 == j)).length by omega]
     exact this⟩)
   exact b1W k1 k2 k3
theorem VOk.perm {tm : List (Nat × SV)} {bx : List (Nat × TypeId × List CV)} {ks : List (Nat × Option KC)} (hv : VOk P all nt A ⟨(d, v) :: tm, bx, ks⟩) {B : a1P} (hB : ∀ p ∈ B, p ∈ A) {C : Ctx} {L : Lyt} {a : Act} {w : World} (hr : Rel P C nt L ⟨(d, v) :: a3K B tm, a3G B bx, ks⟩ a w) : Rel P C nt L (St.adds ⟨(d, v) :: tm, bx, ks⟩ B) a w :=
 hr.sub' (fun i u hu => by
  simp only [a0U]
  rw [b3I] at hu ⊢
  split at hu
  ·rename_i hc
   have hne : i ≠ d := by
    rintro rfl
    simp only [List.contains_iff_mem, List.mem_map] at hc
    obtain ⟨q, hq, rfl⟩ := hc
    have := hv.tn q (hB q hq)
    rw [a0U, if_pos rfl] at this
    cases this
   rw [if_neg hne, if_pos hc]; exact hu
  ·rename_i hc
   simp only [a0U] at hu
   split at hu
   ·rename_i e; rw [if_pos e]; exact hu
   ·rename_i e; rw [if_neg e, if_neg hc]; exact hu) (fun _ _ h => h) (fun _ _ h => h) (hv.okA hB)
def b7R (all : Array Oper) (nt : Nat) (A : a1P) (tms bxs : List Nat) : Bool :=
 (A.all fun p => (match all[p.1]? with
  | some o => o.guard.isNone && o.dst == some p.2.1 && (match o.op with | .alloc t => t == p.2.2.1 | _ => false)
  | none => false) && Nat.blt p.2.1 nt && !(tms.contains p.2.1) && !(bxs.contains p.2.1)) && a7v (A.map fun p => p.2.1) && a7v (nos A)
def a9C (T : TT) : a1P → Prop
 | [] => True
 | p :: A => (∃ sz by_, look T.el p.2.2.1 = some (sz, by_, p.2.2.2)) ∧ p.2.2.2.flatMap CV.keys = [] ∧ a9C T A
theorem a9C.mem {T : TT} : ∀ {A : a1P}, a9C T A → ∀ p ∈ A, (∃ sz by_, look T.el p.2.2.1 = some (sz, by_, p.2.2.2)) ∧ p.2.2.2.flatMap CV.keys = []
 | [], _, p, hp => by simp at hp
 | q :: A, h, p, hp => by
  rcases List.mem_cons.1 hp with rfl | hp
  ·exact ⟨h.1, h.2.1⟩
  ·exact h.2.2.mem p hp
theorem b3t {α : Type} : ∀ {l : List (Nat × α)} {j : Nat}, (l.map fun p => p.1).contains j = false → look l j = none
 | [], _, _ => by simp [look]
 | p :: l, j, h => by
  simp only [List.map_cons, List.contains_cons, Bool.or_eq_false_iff] at h
  obtain ⟨k, x⟩ := p
  rw [a0U, if_neg (by simpa using h.1)]
  exact b3t h.2
theorem vok {T : TT} (hT : TTOk P T) (ht : a9C T A) (hb : b7R all nt A (σ.tm.map fun p => p.1) (σ.bx.map fun p => p.1) = true) (ho : σ.okB = true) : VOk P all nt A σ := by
 simp only [b7R, Bool.and_eq_true, List.all_eq_true, Bool.not_eq_true'] at hb
 obtain ⟨⟨h1, h2⟩, h3⟩ := hb
 refine ⟨fun p hp => ?_, fun p hp => ?_, fun p hp => by have := (h1 p hp).1.1.2; simpa [Nat.blt_eq] using this, fun p hp => (ht.mem p hp).2, fun p hp => b3t (h1 p hp).2, fun p hp => b3t (h1 p hp).1.2, a9S h2, a9S h3, ho⟩
 ·have := (h1 p hp).1.1.1
  split at this
  ·rename_i oj hoj
   simp only [Bool.and_eq_true, beq_iff_eq, Option.isNone_iff_eq_none] at this
   refine ⟨oj, hoj, this.1.1, this.1.2, ?_⟩
   have h4 := this.2
   split at h4
   ·rename_i t e; rw [e]; rw [beq_iff_eq] at h4; rw [h4]
   ·cases h4
  ·cases this
 ·obtain ⟨⟨sz, by_, h⟩, _⟩ := ht.mem p hp
  exact ⟨T, sz, by_, hT, h⟩
/-! the steps, over states that are written out -/
section
variable {tm : List (Nat × SV)} {bx : List (Nat × TypeId × List CV)} {ks : List (Nat × Option KC)}
theorem a8D {T : TT} {A : a1P} (hT : TTOk P T) (ht : a9C T A) (h : OpsA P C nt Q all oB oK hd' A listed fuel ⟨tm, bx, ks⟩) : OpsD P C nt Q all oB oK hd' listed (fuel + A.length) ⟨tm, bx, ks⟩ := c6q A h
theorem a8v (hv : VOk P all nt A ⟨tm, bx, ks⟩) (hob : (oB.all fun i => (look bx i).isSome) = true) (hok : (oK.all fun k => (lkk ⟨tm, bx, ks⟩ k).isSome) = true) (hr0 : c0v all listed A = true) (h : OpsD P C nt Q all oB oK hd' (a2x listed (nos A)) fuel ⟨a3K A tm, a3G A bx, ks⟩) : OpsA P C nt Q all oB oK hd' A listed fuel ⟨tm, bx, ks⟩ := c3o hv hob hok hr0 h
theorem a8c (i : Nat) (hi : all[i]? = some o) (ht : c3h hd' all listed A i = true) (hiA : (nos A).contains i = false) (hg : o.guard = none) (hd : o.dst = some d) (hv : VOk P all nt A ⟨tm, bx, ks⟩) (hv1 : VOk P all nt A ⟨(d, v) :: tm, bx, ks⟩) (hp : Pu P C nt o ⟨tm, bx, ks⟩ v Ks Bs) (h1 : (Ks.all fun k => oK.contains k) = true) (h2 : (Bs.all fun k => oB.contains k) = true) (hn : Nat.blt d nt = true) (hk : a1v ⟨tm, bx, ks⟩ v = true)
  (h : OpsA P C nt Q all oB oK hd' A (listed.setIfInBounds i true) fuel ⟨(d, v) :: tm, bx, ks⟩) : OpsA P C nt Q all oB oK hd' A listed (fuel + 1) ⟨tm, bx, ks⟩ := ⟨fun m wb L a w hr hs hw hB hK => by
 have hx := hv.ext (C := C) (B := A.filter fun p => m p.1) vfm
 obtain ⟨r, h3, h4⟩ := b0L hr hs hw hB hK (hx.pu hp) h1 h2
 rw [show fuel + 1 + (A.filter fun p => !m p.1).length = fuel + (A.filter fun p => !m p.1).length + 1 by omega]
 refine a7g i (v := r) hi (List.all_eq_true.1 ht _ (a9N m)) (fun _ _ _ h => h) hs (.inl ⟨by simp [Region.wanted, hg], h4⟩) ?_
 rw [hd, ← a9b (fun hm => by
  obtain ⟨p, hp', e⟩ := List.mem_map.1 hm
  have : (nos A).contains i = true := by simp only [List.contains_iff_mem, List.mem_map]; exact ⟨p, vfm p hp', e⟩
  rw [this] at hiA; cases hiA)]
 refine h.run m wb L _ w (hv1.perm vfm ?_) hs hw hB hK
 refine hr.put (by simpa [Nat.blt_eq] using hn) h3 (a2d hk).1 fun b hb => ?_
 obtain ⟨x, hx'⟩ := Option.isSome_iff_exists.1 ((a2d hk).2 b hb)
 rw [hx.bx b x hx']; rfl⟩
theorem a3E (i : Nat) (hi : all[i]? = some o) (ht : c3n hd' all listed A i = true) (hex : a8k o = true) (hiA : (nos A).contains i = false) (hg : o.guard = none) (hd : o.dst = some d) (hv : VOk P all nt A ⟨tm, bx, ks⟩) (hv1 : VOk P all nt A ⟨(d, v) :: tm, bx, ks⟩) (hp : Pu P C nt o ⟨tm, bx, ks⟩ v Ks Bs) (hn : Nat.blt d nt = true) (hk : a1v ⟨tm, bx, ks⟩ v = true)
  (h : OpsA P C nt Q all oB oK hd' A (listed.setIfInBounds i true) fuel ⟨(d, v) :: tm, bx, ks⟩) : OpsA P C nt Q all oB oK hd' A listed (fuel + 1) ⟨tm, bx, ks⟩ := ⟨fun m wb L a w hr hs hw hB hK => by
 have hx := hv.ext (C := C) (B := A.filter fun p => m p.1) vfm
 obtain ⟨r, h3, h4⟩ := (hx.pu hp).run L a w hr
 rw [show fuel + 1 + (A.filter fun p => !m p.1).length = fuel + (A.filter fun p => !m p.1).length + 1 by omega]
 refine b7S i (v := r) hi (List.all_eq_true.1 ht _ (a9N m)) (fun _ _ _ h => h) (.inl ⟨by simp [Region.wanted, hg], fun w' _ => b8v hex (h4 w fun _ _ _ => rfl) w'⟩) ?_
 rw [hd, ← a9b (fun hm => by
  obtain ⟨p, hp', e⟩ := List.mem_map.1 hm
  have : (nos A).contains i = true := by simp only [List.contains_iff_mem, List.mem_map]; exact ⟨p, vfm p hp', e⟩
  rw [this] at hiA; cases hiA)]
 refine h.run m wb L _ w (hv1.perm vfm ?_) hs hw hB hK
 refine hr.put (by simpa [Nat.blt_eq] using hn) h3 (a2d hk).1 fun b hb => ?_
 obtain ⟨x, hx'⟩ := Option.isSome_iff_exists.1 ((a2d hk).2 b hb)
 rw [hx.bx b x hx']; rfl⟩
theorem b3z (m i : Nat) {f : FuncId} {xs : List Operand} {ats : Array TypeId} {us : List SV} {kk : List (Nat × Option KC)} (hi : all[i]? = some o) (ht : b0O all listed A i = true) (hiA : (nos A).contains i = false) (hg : o.guard = none) (hd : o.dst = some d) (hv : VOk P all nt A ⟨tm, bx, ks⟩) (hv1 : VOk P all nt A ⟨(d, v.sh m) :: tm, bx, shK m kk ++ ks⟩) (ho : o.op = .call { callee := .value (.func f), args := xs.toArray, argTypes := ats })
  (hc : ∀ (args : Array Value) (w : World), (callFunc f args).run P w = .ok (.enter f args) w) (hf : KFn P f us v kk) (ha : a2i P C nt ⟨tm, bx, ks⟩ xs us) (hn : Nat.blt d nt = true) (hres : v.retOk = true) (hfree : (kk.all fun q => (lkk ⟨tm, bx, ks⟩ (m + q.1)).isNone) = true)
  (hb : (oB.all fun i => (look bx i).isSome) = true) (hk : (oK.all fun k => (lkk ⟨tm, bx, ks⟩ k).isSome) = true)
  (h : OpsA P C nt Q all oB oK hd' A (listed.setIfInBounds i true) fuel ⟨(d, v.sh m) :: tm, bx, shK m kk ++ ks⟩) : OpsA P C nt Q all oB oK hd' A listed (fuel + 1) ⟨tm, bx, ks⟩ :=
 b4i i hi hg hv hiA hb hk ht (fun B hB => EfG.mk fun L a w hr K Q' hk' =>
  (a9e (σ := St.adds ⟨tm, bx, ks⟩ B) (ι := Unit) (v := fun _ => v) (kk := fun _ => kk) (p := fun _ => True) m ho hd hn hc hf.ok ((hv.ext hB).args ha) (fun u σ' h => ⟨(), h.1, h.2, trivial⟩) (fun _ => hres) (fun _ => hfree)).run L a w hr K Q' fun L' σ' a' w' h1 h2 h3 => hk' L' σ' a' w' (.inr (by
   obtain ⟨_, _, e⟩ := h1
   subst e
   exact fun L a w hr => hv1.perm hB hr)) h2 h3) h
theorem b6C (i : Nat) {f : FuncId} {xs : List Operand} {ats : Array TypeId} {us : List SV} (hi : all[i]? = some o) (ht : b0O all listed A i = true) (hiA : (nos A).contains i = false) (hg : o.guard = none) (hd : o.dst = some d) (hv : VOk P all nt A ⟨tm, bx, ks⟩) (hv1 : VOk P all nt A ⟨(d, X) :: tm, bx, ks⟩) (ho : o.op = .call { callee := .value (.func f), args := xs.toArray, argTypes := ats })
  (hc : ∀ (args : Array Value) (w : World), (callFunc f args).run P w = .ok (.enter f args) w) (hf : PFn P f us X) (ha : a2i P C nt ⟨tm, bx, ks⟩ xs us) (hp : X.plain = true) (hn : Nat.blt d nt = true)
  (hb : (oB.all fun i => (look bx i).isSome) = true) (hk : (oK.all fun k => (lkk ⟨tm, bx, ks⟩ k).isSome) = true)
  (h : OpsA P C nt Q all oB oK hd' A (listed.setIfInBounds i true) fuel ⟨(d, X) :: tm, bx, ks⟩) : OpsA P C nt Q all oB oK hd' A listed (fuel + 1) ⟨tm, bx, ks⟩ :=
 b4i i hi hg hv hiA hb hk ht (fun B hB => EfG.mk fun L a w hr K Q' hk' =>
  ((a8l ho hc hf hp ((hv.ext hB).args ha)).efg (σ := St.adds ⟨tm, bx, ks⟩ B) hd hn).run L a w hr K Q' fun L' σ' a' w' h1 h2 h3 => hk' L' σ' a' w' (.inr (by
   obtain ⟨u, hu, e⟩ := h1
   subst e
   subst hu
   exact fun L a w hr => hv1.perm hB hr)) h2 h3) h
end
end
open Go.Proofs
def a4v : TT where
 sl := [(22, 103), (23, 105), (26, 5), (30, 67), (31, 97), (47, 26), (50, 80), (53, 3), (65, 107), (76, 128), (101, 164), (160, 191)]
 ag := [(7, 4), (13, 2), (24, 4), (25, 4), (27, 6), (28, 6), (32, 4), (33, 4), (36, 6), (37, 6), (66, 3), (67, 3), (74, 3), (75, 3), (77, 1), (78, 1), (79, 7), (80, 7), (89, 4), (96, 2), (97, 2), (102, 3), (103, 3), (105, 2), (106, 4), (107, 4), (127, 2), (128, 2), (148, 8), (149, 8), (159, 3), (161, 1), (162, 1), (163, 4), (164, 4), (191, 2)]
 on := [(2, ()), (3, ()), (4, ()), (5, ()), (9, ()), (12, ()), (21, ()), (22, ()), (23, ()), (26, ()), (30, ()), (31, ()), (47, ()), (50, ()), (53, ()), (65, ()), (76, ()), (101, ()), (126, ()), (160, ()), (202, ())]
 of := [(7000, 0), (7001, 1), (7002, 2), (7003, 3), (13000, 0), (13001, 1), (24000, 0), (24001, 1), (24002, 2), (24003, 3), (25000, 0), (25001, 1), (25002, 2), (25003, 3), (27000, 0), (27001, 4), (27002, 5), (28000, 0), (28001, 4), (28002, 5), (32000, 0), (32001, 1), (32002, 2), (32003, 3), (33000, 0), (33001, 1), (33002, 2), (33003, 3), (36000, 0), (36001, 4), (36002, 5), (37000, 0), (37001, 4), (37002, 5), (66000, 0), (66001, 1), (66002, 2), (67000, 0), (67001, 1), (67002, 2), (74000, 0), (74001, 1), (74002, 2), (75000, 0), (75001, 1), (75002, 2), (77000, 0), (78000, 0), (79000, 0), (79001, 1), (79002, 2), (79003, 5), (79004, 6), (80000, 0), (80001, 1), (80002, 2), (80003, 5), (80004, 6), (96000, 0), (96001, 1), (97000, 0), (97001, 1), (102000, 0), (102001, 1), (102002, 2), (103000, 0), (103001, 1), (103002, 2), (105000, 0), (105001, 1), (106000, 0), (106001, 3), (107000, 0), (107001, 3), (127000, 0), (127001, 1), (128000, 0), (128001, 1), (148000, 0), (148001, 1), (148002, 2), (148003, 5), (149000, 0), (149001, 1), (149002, 2), (149003, 5), (159000, 0), (159001, 1), (159002, 2), (161000, 0), (162000, 0), (163000, 0), (163001, 3), (164000, 0), (164001, 3), (191000, 0), (191001, 1)]
 el := [(2, (1, 8, [.dv [] (.int .i64 0)])), (3, (1, 8, [.dv [] (.int .i64 0)])), (4, (1, 1, [.dv [] (.bool false)])), (5, (1, 1, [.dv [] (.int .u8 0)])), (7, (4, 24, [.dv [] (.int .i64 0), .dv [] (.int .i64 0), .dv [] (.bool false), .dv [] (.int .u8 0)])), (9, (1, 16, [.dv [] (.str ByteArray.empty)])), (12, (1, 8, [.dv [] (.int .u64 0)])), (13, (2, 24, [.dv [] (.str ByteArray.empty), .dv [] (.int .u64 0)])), (21, (1, 4, [.dv [] (.int .i32 0)])), (22, (1, 24, [.nil])), (23, (1, 24, [.nil])), (24, (4, 72, [.dv [] (.str ByteArray.empty), .dv [] (.int .i64 0), .nil, .nil])), (25, (4, 72, [.dv [] (.str ByteArray.empty), .dv [] (.int .i64 0), .nil, .nil])), (26, (1, 24, [.nil])), (27, (6, 104, [.dv [] (.str ByteArray.empty), .dv [] (.int .i64 0), .nil, .nil, .nil, .dv [] (.int .i64 0)])), (28, (6, 104, [.dv [] (.str ByteArray.empty), .dv [] (.int .i64 0), .nil, .nil, .nil, .dv [] (.int .i64 0)])), (30, (1, 24, [.nil])), (31, (1, 24, [.nil])), (32, (4, 72, [.dv [] (.str ByteArray.empty), .dv [] (.int .i64 0), .nil, .nil])), (33, (4, 72, [.dv [] (.str ByteArray.empty), .dv [] (.int .i64 0), .nil, .nil])), (36, (6, 104, [.dv [] (.str ByteArray.empty), .dv [] (.int .i64 0), .nil, .nil, .nil, .dv [] (.int .i64 0)])), (37, (6, 104, [.dv [] (.str ByteArray.empty), .dv [] (.int .i64 0), .nil, .nil, .nil, .dv [] (.int .i64 0)])), (47, (1, 24, [.nil])), (50, (1, 24, [.nil])), (53, (1, 24, [.nil])), (65, (1, 24, [.nil])), (66, (3, 48, [.dv [] (.str ByteArray.empty), .nil, .dv [] (.int .i64 0)])), (67, (3, 48, [.dv [] (.str ByteArray.empty), .nil, .dv [] (.int .i64 0)])), (74, (3, 32, [.dv [] (.int .i64 0), .dv [] (.int .i64 0), .dv [] (.str ByteArray.empty)])), (75, (3, 32, [.dv [] (.int .i64 0), .dv [] (.int .i64 0), .dv [] (.str ByteArray.empty)])), (76, (1, 24, [.nil])), (77, (1, 24, [.nil])), (78, (1, 24, [.nil])), (79, (7, 96, [.dv [] (.int .i64 0), .dv [] (.str ByteArray.empty), .dv [] (.int .i64 0), .dv [] (.int .i64 0), .dv [] (.str ByteArray.empty), .nil, .dv [] (.str ByteArray.empty)])), (80, (7, 96, [.dv [] (.int .i64 0), .dv [] (.str ByteArray.empty), .dv [] (.int .i64 0), .dv [] (.int .i64 0), .dv [] (.str ByteArray.empty), .nil, .dv [] (.str ByteArray.empty)])), (89, (4, 96, [.nil, .nil, .nil, .nil])), (96, (2, 32, [.dv [] (.str ByteArray.empty), .dv [] (.str ByteArray.empty)])), (97, (2, 32, [.dv [] (.str ByteArray.empty), .dv [] (.str ByteArray.empty)])), (101, (1, 24, [.nil])), (102, (3, 48, [.dv [] (.str ByteArray.empty), .nil, .dv [] (.int .i64 0)])), (103, (3, 48, [.dv [] (.str ByteArray.empty), .nil, .dv [] (.int .i64 0)])), (105, (2, 32, [.dv [] (.str ByteArray.empty), .dv [] (.str ByteArray.empty)])), (106, (4, 56, [.dv [] (.int .i64 0), .dv [] (.int .i64 0), .dv [] (.str ByteArray.empty), .nil])), (107, (4, 56, [.dv [] (.int .i64 0), .dv [] (.int .i64 0), .dv [] (.str ByteArray.empty), .nil])), (126, (1, 8, [.dv [] (.int .u64 0)])), (127, (2, 24, [.dv [] (.str ByteArray.empty), .dv [] (.int .i64 0)])), (128, (2, 24, [.dv [] (.str ByteArray.empty), .dv [] (.int .i64 0)])), (148, (8, 72, [.dv [] (.bool false), .dv [] (.bool false), .dv [] (.int .i64 0), .dv [] (.int .i64 0), .dv [] (.str ByteArray.empty), .dv [] (.int .i64 0), .dv [] (.int .i64 0), .dv [] (.str ByteArray.empty)])), (149, (8, 72, [.dv [] (.bool false), .dv [] (.bool false), .dv [] (.int .i64 0), .dv [] (.int .i64 0), .dv [] (.str ByteArray.empty), .dv [] (.int .i64 0), .dv [] (.int .i64 0), .dv [] (.str ByteArray.empty)])), (159, (3, 32, [.dv [] (.int .i64 0), .dv [] (.int .i64 0), .dv [] (.str ByteArray.empty)])), (160, (1, 24, [.nil])), (161, (1, 24, [.nil])), (162, (1, 24, [.nil])), (163, (4, 56, [.dv [] (.int .i64 0), .dv [] (.int .i64 0), .dv [] (.str ByteArray.empty), .nil])), (164, (4, 56, [.dv [] (.int .i64 0), .dv [] (.int .i64 0), .dv [] (.str ByteArray.empty), .nil])), (191, (2, 24, [.dv [] (.str ByteArray.empty), .dv [] (.int .i64 0)])), (202, (1, 4, [.dv [] (.int .u32 0)]))]
 st := [(9, ())]
 bo := [(4, ())]
 it := [(2, .i64), (3, .i64), (5, .u8), (12, .u64), (21, .i32), (126, .u64), (202, .u32)]
def c7l : List (Nat × List (Nat × Nat)) := [(7, [(0, 1), (1, 1), (2, 1), (3, 1)]), (13, [(0, 1), (1, 1)]), (24, [(0, 1), (1, 1), (2, 1), (3, 1)]), (25, [(0, 1), (1, 1), (2, 1), (3, 1)]), (27, [(0, 4), (4, 1), (5, 1)]), (28, [(0, 4), (4, 1), (5, 1)]), (32, [(0, 1), (1, 1), (2, 1), (3, 1)]), (33, [(0, 1), (1, 1), (2, 1), (3, 1)]), (36, [(0, 4), (4, 1), (5, 1)]), (37, [(0, 4), (4, 1), (5, 1)]), (66, [(0, 1), (1, 1), (2, 1)]), (67, [(0, 1), (1, 1), (2, 1)]), (74, [(0, 1), (1, 1), (2, 1)]), (75, [(0, 1), (1, 1), (2, 1)]), (77, [(0, 1)]), (78, [(0, 1)]), (79, [(0, 1), (1, 1), (2, 3), (5, 1), (6, 1)]), (80, [(0, 1), (1, 1), (2, 3), (5, 1), (6, 1)]), (96, [(0, 1), (1, 1)]), (97, [(0, 1), (1, 1)]), (102, [(0, 1), (1, 1), (2, 1)]), (103, [(0, 1), (1, 1), (2, 1)]), (105, [(0, 1), (1, 1)]), (106, [(0, 3), (3, 1)]), (107, [(0, 3), (3, 1)]), (127, [(0, 1), (1, 1)]), (128, [(0, 1), (1, 1)]), (148, [(0, 1), (1, 1), (2, 3), (5, 3)]), (149, [(0, 1), (1, 1), (2, 3), (5, 3)]), (159, [(0, 1), (1, 1), (2, 1)]), (161, [(0, 1)]), (162, [(0, 1)]), (163, [(0, 3), (3, 1)]), (164, [(0, 3), (3, 1)]), (191, [(0, 1), (1, 1)])]
theorem hT : TTOk Tryz.prog a4v := TT.ok (by kernel_rfl)
theorem hB : BOk Tryz.prog c7l := bOk (by kernel_rfl)
theorem b6H (a : Int) (b : Int) (s : ByteArray) (a' : Int) (b' : Int) (s' : ByteArray) (w : World) : (binOp .eql 75 (.agg [Value.int .i64 a, .int .i64 b, .string s].toArray) (.agg [Value.int .i64 a', .int .i64 b', .string s'].toArray)).run Tryz.prog w = .ok (.bool (((decide (a = a') && (decide (b = b') && sEq s s'))))) w := by
 rw [run_eql_struct]; simp [go_sem, sEq]; by_cases h_a : a = a' <;> by_cases h_b : b = b' <;> by_cases h_s : s.toList = s'.toList <;> simp [h_a, h_b, h_s]
theorem b7e (s : ByteArray) (u : ByteArray) (s' : ByteArray) (u' : ByteArray) (w : World) : (binOp .eql 97 (.agg [Value.string s, .string u].toArray) (.agg [Value.string s', .string u'].toArray)).run Tryz.prog w = .ok (.bool (((sEq s s' && sEq u u')))) w := by
 rw [run_eql_struct]; simp [go_sem, sEq]; by_cases h_s : s.toList = s'.toList <;> by_cases h_u : u.toList = u'.toList <;> simp [h_s, h_u]
@[reducible] def a0V (b : UInt8) : List DV := [.int .u8 (b.toNat : Int)]
@[reducible] def a4b (n : Int) : List DV := [.int .i64 n]
@[reducible] def a7y (s : Str) : List DV := [.str s]
@[reducible] def a0x (bs : List UInt8) : DV := a2H 5 1 a0V bs
@[reducible] def a6d (bs : List Int) : DV := a2H 3 1 a4b bs
@[reducible] def c0o (k : a0S) : List DV := [.int .i64 k.1, .int .i64 k.2.1, .str k.2.2]
@[reducible] def a1d (f : a3c) : List DV := [.str f.1, .int .i64 f.2]
@[reducible] def a0w (r : a0y) : DV := a2H 128 2 a1d r
@[reducible] def a0A (x : a0L) : List DV := [.int .i64 x.1.1, .int .i64 x.1.2.1, .str x.1.2.2, a0w x.2]
abbrev a3S := Bool × Bool × a0S × a0S
@[reducible] def a0n (xs : List a0L) : DV := a2H 107 4 a0A xs
@[reducible] def a1n (s : a0P) : List DV := [.str s.1, a0n s.2.1, .int .i64 s.2.2]
@[reducible] def a0z (xs : List a0P) : DV := a2H 67 3 a1n xs
@[reducible] def a1O (d : a2V) : List DV := [.str d.1, .str d.2]
@[reducible] def a0B (xs : List a2V) : DV := a2H 97 2 a1O xs
@[reducible] def eDb (d : DbT) : List DV := [.str d.1, .int .i64 d.2.1, a0z d.2.2.1, a0B d.2.2.2]
@[reducible] def eOp (o : OpT) : List DV := [.int .i64 o.1, .str o.2.1, .int .i64 o.2.2.1.1, .int .i64 o.2.2.1.2.1, .str o.2.2.1.2.2, a0w o.2.2.2.1, .str o.2.2.2.2]
@[reducible] def a1T (xs : List OpT) : DV := a2H 80 7 eOp xs
section
variable {P : Program}
theorem b7w {ok : Nat → Prop} {w : World} : ∀ {bs : List UInt8} {vs : List Value}, a1g ok w (bs.flatMap fun b => [DV.int .u8 (b.toNat : Int)]) vs → vs = bs.map fun b => Value.int .u8 (b.toNat : Int)
 | [], _, h => by simpa [a1g] using h
 | b :: bs, _, h => by
  simp only [List.flatMap_cons, List.singleton_append, a1g] at h
  obtain ⟨v, vs', rfl, h1, h2⟩ := h
  simp only [Lay] at h1
  rw [h1.1, b7w h2]; rfl
theorem b4K {w : World} {B : Nat} : ∀ bs : List UInt8, a2n (a5u.Rd w B) bs (bs.map fun b => Value.int .u8 (b.toNat : Int))
 | [] => rfl
 | b :: bs => ⟨[_], _, rfl, rfl, b4K bs⟩
theorem c4z {ok : Nat → Prop} {w : World} {e : Nat} {bs : List UInt8} {v : Value} (h : Lay ok w (.sl e 1 bs.length (bs.flatMap fun b => [DV.int .u8 (b.toNat : Int)])) v) : ∃ A c, v = .slice A bs.length c ∧ a2w.Rd w w.heap.size bs [.slice A bs.length c] := by
 simp only [Lay] at h
 obtain ⟨A, c, vs, rfl, h1, h2, h3, h4, h5, h6⟩ := h
 have hvs := b7w h5
 subst hvs
 refine ⟨A, c, rfl, A, c, _, rfl, h1, h2, b4K bs, fun hn => ?_⟩
 obtain ⟨b, off, e1, _, e3⟩ := h6 hn
 exact ⟨b, off, e1, a5e (e3 0 _ (by rw [List.getElem?_map, List.getElem?_eq_getElem hn]; rfl)), e3⟩
theorem b3Y {α : Type} {w : World} {e : Nat} {C' : Cod α} {enc : α → List DV} (he : e < 1000000) (hl : ∀ x, (enc x).length = C'.size) (hx : ∀ x cs f, C'.Own w x cs f → a0I w (enc x) cs f) {xs : List α} {v : Value} {fp : List Nat} (h : (a2Z e C').Own w xs [v] fp) : Own w (.sl e C'.size xs.length (xs.flatMap enc)) v fp := by
 obtain ⟨u, cells, f, h1, h2, h3, h4⟩ := h
 simp only [List.cons.injEq, and_true] at h1
 subst h1
 have key : ∀ (xs : List α) (cs : List Value) (g : List Nat), a1l (C'.Own w) xs cs g → a0I w (xs.flatMap enc) cs g := by
  intro xs
  induction xs with
  | nil => intro cs g h; obtain ⟨rfl, rfl⟩ := h; simp [a0I]
  | cons x xs ih =>
   rintro cs g ⟨c1, c2, f1, f2, rfl, rfl, h1, h2⟩
   rw [List.flatMap_cons]
   exact a3m _ _ _ _ _ _ (hx _ _ _ h1) (ih _ _ h2)
 unfold Own
 exact ⟨_, _, h2, C'.pos, a6W hl xs, a3T he h3, key _ _ _ h4⟩
theorem b0X {w : World} {bs : List UInt8} {v : Value} {fp : List Nat} (h : a2w.Own w bs [v] fp) : Own w (.sl 5 1 bs.length (bs.flatMap fun b => [DV.int .u8 (b.toNat : Int)])) v fp :=
 b3Y (C' := a5u) (by decide) (fun _ => rfl) (fun x cs f h => by
  obtain ⟨rfl, rfl⟩ := h
  have := b1F w [x]
  simpa using this) h
theorem c0u {C : Ctx} {nt : Nat} {L : Lyt} {σ : St} {a : Act} {w : World} (h : Rel P C nt L σ a w) (r : Value) : Rel P C 1 L ⟨[], [], []⟩ ⟨#[r], []⟩ w where
 df := rfl
 sz := rfl
 tm := fun i v hv => by cases hv
 bx := fun i t cs h => by cases h
 ks := fun k c h => by cases h
 b1 := fun i x h => by cases h
 k1 := fun k c h => by cases h
 kn := fun k c h => by cases h
 bb := fun i j x y h => by cases h
 bk := fun i k x c h => by cases h
 kk := fun k j c d h => by cases h
 lk := fun k hk => by simp [St.tk] at hk
 lb := fun b hb => by simp [St.tb] at hb
 s0 := h.s0
 chg := h.chg
theorem c5s {C : Ctx} {nt : Nat} {L : Lyt} {σ : St} {a : Act} {w w' : World} (h : Rel P C nt L σ a w) {e sz m : Nat} {cs : List DV} {v : Value} {fp : List Nat} (r : Value) (ho : Own w' (.sl e sz m cs) v fp) (hf : a3C w.heap.size fp) (hc : Chg [] w w') :
  ∃ L', L'.rv 0 = v ∧ Rel P C 1 L' ⟨[], [], [(0, some (KC.mk false e sz m cs))]⟩ ⟨#[r], []⟩ w' := by
 have h1 := (c0u h r).newkey' hc (k := 0) (c := KC.mk false e sz m cs) (v := v) (f := fp) rfl ho rfl hf.1 hf.2
 exact ⟨_, by simp, h1⟩
theorem c3f (us : List SV) {i : Nat} {v : SV} (h : us[i]? = some v) : look (a2s 0 us) i = some v := by
 have key : ∀ (l : List SV) (j i : Nat), l[i]? = some v → look (a2s j l) (j + i) = some v := by
  intro l
  induction l with
  | nil => intro j i h; simp at h
  | cons u l ih =>
   intro j i h
   simp only [a2s, a0U]
   cases i with
   | zero => simpa using h
   | succ i =>
    rw [if_neg (by omega), show j + (i + 1) = j + 1 + i by omega]
    exact ih (j + 1) i (by simpa using h)
 simpa using key us 0 i h
@[reducible] def a9F (P : Program) (us : List SV) (w : World) (vals : List Value) : Prop := ∃ (C : Ctx) (L : Lyt), ∀ (i : Nat) (v : SV), us[i]? = some v → ∃ x, vals[i]? = some x ∧ SVr P C L w v x
theorem b6X {C : Ctx} {L : Lyt} {w : World} {us : List SV} {vals : List Value} (hl : vals.length = us.length) {bx : List (Nat × TypeId × List CV)} {ks : List (Nat × Option KC)} {nt : Nat} (hr : Rel P C nt L ⟨a2s 0 us, bx, ks⟩ ⟨vals.toArray, []⟩ w) : a9F P us w vals := by
 refine ⟨C, L, fun i v hv => ?_⟩
 have hi : i < vals.length := by rw [hl]; exact (List.getElem?_eq_some_iff.1 hv).1
 refine ⟨vals[i], List.getElem?_eq_getElem hi, ?_⟩
 have h1 := hr.tm i v (c3f us hv)
 have h2 : vals.toArray.getD i undef = vals[i] := by simp [Array.getD_eq_getD_getElem?, List.getElem?_eq_getElem hi]
 simpa only [h2] using h1
def c0D (ts : List (DV × Value)) : Prop := ∀ t ∈ ts, ∀ (ok : Nat → Prop) (w : World), Lay ok w t.1 t.2
theorem b1q {f : FuncId} {us : List SV} {e sz m : Nat} {cs : List DV} {ts : List (DV × Value)} (ht : c0D ts) (h : ∀ (w : World) (vals : List Value), vals.length = us.length → a9F P us w vals →
   Calls P f vals.toArray w fun x w' => ∃ v fp, x = .returned (.tuple (v :: ts.map (·.2)).toArray) ∧ Own w' (.sl e sz m cs) v fp ∧ a3C w.heap.size fp ∧ Chg [] w w') :
  KFn P f us (.tup ((false, [.key 0]) :: ts.map fun t => (false, [CV.dv [] t.1]))) [(0, some (KC.mk false e sz m cs))] := by
 refine ⟨fun w S0 L vals hl hr => ?_⟩
 refine (h w vals hl (b6X hl hr)).mono ?_
 rintro x w' ⟨v, fp, rfl, ho, hf, hc⟩
 obtain ⟨L', h1, h2⟩ := c5s hr (.tuple (v :: ts.map (·.2)).toArray) ho hf hc
 refine ⟨_, .tup ((false, [.key 0]) :: ts.map fun t => (false, [CV.dv [] t.1])), ⟨[], [], _⟩, L', rfl, ⟨rfl, rfl⟩, ?_⟩
 have key : ∀ ts : List (DV × Value), c0D ts → TVL ⟨w, S0, L.rv⟩ L' w' (ts.map fun t => (false, [CV.dv [] t.1])) (ts.map (·.2)) := by
  intro ts
  induction ts with
  | nil => intro _; rfl
  | cons t ts ih =>
   intro ht
   exact ⟨[t.2], t.2, _, rfl, ⟨t.2, [], rfl, ht t (by simp) _ _, rfl⟩, by simp, ih (fun u hu => ht u (by simp [hu]))⟩
 have kk : ∀ ts : List (DV × Value), ((ts.map fun t => (false, [CV.dv [] t.1])).flatMap fun t => t.2.flatMap CV.keys) = [] := by
  intro ts
  induction ts with
  | nil => rfl
  | cons t ts ih => simp only [List.map_cons, List.flatMap_cons, ih]; rfl
 refine h2.also (d := 0) ?_ ?_ (by simp [SV.boxes])
 ·simp only [SVr]
  refine ⟨_, by simp [Array.getD], [v], v, _, rfl, ⟨v, [], rfl, by simp only [CVr]; exact h1.symm, rfl⟩, by simp, key ts ht⟩
 ·intro k hk
  simp only [SV.keys, List.flatMap_cons, kk, CV.keys, List.flatMap_nil, List.append_nil, List.mem_singleton] at hk
  subst hk
  simp [lkk, a0U]
theorem b3p {f : FuncId} {us : List SV} {X : SV} {v : Value} (hX : X.plain = true) (hv : ∀ C L w, SVr P C L w X v) (h : ∀ (w : World) (vals : List Value), vals.length = us.length → a9F P us w vals → Calls P f vals.toArray w (Ret v w)) : PFn P f us X := by
 refine ⟨fun w S0 L vals hl hr => ?_⟩
 refine (h w vals hl (b6X hl hr)).mono ?_
 rintro x w' ⟨rfl, hc⟩
 obtain ⟨p1, p2, p3, p4⟩ := a7U hX
 refine ⟨_, X, ⟨[], [], []⟩, L, rfl, rfl, ?_⟩
 exact ((c0u hr v).grow hc).also (d := 0) (v := X) (by simpa [Array.getD] using hv _ _ _) (by rw [p2]; simp) (by rw [p3]; simp)
end
set_option maxHeartbeats 1000000 in
set_option maxRecDepth 100000 in
theorem c3R (a b : ByteArray) (w : World) :
  Calls Tryz.prog 159 #[.string a, .string b] w fun e w' => e = .returned (.int .i64 (Lib.compareBytes a.data.toList b.data.toList)) ∧ w' = w := by
 go_enter Tryz.func159, Tryz.ntmps159
 go_wp2
 rw [run_callFunc_extern Tryz.func169 (by kernel_rfl) (by kernel_rfl) (by kernel_rfl) (e := Extern.BytealgCompare.compare) (by kernel_rfl), Lib.run_compareString]
 simp only [Result.andThen]
 rw [Oper.upon_value]
 go_wp2
 go_ret
 exact ⟨rfl, rfl⟩
set_option maxHeartbeats 1000000 in
theorem c0T (a b : ByteArray) (w : World) :
  Calls Tryz.prog 143 #[.string a, .string b] w fun e w' => e = .returned (.int .i64 (Lib.compareBytes a.data.toList b.data.toList)) ∧ w' = w := by
 go_enter Tryz.func143, Tryz.ntmps143
 go_wp2_with (go_at_call 159; refine (c3R _ _ _).mono ?_; rintro e w' ⟨rfl, rfl⟩)
 go_ret
 exact ⟨rfl, rfl⟩
def a4x (a b : Str) : Int := if sLt a b then -1 else if sLt b a then 1 else 0
theorem c0C : ∀ x y : List UInt8, Lib.compareBytes x y = if Op.bytesLess x y then -1 else if Op.bytesLess y x then 1 else 0
 | [], [] => rfl
 | [], _ :: _ => rfl
 | _ :: _, [] => rfl
 | a :: x, b :: y => by
  have ih := c0C x y
  have e1 : ∀ a b : UInt8, (a < b) ↔ a.toNat < b.toNat := fun _ _ => Iff.rfl
  simp only [Lib.compareBytes, Op.bytesLess]
  rcases Nat.lt_trichotomy a.toNat b.toNat with h | h | h
  ·simp [(e1 a b).2 h]
  ·have e : a = b := UInt8.toNat_inj.1 h
   subst e
   have : ¬ a < a := by rw [e1]; omega
   simp [this, ih]
  ·have h2 : ¬ a < b := by rw [e1]; omega
   have h3 : ¬ a = b := by rintro rfl; omega
   have h4 : ¬ b = a := fun e => h3 e.symm
   simp [(e1 b a).2 h, h2, h3]
theorem c4N (s : ByteArray) : ∀ (n i : Nat) (r : List UInt8), s.size - i = n → ByteArray.toList.loop s i r = r.reverse ++ s.data.toList.drop i := by
 intro n
 induction n with
 | zero =>
  intro i r h
  rw [ByteArray.toList.loop, if_neg (by omega), List.drop_eq_nil_of_le (by have : s.data.toList.length = s.size := rfl; omega)]; simp
 | succ n ih =>
  intro i r h
  have hl : s.data.toList.length = s.size := rfl
  have hi : i < s.data.toList.length := by omega
  rw [ByteArray.toList.loop, if_pos (by omega), ih (i + 1) _ (by omega), List.drop_eq_getElem_cons hi]
  have : s.get! i = s.data.toList[i] := by
   rw [ByteArray.get!]
   simp only [Array.getElem_toList]
   exact getElem!_pos s.data i (by simpa using hi)
  rw [this]
  simp
theorem b4t (s : ByteArray) : s.toList = s.data.toList := by
 rw [ByteArray.toList, c4N s _ 0 [] rfl]; simp
theorem c6r (a b : ByteArray) : Lib.compareBytes a.data.toList b.data.toList = a4x a b := by
 rw [c0C, a4x, sLt, sLt, b4t, b4t]
theorem c4Z {x y : Str} : PFn Tryz.prog 143 [.one (.dv [] (.str x)), .one (.dv [] (.str y))] (.one (.dv [] (.int .i64 (a4x x y)))) := by
 refine b3p (v := .int .i64 (a4x x y)) rfl (fun C L w => ?_) (fun w vals hl h => ?_)
 ·simp only [SVr, CVr, Lay]
  refine ⟨trivial, ?_⟩
  unfold a4x
  split
  ·exact ⟨by decide, by decide⟩
  ·split <;> exact ⟨by decide, by decide⟩
 ·obtain ⟨C, L, h⟩ := h
  obtain ⟨u, h1, h2⟩ := h 0 _ rfl
  obtain ⟨v, h3, h4⟩ := h 1 _ rfl
  simp only [SVr, CVr, Lay] at h2 h4
  obtain ⟨rfl, _⟩ := h2
  obtain ⟨rfl, _⟩ := h4
  obtain rfl : vals = [.string x, .string y] := by
   match vals, hl with
   | [a, b], _ => simp at h1 h3; rw [h1, h3]
  refine (c0T x y w).mono ?_
  rintro e w' ⟨rfl, rfl⟩
  exact ⟨by rw [c6r], Chg.refl _ _⟩
def b0H (b : UInt8) : Value := .int .u8 (b.toNat : Int)
theorem b9i : (Tryz.prog.info? 5).map (fun i => (i.zero, i.size, i.bytes)) = some (some (.int .u8 0), 1, 1) := by kernel_rfl
theorem b3G {w : World} : ∀ (bs : List UInt8), a1l (a5u.Own w) bs (bs.map b0H) []
 | [] => ⟨rfl, rfl⟩
 | _ :: bs => ⟨_, _, [], [], rfl, rfl, ⟨rfl, rfl⟩, b3G bs⟩
theorem b2n {w : World} {B : Nat} {bs : List UInt8} {A : Option Addr} {n c k : Nat} (h : a2w.Rd w B bs [.slice A n c]) (hk : k < n) :
  ∃ b off v, A = some ⟨b, off, none⟩ ∧ b < B ∧ bs[k]? = some v ∧ w.cell? ⟨b, off + k, none⟩ = some (.int .u8 (v.toNat : Int)) := by
 have hl : k < bs.length := by rw [← a4a h]; exact hk
 obtain ⟨b, off, ci, rfl, hb, hr, hc⟩ := b6d h (List.getElem?_eq_getElem hl)
 have hci : ci = [.int .u8 ((bs[k]).toNat : Int)] := hr
 subst hci
 have := hc 0 _ rfl
 simp only [a5u, Nat.mul_one, Nat.add_zero] at this
 exact ⟨b, off, bs[k], rfl, hb, List.getElem?_eq_getElem hl, this⟩
theorem a5X {a b : Int} (h : a = b) : Ending.returned (.int .i64 a) = Ending.returned (.int .i64 b) := by rw [h]
theorem a6K {α : Type} {e : TypeId} {C : Cod α} {w : World} {k : Nat} (hk : k = w.heap.size) : (a2Z e C).Own (w.alloc (.cells #[] e)) [] [.slice (some ⟨k, 0, none⟩) 0 0] [k] :=
 ⟨_, [], [], rfl, rfl, c0S (b2q hk), rfl, rfl⟩
theorem b1j {w : World} {bs : List UInt8} {A : Option Addr} {n c : Nat} (h : a2w.Rd w w.heap.size bs [.slice A n c]) :
  n = bs.length ∧ n ≤ c ∧ c ≤ maxLen ∧ a2z w A n 1 (bs.map b0H) ∧ (0 < n → ∃ b off, A = some ⟨b, off, none⟩ ∧ b < w.heap.size) := by
 obtain ⟨h1, h2, h3, cells, h4, h5, h6⟩ := a7w h
 have : ∀ (bs : List UInt8) cells, a2n (a5u.Rd w w.heap.size) bs cells → cells = bs.map b0H := by
  intro bs
  induction bs with
  | nil => intro cells h; exact h
  | cons b bs ih => intro cells h; obtain ⟨c1, c2, e, g1, g2⟩ := h; rw [e, ih _ g2]; rw [show c1 = [.int .u8 (b.toNat : Int)] from g1]; rfl
 rw [this _ _ h4] at h5
 exact ⟨h1, h2, h3, h5, h6⟩
set_option maxHeartbeats 400000 in
theorem c1x (w : World) (bs : List UInt8) (A : Option Addr) (n c : Nat) (hr : a2w.Rd w w.heap.size bs [.slice A n c]) (hsz : n ≤ 1073741824) :
  Calls Tryz.prog 82 #[.slice A n c] w (b4x a2w bs w) := by
 obtain ⟨hl, _, _, hrow, hlt⟩ := b1j hr
 have HL := Lib.hid hl
 clear hl hr
 go_enter Tryz.func82, Tryz.ntmps82
 go_wp2_with (first | (at_builtin; refine a6R a5u _ rfl _ _ _ rfl 5 _ 1 Tryz.underlying26 b9i rfl _ 0 0 rfl [] [w.heap.size] (a6K (by simp)) A n c rfl bs [] (bs.map b0H) (hrow.chg hlt (Nat.le_refl _) ((Chg.refl _ _).alloc _)) (b3G _) HL.out (by simp) (by simp only [maxLen]; omega) (by omega) ?hk))
 case hk =>
  intro A' c' w1 fp hown hnd hfp hchg
  have H1 := Lib.hid hown
  have H2 := Lib.hid (((Chg.refl [] w).alloc _).andThen hchg (by simp))
  have H3 := Lib.hid hfp
  clear hown hchg hfp
  go_wp2
  go_ret
  exact ⟨A', n, c', fp, rfl, H1.out, ⟨hnd, fun b hb => by have h := H3.out b hb; (try simp at h); omega⟩, H2.out⟩
theorem b4T {α : Type} {r : α → List Value → Prop} {n : Nat} (h : ∀ x c, r x c → c.length = n) : ∀ (xs : List α) (cs : List Value) (j : Nat), a2n r xs cs → a2n r (xs.take j) (cs.take (j * n))
 | [], cs, j, hc => by simp [a2n] at hc; simp [hc, a2n]
 | x :: xs, _, 0, _ => by simp [a2n]
 | x :: xs, _, j + 1, ⟨c1, c2, e, h1, h2⟩ => by
  refine ⟨c1, c2.take (j * n), ?_, h1, b4T h xs c2 j h2⟩
  have hl := h _ _ h1
  rw [e, List.take_append, hl, List.take_of_length_le (by rw [hl, Nat.add_mul]; omega)]
  congr 2
  rw [Nat.add_mul]; omega
theorem b9X {α : Type} {e : TypeId} {C : Cod α} {w : World} {B : Nat} {xs : List α} {A : Option Addr} {n c : Nat} (h : (a2Z e C).Rd w B xs [.slice A n c]) (j : Nat) (hj : j ≤ n) :
  (a2Z e C).Rd w B (xs.take j) [.slice A j c] := by
 obtain ⟨A', c', cells, e1, h2, h3, h4, h5⟩ := h
 simp only [List.cons.injEq, Value.slice.injEq, and_true] at e1
 obtain ⟨rfl, rfl, rfl⟩ := e1
 have hl : (xs.take j).length = j := by simp; omega
 refine ⟨A, c, cells.take (j * C.size), by rw [hl], by omega, h3, b4T (fun _ _ hr => C.rd_len hr) _ _ j h4, fun hp => ?_⟩
 obtain ⟨b, off, e1, e2, e3⟩ := h5 (by omega)
 refine ⟨b, off, e1, e2, fun i u hu => e3 i u ?_⟩
 rw [List.getElem?_take] at hu
 split at hu
 ·exact hu
 ·cases hu
abbrev a5Y : Cod (List Int) := a2Z 3 a4E
def a5M (acc v : Int) : Int := (acc * 1000003 + v % 2147483647 + 13) % 2147483647
def a4Y (l : List Int) : Int := l.foldl a5M 11
theorem b6g (acc v : Int) : 0 ≤ a5M acc v ∧ a5M acc v < 2147483647 := by unfold a5M; omega
theorem c2q (l : List Int) : ∀ acc : Int, 0 ≤ acc → acc < 2147483647 → 0 ≤ l.foldl a5M acc ∧ l.foldl a5M acc < 2147483647 := by
 induction l with
 | nil => intro acc h1 h2; exact ⟨h1, h2⟩
 | cons v l ih => intro acc _ _; exact ih _ (b6g acc v).1 (b6g acc v).2
theorem b4O (l : List Int) : 0 ≤ a4Y l ∧ a4Y l < 2147483647 := c2q l 11 (by decide) (by decide)
theorem b5J (l : List Int) (v : Int) : a4Y (l ++ [v]) = a5M (a4Y l) v := by simp [a4Y]
theorem b1Q : (Tryz.prog.info? 3).map (fun i => (i.zero, i.size, i.bytes)) = some (some (.int .i64 0), 1, 8) := by kernel_rfl
theorem b7o {w : World} {B : Nat} {bs : List Int} {A : Option Addr} {n c k : Nat} (h : a5Y.Rd w B bs [.slice A n c]) (hk : k < n) :
  ∃ b off v, A = some ⟨b, off, none⟩ ∧ b < B ∧ bs[k]? = some v ∧ w.cell? ⟨b, off + k, none⟩ = some (.int .i64 v) ∧ -9223372036854775808 ≤ v ∧ v ≤ 9223372036854775807 := by
 have hl : k < bs.length := by rw [← a4a h]; exact hk
 obtain ⟨b, off, ci, rfl, hb, hr, hc⟩ := b6d h (List.getElem?_eq_getElem hl)
 obtain ⟨rfl, h1, h2⟩ := hr
 have := hc 0 _ rfl
 simp only [a4E, Nat.mul_one, Nat.add_zero] at this
 exact ⟨b, off, bs[k], rfl, hb, List.getElem?_eq_getElem hl, this, h1, h2⟩
theorem b9h (v : Int) (h : v < 0) : (v.tmod 2147483647 < 0 ∧ v.tmod 2147483647 + 2147483647 = v % 2147483647) ∨ (v.tmod 2147483647 = 0 ∧ v % 2147483647 = 0) := by
 have h1 : v.tmod 2147483647 = - ((-v) % 2147483647) := by
  have := Int.tmod_eq_emod_of_nonneg (a := -v) (b := 2147483647) (by omega)
  rw [Int.neg_tmod] at this
  omega
 rw [h1]; omega
set_option maxHeartbeats 400000 in
theorem c4w (w : World) (v : Int) (h1 : -9223372036854775808 ≤ v) (h2 : v ≤ 9223372036854775807) :
  Calls Tryz.prog 118 #[.int .i64 v, .int .i64 2147483647] w (fun e w' => e = .returned (.int .i64 (v % 2147483647)) ∧ w = w') := by
 by_cases hv : 0 ≤ v
 ·have h3 : 0 ≤ v % 2147483647 ∧ v % 2147483647 < 2147483647 := by omega
  obtain ⟨h4, h5⟩ := h3
  go_enter Tryz.func118, Tryz.ntmps118
  go_wp2
  go_ret
  exact ⟨rfl, rfl⟩
 ·have hv' : v < 0 := by omega
  rcases b9h v hv' with ⟨g1, g2⟩ | ⟨g1, g2⟩
  ·have g3 : -2147483647 ≤ v.tmod 2147483647 := by omega
   have HG := Lib.hid g2
   clear g2
   go_enter Tryz.func118, Tryz.ntmps118
   go_wp2
   go_ret
   exact ⟨a5X (by rw [← HG.out]), rfl⟩
  ·have HG := Lib.hid g2
   have g3 : (v.tmod 2147483647) ≤ 0 ∧ 0 ≤ v.tmod 2147483647 := by omega
   obtain ⟨g4, g5⟩ := g3
   have HG1 := Lib.hid g1
   clear g2 g1
   go_enter Tryz.func118, Tryz.ntmps118
   go_wp2
   go_ret
   exact ⟨a5X (by rw [HG.out, HG1.out]), rfl⟩
set_option maxHeartbeats 400000 in
theorem c1F (w : World) (v : Int) (h1 : -9223372036854775808 ≤ v) (h2 : v ≤ 9223372036854775807) :
  Calls Tryz.prog 104 #[.int .i64 v, .int .i64 2147483647] w (fun e w' => e = .returned (.int .i64 (v % 2147483647)) ∧ w = w') := by
 by_cases hv : 0 ≤ v
 ·have h3 : 0 ≤ v % 2147483647 ∧ v % 2147483647 < 2147483647 := by omega
  obtain ⟨h4, h5⟩ := h3
  go_enter Tryz.func104, Tryz.ntmps104
  go_wp2
  go_ret
  exact ⟨a5X (by omega), rfl⟩
 ·have hv' : v < 0 := by omega
  rcases b9h v hv' with ⟨g1, g2⟩ | ⟨g1, g2⟩
  ·have g3 : -2147483647 ≤ v.tmod 2147483647 := by omega
   have g4 : 0 ≤ v.tmod 2147483647 + 2147483647 := by omega
   have HG := Lib.hid g2
   clear g2
   go_enter Tryz.func104, Tryz.ntmps104
   go_wp2
   go_ret
   exact ⟨a5X (by have := HG.out; omega), rfl⟩
  ·have HG := Lib.hid g2
   have g3 : (v.tmod 2147483647) ≤ 0 ∧ 0 ≤ v.tmod 2147483647 := by omega
   obtain ⟨g4, g5⟩ := g3
   have HG1 := Lib.hid g1
   clear g2 g1
   go_enter Tryz.func104, Tryz.ntmps104
   go_wp2
   go_ret
   exact ⟨a5X (by rw [HG.out, HG1.out]; rfl), rfl⟩
theorem b0W {α : Type} (l : List α) (k : Nat) (v : α) (h : l[k]? = some v) : l.take (k + 1) = l.take k ++ [v] := by
 rw [List.take_add_one, h]; rfl
set_option maxHeartbeats 400000 in
theorem c7h (w : World) (l : List Int) (A : Option Addr) (n c : Nat) (hr : a5Y.Rd w w.heap.size l [.slice A n c]) (hn : n ≤ 1073741824) :
  Calls Tryz.prog 83 #[.slice A n c] w (fun e w' => e = .returned (.int .i64 (a4Y l)) ∧ w = w') := by
 have HR := Lib.hid hr
 have HN := Lib.hid (a4a hr)
 clear hr
 go_enter Tryz.func83, Tryz.ntmps83
 go_wp2
 go_loop [3, 8] (fun a i => ∃ k : Nat, k ≤ n ∧ i = .int .i64 k ∧ a = .int .i64 (a4Y (l.take k))) (fun _ i => n - (intOf i).toNat)
 case atStart => exact ⟨0, Nat.zero_le _, rfl, rfl⟩
 case round =>
  obtain ⟨k, hk, rfl, rfl⟩ := hrel
  have hb := b4O (l.take k)
  obtain ⟨hb1, hb2⟩ := hb
  by_cases hlt : k < n
  ·obtain ⟨b, off, v, rfl, hb, hv, hc, hv1, hv2⟩ := b7o HR.out hlt
   have HV := Lib.hid hv
   have HS := Lib.hid ((congrArg a4Y (b0W l k v hv)).trans (b5J _ v))
   clear hv
   go_wp2_with (first | (go_at_call 118; refine (c4w _ v hv1 hv2).mono ?_; rintro e w' ⟨rfl, rfl⟩))
   go_round
   case rel => exact ⟨k + 1, by omega, by go_num, by rw [HS.out]; unfold a5M; first | rfl | go_num⟩
   case measure => simp [intOf]; omega
  ·obtain rfl : k = n := by omega
   go_wp2
   go_ret
   exact ⟨a5X (by rw [List.take_of_length_le (by rw [← HN.out]; omega)]), rfl⟩
set_option maxHeartbeats 400000 in
theorem c5m (w : World) (l : List Int) (A : Option Addr) (n c : Nat) (hr : a5Y.Rd w w.heap.size l [.slice A n c]) (hn : n ≤ 1073741824) :
  Calls Tryz.prog 64 #[.slice A n c] w (fun e w' => e = .returned (.int .i64 (a4Y l)) ∧ w = w') := by
 have HR := Lib.hid hr
 have HN := Lib.hid (a4a hr)
 clear hr
 go_enter Tryz.func64, Tryz.ntmps64
 go_wp2
 go_loop [3, 4] (fun a i => ∃ k : Nat, k ≤ n ∧ i = .int .i64 k ∧ a = .int .i64 (a4Y (l.take k))) (fun _ i => n - (intOf i).toNat)
 case atStart => exact ⟨0, Nat.zero_le _, rfl, rfl⟩
 case round =>
  obtain ⟨k, hk, rfl, rfl⟩ := hrel
  have hb := b4O (l.take k)
  obtain ⟨hb1, hb2⟩ := hb
  by_cases hlt : k < n
  ·obtain ⟨b, off, v, rfl, hb, hv, hc, hv1, hv2⟩ := b7o HR.out hlt
   have HV := Lib.hid hv
   have HS := Lib.hid ((congrArg a4Y (b0W l k v hv)).trans (b5J _ v))
   clear hv
   go_wp2_with (first | (go_at_call 104; refine (c1F _ v hv1 hv2).mono ?_; rintro e w' ⟨rfl, rfl⟩))
   go_round
   case rel => exact ⟨k + 1, by omega, by go_num, by rw [HS.out]; unfold a5M; first | rfl | go_num⟩
   case measure => simp [intOf]; omega
  ·obtain rfl : k = n := by omega
   go_wp2
   go_ret
   exact ⟨a5X (by rw [List.take_of_length_le (by rw [← HN.out]; omega)]), rfl⟩
def b2i (n : Nat) (l : List UInt8) : List Int := (n : Int) :: l.map (fun b => (b.toNat : Int))
theorem b5Q (n : Nat) (l : List UInt8) (b : UInt8) : b2i n (l ++ [b]) = b2i n l ++ [(b.toNat : Int)] := by simp [b2i]
theorem a9d {w : World} {v : Int} (h1 : -9223372036854775808 ≤ v) (h2 : v ≤ 9223372036854775807) : a1l (a4E.Own w) [v] [.int .i64 v] [] := a1l.one ⟨rfl, rfl, h1, h2⟩
theorem b7u {w : World} {v : Int} {k : Nat} (hk : k = w.heap.size) (h1 : -9223372036854775808 ≤ v) (h2 : v ≤ 9223372036854775807) :
  a5Y.Own (w.alloc (.cells #[.int .i64 v] 3)) [v] [.slice (some ⟨k, 0, none⟩) 1 1] [k] :=
 b6W (C := a4E) (xs := [v]) (cells := [.int .i64 v]) (spare := []) (b2q hk) (a9d h1 h2) (by simp) (by simp [maxLen]) (by simp [a4E])
set_option maxHeartbeats 400000 in
theorem c6g (w : World) (bs : List UInt8) (A : Option Addr) (n c : Nat) (hr : a2w.Rd w w.heap.size bs [.slice A n c]) (hn : n ≤ 1073741824) :
  Calls Tryz.prog 84 #[.slice A n c] w (b4x a5Y (b2i n bs) w) := by
 have HR := Lib.hid hr
 have HN := Lib.hid (a4a hr)
 clear hr
 go_enter Tryz.func84, Tryz.ntmps84
 go_wp2
 go_loopw [3, 11] (fun o i wr => ∃ (k : Nat) (A' : Option Addr) (c' : Nat) (fp : List Nat), k ≤ n ∧ i = .int .i64 k ∧ o = .slice A' (k + 1) c' ∧ a5Y.Own wr (b2i n (bs.take k)) [.slice A' (k + 1) c'] fp ∧ a3C w.heap.size fp ∧ Chg [] w wr) (fun _ i _ => n - (intOf i).toNat)
 case atStart => exact ⟨0, _, _, [w.heap.size], Nat.zero_le _, rfl, rfl, b7u rfl (by omega) (by omega), ⟨by simp, by simp⟩, (Chg.refl _ _).alloc _⟩
 case round =>
  obtain ⟨k, A', c', fp, hk, rfl, rfl, hown, hfr, hchg⟩ := hrel
  have HO := Lib.hid hown
  have HF := Lib.hid hfr
  have HC := Lib.hid hchg
  have hz := hchg.size
  clear hown hfr
  by_cases hlt : k < n
  ·obtain ⟨b, off, v, rfl, hb, hv, hc⟩ := b2n HR.out hlt
   have h1 := (hchg.cell (off := off + k) hb (by simp)).trans hc
   have hv1 : (0 : Int) ≤ (v.toNat : Int) := by omega
   have hv2 : (v.toNat : Int) ≤ 255 := by have := v.toNat_lt; omega
   have HV := Lib.hid hv
   clear hv hchg hc
   go_wp2_with (first | (at_builtin; refine a6R a4E _ rfl _ _ _ rfl 3 _ 8 Tryz.underlying53 b1Q rfl A' (k + 1) c' rfl (b2i n (bs.take k)) fp (a3Y HO.out ((Chg.refl _ _).alloc _)) (some ⟨wr.heap.size, 0, none⟩) 1 1 rfl [(v.toNat : Int)] [] [.int .i64 (v.toNat : Int)] (a2z.new _ _ 1 1 3 rfl rfl) (a9d (by omega) (by omega)) rfl (by rw [List.append_nil]; exact HF.out.1) (by simp only [maxLen]; omega) (by omega) ?_; intro A1 c1 w2 fp1 hown hnd hfp hchg; have H1 := Lib.hid hown; have H2 := Lib.hid ((HC.out.alloc _).andThen hchg (fun x hx => .inr (HF.out.2 x hx))); have H3 := Lib.hid hfp; clear hown hchg hfp))
   go_roundw
   case rel =>
    refine ⟨k + 1, A1, c1, fp1, by omega, by go_num, rfl, ?_, ⟨hnd, fun x hx => ?_⟩, H2.out⟩
    ·rw [b0W bs k v HV.out, b5Q]; exact H1.out
    ·rcases H3.out x hx with h | h | h
     ·exact HF.out.2 x h
     ·simp at h
     ·(try simp at h); omega
   case measure => simp [intOf]; omega
  ·obtain rfl : k = n := by omega
   clear hchg
   go_wp2
   go_ret
   have h := HO.out
   rw [List.take_of_length_le (by rw [← HN.out]; omega)] at h
   exact ⟨A', _, c', fp, rfl, h, HF.out, HC.out⟩
set_option maxHeartbeats 400000 in
theorem c4O (w : World) (bs : List UInt8) (A : Option Addr) (n c : Nat) (hr : a2w.Rd w w.heap.size bs [.slice A n c]) (hn : n ≤ 1073741824) :
  Calls Tryz.prog 65 #[.slice A n c] w (b4x a5Y (b2i n bs) w) := by
 have HR := Lib.hid hr
 have HN := Lib.hid (a4a hr)
 clear hr
 go_enter Tryz.func65, Tryz.ntmps65
 go_wp2
 go_loopw [3, 4] (fun o i wr => ∃ (k : Nat) (A' : Option Addr) (c' : Nat) (fp : List Nat), k ≤ n ∧ i = .int .i64 k ∧ o = .slice A' (k + 1) c' ∧ a5Y.Own wr (b2i n (bs.take k)) [.slice A' (k + 1) c'] fp ∧ a3C w.heap.size fp ∧ Chg [] w wr) (fun _ i _ => n - (intOf i).toNat)
 case atStart => exact ⟨0, _, _, [w.heap.size], Nat.zero_le _, rfl, rfl, b7u rfl (by omega) (by omega), ⟨by simp, by simp⟩, (Chg.refl _ _).alloc _⟩
 case round =>
  obtain ⟨k, A', c', fp, hk, rfl, rfl, hown, hfr, hchg⟩ := hrel
  have HO := Lib.hid hown
  have HF := Lib.hid hfr
  have HC := Lib.hid hchg
  have hz := hchg.size
  clear hown hfr
  by_cases hlt : k < n
  ·obtain ⟨b, off, v, rfl, hb, hv, hc⟩ := b2n HR.out hlt
   have h1 := (hchg.cell (off := off + k) hb (by simp)).trans hc
   have hv1 : (0 : Int) ≤ (v.toNat : Int) := by omega
   have hv2 : (v.toNat : Int) ≤ 255 := by have := v.toNat_lt; omega
   have HV := Lib.hid hv
   clear hv hchg hc
   go_wp2_with (first | (at_builtin; refine a6R a4E _ rfl _ _ _ rfl 3 _ 8 Tryz.underlying53 b1Q rfl A' (k + 1) c' rfl (b2i n (bs.take k)) fp (a3Y HO.out ((Chg.refl _ _).alloc _)) (some ⟨wr.heap.size, 0, none⟩) 1 1 rfl [(v.toNat : Int)] [] [.int .i64 (v.toNat : Int)] (a2z.new _ _ 1 1 3 rfl rfl) (a9d (by omega) (by omega)) rfl (by rw [List.append_nil]; exact HF.out.1) (by simp only [maxLen]; omega) (by omega) ?_; intro A1 c1 w2 fp1 hown hnd hfp hchg; have H1 := Lib.hid hown; have H2 := Lib.hid ((HC.out.alloc _).andThen hchg (fun x hx => .inr (HF.out.2 x hx))); have H3 := Lib.hid hfp; clear hown hchg hfp))
   go_roundw
   case rel =>
    refine ⟨k + 1, A1, c1, fp1, by omega, by go_num, rfl, ?_, ⟨hnd, fun x hx => ?_⟩, H2.out⟩
    ·rw [b0W bs k v HV.out, b5Q]; exact H1.out
    ·rcases H3.out x hx with h | h | h
     ·exact HF.out.2 x h
     ·simp at h
     ·(try simp at h); omega
   case measure => simp [intOf]; omega
  ·obtain rfl : k = n := by omega
   clear hchg
   go_wp2
   go_ret
   have h := HO.out
   rw [List.take_of_length_le (by rw [← HN.out]; omega)] at h
   exact ⟨A', _, c', fp, rfl, h, HF.out, HC.out⟩
def a5j (number : Int) (bs : List UInt8) : Int := a4Y ([101, number] ++ b2i bs.length bs)
theorem b4N {w : World} {u v : Int} {k : Nat} (hk : k = w.heap.size) (h1 : -9223372036854775808 ≤ u) (h2 : u ≤ 9223372036854775807) (h3 : -9223372036854775808 ≤ v) (h4 : v ≤ 9223372036854775807) :
  a5Y.Own (w.alloc (.cells #[.int .i64 u, .int .i64 v] 3)) [u, v] [.slice (some ⟨k, 0, none⟩) 2 2] [k] :=
 b6W (C := a4E) (xs := [u, v]) (cells := [.int .i64 u, .int .i64 v]) (spare := []) (b2q hk) (a1l.append [u] [v] [_] [_] [] [] (a9d h1 h2) (a9d h3 h4)) (by simp) (by simp [maxLen]) (by simp [a4E])
set_option maxHeartbeats 400000 in
theorem c6B (w : World) (v : Int) (bs : List UInt8) (A : Option Addr) (n c : Nat) (hr : a2w.Rd w w.heap.size bs [.slice A n c]) (hn : n ≤ 536870912) (h1 : -9223372036854775808 ≤ v) (h2 : v ≤ 9223372036854775807) :
  Calls Tryz.prog 49 #[.int .i64 v, .slice A n c] w (Ret (.int .i64 (a5j v bs)) w) := by
 have HR := Lib.hid hr
 have HN := Lib.hid (a4a hr)
 clear hr
 go_enter Tryz.func49, Tryz.ntmps49
 go_wp2_with fail
 refine (c6g _ bs A n c (a7Z HR.out ((Chg.refl _ _).alloc _)) (by omega)).mono ?_
 rintro e w1 ⟨A1, n1, c1, fp, rfl, hown, hfr, hchg⟩
 have hn1 : n1 = n + 1 := by rw [own_len hown, HN.out]; simp [b2i]
 subst hn1
 obtain ⟨cells, f, hrow, hall, hf⟩ : ∃ cells f, a2z w1 A1 (n + 1) 1 cells ∧ a1l (a4E.Own w1) (b2i n bs) cells f ∧ (∀ b ∈ f, b ∈ fp) ∧ f.Nodup := by
  have := c0A hown hfr.1
  exact this
 have HC := Lib.hid (((Chg.refl [] w).alloc _).trans hchg)
 have HO := Lib.hid (a3Y (b4N (w := w) (u := 101) (v := v) rfl (by omega) (by omega) h1 h2) hchg)
 have hgt : w.heap.size + 1 ≤ w1.heap.size := by have := hchg.size; simp at this; omega
 have HF := Lib.hid hfr
 have HL := Lib.hid hall
 have HFF := Lib.hid hf
 clear hown hfr hchg hall hf
 go_wp2_with (first | (at_builtin; refine a6R a4E _ rfl _ _ _ rfl 3 _ 8 Tryz.underlying53 b1Q rfl (some ⟨w.heap.size, 0, none⟩) 2 2 rfl [101, v] [w.heap.size] HO.out A1 (n + 1) c1 rfl (b2i n bs) f cells hrow HL.out (by have := HN.out; simp [b2i]; omega) ?nd (by simp only [maxLen]; omega) (by omega) ?hk))
 case nd =>
  refine List.nodup_append.2 ⟨by simp, HFF.out.2, fun a ha b hb e => ?_⟩
  have h := HF.out.2 b (HFF.out.1 b hb)
  simp at ha h
  omega
 case hk =>
  intro A2 c2 w2 fp2 hown hnd hfp hchg
  have H1 := Lib.hid hown
  have H2 := Lib.hid (HC.out.andThen hchg (fun x hx => .inr (by simp at hx; omega)))
  clear hown hchg hfp
  go_wp2_with fail
  refine (c7h _ ([101, v] ++ b2i n bs) A2 _ c2 (b0f H1.out) (by omega)).mono ?_
  rintro e w' ⟨rfl, rfl⟩
  go_wp2
  go_ret
  exact ⟨a5X (by rw [HN.out]; rfl), H2.out⟩
set_option maxHeartbeats 400000 in
theorem c1E (w : World) (v : Int) (bs : List UInt8) (A : Option Addr) (n c : Nat) (hr : a2w.Rd w w.heap.size bs [.slice A n c]) (hn : n ≤ 536870912) (h1 : -9223372036854775808 ≤ v) (h2 : v ≤ 9223372036854775807) :
  Calls Tryz.prog 38 #[.int .i64 v, .slice A n c] w (Ret (.int .i64 (a5j v bs)) w) := by
 have HR := Lib.hid hr
 have HN := Lib.hid (a4a hr)
 clear hr
 go_enter Tryz.func38, Tryz.ntmps38
 go_wp2_with fail
 refine (c4O _ bs A n c (a7Z HR.out ((Chg.refl _ _).alloc _)) (by omega)).mono ?_
 rintro e w1 ⟨A1, n1, c1, fp, rfl, hown, hfr, hchg⟩
 have hn1 : n1 = n + 1 := by rw [own_len hown, HN.out]; simp [b2i]
 subst hn1
 obtain ⟨cells, f, hrow, hall, hf⟩ : ∃ cells f, a2z w1 A1 (n + 1) 1 cells ∧ a1l (a4E.Own w1) (b2i n bs) cells f ∧ (∀ b ∈ f, b ∈ fp) ∧ f.Nodup := by
  have := c0A hown hfr.1
  exact this
 have HC := Lib.hid (((Chg.refl [] w).alloc _).trans hchg)
 have HO := Lib.hid (a3Y (b4N (w := w) (u := 101) (v := v) rfl (by omega) (by omega) h1 h2) hchg)
 have hgt : w.heap.size + 1 ≤ w1.heap.size := by have := hchg.size; simp at this; omega
 have HF := Lib.hid hfr
 have HL := Lib.hid hall
 have HFF := Lib.hid hf
 clear hown hfr hchg hall hf
 go_wp2_with (first | (at_builtin; refine a6R a4E _ rfl _ _ _ rfl 3 _ 8 Tryz.underlying53 b1Q rfl (some ⟨w.heap.size, 0, none⟩) 2 2 rfl [101, v] [w.heap.size] HO.out A1 (n + 1) c1 rfl (b2i n bs) f cells hrow HL.out (by have := HN.out; simp [b2i]; omega) ?nd (by simp only [maxLen]; omega) (by omega) ?hk))
 case nd =>
  refine List.nodup_append.2 ⟨by simp, HFF.out.2, fun a ha b hb e => ?_⟩
  have h := HF.out.2 b (HFF.out.1 b hb)
  simp at ha h
  omega
 case hk =>
  intro A2 c2 w2 fp2 hown hnd hfp hchg
  have H1 := Lib.hid hown
  have H2 := Lib.hid (HC.out.andThen hchg (fun x hx => .inr (by simp at hx; omega)))
  clear hown hchg hfp
  go_wp2_with fail
  refine (c5m _ ([101, v] ++ b2i n bs) A2 _ c2 (b0f H1.out) (by omega)).mono ?_
  rintro e w' ⟨rfl, rfl⟩
  go_wp2
  go_ret
  exact ⟨a5X (by rw [HN.out]; rfl), H2.out⟩
def uv (n : Nat) : List UInt8 := if n < 128 then [UInt8.ofNat n] else UInt8.ofNat (n % 128 + 128) :: uv (n / 128)
termination_by n
decreasing_by omega
def b7E (b : List UInt8) (n : Int) : List UInt8 := if 0 ≤ n ∧ n ≤ 1000000000000 then b ++ uv n.toNat else b
theorem b2j (a : Nat) (ha : a < 9223372036854775808) : (BitVec.ofInt 64 (a : Int)).toNat = a := by
 rw [BitVec.ofInt_natCast, BitVec.toNat_ofNat]; exact Nat.mod_eq_of_lt (by omega)
theorem c3c (a b : Nat) (ha : a < 9223372036854775808) (hb : b < 9223372036854775808) : bits .and .i64 (a : Int) (b : Int) = ((a &&& b : Nat) : Int) := by
 have hx : a &&& b < 2 ^ 63 := Nat.and_lt_two_pow _ (by omega)
 show IntKind.i64.wrap ((BitVec.ofInt 64 (a : Int) &&& BitVec.ofInt 64 (b : Int)).toNat : Int) = _
 rw [BitVec.toNat_and, b2j a ha, b2j b hb, IntKind.wrap_i64]
 omega
theorem c7i (a b : Nat) (ha : a < 9223372036854775808) (hb : b < 9223372036854775808) : bits .or .i64 (a : Int) (b : Int) = ((a ||| b : Nat) : Int) := by
 have hx : a ||| b < 2 ^ 63 := Nat.or_lt_two_pow (by omega) (by omega)
 show IntKind.i64.wrap ((BitVec.ofInt 64 (a : Int) ||| BitVec.ofInt 64 (b : Int)).toNat : Int) = _
 rw [BitVec.toNat_or, b2j a ha, b2j b hb, IntKind.wrap_i64]
 omega
theorem c4X (k : Nat) (hk : k < 9223372036854775808) : bits .and .i64 (k : Int) 127 = (k : Int) % 128 := by
 rw [show (127 : Int) = ((127 : Nat) : Int) from rfl, c3c k 127 hk (by omega), show (127 : Nat) = 2 ^ 7 - 1 from rfl, Nat.and_two_pow_sub_one_eq_mod]
 omega
theorem c3F (a b i : Nat) (ha : a < 2 ^ i) (hm : b * 2 ^ i + a < 9223372036854775808) : bits .or .i64 (a : Int) ((b * 2 ^ i : Nat) : Int) = ((b * 2 ^ i + a : Nat) : Int) := by
 rw [c7i a (b * 2 ^ i) (by omega) (by omega), Nat.or_comm, Nat.mul_comm b, Nat.two_pow_add_eq_or_of_lt ha]
theorem c3V {w : World} {fp : List Nat} {o : Obj} (hnd : fp.Nodup) (h : ∀ b ∈ fp, b ∈ [w.heap.size] ∨ b ∈ ([] : List Nat) ∨ b = (w.alloc o).heap.size) : a3C w.heap.size fp :=
 ⟨hnd, fun b hb => by
  rcases h b hb with h | h | h
  ·simp at h; omega
  ·simp at h
  ·simp at h; omega⟩
def c1N (b d : List UInt8) : List UInt8 := b7E b d.length ++ d
def rdF : Nat → Nat → Nat → List UInt8 → Option (Nat × Nat)
 | 0, _, _, _ => none
 | _ + 1, _, _, [] => none
 | f + 1, i, acc, x :: r =>
  if x.toNat < 128 then (if (0 < i ∧ x.toNat = 0) ∨ 1000000000000 < acc + (x.toNat % 128) * 2 ^ (7 * i) then none else some (acc + (x.toNat % 128) * 2 ^ (7 * i), i + 1))
  else rdF f (i + 1) (acc + (x.toNat % 128) * 2 ^ (7 * i)) r
def rdU (b : List UInt8) (off : Int) : Option (Nat × Nat) := if 0 ≤ off ∧ off < b.length then rdF 6 0 0 (b.drop off.toNat) else none
def a3t (off : Int) : Option (Nat × Nat) → Value
 | none => .tuple #[.int .i64 0, .int .i64 0, .bool false]
 | some (v, k) => .tuple #[.int .i64 (v : Int), .int .i64 (off + (k : Int)), .bool true]
theorem b4S (k acc : Nat) (hk : k < 6) (x : UInt8) (r : List UInt8) : rdF (6 - k) k acc (x :: r) =
  if x.toNat < 128 then (if (0 < k ∧ x.toNat = 0) ∨ 1000000000000 < acc + (x.toNat % 128) * 2 ^ (7 * k) then none else some (acc + (x.toNat % 128) * 2 ^ (7 * k), k + 1))
  else rdF (6 - (k + 1)) (k + 1) (acc + (x.toNat % 128) * 2 ^ (7 * k)) r := by
 rw [show 6 - k = (6 - (k + 1)) + 1 by omega]; rfl
theorem b3R (k : Nat) (hk : k < 6) : 2 ^ (7 * k) ≤ 34359738368 := Nat.le_trans (Nat.pow_le_pow_right (by omega) (show 7 * k ≤ 35 by omega)) (by decide)
theorem b8r {k acc x : Nat} (ha : acc < 2 ^ (7 * k)) : acc + (x % 128) * 2 ^ (7 * k) < 2 ^ (7 * (k + 1)) := by
 have h1 : x % 128 ≤ 127 := by omega
 have h2 : (x % 128) * 2 ^ (7 * k) ≤ 127 * 2 ^ (7 * k) := Nat.mul_le_mul_right _ h1
 rw [show 7 * (k + 1) = 7 * k + 7 by omega, Nat.pow_add]
 omega
theorem b9a {α : Type} {l : List α} {i : Nat} {v : α} (h : l[i]? = some v) : l.drop i = v :: l.drop (i + 1) := by
 obtain ⟨h1, h2⟩ := List.getElem?_eq_some_iff.1 h
 rw [List.drop_eq_getElem_cons h1, h2]
theorem b4R (v : UInt8) (k : Nat) (hk : k < 6) : ∃ t : Nat, v.toNat % 128 * 2 ^ (7 * k) = t ∧ ((v.toNat : Int) % 128) * 2 ^ (7 * k) = (t : Int) ∧ (t : Int) ≤ 4398046511104 := by
 refine ⟨_, rfl, by push_cast; rfl, ?_⟩
 have h1 := b3R k hk
 have h2 : v.toNat % 128 * 2 ^ (7 * k) ≤ 128 * 34359738368 := Nat.mul_le_mul (by omega) h1
 omega
set_option maxRecDepth 100000 in
set_option maxHeartbeats 1000000 in
theorem b2D (w : World) (bs : List UInt8) (A : Option Addr) (n c : Nat) (off : Int) (hr : a2w.Rd w w.heap.size bs [.slice A n c]) (hn : n ≤ 16777216) :
    Calls Tryz.prog 48 #[.slice A n c, .int .i64 off] w (fun e w' => e = .returned (a3t off (rdU bs off)) ∧ w = w') := by
  have HR := Lib.hid hr
  have HN := Lib.hid (a4a hr)
  clear hr
  by_cases hoff : 0 ≤ off ∧ off < n
  · have HU : Hid (rdU bs off = rdF 6 0 0 (bs.drop off.toNat)) := if_pos (by have := HN.out; omega)
    obtain ⟨h1, h2⟩ := hoff
    obtain ⟨o, rfl⟩ := Int.eq_ofNat_of_zero_le h1
    rw [Int.toNat_natCast] at HU
    have hd1 : decide ((o : Int) < 0) = false := decide_eq_false (by omega)
    go_enter Tryz.func48, Tryz.ntmps48
    go_wp2
    go_loop [4, 5, 6, 7, 8] (fun _ _ _ a i => ∃ k acc : Nat, k ≤ 6 ∧ i = .int .i64 k ∧ a = .int .i64 acc ∧ acc < 2 ^ (7 * k) ∧ rdF 6 0 0 (bs.drop o) = rdF (6 - k) k acc (bs.drop (o + k))) (fun _ _ _ _ i => 6 - (intOf i).toNat)
    case atStart => exact ⟨0, 0, by omega, rfl, rfl, by decide, rfl⟩
    case round =>
      obtain ⟨k, acc, hk, rfl, rfl, hacc, hrd⟩ := hrel
      have HA := Lib.hid hacc
      have HD := Lib.hid hrd
      by_cases hlt : k < 6 ∧ o + k < n
      · obtain ⟨g1, g2⟩ := hlt
        have hab : (acc : Int) ≤ 34359738368 := by have := b3R k g1; omega
        clear hacc hrd
        obtain ⟨b, off', v, rfl, hb, hv, hc⟩ := b2n HR.out g2
        obtain ⟨t, ht, htI, htb⟩ := b4R v k g1
        have hv1 : (0 : Int) ≤ (v.toNat : Int) := by omega
        have hv2 : (v.toNat : Int) ≤ 255 := by have := v.toNat_lt; omega
        have HV : Hid (rdF (6 - k) k acc (bs.drop (o + k)) = _) := (congrArg (rdF (6 - k) k acc) (b9a hv)).trans (b4S k acc g1 v _)
        rw [ht] at HV
        have HT := Lib.hid ht
        clear hv ht
        by_cases hx : v.toNat < 128
        · have hx1 : (v.toNat : Int) < 128 := by omega
          by_cases hbad : (0 < k ∧ v.toNat = 0) ∨ 1000000000000 < acc + t
          · have HF := Lib.hid (show rdU bs o = none by rw [HU.out, HD.out, HV.out, if_pos hx, if_pos hbad])
            have hbad1 : (0 < (k : Int) ∧ (v.toNat : Int) = 0) ∨ (1000000000000 : Int) < (acc : Int) + t := by omega
            clear hbad
            rcases hbad1 with ⟨g3, g4⟩ | g3
            · rw [g4] at hc
              have htz : t = 0 := by rw [← HT.out]; have : v.toNat = 0 := by omega
                                     rw [this]; simp
              subst htz
              rw [g4] at htI
              clear htI hx1 hv1 hv2 g4
              go_wp2
              go_ret3
              exact ⟨by rw [HF.out]; rfl, rfl⟩
            · go_wp2
              all_goals
                go_ret3
                exact ⟨by rw [HF.out]; rfl, rfl⟩
          · have HF := Lib.hid (show rdU bs o = some (acc + t, k + 1) by rw [HU.out, HD.out, HV.out, if_pos hx, if_neg hbad])
            have hgood : ((k : Int) ≤ 0 ∨ 1 ≤ (v.toNat : Int)) ∧ (acc : Int) + t ≤ 1000000000000 := by omega
            obtain ⟨g3, g4⟩ := hgood
            clear hbad
            have hval : Hid (Value.tuple #[.int .i64 ((acc : Int) + (t : Int)), .int .i64 ((o : Int) + (k : Int) + 1), .bool true] = a3t o (some (acc + t, k + 1))) := by
              show _ = _
              simp [a3t, Int.add_assoc]
            rcases g3 with g3 | g3
            all_goals
              go_wp2
              all_goals
                go_ret3
                first
                  | exact ⟨by rw [HF.out, ← hval.out]; rfl, rfl⟩
                  | (exfalso; rename_i h9 _; rcases h9 with h9 | h9 <;> first | omega | (have h10 : (v.toNat : Int) = 0 := eq_of_beq h9; omega))
        · have hx1 : (128 : Int) ≤ (v.toNat : Int) := by omega
          have HF := Lib.hid (show rdF (6 - k) k acc (bs.drop (o + k)) = rdF (6 - (k + 1)) (k + 1) (acc + t) (bs.drop (o + (k + 1))) by rw [HV.out, if_neg hx]; rfl)
          go_wp2
          refine ⟨⟨_, _, _, _, _, ⟨k + 1, by omega, rfl, acc + t, rfl, by rw [← HT.out]; exact b8r HA.out, by rw [HD.out, HF.out]⟩, rfl, rfl, rfl, by go_num, by go_num⟩, by simp [intOf]; omega⟩
      · have HF := Lib.hid (show rdU bs o = none by
          rw [HU.out, HD.out]
          by_cases h6 : k = 6
          · subst h6; rfl
          · rw [List.drop_eq_nil_of_le (by have := HN.out; omega)]
            rw [show 6 - k = (6 - (k + 1)) + 1 by omega]; rfl)
        clear hacc hrd
        have hend : (6 : Int) ≤ (k : Int) ∨ ((k : Int) < 6 ∧ (n : Int) ≤ (o : Int) + (k : Int)) := by omega
        clear hlt
        rcases hend with g3 | ⟨g3, g4⟩
        all_goals
          go_wp2
          go_ret3
          exact ⟨by rw [HF.out]; rfl, rfl⟩
  · have HF := Lib.hid (show rdU bs off = none from if_neg (by have := HN.out; omega))
    have hout : off < 0 ∨ (0 ≤ off ∧ (n : Int) ≤ off) := by omega
    clear hoff
    rcases hout with g3 | ⟨g3, g4⟩
    all_goals
      go_enter Tryz.func48, Tryz.ntmps48
      go_wp2
      go_ret3
      exact ⟨by rw [HF.out]; rfl, rfl⟩
set_option maxRecDepth 100000 in
set_option maxHeartbeats 1000000 in
theorem b2M (w : World) (bs : List UInt8) (A : Option Addr) (n c : Nat) (off : Int) (hr : a2w.Rd w w.heap.size bs [.slice A n c]) (hn : n ≤ 16777216) :
    Calls Tryz.prog 37 #[.slice A n c, .int .i64 off] w (fun e w' => e = .returned (a3t off (rdU bs off)) ∧ w = w') := by
  have HR := Lib.hid hr
  have HN := Lib.hid (a4a hr)
  clear hr
  by_cases hoff : 0 ≤ off ∧ off < n
  · have HU : Hid (rdU bs off = rdF 6 0 0 (bs.drop off.toNat)) := if_pos (by have := HN.out; omega)
    obtain ⟨h1, h2⟩ := hoff
    obtain ⟨o, rfl⟩ := Int.eq_ofNat_of_zero_le h1
    rw [Int.toNat_natCast] at HU
    have hd1 : decide ((o : Int) < 0) = false := decide_eq_false (by omega)
    go_enter Tryz.func37, Tryz.ntmps37
    go_wp2
    go_loop [4, 5, 6, 7, 8] (fun _ _ _ a i => ∃ k acc : Nat, k ≤ 6 ∧ i = .int .i64 k ∧ a = .int .i64 acc ∧ acc < 2 ^ (7 * k) ∧ rdF 6 0 0 (bs.drop o) = rdF (6 - k) k acc (bs.drop (o + k))) (fun _ _ _ _ i => 6 - (intOf i).toNat)
    case atStart => exact ⟨0, 0, by omega, rfl, rfl, by decide, rfl⟩
    case round =>
      obtain ⟨k, acc, hk, rfl, rfl, hacc, hrd⟩ := hrel
      have HA := Lib.hid hacc
      have HD := Lib.hid hrd
      by_cases hlt : k < 6 ∧ o + k < n
      · obtain ⟨g1, g2⟩ := hlt
        have hab : (acc : Int) ≤ 34359738368 := by have := b3R k g1; omega
        clear hrd
        obtain ⟨b, off', v, rfl, hb, hv, hc⟩ := b2n HR.out g2
        obtain ⟨t, ht, htI, htb⟩ := b4R v k g1
        have hb1 := c4X v.toNat (by have := v.toNat_lt; omega)
        have hor : bits .or .i64 (acc : Int) (t : Int) = (acc : Int) + (t : Int) := by
          have h := c3F acc (v.toNat % 128) (7 * k) hacc (by rw [ht]; omega)
          rw [ht] at h; rw [h]; omega
        clear hacc
        have hv1 : (0 : Int) ≤ (v.toNat : Int) := by omega
        have hv2 : (v.toNat : Int) ≤ 255 := by have := v.toNat_lt; omega
        have HV : Hid (rdF (6 - k) k acc (bs.drop (o + k)) = _) := (congrArg (rdF (6 - k) k acc) (b9a hv)).trans (b4S k acc g1 v _)
        rw [ht] at HV
        have HT := Lib.hid ht
        clear hv ht
        by_cases hx : v.toNat < 128
        · have hx1 : (v.toNat : Int) < 128 := by omega
          by_cases hbad : (0 < k ∧ v.toNat = 0) ∨ 1000000000000 < acc + t
          · have HF := Lib.hid (show rdU bs o = none by rw [HU.out, HD.out, HV.out, if_pos hx, if_pos hbad])
            have hbad1 : (0 < (k : Int) ∧ (v.toNat : Int) = 0) ∨ (1000000000000 : Int) < (acc : Int) + t := by omega
            clear hbad
            rcases hbad1 with ⟨g3, g4⟩ | g3
            · rw [g4] at hc
              have htz : t = 0 := by rw [← HT.out]; have : v.toNat = 0 := by omega
                                     rw [this]; simp
              subst htz
              rw [g4] at htI
              clear htI hx1 hv1 hv2 g4
              go_wp2
              go_ret3
              exact ⟨by rw [HF.out]; rfl, rfl⟩
            · go_wp2
              all_goals
                go_ret3
                exact ⟨by rw [HF.out]; rfl, rfl⟩
          · have HF := Lib.hid (show rdU bs o = some (acc + t, k + 1) by rw [HU.out, HD.out, HV.out, if_pos hx, if_neg hbad])
            have hgood : ((k : Int) ≤ 0 ∨ 1 ≤ (v.toNat : Int)) ∧ (acc : Int) + t ≤ 1000000000000 := by omega
            obtain ⟨g3, g4⟩ := hgood
            clear hbad
            have hval : Hid (Value.tuple #[.int .i64 ((acc : Int) + (t : Int)), .int .i64 ((o : Int) + (k : Int) + 1), .bool true] = a3t o (some (acc + t, k + 1))) := by
              show _ = _
              simp [a3t, Int.add_assoc]
            rcases g3 with g3 | g3
            all_goals
              go_wp2
              all_goals
                go_ret3
                first
                  | exact ⟨by rw [HF.out, ← hval.out]; rfl, rfl⟩
                  | (have hk0 : k = 0 := by omega
                     refine ⟨?_, rfl⟩
                     rw [HF.out, ← hval.out, hk0]
                     show Ending.returned (Value.tuple #[.int .i64 ((acc : Int) + (t : Int)), .int .i64 ((o : Int) + 1), .bool true]) = _
                     simp)
                  | (exfalso; rename_i h9 _; rcases h9 with h9 | h9 <;> first | omega | (have h10 : (v.toNat : Int) = 0 := eq_of_beq h9; omega))
        · have hx1 : (128 : Int) ≤ (v.toNat : Int) := by omega
          have HF := Lib.hid (show rdF (6 - k) k acc (bs.drop (o + k)) = rdF (6 - (k + 1)) (k + 1) (acc + t) (bs.drop (o + (k + 1))) by rw [HV.out, if_neg hx]; rfl)
          go_wp2
          refine ⟨⟨k + 1, acc + t, by omega, by go_num, by go_num, by rw [← HT.out]; exact b8r HA.out, by rw [HD.out, HF.out]⟩, by simp [intOf]; omega⟩
      · have HF := Lib.hid (show rdU bs o = none by
          rw [HU.out, HD.out]
          by_cases h6 : k = 6
          · subst h6; rfl
          · rw [List.drop_eq_nil_of_le (by have := HN.out; omega)]
            rw [show 6 - k = (6 - (k + 1)) + 1 by omega]; rfl)
        clear hacc hrd
        have hend : (6 : Int) ≤ (k : Int) ∨ ((k : Int) < 6 ∧ (n : Int) ≤ (o : Int) + (k : Int)) := by omega
        clear hlt
        rcases hend with g3 | ⟨g3, g4⟩
        all_goals
          go_wp2
          go_ret3
          exact ⟨by rw [HF.out]; rfl, rfl⟩
  · have HF := Lib.hid (show rdU bs off = none from if_neg (by have := HN.out; omega))
    have hout : off < 0 ∨ (0 ≤ off ∧ (n : Int) ≤ off) := by omega
    clear hoff
    rcases hout with g3 | ⟨g3, g4⟩
    all_goals
      go_enter Tryz.func37, Tryz.ntmps37
      go_wp2
      go_loop [4, 5, 6, 7, 8] (fun _ _ _ a i => i = .int .i64 0 ∧ a = .int .i64 0) (fun _ _ _ _ i => 6 - (intOf i).toNat)
      case atStart => exact ⟨rfl, rfl⟩
      case round =>
        obtain ⟨rfl, rfl⟩ := hrel
        go_wp2
        go_ret3
        exact ⟨by rw [HF.out]; rfl, rfl⟩
theorem b9B : ∀ (f i acc : Nat) (l : List UInt8) (v k : Nat), rdF f i acc l = some (v, k) → v ≤ 1000000000000 ∧ i < k ∧ k ≤ i + l.length
 | 0, _, _, _, _, _, h => by simp [rdF] at h
 | _ + 1, _, _, [], _, _, h => by simp [rdF] at h
 | f + 1, i, acc, x :: r, v, k, h => by
  unfold rdF at h
  split at h
  ·split at h
   ·cases h
   ·rename_i hb
    simp only [Option.some.injEq, Prod.mk.injEq] at h
    obtain ⟨rfl, rfl⟩ := h
    simp only [not_or] at hb
    refine ⟨by omega, by omega, by simp⟩
  ·have h2 := b9B f (i + 1) _ r v k h
   simp only [List.length_cons]
   omega
theorem a6I {bs : List UInt8} {off : Int} {v k : Nat} (h : rdU bs off = some (v, k)) : ∃ o p : Nat, off = o ∧ p = o + k ∧ 0 < k ∧ p ≤ bs.length ∧ v ≤ 1000000000000 := by
 unfold rdU at h
 split at h
 ·rename_i h1
  obtain ⟨h2, h3⟩ := h1
  have h4 := b9B _ _ _ _ _ _ h
  rw [List.length_drop] at h4
  exact ⟨off.toNat, off.toNat + k, by omega, rfl, by omega, by omega, h4.1⟩
 ·cases h
def rdB (bs : List UInt8) (off : Int) (most : Int) : Option (List UInt8 × Nat) :=
 match rdU bs off with
 | none => none
 | some (v, k) => if (v : Int) ≤ most ∧ off.toNat + k + v ≤ bs.length then some ((bs.drop (off.toNat + k)).take v, off.toNat + k + v) else none
def a7h : Option (List UInt8 × Nat) → List Value
 | none => [.int .i64 0, .bool false]
 | some (_, p) => [.int .i64 (p : Int), .bool true]
def a1G : Option (List UInt8 × Nat) → List UInt8
 | none => []
 | some (d, _) => d
def b2g {α : Type} (C : Cod (List α)) (x : List α) (t : List Value) (w : World) (e : Ending) (w' : World) : Prop :=
 ∃ A n c fp, e = .returned (.tuple (Value.slice A n c :: t).toArray) ∧ C.Own w' x [.slice A n c] fp ∧ a3C w.heap.size fp ∧ Chg [] w w'
theorem b5D {α : Type} {r : α → List Value → Prop} {n : Nat} (h : ∀ x c, r x c → c.length = n) : ∀ (xs : List α) (cs : List Value) (j : Nat), a2n r xs cs → a2n r (xs.drop j) (cs.drop (j * n))
 | [], cs, j, hc => by simp [a2n] at hc; simp [hc, a2n]
 | x :: xs, cs, 0, hc => by simpa using hc
 | x :: xs, _, j + 1, ⟨c1, c2, e, h1, h2⟩ => by
  have hl := h _ _ h1
  rw [e, List.drop_succ_cons, Nat.add_mul, List.drop_append, List.drop_of_length_le (l := c1) (by rw [hl]; omega), List.nil_append, hl]
  rw [show j * n + 1 * n - n = j * n by omega]
  exact b5D h xs c2 j h2
theorem c0h {α : Type} {e : TypeId} {C : Cod α} {w : World} {B : Nat} {xs : List α} {b o n c : Nat} (h : (a2Z e C).Rd w B xs [.slice (some ⟨b, o, none⟩) n c]) (j : Nat) (hj : j ≤ n) (hz : 0 < n) :
  (a2Z e C).Rd w B (xs.drop j) [.slice (some ⟨b, o + j * C.size, none⟩) (n - j) (c - j)] := by
 obtain ⟨A', c', cells, e1, h2, h3, h4, h5⟩ := h
 simp only [List.cons.injEq, Value.slice.injEq, and_true] at e1
 obtain ⟨rfl, rfl, rfl⟩ := e1
 refine ⟨_, _, cells.drop (j * C.size), by rw [List.length_drop], by rw [List.length_drop]; omega, by omega, b5D (fun _ _ hr => C.rd_len hr) _ _ j h4, fun hp => ?_⟩
 obtain ⟨b', off, e1, e2, e3⟩ := h5 (by omega)
 cases e1
 refine ⟨b, o + j * C.size, rfl, e2, fun i u hu => ?_⟩
 rw [List.getElem?_drop] at hu
 rw [Nat.add_assoc]
 exact e3 _ u hu
theorem b5Z {α : Type} {e : TypeId} {C : Cod α} {w : World} {B : Nat} {xs : List α} {A : Option Addr} {v c : Nat} (h : v = 0) (hc : c ≤ 9223372036854775807) : (a2Z e C).Rd w B (xs.take v) [.slice A v c] := by
 subst h
 exact ⟨A, c, [], rfl, Nat.zero_le _, hc, rfl, fun h => absurd h (Nat.lt_irrefl _)⟩
theorem c1r (w0 w : World) {ops : Array Oper} {rest : List Oper} {o : Oper} {a : Act} {Q : Exit → Act → World → Prop} (hgd : o.guard = none) (s x : Operand)
  (ho : o.op = .call { callee := .builtin .append, args := #[s, x], argTypes := #[26, 26] })
  (A : Option Addr) (n c : Nat) (hs : a.eval s = .slice A n c) (xs : List UInt8) (fp : List Nat) (hown : a2w.Own w xs [.slice A n c] fp) (hnd : fp.Nodup)
  (B : Option Addr) (m d : Nat) (hx : a.eval x = .slice B m d) (ys : List UInt8) (hc : Chg [] w0 w) (hr : a2w.Rd w0 w0.heap.size ys [.slice B m d])
  (hlen : n + m ≤ 1073741824)
  (h : ∀ A' c' w' fp', a2w.Own w' (xs ++ ys) [.slice A' (n + m) c'] fp' → fp'.Nodup → (∀ b ∈ fp', b ∈ fp ∨ b ∈ ([] : List Nat) ∨ b = w.heap.size) → Chg fp w w' →
   wpList Tryz.prog ops Q rest (a.put o.dst (.slice A' (n + m) c')) w') : wpList Tryz.prog ops Q (o :: rest) a w := by
 obtain ⟨hl, _, _, hrow, hlt⟩ := b1j hr
 exact a6R a5u w hgd s x _ ho 5 _ 1 Tryz.underlying26 b9i rfl A n c hs xs fp hown B m d hx ys [] _ (hrow.chg hlt (Nat.le_refl _) hc) (b3G _) hl (by simpa using hnd) (by simp only [maxLen]; omega) (by omega) h
set_option maxRecDepth 100000 in
set_option maxHeartbeats 1000000 in
theorem b5C (w : World) (bs : List UInt8) (A : Option Addr) (n c : Nat) (off : Int) (most : Int) (hr : a2w.Rd w w.heap.size bs [.slice A n c]) (hn : n ≤ 16777216) :
  Calls Tryz.prog 47 #[.slice A n c, .int .i64 off, .int .i64 most] w (b2g a2w (a1G (rdB bs off most)) (a7h (rdB bs off most)) w) := by
 have hN := a4a hr
 have hU := b2D w bs A n c off hr hn
 cases hu : rdU bs off with
 | none =>
  have HB := Lib.hid (show rdB bs off most = none by simp [rdB, hu])
  rw [hu, show a3t off none = .tuple #[.int .i64 0, .int .i64 0, .bool false] from rfl] at hU
  have HU := Lib.hid hU
  clear hU hu hr hN
  go_enter Tryz.func47, Tryz.ntmps47
  go_wp2_with fail
  refine (HU.out).mono ?_
  rintro e w' ⟨rfl, rfl⟩
  go_wp2_with fail
  go_ret3
  rw [HB.out]
  exact ⟨_, _, _, [w.heap.size], rfl, a6K rfl, ⟨by simp, by simp⟩, (Chg.refl _ _).alloc _⟩
 | some vk =>
  obtain ⟨v, k⟩ := vk
  obtain ⟨o, p, rfl, hp, hk, hpl, hv⟩ := a6I hu
  have hcn := (a7w hr).2.1
  have hcm := (a7w hr).2.2.1
  obtain ⟨b, o', rfl, hb⟩ := (b1j hr).2.2.2.2 (by omega)
  have hRU : a3t (o : Int) (some (v, k)) = .tuple #[.int .i64 (v : Int), .int .i64 (p : Int), .bool true] := by subst hp; simp [a3t]
  rw [hu, hRU] at hU
  have HU := Lib.hid hU
  have HN := Lib.hid hN
  have hpn : p ≤ n := by omega
  have hcm2 : c ≤ 9223372036854775807 := by simp only [maxLen] at hcm; omega
  clear hRU hU hcm
  by_cases hok : (v : Int) ≤ most ∧ p + v ≤ n
  ·have HB := Lib.hid (show rdB bs o most = some ((bs.drop p).take v, p + v) by
    unfold rdB; rw [hu]; simp only [Int.toNat_natCast]; rw [← hp, if_pos (by omega)])
   have hD1 := b9X (c0h hr p hpn (by omega)) v (by omega)
   rw [show a5u.size = 1 from rfl, Nat.mul_one] at hD1
   have HD := Lib.hid hD1
   clear hD1
   obtain ⟨h1, h2⟩ := hok
   have h3 : (v : Int) ≤ (n : Int) - (p : Int) := by omega
   clear hr hu hN hp
   go_enter Tryz.func47, Tryz.ntmps47
   go_wp2_with fail
   refine (HU.out).mono ?_
   rintro e w' ⟨rfl, rfl⟩
   go_wp2_with fail
   all_goals
    refine (c1x _ ((bs.drop p).take v) _ v _ (by first | exact HD.out | exact b5Z (by omega) (by omega)) (by omega)).mono ?_
    rintro e w1 ⟨A1, n1, c1, fp, rfl, hown, hfr, hchg⟩
    have HO := Lib.hid hown
    have HF := Lib.hid hfr
    have HC := Lib.hid hchg
    clear hown hfr hchg
    go_wp2_with fail
    go_ret3
    rw [HB.out]
    exact ⟨A1, n1, c1, fp, rfl, HO.out, HF.out, HC.out⟩
  ·have HB := Lib.hid (show rdB bs o most = none by
    unfold rdB; rw [hu]; simp only [Int.toNat_natCast]; rw [← hp, if_neg (by omega)])
   have hok' : most < (v : Int) ∨ ((v : Int) ≤ most ∧ (n : Int) - (p : Int) < (v : Int)) := by omega
   clear hok hr hu hN hp
   rcases hok' with h1 | ⟨h1, h2⟩
   all_goals
    go_enter Tryz.func47, Tryz.ntmps47
    go_wp2_with fail
    refine (HU.out).mono ?_
    rintro e w' ⟨rfl, rfl⟩
    go_wp2_with fail
    go_ret3
    rw [HB.out]
    exact ⟨_, _, _, [w.heap.size], rfl, a6K rfl, ⟨by simp, by simp⟩, (Chg.refl _ _).alloc _⟩
set_option maxRecDepth 100000 in
set_option maxHeartbeats 1000000 in
theorem c0B (w : World) (bs : List UInt8) (A : Option Addr) (n c : Nat) (off : Int) (most : Int) (hr : a2w.Rd w w.heap.size bs [.slice A n c]) (hn : n ≤ 16777216) :
  Calls Tryz.prog 36 #[.slice A n c, .int .i64 off, .int .i64 most] w (b2g a2w (a1G (rdB bs off most)) (a7h (rdB bs off most)) w) := by
 have hN := a4a hr
 have hU := b2M w bs A n c off hr hn
 cases hu : rdU bs off with
 | none =>
  have HB := Lib.hid (show rdB bs off most = none by simp [rdB, hu])
  rw [hu, show a3t off none = .tuple #[.int .i64 0, .int .i64 0, .bool false] from rfl] at hU
  have HU := Lib.hid hU
  clear hU hu hr hN
  go_enter Tryz.func36, Tryz.ntmps36
  go_wp2_with fail
  refine (HU.out).mono ?_
  rintro e w' ⟨rfl, rfl⟩
  go_wp2_with fail
  go_ret3
  rw [HB.out]
  exact ⟨_, _, _, [w.heap.size], rfl, a6K rfl, ⟨by simp, by simp⟩, (Chg.refl _ _).alloc _⟩
 | some vk =>
  obtain ⟨v, k⟩ := vk
  obtain ⟨o, p, rfl, hp, hk, hpl, hv⟩ := a6I hu
  have hcn := (a7w hr).2.1
  have hcm := (a7w hr).2.2.1
  obtain ⟨b, o', rfl, hb⟩ := (b1j hr).2.2.2.2 (by omega)
  have hRU : a3t (o : Int) (some (v, k)) = .tuple #[.int .i64 (v : Int), .int .i64 (p : Int), .bool true] := by subst hp; simp [a3t]
  rw [hu, hRU] at hU
  have HU := Lib.hid hU
  have HN := Lib.hid hN
  have hpn : p ≤ n := by omega
  have hcm2 : c ≤ 9223372036854775807 := by simp only [maxLen] at hcm; omega
  clear hRU hU hcm
  by_cases hok : (v : Int) ≤ most ∧ p + v ≤ n
  ·have HB := Lib.hid (show rdB bs o most = some ((bs.drop p).take v, p + v) by
    unfold rdB; rw [hu]; simp only [Int.toNat_natCast]; rw [← hp, if_pos (by omega)])
   have hD1 := b9X (c0h hr p hpn (by omega)) v (by omega)
   rw [show a5u.size = 1 from rfl, Nat.mul_one] at hD1
   have HD := Lib.hid (show a2w.Rd w w.heap.size ((bs.drop p).take v) [.slice (if c = p then some ⟨b, o', none⟩ else some ⟨b, o' + p, none⟩) (p + v - p) (c - p)] by
    rw [Nat.add_sub_cancel_left]
    split
    ·exact b5Z (by omega) (by omega)
    ·exact hD1)
   clear hD1
   obtain ⟨h1, h2⟩ := hok
   have h3 : (v : Int) ≤ (n : Int) - (p : Int) := by omega
   clear hr hu hN hp
   go_enter Tryz.func36, Tryz.ntmps36
   go_wp2_with fail
   refine (HU.out).mono ?_
   rintro e w' ⟨rfl, rfl⟩
   go_wp2_with (first | (at_builtin; (refine c1r w _ rfl _ _ rfl _ 0 0 rfl [] [w.heap.size] (a6K (by simp)) (by simp) _ (p + v - p) _ rfl ((bs.drop p).take v) ((Chg.refl _ _).alloc _) HD.out (by omega) ?_; intro A1 c1 w1 fp hown hnd hfp hchg; simp only [Nat.zero_add, List.nil_append, Nat.add_sub_cancel_left] at hown; have HO := Lib.hid hown; have HC := Lib.hid (((Chg.refl [] w).alloc _).andThen hchg (by simp)); have HF := Lib.hid (c3V hnd hfp); clear hown hfp hchg)))
   all_goals
    go_ret3
    rw [HB.out]
    exact ⟨A1, _, c1, fp, rfl, HO.out, HF.out, HC.out⟩
  ·have HB := Lib.hid (show rdB bs o most = none by
    unfold rdB; rw [hu]; simp only [Int.toNat_natCast]; rw [← hp, if_neg (by omega)])
   have hok' : most < (v : Int) ∨ ((v : Int) ≤ most ∧ (n : Int) - (p : Int) < (v : Int)) := by omega
   clear hok hr hu hN hp
   rcases hok' with h1 | ⟨h1, h2⟩
   all_goals
    go_enter Tryz.func36, Tryz.ntmps36
    go_wp2_with fail
    refine (HU.out).mono ?_
    rintro e w' ⟨rfl, rfl⟩
    go_wp2_with fail
    go_ret3
    rw [HB.out]
    exact ⟨_, _, _, [w.heap.size], rfl, a6K rfl, ⟨by simp, by simp⟩, (Chg.refl _ _).alloc _⟩
def c5N (bs : List UInt8) (v : Int) (ds : List UInt8) : List UInt8 := b7E (c1N bs ds) (a5j v ds)
def b5u (bs : List UInt8) (v : Int) (ds : List UInt8) : Prop := v < 0 ∨ 4000 < (c5N bs v ds).length
instance (bs : List UInt8) (v : Int) (ds : List UInt8) : Decidable (b5u bs v ds) := by unfold b5u; infer_instance
abbrev a7N : Cod (List (List UInt8)) := a2Z 26 a2w
theorem c0r : (Tryz.prog.info? 26).map (fun i => (i.zero, i.size, i.bytes)) = some (some (.slice none 0 0), 1, 24) := by kernel_rfl
def a3J (bs : List UInt8) : Nat → Nat → List (List UInt8) → List (List UInt8) × Nat
 | 0, p, acc => (acc, p)
 | f + 1, p, acc => match rdB bs p 4000 with
  | none => (acc, p)
  | some (d, nx) => match rdU bs nx with
   | none => (acc, p)
   | some (s, k) => if (s : Int) = a5j acc.length d then a3J bs f (nx + k) (acc ++ [d]) else (acc, p)
theorem a9V {bs : List UInt8} {off : Int} {most : Int} {d : List UInt8} {nx : Nat} (h : rdB bs off most = some (d, nx)) : off < (nx : Int) ∧ nx ≤ bs.length ∧ d.length ≤ most ∧ d.length ≤ bs.length := by
 unfold rdB at h
 split at h
 ·cases h
 ·rename_i v k hu
  split at h
  ·rename_i hc
   obtain ⟨o, p, rfl, hp, hk, hpl, hv⟩ := a6I hu
   simp only [Option.some.injEq, Prod.mk.injEq, Int.toNat_natCast] at h hc
   obtain ⟨rfl, rfl⟩ := h
   simp only [List.length_take, List.length_drop]
   omega
  ·cases h
theorem a8O {bs : List UInt8} {f p : Nat} {acc : List (List UInt8)} (h : rdB bs p 4000 = none) : a3J bs (f + 1) p acc = (acc, p) := by simp [a3J, h]
theorem a9J {bs : List UInt8} {f p nx : Nat} {acc : List (List UInt8)} {d : List UInt8} (h : rdB bs p 4000 = some (d, nx)) (hu : rdU bs nx = none) : a3J bs (f + 1) p acc = (acc, p) := by simp [a3J, h, hu]
theorem b0i {bs : List UInt8} {f p nx s k : Nat} {acc : List (List UInt8)} {d : List UInt8} (h : rdB bs p 4000 = some (d, nx)) (hu : rdU bs nx = some (s, k)) (hs : ¬ (s : Int) = a5j acc.length d) : a3J bs (f + 1) p acc = (acc, p) := by simp [a3J, h, hu, hs]
theorem a9D {bs : List UInt8} {f p nx s k : Nat} {acc : List (List UInt8)} {d : List UInt8} (h : rdB bs p 4000 = some (d, nx)) (hu : rdU bs nx = some (s, k)) (hs : (s : Int) = a5j acc.length d) : a3J bs (f + 1) p acc = a3J bs f (nx + k) (acc ++ [d]) := by simp [a3J, h, hu, hs]
def rl (bs : List UInt8) : List (List UInt8) × Nat := a3J bs (bs.length + 1) 0 []
theorem c1H {bs : List UInt8} {p : Nat} {most : Int} (h : bs.length ≤ p) : rdB bs p most = none := by
 have hu : rdU bs p = none := if_neg (by omega)
 simp [rdB, hu]
set_option maxRecDepth 100000 in
set_option maxHeartbeats 1000000 in
theorem c4A (w : World) (bs : List UInt8) (A : Option Addr) (n c : Nat) (hr : a2w.Rd w w.heap.size bs [.slice A n c]) (hn : n ≤ 2097152) :
  Calls Tryz.prog 22 #[.slice A n c] w (b2g a7N (rl bs).1 [.int .i64 ((rl bs).2 : Int)] w) := by
 have HN := Lib.hid (a4a hr)
 have HR := Lib.hid hr
 clear hr
 go_enter Tryz.func22, Tryz.ntmps22
 go_wp2
 go_loopw [2, 3, 4, 5] (fun _ _ o a wr => ∃ (f p : Nat) (acc : List (List UInt8)) (A' : Option Addr) (no c' : Nat) (fp : List Nat), o = .slice A' no c' ∧ a = .int .i64 p ∧ p ≤ n ∧ n - p < f ∧ no ≤ p ∧ rl bs = a3J bs f p acc ∧ a7N.Own wr acc [.slice A' no c'] fp ∧ a3C w.heap.size fp ∧ Chg [] w wr) (fun _ _ _ a _ => n - (intOf a).toNat)
 case atStart => exact ⟨n + 1, 0, [], _, 0, 0, [w.heap.size], rfl, rfl, by omega, by omega, by omega, by rw [HN.out]; rfl, a6K rfl, ⟨by simp, by simp⟩, (Chg.refl _ _).alloc _⟩
 case round =>
  obtain ⟨f, p, acc, A', no, c', fp, rfl, rfl, hp, hf, hnp, heq, hown, hfr, hchg⟩ := hrel
  obtain ⟨f', rfl⟩ : ∃ f', f = f' + 1 := ⟨f - 1, by omega⟩
  have HE := Lib.hid heq
  have HO := Lib.hid hown
  have HF := Lib.hid hfr
  have HC := Lib.hid hchg
  have HL := Lib.hid (own_len hown)
  have hRB := b5C wr bs A n c p 4000 (a7Z HR.out hchg) (by omega)
  clear heq hown hfr hchg
  cases hb : rdB bs p 4000 with
  | none =>
   rw [hb, show a7h none = [.int .i64 0, .bool false] from rfl] at hRB
   have HRB := Lib.hid hRB
   have HX := Lib.hid (HE.out.trans (a8O hb))
   clear hRB hb
   go_wp2_with fail
   refine (HRB.out).mono ?_
   rintro e w1 ⟨A1, n1, c1, f1, rfl, hown1, hfr1, hchg1⟩
   have HO1 := Lib.hid (a3Y HO.out hchg1)
   have HC1 := Lib.hid (HC.out.trans hchg1)
   clear hown1 hfr1 hchg1
   go_wp2_with fail
   go_ret2
   exact ⟨A', no, c', fp, by rw [HX.out]; rfl, by rw [HX.out]; exact HO1.out, HF.out, HC1.out⟩
  | some dn =>
   obtain ⟨d, nx⟩ := dn
   have hbd := a9V hb
   have hnx : p < nx ∧ nx ≤ n ∧ (d.length : Int) ≤ 4000 := by have := HN.out; omega
   obtain ⟨hx1, hx2, hx3⟩ := hnx
   rw [hb, show a7h (some (d, nx)) = [.int .i64 (nx : Int), .bool true] from rfl, show a1G (some (d, nx)) = d from rfl] at hRB
   have HRB := Lib.hid hRB
   have HB := Lib.hid hb
   clear hRB hb hbd
   go_wp2_with fail
   refine (HRB.out).mono ?_
   rintro e w1 ⟨A1, n1, c1, f1, rfl, hown1, hfr1, hchg1⟩
   have HO1 := Lib.hid (a3Y HO.out hchg1)
   have HC1 := Lib.hid (HC.out.trans hchg1)
   have HD1 := Lib.hid hown1
   have HFD := Lib.hid hfr1
   have hn1 : n1 ≤ 4000 := by have := own_len hown1; omega
   have hz := hchg1.size
   have hUR := b2D w1 bs A n c nx (a7Z HR.out HC1.out) (by omega)
   clear hown1 hfr1 hchg1
   cases hu : rdU bs nx with
   | none =>
    rw [hu, show a3t (nx : Int) none = .tuple #[.int .i64 0, .int .i64 0, .bool false] from rfl] at hUR
    have HUR := Lib.hid hUR
    have HX := Lib.hid (HE.out.trans (a9J HB.out hu))
    clear hUR hu
    go_wp2_with fail
    refine (HUR.out).mono ?_
    rintro e w2 ⟨rfl, rfl⟩
    go_wp2_with fail
    go_ret2
    exact ⟨A', no, c', fp, by rw [HX.out]; rfl, by rw [HX.out]; exact HO1.out, HF.out, HC1.out⟩
   | some sk =>
    obtain ⟨s, k⟩ := sk
    obtain ⟨o, q, ho, hq, hk, hql, hs⟩ := a6I hu
    have ho' : o = nx := by omega
    subst ho'
    have hqn : q ≤ n := by have := HN.out; omega
    rw [hu, show a3t (o : Int) (some (s, k)) = .tuple #[.int .i64 (s : Int), .int .i64 (q : Int), .bool true] by rw [hq]; simp [a3t]] at hUR
    have HUR := Lib.hid hUR
    have HQ := Lib.hid hq
    have HU := Lib.hid hu
    clear hUR hu hq ho hql
    go_wp2_with fail
    refine (HUR.out).mono ?_
    rintro e w2 ⟨rfl, rfl⟩
    go_wp2_with fail
    refine (c6B _ no d A1 n1 c1 (b0f HD1.out) (by omega) (by omega) (by omega)).mono ?_
    rintro e w3 ⟨rfl, hchg3⟩
    have HO3 := Lib.hid (a3Y HO1.out hchg3)
    have HC3 := Lib.hid (HC1.out.trans hchg3)
    have HD3 := Lib.hid (a3Y HD1.out hchg3)
    have hz3 := hchg3.size
    clear hchg3
    by_cases hsum : (s : Int) = a5j no d
    ·have HX := Lib.hid (HE.out.trans (a9D (f := f') HB.out HU.out (by rw [← HL.out]; exact hsum)))
     have HND := Lib.hid (HF.out.append HFD.out (a7N.own_lt HO.out) HC.out.size)
     go_wp2_with (first | (at_builtin; refine a6R a2w _ rfl _ _ _ rfl 26 _ 24 Tryz.underlying47 c0r rfl A' no c' rfl acc fp (a3Y HO3.out ((Chg.refl _ _).alloc _)) (some ⟨w3.heap.size, 0, none⟩) 1 1 rfl [d] f1 [.slice A1 n1 c1] (a2z.new _ _ 1 1 _ rfl rfl) (a1l.one (a3Y HD3.out ((Chg.refl _ _).alloc _))) rfl HND.out.1 (by simp only [maxLen]; omega) (by omega) ?_; intro A2 c2 w4 fp2 hown hnd hfp hchg; have H1 := Lib.hid hown; have H2 := Lib.hid ((HC3.out.alloc _).andThen hchg (fun x hx => .inr (HF.out.2 x hx))); have H3 := Lib.hid hfp; have H4 := Lib.hid hnd; clear hown hchg hfp hnd))
     go_roundw
     case rel =>
      refine ⟨f', q, acc ++ [d], A2, no + 1, c2, fp2, by go_num, by go_num, hqn, by have := HQ.out; omega, by have := HQ.out; omega, by rw [HX.out, HQ.out], H1.out, ⟨H4.out, fun x hx => ?_⟩, H2.out⟩
      rcases H3.out x hx with h | h | h
      ·exact HND.out.2 x (by simp [h])
      ·exact HND.out.2 x (by simp [h])
      ·have := HC3.out.size; (try simp at h); omega
     case measure => have := HQ.out; simp [intOf]; omega
    ·have HX := Lib.hid (HE.out.trans (b0i HB.out HU.out (by rw [← HL.out]; exact hsum)))
     go_wp2_with fail
     go_ret2
     exact ⟨A', no, c', fp, by rw [HX.out]; rfl, by rw [HX.out]; exact HO3.out, HF.out, HC3.out⟩
set_option maxRecDepth 100000 in
set_option maxHeartbeats 1000000 in
theorem c1g (w : World) (bs : List UInt8) (A : Option Addr) (n c : Nat) (hr : a2w.Rd w w.heap.size bs [.slice A n c]) (hn : n ≤ 2097152) :
  Calls Tryz.prog 16 #[.slice A n c] w (b2g a7N (rl bs).1 [.int .i64 ((rl bs).2 : Int)] w) := by
 have HN := Lib.hid (a4a hr)
 have HR := Lib.hid hr
 clear hr
 go_enter Tryz.func16, Tryz.ntmps16
 go_wp2
 go_loopw [4, 5] (fun o a wr => ∃ (f p : Nat) (acc : List (List UInt8)) (A' : Option Addr) (no c' : Nat) (fp : List Nat), o = .slice A' no c' ∧ a = .int .i64 p ∧ p ≤ n ∧ n - p < f ∧ no ≤ p ∧ rl bs = a3J bs f p acc ∧ a7N.Own wr acc [.slice A' no c'] fp ∧ a3C w.heap.size fp ∧ Chg [] w wr) (fun _ a _ => n - (intOf a).toNat)
 case atStart => exact ⟨n + 1, 0, [], _, 0, 0, [w.heap.size], rfl, rfl, by omega, by omega, by omega, by rw [HN.out]; rfl, a6K rfl, ⟨by simp, by simp⟩, (Chg.refl _ _).alloc _⟩
 case round =>
  obtain ⟨f, p, acc, A', no, c', fp, rfl, rfl, hp, hf, hnp, heq, hown, hfr, hchg⟩ := hrel
  obtain ⟨f', rfl⟩ : ∃ f', f = f' + 1 := ⟨f - 1, by omega⟩
  have HE := Lib.hid heq
  have HO := Lib.hid hown
  have HF := Lib.hid hfr
  have HC := Lib.hid hchg
  have HL := Lib.hid (own_len hown)
  have hRB := c0B wr bs A n c p 4000 (a7Z HR.out hchg) (by omega)
  clear heq hown hfr hchg
  by_cases hpn : n ≤ p
  ·have HX := Lib.hid (HE.out.trans (a8O (c1H (by have := HN.out; omega))))
   clear hRB
   have hpn' : (n : Int) ≤ p := by omega
   go_wp2_with fail
   go_ret2
   exact ⟨A', no, c', fp, by rw [HX.out]; rfl, by rw [HX.out]; exact HO.out, HF.out, HC.out⟩
  have hpn' : (p : Int) < n := by omega
  clear hpn
  cases hb : rdB bs p 4000 with
  | none =>
   rw [hb, show a7h none = [.int .i64 0, .bool false] from rfl] at hRB
   have HRB := Lib.hid hRB
   have HX := Lib.hid (HE.out.trans (a8O hb))
   clear hRB hb
   go_wp2_with fail
   refine (HRB.out).mono ?_
   rintro e w1 ⟨A1, n1, c1, f1, rfl, hown1, hfr1, hchg1⟩
   have HO1 := Lib.hid (a3Y HO.out hchg1)
   have HC1 := Lib.hid (HC.out.trans hchg1)
   clear hown1 hfr1 hchg1
   go_wp2_with fail
   go_ret2
   exact ⟨A', no, c', fp, by rw [HX.out]; rfl, by rw [HX.out]; exact HO1.out, HF.out, HC1.out⟩
  | some dn =>
   obtain ⟨d, nx⟩ := dn
   have hbd := a9V hb
   have hnx : p < nx ∧ nx ≤ n ∧ (d.length : Int) ≤ 4000 := by have := HN.out; omega
   obtain ⟨hx1, hx2, hx3⟩ := hnx
   rw [hb, show a7h (some (d, nx)) = [.int .i64 (nx : Int), .bool true] from rfl, show a1G (some (d, nx)) = d from rfl] at hRB
   have HRB := Lib.hid hRB
   have HB := Lib.hid hb
   clear hRB hb hbd
   go_wp2_with fail
   refine (HRB.out).mono ?_
   rintro e w1 ⟨A1, n1, c1, f1, rfl, hown1, hfr1, hchg1⟩
   have HO1 := Lib.hid (a3Y HO.out hchg1)
   have HC1 := Lib.hid (HC.out.trans hchg1)
   have HD1 := Lib.hid hown1
   have HFD := Lib.hid hfr1
   have hn1 : n1 ≤ 4000 := by have := own_len hown1; omega
   have hz := hchg1.size
   have hUR := b2M w1 bs A n c nx (a7Z HR.out HC1.out) (by omega)
   clear hown1 hfr1 hchg1
   cases hu : rdU bs nx with
   | none =>
    rw [hu, show a3t (nx : Int) none = .tuple #[.int .i64 0, .int .i64 0, .bool false] from rfl] at hUR
    have HUR := Lib.hid hUR
    have HX := Lib.hid (HE.out.trans (a9J HB.out hu))
    clear hUR hu
    go_wp2_with fail
    refine (HUR.out).mono ?_
    rintro e w2 ⟨rfl, rfl⟩
    go_wp2_with fail
    go_ret2
    exact ⟨A', no, c', fp, by rw [HX.out]; rfl, by rw [HX.out]; exact HO1.out, HF.out, HC1.out⟩
   | some sk =>
    obtain ⟨s, k⟩ := sk
    obtain ⟨o, q, ho, hq, hk, hql, hs⟩ := a6I hu
    have ho' : o = nx := by omega
    subst ho'
    have hqn : q ≤ n := by have := HN.out; omega
    rw [hu, show a3t (o : Int) (some (s, k)) = .tuple #[.int .i64 (s : Int), .int .i64 (q : Int), .bool true] by rw [hq]; simp [a3t]] at hUR
    have HUR := Lib.hid hUR
    have HQ := Lib.hid hq
    have HU := Lib.hid hu
    clear hUR hu hq ho hql
    go_wp2_with fail
    refine (HUR.out).mono ?_
    rintro e w2 ⟨rfl, rfl⟩
    go_wp2_with fail
    refine (c1E _ no d A1 n1 c1 (b0f HD1.out) (by omega) (by omega) (by omega)).mono ?_
    rintro e w3 ⟨rfl, hchg3⟩
    have HO3 := Lib.hid (a3Y HO1.out hchg3)
    have HC3 := Lib.hid (HC1.out.trans hchg3)
    have HD3 := Lib.hid (a3Y HD1.out hchg3)
    have hz3 := hchg3.size
    clear hchg3
    by_cases hsum : (s : Int) = a5j no d
    ·have HX := Lib.hid (HE.out.trans (a9D (f := f') HB.out HU.out (by rw [← HL.out]; exact hsum)))
     have HND := Lib.hid (HF.out.append HFD.out (a7N.own_lt HO.out) HC.out.size)
     go_wp2_with (first | (at_builtin; refine a6R a2w _ rfl _ _ _ rfl 26 _ 24 Tryz.underlying47 c0r rfl A' no c' rfl acc fp (a3Y HO3.out ((Chg.refl _ _).alloc _)) (some ⟨w3.heap.size, 0, none⟩) 1 1 rfl [d] f1 [.slice A1 n1 c1] (a2z.new _ _ 1 1 _ rfl rfl) (a1l.one (a3Y HD3.out ((Chg.refl _ _).alloc _))) rfl HND.out.1 (by simp only [maxLen]; omega) (by omega) ?_; intro A2 c2 w4 fp2 hown hnd hfp hchg; have H1 := Lib.hid hown; have H2 := Lib.hid ((HC3.out.alloc _).andThen hchg (fun x hx => .inr (HF.out.2 x hx))); have H3 := Lib.hid hfp; have H4 := Lib.hid hnd; clear hown hchg hfp hnd))
     go_roundw
     case rel =>
      refine ⟨f', q, acc ++ [d], A2, no + 1, c2, fp2, by go_num, by go_num, hqn, by have := HQ.out; omega, by have := HQ.out; omega, by rw [HX.out, HQ.out], H1.out, ⟨H4.out, fun x hx => ?_⟩, H2.out⟩
      rcases H3.out x hx with h | h | h
      ·exact HND.out.2 x (by simp [h])
      ·exact HND.out.2 x (by simp [h])
      ·have := HC3.out.size; (try simp at h); omega
     case measure => have := HQ.out; simp [intOf]; omega
    ·have HX := Lib.hid (HE.out.trans (b0i HB.out HU.out (by rw [← HL.out]; exact hsum)))
     go_wp2_with fail
     go_ret2
     exact ⟨A', no, c', fp, by rw [HX.out]; rfl, by rw [HX.out]; exact HO3.out, HF.out, HC3.out⟩
theorem b5k (bs : List UInt8) : ∀ (f p : Nat) (acc : List (List UInt8)), p ≤ bs.length → (a3J bs f p acc).2 ≤ bs.length
 | 0, p, acc, h => h
 | f + 1, p, acc, h => by
  cases hb : rdB bs p 4000 with
  | none => rw [a8O hb]; exact h
  | some dn =>
   obtain ⟨d, nx⟩ := dn
   cases hu : rdU bs nx with
   | none => rw [a9J hb hu]; exact h
   | some sk =>
    obtain ⟨s, k⟩ := sk
    by_cases hs : (s : Int) = a5j acc.length d
    ·rw [a9D hb hu hs]
     obtain ⟨o, p', ho, hp, hk, hpl, hv⟩ := a6I hu
     exact b5k bs f _ _ (by omega)
    ·rw [b0i hb hu hs]; exact h
theorem c1K (bs : List UInt8) : (rl bs).2 ≤ bs.length := b5k bs _ 0 [] (by omega)
theorem a3e {P : Program} {C : Ctx} {nt : Nat} {σ : St} {o : Oper} {Ks Bs K : List Nat} {k : IntKind} {m n : Int} (h : Pu P C nt o σ (.one (.dv K (.int k m))) Ks Bs) (e : m = n) : Pu P C nt o σ (.one (.dv K (.int k n))) Ks Bs := e ▸ h
def uvV (b : List UInt8) (off : Int) : Int := match rdU b off with | none => 0 | some (v, _) => (v : Int)
def uvP (b : List UInt8) (off : Int) : Int := match rdU b off with | none => 0 | some (_, k) => off + (k : Int)
def uvK (b : List UInt8) (off : Int) : Bool := (rdU b off).isSome
def rbP : Option (List UInt8 × Nat) → Int
 | none => 0
 | some (_, p) => (p : Int)
theorem b4L (b : List UInt8) (off : Int) : a3t off (rdU b off) = .tuple [Value.int .i64 (uvV b off), .int .i64 (uvP b off), .bool (uvK b off)].toArray := by
 unfold uvV uvP uvK
 cases rdU b off with
 | none => rfl
 | some r => obtain ⟨v, k⟩ := r; rfl
theorem a8P (b : List UInt8) (off : Int) : 0 ≤ uvV b off ∧ uvV b off ≤ 1000000000000 ∧ 0 ≤ uvP b off ∧ uvP b off ≤ (b.length : Int) := by
 unfold uvV uvP
 cases h : rdU b off with
 | none => simp
 | some r =>
  obtain ⟨v, k⟩ := r
  obtain ⟨o, p, h1, h2, h3, h4, h5⟩ := a6I h
  simp only
  omega
theorem b9M (r : Option (List UInt8 × Nat)) : a7h r = [.int .i64 (rbP r), .bool r.isSome] := by
 cases r with
 | none => rfl
 | some q => obtain ⟨d, p⟩ := q; rfl
theorem a8g (b : List UInt8) (off most : Int) : 0 ≤ rbP (rdB b off most) ∧ rbP (rdB b off most) ≤ (b.length : Int) ∧ (a1G (rdB b off most)).length ≤ b.length := by
 cases h : rdB b off most with
 | none => simp [rbP, a1G]
 | some r =>
  obtain ⟨d, p⟩ := r
  have := a9V h
  simp only [rbP, a1G]
  omega
theorem b6f (bs : List UInt8) : ∀ (f p : Nat) (acc : List (List UInt8)), acc.length ≤ p → (a3J bs f p acc).1.length ≤ (a3J bs f p acc).2
 | 0, p, acc, h => h
 | f + 1, p, acc, h => by
  cases hb : rdB bs p 4000 with
  | none => rw [a8O hb]; exact h
  | some dn =>
   obtain ⟨d, nx⟩ := dn
   have hbs := a9V hb
   cases hu : rdU bs nx with
   | none => rw [a9J hb hu]; exact h
   | some sk =>
    obtain ⟨s, k⟩ := sk
    by_cases hs : (s : Int) = a5j acc.length d
    ·rw [a9D hb hu hs]
     exact b6f bs f _ _ (by rw [List.length_append]; simp only [List.length_cons, List.length_nil]; omega)
    ·rw [b0i hb hu hs]; exact h
theorem b2e (bs : List UInt8) : (rl bs).1.length ≤ bs.length ∧ (rl bs).2 ≤ bs.length := by
 have h1 := b6f bs (bs.length + 1) 0 [] (by simp)
 have h2 := c1K bs
 have h3 : (rl bs).1.length ≤ (rl bs).2 := h1
 omega
theorem a8U {P : Program} {us : List SV} {w : World} {vals : List Value} {bs : List UInt8} {i : Nat} (h : a9F P us w vals) (hi : us[i]? = some (.one (.dv [] (a0x bs)))) : ∃ A c, vals[i]? = some (.slice A bs.length c) ∧ a2w.Rd w w.heap.size bs [.slice A bs.length c] := by
 obtain ⟨C, L, h⟩ := h
 obtain ⟨u, h1, h2⟩ := h i _ hi
 simp only [SVr, CVr] at h2
 obtain ⟨A, c, rfl, hr⟩ := c4z h2
 exact ⟨A, c, h1, hr⟩
theorem a7O {P : Program} {us : List SV} {w : World} {vals : List Value} {n : Int} {i : Nat} (h : a9F P us w vals) (hi : us[i]? = some (.one (.dv [] (.int .i64 n)))) : vals[i]? = some (.int .i64 n) := by
 obtain ⟨C, L, h⟩ := h
 obtain ⟨u, h1, h2⟩ := h i _ hi
 simp only [SVr, CVr, Lay] at h2
 rw [h1, h2.1]
theorem a9w {ok : Nat → Prop} {w : World} {n : Int} (h1 : -9223372036854775808 ≤ n) (h2 : n ≤ 9223372036854775807) : Lay ok w (.int .i64 n) (.int .i64 n) := by
 simp only [Lay]
 exact ⟨trivial, h1, h2⟩
theorem b4E {ok : Nat → Prop} {w : World} {b : Bool} : Lay ok w (.bool b) (.bool b) := by
 simp only [Lay]
theorem b1u {C : Ctx} {L : Lyt} {w : World} {n : Int} (h1 : -9223372036854775808 ≤ n) (h2 : n ≤ 9223372036854775807) : CVr C L w (.dv [] (.int .i64 n)) (.int .i64 n) := by
 simp only [CVr]
 exact a9w h1 h2
theorem b9f {C : Ctx} {L : Lyt} {w : World} {b : Bool} : CVr C L w (.dv [] (.bool b)) (.bool b) := by
 simp only [CVr]
 exact b4E
theorem b1G {b : List UInt8} {off : Int} (hb : b.length ≤ 16777216) : PFn Tryz.prog 48 [.one (.dv [] (a0x (b))), .one (.dv [] (.int .i64 (off)))] (.tup [(false, [.dv [] (.int .i64 (uvV b off))]), (false, [.dv [] (.int .i64 (uvP b off))]), (false, [.dv [] (.bool (uvK b off))])]) := by
 have hbd := a8P b off
 refine b3p (v := .tuple [Value.int .i64 (uvV b off), .int .i64 (uvP b off), .bool (uvK b off)].toArray) rfl (fun C L w => ?_) (fun w vals hl h => ?_)
 ·simp only [SVr]
  exact ⟨_, rfl, _, _, _, rfl, ⟨_, _, rfl, b1u (by omega) (by omega), rfl⟩, by simp, _, _, _, rfl, ⟨_, _, rfl, b1u (by omega) (by omega), rfl⟩, by simp, _, _, _, rfl, ⟨_, _, rfl, b9f, rfl⟩, by simp, rfl⟩
 ·obtain ⟨A, c, h1, hr⟩ := a8U (i := 0) (bs := b) h rfl
  have h3 := a7O (i := 1) (n := off) h rfl
  obtain rfl : vals = [.slice A b.length c, .int .i64 off] := by
   match vals, hl with
   | [x, y], _ => simp at h1 h3; rw [h1, h3]
  refine (b2D w b A b.length c off hr hb).mono ?_
  rintro e w' ⟨rfl, rfl⟩
  exact ⟨by rw [b4L], Chg.refl _ _⟩
theorem a9M {b : List UInt8} {off m : Int} (hb : b.length ≤ 16777216) : KFn Tryz.prog 47 [.one (.dv [] (a0x (b))), .one (.dv [] (.int .i64 (off))), .one (.dv [] (.int .i64 (m)))] (.tup [(false, [.key 0]), (false, [.dv [] (.int .i64 (rbP (rdB b off m)))]), (false, [.dv [] (.bool ((rdB b off m).isSome))])]) [(0, some (a0b false (a0x (a1G (rdB b off m)))))] := by
 have hbd := a8g b off m
 refine b1q (ts := [(.int .i64 (rbP (rdB b off m)), .int .i64 (rbP (rdB b off m))), (.bool (rdB b off m).isSome, .bool (rdB b off m).isSome)]) (fun t ht ok w => ?_) (fun w vals hl h => ?_)
 ·simp only [List.mem_cons, List.not_mem_nil, or_false] at ht
  rcases ht with rfl | rfl
  ·exact a9w (by omega) (by omega)
  ·exact b4E
 ·obtain ⟨A, c, h1, hr⟩ := a8U (i := 0) (bs := b) h rfl
  have h3 := a7O (i := 1) (n := off) h rfl
  have h5 := a7O (i := 2) (n := m) h rfl
  obtain rfl : vals = [.slice A b.length c, .int .i64 off, .int .i64 m] := by
   match vals, hl with
   | [x, y, z], _ => simp at h1 h3 h5; rw [h1, h3, h5]
  refine (b5C w b A b.length c off m hr hb).mono ?_
  rintro e w' ⟨A1, n1, c1, fp, rfl, ho, hf, hc⟩
  exact ⟨_, fp, by rw [b9M]; rfl, b0X ho, hf, hc⟩
theorem c4R {b : List UInt8} (hb : b.length ≤ 2097152) : KFn Tryz.prog 22 [.one (.dv [] (a0x (b)))] (.tup [(false, [.key 0]), (false, [.dv [] (.int .i64 ((rl b).2 : Int))])]) [(0, some (KC.mk false 26 1 (rl b).1.length ((rl b).1.flatMap fun d => [a0x d])))] := by
 have hcn := b2e b
 refine b1q (ts := [(.int .i64 ((rl b).2 : Int), .int .i64 ((rl b).2 : Int))]) (fun t ht ok w => ?_) (fun w vals hl h => ?_)
 ·simp only [List.mem_cons, List.not_mem_nil, or_false] at ht
  subst ht
  exact a9w (by omega) (by omega)
 ·obtain ⟨A, c, h1, hr⟩ := a8U (i := 0) (bs := b) h rfl
  obtain rfl : vals = [.slice A b.length c] := by
   match vals, hl with
   | [x], _ => simp at h1; rw [h1]
  refine (c4A w b A b.length c hr hb).mono ?_
  rintro e w' ⟨A1, n1, c1, fp, rfl, ho, hf, hc⟩
  refine ⟨_, fp, rfl, b3Y (e := 26) (C' := a2w) (enc := fun d => [a0x d]) (by decide) (fun _ => rfl) (fun x cs f h => ?_) ho, hf, hc⟩
  obtain ⟨v, rfl⟩ : ∃ v, cs = [v] := by
   obtain ⟨u, _, _, h1, _⟩ := h
   exact ⟨u, h1⟩
  simp only [a0I]
  exact ⟨v, [], f, [], rfl, by simp, b0X h, rfl, rfl⟩
theorem b1N {b : List UInt8} {off : Int} (hb : b.length ≤ 16777216) : PFn Tryz.prog 37 [.one (.dv [] (a0x (b))), .one (.dv [] (.int .i64 (off)))] (.tup [(false, [.dv [] (.int .i64 (uvV b off))]), (false, [.dv [] (.int .i64 (uvP b off))]), (false, [.dv [] (.bool (uvK b off))])]) := by
 have hbd := a8P b off
 refine b3p (v := .tuple [Value.int .i64 (uvV b off), .int .i64 (uvP b off), .bool (uvK b off)].toArray) rfl (fun C L w => ?_) (fun w vals hl h => ?_)
 ·simp only [SVr]
  exact ⟨_, rfl, _, _, _, rfl, ⟨_, _, rfl, b1u (by omega) (by omega), rfl⟩, by simp, _, _, _, rfl, ⟨_, _, rfl, b1u (by omega) (by omega), rfl⟩, by simp, _, _, _, rfl, ⟨_, _, rfl, b9f, rfl⟩, by simp, rfl⟩
 ·obtain ⟨A, c, h1, hr⟩ := a8U (i := 0) (bs := b) h rfl
  have h3 := a7O (i := 1) (n := off) h rfl
  obtain rfl : vals = [.slice A b.length c, .int .i64 off] := by
   match vals, hl with
   | [x, y], _ => simp at h1 h3; rw [h1, h3]
  refine (b2M w b A b.length c off hr hb).mono ?_
  rintro e w' ⟨rfl, rfl⟩
  exact ⟨by rw [b4L], Chg.refl _ _⟩
theorem a9O {b : List UInt8} {off m : Int} (hb : b.length ≤ 16777216) : KFn Tryz.prog 36 [.one (.dv [] (a0x (b))), .one (.dv [] (.int .i64 (off))), .one (.dv [] (.int .i64 (m)))] (.tup [(false, [.key 0]), (false, [.dv [] (.int .i64 (rbP (rdB b off m)))]), (false, [.dv [] (.bool ((rdB b off m).isSome))])]) [(0, some (a0b false (a0x (a1G (rdB b off m)))))] := by
 have hbd := a8g b off m
 refine b1q (ts := [(.int .i64 (rbP (rdB b off m)), .int .i64 (rbP (rdB b off m))), (.bool (rdB b off m).isSome, .bool (rdB b off m).isSome)]) (fun t ht ok w => ?_) (fun w vals hl h => ?_)
 ·simp only [List.mem_cons, List.not_mem_nil, or_false] at ht
  rcases ht with rfl | rfl
  ·exact a9w (by omega) (by omega)
  ·exact b4E
 ·obtain ⟨A, c, h1, hr⟩ := a8U (i := 0) (bs := b) h rfl
  have h3 := a7O (i := 1) (n := off) h rfl
  have h5 := a7O (i := 2) (n := m) h rfl
  obtain rfl : vals = [.slice A b.length c, .int .i64 off, .int .i64 m] := by
   match vals, hl with
   | [x, y, z], _ => simp at h1 h3 h5; rw [h1, h3, h5]
  refine (c0B w b A b.length c off m hr hb).mono ?_
  rintro e w' ⟨A1, n1, c1, fp, rfl, ho, hf, hc⟩
  exact ⟨_, fp, by rw [b9M]; rfl, b0X ho, hf, hc⟩
theorem c1e {b : List UInt8} (hb : b.length ≤ 2097152) : KFn Tryz.prog 16 [.one (.dv [] (a0x (b)))] (.tup [(false, [.key 0]), (false, [.dv [] (.int .i64 ((rl b).2 : Int))])]) [(0, some (KC.mk false 26 1 (rl b).1.length ((rl b).1.flatMap fun d => [a0x d])))] := by
 have hcn := b2e b
 refine b1q (ts := [(.int .i64 ((rl b).2 : Int), .int .i64 ((rl b).2 : Int))]) (fun t ht ok w => ?_) (fun w vals hl h => ?_)
 ·simp only [List.mem_cons, List.not_mem_nil, or_false] at ht
  subst ht
  exact a9w (by omega) (by omega)
 ·obtain ⟨A, c, h1, hr⟩ := a8U (i := 0) (bs := b) h rfl
  obtain rfl : vals = [.slice A b.length c] := by
   match vals, hl with
   | [x], _ => simp at h1; rw [h1]
  refine (c1g w b A b.length c hr hb).mono ?_
  rintro e w' ⟨A1, n1, c1, fp, rfl, ho, hf, hc⟩
  refine ⟨_, fp, rfl, b3Y (e := 26) (C' := a2w) (enc := fun d => [a0x d]) (by decide) (fun _ => rfl) (fun x cs f h => ?_) ho, hf, hc⟩
  obtain ⟨v, rfl⟩ : ∃ v, cs = [v] := by
   obtain ⟨u, _, _, h1, _⟩ := h
   exact ⟨u, h1⟩
  simp only [a0I]
  exact ⟨v, [], f, [], rfl, by simp, b0X h, rfl, rfl⟩
end Go.Proofs.YtfejjkndbpejbaaGreat
