/-
  The rules of a small program logic over abstract states: no program is in sight but in the table of its types. Conditions: none.
-/
import Derived.Great.BuildSlice
import Derived.Laws.CopyRow
import Derived.Laws.Externs
import Derived.Lib.AppendStr
import Derived.Lib.AppendZerosOnto
import Derived.Lib.Bytealg
import Derived.Lib.ConvBytes
import Derived.Lib.Overlaps
import Derived.Lib.Slices
import Derived.Lib.Strings
import Derived.Lib.Walk
import Derived.Shelf.RegionOpenPlain
import Derived.Shelf.Spec.SlicesInsert
import Derived.Test.YteellmjlalgjaaaGreatProg
import Derived.WalkKit
import Derived.Test.YteellmjlalgjaaaGreatU1
namespace Go.Proofs.YteellmjlalgjaaaGreat
open Go.RowKit
set_option linter.unusedVariables false
set_option linter.unusedSimpArgs false
section
variable {P : Program} {C : Ctx} {nt : Nat} {σ : St} {L : Lyt} {a : Act} {w : World} {o : Oper} {x y : Operand} {T : TT}
theorem a6f {k : Nat} {js : List Nat} {c' : KC} {same : Bool} : lkk (σ.mut k js same c') k = some c' := by
 simp only [lkk, St.mut, List.cons_append, a0Y, if_true]; rfl
structure AppF (L L' : Lyt) (w w' : World) (k : Nat) (js : List Nat) : Prop where
 chg : Chg (L.fp k) w w'
 fp : ∀ i, i ≠ k → L'.fp i = L.fp i
 bb : L'.bb = L.bb
 new : ∀ b ∈ L'.fp k, b ∈ L.fp k ∨ (∃ j ∈ js, b ∈ L.fp j) ∨ w.heap.size ≤ b
theorem b9T {d k m : Nat} {c : KC} {js : List Nat} {us : List Value} {ds : List DV} {f2 : List Nat} {K : Act → World → Prop} {A' : Option Addr} {c' : Nat} {w' : World} {vs : List Value} {f : List Nat}
  (hd : o.dst = some d) (hnt : d < nt) (hr : Rel P C nt L σ a w) (hk : lkk σ k = some c) (hE' : c.e < 1000000) (hkj : k ∉ js) (hj : ∀ j ∈ js, (lkk σ j).isSome = true) (hm' : ds.length = m * c.sz) (ho2 : a0N w ds us f2) (hf2 : ∀ b ∈ f2, ∃ j ∈ js, b ∈ L.fp j) (hn2 : f2.Nodup)
  (e3 : L.fp k = (L.rv k).ownBlock.toList ++ f) (h5 : 0 < c.sz) (h6 : c.cs.length = c.n * c.sz) (h8 : a0N w c.cs vs f)
  (h9 : w'.ownsRow 0 c.e c.sz (.slice A' (c.n + m) c') (c.n + m) (vs ++ us)) (hchg : Chg (L.rv k).ownBlock.toList w w') (hblk : (L.rv k).ownBlock = (Value.slice A' (c.n + m) c').ownBlock ∨ (Value.slice A' (c.n + m) c').ownBlock = some w.heap.size)
  (hK : ∀ L' a' w', Rel P C nt L' ((σ.mut k js false ⟨false, c.e, c.sz, c.n + m, c.cs ++ ds⟩).put d (.one (.key k))) a' w' → AppF L L' w w' k js → K a' w') : K (a.put o.dst (.slice A' (c.n + m) c')) w' := by
 have hkn := hr.kn k c hk
 rw [e3] at hkn
 obtain ⟨n1, n2, n3⟩ := List.nodup_append.1 hkn
 have hdis : ∀ b ∈ f2, b ∉ L.fp k := fun b hb' hm => by
  obtain ⟨j, hj', hb''⟩ := hf2 b hb'
  obtain ⟨q, hq⟩ := c5r.1 (hj j hj')
  exact hr.kk j k q c hq hk (fun e => hkj (by rw [← e]; exact hj')) b hb'' hm
 have hlt1 : ∀ b ∈ f, b < w.heap.size := a5p _ _ _ h8
 have hlt2 : ∀ b ∈ f2, b < w.heap.size := a5p _ _ _ ho2
 have k1 : a0N w' c.cs vs f := a3g _ _ _ h8 (fun b hb' => hchg.block b (hlt1 b hb') (fun hm => n3 b hm b hb' rfl))
 have k2 : a0N w' ds us f2 := a3g _ _ _ ho2 (fun b hb' => hchg.block b (hlt2 b hb') (fun hm => hdis b hb' (by rw [e3]; simp [hm])))
 have hown' : Own w' (.sl c.e c.sz (c.n + m) (c.cs ++ ds)) (.slice A' (c.n + m) c') ((Value.slice A' (c.n + m) c').ownBlock.toList ++ (f ++ f2)) := by
  unfold Own
  exact ⟨vs ++ us, f ++ f2, rfl, h5, by rw [c5s, h6, hm', Nat.add_mul], a3H hE' h9, a3h _ _ _ _ _ _ k1 k2⟩
 have hnod : (f ++ f2).Nodup := List.nodup_append.2 ⟨n2, hn2, fun x hx' y hy' e' => hdis y hy' (by rw [e3, ← e']; simp [hx'])⟩
 have hsub : ∀ b ∈ (Value.slice A' (c.n + m) c').ownBlock.toList ++ (f ++ f2), b ∈ L.fp k ∨ (∃ j ∈ js, b ∈ L.fp j) ∨ w.heap.size ≤ b := fun b hb' => by
   rcases List.mem_append.1 hb' with hb' | hb'
   ·rcases hblk with hbl | hbl
    ·rw [← hbl] at hb'; exact .inl (by rw [e3]; simp [hb'])
    ·rw [hbl] at hb'
     simp only [Option.toList_some, List.mem_singleton] at hb'
     exact .inr (.inr (by omega))
   ·rcases List.mem_append.1 hb' with hb' | hb'
    ·exact .inl (by rw [e3]; simp [hb'])
    ·obtain ⟨j, hj', hb''⟩ := hf2 b hb'
     exact .inr (.inl ⟨j, hj', hb''⟩)
 have hset := hr.setkey (k := k) (c := c) (c' := ⟨false, c.e, c.sz, c.n + m, c.cs ++ ds⟩) (js := js) (same := false) hk hkj (hchg.mono (fun b hb' => by rw [e3]; simp [hb'])) hown'
  (by
   rcases hblk with hb' | hb'
   ·rw [← hb']
    refine List.nodup_append.2 ⟨n1, hnod, fun x hx' y hy' e' => ?_⟩
    subst e'
    rcases List.mem_append.1 hy' with hy' | hy'
    ·exact n3 x hx' x hy' rfl
    ·exact hdis x hy' (by rw [e3]; simp [hx'])
   ·rw [hb']
    refine List.nodup_append.2 ⟨by simp, hnod, fun x hx' y hy' e' => ?_⟩
    subst e'
    simp only [Option.toList_some, List.mem_singleton] at hx'
    subst hx'
    rcases List.mem_append.1 hy' with hy' | hy'
    ·exact absurd (hlt1 _ hy') (by omega)
    ·exact absurd (hlt2 _ hy') (by omega))
  hsub hj (by simp) (by simp)
 refine hK { L with fp := fun i => if i = k then (Value.slice A' (c.n + m) c').ownBlock.toList ++ (f ++ f2) else L.fp i, rv := fun i => if i = k then .slice A' (c.n + m) c' else L.rv i } _ _ ?_ ?_
 ·rw [hd]
  exact hset.put (v := .one (.key k)) (r := .slice A' (c.n + m) c') hnt (by simp [SVr, CVr]) (by simp [SV.keys, CV.keys, a6f]) (by simp [SV.boxes])
 ·exact ⟨hchg.mono (fun b hb' => by rw [e3]; simp [hb']), fun i hi => if_neg hi, rfl, by simpa using hsub⟩
theorem b2P (hT : TTOk P T) {t e sz by_ d k m cap : Nat} {zc : List CV} {c : KC} {js : List Nat} {A : Option Addr} {us : List Value} {ds : List DV} {f2 : List Nat} {K : Act → World → Prop} {Q : Exit → Act → World → Prop}
  (ho : o.op = .call { callee := .builtin .append, args := #[x, y], argTypes := #[t, t] }) (hd : o.dst = some d) (hnt : d < nt) (ht : look T.sl t = some e) (he : look T.el e = some (sz, by_, zc)) (hl0 : zc.length = sz)
  (hr : Rel P C nt L σ a w) (hk : lkk σ k = some c) (hce : c.e = e) (hcs : c.sz = sz) (hx : a.eval x = L.rv k) (hy : a.eval y = .slice A m cap) (hkj : k ∉ js) (hj : ∀ j ∈ js, (lkk σ j).isSome = true)
  (hsrc : a3w w A m sz us) (ho2 : a0N w ds us f2) (hf2 : ∀ b ∈ f2, ∃ j ∈ js, b ∈ L.fp j) (hn2 : f2.Nodup) (h63 : c.n + m ≤ maxLen) (hb : (c.n + m) * by_ ≤ 140737488355328)
  (hK : ∀ L' a' w', Rel P C nt L' ((σ.mut k js false ⟨false, e, sz, c.n + m, c.cs ++ ds⟩).put d (.one (.key k))) a' w' → AppF L L' w w' k js → K a' w') : o.wp P a w K Q := by
 subst hce; subst hcs
 obtain ⟨inf, z, g1, g2, g3, g4, g5⟩ := hT.el c.e c.sz by_ zc he
 have hown := (hr.ks k c hk).1
 simp only [Own] at hown
 obtain ⟨vs, f, e3, h5, h6, h7, h8⟩ := hown
 have hE' : c.e < 1000000 := hT.lt _ _ he
 have h7 := h7.1 hE'
 have hm' : ds.length = m * c.sz := by rw [← a2n _ _ _ ho2, hsrc.1]
 have hone : ∀ u ∈ us, u.oneCell' = true := a8i (ok := fun _ => True) _ _ (a7x _ _ _ ho2 (fun _ _ => trivial))
 have hzs : z.cells.size = c.sz := by
  have := a6H g5
  simp only [Array.length_toList] at this
  rw [this, hl0]
 refine b1a w x y t ho c.e z c.sz by_ (hT.sl t c.e ht) (by rw [g1]; simp [g2, g3, g4]) hzs h5 (L.rv k) c.n vs hx h7 A m cap us hy hsrc hone h63 hb ?_
 intro A' c' w' h9 hchg hblk
 exact b9T hd hnt hr hk hE' hkj hj hm' ho2 hf2 hn2 e3 h5 h6 h8 h9 hchg hblk hK
theorem b3B (hT : TTOk P T) {t e sz by_ d k m cap : Nat} {zc : List CV} {c : KC} {js : List Nat} {A : Option Addr} {us : List Value} {ds : List DV} {f2 : List Nat} {K : Act → World → Prop} {Q : Exit → Act → World → Prop}
  (ho : o.op = .call { callee := .builtin .append, args := #[x, y], argTypes := #[t, t] }) (hd : o.dst = some d) (hnt : d < nt) (ht : look T.sl t = some e) (he : look T.el e = some (sz, by_, zc)) (hl0 : zc.length = sz)
  (hr : Rel P C nt L σ a w) (hk : lkk σ k = some c) (hce : c.e = e) (hcs : c.sz = sz) (hx : a.eval x = L.rv k) (hy : a.eval y = .slice A m cap) (hkj : k ∉ js) (hj : ∀ j ∈ js, (lkk σ j).isSome = true)
  (hsrc : a3w w A m sz us) (ho2 : a0N w ds us f2) (hf2 : ∀ b ∈ f2, ∃ j ∈ js, b ∈ L.fp j) (hn2 : f2.Nodup) (h63 : c.n + m ≤ maxLen) (hb : (c.n + m) * by_ ≤ 140737488355328)
  (hK : ∀ L' a' w', Rel P C nt L' ((σ.mut k js false ⟨false, e, sz, c.n + m, c.cs ++ ds⟩).put d (.one (.key k))) a' w' → K a' w') : o.wp P a w K Q :=
 b2P hT ho hd hnt ht he hl0 hr hk hce hcs hx hy hkj hj hsrc ho2 hf2 hn2 h63 hb (fun L' a' w' h _ => hK L' a' w' h)
theorem b2J {ok : Nat → Prop} {w w' : World} : ∀ {ds : List DV} {vs : List Value}, ds.all DV.plain = true → a1n ok w ds vs → a0N w' ds vs []
 | [], _, _, h => by simp only [a1n] at h; subst h; simp [a0N]
 | d :: ds, _, hp, h => by
  simp only [List.all_cons, Bool.and_eq_true] at hp
  simp only [a1n] at h
  obtain ⟨v, vs', rfl, h1, h2⟩ := h
  simp only [a0N]
  exact ⟨v, vs', [], [], rfl, rfl, a8u hp.1 h1, b2J hp.2 h2⟩
theorem b1l {ok : Nat → Prop} {w : World} {e sz n : Nat} {cs : List DV} {v : Value} (h : Lay ok w (.sl e sz n cs) v) : ∃ A c vs, v = .slice A n c ∧ a3w w A n sz vs ∧ a1n ok w cs vs := by
 simp only [Lay] at h
 obtain ⟨A, c, vs, e1, h2, h3, h4, h5, h6, h7⟩ := h
 refine ⟨A, c, vs, e1, ⟨by rw [a4w _ _ h6, h5], fun hn => ?_⟩, h6⟩
 obtain ⟨b, off, k1, _, k3⟩ := h7 hn
 exact ⟨b, off, k1, k3⟩
theorem a3e {α : Type} {enc : α → List DV} (h : ∀ x, (enc x).all DV.plain = true) : ∀ xs : List α, (xs.flatMap enc).all DV.plain = true
 | [] => rfl
 | x :: xs => by rw [List.flatMap_cons, List.all_append, h, a3e h xs]; rfl
theorem c3O (hT : TTOk P T) {t e sz by_ d k m : Nat} {zc : List CV} {c : KC} {J : List Nat} {e2 : Nat} {ds : List DV} (ho : o.op = .call { callee := .builtin .append, args := #[x, y], argTypes := #[t, t] }) (hd : o.dst = some d) (hnt : Nat.blt d nt = true) (ht : look T.sl t = some e) (he : look T.el e = some (sz, by_, zc)) (hl0 : zc.length = sz)
  (hx : Ev P C nt σ x (.one (.key k))) (hk : lkk σ k = some c) (hce : c.e = e) (hcs : c.sz = sz) (hy : Ev P C nt σ y (.one (.dv J (.sl e2 sz m ds)))) (hp : ds.all DV.plain = true) (hb : (c.n + m) * by_ ≤ 140737488355328) (h63 : c.n + m ≤ 9223372036854775807) :
  Ef P C nt o σ (fun σ' => σ' = (σ.mut k [] false ⟨false, e, sz, c.n + m, c.cs ++ ds⟩).put d (.one (.key k))) := Ef.mk fun L a w hr K Q hK => by
 have h1 := hx.run L a w hr
 have h2 := hy.run L a w hr
 simp only [SVr, CVr] at h1 h2
 obtain ⟨A, cap, vs, e1, hrow, hlay⟩ := b1l h2
 exact b3B hT ho hd (by simpa [Nat.blt_eq] using hnt) ht he hl0 hr hk hce hcs h1 e1 (by simp) (by simp) hrow (b2J hp hlay) (by simp) (by simp) (by simpa [maxLen] using h63) hb (fun L' a' w' h => hK L' _ _ _ rfl h)
theorem c4d (hT : TTOk P T) {t e sz by_ d k j : Nat} {zc : List CV} {c c2 : KC} (ho : o.op = .call { callee := .builtin .append, args := #[x, y], argTypes := #[t, t] }) (hd : o.dst = some d) (hnt : Nat.blt d nt = true) (ht : look T.sl t = some e) (he : look T.el e = some (sz, by_, zc)) (hl0 : zc.length = sz)
  (hx : Ev P C nt σ x (.one (.key k))) (hk : lkk σ k = some c) (hce : c.e = e) (hcs : c.sz = sz) (hy : Ev P C nt σ y (.one (.key j))) (hj : lkk σ j = some c2) (hcs2 : c2.sz = sz) (hkj : k ∉ [j]) (hb : (c.n + c2.n) * by_ ≤ 140737488355328) (h63 : c.n + c2.n ≤ 9223372036854775807) :
  Ef P C nt o σ (fun σ' => σ' = (σ.mut k [j] false ⟨false, e, sz, c.n + c2.n, c.cs ++ c2.cs⟩).put d (.one (.key k))) := Ef.mk fun L a w hr K Q hK => by
 have h1 := hx.run L a w hr
 have h2 := hy.run L a w hr
 simp only [SVr, CVr] at h1 h2
 have hown := (hr.ks j c2 hj).1
 have hlay := a4O (ok := fun _ => True) _ _ _ hown (fun _ _ => trivial)
 rw [hcs2] at hlay
 simp only [Own] at hown
 obtain ⟨vs, f, e3, h5, h6, h7, h8⟩ := hown
 obtain ⟨A, cap, vs', e1, hrow, hlay'⟩ := b1l hlay
 have hvs : vs' = vs := by
  have h7' := a5o h7
  rcases h7'.2 with ⟨g1, g2⟩ | ⟨g, cap2, cur, t', fz', g1, g2, g3, g4, g5, g6⟩
  ·have l1 : vs.length = 0 := by rw [h7'.1, g2]; simp
   have l2 : vs'.length = 0 := by rw [hrow.1, g2]; simp
   rw [List.eq_nil_of_length_eq_zero l1, List.eq_nil_of_length_eq_zero l2]
  ·rw [e1] at g1
   simp only [Value.slice.injEq, true_and] at g1
   obtain ⟨rfl, rfl⟩ := g1
   rcases Nat.eq_zero_or_pos c2.n with h0 | h0
   ·have l1 : vs.length = 0 := by rw [h7'.1, h0]; simp
    have l2 : vs'.length = 0 := by rw [hrow.1, h0]; simp
    rw [List.eq_nil_of_length_eq_zero l1, List.eq_nil_of_length_eq_zero l2]
   ·obtain ⟨b, off, k1, k2⟩ := hrow.2 h0
    simp only [Option.some.injEq, Addr.mk.injEq, and_true] at k1
    obtain ⟨rfl, rfl⟩ := k1
    apply List.ext_getElem (by rw [hrow.1, h7'.1, hcs2])
    intro i i1 i2
    have q1 := k2 i _ (List.getElem?_eq_getElem i1)
    rw [Nat.zero_add, cell_of_row w _ i cur t' fz' g2] at q1
    have q3 : i < c2.n * c2.sz := by rw [← h7'.1]; exact i2
    have q2 : vs[i]? = cur[i]? := by rw [← g6, List.getElem?_take, if_pos q3, Array.getElem?_toList]
    rw [List.getElem?_eq_getElem i2] at q2
    rw [← q2] at q1
    exact (Option.some.inj q1).symm
 subst hvs
 have hnf : f.Nodup := by
  have := hr.kn j c2 hj
  rw [e3] at this
  exact (List.nodup_append.1 this).2.1
 exact b3B hT ho hd (by simpa [Nat.blt_eq] using hnt) ht he hl0 hr hk hce hcs h1 (by rw [h2]; exact e1) hkj (by simp [hj]) hrow h8 (fun b hb' => ⟨j, by simp, by rw [e3]; simp [hb']⟩) hnf (by simpa [maxLen] using h63) hb (fun L' a' w' h => hK L' _ _ _ rfl h)
theorem Rel.also (h : Rel P C nt L σ a w) {d : Nat} {v : SV} (hv : SVr P C L w v (a.tmps.getD d undef)) (hk : ∀ k ∈ v.keys, (lkk σ k).isSome = true) (hb : ∀ b ∈ v.boxes, (look σ.bx b).isSome = true) : Rel P C nt L (σ.put d v) a w :=
 { h with
  tm := fun i u hu => by
   simp only [St.put, a0Y] at hu
   split at hu
   ·rename_i e
    simp only [Option.some.injEq] at hu
    rw [e, ← hu]; exact hv
   ·exact h.tm i u hu
  bx := h.bx
  ks := h.ks
  b1 := h.b1
  k1 := h.k1
  kn := h.kn
  bb := h.bb
  bk := h.bk
  kk := h.kk
  lk := fun k hk' => by
   simp only [St.tk, St.put, List.flatMap_cons, List.append_assoc, List.mem_append] at hk'
   rcases hk' with hk' | hk'
   ·exact hk k hk'
   ·exact h.lk k (by simp only [St.tk, List.mem_append]; exact hk')
  lb := fun b hb' => by
   simp only [St.tb, St.put, List.flatMap_cons, List.mem_append] at hb'
   rcases hb' with hb' | hb'
   ·exact hb b hb'
   ·exact h.lb b hb' }
theorem Rel.alsoB (h : Rel P C nt L σ a w) {b t : Nat} {cs cs' : List CV} (hb : look σ.bx b = some (t, cs)) (hv : ∀ vs, CVL C L w cs vs → CVL C L w cs' vs) (hk : ∀ k ∈ cs'.flatMap CV.keys, (lkk σ k).isSome = true) : Rel P C nt L ⟨σ.tm, (b, t, cs') :: σ.bx, σ.ks⟩ a w :=
 have hx : ∀ i x, look ((b, t, cs') :: σ.bx) i = some x → ∃ y, look σ.bx i = some y := fun i x hx => by
  simp only [a0Y] at hx
  split at hx
  ·rename_i e; exact ⟨_, by rw [e]; exact hb⟩
  ·exact ⟨_, hx⟩
 { h with
  tm := h.tm
  bx := fun i t' cs'' hx => by
   simp only [a0Y] at hx
   split at hx
   ·rename_i e
    simp only [Option.some.injEq, Prod.mk.injEq] at hx
    obtain ⟨rfl, rfl⟩ := hx
    obtain ⟨vs, h1, h2⟩ := h.bx b _ _ hb
    exact ⟨vs, by rw [e]; exact h1, hv vs h2⟩
   ·exact h.bx i t' cs'' hx
  ks := h.ks
  b1 := fun i x h' => by obtain ⟨y, hy⟩ := hx i x h'; exact h.b1 i y hy
  k1 := h.k1
  kn := h.kn
  bb := fun i j x y h1 h2 => by
   obtain ⟨x', h1'⟩ := hx i x h1
   obtain ⟨y', h2'⟩ := hx j y h2
   exact h.bb i j x' y' h1' h2'
  bk := fun i k x c h' hc => by obtain ⟨y, hy⟩ := hx i x h'; exact h.bk i k y c hy hc
  kk := h.kk
  lk := fun k hm => by
   simp only [St.tk, List.flatMap_cons, List.mem_append] at hm
   rcases hm with hm | hm | hm
   ·exact h.lk k (by simp only [St.tk, List.mem_append]; exact .inl hm)
   ·exact hk k hm
   ·exact h.lk k (by simp only [St.tk, List.mem_append]; exact .inr hm)
  lb := fun b' hm => by
   have := h.lb b' hm
   simp only [a0Y]
   split
   ·rfl
   ·exact this }
theorem b5h {L : Lyt} {w : World} {c' : CV} : ∀ {cs : List CV} {vs : List Value} {i : Nat} {c : CV}, cs[i]? = some c → (∀ v, CVr C L w c v → CVr C L w c' v) → CVL C L w cs vs → CVL C L w (cs.set i c') vs
 | [], _, i, _, h, _, _ => by simp at h
 | x :: xs, _, 0, c, h, hc, ⟨v, vs', e, h1, h2⟩ => by
  simp only [List.getElem?_cons_zero, Option.some.injEq] at h
  subst h
  exact ⟨v, vs', e, hc v h1, h2⟩
 | x :: xs, _, i + 1, c, h, hc, ⟨v, vs', e, h1, h2⟩ => ⟨v, vs', e, h1, b5h (by simpa using h) hc h2⟩
theorem a6X (k : Nat) {b i t e sz : Nat} {cs : List CV} (hb : look σ.bx b = some (t, cs)) (hi : cs[i]? = some .nil) (hk : lkk σ k = none) (hsz : Nat.blt 0 sz = true) (hl : ((cs.set i (.key k)).flatMap CV.keys).all (fun j => Nat.beq j k || (lkk σ j).isSome) = true) :
  Weak P C nt σ ⟨σ.tm, (b, t, cs.set i (.key k)) :: σ.bx, (k, some ⟨false, e, sz, 0, []⟩) :: σ.ks⟩ := Weak.mk fun L a w hr => by
 have hpos : 0 < sz := by simpa [Nat.blt_eq] using hsz
 have h1 := hr.newkey (k := k) (c := ⟨false, e, sz, 0, []⟩) (v := .slice none 0 0) (f := []) hk (a7s w e sz hpos) rfl (by simp) (by simp) (by simp) (by simp)
 refine ⟨_, h1.alsoB (b := b) hb (fun vs hv => b5h hi (fun v hv => ?_) hv) (fun j hj => ?_)⟩
 ·simp only [CVr] at hv ⊢
  rw [hv]; simp
 ·have := List.all_eq_true.1 hl j hj
  simp only [Bool.or_eq_true] at this
  simp only [lkk, a0Y]
  split
  ·rfl
  ·rename_i e'
   rcases this with this | this
   ·exact absurd (Nat.eq_of_beq_eq_true this) e'
   ·exact this
theorem a9r (w : World) (o : Obj) : (w.alloc o).heap[w.heap.size]? = some o := heap_alloc_new w o
theorem b5g (off : Nat) : ∀ (us : List Value) (k : Nat) (cs : List Value), off + k + us.length ≤ cs.length → (us.zipIdx k).foldl (fun (acc : Array Value) (p : Value × Nat) => acc.setIfInBounds (off + p.2) p.1) cs.toArray = (a1c (off + k) us cs).toArray
 | [], k, cs, _ => by simp [a1c]
 | u :: us, k, cs, h => by
  simp only [List.length_cons] at h
  rw [List.zipIdx_cons, List.foldl_cons]
  have e : (cs.toArray.setIfInBounds (off + k) u) = (cs.set (off + k) u).toArray := by simp
  simp only [e]
  rw [b5g off us (k + 1) _ (by simp; omega)]
  congr 1
  have hlt : off + k < cs.length := by omega
  unfold a1c
  rw [List.set_eq_take_append_cons_drop, if_pos hlt]
  have h1 : (cs.take (off + k)).length = off + k := by simp; omega
  have e1 : (cs.take (off + k) ++ u :: cs.drop (off + k + 1)).take (off + (k + 1)) = cs.take (off + k) ++ [u] := by
   rw [show off + (k + 1) = (cs.take (off + k)).length + 1 by omega, List.take_length_add_append]
   simp
  have e2 : (cs.take (off + k) ++ u :: cs.drop (off + k + 1)).drop (off + (k + 1) + us.length) = cs.drop (off + k + (us.length + 1)) := by
   rw [show off + (k + 1) + us.length = (cs.take (off + k)).length + (1 + us.length) by omega, ← List.drop_drop, List.drop_left, ← List.drop_drop]
   simp only [List.drop_succ_cons, List.drop_zero, List.drop_drop]
   congr 1; omega
  rw [e1, e2]
  simp
theorem b1P {place : Nat → Option (Nat × Nat)} {i off sz : Nat} {v : Value} {us cs : List Value} {rest : List (Nat × Value)} (hp : place i = some (off, sz)) (hv : v.cells = us.toArray) (hl : us.length = sz) (hb : off + sz ≤ cs.length) :
  Instr.fill place cs.toArray ((i, v) :: rest) = Instr.fill place (a1c off us cs).toArray rest := by
 have h2 := b5g off us 0 cs (by omega)
 simp only [Nat.add_zero] at h2
 have e2 : (us.toArray.zipIdx.foldl (fun (acc : Array Value) (p : Value × Nat) => acc.setIfInBounds (off + p.2) p.1) cs.toArray) = (a1c off us cs).toArray := by
  rw [← h2]; simp
 conv => lhs; unfold Instr.fill
 simp only [hp, hv, List.size_toArray, hl, ne_eq, not_true_eq_false, decide_false, Bool.false_or, gt_iff_lt, decide_eq_true_eq, Bool.or_eq_true]
 rw [if_neg (by omega)]
 exact congrArg (fun z => Instr.fill place z rest) e2
theorem b7D {t e sz by_ : Nat} {zc : List CV} (hT : TTOk P T) (ht : look T.sl t = some e) (he : look T.el e = some (sz, by_, zc)) (hl0 : zc.length = sz) (hpos : 0 < sz) (hsm : sz ≤ 16777216) {v : Value} {us : List Value} (hv : v.cells = us.toArray) (hl : us.length = sz) :
  (Instr.buildSlice t 1 #[(0, v)]).run P w = .ok (.slice (some ⟨w.heap.size, 0, none⟩) 1 1) (w.alloc (.cells us.toArray e)) := by
 obtain ⟨inf, z, g1, g2, g3, g4, g5⟩ := hT.el e sz by_ zc he
 refine run_buildSlice w t e 1 _ us.toArray inf z (hT.sl t e ht) g1 g4 (by rw [g2]; omega) (by rw [g2]; omega) ?_
 rw [g2]
 have : ((Array.range (1 * sz)).map fun j => z.cells[j % z.cells.size]!) = (((List.range sz).map fun j => z.cells[j % z.cells.size]!)).toArray := by
  rw [Nat.one_mul]
  apply Array.ext'
  simp
 rw [this, b1P (off := 0) (sz := sz) (by simp) hv hl (by simp)]
 have h2 : a1c 0 us ((List.range sz).map fun j => z.cells[j % z.cells.size]!) = us := by
  unfold a1c
  simp [hl]
 rw [h2]
 rfl
theorem b4j {t e sz by_ : Nat} {zc : List CV} (hT : TTOk P T) (ht : look T.sl t = some e) (he : look T.el e = some (sz, by_, zc)) :
  (Instr.buildSlice t 0 #[]).run P w = .ok (.slice (some ⟨w.heap.size, 0, none⟩) 0 0) (w.alloc (.cells #[] e)) := by
 obtain ⟨inf, z, g1, g2, g3, g4, g5⟩ := hT.el e sz by_ zc he
 have h0 : (Array.range 0) = #[] := rfl
 simp [Instr.buildSlice, run_underlying (hT.sl t e ht), sizeOf, typeInfo, g1, Instr.fill, newRow, h0]
theorem b8x (hT : TTOk P T) {t e sz by_ d k : Nat} {zc : List CV} (ho : o.op = .buildSlice t 0 #[]) (hd : o.dst = some d) (hn : Nat.blt d nt = true) (ht : look T.sl t = some e) (he : look T.el e = some (sz, by_, zc)) (hsz : Nat.blt 0 sz = true) (hk : lkk σ k = none) :
  EfG P C nt o σ (fun σ' => σ' = { σ with ks := (k, some ⟨false, e, sz, 0, []⟩) :: σ.ks }.put d (.one (.key k))) := EfG.mk fun L a w hr K Q hK => by
 have hpos : 0 < sz := by simpa [Nat.blt_eq] using hsz
 have hchg : Chg [] w (w.alloc (.cells #[] e)) := (Chg.refl [] w).alloc _
 refine a5u (v := .slice (some ⟨w.heap.size, 0, none⟩) 0 0) (w' := w.alloc (.cells #[] e)) ?_ ?_
 ·unfold execOp
  simp only [ho, List.map_toArray, List.map_nil, b4j (P := P) (w := w) hT ht he, Sem.run_bind, Result.andThen_ok, Sem.run_pure]
 ·have hb := hr.newkey' hchg (c := ⟨false, e, sz, 0, []⟩) (v := .slice (some ⟨w.heap.size, 0, none⟩) 0 0) (f := [w.heap.size]) hk
   (by
    unfold Own
    exact ⟨[], [], rfl, hpos, by simp, a3H (hT.lt e _ he) ⟨by simp, .inr ⟨w.heap.size, 0, #[], rfl, Nat.zero_le _, a9r w _, Nat.le_refl _, Nat.zero_le _, by simp, by simp⟩⟩, by simp [a0N]⟩) rfl (by simp) (by simp)
  refine hK { L with fp := fun j => if j = k then [w.heap.size] else L.fp j, rv := fun j => if j = k then .slice (some ⟨w.heap.size, 0, none⟩) 0 0 else L.rv j } _ _ _ rfl (by rw [hd]; exact hb.put (v := .one (.key k)) (r := .slice (some ⟨w.heap.size, 0, none⟩) 0 0) (by simpa [Nat.blt_eq] using hn) (by simp [SVr, CVr]) (by simp [SV.keys, CV.keys, lkk, a0Y]) (by simp [SV.boxes])) ⟨hchg, fun i c hc => ?_, fun _ _ _ => rfl⟩
  have : i ≠ k := fun e => by rw [e, hk] at hc; cases hc
  simp [this]
theorem c1u (hT : TTOk P T) {t e sz by_ d k : Nat} {zc : List CV} {v : SV} {p : Bool × List CV} {ds : List DV} {js : List Nat} (ho : o.op = .buildSlice t 1 #[(0, x)]) (hd : o.dst = some d) (hn : Nat.blt d nt = true) (ht : look T.sl t = some e) (he : look T.el e = some (sz, by_, zc)) (hl0 : zc.length = sz) (hsz : Nat.blt 0 sz = true) (hsm : Nat.ble sz 16777216 = true)
  (hx : Ev P C nt σ x v) (hp : v.part = some p) (hkv : a1p σ v = true) (how : a4p σ p.2 ds js) (hnj : js.Nodup) (hkj : k ∉ js) (hl : p.2.length = sz) (hk : lkk σ k = none) :
  Ef P C nt o σ (fun σ' => σ' = (St.mut { σ with ks := (k, some ⟨false, e, sz, 0, []⟩) :: σ.ks } k js false ⟨false, e, sz, 1, ds⟩).put d (.one (.key k))) := Ef.mk fun L a w hr K Q hK => by
 have hpos : 0 < sz := by simpa [Nat.blt_eq] using hsz
 obtain ⟨us, h1, h2, h3⟩ := a4R hr hp hkv (hx.run L a w hr)
 have hus : us.length = sz := by rw [a3f h2]; exact hl
 obtain ⟨o1, o2, o3⟩ := a7V hr how h2
 have hchg : Chg [] w (w.alloc (.cells us.toArray e)) := (Chg.refl [] w).alloc _
 have hr1 := hr.newkey (k := k) (c := ⟨false, e, sz, 0, []⟩) (v := .slice none 0 0) (f := []) hk (a7s w e sz hpos) rfl (by simp) (by simp) (by simp) (by simp)
 have hlj : ∀ j ∈ js, (lkk { σ with ks := (k, some ⟨false, e, sz, 0, []⟩) :: σ.ks } j).isSome = true := fun j hj => by
  have hjk : j ≠ k := fun e' => hkj (by rw [← e']; exact hj)
  have := o2 j hj
  simp only [lkk, a0Y, if_neg hjk] at this ⊢
  exact this
 have hlt : ∀ b ∈ js.flatMap L.fp, b < w.heap.size := a5p _ _ _ o1
 have o1' : a0N (w.alloc (.cells us.toArray e)) ds us (js.flatMap L.fp) := a3g _ _ _ o1 (fun b hb => hchg.block b (hlt b hb) (by simp))
 have hset := hr1.setkey (k := k) (c := ⟨false, e, sz, 0, []⟩) (c' := ⟨false, e, sz, 1, ds⟩) (js := js) (same := false) (w' := w.alloc (.cells us.toArray e)) (v' := .slice (some ⟨w.heap.size, 0, none⟩) 1 1) (f' := w.heap.size :: js.flatMap L.fp)
  (by simp [lkk, a0Y]) hkj (by simpa using hchg)
  (by
   unfold Own
   refine ⟨us, js.flatMap L.fp, rfl, hpos, by rw [o3, hl, Nat.one_mul], a3H (hT.lt e _ he) ⟨by rw [hus, Nat.one_mul], .inr ⟨w.heap.size, 1, us.toArray, rfl, Nat.zero_le _, a9r w _, Nat.le_refl _, by simp [maxLen], by simp [hus], by rw [Nat.one_mul, ← hus]; simp⟩⟩, o1'⟩)
  (by
   rw [List.nodup_cons]
   exact ⟨fun hm => absurd (hlt _ hm) (by omega), a9e hr hnj o2⟩)
  (fun b hb => by
   rcases List.mem_cons.1 hb with hb | hb
   ·exact .inr (.inr (by omega))
   ·obtain ⟨j, hj, hb'⟩ := List.mem_flatMap.1 hb
    have hjk : j ≠ k := fun e' => hkj (by rw [← e']; exact hj)
    exact .inr (.inl ⟨j, hj, by simpa [hjk] using hb'⟩)) hlj (by simp) (by simp)
 refine a5u (v := .slice (some ⟨w.heap.size, 0, none⟩) 1 1) (w' := w.alloc (.cells us.toArray e)) ?_ ?_
 ·unfold execOp
  simp only [ho, List.map_toArray, List.map_cons, List.map_nil, b7D (P := P) (w := w) hT ht he hl0 hpos (by simpa [Nat.ble_eq] using hsm) h1 hus, Sem.run_bind, Result.andThen_ok, Sem.run_pure]
 ·rw [hd]
  exact hK _ _ _ _ rfl (hset.put (v := .one (.key k)) (r := .slice (some ⟨w.heap.size, 0, none⟩) 1 1) (by simpa [Nat.blt_eq] using hn) (by simp [SVr, CVr]) (by simp [SV.keys, CV.keys, a6f]) (by simp [SV.boxes]))
/-! over states that are written out -/
section
variable {Q : Exit → St → Prop} {all : Array Oper} {rest : List Oper} {tm : List (Nat × SV)} {bx : List (Nat × TypeId × List CV)} {ks : List (Nat × Option KC)}
theorem b7a (hT : TTOk P T) {t e sz by_ d k m : Nat} {zc : List CV} {c : KC} {J : List Nat} {e2 : Nat} {ds cs : List DV} (hg : o.guard = none) (hd : o.dst = some d) (ho : o.op = .call { callee := .builtin .append, args := #[x, y], argTypes := #[t, t] }) (hnt : Nat.blt d nt = true) (ht : look T.sl t = some e) (he : look T.el e = some (sz, by_, zc)) (hl0 : zc.length = sz)
  (hx : Ev P C nt ⟨tm, bx, ks⟩ x (.one (.key k))) (hk : lkk ⟨tm, bx, ks⟩ k = some c) (hce : c.e = e) (hcs : c.sz = sz) (hy : Ev P C nt ⟨tm, bx, ks⟩ y (.one (.dv J (.sl e2 sz m ds)))) (hp : ds.all DV.plain = true) (hb : (c.n + m) * by_ ≤ 140737488355328) (h63 : c.n + m ≤ 9223372036854775807) {n : Nat} (hn : c.n + m = n) (hcc : c.cs ++ ds = cs)
  (h : Ops P C nt Q all rest ⟨(d, .one (.key k)) :: a0i [k] [k] tm, a0h [k] [k] bx, (k, some ⟨false, e, sz, n, cs⟩) :: ks⟩) : Ops P C nt Q all (o :: rest) ⟨tm, bx, ks⟩ :=
 a3o hg (c3O hT ho hd hnt ht he hl0 hx hk hce hcs hy hp hb h63) (by subst hn; subst hcc; exact h)
theorem a4r (hT : TTOk P T) {t e sz by_ d k j : Nat} {zc : List CV} {c c2 : KC} {cs : List DV} (hg : o.guard = none) (hd : o.dst = some d) (ho : o.op = .call { callee := .builtin .append, args := #[x, y], argTypes := #[t, t] }) (hnt : Nat.blt d nt = true) (ht : look T.sl t = some e) (he : look T.el e = some (sz, by_, zc)) (hl0 : zc.length = sz)
  (hx : Ev P C nt ⟨tm, bx, ks⟩ x (.one (.key k))) (hk : lkk ⟨tm, bx, ks⟩ k = some c) (hce : c.e = e) (hcs : c.sz = sz) (hy : Ev P C nt ⟨tm, bx, ks⟩ y (.one (.key j))) (hj : lkk ⟨tm, bx, ks⟩ j = some c2) (hcs2 : c2.sz = sz) (hkj : k ∉ [j]) (hb : (c.n + c2.n) * by_ ≤ 140737488355328) (h63 : c.n + c2.n ≤ 9223372036854775807) {n : Nat} (hn : c.n + c2.n = n) (hcc : c.cs ++ c2.cs = cs)
  (h : Ops P C nt Q all rest ⟨(d, .one (.key k)) :: a0i [k, j] [k, j] tm, a0h [k, j] [k, j] bx, (k, some ⟨false, e, sz, n, cs⟩) :: (j, none) :: ks⟩) : Ops P C nt Q all (o :: rest) ⟨tm, bx, ks⟩ :=
 a3o hg (c4d hT ho hd hnt ht he hl0 hx hk hce hcs hy hj hcs2 hkj hb h63) (by subst hn; subst hcc; exact h)
theorem a5b (hT : TTOk P T) {t e sz by_ d k : Nat} {zc : List CV} (hg : o.guard = none) (hd : o.dst = some d) (ho : o.op = .buildSlice t 0 #[]) (hn : Nat.blt d nt = true) (ht : look T.sl t = some e) (he : look T.el e = some (sz, by_, zc)) (hsz : Nat.blt 0 sz = true) (hk : lkk ⟨tm, bx, ks⟩ k = none)
  (h : Ops P C nt Q all rest ⟨(d, .one (.key k)) :: tm, bx, (k, some ⟨false, e, sz, 0, []⟩) :: ks⟩) : Ops P C nt Q all (o :: rest) ⟨tm, bx, ks⟩ := a3o hg (b8x hT ho hd hn ht he hsz hk).ef h
theorem a6n (hT : TTOk P T) {t e sz by_ d k : Nat} {zc : List CV} {v : SV} {p : Bool × List CV} {ds : List DV} {js : List Nat} (hg : o.guard = none) (hd : o.dst = some d) (ho : o.op = .buildSlice t 1 #[(0, x)]) (hn : Nat.blt d nt = true) (ht : look T.sl t = some e) (he : look T.el e = some (sz, by_, zc)) (hl0 : zc.length = sz) (hsz : Nat.blt 0 sz = true) (hsm : Nat.ble sz 16777216 = true)
  (hx : Ev P C nt ⟨tm, bx, ks⟩ x v) (hp : v.part = some p) (hkv : a1p ⟨tm, bx, ks⟩ v = true) (how : a4p ⟨tm, bx, ks⟩ p.2 ds js) (hnj : js.Nodup) (hkj : k ∉ js) (hl : p.2.length = sz) (hk : lkk ⟨tm, bx, ks⟩ k = none)
  (h : Ops P C nt Q all rest ⟨(d, .one (.key k)) :: a0i (k :: js) (k :: js) tm, a0h (k :: js) (k :: js) bx, (k, some ⟨false, e, sz, 1, ds⟩) :: ((js.map fun j => (j, none)) ++ (k, some ⟨false, e, sz, 0, []⟩) :: ks)⟩) : Ops P C nt Q all (o :: rest) ⟨tm, bx, ks⟩ :=
 a3o hg (c1u hT ho hd hn ht he hl0 hsz hsm hx hp hkv how hnj hkj hl hk) h
end
end
def c1q (P : Program) (T : List (Nat × List (Nat × Nat))) : Bool := T.all fun p => match P.underlying p.1 with
 | some (.struct fs) => (fs.toList.map fun f => (f.offset, (P.info? f.type).map (·.size))) == p.2.map fun q => (q.1, some q.2)
 | _ => false
structure BOk (P : Program) (T : List (Nat × List (Nat × Nat))) : Prop where
 bs : ∀ t pl, look T t = some pl → ∃ fs, P.underlying t = some (.struct fs) ∧ (fs.toList.map fun f => (f.offset, (P.info? f.type).map (·.size))) = pl.map fun q => (q.1, some q.2)
theorem bOk {P : Program} {T : List (Nat × List (Nat × Nat))} (h : c1q P T = true) : BOk P T := by
 refine ⟨fun t pl hl => ?_⟩
 have := List.all_eq_true.1 h _ (a3q hl)
 dsimp only at this
 split at this
 ·rename_i fs hfs; exact ⟨fs, hfs, by simpa using this⟩
 ·cases this
section
variable {P : Program} {C : Ctx} {nt : Nat} {σ : St} {L : Lyt} {a : Act} {w : World} {o : Oper} {x y : Operand} {T : TT} {B : List (Nat × List (Nat × Nat))}
theorem b3X {α β : Type} {g : α → Sem β} {q : α → β} : ∀ {xs : List α}, (∀ x ∈ xs, (g x).run P w = .ok (q x) w) → (xs.mapM g).run P w = .ok (xs.map q) w
 | [], _ => by simp only [List.mapM_nil, Sem.run_pure, List.map_nil]
 | x :: xs, h => by
  have ih := b3X (xs := xs) (fun y hy => h y (by simp [hy]))
  rw [List.mapM_cons]
  simp only [Sem.run_bind, h x (by simp), ih, Result.andThen_ok, Sem.run_pure, List.map_cons]
theorem c1v {α β : Type} {g : α → Sem β} {q : α → β} {xs : Array α} (h : ∀ x ∈ xs.toList, (g x).run P w = .ok (q x) w) : (xs.mapM g).run P w = .ok (xs.toList.map q).toArray w := by
 rw [Array.mapM_eq_mapM_toList, map_eq_pure_bind, Sem.run_bind, b3X h]
 simp only [Result.andThen_ok, Sem.run_pure]
def a7I (P : Program) (C : Ctx) (nt : Nat) (σ : St) (pl : List (Nat × Nat)) : List (Nat × Operand) → List CV → List CV → Prop
 | [], acc, res => acc = res
 | (i, x) :: ps, acc, res => ∃ v p off sz, Ev P C nt σ x v ∧ v.part = some p ∧ a1p σ v = true ∧ pl[i]? = some (off, sz) ∧ p.2.length = sz ∧ off + sz ≤ acc.length ∧ a7I P C nt σ pl ps (a1c off p.2 acc) res
theorem a2o {pl : List (Nat × Nat)} {cs : List CV} : a7I P C nt σ pl [] cs cs := rfl
theorem a1x {pl : List (Nat × Nat)} {i off sz : Nat} {v : SV} {p : Bool × List CV} {ps : List (Nat × Operand)} {acc res : List CV} (hx : Ev P C nt σ x v) (hp : v.part = some p) (hk : a1p σ v = true) (hi : pl[i]? = some (off, sz)) (hl : p.2.length = sz) (hle : Nat.ble (off + sz) acc.length = true)
  (h : a7I P C nt σ pl ps (a1c off p.2 acc) res) : a7I P C nt σ pl ((i, x) :: ps) acc res := ⟨v, p, off, sz, hx, hp, hk, hi, hl, by simpa [Nat.ble_eq] using hle, h⟩
theorem b8j (hr : Rel P C nt L σ a w) {pl : List (Nat × Nat)} : ∀ {ps : List (Nat × Operand)} {acc res : List CV} {us : List Value}, a7I P C nt σ pl ps acc res → CVL C L w acc us →
  ∃ vs, Instr.fill (fun i => pl.toArray[i]?) us.toArray (ps.map fun q => (q.1, a.eval q.2)) = some vs.toArray ∧ CVL C L w res vs
 | [], acc, res, us, h, hu => by simp only [a7I] at h; subst h; exact ⟨us, rfl, hu⟩
 | (i, x) :: ps, acc, res, us, ⟨v, p, off, sz, h1, h2, h3, h4, h5, h6, h7⟩, hu => by
  obtain ⟨xs, k1, k2, k3⟩ := a4R hr h2 h3 (h1.run L a w hr)
  obtain ⟨vs, g1, g2⟩ := b8j hr h7 (b1i off hu k2)
  refine ⟨vs, ?_, g2⟩
  rw [List.map_cons, b1P (off := off) (sz := sz) (by simpa using h4) k1 (by rw [a3f k2]; exact h5) (by rw [a3f hu]; exact h6)]
  exact g1
theorem a2s (hT : TTOk P T) (hB : BOk P B) {t sz by_ : Nat} {zc cs : List CV} {pl : List (Nat × Nat)} {ps : List (Nat × Operand)} (ho : o.op = .build t ps.toArray) (ht : look T.el t = some (sz, by_, zc)) (hb : look B t = some pl) (h : a7I P C nt σ pl ps zc cs) : Pu P C nt o σ (.agg cs) [] [] := Pu.mk fun L a w hr => by
 obtain ⟨inf, z, g1, g2, g3, g4, g5⟩ := hT.el t sz by_ zc ht
 obtain ⟨c1, _, _⟩ := a8P (C := C) (L := L) (w := w) g5
 obtain ⟨fs, f1, f2⟩ := hB.bs t pl hb
 obtain ⟨vs, k1, k2⟩ := b8j hr h c1
 refine ⟨.agg vs.toArray, by simp only [SVr]; exact ⟨vs, rfl, k2⟩, fun w' _ => ?_⟩
 have hsz : ∀ f ∈ fs.toList, ∃ i, P.info? f.type = some i := fun f hf => by
  have : (f.offset, (P.info? f.type).map (·.size)) ∈ pl.map fun q => (q.1, some q.2) := by rw [← f2]; exact List.mem_map.2 ⟨f, hf, rfl⟩
  obtain ⟨q, _, hq⟩ := List.mem_map.1 this
  simp only [Prod.mk.injEq] at hq
  cases hi : P.info? f.type with
  | none => rw [hi] at hq; cases hq.2
  | some i => exact ⟨i, rfl⟩
 have hpl : (fs.toList.map fun f => (f.offset, ((P.info? f.type).map (·.size)).getD 0)) = pl := by
  have h2 := congrArg (List.map fun q : Nat × Option Nat => (q.1, q.2.getD 0)) f2
  simp only [List.map_map, Function.comp_def, Option.getD_some] at h2
  simpa using h2
 have hm : ∀ g : Field → Sem (Nat × Nat), (∀ f, g f = (do pure (f.offset, ← sizeOf f.type))) → (fs.mapM g).run P w' = .ok pl.toArray w' := fun g hg => by
  rw [c1v (q := fun f => (f.offset, ((P.info? f.type).map (·.size)).getD 0)) (fun f hf => by
   obtain ⟨i, hi⟩ := hsz f hf
   rw [hg f]
   simp [sizeOf, typeInfo, hi]), hpl]
 have hz : z.cells = z.cells.toList.toArray := by simp
 have hps : (Array.map (fun q => (q.1, a.eval q.2)) ps.toArray).toList = ps.map fun q => (q.1, a.eval q.2) := by simp
 unfold execOp
 simp only [ho, Instr.build, zeroValue, typeInfo, Sem.run_bind, run_program, g1, g4, Result.andThen_ok, Sem.run_pure, run_underlying f1, hm _ (fun _ => rfl), hps]
 rw [hz, k1]
 simp
theorem b5s {t ty : TypeId} {K J : List Nat} {m n : ByteArray} (ho : o.op = .binOp .add t x y ty) (hx : Ev P C nt σ x (.one (.dv K (.str m)))) (hy : Ev P C nt σ y (.one (.dv J (.str n)))) (h : m.size + n.size ≤ 9223372036854775807) : Pu P C nt o σ (.one (.dv [] (.str (m ++ n)))) [] [] :=
 a7b ho hx hy ⟨.string (m ++ n), fun ok w => by
  unfold Lay
  exact ⟨rfl, by rw [ByteArray.size_append]; exact h⟩, fun w => by
  have : ¬ (((m.size + n.size : Nat) : Int) > IntKind.i64.max) := by
   have e : IntKind.i64.max = 9223372036854775807 := rfl
   rw [e]; omega
  unfold Op.stringOp
  simp only [if_neg this, Sem.run_pure]⟩ ⟨by simp, by simp⟩
end
section
variable {P : Program} {C : Ctx} {nt : Nat} {L : Lyt} {σ : St} {a : Act} {w w' : World}
def St.muts (σ : St) (ups : List (Nat × KC × List Nat)) : St :=
 ⟨a0i (ups.map (·.1)) [] σ.tm, a0h (ups.map (·.1)) [] σ.bx, (ups.map fun u => (u.1, some u.2.1)) ++ σ.ks⟩
def a2Q (L : Lyt) (ups : List (Nat × KC × List Nat)) (i : Nat) : List Nat := match look ups i with
 | some u => u.2
 | none => L.fp i
theorem b7k {α : Type} {l : List (Nat × α)} {i : Nat} : look l i = none ↔ i ∉ l.map (·.1) := by
 induction l with
 | nil => simp [look]
 | cons p l ih =>
  obtain ⟨k, v⟩ := p
  rw [a0Y]
  by_cases h : i = k
  ·simp [h]
  ·simp only [if_neg h, ih, List.map_cons, List.mem_cons, not_or]
   exact ⟨fun h' => ⟨h, h'⟩, fun h' => h'.2⟩
theorem b8f {ups : List (Nat × KC × List Nat)} (i : Nat) : lkk (σ.muts ups) i = match look ups i with | some u => some u.1 | none => lkk σ i := by
 simp only [lkk, St.muts]
 rw [a9L, a4M (fun u : KC × List Nat => some u.1) ups i]
 cases look ups i with
 | none => simp
 | some u => simp
theorem Rel.setkeys (h : Rel P C nt L σ a w) {ups : List (Nat × KC × List Nat)} (hc : Chg (ups.flatMap fun u => L.fp u.1) w w')
  (hu : ∀ i u, look ups i = some u → ∃ c, lkk σ i = some c ∧ Own w' (.sl u.1.e u.1.sz u.1.n u.1.cs) (L.rv i) u.2 ∧ u.2.Nodup ∧ (∀ b ∈ u.2, (b ∈ ups.flatMap fun u => L.fp u.1) ∨ w.heap.size ≤ b) ∧ (u.1.h = true → c.h = true))
  (hd : ∀ i j u v, look ups i = some u → look ups j = some v → i ≠ j → ∀ b ∈ u.2, b ∉ v.2) :
  Rel P C nt { L with fp := a2Q L ups } (σ.muts ups) a w' := by
 have hin : ∀ p ∈ ups, ∃ u, look ups p.1 = some u := fun p hp => by
  cases hq : look ups p.1 with
  | none => exact absurd (List.mem_map.2 ⟨p, hp, rfl⟩) (b7k.1 hq)
  | some u => exact ⟨u, rfl⟩
 have hout : ∀ i c, lkk σ i = some c → look ups i = none → ∀ b ∈ L.fp i, b ∉ ups.flatMap fun u => L.fp u.1 := fun i c hi hn b hb hm => by
  obtain ⟨p, hp, hb'⟩ := List.mem_flatMap.1 hm
  obtain ⟨u, hu'⟩ := hin p hp
  obtain ⟨c', hc', _⟩ := hu p.1 u hu'
  have hne : i ≠ p.1 := fun e => by rw [e, hu'] at hn; cases hn
  exact h.kk i p.1 c c' hi hc' hne b hb hb'
 have hfr : ∀ b ∈ ups.flatMap fun u => L.fp u.1, a7J C b := fun b hm => by
  obtain ⟨p, hp, hb'⟩ := List.mem_flatMap.1 hm
  obtain ⟨u, hu'⟩ := hin p hp
  obtain ⟨c', hc', _⟩ := hu p.1 u hu'
  exact h.k1 p.1 c' hc' b hb'
 have hnf : ∀ i, look ups i = none → a2Q L ups i = L.fp i := fun i hi => by simp only [a2Q, hi]
 have hnf' : ∀ i u, look ups i = some u → a2Q L ups i = u.2 := fun i u hi => by simp only [a2Q, hi]
 have hK : KillOk C L { L with fp := a2Q L ups } w w' (fun i => (lkk σ i).isSome = true) (ups.map (·.1)) [] := {
  key := fun i hi hv => by
   have hn := b7k.2 hv
   obtain ⟨d, hd'⟩ := c5r.1 hi
   exact ⟨hnf i hn, fun b hb hlt => hc.block b hlt (hout i d hd' hn b hb)⟩
  root := fun i _ _ => rfl
  sub := fun i _ hr => by simp at hr
  old := fun b hb hs0 => hc.block b (Nat.lt_of_lt_of_le hb h.chg.size) (fun hm => by
   rcases hfr b hm with h1 | h1
   ·omega
   ·exact hs0 h1) }
 have hcase : ∀ i d, lkk (σ.muts ups) i = some d → (∃ u, look ups i = some u ∧ d = u.1) ∨ (look ups i = none ∧ lkk σ i = some d) := fun i d hd' => by
  rw [b8f] at hd'
  cases hq : look ups i with
  | none => rw [hq] at hd'; exact .inr ⟨rfl, hd'⟩
  | some u => rw [hq] at hd'; exact .inl ⟨u, rfl, (Option.some.inj hd').symm⟩
 have hlive : ∀ i, (lkk σ i).isSome = true → (lkk (σ.muts ups) i).isSome = true := fun i hi => by
  rw [b8f]
  cases look ups i with
  | none => exact hi
  | some u => rfl
 have hbx : ∀ i t cs, look (a0h (ups.map (·.1)) [] σ.bx) i = some (t, cs) → ∃ cs0, look σ.bx i = some (t, cs0) ∧ cs = cs0.map (CV.kill (ups.map (·.1)) []) := fun i t cs hx => by
  have := a4M (fun q : TypeId × List CV => (q.1, q.2.map (CV.kill (ups.map (·.1)) []))) σ.bx i
  change look (a0h (ups.map (·.1)) [] σ.bx) i = _ at this
  rw [this] at hx
  cases hy : look σ.bx i with
  | none => rw [hy] at hx; cases hx
  | some q =>
   rw [hy] at hx
   simp only [Option.map_some, Option.some.injEq, Prod.mk.injEq] at hx
   exact ⟨q.2, by rw [← hx.1], hx.2.symm⟩
 have hbx' : ∀ i, (look σ.bx i).isSome = true → (look (a0h (ups.map (·.1)) [] σ.bx) i).isSome = true := fun i hi => by
  have := a4M (fun q : TypeId × List CV => (q.1, q.2.map (CV.kill (ups.map (·.1)) []))) σ.bx i
  change look (a0h (ups.map (·.1)) [] σ.bx) i = _ at this
  rw [this]
  simpa using hi
 have hbb : ∀ i x, look (a0h (ups.map (·.1)) [] σ.bx) i = some x → ∃ y, look σ.bx i = some y := fun i x hx => by
  obtain ⟨cs0, h1, _⟩ := hbx i x.1 x.2 hx
  exact ⟨_, h1⟩
 exact {
  df := h.df, sz := h.sz
  tm := fun i u hu' => by
   have := a4M (SV.kill (ups.map (·.1)) []) σ.tm i
   change look (a0i (ups.map (·.1)) [] σ.tm) i = _ at this
   change look (a0i (ups.map (·.1)) [] σ.tm) i = some u at hu'
   rw [this] at hu'
   cases hy : look σ.tm i with
   | none => rw [hy] at hu'; cases hu'
   | some v =>
    rw [hy] at hu'
    simp only [Option.map_some, Option.some.injEq] at hu'
    subst hu'
    exact b2F h hK rfl (fun j hj => h.lk j (a7S hy j hj)) (h.tm i v hy)
  bx := fun i t cs hx => by
   obtain ⟨cs0, h1, rfl⟩ := hbx i t cs hx
   obtain ⟨us, h2, h3⟩ := h.bx i t cs0 h1
   have hl' : ∀ j ∈ cs0.flatMap CV.keys, (lkk σ j).isSome = true := fun j hj => h.lk j (a8G h1 j hj)
   refine ⟨us, (hc.block _ (a6a h2) (fun hm => ?_)).trans h2, (a9j hK hl' (a8l h hl' h3) h3).1⟩
   obtain ⟨p, hp, hb'⟩ := List.mem_flatMap.1 hm
   obtain ⟨u, hu'⟩ := hin p hp
   obtain ⟨c', hc', _⟩ := hu p.1 u hu'
   exact h.bk i p.1 _ c' h1 hc' hb'
  ks := fun i d hd' => by
   rcases hcase i d hd' with ⟨u, h1, rfl⟩ | ⟨h1, h2⟩
   ·obtain ⟨c, k1, k2, k3, k4, k5⟩ := hu i u h1
    rw [show ({ L with fp := a2Q L ups } : Lyt).fp i = u.2 from hnf' i u h1]
    exact ⟨k2, fun e => (h.ks i c k1).2 (k5 e)⟩
   ·rw [show ({ L with fp := a2Q L ups } : Lyt).fp i = L.fp i from hnf i h1]
    exact ⟨a8h _ _ _ (h.ks i d h2).1 (fun b hb => hc.block b (h.k_lt h2 b hb) (hout i d h2 h1 b hb)), (h.ks i d h2).2⟩
  b1 := fun i x hx => by obtain ⟨y, hy⟩ := hbb i x hx; exact h.b1 i y hy
  k1 := fun i d hd' b hb => by
   rcases hcase i d hd' with ⟨u, h1, rfl⟩ | ⟨h1, h2⟩
   ·obtain ⟨c, k1, k2, k3, k4, k5⟩ := hu i u h1
    rw [show ({ L with fp := a2Q L ups } : Lyt).fp i = u.2 from hnf' i u h1] at hb
    rcases k4 b hb with h3 | h3
    ·exact hfr b h3
    ·exact .inl (Nat.le_trans h.chg.size h3)
   ·rw [show ({ L with fp := a2Q L ups } : Lyt).fp i = L.fp i from hnf i h1] at hb
    exact h.k1 i d h2 b hb
  kn := fun i d hd' => by
   rcases hcase i d hd' with ⟨u, h1, rfl⟩ | ⟨h1, h2⟩
   ·rw [show ({ L with fp := a2Q L ups } : Lyt).fp i = u.2 from hnf' i u h1]
    obtain ⟨c, k1, k2, k3, k4, k5⟩ := hu i u h1
    exact k3
   ·rw [show ({ L with fp := a2Q L ups } : Lyt).fp i = L.fp i from hnf i h1]
    exact h.kn i d h2
  bb := fun i j x y hx hy => by
   obtain ⟨x', hx'⟩ := hbb i x hx
   obtain ⟨y', hy'⟩ := hbb j y hy
   exact h.bb i j x' y' hx' hy'
  bk := fun i j x d hx hd' hm => by
   obtain ⟨x', hx'⟩ := hbb i x hx
   rcases hcase j d hd' with ⟨u, h1, rfl⟩ | ⟨h1, h2⟩
   ·rw [show ({ L with fp := a2Q L ups } : Lyt).fp j = u.2 from hnf' j u h1] at hm
    obtain ⟨c, k1, k2, k3, k4, k5⟩ := hu j u h1
    rcases k4 _ hm with h3 | h3
    ·obtain ⟨p, hp, hb'⟩ := List.mem_flatMap.1 h3
     obtain ⟨u', hu'⟩ := hin p hp
     obtain ⟨c', hc', _⟩ := hu p.1 u' hu'
     exact h.bk i p.1 x' c' hx' hc' hb'
    ·have := h.bx_lt hx'
     have e : ({ L with fp := a2Q L ups } : Lyt).bb i = L.bb i := rfl
     omega
   ·rw [show ({ L with fp := a2Q L ups } : Lyt).fp j = L.fp j from hnf j h1] at hm
    exact h.bk i j x' d hx' h2 hm
  kk := fun i j x y hx hy hij b hb hm => by
   rcases hcase i x hx with ⟨u, h1, rfl⟩ | ⟨h1, h2⟩ <;> rcases hcase j y hy with ⟨v, h3, rfl⟩ | ⟨h3, h4⟩
   ·rw [show ({ L with fp := a2Q L ups } : Lyt).fp i = u.2 from hnf' i u h1] at hb
    rw [show ({ L with fp := a2Q L ups } : Lyt).fp j = v.2 from hnf' j v h3] at hm
    exact hd i j u v h1 h3 hij b hb hm
   ·rw [show ({ L with fp := a2Q L ups } : Lyt).fp i = u.2 from hnf' i u h1] at hb
    rw [show ({ L with fp := a2Q L ups } : Lyt).fp j = L.fp j from hnf j h3] at hm
    obtain ⟨c, k1, k2, k3, k4, k5⟩ := hu i u h1
    rcases k4 b hb with h5 | h5
    ·exact hout j y h4 h3 b hm h5
    ·have := h.k_lt h4 b hm; omega
   ·rw [show ({ L with fp := a2Q L ups } : Lyt).fp i = L.fp i from hnf i h1] at hb
    rw [show ({ L with fp := a2Q L ups } : Lyt).fp j = v.2 from hnf' j v h3] at hm
    obtain ⟨c, k1, k2, k3, k4, k5⟩ := hu j v h3
    rcases k4 b hm with h5 | h5
    ·exact hout i x h2 h1 b hb h5
    ·have := h.k_lt h2 b hb; omega
   ·rw [show ({ L with fp := a2Q L ups } : Lyt).fp i = L.fp i from hnf i h1] at hb
    rw [show ({ L with fp := a2Q L ups } : Lyt).fp j = L.fp j from hnf j h3] at hm
    exact h.kk i j x y h2 h4 hij b hb hm
  lk := fun i hi => by
   simp only [St.tk, St.muts, List.mem_append, List.mem_flatMap] at hi
   rcases hi with ⟨p, hp, hi⟩ | ⟨p, hp, hi⟩
   ·obtain ⟨q, hq, rfl⟩ := List.mem_map.1 hp
    obtain ⟨g1, _⟩ := (a9s hK.sub q.2).1 i hi
    exact hlive i (h.lk i (by simp only [St.tk, List.mem_append, List.mem_flatMap]; exact .inl ⟨q, hq, g1⟩))
   ·obtain ⟨q, hq, rfl⟩ := List.mem_map.1 hp
    obtain ⟨g1, _⟩ := a9n hK.sub q.2.2 i (List.mem_flatMap.2 (by simpa using hi))
    exact hlive i (h.lk i (by simp only [St.tk, List.mem_append, List.mem_flatMap]; exact .inr ⟨q, hq, by simpa using g1⟩))
  lb := fun b hb => by
   simp only [St.tb, St.muts, List.mem_flatMap] at hb
   obtain ⟨p, hp, hb⟩ := hb
   obtain ⟨q, hq, rfl⟩ := List.mem_map.1 hp
   have := List.all_eq_true.1 (a9s hK.sub q.2).2 b hb
   exact hbx' b (h.lb b (by simp only [St.tb, List.mem_flatMap]; exact ⟨q, hq, by simpa using this⟩))
  s0 := h.s0
  chg := h.chg.andThen hc (fun x hx => (hfr x hx).symm) }
/-! ### calls that write what they are handed -/
def a5Q (km : List (Nat × Nat)) : CV → CV → Prop
 | .key k, u => ∃ i, look km i = some k ∧ u = .key i
 | .dv _ d, u => d.plain = true ∧ u = .dv [] d
 | _, _ => False
def a6K (km : List (Nat × Nat)) : List CV → List CV → Prop
 | [], us => us = []
 | c :: cs, us => ∃ u us', us = u :: us' ∧ a5Q km c u ∧ a6K km cs us'
def a6I (km : List (Nat × Nat)) : SV → SV → Prop
 | .one c, u => ∃ c', a5Q km c c' ∧ u = .one c'
 | .agg cs, u => ∃ cs', a6K km cs cs' ∧ u = .agg cs'
 | _, _ => False
def a5h (P : Program) (C : Ctx) (nt : Nat) (σ : St) (km : List (Nat × Nat)) : List Operand → List SV → Prop
 | [], us => us = []
 | x :: xs, us => ∃ v u us', us = u :: us' ∧ Ev P C nt σ x v ∧ a6I km v u ∧ a5h P C nt σ km xs us'
structure WFn (P : Program) (f : FuncId) (us : List SV) (X : SV) (ks0 ks1 : List (Nat × KC)) : Prop where
 ok : a7r P f [] (ks0.map fun q => (q.1, some q.2)) us fun v σ' => v = X ∧ ∀ i c, look ks1 i = some c → lkk σ' i = some c
def a3N (L : Lyt) (km : List (Nat × Nat)) : Lyt := { L with fp := fun i => match look km i with | some k => L.fp k | none => [], rv := fun i => match look km i with | some k => L.rv k | none => .bool false }
theorem b8P {ok ok' : Nat → Prop} {w w' : World} {d : DV} {v : Value} (hp : d.plain = true) (h : Lay ok w d v) : Lay ok' w' d v :=
 a4O _ _ _ (a8u hp h) (fun b hb => by simp at hb)
theorem b3P {km : List (Nat × Nat)} {C' : Ctx} {c u : CV} {v : Value} (h : a5Q km c u) (hv : CVr C L w c v) : CVr C' (a3N L km) w u v ∧ (∀ j ∈ u.keys, (look km j).isSome = true) := by
 cases c with
 | dv K d =>
  simp only [a5Q] at h
  obtain ⟨h1, rfl⟩ := h
  exact ⟨b8P h1 hv, by simp [CV.keys]⟩
 | key k =>
  simp only [a5Q] at h
  obtain ⟨i, h1, rfl⟩ := h
  simp only [CVr] at hv ⊢
  exact ⟨by simp only [a3N, h1]; exact hv, by simp [CV.keys, h1]⟩
 | _ => simp [a5Q] at h
theorem b4F {km : List (Nat × Nat)} {C' : Ctx} : ∀ {cs us : List CV} {vs : List Value}, a6K km cs us → CVL C L w cs vs → CVL C' (a3N L km) w us vs ∧ (∀ j ∈ us.flatMap CV.keys, (look km j).isSome = true)
 | [], _, _, h, hv => by simp only [a6K] at h; subst h; exact ⟨hv, by simp⟩
 | c :: cs, _, _, ⟨u, us', e, h1, h2⟩, ⟨v, vs', e', h3, h4⟩ => by
  subst e; subst e'
  obtain ⟨g1, g2⟩ := b3P (C' := C') h1 h3
  obtain ⟨k1, k2⟩ := b4F (C' := C') h2 h4
  refine ⟨⟨v, vs', rfl, g1, k1⟩, fun j hj => ?_⟩
  simp only [List.flatMap_cons, List.mem_append] at hj
  rcases hj with hj | hj
  ·exact g2 j hj
  ·exact k2 j hj
theorem c0W {km : List (Nat × Nat)} {C' : Ctx} {v u : SV} {r : Value} (h : a6I km v u) (hv : SVr P C L w v r) : SVr P C' (a3N L km) w u r ∧ (∀ j ∈ u.keys, (look km j).isSome = true) ∧ u.boxes = [] := by
 cases v with
 | one c =>
  simp only [a6I] at h
  obtain ⟨c', h1, rfl⟩ := h
  simp only [SVr] at hv ⊢
  obtain ⟨g1, g2⟩ := b3P (C' := C') h1 hv
  exact ⟨g1, g2, rfl⟩
 | agg cs =>
  simp only [a6I] at h
  obtain ⟨cs', h1, rfl⟩ := h
  simp only [SVr] at hv ⊢
  obtain ⟨vs, e, h2⟩ := hv
  obtain ⟨g1, g2⟩ := b4F (C' := C') h1 h2
  exact ⟨⟨vs, e, g1⟩, g2, rfl⟩
 | _ => simp [a6I] at h
theorem b7v (hr : Rel P C nt L σ a w) {km : List (Nat × Nat)} {C' : Ctx} : ∀ {xs : List Operand} {us : List SV}, a5h P C nt σ km xs us →
  us.length = xs.length ∧ (∀ (i : Nat) u, us[i]? = some u → ∃ x, xs[i]? = some x ∧ SVr P C' (a3N L km) w u (a.eval x) ∧ (∀ j ∈ u.keys, (look km j).isSome = true) ∧ u.boxes = [])
 | [], _, h => by simp only [a5h] at h; subst h; exact ⟨rfl, fun i u hu => by simp at hu⟩
 | x :: xs, _, ⟨v, u, us', e, h1, h2, h3⟩ => by
  subst e
  obtain ⟨k1, k2⟩ := b7v (C' := C') hr h3
  refine ⟨by simp [k1], fun i u' hu => ?_⟩
  cases i with
  | zero =>
   simp only [List.getElem?_cons_zero, Option.some.injEq] at hu
   subst hu
   exact ⟨x, rfl, c0W (C' := C') h2 (h1.run L a w hr)⟩
  | succ i => simpa using k2 i u' (by simpa using hu)
@[reducible] def itK (it : List (Nat × Nat × KC × KC)) : List (Nat × Nat) := it.map fun q => (q.1, q.2.1)
@[reducible] def it0 (it : List (Nat × Nat × KC × KC)) : List (Nat × KC) := it.map fun q => (q.1, { q.2.2.1 with h := true })
@[reducible] def it1 (it : List (Nat × Nat × KC × KC)) : List (Nat × KC) := it.map fun q => (q.1, { q.2.2.2 with h := true })
theorem b4o {β : Type} (g : Nat × KC × KC → β) : ∀ {it : List (Nat × Nat × KC × KC)} {i : Nat} {v : β}, look (it.map fun q => (q.1, g q.2)) i = some v → ∃ q, look it i = some q ∧ v = g q := fun {it i v} h => by
 rw [a4M g it i] at h
 cases hq : look it i with
 | none => rw [hq] at h; cases h
 | some q => rw [hq] at h; exact ⟨q, rfl, (Option.some.inj h).symm⟩
theorem b0g {β : Type} (g : Nat × KC × KC → β) {it : List (Nat × Nat × KC × KC)} {i : Nat} {q : Nat × KC × KC} (h : look it i = some q) : look (it.map fun q => (q.1, g q.2)) i = some (g q) := by
 rw [a4M g it i, h]; rfl
theorem c2W (hr : Rel P C nt L σ a w) {it : List (Nat × Nat × KC × KC)} {us : List SV} {vs : List Value} (hl : vs.length = us.length) (hlive : ∀ i q, look it i = some q → lkk σ q.1 = some q.2.1) (hmem : ∀ q ∈ it, look it q.1 = some q.2) (hinj : ∀ i j q r, look it i = some q → look it j = some r → q.1 = r.1 → i = j)
  (h : ∀ (i : Nat) u, us[i]? = some u → ∃ x, vs[i]? = some x ∧ SVr P ⟨w, it.flatMap fun q => L.fp q.2.1, (a3N L (itK it)).rv⟩ (a3N L (itK it)) w u x ∧ (∀ j ∈ u.keys, (look (itK it) j).isSome = true) ∧ u.boxes = []) :
  Rel P ⟨w, it.flatMap fun q => L.fp q.2.1, (a3N L (itK it)).rv⟩ us.length (a3N L (itK it)) ⟨a2w 0 us, [], (it0 it).map fun q => (q.1, some q.2)⟩ ⟨vs.toArray, []⟩ w := by
 have hlk : ∀ i c, lkk ⟨a2w 0 us, [], (it0 it).map fun q => (q.1, some q.2)⟩ i = some c → ∃ q, look it i = some q ∧ c = { q.2.1 with h := true } := fun i c hc => by
  simp only [lkk] at hc
  rw [a4M (fun q : KC => some q) (it0 it) i] at hc
  cases hq : look (it0 it) i with
  | none => rw [hq] at hc; cases hc
  | some d =>
   rw [hq] at hc
   obtain ⟨q, h1, h2⟩ := b4o (fun q => { q.2.1 with h := true }) hq
   exact ⟨q, h1, by rw [← h2]; exact (Option.some.inj hc).symm⟩
 have hfp : ∀ i q, look it i = some q → (a3N L (itK it)).fp i = L.fp q.1 ∧ (a3N L (itK it)).rv i = L.rv q.1 := fun i q hq => by
  have : look (itK it) i = some q.1 := b0g (fun q => q.1) hq
  simp only [a3N, this]; exact ⟨trivial, trivial⟩
 have hmem' : ∀ i q, look it i = some q → ∀ b ∈ L.fp q.1, b ∈ it.flatMap fun q => L.fp q.2.1 := fun i q hq b hb => List.mem_flatMap.2 ⟨(i, q), a3q hq, hb⟩
 have hb0 : ∀ u ∈ us, u.boxes = [] := fun u hu => by
  obtain ⟨i, hi⟩ := List.mem_iff_getElem?.1 hu
  obtain ⟨_, _, _, _, h4⟩ := h i u hi
  exact h4
 have hkeys : ∀ p ∈ a2w 0 us, (∀ j ∈ p.2.keys, (look (itK it) j).isSome = true) ∧ p.2.boxes = [] := fun p hp => by
  have key : ∀ (us' : List SV) (n : Nat), (∀ u ∈ us', (∀ j ∈ u.keys, (look (itK it) j).isSome = true) ∧ u.boxes = []) → ∀ p ∈ a2w n us', (∀ j ∈ p.2.keys, (look (itK it) j).isSome = true) ∧ p.2.boxes = [] := fun us' => by
   induction us' with
   | nil => intro n _ p hp; simp [a2w] at hp
   | cons u us' ih =>
    intro n hu p hp
    simp only [a2w, List.mem_cons] at hp
    rcases hp with rfl | hp
    ·exact hu u (by simp)
    ·exact ih (n + 1) (fun v hv => hu v (by simp [hv])) p hp
  exact key us 0 (fun u hu => by
   obtain ⟨i, hi⟩ := List.mem_iff_getElem?.1 hu
   obtain ⟨_, _, _, h3, h4⟩ := h i u hi
   exact ⟨h3, h4⟩) p hp
 exact {
  df := rfl
  sz := by simp [hl]
  tm := fun i v hv => by
   obtain ⟨_, h4⟩ := a7Q us 0 i v hv
   obtain ⟨x, h5, h6, _⟩ := h i v (by simpa using h4)
   have : vs.toArray.getD i undef = x := by simp [Array.getD_eq_getD_getElem?, h5]
   rw [this]; exact h6
  bx := fun i t cs h => by cases h
  ks := fun k c hc => by
   obtain ⟨q, h1, rfl⟩ := hlk k c hc
   obtain ⟨f1, f2⟩ := hfp k q h1
   rw [f1, f2]
   exact ⟨(hr.ks q.1 q.2.1 (hlive k q h1)).1, fun _ => f2.symm⟩
  b1 := fun i x h => by cases h
  k1 := fun k c hc b hb => by
   obtain ⟨q, h1, rfl⟩ := hlk k c hc
   rw [(hfp k q h1).1] at hb
   exact .inr (hmem' k q h1 b hb)
  kn := fun k c hc => by
   obtain ⟨q, h1, rfl⟩ := hlk k c hc
   rw [(hfp k q h1).1]
   exact hr.kn q.1 q.2.1 (hlive k q h1)
  bb := fun i j x y h => by cases h
  bk := fun i k x c h => by cases h
  kk := fun i j c d hc hd hij b hb hm => by
   obtain ⟨q, h1, rfl⟩ := hlk i c hc
   obtain ⟨r, h2, rfl⟩ := hlk j d hd
   rw [(hfp i q h1).1] at hb
   rw [(hfp j r h2).1] at hm
   exact hr.kk q.1 r.1 q.2.1 r.2.1 (hlive i q h1) (hlive j r h2) (fun e => hij (hinj i j q r h1 h2 e)) b hb hm
  lk := fun k hk => by
   simp only [St.tk, List.flatMap_nil, List.append_nil, List.mem_flatMap] at hk
   obtain ⟨p, hp, hk⟩ := hk
   have h1 := (hkeys p hp).1 k hk
   obtain ⟨k', hk'⟩ := c5r.1 h1
   obtain ⟨q, h2, _⟩ := b4o (fun q => q.1) hk'
   simp only [lkk]
   have h3 : look (it0 it) k = some { q.2.1 with h := true } := b0g (fun q => ({ q.2.1 with h := true } : KC)) h2
   rw [a4M (fun q : KC => some q) (it0 it) k, h3]
   rfl
  lb := fun b hb => by
   simp only [St.tb, List.mem_flatMap] at hb
   obtain ⟨p, hp, hb⟩ := hb
   rw [(hkeys p hp).2] at hb
   cases hb
  s0 := fun b hb => by
   obtain ⟨q, hq, hb⟩ := List.mem_flatMap.1 hb
   exact hr.k_lt (hlive q.1 q.2 (hmem q hq)) b hb
  chg := Chg.refl _ _ }
def a8H (L'' : Lyt) (it : List (Nat × Nat × KC × KC)) : List (Nat × KC × List Nat) := it.map fun q => (q.2.1, { q.2.2.2 with h := q.2.2.1.h }, L''.fp q.1)
def St.wrote (σ : St) (it : List (Nat × Nat × KC × KC)) : St :=
 ⟨a0i (it.map fun q => q.2.1) [] σ.tm, a0h (it.map fun q => q.2.1) [] σ.bx, (it.map fun q => (q.2.1, some { q.2.2.2 with h := q.2.2.1.h })) ++ σ.ks⟩
theorem c0n {L'' : Lyt} {it : List (Nat × Nat × KC × KC)} : σ.muts (a8H L'' it) = σ.wrote it := by
 simp only [St.muts, St.wrote, a8H, List.map_map, Function.comp_def]
theorem b7G {o : Oper} {f : FuncId} {xs : List Operand} {ats : Array TypeId} {us : List SV} {X : SV} {it : List (Nat × Nat × KC × KC)} {d : Nat} (ho : o.op = .call { callee := .value (.func f), args := xs.toArray, argTypes := ats }) (hd : o.dst = some d) (hn : Nat.blt d nt = true)
  (hc : ∀ (args : Array Value) (w : World), (callFunc f args).run P w = .ok (.enter f args) w) (hf : WFn P f us X (it0 it) (it1 it)) (ha : a5h P C nt σ (itK it) xs us) (hX : X.plain = true)
  (hlive : ∀ i q, look it i = some q → lkk σ q.1 = some q.2.1) (hmem : ∀ q ∈ it, look it q.1 = some q.2) (hinj : ∀ i j q r, look it i = some q → look it j = some r → q.1 = r.1 → i = j) 
  (hr : Rel P C nt L σ a w) {K : Act → World → Prop} {Q' : Exit → Act → World → Prop} (hK : ∀ L2 a' w', Rel P C nt L2 ((σ.wrote it).put d X) a' w' → L2.rv = L.rv → Chg (it.flatMap fun q => L.fp q.2.1) w w' → K a' w') : o.wp P a w K Q' := by
 refine a6B ho hc ?_
 obtain ⟨g1, g2⟩ := b7v (C' := ⟨w, it.flatMap fun q => L.fp q.2.1, (a3N L (itK it)).rv⟩) hr ha
 have hent := c2W hr (us := us) (vs := xs.map a.eval) (by simp [g1]) hlive hmem hinj (fun i u hu => by
  obtain ⟨x, k1, k2⟩ := g2 i u hu
  exact ⟨a.eval x, by simp [k1], k2⟩)
 refine (hf.ok w _ (a3N L (itK it)) (xs.map a.eval) (by simp [g1]) hent).mono ?_
 rintro e w' ⟨r, res, σ', L'', rfl, ⟨rfl, h2⟩, h3⟩
 obtain ⟨p1, p2, p3, p4⟩ := a8q hX
 have hfp : ∀ i q, look it i = some q → (a3N L (itK it)).fp i = L.fp q.1 ∧ (a3N L (itK it)).rv i = L.rv q.1 := fun i q hq => by
  have : look (itK it) i = some q.1 := b0g (fun q => q.1) hq
  simp only [a3N, this]; exact ⟨trivial, trivial⟩
 have hk' : ∀ i q, look it i = some q → lkk { σ' with tm := [(0, res)] } i = some { q.2.2 with h := true } := fun i q hq => h2 i _ (b0g (fun q => ({ q.2.2 with h := true } : KC)) hq)
 have hlu : ∀ k u, look (a8H L'' it) k = some u → ∃ i q, look it i = some q ∧ q.1 = k ∧ u = ({ q.2.2 with h := q.2.1.h }, L''.fp i) := fun k u hu => by
  have := a3q hu
  obtain ⟨p, hp, he⟩ := List.mem_map.1 this
  simp only [Prod.mk.injEq] at he
  exact ⟨p.1, p.2, hmem p hp, he.1, he.2.symm⟩
 have hset := hr.setkeys (ups := a8H L'' it) (w' := w')
  (h3.chg.mono (fun b hb => by
   obtain ⟨q, hq, hb⟩ := List.mem_flatMap.1 hb
   exact List.mem_flatMap.2 ⟨_, List.mem_map.2 ⟨q, hq, rfl⟩, hb⟩))
  (fun k u hu => by
   obtain ⟨i, q, hq, rfl, rfl⟩ := hlu k u hu
   obtain ⟨o1, o2⟩ := h3.ks i _ (hk' i q hq)
   refine ⟨q.2.1, hlive i q hq, ?_, h3.kn i _ (hk' i q hq), fun b hb => ?_, fun e => e⟩
   ·have o1' : Own w' (.sl q.2.2.e q.2.2.sz q.2.2.n q.2.2.cs) (L''.rv i) (L''.fp i) := o1
    have o2' : L''.rv i = L.rv q.1 := (o2 rfl).trans (hfp i q hq).2
    show Own w' (.sl q.2.2.e q.2.2.sz q.2.2.n q.2.2.cs) (L.rv q.1) (L''.fp i)
    rw [← o2']; exact o1'
   ·rcases h3.k1 i _ (hk' i q hq) b hb with h4 | h4
    ·exact .inr h4
    ·obtain ⟨p, hp, hb'⟩ := List.mem_flatMap.1 h4
     exact .inl (List.mem_flatMap.2 ⟨_, List.mem_map.2 ⟨p, hp, rfl⟩, hb'⟩))
  (fun k l u v hu hv hkl b hb hm => by
   obtain ⟨i, q, hq, rfl, rfl⟩ := hlu k u hu
   obtain ⟨j, r', hr', rfl, rfl⟩ := hlu l v hv
   exact h3.kk i j _ _ (hk' i q hq) (hk' j r' hr') (fun e => hkl (by subst e; rw [hq] at hr'; rw [Option.some.inj hr'])) b hb hm)
 rw [c0n] at hset
 refine ⟨r, rfl, hK { L with fp := a2Q L (a8H L'' it) } _ _ ?_ rfl h3.chg⟩
 rw [hd]
 refine hset.put (v := res) (by simpa [Nat.blt_eq] using hn) ?_ (by rw [p2]; simp) (by rw [p3]; simp)
 have := a9Q (C := C) (L := { L with fp := a2Q L (a8H L'' it) }) (m := 0) p1 (by rw [p2]; simp) (h3.tm 0 res (by simp [a0Y]))
 rwa [p4] at this
theorem c4c {o : Oper} {f : FuncId} {xs : List Operand} {ats : Array TypeId} {us : List SV} {X : SV} {it : List (Nat × Nat × KC × KC)} {d : Nat} (ho : o.op = .call { callee := .value (.func f), args := xs.toArray, argTypes := ats }) (hd : o.dst = some d) (hn : Nat.blt d nt = true)
  (hc : ∀ (args : Array Value) (w : World), (callFunc f args).run P w = .ok (.enter f args) w) (hf : WFn P f us X (it0 it) (it1 it)) (ha : a5h P C nt σ (itK it) xs us) (hX : X.plain = true)
  (hlive : ∀ i q, look it i = some q → lkk σ q.1 = some q.2.1) (hmem : ∀ q ∈ it, look it q.1 = some q.2) (hinj : ∀ i j q r, look it i = some q → look it j = some r → q.1 = r.1 → i = j) :
  Ef P C nt o σ (fun σ' => σ' = (σ.wrote it).put d X) := Ef.mk fun L a w hr K Q' hK => b7G ho hd hn hc hf ha hX hlive hmem hinj hr (fun L2 a' w' h _ _ => hK L2 _ a' w' rfl h)
end
/-! ### ownership of one cell -/
theorem b1m {w : World} : ∀ {ds : List DV} {vs : List Value} {fp : List Nat} {i : Nat} {d : DV}, a0N w ds vs fp → ds[i]? = some d → ∃ v fa fd fb, vs[i]? = some v ∧ fp = fa ++ (fd ++ fb) ∧ Own w d v fd ∧ a0N w (ds.set i .hole) vs (fa ++ fb)
 | [], _, _, _, _, _, hd => by simp at hd
 | x :: xs, _, _, 0, d, h, hd => by
  simp only [List.getElem?_cons_zero, Option.some.injEq] at hd
  subst hd
  simp only [a0N] at h
  obtain ⟨v, vs', f1, f2, rfl, rfl, h1, h2⟩ := h
  refine ⟨v, [], f1, f2, rfl, rfl, h1, ?_⟩
  simp only [List.set_cons_zero, a0N, List.nil_append]
  exact ⟨v, vs', [], f2, rfl, rfl, by unfold Own; exact ⟨a7R _ _ (a4O (ok := fun _ => True) _ _ _ h1 (fun _ _ => trivial)), rfl⟩, h2⟩
 | x :: xs, _, _, i + 1, d, h, hd => by
  simp only [List.getElem?_cons_succ] at hd
  simp only [a0N] at h
  obtain ⟨v, vs', f1, f2, rfl, rfl, h1, h2⟩ := h
  obtain ⟨u, fa, fd, fb, g1, rfl, g3, g4⟩ := b1m h2 hd
  refine ⟨u, f1 ++ fa, fd, fb, by simpa using g1, by simp, g3, ?_⟩
  simp only [List.set_cons_succ, a0N]
  exact ⟨v, vs', f1, fa ++ fb, rfl, by simp, h1, g4⟩
theorem b6d {w : World} {d : DV} {v : Value} {fd : List Nat} (ho : Own w d v fd) : ∀ {ds : List DV} {vs : List Value} {fp : List Nat} {i : Nat}, a0N w ds vs fp → ds[i]? = some .hole → vs[i]? = some v → ∃ fa fb, fp = fa ++ fb ∧ a0N w (ds.set i d) vs (fa ++ (fd ++ fb))
 | [], _, _, _, _, hd, _ => by simp at hd
 | x :: xs, _, _, 0, h, hd, hv => by
  simp only [List.getElem?_cons_zero, Option.some.injEq] at hd
  subst hd
  simp only [a0N] at h
  obtain ⟨u, vs', f1, f2, rfl, rfl, h1, h2⟩ := h
  simp only [List.getElem?_cons_zero, Option.some.injEq] at hv
  subst hv
  simp only [Own] at h1
  obtain ⟨_, rfl⟩ := h1
  refine ⟨[], f2, rfl, ?_⟩
  simp only [List.set_cons_zero, a0N, List.nil_append]
  exact ⟨u, vs', fd, f2, rfl, rfl, ho, h2⟩
 | x :: xs, _, _, i + 1, h, hd, hv => by
  simp only [List.getElem?_cons_succ] at hd
  simp only [a0N] at h
  obtain ⟨u, vs', f1, f2, rfl, rfl, h1, h2⟩ := h
  simp only [List.getElem?_cons_succ] at hv
  obtain ⟨fa, fb, rfl, g⟩ := b6d ho h2 hd hv
  refine ⟨f1 ++ fa, fb, by simp, ?_⟩
  simp only [List.set_cons_succ, a0N]
  exact ⟨u, vs', f1, fa ++ (fd ++ fb), rfl, by simp, h1, g⟩
theorem a9J {w : World} {e sz n o : Nat} {cs : List DV} {v : Value} {fp : List Nat} (h : Own w (.sl e sz n cs) v fp) (ho : o < cs.length) : ∃ g cap vs f, v = .slice (some ⟨g, 0, none⟩) n cap ∧ fp = g :: f ∧ a0N w cs vs f ∧ (∀ j u, vs[j]? = some u → w.cell? ⟨g, j, none⟩ = some u) := by
 simp only [Own] at h
 obtain ⟨vs, f, rfl, h1, h2, h3, h4⟩ := h
 rcases (a5o h3).2 with ⟨rfl, rfl⟩ | ⟨g, cap, cur, t, fz, rfl, hg, _, _, _, ht⟩
 ·simp at h2; subst h2; simp at ho
 ·refine ⟨g, cap, vs, f, rfl, by simp [Value.ownBlock], h4, fun j u hu => ?_⟩
  rw [cell_of_row _ g j cur t fz hg]
  rw [← ht, List.getElem?_take] at hu
  split at hu
  ·simpa using hu
  ·cases hu
def dvE (k o : Nat) (d : DV) : CV := bif d.plain then .dv [] d else .nest k o d
def a3d (k : Nat) : Nat → List DV → List CV
 | _, [] => []
 | o, d :: ds => dvE k o d :: a3d k (o + 1) ds
section
variable {P : Program} {C : Ctx} {nt : Nat} {L : Lyt} {σ : St} {a : Act} {w : World} {o : Oper} {x y : Operand} {T : TT}
theorem b3S {k off g n c : Nat} {d : DV} {v : Value} {fd : List Nat} (ho : Own w d v fd) (hf : ∀ b ∈ fd, b ∈ L.fp k) (hr : L.rv k = .slice (some ⟨g, 0, none⟩) n c) (hg : g ∈ L.fp k) (hc : w.cell? ⟨g, off, none⟩ = some v) : CVr C L w (dvE k off d) v := by
 unfold dvE
 have hl : Lay (okB C L [k]) w d v := a4O _ _ _ ho (fun b hb => .inr ⟨k, by simp, hf b hb⟩)
 cases hp : d.plain with
 | true =>
  simp only [cond_true, CVr]
  exact a4O _ _ _ (a8u (w' := w) hp hl) (by simp)
 | false => exact ⟨hl, g, n, c, hr, hg, hc⟩
theorem c2D {k off : Nat} {d : DV} : ∀ j ∈ (dvE k off d).keys, j = k := by
 unfold dvE
 cases d.plain <;> simp [CV.keys]
theorem a3a (hT : TTOk P T) {t k off : Nat} {d : DV} {c : KC} {u : Unit} (ho : o.op = .load t x) (ht : look T.on t = some u) (hx : Ev P C nt σ x (.eptr k off)) (hk : lkk σ k = some c) (hd : c.cs[off]? = some d) : Pu P C nt o σ (.one (dvE k off d)) [k] [] := Pu.mk fun L a w hr => by
 have h1 := hx.run L a w hr
 simp only [SVr] at h1
 obtain ⟨g, n, cap, e1, e2⟩ := h1
 have hlt : off < c.cs.length := (List.getElem?_eq_some_iff.1 hd).1
 obtain ⟨g', cap', vs, f, k1, k2, k3, k4⟩ := a9J (hr.ks k c hk).1 hlt
 rw [e1] at k1
 simp only [Value.slice.injEq, Option.some.injEq, Addr.mk.injEq, and_true, true_and] at k1
 obtain ⟨rfl, rfl, rfl⟩ := k1
 obtain ⟨v, fa, fd, fb, m1, m2, m3, _⟩ := b1m k3 hd
 have hc := k4 off v m1
 have hgm : g ∈ L.fp k := by rw [k2]; simp
 refine ⟨v, by simp only [SVr]; exact b3S m3 (fun b hb => by rw [k2, m2]; simp [hb]) e1 hgm hc, fun w' hw => ?_⟩
 have hc' : w'.cell? ⟨g, off, none⟩ = some v := (World.cell?_of_block (a := ⟨g, off, none⟩) (hw g (a5E hc) (.inl (.inr ⟨k, by simp, hgm⟩)))).trans hc
 unfold execOp
 simp only [ho, e2, Instr.loadAt, Instr.sureAddr, Sem.run_bind, Sem.run_pure, Result.andThen_ok]
 rw [b3n (hT.on t u ht) hc']
 rfl
theorem b6b {k g n c : Nat} (hr : L.rv k = .slice (some ⟨g, 0, none⟩) n c) (hg : g ∈ L.fp k) : ∀ {ds : List DV} {vs : List Value} {f : List Nat} {off : Nat}, a0N w ds vs f → (∀ b ∈ f, b ∈ L.fp k) → (∀ j u, vs[j]? = some u → w.cell? ⟨g, off + j, none⟩ = some u) → CVL C L w (a3d k off ds) vs
 | [], _, _, _, h, _, _ => by simp only [a0N] at h; obtain ⟨rfl, _⟩ := h; rfl
 | d :: ds, _, _, off, h, hf, hc => by
  simp only [a0N] at h
  obtain ⟨v, vs', f1, f2, rfl, rfl, h1, h2⟩ := h
  refine ⟨v, vs', rfl, b3S h1 (fun b hb => hf b (by simp [hb])) hr hg (by simpa using hc 0 v rfl), b6b hr hg h2 (fun b hb => hf b (by simp [hb])) (fun j u hu => ?_)⟩
  have := hc (j + 1) u (by simpa using hu)
  rwa [show off + 1 + j = off + (j + 1) by omega]
theorem b1u {k : Nat} : ∀ {ds : List DV} {off : Nat}, ∀ j ∈ (a3d k off ds).flatMap CV.keys, j = k
 | [], _, j, hj => by simp [a3d] at hj
 | d :: ds, off, j, hj => by
  simp only [a3d, List.flatMap_cons, List.mem_append] at hj
  rcases hj with hj | hj
  ·exact c2D j hj
  ·exact b1u j hj
theorem b1p (hT : TTOk P T) {t k off n : Nat} {c : KC} {ds : List DV} (ho : o.op = .load t x) (ht : look T.ag t = some n) (hx : Ev P C nt σ x (.eptr k off)) (hk : lkk σ k = some c) (hl : ds.length = n) (hpos : 0 < n) (hd : sub off n c.cs = ds) : Pu P C nt o σ (.agg (a3d k off ds)) [k] [] := Pu.mk fun L a w hr => by
 subst hd
 have h1 := hx.run L a w hr
 simp only [SVr] at h1
 obtain ⟨g, m, cap, e1, e2⟩ := h1
 have hle : off + n ≤ c.cs.length := by
  simp only [sub, c5t, List.length_drop] at hl
  omega
 obtain ⟨g', cap', vs, f, k1, k2, k3, k4⟩ := a9J (hr.ks k c hk).1 (show off < c.cs.length by omega)
 rw [e1] at k1
 simp only [Value.slice.injEq, Option.some.injEq, Addr.mk.injEq, and_true, true_and] at k1
 obtain ⟨rfl, rfl, rfl⟩ := k1
 have hgm : g ∈ L.fp k := by rw [k2]; simp
 have hsp : c.cs = c.cs.take off ++ (sub off n c.cs ++ (c.cs.drop off).drop n) := by rw [sub, List.take_append_drop, List.take_append_drop]
 have k3' := k3
 rw [hsp] at k3'
 obtain ⟨u1, u2, f1, f2, rfl, rfl, q1, q2⟩ := a4N _ _ _ _ k3'
 obtain ⟨u3, u4, f3, f4, rfl, rfl, q3, q4⟩ := a4N _ _ _ _ q2
 have l1 : u1.length = off := by rw [a2n _ _ _ q1]; simp; omega
 have l3 : u3.length = n := by rw [a2n _ _ _ q3]; exact hl
 have hcell : ∀ j u, u3[j]? = some u → w.cell? ⟨g, off + j, none⟩ = some u := fun j u hu => k4 (off + j) u (by
  have hj : j < u3.length := (List.getElem?_eq_some_iff.1 hu).1
  rw [List.getElem?_append_right (by omega), List.getElem?_append_left (by omega), show off + j - u1.length = j by omega]
  exact hu)
 refine ⟨.agg u3.toArray, by simp only [SVr]; exact ⟨u3, rfl, b6b e1 hgm q3 (fun b hb => by rw [k2]; simp [hb]) hcell⟩, fun w' hw => ?_⟩
 have hb' : w'.heap[g]? = w.heap[g]? := hw g (hr.k_lt hk g hgm) (.inl (.inr ⟨k, by simp, hgm⟩))
 unfold execOp
 simp only [ho, e2, Instr.loadAt, Instr.sureAddr, Sem.run_bind, Sem.run_pure, Result.andThen_ok]
 rw [b1B (us := u3) (hT.ag t n ht) l3 (fun j u hu => (World.cell?_of_block (a := ⟨g, off + j, none⟩) hb').trans (hcell j u hu))]
 rfl
/-! ### a nested cell, taken out and put back -/
theorem Rel.split (h : Rel P C nt L σ a w) {k k' off e sz n : Nat} {c : KC} {cs : List DV} (hk : lkk σ k = some c) (hd : c.cs[off]? = some (.sl e sz n cs)) (hk' : lkk σ k' = none) :
  ∃ L' v g m cap, L.rv k = .slice (some ⟨g, 0, none⟩) m cap ∧ w.cell? ⟨g, off, none⟩ = some v ∧ L'.rv k = L.rv k ∧ L'.rv k' = v ∧ g ∈ L'.fp k ∧
   Rel P C nt L' ⟨(σ.mut k [] true { c with cs := c.cs.set off .hole }).tm, (σ.mut k [] true { c with cs := c.cs.set off .hole }).bx, (k', some ⟨false, e, sz, n, cs⟩) :: (k, some { c with cs := c.cs.set off .hole }) :: σ.ks⟩ a w := by
 have hlt : off < c.cs.length := (List.getElem?_eq_some_iff.1 hd).1
 have hown := (h.ks k c hk).1
 obtain ⟨g, cap, vs, f, k1, k2, k3, k4⟩ := a9J hown hlt
 obtain ⟨v, fa, fd, fb, m1, m2, m3, m4⟩ := b1m k3 hd
 have hkk : k ≠ k' := fun e' => by rw [← e', hk] at hk'; cases hk'
 have hgm : g ∈ L.fp k := by rw [k2]; simp
 have hnd := h.kn k c hk
 rw [k2, m2] at hnd
 simp only [List.nodup_cons, List.mem_append, not_or] at hnd
 obtain ⟨nd1, nd2⟩ := hnd
 rw [List.nodup_append] at nd2
 obtain ⟨nd2, nd3, nd4⟩ := nd2
 rw [List.nodup_append] at nd3
 obtain ⟨nd3, nd5, nd6⟩ := nd3
 have hown1 : Own w (.sl c.e c.sz c.n (c.cs.set off .hole)) (L.rv k) (g :: (fa ++ fb)) := by
  unfold Own at hown ⊢
  obtain ⟨vs2, f2, p1, p2, p3, p4, p5⟩ := hown
  have hvs : vs2 = vs := by
   rcases (a5o p4).2 with ⟨q1, q2⟩ | ⟨g2, cap2, cur, t2, fz2, q1, q3, q4, q5, q6, q7⟩
   ·rw [k1] at q1; cases q1
   ·rw [k1] at q1
    simp only [Value.slice.injEq, Option.some.injEq, Addr.mk.injEq, and_true, true_and] at q1
    obtain ⟨rfl, rfl⟩ := q1
    apply List.ext_getElem (by rw [a2n _ _ _ p5, a2n _ _ _ k3])
    intro i i1 i2
    have r1 := k4 i _ (List.getElem?_eq_getElem i2)
    rw [cell_of_row _ g i cur t2 fz2 q3] at r1
    have r3 : i < c.n * c.sz := by rw [← p3, ← a2n _ _ _ p5]; exact i1
    have r2 : vs2[i]? = cur[i]? := by rw [← q7, List.getElem?_take, if_pos r3, Array.getElem?_toList]
    rw [List.getElem?_eq_getElem i1] at r2
    rw [← r2] at r1
    exact Option.some.inj r1
  subst hvs
  exact ⟨vs2, fa ++ fb, by rw [k1]; simp [Value.ownBlock], p2, by simpa using p3, p4, m4⟩
 have hrel := h.setkey (k := k) (c := c) (c' := { c with cs := c.cs.set off .hole }) (js := []) (same := true) (v' := L.rv k) (f' := g :: (fa ++ fb)) hk (by simp) (Chg.refl _ _) hown1
  (by
   rw [List.nodup_cons, List.nodup_append]
   refine ⟨fun hm => ?_, nd2, nd5, fun x hx y hy => nd4 x hx y (by simp [hy])⟩
   simp only [List.mem_append] at hm
   rcases hm with hm | hm
   ·exact nd1.1 hm
   ·exact nd1.2.2 hm)
  (fun b hb => .inl (by
   rw [k2, m2]
   simp only [List.mem_cons, List.mem_append] at hb ⊢
   rcases hb with hb | hb | hb
   ·exact .inl hb
   ·exact .inr (.inl hb)
   ·exact .inr (.inr (.inr hb)))) (by simp) (fun _ => rfl) (fun e' => ⟨e', rfl⟩)
 have hfd : ∀ b ∈ fd, b ∈ L.fp k := fun b hb => by rw [k2, m2]; simp [hb]
 have hnew := hrel.newkey (k := k') (c := ⟨false, e, sz, n, cs⟩) (v := v) (f := fd)
  (by
   simp only [lkk, St.mut, List.map_nil, List.nil_append, List.cons_append, a0Y]
   rw [if_neg (fun e' => hkk e'.symm)]
   exact hk') m3 rfl nd3 (fun b hb => h.k1 k c hk b (hfd b hb))
  (fun b hb i x hx e' => by
   have hx' : ∃ y, look σ.bx i = some y := by
    have := a4M (fun q : TypeId × List CV => (q.1, q.2.map (CV.kill [k] []))) σ.bx i
    change look (a0h [k] [] σ.bx) i = _ at this
    change look (a0h [k] [] σ.bx) i = some x at hx
    rw [this] at hx
    cases hy : look σ.bx i with
    | none => rw [hy] at hx; cases hx
    | some q => exact ⟨q, rfl⟩
   obtain ⟨y, hy⟩ := hx'
   exact h.bk i k y c hy hk (by rw [show L.bb i = b from e']; exact hfd b hb))
  (fun b hb j d' hj => by
   simp only [lkk, St.mut, List.map_nil, List.nil_append, List.cons_append, a0Y] at hj
   by_cases hjk : j = k
   ·subst hjk
    simp only [if_true]
    intro hm
    simp only [List.mem_cons, List.mem_append] at hm
    rcases hm with hm | hm | hm
    ·exact nd1.2.1 (hm ▸ hb)
    ·exact nd4 b hm b (by simp [hb]) rfl
    ·exact nd6 b hb b hm rfl
   ·rw [if_neg hjk] at hj
    simp only [if_neg hjk]
    exact fun hm => h.kk j k d' c hj hk hjk b hm (hfd b hb))
 refine ⟨_, v, g, c.n, cap, k1, k4 off v m1, ?_, ?_, ?_, hnew⟩
 ·simp [hkk]
 ·simp
 ·simp [hkk]
theorem Rel.join (h : Rel P C nt L σ a w) {k k' off g m cap : Nat} {c c' : KC} (hk : lkk σ k = some c) (hk' : lkk σ k' = some c') (hkk : k ≠ k') (ho : c.cs[off]? = some .hole) (hr : L.rv k = .slice (some ⟨g, 0, none⟩) m cap) (hc : w.cell? ⟨g, off, none⟩ = some (L.rv k')) :
  ∃ L', Rel P C nt L' (σ.mut k [k'] true { c with cs := c.cs.set off (.sl c'.e c'.sz c'.n c'.cs) }) a w := by
 have hlt : off < c.cs.length := (List.getElem?_eq_some_iff.1 ho).1
 have hown := (h.ks k c hk).1
 obtain ⟨g', cap', vs, f, k1, k2, k3, k4⟩ := a9J hown hlt
 rw [hr] at k1
 simp only [Value.slice.injEq, Option.some.injEq, Addr.mk.injEq, and_true, true_and] at k1
 obtain ⟨rfl, rfl, rfl⟩ := k1
 have hown' := (h.ks k' c' hk').1
 have hv : vs[off]? = some (L.rv k') := by
  have hl : off < vs.length := by rw [a2n _ _ _ k3]; exact hlt
  have := k4 off _ (List.getElem?_eq_getElem hl)
  rw [hc] at this
  rw [List.getElem?_eq_getElem hl, ← Option.some.inj this]
 obtain ⟨fa, fb, e1, e2⟩ := b6d hown' k3 ho hv
 have hnd := h.kn k c hk
 rw [k2, e1] at hnd
 simp only [List.nodup_cons, List.mem_append, not_or] at hnd
 obtain ⟨nd1, nd2⟩ := hnd
 rw [List.nodup_append] at nd2
 obtain ⟨nd2, nd3, nd4⟩ := nd2
 have hdis : ∀ b ∈ L.fp k', b ∉ L.fp k := fun b hb hm => h.kk k' k c' c hk' hk (fun e' => hkk e'.symm) b hb hm
 have hin : ∀ b, b ∈ fa ∨ b ∈ fb → b ∈ L.fp k := fun b hb => by
  rw [k2, e1]
  rcases hb with hb | hb <;> simp [hb]
 have hset := h.setkey (k := k) (c := c) (c' := { c with cs := c.cs.set off (.sl c'.e c'.sz c'.n c'.cs) }) (js := [k']) (same := true) (v' := L.rv k) (f' := g :: (fa ++ (L.fp k' ++ fb))) hk (by simpa using hkk) (Chg.refl _ _)
  (by
   unfold Own at hown ⊢
   obtain ⟨vs2, f2, p1, p2, p3, p4, p5⟩ := hown
   have hvs : vs2 = vs := by
    rcases (a5o p4).2 with ⟨q1, q2⟩ | ⟨g2, cap2, cur, t2, fz2, q1, q3, q4, q5, q6, q7⟩
    ·rw [hr] at q1; cases q1
    ·rw [hr] at q1
     simp only [Value.slice.injEq, Option.some.injEq, Addr.mk.injEq, and_true, true_and] at q1
     obtain ⟨rfl, rfl⟩ := q1
     apply List.ext_getElem (by rw [a2n _ _ _ p5, a2n _ _ _ k3])
     intro i i1 i2
     have r1 := k4 i _ (List.getElem?_eq_getElem i2)
     rw [cell_of_row _ g i cur t2 fz2 q3] at r1
     have r3 : i < c.n * c.sz := by rw [← p3, ← a2n _ _ _ p5]; exact i1
     have r2 : vs2[i]? = cur[i]? := by rw [← q7, List.getElem?_take, if_pos r3, Array.getElem?_toList]
     rw [List.getElem?_eq_getElem i1] at r2
     rw [← r2] at r1
     exact Option.some.inj r1
   subst hvs
   exact ⟨vs2, fa ++ (L.fp k' ++ fb), by rw [hr]; simp [Value.ownBlock], p2, by simpa using p3, p4, e2⟩)
  (by
   rw [List.nodup_cons, List.nodup_append, List.nodup_append]
   refine ⟨fun hm => ?_, nd2, ⟨h.kn k' c' hk', nd3, fun x hx y hy e' => hdis x hx (hin x (.inr (e' ▸ hy)))⟩, fun x hx y hy e' => ?_⟩
   ·simp only [List.mem_append] at hm
    rcases hm with hm | hm | hm
    ·exact nd1.1 hm
    ·exact hdis g hm (by rw [k2]; simp)
    ·exact nd1.2 hm
   ·rcases List.mem_append.1 hy with hy | hy
    ·exact hdis y hy (hin y (.inl (e' ▸ hx)))
    ·exact nd4 x hx y hy e')
  (fun b hb => by
   simp only [List.mem_cons, List.mem_append] at hb
   rcases hb with hb | hb | hb | hb
   ·exact .inl (by rw [k2, hb]; simp)
   ·exact .inl (hin b (.inl hb))
   ·exact .inr (.inl ⟨k', by simp, hb⟩)
   ·exact .inl (hin b (.inr hb)))
  (fun j hj => by simp only [List.mem_singleton] at hj; subst hj; simp [hk']) (fun _ => rfl) (fun e' => ⟨e', rfl⟩)
 exact ⟨_, hset⟩
@[reducible] def St.outs (σ : St) (t k k' off e sz n : Nat) (c : KC) (cs : List DV) : St :=
 ⟨(t, .one (.key k')) :: a0i [k] [] σ.tm, a0h [k] [] σ.bx, (k', some ⟨false, e, sz, n, cs⟩) :: (k, some { c with cs := c.cs.set off .hole }) :: σ.ks⟩
theorem c4E {f : FuncId} {xs : List Operand} {ats : Array TypeId} {us : List SV} {X : SV} {t k k' off e sz n n2 d : Nat} {c : KC} {cs cs2 : List DV} (ho : o.op = .call { callee := .value (.func f), args := xs.toArray, argTypes := ats }) (hd : o.dst = some d) (hn : Nat.blt d nt = true)
  (hc : ∀ (args : Array Value) (w : World), (callFunc f args).run P w = .ok (.enter f args) w) (hf : WFn P f us X [(0, ⟨true, e, sz, n, cs⟩)] [(0, ⟨true, e, sz, n2, cs2⟩)])
  (ht : look σ.tm t = some (.one (.nest k off (.sl e sz n cs)))) (hk : lkk σ k = some c) (hcs : c.cs[off]? = some (.sl e sz n cs)) (hk' : lkk σ k' = none)
  (ha : a5h P C nt (σ.outs t k k' off e sz n c cs) [(0, k')] xs us) (hX : X.plain = true) :
  Ef P C nt o σ (fun σ' => σ' = ((((σ.outs t k k' off e sz n c cs).wrote [(0, k', ⟨false, e, sz, n, cs⟩, ⟨false, e, sz, n2, cs2⟩)]).put d X).mut k [k'] true { c with cs := c.cs.set off (.sl e sz n2 cs2) })) := Ef.mk fun L a w hr K Q' hK => by
 have h1 := hr.tm t _ ht
 simp only [SVr, CVr] at h1
 obtain ⟨_, g, m, cap, e1, e2, e3⟩ := h1
 have hkk : k ≠ k' := fun e' => by rw [← e', hk] at hk'; cases hk'
 have hlt : off < c.cs.length := (List.getElem?_eq_some_iff.1 hcs).1
 obtain ⟨L', v, g', m', cap', q1, q2, q3, q4, q5, q6⟩ := hr.split hk hcs hk'
 rw [e1] at q1
 simp only [Value.slice.injEq, Option.some.injEq, Addr.mk.injEq, and_true, true_and] at q1
 obtain ⟨rfl, rfl, rfl⟩ := q1
 rw [e3] at q2
 have hv := Option.some.inj q2
 have hr1 : Rel P C nt L' (σ.outs t k k' off e sz n c cs) a w := q6.also (d := t) (v := .one (.key k')) (by simp only [SVr, CVr]; rw [q4]; exact hv) (by simp [SV.keys, CV.keys, lkk, a0Y]) (by simp [SV.boxes])
 have hlk' : lkk (σ.outs t k k' off e sz n c cs) k' = some ⟨false, e, sz, n, cs⟩ := by simp [lkk, a0Y]
 have hlk : lkk (σ.outs t k k' off e sz n c cs) k = some { c with cs := c.cs.set off .hole } := by simp [lkk, a0Y, hkk]
 refine b7G (it := [(0, k', ⟨false, e, sz, n, cs⟩, ⟨false, e, sz, n2, cs2⟩)]) ho hd hn hc hf ha hX ?_ ?_ ?_ hr1 ?_
 ·intro i q hq
  simp only [a0Y] at hq
  split at hq
  ·simp only [Option.some.injEq] at hq; subst hq; exact hlk'
  ·cases hq
 ·intro q hq
  simp only [List.mem_singleton] at hq
  subst hq; rfl
 ·intro i j q r hq hr' _
  simp only [a0Y] at hq hr'
  split at hq <;> split at hr'
  ·rename_i a1 a2; rw [a1, a2]
  ·cases hr'
  ·cases hq
  ·cases hq
 ·intro L2 a' w' hr2 hrv hchg
  simp only [List.flatMap_cons, List.flatMap_nil, List.append_nil] at hchg
  have hgn : g ∉ L'.fp k' := fun hm => hr1.kk k' k _ _ hlk' hlk (fun e' => hkk e'.symm) g hm q5
  have hcell : w'.cell? ⟨g, off, none⟩ = some (L2.rv k') := by
   rw [hrv, q4]
   exact (World.cell?_of_block (a := ⟨g, off, none⟩) (hchg.block g (a5E e3) hgn)).trans (hv ▸ e3)
  obtain ⟨L3, hr3⟩ := hr2.join (k := k) (k' := k') (off := off) (g := g) (m := m) (cap := cap) (c := { c with cs := c.cs.set off .hole }) (c' := ⟨false, e, sz, n2, cs2⟩)
   (by simp [lkk, St.put, St.wrote, a0Y, hkk]) (by simp [lkk, St.put, St.wrote, a0Y]) hkk (by simp [hlt]) (by rw [hrv, q3]; exact e1) hcell
  simp only [List.set_set] at hr3
  exact hK L3 _ a' w' rfl hr3
section
variable {Q : Exit → St → Prop} {all : Array Oper} {rest : List Oper} {tm : List (Nat × SV)} {bx : List (Nat × TypeId × List CV)} {ks : List (Nat × Option KC)}
theorem a9a {f : FuncId} {xs : List Operand} {ats : Array TypeId} {us : List SV} {X : SV} {t k off e sz n n2 d : Nat} {c : KC} {cs cs2 ccs : List DV} (k' : Nat) (hg : o.guard = none) (hd : o.dst = some d) (ho : o.op = .call { callee := .value (.func f), args := xs.toArray, argTypes := ats })
  (hc : ∀ (args : Array Value) (w : World), (callFunc f args).run P w = .ok (.enter f args) w) (hf : WFn P f us X [(0, ⟨true, e, sz, n, cs⟩)] [(0, ⟨true, e, sz, n2, cs2⟩)])
  (ht : look tm t = some (.one (.nest k off (.sl e sz n cs)))) (hk : lkk ⟨tm, bx, ks⟩ k = some c) (hcs : c.cs[off]? = some (.sl e sz n cs)) (hk' : lkk ⟨tm, bx, ks⟩ k' = none)
  (ha : a5h P C nt (St.outs ⟨tm, bx, ks⟩ t k k' off e sz n c cs) [(0, k')] xs us) (hX : X.plain = true) (hn : Nat.blt d nt = true) (hcc : c.cs.set off (.sl e sz n2 cs2) = ccs)
  (h : Ops P C nt Q all rest ⟨a0i [k, k'] [k'] ((d, X) :: a0i [k'] [] ((t, .one (.key k')) :: a0i [k] [] tm)), a0h [k, k'] [k'] (a0h [k'] [] (a0h [k] [] bx)), (k, some { c with cs := ccs }) :: (k', none) :: (k', some ⟨false, e, sz, n2, cs2⟩) :: (k', some ⟨false, e, sz, n, cs⟩) :: (k, some { c with cs := c.cs.set off .hole }) :: ks⟩) : Ops P C nt Q all (o :: rest) ⟨tm, bx, ks⟩ :=
 a3o hg (c4E ho hd hn hc hf ht hk hcs hk' ha hX) (by subst hcc; exact h)
def b1w (σ : St) : List (Nat × Nat × KC × KC) → Prop
 | [] => True
 | q :: l => lkk σ q.2.1 = some q.2.2.1 ∧ b1w σ l
def a7O : List Nat → Bool
 | [] => true
 | x :: xs => !(xs.any fun y => Nat.beq x y) && a7O xs
theorem a9g : ∀ {xs : List Nat}, a7O xs = true → xs.Nodup
 | [], _ => List.nodup_nil
 | x :: xs, h => by
  simp only [a7O, Bool.and_eq_true, Bool.not_eq_true', List.any_eq_false] at h
  refine List.nodup_cons.2 ⟨fun hm => ?_, a9g h.2⟩
  have := h.1 x hm
  simp at this
def b4Q (it : List (Nat × Nat × KC × KC)) : Bool := a7O (it.map fun q => q.1) && a7O (it.map fun q => q.2.1)
theorem b6G {σ : St} : ∀ {it : List (Nat × Nat × KC × KC)}, b1w σ it → ∀ q ∈ it, lkk σ q.2.1 = some q.2.2.1
 | [], _, q, hq => by simp at hq
 | p :: l, ⟨h1, h2⟩, q, hq => by
  rcases List.mem_cons.1 hq with rfl | hq
  ·exact h1
  ·exact b6G h2 q hq
theorem b6K {α : Type} : ∀ {l : List (Nat × α)}, (l.map fun q => q.1).Nodup → ∀ q ∈ l, look l q.1 = some q.2
 | [], _, q, hq => by simp at hq
 | p :: l, h, q, hq => by
  simp only [List.map_cons, List.nodup_cons] at h
  obtain ⟨i, v⟩ := p
  rw [a0Y]
  rcases List.mem_cons.1 hq with rfl | hq
  ·simp
  ·have : q.1 ≠ i := fun e => h.1 (by rw [← e]; exact List.mem_map.2 ⟨q, hq, rfl⟩)
   rw [if_neg this]
   exact b6K h.2 q hq
theorem b4T : ∀ {it : List (Nat × Nat × KC × KC)}, (it.map fun q => q.2.1).Nodup → ∀ p ∈ it, ∀ q ∈ it, p.2.1 = q.2.1 → p = q
 | [], _, p, hp, _, _, _ => by simp at hp
 | x :: l, h, p, hp, q, hq, e => by
  simp only [List.map_cons, List.nodup_cons] at h
  rcases List.mem_cons.1 hp with h1 | h1 <;> rcases List.mem_cons.1 hq with h2 | h2
  ·rw [h1, h2]
  ·exact absurd (List.mem_map.2 ⟨q, h2, by rw [← e, h1]⟩ : x.2.1 ∈ l.map fun q => q.2.1) h.1
  ·exact absurd (List.mem_map.2 ⟨p, h1, by rw [e, h2]⟩ : x.2.1 ∈ l.map fun q => q.2.1) h.1
  ·exact b4T h.2 p h1 q h2 e
theorem a6A {f : FuncId} {xs : List Operand} {ats : Array TypeId} {us : List SV} {X : SV} {d : Nat} (it : List (Nat × Nat × KC × KC)) (hg : o.guard = none) (hd : o.dst = some d) (ho : o.op = .call { callee := .value (.func f), args := xs.toArray, argTypes := ats })
  (hc : ∀ (args : Array Value) (w : World), (callFunc f args).run P w = .ok (.enter f args) w) (hf : WFn P f us X (it0 it) (it1 it)) (hi : b1w ⟨tm, bx, ks⟩ it) (hdi : b4Q it = true) (ha : a5h P C nt ⟨tm, bx, ks⟩ (itK it) xs us) (hX : X.plain = true) (hn : Nat.blt d nt = true)
  (h : Ops P C nt Q all rest ⟨(d, X) :: a0i (it.map fun q => q.2.1) [] tm, a0h (it.map fun q => q.2.1) [] bx, (it.map fun q => (q.2.1, some { q.2.2.2 with h := q.2.2.1.h })) ++ ks⟩) : Ops P C nt Q all (o :: rest) ⟨tm, bx, ks⟩ := by
 simp only [b4Q, Bool.and_eq_true] at hdi
 replace hdi := And.intro (a9g hdi.1) (a9g hdi.2)
 refine a3o hg (c4c (it := it) ho hd hn hc hf ha hX (fun i q hq => b6G hi _ (a3q hq)) (fun q hq => b6K hdi.1 q hq) (fun i j q r hq hr e => ?_)) h
 have := b4T hdi.2 _ (a3q hq) _ (a3q hr) e
 exact congrArg Prod.fst this
theorem a4C {σ : St} {km : List (Nat × Nat)} : a5h P C nt σ km [] [] := rfl
theorem a2J {σ : St} {km : List (Nat × Nat)} {x : Operand} {xs : List Operand} {us : List SV} {v u : SV} (h1 : Ev P C nt σ x v) (h2 : a6I km v u) (h3 : a5h P C nt σ km xs us) : a5h P C nt σ km (x :: xs) (u :: us) := ⟨v, u, us, rfl, h1, h2, h3⟩
theorem a3b {km : List (Nat × Nat)} {c c' : CV} (h : a5Q km c c') : a6I km (.one c) (.one c') := ⟨c', h, rfl⟩
theorem b0Z {km : List (Nat × Nat)} {cs cs' : List CV} (h : a6K km cs cs') : a6I km (.agg cs) (.agg cs') := ⟨cs', h, rfl⟩
theorem b0H {km : List (Nat × Nat)} : a6K km [] [] := rfl
theorem a5A {km : List (Nat × Nat)} {c u : CV} {cs us : List CV} (h1 : a5Q km c u) (h2 : a6K km cs us) : a6K km (c :: cs) (u :: us) := ⟨u, us, rfl, h1, h2⟩
theorem a4h {km : List (Nat × Nat)} {i k : Nat} (h : look km i = some k) : a5Q km (.key k) (.key i) := ⟨i, h, rfl⟩
theorem a3I {km : List (Nat × Nat)} {K : List Nat} {d : DV} (h : d.plain = true) : a5Q km (.dv K d) (.dv [] d) := ⟨h, rfl⟩
end
/-! ### contents written out at an element -/
def mid (pre B post : List DV) : List DV := pre ++ (B ++ post)
theorem a2m {pre B post : List DV} {m off j : Nat} {d : DV} (hp : pre.length = m) (ho : off = m + j) (hB : B[j]? = some d) : (mid pre B post)[off]? = some d := by
 unfold mid
 have hj : j < B.length := (List.getElem?_eq_some_iff.1 hB).1
 rw [List.getElem?_append_right (by omega), List.getElem?_append_left (by omega), show off - pre.length = j by omega]
 exact hB
theorem a5l {pre B B' post : List DV} {m off j : Nat} {d : DV} (hp : pre.length = m) (ho : off = m + j) (hB : B.set j d = B') (hj : j < B.length) : (mid pre B post).set off d = mid pre B' post := by
 unfold mid
 rw [List.set_append_right _ _ (by omega), List.set_append_left _ _ (by omega), show off - pre.length = j by omega, hB]
theorem a1S {pre B B' post ds : List DV} {m off j : Nat} (hp : pre.length = m) (ho : off = m + j) (hB : a1c j ds B = B') (hj : j + ds.length ≤ B.length) : a1c off ds (mid pre B post) = mid pre B' post := by
 subst hB
 subst ho
 subst hp
 unfold a1c mid
 rw [List.take_length_add_append, Nat.add_assoc, ← List.drop_drop, List.drop_left, List.take_append_of_le_length (by omega), List.drop_append_of_le_length (by omega)]
 simp
theorem a9H {pre B B' post : List DV} {m off j n : Nat} (hp : pre.length = m) (ho : off = m + j) (hB : sub j n B = B') (hj : j + n ≤ B.length) : sub off n (mid pre B post) = B' := by
 subst hB
 subst ho
 subst hp
 unfold sub mid
 rw [← List.drop_drop, List.drop_left, List.drop_append_of_le_length (by omega), List.take_append_of_le_length (by simp; omega)]
theorem a2a {pre B post : List DV} {m off j n : Nat} (hp : pre.length = m) (ho : off = m + j) (hj : j + n ≤ B.length) : off + n ≤ (mid pre B post).length := by
 simp only [mid, c5s]
 omega
theorem Rel.same (h : Rel P C nt L σ a w) {ks : List (Nat × Option KC)} (e : ∀ i, lkk ⟨σ.tm, σ.bx, ks⟩ i = lkk σ i) : Rel P C nt L ⟨σ.tm, σ.bx, ks⟩ a w where
 df := h.df
 sz := h.sz
 tm := h.tm
 bx := h.bx
 ks := fun k c hc => h.ks k c (by rw [← e]; exact hc)
 b1 := h.b1
 k1 := fun k c hc => h.k1 k c (by rw [← e]; exact hc)
 kn := fun k c hc => h.kn k c (by rw [← e]; exact hc)
 bb := h.bb
 bk := fun i k x c hx hc => h.bk i k x c hx (by rw [← e]; exact hc)
 kk := fun k j c d hc hd => h.kk k j c d (by rw [← e]; exact hc) (by rw [← e]; exact hd)
 lk := fun k hk => by rw [e]; exact h.lk k hk
 lb := h.lb
 s0 := h.s0
 chg := h.chg
theorem a5g {Q : Exit → St → Prop} {c : Code} {tm : List (Nat × SV)} {bx : List (Nat × TypeId × List CV)} {ks : List (Nat × Option KC)} {k : Nat} {kc : KC} {cs' : List DV} (hk : lkk ⟨tm, bx, ks⟩ k = some kc) (e : kc.cs = cs')
  (h : Ok P C nt Q c ⟨tm, bx, (k, some { kc with cs := cs' }) :: ks⟩) : Ok P C nt Q c ⟨tm, bx, ks⟩ := by
 subst e
 refine a0r (Weak.mk fun L a w hr => ⟨L, hr.same (ks := (k, some kc) :: ks) fun i => ?_⟩) h
 simp only [lkk, a0Y] at hk ⊢
 split
 ·rename_i e'; rw [e', hk]; rfl
 ·rfl
theorem a6P {σ' : St} {i : Nat} {c : KC} (h : lkk σ' i = some c) : ∀ j d, look [(i, c)] j = some d → lkk σ' j = some d := by
 intro j d hj
 simp only [a0Y] at hj
 split at hj
 ·rename_i e; rw [e, h]; exact hj
 ·cases hj
theorem c4n {σ' : St} {i i2 : Nat} {c c2 : KC} (h : lkk σ' i = some c) (h2 : lkk σ' i2 = some c2) : ∀ j d, look [(i, c), (i2, c2)] j = some d → lkk σ' j = some d := by
 intro j d hj
 simp only [a0Y] at hj
 split at hj
 ·rename_i e; rw [e, h]; exact hj
 ·split at hj
  ·rename_i e; rw [e, h2]; exact hj
  ·cases hj
end
section
variable {P : Program} {C : Ctx} {nt : Nat} {L : Lyt} {σ : St} {a : Act} {w : World} {o : Oper} {x y : Operand} {T : TT}
theorem a3S (hT : TTOk P T) {t e' k n : Nat} {c : KC} (ho : o.op = .call { callee := .builtin .len, args := #[x], argTypes := #[t] }) (h : look T.sl t = some e') (hx : Ev P C nt σ x (.one (.key k))) (hk : lkk σ k = some c) (hn : c.n = n) : Pu P C nt o σ (.one (.dv [] (.int .i64 (n : Int)))) [] [] := by
 subst hn
 exact c3b hT ho h hx hk
theorem c3M (k : IntKind) : k.min ≤ 0 := by cases k <;> decide
theorem b4N {k : IntKind} {m z : Int} (h : InR k m) (h0 : 0 ≤ z) (h1 : z ≤ m) : InR k z := ⟨by have := c3M k; omega, by have := h.2; omega⟩
theorem a9B {t ty : TypeId} {K J : List Nat} {k : IntKind} {m n : Int} (ho : o.op = .binOp .rem t x y ty) (hx : Ev P C nt σ x (.one (.dv K (.int k m)))) (hy : Ev P C nt σ y (.one (.dv J (.int k n)))) (hm : 0 ≤ m) (hn : 0 < n) : Pu P C nt o σ (.one (.dv [] (.int k (m % n)))) [] [] := by
 have e : m.tmod n = m % n := Int.tmod_eq_emod_of_nonneg hm
 have hq : InR k m → InR k (m % n) := fun h1 => b4N h1 (Int.emod_nonneg m (show n ≠ 0 by omega)) (by
  rcases Int.lt_or_le m n with h | h
  ·rw [Int.emod_eq_of_lt hm h]; omega
  ·have := Int.emod_lt_of_pos m hn; omega)
 exact a5D ho hx hy fun h1 h2 => ⟨_, fun ok w => by unfold Lay; exact ⟨rfl, hq h1⟩, fun w => by simp [binOp, Op.intDiv, show n ≠ 0 by omega, e]⟩
theorem c1f {t ty : TypeId} {K J : List Nat} {k : IntKind} {m n : Int} (ho : o.op = .binOp .quo t x y ty) (hx : Ev P C nt σ x (.one (.dv K (.int k m)))) (hy : Ev P C nt σ y (.one (.dv J (.int k n)))) (hm : 0 ≤ m) (hn : 0 < n) : Pu P C nt o σ (.one (.dv [] (.int k (m / n)))) [] [] := by
 have h := c4j ho hx hy (show n ≠ 0 by omega)
 have e : m.tdiv n = m / n := Int.tdiv_eq_ediv_of_nonneg hm
 rw [e] at h
 refine Pu.mk fun L a w hr => ?_
 have h1 := hx.run L a w hr
 simp only [SVr, CVr, Lay] at h1
 have h2 : InR k (m / n) := b4N h1.2 (Int.ediv_nonneg hm (show (0 : Int) ≤ n by omega)) (Int.ediv_le_self n hm)
 have := h.run L a w hr
 rwa [b2Y h2] at this
theorem c4A (z : Int) : IntKind.u8.wrap z = ((UInt8.ofNat (IntKind.u8.wrap z).toNat).toNat : Int) := by
 have h := a8U .u8 z
 simp only [InR, IntKind.min, IntKind.max, IntKind.signed, IntKind.bits] at h
 obtain ⟨h1, h2⟩ := h
 simp at h1 h2
 simp only [UInt8.toNat_ofNat']
 have : (IntKind.u8.wrap z).toNat % 2 ^ 8 = (IntKind.u8.wrap z).toNat := Nat.mod_eq_of_lt (by omega)
 omega
theorem b8z (hT : TTOk P T) {s d e' : Nat} {v : Unit} {K : List Nat} {e : Nat} {z : Int} {b : UInt8} (ho : o.op = .convert s d x) (h : look T.sl s = some e') (he : look T.it e' = some .u8) (hd : look T.st d = some v) (hx : Ev P C nt σ x (.one (.dv K (.sl e 1 1 [.int .u8 z])))) (hz : z = (b.toNat : Int)) :
  Pu P C nt o σ (.one (.dv [] (.str (a5j [b])))) K [] := by
 subst hz
 exact b8J (xs := [b]) hT ho h he hd hx
end
section
variable {P : Program} {C : Ctx} {nt : Nat} {o : Oper} {x y : Operand} {T : TT} {Q : Exit → St → Prop} {all : Array Oper} {rest : List Oper} {tm : List (Nat × SV)} {bx : List (Nat × TypeId × List CV)} {ks : List (Nat × Option KC)}
end
abbrev a1Z := List (Nat × Nat × Nat × List CV)
def a3j : a1Z → List (Nat × SV) → List (Nat × SV)
 | [], tm => tm
 | p :: B, tm => (p.2.1, .box p.2.1 0) :: a3j B tm
def a2Z : a1Z → List (Nat × TypeId × List CV) → List (Nat × TypeId × List CV)
 | [], bx => bx
 | p :: B, bx => (p.2.1, p.2.2.1, p.2.2.2) :: a2Z B bx
@[reducible] def St.adds (σ : St) (B : a1Z) : St := ⟨a3j B σ.tm, a2Z B σ.bx, σ.ks⟩
def a2A (listed : Array Bool) : List Nat → Array Bool
 | [] => listed
 | j :: js => (a2A listed js).setIfInBounds j true
theorem a9V (listed : Array Bool) : ∀ js, (a2A listed js).size = listed.size
 | [] => rfl
 | j :: js => by rw [a2A, Array.size_setIfInBounds, a9V listed js]
theorem b1K (listed : Array Bool) (k : Nat) (hk : k < listed.size) : ∀ js, (a2A listed js)[k]? = some (listed[k] || js.contains k)
 | [] => by simp [a2A, Array.getElem?_eq_getElem hk]
 | j :: js => by
  have ih := b1K listed k hk js
  have e : a2A listed (j :: js) = (a2A listed js).setIfInBounds j true := rfl
  rw [e, Array.getElem?_setIfInBounds, ih, List.contains_cons, a9V]
  by_cases h : j = k
  ·subst h; simp [hk]
  ·have h2 : (k == j) = false := by simpa using fun e => h e.symm
   rw [if_neg h, h2, Bool.false_or]
theorem c0C {listed : Array Bool} {js ks : List Nat} (h : ∀ k, js.contains k = ks.contains k) : a2A listed js = a2A listed ks := by
 apply Array.ext_getElem?
 intro k
 by_cases h1 : k < listed.size
 ·rw [b1K listed k h1, b1K listed k h1, h]
 ·rw [Array.getElem?_eq_none (by rw [a9V]; omega), Array.getElem?_eq_none (by rw [a9V]; omega)]
theorem a9D {listed : Array Bool} {i : Nat} : ∀ {js : List Nat}, i ∉ js → a2A (listed.setIfInBounds i true) js = (a2A listed js).setIfInBounds i true
 | [], _ => rfl
 | j :: js, h => by
  simp only [List.mem_cons, not_or] at h
  rw [a2A, a9D h.2, a2A, Array.setIfInBounds_comm _ _ h.1]
@[reducible] def nos (B : a1Z) : List Nat := B.map fun p => p.1
section
variable {σ σ' : St}
theorem b2m {B : a1Z} {tm : List (Nat × SV)} (j : Nat) : look (a3j B tm) j = if (B.map fun p => p.2.1).contains j then some (.box j 0) else look tm j := by
 induction B with
 | nil => simp [a3j]
 | cons p B ih =>
  simp only [a3j, a0Y, List.map_cons, List.contains_cons, ih]
  by_cases h : j = p.2.1
  ·simp [h]
  ·have h2 : (j == p.2.1) = false := by simpa using h
   rw [if_neg h, h2, Bool.false_or]
def a5Z : a1Z → Nat → Option (TypeId × List CV)
 | [], _ => none
 | p :: B, j => if j = p.2.1 then some (p.2.2.1, p.2.2.2) else a5Z B j
theorem b0l {B : a1Z} {bx : List (Nat × TypeId × List CV)} (j : Nat) : look (a2Z B bx) j = (a5Z B j).or (look bx j) := by
 induction B with
 | nil => simp [a2Z, a5Z]
 | cons p B ih =>
  simp only [a2Z, a0Y, a5Z, ih]
  split <;> simp
theorem b0x {B : a1Z} {j : Nat} (h : ∀ p ∈ B, p.2.1 ≠ j) : a5Z B j = none := by
 induction B with
 | nil => rfl
 | cons p B ih =>
  rw [a5Z, if_neg (fun e => h p (by simp) e.symm)]
  exact ih fun q hq => h q (by simp [hq])
theorem b7j {B : a1Z} (hn : (B.map fun p => p.2.1).Nodup) {p : Nat × Nat × Nat × List CV} (hp : p ∈ B) : a5Z B p.2.1 = some (p.2.2.1, p.2.2.2) := by
 induction B with
 | nil => simp at hp
 | cons q B ih =>
  simp only [List.map_cons, List.nodup_cons] at hn
  rw [a5Z]
  rcases List.mem_cons.1 hp with rfl | hp
  ·simp
  ·rw [if_neg (fun e => hn.1 (by rw [← e]; exact List.mem_map.2 ⟨p, hp, rfl⟩))]
   exact ih hn.2 hp
variable {P : Program} {C : Ctx} {nt : Nat} {L : Lyt} {a : Act} {w : World}
theorem Rel.sub' (h : Rel P C nt L σ' a w) (h1 : ∀ i v, look σ.tm i = some v → look σ'.tm i = some v) (h2 : ∀ i x, look σ.bx i = some x → look σ'.bx i = some x) (h3 : ∀ k c, lkk σ k = some c → lkk σ' k = some c) (h4 : σ.okB = true) : Rel P C nt L σ a w := by
 simp only [St.okB, Bool.and_eq_true, List.all_eq_true] at h4
 exact {
  df := h.df, sz := h.sz
  tm := fun i v hv => h.tm i v (h1 i v hv)
  bx := fun i t cs hx => h.bx i t cs (h2 i _ hx)
  ks := fun k c hc => h.ks k c (h3 k c hc)
  b1 := fun i x hx => h.b1 i x (h2 i _ hx)
  k1 := fun k c hc => h.k1 k c (h3 k c hc)
  kn := fun k c hc => h.kn k c (h3 k c hc)
  bb := fun i j x y hx hy => h.bb i j x y (h2 i _ hx) (h2 j _ hy)
  bk := fun i k x c hx hc => h.bk i k x c (h2 i _ hx) (h3 k c hc)
  kk := fun k j c d hc hd => h.kk k j c d (h3 k c hc) (h3 j d hd)
  lk := h4.1, lb := h4.2
  s0 := h.s0, chg := h.chg }
structure VOk (P : Program) (all : Array Oper) (nt : Nat) (A : a1Z) (σ : St) : Prop where
 op : ∀ p ∈ A, ∃ o, all[p.1]? = some o ∧ o.guard = none ∧ o.dst = some p.2.1 ∧ o.op = .alloc p.2.2.1
 ty : ∀ p ∈ A, ∃ T sz by_, TTOk P T ∧ look T.el p.2.2.1 = some (sz, by_, p.2.2.2)
 lt : ∀ p ∈ A, p.2.1 < nt
 zk : ∀ p ∈ A, p.2.2.2.flatMap CV.keys = []
 bn : ∀ p ∈ A, look σ.bx p.2.1 = none
 tn : ∀ p ∈ A, look σ.tm p.2.1 = none
 nd : (A.map fun p => p.2.1).Nodup
 ni : (nos A).Nodup
 ok : σ.okB = true
theorem VOk.okA {all : Array Oper} {A : a1Z} (h : VOk P all nt A σ) {B : a1Z} (hB : ∀ p ∈ B, p ∈ A) : (σ.adds B).okB = true := by
 have h0 := h.ok
 simp only [St.okB, Bool.and_eq_true, List.all_eq_true] at h0 ⊢
 have hbx : ∀ b, (look σ.bx b).isSome = true → (look (a2Z B σ.bx) b).isSome = true := fun b hb => by
  rw [b0l]; cases a5Z B b <;> simp [hb]
 have hin : ∀ {B : a1Z} (hB : ∀ p ∈ B, p ∈ A), ∀ p ∈ B, (look (a2Z B σ.bx) p.2.1).isSome = true := by
  intro B
  induction B with
  | nil => intro _ p hp; simp at hp
  | cons q B ih =>
   intro hB p hp
   simp only [a2Z, a0Y]
   split
   ·rfl
   ·rcases List.mem_cons.1 hp with rfl | hp
    ·rename_i e; exact absurd rfl e
    ·exact ih (fun r hr => hB r (by simp [hr])) p hp
 constructor
 ·intro k hk
  refine h0.1 k ?_
  simp only [St.tk, List.mem_append] at hk ⊢
  have key : ∀ {B : a1Z}, (∀ p ∈ B, p ∈ A) → (k ∈ (a3j B σ.tm).flatMap (fun p => p.2.keys) → k ∈ σ.tm.flatMap fun p => p.2.keys) ∧ (k ∈ (a2Z B σ.bx).flatMap (fun p => p.2.2.flatMap CV.keys) → k ∈ σ.bx.flatMap fun p => p.2.2.flatMap CV.keys) := by
   intro B
   induction B with
   | nil => intro _; exact ⟨id, id⟩
   | cons p B ih =>
    intro hB
    obtain ⟨i1, i2⟩ := ih fun q hq => hB q (by simp [hq])
    refine ⟨fun hm => i1 ?_, fun hm => i2 ?_⟩
    ·simpa [a3j, SV.keys] using hm
    ·simpa [a2Z, h.zk p (hB p (by simp))] using hm
  rcases hk with hk | hk
  ·exact .inl ((key hB).1 hk)
  ·exact .inr ((key hB).2 hk)
 ·intro b hb
  have key : ∀ {B : a1Z}, b ∈ (a3j B σ.tm).flatMap (fun p => p.2.boxes) → b ∈ σ.tm.flatMap (fun p => p.2.boxes) ∨ ∃ p ∈ B, b = p.2.1 := by
   intro B
   induction B with
   | nil => intro hm; exact .inl hm
   | cons p B ih =>
    intro hm
    simp only [a3j, List.flatMap_cons, SV.boxes, List.mem_append, List.mem_singleton] at hm
    rcases hm with hm | hm
    ·exact .inr ⟨p, by simp, hm⟩
    ·rcases ih hm with hm | ⟨q, hq, e⟩
     ·exact .inl hm
     ·exact .inr ⟨q, by simp [hq], e⟩
  rcases key hb with hb | ⟨p, hp, rfl⟩
  ·exact hbx b (h0.2 b hb)
  ·exact hin hB p hp
theorem VOk.tmE {all : Array Oper} {A : a1Z} (h : VOk P all nt A σ) {B : a1Z} (hB : ∀ p ∈ B, p ∈ A) (i : Nat) (v : SV) (hv : look σ.tm i = some v) : look (σ.adds B).tm i = some v := by
 rw [b2m, if_neg]
 ·exact hv
 ·simp only [List.contains_iff_mem, List.mem_map, not_exists, not_and]
  intro p hp e
  rw [← e, h.tn p (hB p hp)] at hv
  cases hv
theorem VOk.bxE {all : Array Oper} {A : a1Z} (h : VOk P all nt A σ) {B : a1Z} (hB : ∀ p ∈ B, p ∈ A) (i : Nat) (x : TypeId × List CV) (hv : look σ.bx i = some x) : look (σ.adds B).bx i = some x := by
 rw [b0l, b0x, Option.none_or]
 ·exact hv
 ·intro p hp e
  rw [← e, h.bn p (hB p hp)] at hv
  cases hv
theorem VOk.drop {all : Array Oper} {A : a1Z} (h : VOk P all nt A σ) {B : a1Z} (hB : ∀ p ∈ B, p ∈ A) (hr : Rel P C nt L (σ.adds B) a w) : Rel P C nt L σ a w :=
 hr.sub' (h.tmE hB) (h.bxE hB) (fun k c hc => hc) h.ok
/-! ### what holds of a state holds of a greater one -/
structure Ext (P : Program) (C : Ctx) (nt : Nat) (σ σ' : St) : Prop where
 rel : ∀ L a w, Rel P C nt L σ' a w → Rel P C nt L σ a w
 bx : ∀ i x, look σ.bx i = some x → look σ'.bx i = some x
 ks : σ'.ks = σ.ks
theorem VOk.ext {all : Array Oper} {A : a1Z} (h : VOk P all nt A σ) {B : a1Z} (hB : ∀ p ∈ B, p ∈ A) : Ext P C nt σ (σ.adds B) := ⟨fun _ _ _ hr => h.drop hB hr, h.bxE hB, rfl⟩
theorem Ext.lkk (h : Ext P C nt σ σ') (k : Nat) : lkk σ' k = Go.Proofs.YteellmjlalgjaaaGreat.lkk σ k := by simp only [Go.Proofs.YteellmjlalgjaaaGreat.lkk, h.ks]
theorem Ext.ev (h : Ext P C nt σ σ') {x : Operand} {v : SV} (hx : Ev P C nt σ x v) : Ev P C nt σ' x v := Ev.mk fun L a w hr => hx.run L a w (h.rel L a w hr)
theorem Ext.pu (h : Ext P C nt σ σ') {o : Oper} {v : SV} {Ks Bs : List Nat} (hx : Pu P C nt o σ v Ks Bs) : Pu P C nt o σ' v Ks Bs := Pu.mk fun L a w hr => hx.run L a w (h.rel L a w hr)
theorem Ext.argC (h : Ext P C nt σ σ') {c u : CV} (hx : a2F σ c u) : a2F σ' c u := by
 cases c with
 | key k => simp only [a2F, h.lkk] at hx ⊢; exact hx
 | dv K d => exact hx
 | nest k o d => exact hx
 | arg i d => exact hx
 | nil => exact hx
 | any => exact hx
theorem Ext.argCs (h : Ext P C nt σ σ') : ∀ {cs us : List CV}, a5z σ cs us → a5z σ' cs us
 | [], _, hx => hx
 | c :: cs, _, ⟨u, us', e, h1, h2⟩ => ⟨u, us', e, h.argC h1, h.argCs h2⟩
theorem Ext.cloB (h : Ext P C nt σ σ') : ∀ {bs : List Nat} {dss : List (List DV)}, a4s σ bs dss → a4s σ' bs dss
 | [], _, hx => hx
 | b :: bs, _, ⟨ds, dss', t, e, h1, h2⟩ => ⟨ds, dss', t, e, h.bx b _ h1, h.cloB h2⟩
theorem Ext.argS (h : Ext P C nt σ σ') {v u : SV} (hx : a4l σ v u) : a4l σ' v u := by
 cases v with
 | one c => obtain ⟨c', h1, e⟩ := hx; exact ⟨c', h.argC h1, e⟩
 | agg cs => obtain ⟨c', h1, e⟩ := hx; exact ⟨c', h.argCs h1, e⟩
 | ref K ds => exact hx
 | fn f caps => exact hx
 | clo f bs => obtain ⟨caps, h1, e⟩ := hx; exact ⟨caps, h.cloB h1, e⟩
 | _ => exact hx
theorem Ext.args (h : Ext P C nt σ σ') : ∀ {xs : List Operand} {us : List SV}, a2t P C nt σ xs us → a2t P C nt σ' xs us
 | [], _, hx => hx
 | x :: xs, _, ⟨v, u, us', e, h1, h2, h3⟩ => ⟨v, u, us', e, h.ev h1, h.argS h2, h.args h3⟩
end
/-! ### the judgement -/
structure OpsA (P : Program) (C : Ctx) (nt : Nat) (Q : Exit → St → Prop) (all : Array Oper) (oB oK : List Nat) (hd : Nat → Bool) (A : a1Z) (listed : Array Bool) (fuel : Nat) (σ : St) : Prop where
 run : ∀ m : Nat → Bool, ∀ wb L a w, Rel P C nt L (σ.adds (A.filter fun p => m p.1)) a w → SW wb w → C.w0.heap.size ≤ wb.heap.size → (∀ i ∈ oB, L.bb i < wb.heap.size) → (∀ k ∈ oK, ∀ b ∈ L.fp k, b < wb.heap.size) →
  a2q P .any all (QQ P C nt Q) (SW wb) hd (fuel + (A.filter fun p => !m p.1).length) (a2A listed (nos (A.filter fun p => m p.1))) a w
section
variable {P : Program} {C : Ctx} {nt : Nat} {Q : Exit → St → Prop} {all : Array Oper} {oB oK : List Nat} {hd' : Nat → Bool} {A : a1Z} {listed : Array Bool} {fuel : Nat} {o : Oper} {d : Nat} {v X : SV} {Ks Bs : List Nat} {g : Bool} {σ σ₁ : St}
def a5B {α : Type} : List α → List (List α)
 | [] => [[]]
 | x :: xs => (a5B xs).map (x :: ·) ++ a5B xs
theorem b6W {α : Type} (m : α → Bool) : ∀ l : List α, l.filter m ∈ a5B l
 | [] => by simp [a5B]
 | x :: xs => by
  have ih := b6W m xs
  rw [List.filter_cons, a5B]
  split
  ·exact List.mem_append.2 (.inl (List.mem_map.2 ⟨_, ih, rfl⟩))
  ·exact List.mem_append.2 (.inr ih)
def b0r (all : Array Oper) (listed : Array Bool) (A : a1Z) (i : Nat) : Bool := (a5B A).all fun B =>
 (Region.ready .any all (a2A listed (nos B))).contains i && (Region.ready .any all (a2A listed (nos B))).all fun j => j == i || ((nos A).contains j && !(nos B).contains j)
def b4q (all : Array Oper) (listed : Array Bool) (A : a1Z) : Bool := (a5B A).all fun B =>
 B.length == A.length || (!(Region.ready .any all (a2A listed (nos B))).isEmpty && (Region.ready .any all (a2A listed (nos B))).all fun j => (nos A).contains j && !(nos B).contains j)
def c0z (hd : Nat → Bool) (all : Array Oper) (listed : Array Bool) (A : a1Z) (i : Nat) : Bool := (a5B A).all fun B => a4T .any all hd (a2A listed (nos B)) i
def c3p (hd : Nat → Bool) (all : Array Oper) (listed : Array Bool) (A : a1Z) (i : Nat) : Bool := (a5B A).all fun B => a8S .any all hd (a2A listed (nos B)) i
theorem a8Z (m : Nat → Bool) : A.filter (fun p => m p.1) ∈ a5B A := b6W _ A
theorem b3u {m : Nat → Bool} {j : Nat} (hA : (nos A).contains j = true) (h : (nos (A.filter fun p => m p.1)).contains j = false) : m j = false := by
 simp only [List.contains_iff_mem, List.mem_map] at hA
 obtain ⟨p, hp, rfl⟩ := hA
 cases hm : m p.1 with
 | false => rfl
 | true =>
  have : (nos (A.filter fun p => m p.1)).contains p.1 = true := by
   simp only [List.contains_iff_mem, List.mem_map]
   exact ⟨p, List.mem_filter.2 ⟨hp, hm⟩, rfl⟩
  rw [this] at h; cases h
theorem b2H : ∀ {A : a1Z} {m : Nat → Bool} {j : Nat}, (nos A).Nodup → j ∈ nos A → m j = false → (A.filter fun p => !m p.1).length = (A.filter fun p => !(m p.1 || p.1 == j)).length + 1
 | [], _, _, _, h, _ => by simp at h
 | p :: A, m, j, hn, h, hm => by
  simp only [List.map_cons, List.nodup_cons] at hn
  simp only [List.map_cons, List.mem_cons] at h
  by_cases e : p.1 = j
  ·subst e
   have h1 : (A.filter fun q => !m q.1) = A.filter fun q => !(m q.1 || q.1 == p.1) := by
    apply List.filter_congr
    intro q hq
    have : q.1 ≠ p.1 := fun e => hn.1 (by rw [← e]; exact List.mem_map.2 ⟨q, hq, rfl⟩)
    simp [this]
   rw [List.filter_cons, List.filter_cons, hm]
   simp [h1]
  ·have hj : j ∈ nos A := by
    rcases h with h | h
    ·exact absurd h.symm e
    ·exact h
   have ih := b2H hn.2 hj hm
   rw [List.filter_cons, List.filter_cons]
   have e2 : (p.1 == j) = false := by simpa using e
   rw [e2, Bool.or_false]
   split
   ·simp [ih]
   ·exact ih
theorem b7x {m : Nat → Bool} {j : Nat} (hj : j ∈ nos A) : a2A listed (nos (A.filter fun p => m p.1 || p.1 == j)) = (a2A listed (nos (A.filter fun p => m p.1))).setIfInBounds j true := by
 have : (a2A listed (nos (A.filter fun p => m p.1))).setIfInBounds j true = a2A listed (j :: nos (A.filter fun p => m p.1)) := rfl
 rw [this]
 apply c0C
 intro k
 rw [Bool.eq_iff_iff]
 simp only [List.contains_iff_mem, List.mem_map, List.mem_filter, List.mem_cons, Bool.or_eq_true, beq_iff_eq]
 constructor
 ·rintro ⟨p, ⟨hp, h⟩, rfl⟩
  rcases h with h | h
  ·exact .inr ⟨p, ⟨hp, h⟩, rfl⟩
  ·exact .inl h
 ·rintro (rfl | ⟨p, ⟨hp, h⟩, rfl⟩)
  ·obtain ⟨p, hp, rfl⟩ := List.mem_map.1 hj
   exact ⟨p, ⟨hp, .inr rfl⟩, rfl⟩
  ·exact ⟨p, ⟨hp, .inl h⟩, rfl⟩
theorem vfm {m : Nat → Bool} : ∀ p ∈ A.filter (fun p => m p.1), p ∈ A := fun p hp => (List.mem_filter.1 hp).1
theorem b5t (h : VOk P all nt A σ) {m : Nat → Bool} {j : Nat} (hj : j ∈ nos A) (hm : m j = false) {L : Lyt} {a : Act} {w wb : World} (hr : Rel P C nt L (σ.adds (A.filter fun p => m p.1)) a w) (hs : SW wb w) (hB : ∀ i ∈ oB, L.bb i < wb.heap.size) (hK : ∀ k ∈ oK, ∀ b ∈ L.fp k, b < wb.heap.size)
  (hob : (oB.all fun i => (look σ.bx i).isSome) = true) (hok : (oK.all fun k => (lkk σ k).isSome) = true) (K : Act → World → Prop) (Q' : Exit → Act → World → Prop)
  (hk : ∀ L' a' w', Rel P C nt L' (σ.adds (A.filter fun p => m p.1 || p.1 == j)) a' w' → SW wb w' → (∀ i ∈ oB, L'.bb i < wb.heap.size) → (∀ k ∈ oK, ∀ b ∈ L'.fp k, b < wb.heap.size) → K a' w') : ∃ oj, all[j]? = some oj ∧ oj.guard = none ∧ oj.wp P a w K Q' := by
 obtain ⟨p, hp, rfl⟩ := List.mem_map.1 hj
 obtain ⟨oj, h1, h2, h3, h4⟩ := h.op p hp
 obtain ⟨T, sz, by_, hT, ht⟩ := h.ty p hp
 refine ⟨oj, h1, h2, ?_⟩
 have hout : ∀ q ∈ A.filter (fun p => m p.1), q.2.1 ≠ p.2.1 := fun q hq e => by
  obtain ⟨hq1, hq2⟩ := List.mem_filter.1 hq
  have : q = p := by
   have key : ∀ {l : a1Z}, (l.map fun p => p.2.1).Nodup → q ∈ l → p ∈ l → q = p := by
    intro l
    induction l with
    | nil => intro _ h; simp at h
    | cons x l ih =>
     intro hn h1 h2
     simp only [List.map_cons, List.nodup_cons] at hn
     rcases List.mem_cons.1 h1 with e1 | e1 <;> rcases List.mem_cons.1 h2 with e2 | e2
     ·rw [e1, e2]
     ·exact absurd (List.mem_map.2 ⟨p, e2, by rw [← e, e1]⟩ : x.2.1 ∈ l.map fun p => p.2.1) hn.1
     ·exact absurd (List.mem_map.2 ⟨q, e1, by rw [e, e2]⟩ : x.2.1 ∈ l.map fun p => p.2.1) hn.1
     ·exact ih hn.2 e1 e2
   exact key h.nd hq1 hp
  subst this
  rw [hm] at hq2; cases hq2
 have hbn : look (σ.adds (A.filter fun p => m p.1)).bx p.2.1 = none := by
  rw [b0l, b0x hout, Option.none_or]; exact h.bn p hp
 have hef := b2l (P := P) (C := C) (nt := nt) (σ := σ.adds (A.filter fun p => m p.1)) hT h4 h3 (by simpa [Nat.blt_eq] using h.lt p hp) ht hbn
 refine hef.run L a w hr K Q' fun L' σ' a' w' e h5 h6 => hk L' a' w' ?_ (hs.chg h6.chg) (fun i hi => ?_) (fun k hk' => ?_)
 ·subst e
  have hmm : ∀ q ∈ A.filter (fun q => m q.1 || q.1 == p.1), q ∈ A.filter (fun q => m q.1) ∨ q = p := fun q hq => by
   obtain ⟨hq1, hq2⟩ := List.mem_filter.1 hq
   simp only [Bool.or_eq_true, beq_iff_eq] at hq2
   rcases hq2 with hq2 | hq2
   ·exact .inl (List.mem_filter.2 ⟨hq1, hq2⟩)
   ·right
    have key : ∀ {l : a1Z}, (nos l).Nodup → q ∈ l → p ∈ l → q = p := by
     intro l
     induction l with
     | nil => intro _ h; simp at h
     | cons x l ih =>
      intro hn h1 h2
      simp only [List.map_cons, List.nodup_cons] at hn
      rcases List.mem_cons.1 h1 with e1 | e1 <;> rcases List.mem_cons.1 h2 with e2 | e2
      ·rw [e1, e2]
      ·exact absurd (List.mem_map.2 ⟨p, e2, by rw [← hq2, e1]⟩ : x.1 ∈ nos l) hn.1
      ·exact absurd (List.mem_map.2 ⟨q, e1, by rw [hq2, e2]⟩ : x.1 ∈ nos l) hn.1
      ·exact ih hn.2 e1 e2
    exact key h.ni hq1 hp
  refine h5.sub' (fun i u hu => ?_) (fun i x hx => ?_) (fun k c hc => hc) (h.okA fun p hp => (List.mem_filter.1 hp).1)
  ·simp only [St.put, a0Y]
   rw [b2m] at hu ⊢
   split at hu
   ·rename_i hc
    simp only [List.contains_iff_mem, List.mem_map] at hc
    obtain ⟨q, hq, rfl⟩ := hc
    rcases hmm q hq with hq | rfl
    ·rw [if_neg (hout q hq), if_pos (by simp only [List.contains_iff_mem, List.mem_map]; exact ⟨q, hq, rfl⟩)]
     exact hu
    ·rw [if_pos rfl]; exact hu
   ·rename_i hc
    split
    ·rename_i e; rw [e, h.tn p hp] at hu; cases hu
    ·split
     ·rename_i h7
      exfalso
      apply hc
      simp only [List.contains_iff_mem, List.mem_map] at h7 ⊢
      obtain ⟨q, hq, e⟩ := h7
      obtain ⟨hq1, hq2⟩ := List.mem_filter.1 hq
      exact ⟨q, List.mem_filter.2 ⟨hq1, by simp [hq2]⟩, e⟩
     ·exact hu
  ·simp only [St.put, a0Y]
   rw [b0l] at hx ⊢
   have hnd' : ((A.filter fun q => m q.1 || q.1 == p.1).map fun p => p.2.1).Nodup := (List.Sublist.map _ List.filter_sublist).nodup h.nd
   have hnd2 : ((A.filter fun q => m q.1).map fun p => p.2.1).Nodup := (List.Sublist.map _ List.filter_sublist).nodup h.nd
   by_cases hq : ∃ q ∈ A.filter (fun q => m q.1 || q.1 == p.1), q.2.1 = i
   ·obtain ⟨q, hq, rfl⟩ := hq
    rw [b7j hnd' hq, Option.some_or] at hx
    rcases hmm q hq with hq | rfl
    ·rw [if_neg (hout q hq), b7j hnd2 hq, Option.some_or]; exact hx
    ·rw [if_pos rfl]; exact hx
   ·rw [b0x (fun q hq' e => hq ⟨q, hq', e⟩), Option.none_or] at hx
    split
    ·rename_i e; rw [e, h.bn p hp] at hx; cases hx
    ·rw [b0x (fun q hq' e => hq ⟨q, List.mem_filter.2 ⟨(List.mem_filter.1 hq').1, by simp [(List.mem_filter.1 hq').2]⟩, e⟩), Option.none_or]
     exact hx
 ·obtain ⟨x, hx⟩ := c5r.1 (List.all_eq_true.1 hob i hi)
  rw [h6.box i x (h.bxE vfm i x hx)]; exact hB i hi
 ·obtain ⟨c, hc⟩ := c5r.1 (List.all_eq_true.1 hok k hk')
  rw [h6.key k c hc]; exact hK k hk'
theorem b1r {ops : Array Oper} {Q' : Exit → Act → World → Prop} {i : Nat} {oi : Oper} {K : Act → World → Prop} {a : Act} {w : World} (hi : ops[i]? = some oi) (hg : oi.guard = none) (h : oi.wp P a w K Q') : wpOp P ops Q' i K a w := by
 unfold wpOp
 simp only [hi]
 have hw : Region.wanted oi (yielded ops a.tmps) = true := by simp [Region.wanted, hg]
 rw [if_pos hw]
 exact .inl h
theorem c0d (A : a1Z) (h : OpsA P C nt Q all oB oK hd' A listed fuel σ) : OpsD P C nt Q all oB oK hd' listed (fuel + A.length) σ := ⟨fun wb L a w hr hs hw hB hK => by
 have e1 : A.filter (fun p => (fun _ : Nat => false) p.1) = [] := by rw [List.filter_eq_nil_iff]; simp
 have e2 : A.filter (fun p => !(fun _ : Nat => false) p.1) = A := by rw [List.filter_eq_self]; simp
 have := h.run (fun _ => false) wb L a w (by rw [e1]; exact hr) hs hw hB hK
 rw [e1, e2] at this
 exact this⟩
theorem c1T (hv : VOk P all nt A σ) (hob : (oB.all fun i => (look σ.bx i).isSome) = true) (hok : (oK.all fun k => (lkk σ k).isSome) = true) (hr0 : b4q all listed A = true) (h : OpsD P C nt Q all oB oK hd' (a2A listed (nos A)) fuel (σ.adds A)) : OpsA P C nt Q all oB oK hd' A listed fuel σ := by
 refine ⟨fun m => ?_⟩
 obtain ⟨n, hn⟩ : ∃ n, n = (A.filter fun p => !m p.1).length := ⟨_, rfl⟩
 induction n generalizing m with
 | zero =>
  intro wb L a w hr hs hw hB hK
  have hall : A.filter (fun p => m p.1) = A := by
   rw [List.filter_eq_self]
   intro p hp
   cases hm : m p.1 with
   | true => rfl
   | false =>
    have : p ∈ A.filter fun p => !m p.1 := List.mem_filter.2 ⟨hp, by simp [hm]⟩
    rw [List.eq_nil_of_length_eq_zero hn.symm] at this
    simp at this
  rw [← hn, hall]
  rw [hall] at hr
  exact h.run wb L a w hr hs hw hB hK
 | succ n ih =>
  intro wb L a w hr hs hw hB hK
  have h1 := List.all_eq_true.1 hr0 _ (a8Z m)
  rw [← hn]
  simp only [Bool.or_eq_true, beq_iff_eq, Bool.and_eq_true, Bool.not_eq_true', List.all_eq_true] at h1
  rcases h1 with h1 | ⟨h1, h2⟩
  ·exfalso
   have : A.filter (fun p => m p.1) = A := List.Sublist.eq_of_length List.filter_sublist h1
   rw [List.filter_eq_self] at this
   have h3 : (A.filter fun p => !m p.1) = [] := by rw [List.filter_eq_nil_iff]; intro p hp; simp [this p hp]
   rw [h3] at hn; simp at hn
  ·refine ⟨fun e => (by rw [e] at h1; simp at h1), fun j hj => ?_⟩
   obtain ⟨g1, g2⟩ := h2 j hj
   have hjA : j ∈ nos A := by simpa using g1
   have hmj := b3u g1 g2
   have hlen := b2H hv.ni hjA hmj
   obtain ⟨oj, k1, k2, k3⟩ := b5t (Q' := QQ P C nt Q) (K := fun a' w' => (hd' j = true → SW wb w') ∧ a2q P .any all (QQ P C nt Q) (SW wb) hd' (fuel + n) ((a2A listed (nos (A.filter fun p => m p.1))).setIfInBounds j true) a' w') hv hjA hmj hr hs hB hK hob hok
    (fun L' a' w' q1 q2 q3 q4 => ⟨fun _ => q2, by
     have := ih (fun i => m i || i == j) (by omega) wb L' a' w' q1 q2 hw q3 q4
     rw [b7x hjA] at this
     rw [show n = (A.filter fun p => !(m p.1 || p.1 == j)).length by omega]
     exact this⟩)
   exact b1r k1 k2 k3
theorem b3o (i : Nat) (hi : all[i]? = some o) (hg : o.guard = none) (hv : VOk P all nt A σ) (hiA : (nos A).contains i = false) (hob : (oB.all fun i => (look σ.bx i).isSome) = true) (hok : (oK.all fun k => (lkk σ k).isSome) = true) (hr0 : b0r all listed A i = true)
  (hp : ∀ B : a1Z, (∀ p ∈ B, p ∈ A) → EfG P C nt o (σ.adds B) (fun σ' => σ' = σ₁.adds B ∨ ∀ L a w, Rel P C nt L σ' a w → Rel P C nt L (σ₁.adds B) a w)) (h : OpsA P C nt Q all oB oK hd' A (listed.setIfInBounds i true) fuel σ₁) : OpsA P C nt Q all oB oK hd' A listed (fuel + 1) σ := by
 refine ⟨fun m => ?_⟩
 obtain ⟨n, hn⟩ : ∃ n, n = (A.filter fun p => !m p.1).length := ⟨_, rfl⟩
 induction n generalizing m with
 | zero =>
  intro wb L a w hr hs hw hB hK
  have h1 := List.all_eq_true.1 hr0 _ (a8Z m)
  simp only [Bool.and_eq_true, List.all_eq_true, Bool.or_eq_true, beq_iff_eq, Bool.not_eq_true'] at h1
  rw [← hn]
  refine ⟨fun e => (by rw [e] at h1; simp at h1), fun j hj => ?_⟩
  rcases h1.2 j hj with rfl | ⟨g1, g2⟩
  ·refine b1r hi hg ((hp _ vfm).run L a w hr _ _ fun L' σ' a' w' e h5 h6 => ⟨fun _ => hs.chg h6.chg, ?_⟩)
   have h7 : Rel P C nt L' (σ₁.adds (A.filter fun p => m p.1)) a' w' := by
    rcases e with e | e
    ·rw [← e]; exact h5
    ·exact e _ _ _ h5
   have := h.run m wb L' a' w' h7 (hs.chg h6.chg) hw (fun i hi => by
    obtain ⟨x, hx⟩ := c5r.1 (List.all_eq_true.1 hob i hi)
    rw [h6.box i x (hv.bxE vfm i x hx)]; exact hB i hi) (fun k hk' => by
    obtain ⟨c, hc⟩ := c5r.1 (List.all_eq_true.1 hok k hk')
    rw [h6.key k c hc]; exact hK k hk')
   rw [← hn, a9D (fun hm => by
    obtain ⟨p, hp', e⟩ := List.mem_map.1 hm
    have : (nos A).contains j = true := by simp only [List.contains_iff_mem, List.mem_map]; exact ⟨p, vfm p hp', e⟩
    rw [this] at hiA; cases hiA)] at this
   exact this
  ·exfalso
   have hmj := b3u g1 g2
   obtain ⟨p, hp', rfl⟩ := List.mem_map.1 (by simpa using g1 : j ∈ nos A)
   have : p ∈ A.filter fun p => !m p.1 := List.mem_filter.2 ⟨hp', by simp [hmj]⟩
   rw [List.eq_nil_of_length_eq_zero hn.symm] at this
   simp at this
 | succ n ih =>
  intro wb L a w hr hs hw hB hK
  have h1 := List.all_eq_true.1 hr0 _ (a8Z m)
  simp only [Bool.and_eq_true, List.all_eq_true, Bool.or_eq_true, beq_iff_eq, Bool.not_eq_true'] at h1
  rw [← hn]
  refine ⟨fun e => (by rw [e] at h1; simp at h1), fun j hj => ?_⟩
  rcases h1.2 j hj with rfl | ⟨g1, g2⟩
  ·refine b1r hi hg ((hp _ vfm).run L a w hr _ _ fun L' σ' a' w' e h5 h6 => ⟨fun _ => hs.chg h6.chg, ?_⟩)
   have h7 : Rel P C nt L' (σ₁.adds (A.filter fun p => m p.1)) a' w' := by
    rcases e with e | e
    ·rw [← e]; exact h5
    ·exact e _ _ _ h5
   have := h.run m wb L' a' w' h7 (hs.chg h6.chg) hw (fun i hi => by
    obtain ⟨x, hx⟩ := c5r.1 (List.all_eq_true.1 hob i hi)
    rw [h6.box i x (hv.bxE vfm i x hx)]; exact hB i hi) (fun k hk' => by
    obtain ⟨c, hc⟩ := c5r.1 (List.all_eq_true.1 hok k hk')
    rw [h6.key k c hc]; exact hK k hk')
   rw [← hn, a9D (fun hm => by
    obtain ⟨p, hp', e⟩ := List.mem_map.1 hm
    have : (nos A).contains j = true := by simp only [List.contains_iff_mem, List.mem_map]; exact ⟨p, vfm p hp', e⟩
    rw [this] at hiA; cases hiA)] at this
   rw [show fuel + (n + 1) = fuel + 1 + n by omega] at this
   exact this
  ·have hjA : j ∈ nos A := by simpa using g1
   have hmj := b3u g1 g2
   have hlen := b2H hv.ni hjA hmj
   obtain ⟨oj, k1, k2, k3⟩ := b5t (Q' := QQ P C nt Q) (K := fun a' w' => (hd' j = true → SW wb w') ∧ a2q P .any all (QQ P C nt Q) (SW wb) hd' (fuel + 1 + n) ((a2A listed (nos (A.filter fun p => m p.1))).setIfInBounds j true) a' w') hv hjA hmj hr hs hB hK hob hok
    (fun L' a' w' q1 q2 q3 q4 => ⟨fun _ => q2, by
     have := ih (fun i => m i || i == j) (by omega) wb L' a' w' q1 q2 hw q3 q4
     rw [b7x hjA] at this
     rw [show n = (A.filter fun p => !(m p.1 || p.1 == j)).length by omega]
     exact this⟩)
   exact b1r k1 k2 k3
theorem VOk.perm {tm : List (Nat × SV)} {bx : List (Nat × TypeId × List CV)} {ks : List (Nat × Option KC)} (hv : VOk P all nt A ⟨(d, v) :: tm, bx, ks⟩) {B : a1Z} (hB : ∀ p ∈ B, p ∈ A) {C : Ctx} {L : Lyt} {a : Act} {w : World} (hr : Rel P C nt L ⟨(d, v) :: a3j B tm, a2Z B bx, ks⟩ a w) : Rel P C nt L (St.adds ⟨(d, v) :: tm, bx, ks⟩ B) a w :=
 hr.sub' (fun i u hu => by
  simp only [a0Y]
  rw [b2m] at hu ⊢
  split at hu
  ·rename_i hc
   have hne : i ≠ d := by
    rintro rfl
    simp only [List.contains_iff_mem, List.mem_map] at hc
    obtain ⟨q, hq, rfl⟩ := hc
    have := hv.tn q (hB q hq)
    rw [a0Y, if_pos rfl] at this
    cases this
   rw [if_neg hne, if_pos hc]; exact hu
  ·rename_i hc
   simp only [a0Y] at hu
   split at hu
   ·rename_i e; rw [if_pos e]; exact hu
   ·rename_i e; rw [if_neg e, if_neg hc]; exact hu) (fun _ _ h => h) (fun _ _ h => h) (hv.okA hB)
def b6F (all : Array Oper) (nt : Nat) (A : a1Z) (tms bxs : List Nat) : Bool :=
 (A.all fun p => (match all[p.1]? with
  | some o => o.guard.isNone && o.dst == some p.2.1 && (match o.op with | .alloc t => t == p.2.2.1 | _ => false)
  | none => false) && Nat.blt p.2.1 nt && !(tms.contains p.2.1) && !(bxs.contains p.2.1)) && a7O (A.map fun p => p.2.1) && a7O (nos A)
def a9x (T : TT) : a1Z → Prop
 | [] => True
 | p :: A => (∃ sz by_, look T.el p.2.2.1 = some (sz, by_, p.2.2.2)) ∧ p.2.2.2.flatMap CV.keys = [] ∧ a9x T A
theorem a9x.mem {T : TT} : ∀ {A : a1Z}, a9x T A → ∀ p ∈ A, (∃ sz by_, look T.el p.2.2.1 = some (sz, by_, p.2.2.2)) ∧ p.2.2.2.flatMap CV.keys = []
 | [], _, p, hp => by simp at hp
 | q :: A, h, p, hp => by
  rcases List.mem_cons.1 hp with rfl | hp
  ·exact ⟨h.1, h.2.1⟩
  ·exact h.2.2.mem p hp
theorem b2S {α : Type} : ∀ {l : List (Nat × α)} {j : Nat}, (l.map fun p => p.1).contains j = false → look l j = none
 | [], _, _ => by simp [look]
 | p :: l, j, h => by
  simp only [List.map_cons, List.contains_cons, Bool.or_eq_false_iff] at h
  obtain ⟨k, x⟩ := p
  rw [a0Y, if_neg (by simpa using h.1)]
  exact b2S h.2
theorem vok {T : TT} (hT : TTOk P T) (ht : a9x T A) (hb : b6F all nt A (σ.tm.map fun p => p.1) (σ.bx.map fun p => p.1) = true) (ho : σ.okB = true) : VOk P all nt A σ := by
 simp only [b6F, Bool.and_eq_true, List.all_eq_true, Bool.not_eq_true'] at hb
 obtain ⟨⟨h1, h2⟩, h3⟩ := hb
 refine ⟨fun p hp => ?_, fun p hp => ?_, fun p hp => by have := (h1 p hp).1.1.2; simpa [Nat.blt_eq] using this, fun p hp => (ht.mem p hp).2, fun p hp => b2S (h1 p hp).2, fun p hp => b2S (h1 p hp).1.2, a9g h2, a9g h3, ho⟩
 ·have := (h1 p hp).1.1.1
  split at this
  ·rename_i oj hoj
   simp only [Bool.and_eq_true, beq_iff_eq, Option.isNone_iff_eq_none] at this
   refine ⟨oj, hoj, this.1.1, this.1.2, ?_⟩
   have h4 := this.2
   split at h4
   ·rename_i t e; rw [e]; rw [beq_iff_eq] at h4; rw [h4]
   ·cases h4
  ·cases this
 ·obtain ⟨⟨sz, by_, h⟩, _⟩ := ht.mem p hp
  exact ⟨T, sz, by_, hT, h⟩
/-! the steps, over states that are written out -/
section
variable {tm : List (Nat × SV)} {bx : List (Nat × TypeId × List CV)} {ks : List (Nat × Option KC)}
theorem a5q {T : TT} {A : a1Z} (hT : TTOk P T) (ht : a9x T A) (h : OpsA P C nt Q all oB oK hd' A listed fuel ⟨tm, bx, ks⟩) : OpsD P C nt Q all oB oK hd' listed (fuel + A.length) ⟨tm, bx, ks⟩ := c0d A h
theorem a5C (hv : VOk P all nt A ⟨tm, bx, ks⟩) (hob : (oB.all fun i => (look bx i).isSome) = true) (hok : (oK.all fun k => (lkk ⟨tm, bx, ks⟩ k).isSome) = true) (hr0 : b4q all listed A = true) (h : OpsD P C nt Q all oB oK hd' (a2A listed (nos A)) fuel ⟨a3j A tm, a2Z A bx, ks⟩) : OpsA P C nt Q all oB oK hd' A listed fuel ⟨tm, bx, ks⟩ := c1T hv hob hok hr0 h
theorem a5U (i : Nat) (hi : all[i]? = some o) (ht : c0z hd' all listed A i = true) (hiA : (nos A).contains i = false) (hg : o.guard = none) (hd : o.dst = some d) (hv : VOk P all nt A ⟨tm, bx, ks⟩) (hv1 : VOk P all nt A ⟨(d, v) :: tm, bx, ks⟩) (hp : Pu P C nt o ⟨tm, bx, ks⟩ v Ks Bs) (h1 : (Ks.all fun k => oK.contains k) = true) (h2 : (Bs.all fun k => oB.contains k) = true) (hn : Nat.blt d nt = true) (hk : a1p ⟨tm, bx, ks⟩ v = true)
  (h : OpsA P C nt Q all oB oK hd' A (listed.setIfInBounds i true) fuel ⟨(d, v) :: tm, bx, ks⟩) : OpsA P C nt Q all oB oK hd' A listed (fuel + 1) ⟨tm, bx, ks⟩ := ⟨fun m wb L a w hr hs hw hB hK => by
 have hx := hv.ext (C := C) (B := A.filter fun p => m p.1) vfm
 obtain ⟨r, h3, h4⟩ := a9O hr hs hw hB hK (hx.pu hp) h1 h2
 rw [show fuel + 1 + (A.filter fun p => !m p.1).length = fuel + (A.filter fun p => !m p.1).length + 1 by omega]
 refine a6w i (v := r) hi (List.all_eq_true.1 ht _ (a8Z m)) (fun _ _ _ h => h) hs (.inl ⟨by simp [Region.wanted, hg], h4⟩) ?_
 rw [hd, ← a9D (fun hm => by
  obtain ⟨p, hp', e⟩ := List.mem_map.1 hm
  have : (nos A).contains i = true := by simp only [List.contains_iff_mem, List.mem_map]; exact ⟨p, vfm p hp', e⟩
  rw [this] at hiA; cases hiA)]
 refine h.run m wb L _ w (hv1.perm vfm ?_) hs hw hB hK
 refine hr.put (by simpa [Nat.blt_eq] using hn) h3 (a2f hk).1 fun b hb => ?_
 obtain ⟨x, hx'⟩ := c5r.1 ((a2f hk).2 b hb)
 rw [hx.bx b x hx']; rfl⟩
theorem a2L (i : Nat) (hi : all[i]? = some o) (ht : c3p hd' all listed A i = true) (hex : a8A o = true) (hiA : (nos A).contains i = false) (hg : o.guard = none) (hd : o.dst = some d) (hv : VOk P all nt A ⟨tm, bx, ks⟩) (hv1 : VOk P all nt A ⟨(d, v) :: tm, bx, ks⟩) (hp : Pu P C nt o ⟨tm, bx, ks⟩ v Ks Bs) (hn : Nat.blt d nt = true) (hk : a1p ⟨tm, bx, ks⟩ v = true)
  (h : OpsA P C nt Q all oB oK hd' A (listed.setIfInBounds i true) fuel ⟨(d, v) :: tm, bx, ks⟩) : OpsA P C nt Q all oB oK hd' A listed (fuel + 1) ⟨tm, bx, ks⟩ := ⟨fun m wb L a w hr hs hw hB hK => by
 have hx := hv.ext (C := C) (B := A.filter fun p => m p.1) vfm
 obtain ⟨r, h3, h4⟩ := (hx.pu hp).run L a w hr
 rw [show fuel + 1 + (A.filter fun p => !m p.1).length = fuel + (A.filter fun p => !m p.1).length + 1 by omega]
 refine b6B i (v := r) hi (List.all_eq_true.1 ht _ (a8Z m)) (fun _ _ _ h => h) (.inl ⟨by simp [Region.wanted, hg], fun w' _ => b5C hex (h4 w fun _ _ _ => rfl) w'⟩) ?_
 rw [hd, ← a9D (fun hm => by
  obtain ⟨p, hp', e⟩ := List.mem_map.1 hm
  have : (nos A).contains i = true := by simp only [List.contains_iff_mem, List.mem_map]; exact ⟨p, vfm p hp', e⟩
  rw [this] at hiA; cases hiA)]
 refine h.run m wb L _ w (hv1.perm vfm ?_) hs hw hB hK
 refine hr.put (by simpa [Nat.blt_eq] using hn) h3 (a2f hk).1 fun b hb => ?_
 obtain ⟨x, hx'⟩ := c5r.1 ((a2f hk).2 b hb)
 rw [hx.bx b x hx']; rfl⟩
theorem a4J (m i : Nat) {f : FuncId} {xs : List Operand} {ats : Array TypeId} {us : List SV} {kk : List (Nat × Option KC)} (hi : all[i]? = some o) (ht : b0r all listed A i = true) (hiA : (nos A).contains i = false) (hg : o.guard = none) (hd : o.dst = some d) (hv : VOk P all nt A ⟨tm, bx, ks⟩) (hv1 : VOk P all nt A ⟨(d, v.sh m) :: tm, bx, shK m kk ++ ks⟩) (ho : o.op = .call { callee := .value (.func f), args := xs.toArray, argTypes := ats })
  (hc : ∀ (args : Array Value) (w : World), (callFunc f args).run P w = .ok (.enter f args) w) (hf : KFn P f us v kk) (ha : a2t P C nt ⟨tm, bx, ks⟩ xs us) (hn : Nat.blt d nt = true) (hres : v.retOk = true) (hfree : (kk.all fun q => (lkk ⟨tm, bx, ks⟩ (m + q.1)).isNone) = true)
  (hb : (oB.all fun i => (look bx i).isSome) = true) (hk : (oK.all fun k => (lkk ⟨tm, bx, ks⟩ k).isSome) = true)
  (h : OpsA P C nt Q all oB oK hd' A (listed.setIfInBounds i true) fuel ⟨(d, v.sh m) :: tm, bx, shK m kk ++ ks⟩) : OpsA P C nt Q all oB oK hd' A listed (fuel + 1) ⟨tm, bx, ks⟩ :=
 b3o i hi hg hv hiA hb hk ht (fun B hB => EfG.mk fun L a w hr K Q' hk' =>
  (a9p (σ := St.adds ⟨tm, bx, ks⟩ B) (ι := Unit) (v := fun _ => v) (kk := fun _ => kk) (p := fun _ => True) m ho hd hn hc hf.ok ((hv.ext hB).args ha) (fun u σ' h => ⟨(), h.1, h.2, trivial⟩) (fun _ => hres) (fun _ => hfree)).run L a w hr K Q' fun L' σ' a' w' h1 h2 h3 => hk' L' σ' a' w' (.inr (by
   obtain ⟨_, _, e⟩ := h1
   subst e
   exact fun L a w hr => hv1.perm hB hr)) h2 h3) h
theorem b7p (i : Nat) {f : FuncId} {xs : List Operand} {ats : Array TypeId} {us : List SV} (hi : all[i]? = some o) (ht : b0r all listed A i = true) (hiA : (nos A).contains i = false) (hg : o.guard = none) (hd : o.dst = some d) (hv : VOk P all nt A ⟨tm, bx, ks⟩) (hv1 : VOk P all nt A ⟨(d, X) :: tm, bx, ks⟩) (ho : o.op = .call { callee := .value (.func f), args := xs.toArray, argTypes := ats })
  (hc : ∀ (args : Array Value) (w : World), (callFunc f args).run P w = .ok (.enter f args) w) (hf : PFn P f us X) (ha : a2t P C nt ⟨tm, bx, ks⟩ xs us) (hp : X.plain = true) (hn : Nat.blt d nt = true)
  (hb : (oB.all fun i => (look bx i).isSome) = true) (hk : (oK.all fun k => (lkk ⟨tm, bx, ks⟩ k).isSome) = true)
  (h : OpsA P C nt Q all oB oK hd' A (listed.setIfInBounds i true) fuel ⟨(d, X) :: tm, bx, ks⟩) : OpsA P C nt Q all oB oK hd' A listed (fuel + 1) ⟨tm, bx, ks⟩ :=
 b3o i hi hg hv hiA hb hk ht (fun B hB => EfG.mk fun L a w hr K Q' hk' =>
  ((a9y ho hc hf hp ((hv.ext hB).args ha)).efg (σ := St.adds ⟨tm, bx, ks⟩ B) hd hn).run L a w hr K Q' fun L' σ' a' w' h1 h2 h3 => hk' L' σ' a' w' (.inr (by
   obtain ⟨u, hu, e⟩ := h1
   subst e
   subst hu
   exact fun L a w hr => hv1.perm hB hr)) h2 h3) h
end
end
open Go.Proofs
def a4I : TT where
 sl := [(22, 79), (23, 82), (26, 86), (29, 3), (32, 89), (33, 95), (36, 63), (61, 111), (77, 156), (84, 159), (87, 128), (103, 9), (107, 161), (148, 5), (152, 221)]
 ag := [(7, 4), (13, 2), (24, 4), (25, 4), (27, 1), (28, 1), (34, 4), (35, 4), (37, 1), (38, 1), (62, 5), (63, 5), (78, 3), (79, 3), (81, 2), (82, 2), (85, 5), (86, 5), (88, 3), (89, 3), (95, 2), (97, 3), (98, 3), (108, 1), (109, 1), (110, 7), (111, 7), (127, 4), (128, 4), (151, 3), (153, 1), (154, 1), (155, 4), (156, 4), (158, 7), (159, 7), (160, 2), (161, 2), (168, 8), (169, 8), (221, 2)]
 on := [(2, ()), (3, ()), (4, ()), (5, ()), (9, ()), (12, ()), (21, ()), (22, ()), (23, ()), (26, ()), (29, ()), (32, ()), (33, ()), (36, ()), (61, ()), (77, ()), (84, ()), (87, ()), (103, ()), (107, ()), (148, ()), (152, ()), (181, ()), (205, ()), (207, ())]
 of := [(7000, 0), (7001, 1), (7002, 2), (7003, 3), (13000, 0), (13001, 1), (24000, 0), (24001, 1), (24002, 2), (24003, 3), (25000, 0), (25001, 1), (25002, 2), (25003, 3), (27000, 0), (28000, 0), (34000, 0), (34001, 1), (34002, 2), (34003, 3), (35000, 0), (35001, 1), (35002, 2), (35003, 3), (37000, 0), (38000, 0), (62000, 0), (62001, 1), (62002, 2), (62003, 3), (62004, 4), (63000, 0), (63001, 1), (63002, 2), (63003, 3), (63004, 4), (78000, 0), (78001, 1), (78002, 2), (79000, 0), (79001, 1), (79002, 2), (81000, 0), (81001, 1), (82000, 0), (82001, 1), (85000, 0), (85001, 1), (85002, 2), (85003, 3), (85004, 4), (86000, 0), (86001, 1), (86002, 2), (86003, 3), (86004, 4), (88000, 0), (88001, 1), (88002, 2), (89000, 0), (89001, 1), (89002, 2), (95000, 0), (95001, 1), (97000, 0), (97001, 1), (97002, 2), (98000, 0), (98001, 1), (98002, 2), (108000, 0), (109000, 0), (110000, 0), (110001, 1), (110002, 2), (110003, 5), (110004, 6), (111000, 0), (111001, 1), (111002, 2), (111003, 5), (111004, 6), (127000, 0), (127001, 3), (128000, 0), (128001, 3), (151000, 0), (151001, 1), (151002, 2), (153000, 0), (154000, 0), (155000, 0), (155001, 3), (156000, 0), (156001, 3), (158000, 0), (158001, 1), (158002, 2), (158003, 5), (158004, 6), (159000, 0), (159001, 1), (159002, 2), (159003, 5), (159004, 6), (160000, 0), (160001, 1), (161000, 0), (161001, 1), (168000, 0), (168001, 1), (168002, 2), (168003, 5), (169000, 0), (169001, 1), (169002, 2), (169003, 5), (221000, 0), (221001, 1)]
 el := [(2, (1, 8, [.dv [] (.int .i64 0)])), (3, (1, 8, [.dv [] (.int .i64 0)])), (4, (1, 1, [.dv [] (.bool false)])), (5, (1, 1, [.dv [] (.int .u8 0)])), (7, (4, 24, [.dv [] (.int .i64 0), .dv [] (.int .i64 0), .dv [] (.bool false), .dv [] (.int .u8 0)])), (9, (1, 16, [.dv [] (.str ByteArray.empty)])), (12, (1, 8, [.dv [] (.int .u64 0)])), (13, (2, 24, [.dv [] (.str ByteArray.empty), .dv [] (.int .u64 0)])), (21, (1, 4, [.dv [] (.int .i32 0)])), (22, (1, 24, [.nil])), (23, (1, 24, [.nil])), (24, (4, 72, [.dv [] (.str ByteArray.empty), .dv [] (.int .i64 0), .nil, .nil])), (25, (4, 72, [.dv [] (.str ByteArray.empty), .dv [] (.int .i64 0), .nil, .nil])), (26, (1, 24, [.nil])), (27, (1, 24, [.nil])), (28, (1, 24, [.nil])), (29, (1, 24, [.nil])), (32, (1, 24, [.nil])), (33, (1, 24, [.nil])), (34, (4, 72, [.dv [] (.str ByteArray.empty), .dv [] (.int .i64 0), .nil, .nil])), (35, (4, 72, [.dv [] (.str ByteArray.empty), .dv [] (.int .i64 0), .nil, .nil])), (36, (1, 24, [.nil])), (37, (1, 24, [.nil])), (38, (1, 24, [.nil])), (61, (1, 24, [.nil])), (62, (5, 72, [.dv [] (.int .i64 0), .nil, .dv [] (.int .i64 0), .dv [] (.int .i64 0), .nil])), (63, (5, 72, [.dv [] (.int .i64 0), .nil, .dv [] (.int .i64 0), .dv [] (.int .i64 0), .nil])), (77, (1, 24, [.nil])), (78, (3, 48, [.dv [] (.str ByteArray.empty), .nil, .dv [] (.int .i64 0)])), (79, (3, 48, [.dv [] (.str ByteArray.empty), .nil, .dv [] (.int .i64 0)])), (81, (2, 32, [.dv [] (.str ByteArray.empty), .dv [] (.str ByteArray.empty)])), (82, (2, 32, [.dv [] (.str ByteArray.empty), .dv [] (.str ByteArray.empty)])), (84, (1, 24, [.nil])), (85, (5, 72, [.dv [] (.int .i64 0), .nil, .dv [] (.int .i64 0), .dv [] (.int .i64 0), .nil])), (86, (5, 72, [.dv [] (.int .i64 0), .nil, .dv [] (.int .i64 0), .dv [] (.int .i64 0), .nil])), (87, (1, 24, [.nil])), (88, (3, 48, [.dv [] (.str ByteArray.empty), .nil, .dv [] (.int .i64 0)])), (89, (3, 48, [.dv [] (.str ByteArray.empty), .nil, .dv [] (.int .i64 0)])), (95, (2, 32, [.dv [] (.str ByteArray.empty), .dv [] (.str ByteArray.empty)])), (97, (3, 32, [.dv [] (.int .i64 0), .dv [] (.int .i64 0), .dv [] (.str ByteArray.empty)])), (98, (3, 32, [.dv [] (.int .i64 0), .dv [] (.int .i64 0), .dv [] (.str ByteArray.empty)])), (103, (1, 24, [.nil])), (107, (1, 24, [.nil])), (108, (1, 24, [.nil])), (109, (1, 24, [.nil])), (110, (7, 96, [.dv [] (.int .i64 0), .dv [] (.str ByteArray.empty), .dv [] (.int .i64 0), .dv [] (.int .i64 0), .dv [] (.str ByteArray.empty), .nil, .dv [] (.str ByteArray.empty)])), (111, (7, 96, [.dv [] (.int .i64 0), .dv [] (.str ByteArray.empty), .dv [] (.int .i64 0), .dv [] (.int .i64 0), .dv [] (.str ByteArray.empty), .nil, .dv [] (.str ByteArray.empty)])), (127, (4, 56, [.dv [] (.int .i64 0), .dv [] (.int .i64 0), .dv [] (.str ByteArray.empty), .nil])), (128, (4, 56, [.dv [] (.int .i64 0), .dv [] (.int .i64 0), .dv [] (.str ByteArray.empty), .nil])), (148, (1, 24, [.nil])), (151, (3, 32, [.dv [] (.int .i64 0), .dv [] (.int .i64 0), .dv [] (.str ByteArray.empty)])), (152, (1, 24, [.nil])), (153, (1, 24, [.nil])), (154, (1, 24, [.nil])), (155, (4, 56, [.dv [] (.int .i64 0), .dv [] (.int .i64 0), .dv [] (.str ByteArray.empty), .nil])), (156, (4, 56, [.dv [] (.int .i64 0), .dv [] (.int .i64 0), .dv [] (.str ByteArray.empty), .nil])), (158, (7, 96, [.dv [] (.int .i64 0), .dv [] (.str ByteArray.empty), .dv [] (.int .i64 0), .dv [] (.int .i64 0), .dv [] (.str ByteArray.empty), .nil, .dv [] (.str ByteArray.empty)])), (159, (7, 96, [.dv [] (.int .i64 0), .dv [] (.str ByteArray.empty), .dv [] (.int .i64 0), .dv [] (.int .i64 0), .dv [] (.str ByteArray.empty), .nil, .dv [] (.str ByteArray.empty)])), (160, (2, 24, [.dv [] (.str ByteArray.empty), .dv [] (.int .i64 0)])), (161, (2, 24, [.dv [] (.str ByteArray.empty), .dv [] (.int .i64 0)])), (168, (8, 72, [.dv [] (.bool false), .dv [] (.bool false), .dv [] (.int .i64 0), .dv [] (.int .i64 0), .dv [] (.str ByteArray.empty), .dv [] (.int .i64 0), .dv [] (.int .i64 0), .dv [] (.str ByteArray.empty)])), (169, (8, 72, [.dv [] (.bool false), .dv [] (.bool false), .dv [] (.int .i64 0), .dv [] (.int .i64 0), .dv [] (.str ByteArray.empty), .dv [] (.int .i64 0), .dv [] (.int .i64 0), .dv [] (.str ByteArray.empty)])), (181, (1, 8, [.dv [] (.int .u64 0)])), (205, (1, 4, [.dv [] (.int .u32 0)])), (207, (1, 8, [.dv [] (.int .u64 0)])), (221, (2, 24, [.dv [] (.str ByteArray.empty), .dv [] (.int .i64 0)]))]
 st := [(9, ())]
 bo := [(4, ())]
 it := [(2, .i64), (3, .i64), (5, .u8), (12, .u64), (21, .i32), (181, .u64), (205, .u32), (207, .u64)]
def c2U : List (Nat × List (Nat × Nat)) := [(7, [(0, 1), (1, 1), (2, 1), (3, 1)]), (13, [(0, 1), (1, 1)]), (24, [(0, 1), (1, 1), (2, 1), (3, 1)]), (25, [(0, 1), (1, 1), (2, 1), (3, 1)]), (27, [(0, 1)]), (28, [(0, 1)]), (34, [(0, 1), (1, 1), (2, 1), (3, 1)]), (35, [(0, 1), (1, 1), (2, 1), (3, 1)]), (37, [(0, 1)]), (38, [(0, 1)]), (62, [(0, 1), (1, 1), (2, 1), (3, 1), (4, 1)]), (63, [(0, 1), (1, 1), (2, 1), (3, 1), (4, 1)]), (78, [(0, 1), (1, 1), (2, 1)]), (79, [(0, 1), (1, 1), (2, 1)]), (81, [(0, 1), (1, 1)]), (82, [(0, 1), (1, 1)]), (85, [(0, 1), (1, 1), (2, 1), (3, 1), (4, 1)]), (86, [(0, 1), (1, 1), (2, 1), (3, 1), (4, 1)]), (88, [(0, 1), (1, 1), (2, 1)]), (89, [(0, 1), (1, 1), (2, 1)]), (95, [(0, 1), (1, 1)]), (97, [(0, 1), (1, 1), (2, 1)]), (98, [(0, 1), (1, 1), (2, 1)]), (108, [(0, 1)]), (109, [(0, 1)]), (110, [(0, 1), (1, 1), (2, 3), (5, 1), (6, 1)]), (111, [(0, 1), (1, 1), (2, 3), (5, 1), (6, 1)]), (127, [(0, 3), (3, 1)]), (128, [(0, 3), (3, 1)]), (151, [(0, 1), (1, 1), (2, 1)]), (153, [(0, 1)]), (154, [(0, 1)]), (155, [(0, 3), (3, 1)]), (156, [(0, 3), (3, 1)]), (158, [(0, 1), (1, 1), (2, 3), (5, 1), (6, 1)]), (159, [(0, 1), (1, 1), (2, 3), (5, 1), (6, 1)]), (160, [(0, 1), (1, 1)]), (161, [(0, 1), (1, 1)]), (168, [(0, 1), (1, 1), (2, 3), (5, 3)]), (169, [(0, 1), (1, 1), (2, 3), (5, 3)]), (221, [(0, 1), (1, 1)])]
theorem hT : TTOk Tryz.prog a4I := TT.ok (by kernel_rfl)
theorem hB : BOk Tryz.prog c2U := bOk (by kernel_rfl)
theorem b6l (a : Int) (b : Int) (s : ByteArray) (a' : Int) (b' : Int) (s' : ByteArray) (w : World) : (binOp .eql 98 (.agg [Value.int .i64 a, .int .i64 b, .string s].toArray) (.agg [Value.int .i64 a', .int .i64 b', .string s'].toArray)).run Tryz.prog w = .ok (.bool (((decide (a = a') && (decide (b = b') && sEq s s'))))) w := by
 rw [run_eql_struct]; simp [go_sem, sEq]; by_cases h_a : a = a' <;> by_cases h_b : b = b' <;> by_cases h_s : s.toList = s'.toList <;> simp [h_a, h_b, h_s]
theorem b5A (s : ByteArray) (u : ByteArray) (s' : ByteArray) (u' : ByteArray) (w : World) : (binOp .eql 95 (.agg [Value.string s, .string u].toArray) (.agg [Value.string s', .string u'].toArray)).run Tryz.prog w = .ok (.bool (((sEq s s' && sEq u u')))) w := by
 rw [run_eql_struct]; simp [go_sem, sEq]; by_cases h_s : s.toList = s'.toList <;> by_cases h_u : u.toList = u'.toList <;> simp [h_s, h_u]
@[reducible] def a2I (n : Int) : List DV := [.int .i64 n]
@[reducible] def a2G (s : Str) : List DV := [.str s]
@[reducible] def a2P (bs : List Int) : DV := a2B 3 1 a2I bs
@[reducible] def a4d (bs : List Str) : DV := a2B 9 1 a2G bs
@[reducible] def b3k (k : a1g) : List DV := [.int .i64 k.1, .int .i64 k.2.1, .str k.2.2]
@[reducible] def a1k (f : a3n) : List DV := [.str f.1, .int .i64 f.2]
@[reducible] def a0z (r : a0J) : DV := a2B 161 2 a1k r
@[reducible] def a0E (x : a0Q) : List DV := [.int .i64 x.1.1, .int .i64 x.1.2.1, .str x.1.2.2, a0z x.2]
abbrev a3V := Bool × Bool × a1g × a1g
@[reducible] def a0t (xs : List a0Q) : DV := a2B 128 4 a0E xs
@[reducible] def a0U (s : a0I) : List DV := [.str s.1, a0t s.2.1, .int .i64 s.2.2]
@[reducible] def a0k (xs : List a0I) : DV := a2B 89 3 a0U xs
@[reducible] def a1y (d : a2M) : List DV := [.str d.1, .str d.2]
@[reducible] def a0A (xs : List a2M) : DV := a2B 95 2 a1y xs
@[reducible] def eDb (d : DbT) : List DV := [.str d.1, .int .i64 d.2.1, a0k d.2.2.1, a0A d.2.2.2]
@[reducible] def eOp (o : OpT) : List DV := [.int .i64 o.1, .str o.2.1, .int .i64 o.2.2.1.1, .int .i64 o.2.2.1.2.1, .str o.2.2.1.2.2, a0z o.2.2.2.1, .str o.2.2.2.2]
@[reducible] def a0F (xs : List OpT) : DV := a2B 111 7 eOp xs
@[reducible] def eTx (t : TxT) : List DV := [.int .i64 t.1, a0F t.2.1, .int .i64 t.2.2.1, .int .i64 t.2.2.2.1, a0k t.2.2.2.2]
@[reducible] def a0Z (xs : List TxT) : DV := a2B 63 5 eTx xs
section
variable {P : Program}
theorem c4b {C : Ctx} {nt : Nat} {L : Lyt} {σ : St} {a : Act} {w : World} (h : Rel P C nt L σ a w) (r : Value) : Rel P C 1 L ⟨[], [], []⟩ ⟨#[r], []⟩ w where
 df := rfl
 sz := rfl
 tm := fun i v hv => by cases hv
 bx := fun i t cs h => by cases h
 ks := fun k c h => by cases h
 b1 := fun i x h => by cases h
 k1 := fun k c h => by cases h
 kn := fun k c h => by cases h
 bb := fun i j x y h => by cases h
 bk := fun i k x c h => by cases h
 kk := fun k j c d h => by cases h
 lk := fun k hk => by simp [St.tk] at hk
 lb := fun b hb => by simp [St.tb] at hb
 s0 := h.s0
 chg := h.chg
theorem c3G (us : List SV) {i : Nat} {v : SV} (h : us[i]? = some v) : look (a2w 0 us) i = some v := by
 have key : ∀ (l : List SV) (j i : Nat), l[i]? = some v → look (a2w j l) (j + i) = some v := by
  intro l
  induction l with
  | nil => intro j i h; simp at h
  | cons u l ih =>
   intro j i h
   simp only [a2w, a0Y]
   cases i with
   | zero => simpa using h
   | succ i =>
    rw [if_neg (by omega), show j + (i + 1) = j + 1 + i by omega]
    exact ih (j + 1) i (by simpa using h)
 simpa using key us 0 i h
@[reducible] def b5w (P : Program) (us : List SV) (w : World) (vals : List Value) : Prop := ∃ (C : Ctx) (L : Lyt), ∀ (i : Nat) (v : SV), us[i]? = some v → ∃ x, vals[i]? = some x ∧ SVr P C L w v x
theorem c4q {C : Ctx} {L : Lyt} {w : World} {us : List SV} {vals : List Value} (hl : vals.length = us.length) {bx : List (Nat × TypeId × List CV)} {ks : List (Nat × Option KC)} {nt : Nat} (hr : Rel P C nt L ⟨a2w 0 us, bx, ks⟩ ⟨vals.toArray, []⟩ w) : b5w P us w vals := by
 refine ⟨C, L, fun i v hv => ?_⟩
 have hi : i < vals.length := by rw [hl]; exact (List.getElem?_eq_some_iff.1 hv).1
 refine ⟨vals[i], List.getElem?_eq_getElem hi, ?_⟩
 have h1 := hr.tm i v (c3G us hv)
 have h2 : vals.toArray.getD i undef = vals[i] := by simp [Array.getD_eq_getD_getElem?, List.getElem?_eq_getElem hi]
 simpa only [h2] using h1
theorem b9o {f : FuncId} {us : List SV} {X : SV} {v : Value} (hX : X.plain = true) (hv : ∀ C L w, SVr P C L w X v) (h : ∀ (w : World) (vals : List Value), vals.length = us.length → b5w P us w vals → Calls P f vals.toArray w (Ret v w)) : PFn P f us X := by
 refine ⟨fun w S0 L vals hl hr => ?_⟩
 refine (h w vals hl (c4q hl hr)).mono ?_
 rintro x w' ⟨rfl, hc⟩
 obtain ⟨p1, p2, p3, p4⟩ := a8q hX
 refine ⟨_, X, ⟨[], [], []⟩, L, rfl, rfl, ?_⟩
 exact ((c4b hr v).grow hc).also (d := 0) (v := X) (by simpa [Array.getD] using hv _ _ _) (by rw [p2]; simp) (by rw [p3]; simp)
end
set_option maxHeartbeats 1000000 in
set_option maxRecDepth 100000 in
theorem b8R (a b : ByteArray) (w : World) :
  Calls Tryz.prog 153 #[.string a, .string b] w fun e w' => e = .returned (.int .i64 (Lib.compareBytes a.data.toList b.data.toList)) ∧ w' = w := by
 go_enter Tryz.func153, Tryz.ntmps153
 go_wp2
 rw [run_callFunc_extern Tryz.func179 (by kernel_rfl) (by kernel_rfl) (by kernel_rfl) (e := Extern.BytealgCompare.compare) (by kernel_rfl), Lib.run_compareString]
 simp only [Result.andThen]
 rw [Oper.upon_value]
 go_wp2
 go_ret
 exact ⟨rfl, rfl⟩
set_option maxHeartbeats 1000000 in
theorem c0v (a b : ByteArray) (w : World) :
  Calls Tryz.prog 134 #[.string a, .string b] w fun e w' => e = .returned (.int .i64 (Lib.compareBytes a.data.toList b.data.toList)) ∧ w' = w := by
 go_enter Tryz.func134, Tryz.ntmps134
 go_wp2_with (go_at_call 153; refine (b8R _ _ _).mono ?_; rintro e w' ⟨rfl, rfl⟩)
 go_ret
 exact ⟨rfl, rfl⟩
def a4D (a b : Str) : Int := if sLt a b then -1 else if sLt b a then 1 else 0
theorem b8g : ∀ x y : List UInt8, Lib.compareBytes x y = if Op.bytesLess x y then -1 else if Op.bytesLess y x then 1 else 0
 | [], [] => rfl
 | [], _ :: _ => rfl
 | _ :: _, [] => rfl
 | a :: x, b :: y => by
  have ih := b8g x y
  have e1 : ∀ a b : UInt8, (a < b) ↔ a.toNat < b.toNat := fun _ _ => Iff.rfl
  simp only [Lib.compareBytes, Op.bytesLess]
  rcases Nat.lt_trichotomy a.toNat b.toNat with h | h | h
  ·simp [(e1 a b).2 h]
  ·have e : a = b := UInt8.toNat_inj.1 h
   subst e
   have : ¬ a < a := by rw [e1]; omega
   simp [this, ih]
  ·have h2 : ¬ a < b := by rw [e1]; omega
   have h3 : ¬ a = b := by rintro rfl; omega
   have h4 : ¬ b = a := fun e => h3 e.symm
   simp [(e1 b a).2 h, h2, h3]
theorem b9U (s : ByteArray) : ∀ (n i : Nat) (r : List UInt8), s.size - i = n → ByteArray.toList.loop s i r = r.reverse ++ s.data.toList.drop i := by
 intro n
 induction n with
 | zero =>
  intro i r h
  rw [ByteArray.toList.loop, if_neg (by omega), List.drop_eq_nil_of_le (by have : s.data.toList.length = s.size := rfl; omega)]; simp
 | succ n ih =>
  intro i r h
  have hl : s.data.toList.length = s.size := rfl
  have hi : i < s.data.toList.length := by omega
  rw [ByteArray.toList.loop, if_pos (by omega), ih (i + 1) _ (by omega), List.drop_eq_getElem_cons hi]
  have : s.get! i = s.data.toList[i] := by
   rw [ByteArray.get!]
   simp only [Array.getElem_toList]
   exact getElem!_pos s.data i (by simpa using hi)
  rw [this]
  simp
theorem a6D (s : ByteArray) : s.toList = s.data.toList := by
 rw [ByteArray.toList, b9U s _ 0 [] rfl]; simp
theorem c2o (a b : ByteArray) : Lib.compareBytes a.data.toList b.data.toList = a4D a b := by
 rw [b8g, a4D, sLt, sLt, a6D, a6D]
theorem c1t {x y : Str} : PFn Tryz.prog 134 [.one (.dv [] (.str x)), .one (.dv [] (.str y))] (.one (.dv [] (.int .i64 (a4D x y)))) := by
 refine b9o (v := .int .i64 (a4D x y)) rfl (fun C L w => ?_) (fun w vals hl h => ?_)
 ·simp only [SVr, CVr, Lay]
  refine ⟨trivial, ?_⟩
  unfold a4D
  split
  ·exact ⟨by decide, by decide⟩
  ·split <;> exact ⟨by decide, by decide⟩
 ·obtain ⟨C, L, h⟩ := h
  obtain ⟨u, h1, h2⟩ := h 0 _ rfl
  obtain ⟨v, h3, h4⟩ := h 1 _ rfl
  simp only [SVr, CVr, Lay] at h2 h4
  obtain ⟨rfl, _⟩ := h2
  obtain ⟨rfl, _⟩ := h4
  obtain rfl : vals = [.string x, .string y] := by
   match vals, hl with
   | [a, b], _ => simp at h1 h3; rw [h1, h3]
  refine (c0v x y w).mono ?_
  rintro e w' ⟨rfl, rfl⟩
  exact ⟨by rw [c2o], Chg.refl _ _⟩
def c4y (acc v : Int) : Int := (acc * 1000003 + v % 2147483647 + 13) % 2147483647
def c4B (l : List Int) : Int := l.foldl c4y 11
def b2i (n : Nat) (l : List UInt8) : List Int := (n : Int) :: l.map (fun b => (b.toNat : Int))
def c5e (number : Int) (bs : List UInt8) : Int := c4B ([101, number] ++ b2i bs.length bs)
def uv (n : Nat) : List UInt8 := if n < 128 then [UInt8.ofNat n] else UInt8.ofNat (n % 128 + 128) :: uv (n / 128)
termination_by n
decreasing_by omega
def b5b (b : List UInt8) (n : Int) : List UInt8 := if 0 ≤ n ∧ n ≤ 1000000000000 then b ++ uv n.toNat else b
def c4t (b d : List UInt8) : List UInt8 := b5b b d.length ++ d
def c0E (bs : List UInt8) (v : Int) (ds : List UInt8) : List UInt8 := b5b (c4t bs ds) (c5e v ds)
def b6n (bs : List UInt8) (v : Int) (ds : List UInt8) : Prop := v < 0 ∨ 4000 < (c0E bs v ds).length
instance (bs : List UInt8) (v : Int) (ds : List UInt8) : Decidable (b6n bs v ds) := by unfold b6n; infer_instance
theorem a6l {P : Program} {C : Ctx} {nt : Nat} {σ : St} {o : Oper} {Ks Bs K : List Nat} {k : IntKind} {m n : Int} (h : Pu P C nt o σ (.one (.dv K (.int k m))) Ks Bs) (e : m = n) : Pu P C nt o σ (.one (.dv K (.int k n))) Ks Bs := e ▸ h
section
variable {P : Program}
theorem a6W (w : World) (dT sT ty elem : TypeId) (sz g o dLen dCap : Nat) (a : Addr) (sLen sCap : Nat) (cur : Array Value) (t : TypeId) (cs : List Value)
  (hu : P.underlying dT = some (.slice elem)) (hs : (P.info? elem).map (·.size) = some sz)
  (hg : w.heap[g]? = some (.cells cur t (0, 0))) (hn : cs.length = Nat.min sLen dLen * sz)
  (hsrc : ∀ j v, cs[j]? = some v → w.cell? (a.add j) = some v) (hfit : o + cs.length ≤ cur.size) (h1 : ∀ v ∈ cs, v.oneCell' = true) :
  (Builtin.copy_ #[dT, sT] ty #[.slice (some ⟨g, o, none⟩) dLen dCap, .slice (some a) sLen sCap]).run P w =
   .ok (goInt (Nat.min sLen dLen)) (w.setRow g (cur.toList.take o ++ cs ++ cur.toList.drop (o + cs.length)).toArray) := by
 have hl := run_loadCells_list (P := P) w a cs hsrc
 have hst := run_storeCells_at P g o t cs 0 cur w hg (by simpa using hfit) h1
 cases hq : P.info? elem with
 | none => simp [hq] at hs
 | some i =>
  have hi : i.size = sz := by simpa [hq] using hs
  simp [Builtin.copy_, run_underlying hu, Builtin.lenOf, Builtin.firstCells, sizeOf, typeInfo, hq, hi, ← hn, hl, hst]
end
def a4k (w : World) (v : Value) (e sz n i : Nat) (xs us : List Value) (ex : Ending) (w' : World) : Prop :=
 ∃ A' c', ex = .returned (.slice A' (n + 1) c') ∧ w'.ownsRow 0 e sz (.slice A' (n + 1) c') (n + 1) (xs.take (i * sz) ++ us ++ xs.drop (i * sz)) ∧
  Chg v.ownBlock.toList w w' ∧ (v.ownBlock = (Value.slice A' (n + 1) c').ownBlock ∨ (Value.slice A' (n + 1) c').ownBlock = some w.heap.size)
set_option maxHeartbeats 4000000 in
set_option maxRecDepth 100000 in
theorem c4Y {e sz by_ n vc : Nat} {z : Value} {v : Value} {xs us : List Value} {va : Addr} {w : World} (ht : Tryz.prog.underlying 87 = some (.slice e)) (hinfo : (Tryz.prog.info? e).map (fun i => (i.zero, i.size, i.bytes)) = some (some z, sz, by_)) (hzs : z.cells.size = sz) (hsz : 0 < sz)
  (hown : w.ownsRow 0 e sz v n xs) (hsrc : a3w w (some va) 1 sz us) (h1 : ∀ u ∈ us, u.oneCell' = true) (h63 : n + 1 ≤ maxLen) (hb : (n + 1) * by_ ≤ 140737488355328) :
  Calls Tryz.prog 136 #[v, .int .i64 n, .slice (some va) 1 vc] w (a4k w v e sz n n xs us) := by
 have hm : n ≤ 9223372036854775807 := by unfold maxLen at h63; omega
 have hx1 : xs.length = n * sz := hown.1
 have hso : ∀ w, (Go.sizeOf e).run Tryz.prog w = .ok sz w := fun w => by
  obtain ⟨i0, q1, q2, q3, q4⟩ := info_parts hinfo
  simp [sizeOf, typeInfo, q1, q3]
 have hfin : ∀ A' c' w', w'.ownsRow 0 e sz (.slice A' (n + 1) c') (n + 1) (xs ++ us) → Chg v.ownBlock.toList w w' → (v.ownBlock = (Value.slice A' (n + 1) c').ownBlock ∨ (Value.slice A' (n + 1) c').ownBlock = some w.heap.size) → a4k w v e sz n n xs us (.returned (.slice A' (n + 1) c')) w' := fun A' c' w' g1 g2 g3 =>
  ⟨A', c', rfl, by rw [← hx1]; simpa using g1, g2, g3⟩
 rcases hown.2 with ⟨rfl, rfl⟩ | ⟨g, cap, cur, rfl, _, hg, hnc, hcm, hcs, htk⟩
 ·have HO := Lib.hid hown
  have HF := Lib.hid hfin
  have HS := Lib.hid hsrc
  have H1 := Lib.hid h1
  clear hown hfin hsrc h1 hx1
  go_enter Tryz.func136, Tryz.ntmps136
  go_wp2_with (at_builtin; refine a9Z _ rfl _ _ 87 rfl e z sz by_ ht hinfo hzs hsz _ 0 xs rfl HO (some va) 1 vc us rfl HS H1 h63 hb ?_; intro A' c' w' h9 hchg hblk)
  all_goals (go_ret; exact HF _ _ _ h9 hchg hblk)
 ·have HO := Lib.hid hown
  have HF := Lib.hid hfin
  have HS := Lib.hid hsrc
  have H1 := Lib.hid h1
  have HG := Lib.hid hg
  have HT := Lib.hid htk
  have hc63 : cap ≤ 9223372036854775807 := by unfold maxLen at hcm; omega
  clear hown hfin hsrc h1 hx1 hg htk
  go_enter Tryz.func136, Tryz.ntmps136
  go_wp2_with (at_builtin; refine a9Z _ rfl _ _ 87 rfl e z sz by_ ht hinfo hzs hsz _ n xs rfl HO (some va) 1 vc us rfl HS H1 h63 hb ?_; intro A' c' w' h9 hchg hblk)
  all_goals (go_ret; exact HF _ _ _ h9 hchg hblk)
theorem a5d {w : World} {g : Nat} {cur : Array Value} : Chg [g] w (w.setRow g cur) := by
 refine ⟨rfl, rfl, rfl, by simp [World.setRow], fun k hk hn => ?_⟩
 simp only [World.setRow]
 rw [Array.getElem?_modify, if_neg (by simpa using fun e => hn (by simp [e]))]
set_option maxHeartbeats 4000000 in
set_option maxRecDepth 100000 in
theorem c1J {e sz by_ n i cap vb vcap e2 : Nat} {z : Value} {g : Nat} {xs us : List Value} {w : World} {cur curv : Array Value} (ht : Tryz.prog.underlying 87 = some (.slice e)) (hinfo : (Tryz.prog.info? e).map (fun i => (i.zero, i.size, i.bytes)) = some (some z, sz, by_)) (hsz : 0 < sz)
  (hxl : xs.length = n * sz) (hg : w.heap[g]? = some (.cells cur e (0, 0))) (hcm : cap ≤ maxLen) (hcs : cur.size = cap * sz) (htk : cur.toList.take (n * sz) = xs) (hx1 : ∀ u ∈ xs, u.oneCell' = true)
  (hgv : w.heap[vb]? = some (.cells curv e2 (0, 0))) (hul : us.length = sz) (hvs : curv.toList.take sz = us) (h1 : ∀ u ∈ us, u.oneCell' = true) (hne : vb ≠ g) (hi : i < n) (hroom : n + 1 ≤ cap) :
  Calls Tryz.prog 136 #[.slice (some ⟨g, 0, none⟩) n cap, .int .i64 i, .slice (some ⟨vb, 0, none⟩) 1 vcap] w (a4k w (.slice (some ⟨g, 0, none⟩) n cap) e sz n i xs us) := by
 have hso : ∀ w, (Go.sizeOf e).run Tryz.prog w = .ok sz w := fun w => by
  obtain ⟨i0, q1, q2, q3, q4⟩ := info_parts hinfo
  simp [sizeOf, typeInfo, q1, q3]
 have hsi : (Tryz.prog.info? e).map (·.size) = some sz := by
  obtain ⟨i0, q1, q2, q3, q4⟩ := info_parts hinfo
  rw [q1]; simp [q3]
 have hc63 : cap ≤ 9223372036854775807 := by unfold maxLen at hcm; omega
 have hz2 : ¬ ((i : Int) = (n : Int)) := by omega
 have hw1 : IntKind.i64.wrap ((i : Int) + 1) = (i : Int) + 1 := by rw [IntKind.wrap_i64]; omega
 have hw2 : IntKind.i64.wrap ((n : Int) + 1) = (n : Int) + 1 := by rw [IntKind.wrap_i64]; omega
 have hb1 : (0 : Int) ≤ (i : Int) + 1 := by omega
 have hin : i ≤ n := by omega
 have htn : ((i : Int) + 1).toNat = i + 1 := by omega
 have htn2 : ((n : Int) + 1).toNat = n + 1 := by omega
 have hb2 : ¬ (cap = i + 1) := by omega
 have hb3 : (i : Int) ≤ (n : Int) + 1 := by omega
 have hb4 : ¬ (cap = i) := by omega
 have hov : ∀ off lb cb, (callFunc 154 #[.slice (some ⟨vb, 0, none⟩) 1 vcap, .slice (some ⟨g, off, none⟩) lb cb]).run Tryz.prog w = .ok (.value (.bool false)) w := fun off lb cb => by
  rw [run_callFunc_extern Tryz.func154 (by kernel_rfl) (by kernel_rfl) (by kernel_rfl) (e := Extern.SlicesOverlaps.overlaps #[87, 87] #[4]) (by kernel_rfl),
   Lib.run_overlaps_apart w 87 4 e ht sz hso ⟨vb, 0, none⟩ ⟨g, off, none⟩ 1 vcap lb cb hne e2 e curv.size cur.size (by simp [World.shape?, hgv]) (by simp [World.shape?, hg]) (by rw [hcs]; exact Nat.ne_of_gt (Nat.mul_pos (by omega) hsz)) (by simp [World.frozen?, hgv]) (by simp [World.frozen?, hgv])]
  rfl
 have mixed : Tryz.prog.follows .mixedOrders = true := by kernel_rfl
 have hdl : (xs.drop (i * sz)).length = (n - i) * sz := by rw [List.length_drop, hxl, Nat.sub_mul]
 have m1 : (n + 1) * sz ≤ cap * sz := Nat.mul_le_mul_right _ hroom
 have m2 : (i + 1) * sz + (n - i) * sz = (n + 1) * sz := by rw [← Nat.add_mul]; congr 1; omega
 have m3 : i * sz + (n - i) * sz = n * sz := by rw [← Nat.add_mul]; congr 1; omega
 have m4 : (i + 1) * sz = i * sz + sz := by rw [Nat.add_mul, Nat.one_mul]
 have m5 : (n + 1) * sz = n * sz + sz := by rw [Nat.add_mul, Nat.one_mul]
 have hcur : ∀ j, j < n * sz → cur[j]? = xs[j]? := fun j hj => by rw [← htk, List.getElem?_take, if_pos hj, Array.getElem?_toList]
 obtain ⟨cur1, hcur1⟩ : ∃ cur1 : Array Value, cur1 = (cur.toList.take ((i + 1) * sz) ++ xs.drop (i * sz) ++ cur.toList.drop ((i + 1) * sz + (xs.drop (i * sz)).length)).toArray := ⟨_, rfl⟩
 obtain ⟨cur2, hcur2⟩ : ∃ cur2 : Array Value, cur2 = (cur1.toList.take (i * sz) ++ us ++ cur1.toList.drop (i * sz + us.length)).toArray := ⟨_, rfl⟩
 have hs1 : cur1.size = cap * sz := by
  rw [hcur1]
  simp only [List.size_toArray, c5s, c5t, List.length_drop, Array.length_toList, hcs, hxl]
  omega
 have hs2 : cur2.size = cap * sz := by
  rw [hcur2]
  simp only [List.size_toArray, c5s, c5t, List.length_drop, Array.length_toList, hs1, hul]
  omega
 have htk2 : cur2.toList.take ((n + 1) * sz) = xs.take (i * sz) ++ us ++ xs.drop (i * sz) := by
  have e1 : cur1.toList.take (i * sz) = xs.take (i * sz) := by
   rw [hcur1, ← htk, List.take_take, List.append_assoc, List.take_append_of_le_length (by simp only [c5t, Array.length_toList, hcs]; omega), List.take_take]
   congr 1; omega
  have e2 : (cur1.toList.drop (i * sz + us.length)).take ((n - i) * sz) = xs.drop (i * sz) := by
   rw [hcur1, hul, ← m4]
   have l1 : (cur.toList.take ((i + 1) * sz)).length = (i + 1) * sz := by simp only [c5t, Array.length_toList, hcs]; omega
   simp only [List.append_assoc]
   rw [List.drop_append_of_le_length (by omega), List.drop_eq_nil_of_le (by omega), List.nil_append, List.take_append_of_le_length (by omega), List.take_of_length_le (by omega)]
  rw [hcur2, e1]
  simp only []
  rw [← m2, m4, List.take_append, List.take_of_length_le (by simp only [c5s, c5t, hxl, hul]; omega)]
  congr 1
  rw [← e2]
  congr 1
  simp only [c5s, c5t, hxl, hul]
  omega
 have hcp1 : ∀ ty dc sc, (Builtin.copy_ #[87, 87] ty #[.slice (some ⟨g, (i + 1) * sz, none⟩) (n - i) dc, .slice (some ⟨g, i * sz, none⟩) (n + 1 - i) sc]).run Tryz.prog w.drew = .ok (goInt (Nat.min (n + 1 - i) (n - i))) (w.drew.setRow g cur1) := fun ty dc sc => by
  rw [hcur1]
  refine a6W w.drew _ _ ty e sz g ((i + 1) * sz) _ dc ⟨g, i * sz, none⟩ _ sc cur e (xs.drop (i * sz)) ht hsi hg (by rw [hdl]; congr 1; simp only [Nat.min_def]; split <;> omega) (fun j v hj => ?_) (by rw [hdl, hcs]; omega) (fun v hv => hx1 v (List.mem_of_mem_drop hv))
  rw [Addr.add_lit]
  rw [List.getElem?_drop] at hj
  have hj' := (List.getElem?_eq_some_iff.1 hj).1
  exact (cell_of_row w.drew g (i * sz + j) cur e (0, 0) hg).trans ((hcur _ (by omega)).trans hj)
 obtain ⟨W1, hW1⟩ : ∃ W1, W1 = w.drew.setRow g cur1 := ⟨_, rfl⟩
 have hgW : W1.heap[g]? = some (.cells cur1 e (0, 0)) := by rw [hW1]; exact setRow_heap _ g cur cur1 e _ hg
 have hgV : W1.heap[vb]? = some (.cells curv e2 (0, 0)) := by rw [hW1, (a5d (w := w.drew)).block vb (Array.getElem?_eq_some_iff.1 hgv).1 (by simpa using hne)]; exact hgv
 have hcp2 : ∀ ty dc, (Builtin.copy_ #[87, 87] ty #[.slice (some ⟨g, i * sz, none⟩) (n + 1 - i) dc, .slice (some ⟨vb, 0, none⟩) 1 vcap]).run Tryz.prog W1 = .ok (goInt (Nat.min 1 (n + 1 - i))) (W1.setRow g cur2) := fun ty dc => by
  rw [hcur2]
  refine a6W W1 _ _ ty e sz g (i * sz) _ dc ⟨vb, 0, none⟩ _ vcap cur1 e us ht hsi hgW (by rw [hul]; simp only [Nat.min_def]; split <;> first | omega | rfl | simp) (fun j v hj => ?_) (by rw [hul, hs1]; omega) h1
  rw [Addr.add_lit, cell_of_row _ vb _ curv e2 (0, 0) hgV, Nat.zero_add]
  have hj' := (List.getElem?_eq_some_iff.1 hj).1
  rw [← hvs, List.getElem?_take, if_pos (by omega), Array.getElem?_toList] at hj
  exact hj
 have hfin : a4k w (.slice (some ⟨g, 0, none⟩) n cap) e sz n i xs us (.returned (.slice (some ⟨g, 0, none⟩) (n + 1) cap)) (W1.setRow g cur2) := by
  refine ⟨_, _, rfl, ⟨?_, .inr ⟨g, cap, cur2, rfl, Nat.zero_le _, setRow_heap _ g cur1 cur2 e _ hgW, hroom, hcm, hs2, htk2⟩⟩, ?_, .inl rfl⟩
  ·simp only [c5s, c5t, List.length_drop, hxl, hul]; omega
  ·rw [hW1]
   exact ((Chg.refl [g] w).drew.trans a5d).trans a5d
 rw [← hW1] at hcp1
 have HF := Lib.hid hfin
 clear hcur1 hcur2 hfin hgW hgV htk2 hs2 hs1 hcur hx1 h1 hvs htk hxl hdl m1 m2 m3 m4 m5 hgv hg hcs hcm hinfo hsi hW1 hul
 go_enter Tryz.func136, Tryz.ntmps136
 go_wp2_with (simp only [hov])
 go_region_law_o (refine step_copy_runI rfl _ _ 87 87 rfl _ _ (by simp [Act.eval, Act.put]) (by simp [Act.eval, Act.put]) (hcp1 _ _ _) ?_)
 go_wp2_with (at_builtin; refine wpList_copy_runI _ rfl _ _ 87 87 rfl _ _ rfl rfl (hcp2 _ _) ?_)
 go_ret
 exact HF
set_option maxHeartbeats 4000000 in
set_option maxRecDepth 100000 in
theorem c3g {e sz by_ n i vb vcap e2 : Nat} {z : Value} {g : Nat} {xs us : List Value} {w : World} {cur curv : Array Value} (ht : Tryz.prog.underlying 87 = some (.slice e)) (hinfo : (Tryz.prog.info? e).map (fun i => (i.zero, i.size, i.bytes)) = some (some z, sz, by_)) (hzs : z.cells.size = sz) (hsz : 0 < sz)
  (hxl : xs.length = n * sz) (hg : w.heap[g]? = some (.cells cur e (0, 0))) (hcm : n ≤ maxLen) (hcs : cur.size = n * sz) (htk : cur.toList.take (n * sz) = xs) (hx1 : ∀ u ∈ xs, u.oneCell' = true)
  (hgv : w.heap[vb]? = some (.cells curv e2 (0, 0))) (hul : us.length = sz) (hvs : curv.toList.take sz = us) (h1 : ∀ u ∈ us, u.oneCell' = true) (hi : i < n) (h63 : n + 1 ≤ maxLen) (hb : (n + 1) * by_ ≤ 140737488355328) :
  Calls Tryz.prog 136 #[.slice (some ⟨g, 0, none⟩) n n, .int .i64 i, .slice (some ⟨vb, 0, none⟩) 1 vcap] w (a4k w (.slice (some ⟨g, 0, none⟩) n n) e sz n i xs us) := by
 obtain ⟨i0, q1, q2, q3, q4⟩ := info_parts hinfo
 have hso : ∀ w, (Go.sizeOf e).run Tryz.prog w = .ok sz w := fun w => by
  simp [sizeOf, typeInfo, q1, q3]
 have hsi : (Tryz.prog.info? e).map (·.size) = some sz := by
  rw [q1]; simp [q3]
 have hc63 : n + 1 ≤ 9223372036854775807 := by unfold maxLen at h63; omega
 have mixed : Tryz.prog.follows .mixedOrders = true := by kernel_rfl
 have hz2 : ¬ ((i : Int) = (n : Int)) := by omega
 have hw1 : IntKind.i64.wrap ((i : Int) + 1) = (i : Int) + 1 := by rw [IntKind.wrap_i64]; omega
 have hw2 : IntKind.i64.wrap ((n : Int) + 1) = (n : Int) + 1 := by rw [IntKind.wrap_i64]; omega
 have hw3 : IntKind.i64.wrap ((n : Int) + 1 - (i : Int)) = (n : Int) + 1 - (i : Int) := by rw [IntKind.wrap_i64]; omega
 have hb1 : (0 : Int) ≤ (i : Int) + 1 := by omega
 have hin : i ≤ n := by omega
 have htn : ((i : Int) + 1).toNat = i + 1 := by omega
 have hni : ¬ (n = i) := by omega
 have hkk : (n : Int) + 1 - (i : Int) = ((n + 1 - i : Nat) : Int) := by omega
 have hik : i + (n + 1 - i) = n + 1 := by omega
 have hdl : (xs.drop (i * sz)).length = (n - i) * sz := by rw [List.length_drop, hxl, Nat.sub_mul]
 have m2 : (i + 1) * sz + (n - i) * sz = (n + 1) * sz := by rw [← Nat.add_mul]; congr 1; omega
 have m3 : i * sz + (n - i) * sz = n * sz := by rw [← Nat.add_mul]; congr 1; omega
 have m4 : (i + 1) * sz = i * sz + sz := by rw [Nat.add_mul, Nat.one_mul]
 have m5 : (n + 1) * sz = n * sz + sz := by rw [Nat.add_mul, Nat.one_mul]
 have hcur : ∀ j, j < n * sz → cur[j]? = xs[j]? := fun j hj => by rw [← htk, List.getElem?_take, if_pos hj, Array.getElem?_toList]
 have htl : (xs.take (i * sz)).length = i * sz := by rw [c5t, hxl]; omega
 have hold : (Builtin.firstCells i0.size i (.slice (some ⟨g, 0, none⟩) i n)).run Tryz.prog w.drew = .ok (xs.take (i * sz)).toArray w.drew := by
  rw [q3]
  refine run_firstCells_some w.drew sz i ⟨g, 0, none⟩ i n (xs.take (i * sz)) (by rw [htl]) (fun j v hj => ?_)
  rw [Addr.add_lit, Nat.zero_add]
  rw [List.getElem?_take] at hj
  split at hj
  ·exact (cell_of_row w.drew g j cur e (0, 0) hg).trans ((hcur _ (by omega)).trans hj)
  ·cases hj
 obtain ⟨G, hG⟩ : ∃ G, G = grownCap w (n + 1) n e := ⟨_, rfl⟩
 have hGn : n + 1 ≤ G := by rw [hG]; exact grownCap_ge w _ _ _
 have hGm : G ≤ maxLen := by rw [hG]; exact grownCap_le_maxLen w (n + 1) n e h63
 obtain ⟨ROW, hROW⟩ : ∃ ROW : Array Value, ROW = (xs.take (i * sz)).toArray ++ Builtin.zeroCells z.cells (n + 1 - i) ++ Builtin.zeroCells z.cells (G - (n + 1)) := ⟨_, rfl⟩
 have hzl : ∀ k, (Builtin.zeroCells z.cells k).size = k * sz := fun k => by simp [Builtin.zeroCells, hzs]
 have hRs : ROW.size = G * sz := by
  rw [hROW]
  simp only [Array.size_append, List.size_toArray, htl, hzl]
  rw [← Nat.add_mul, ← Nat.add_mul]
  congr 1; omega
 obtain ⟨W1, hW1⟩ : ∃ W1, W1 = w.drew.alloc (.cells ROW e) := ⟨_, rfl⟩
 have hrz : ∀ ty, (Builtin.append_ #[87, 3] ty #[.slice (some ⟨g, 0, none⟩) i n, .int .i64 ((n : Int) + 1 - (i : Int))]).run Tryz.prog w =
   .ok (.slice (some ⟨w.heap.size, 0, none⟩) (n + 1) G) W1 := fun ty => by
  have h := Lib.run_append_grow_zeros (P := Tryz.prog) w 87 3 ty e i0 z .i64 .i64 ht (by kernel_rfl) q1 q2 (some ⟨g, 0, none⟩) i n (xs.take (i * sz)) hold (n + 1 - i) (by omega) (by omega) (by omega) (by omega) (by
   rw [q4]
   have : (n + 1 - i) * by_ ≤ (n + 1) * by_ := Nat.mul_le_mul_right _ (by omega)
   omega) (by rw [q4, hik]; exact growslice_fits (by omega) hb)
  rw [hik] at h
  rw [hkk, hW1, hROW, hG]
  exact h
 have hgW0 : W1.heap[w.heap.size]? = some (.cells ROW e (0, 0)) := by rw [hW1]; exact heap_alloc_new w.drew _
 have hgl : g < w.heap.size := (Array.getElem?_eq_some_iff.1 hg).1
 have hvl : vb < w.heap.size := (Array.getElem?_eq_some_iff.1 hgv).1
 have hc1 : Chg [] w W1 := by rw [hW1]; exact (Chg.refl [] w).drew.alloc _
 have hgV : W1.heap[vb]? = some (.cells curv e2 (0, 0)) := by rw [hc1.block vb hvl (by simp)]; exact hgv
 have hm1 : (n + 1) * sz ≤ G * sz := Nat.mul_le_mul_right _ hGn
 obtain ⟨R1, hR1⟩ : ∃ R1 : Array Value, R1 = (ROW.toList.take (i * sz) ++ us ++ ROW.toList.drop (i * sz + us.length)).toArray := ⟨_, rfl⟩
 have hs1 : R1.size = G * sz := by
  rw [hR1]
  simp only [List.size_toArray, c5s, c5t, List.length_drop, Array.length_toList, hRs, hul]
  omega
 obtain ⟨W2, hW2⟩ : ∃ W2, W2 = W1.setRow w.heap.size R1 := ⟨_, rfl⟩
 have hcpA : ∀ ty dc, (Builtin.copy_ #[87, 87] ty #[.slice (some ⟨w.heap.size, i * sz, none⟩) (n + 1 - i) dc, .slice (some ⟨vb, 0, none⟩) 1 vcap]).run Tryz.prog W1 = .ok (goInt (Nat.min 1 (n + 1 - i))) W2 := fun ty dc => by
  rw [hW2, hR1]
  refine a6W W1 _ _ ty e sz w.heap.size (i * sz) _ dc ⟨vb, 0, none⟩ _ vcap ROW e us ht hsi hgW0 (by rw [hul]; simp only [Nat.min_def]; split <;> first | omega | rfl | simp) (fun j v hj => ?_) (by rw [hul, hRs]; omega) h1
  rw [Addr.add_lit, cell_of_row _ vb _ curv e2 (0, 0) hgV, Nat.zero_add]
  have hj' := (List.getElem?_eq_some_iff.1 hj).1
  rw [← hvs, List.getElem?_take, if_pos (by omega), Array.getElem?_toList] at hj
  exact hj
 have hgW2 : W2.heap[w.heap.size]? = some (.cells R1 e (0, 0)) := by rw [hW2]; exact setRow_heap _ _ ROW R1 e _ hgW0
 have hgG : W2.heap[g]? = some (.cells cur e (0, 0)) := by
  rw [hW2, (a5d (w := W1) (g := w.heap.size)).block g (Nat.lt_of_lt_of_le hgl hc1.size) (by simp; omega), hc1.block g hgl (by simp)]; exact hg
 obtain ⟨R2, hR2⟩ : ∃ R2 : Array Value, R2 = (R1.toList.take ((i + 1) * sz) ++ xs.drop (i * sz) ++ R1.toList.drop ((i + 1) * sz + (xs.drop (i * sz)).length)).toArray := ⟨_, rfl⟩
 have hs2 : R2.size = G * sz := by
  rw [hR2]
  simp only [List.size_toArray, c5s, c5t, List.length_drop, Array.length_toList, hs1, hxl]
  omega
 obtain ⟨W3, hW3⟩ : ∃ W3, W3 = W2.drew.setRow w.heap.size R2 := ⟨_, rfl⟩
 have hcpB : ∀ ty dc sc, (Builtin.copy_ #[87, 87] ty #[.slice (some ⟨w.heap.size, (i + 1) * sz, none⟩) (n - i) dc, .slice (some ⟨g, i * sz, none⟩) (n - i) sc]).run Tryz.prog W2.drew = .ok (goInt (Nat.min (n - i) (n - i))) W3 := fun ty dc sc => by
  rw [hW3, hR2]
  refine a6W W2.drew _ _ ty e sz w.heap.size ((i + 1) * sz) _ dc ⟨g, i * sz, none⟩ _ sc R1 e (xs.drop (i * sz)) ht hsi hgW2 (by rw [hdl]; congr 1; simp) (fun j v hj => ?_) (by rw [hdl, hs1]; omega) (fun v hv => hx1 v (List.mem_of_mem_drop hv))
  rw [Addr.add_lit]
  rw [List.getElem?_drop] at hj
  have hj' := (List.getElem?_eq_some_iff.1 hj).1
  exact (cell_of_row W2.drew g (i * sz + j) cur e (0, 0) hgG).trans ((hcur _ (by omega)).trans hj)
 have htk2 : R2.toList.take ((n + 1) * sz) = xs.take (i * sz) ++ us ++ xs.drop (i * sz) := by
  have e1 : R1.toList.take ((i + 1) * sz) = xs.take (i * sz) ++ us := by
   rw [hR1, m4]
   simp only []
   rw [List.take_append_of_le_length (by simp only [c5s, c5t, Array.length_toList, hRs, hul]; omega), List.take_of_length_le (by simp only [c5s, c5t, Array.length_toList, hRs, hul]; omega)]
   congr 1
   rw [hROW]
   simp only [Array.toList_append, List.append_assoc]
   rw [List.take_append_of_le_length (by rw [htl]; exact Nat.le_refl _), List.take_of_length_le (by rw [htl]; exact Nat.le_refl _)]
  rw [hR2, e1]
  simp only []
  rw [List.take_append_of_le_length (by simp only [c5s, c5t, List.length_drop, hxl, hul]; omega), List.take_of_length_le (by simp only [c5s, c5t, List.length_drop, hxl, hul]; omega)]
 have hfin : a4k w (.slice (some ⟨g, 0, none⟩) n n) e sz n i xs us (.returned (.slice (some ⟨w.heap.size, 0, none⟩) (n + 1) G)) W3 := by
  refine ⟨_, _, rfl, ⟨?_, .inr ⟨w.heap.size, G, R2, rfl, Nat.zero_le _, by rw [hW3]; exact setRow_heap _ _ R1 R2 e _ hgW2, hGn, hGm, hs2, htk2⟩⟩, ?_, .inr rfl⟩
  ·simp only [c5s, c5t, List.length_drop, hxl, hul]; omega
  ·have c3 : Chg [w.heap.size] W1 W3 := by rw [hW3, hW2]; exact (a5d.drew).trans a5d
   refine ⟨c3.os.trans hc1.os, c3.tape.trans hc1.tape, c3.output.trans hc1.output, Nat.le_trans hc1.size c3.size, fun k hk hn => ?_⟩
   rw [c3.block k (Nat.lt_of_lt_of_le hk hc1.size) (by simp; omega), hc1.block k hk (by simp)]
 have HF := Lib.hid hfin
 have hGi : ¬ (G = i) := by omega
 have hGim : ¬ (G = i + 1) := by omega
 have hG63 : G ≤ 9223372036854775807 := by unfold maxLen at hGm; omega
 obtain ⟨H, hH⟩ : ∃ H, H = w.heap.size := ⟨_, rfl⟩
 rw [← hH] at hrz hcpA hcpB HF
 clear hH hfin hgW0 hgV hgW2 hgG htk2 hs2 hs1 hcur hx1 h1 hvs htk hxl hdl m2 m3 m4 m5 hgv hg hcs hcm hinfo hsi hW1 hW2 hW3 hul hR1 hR2 hROW hRs hzl hold htl hc1 hgl hvl hm1 hkk hik hG q1 q2 q3 q4 hzs
 go_enter Tryz.func136, Tryz.ntmps136
 go_wp2_with (first
  | (at_builtin; refine Lib.wpList_append_run _ rfl _ _ _ _ rfl _ _ rfl rfl _ _ (hrz _) ?_)
  | (at_builtin; refine wpList_copy_runI _ rfl _ _ 87 87 rfl _ _ rfl rfl (hcpA _ _) ?_))
 go_region_law_o (refine step_copy_runI rfl _ _ 87 87 rfl _ _ (by simp [Act.eval, Act.put]) (by simp [Act.eval, Act.put]) (hcpB _ _ _) ?_)
 go_wp2
 go_ret
 exact HF
theorem c1c {e sz by_ n i e2 : Nat} {z : Value} {v u : Value} {xs us : List Value} {w : World} (ht : Tryz.prog.underlying 87 = some (.slice e)) (hinfo : (Tryz.prog.info? e).map (fun i => (i.zero, i.size, i.bytes)) = some (some z, sz, by_)) (hzs : z.cells.size = sz) (hsz : 0 < sz)
  (hown : w.ownsRow 0 e sz v n xs) (hx1 : ∀ u ∈ xs, u.oneCell' = true) (hv : w.ownsRow 0 e2 sz u 1 us) (h1 : ∀ u ∈ us, u.oneCell' = true) (hne : ∀ b, v.ownBlock = some b → u.ownBlock ≠ some b) (hi : i ≤ n) (h63 : n + 1 ≤ maxLen) (hb : (n + 1) * by_ ≤ 140737488355328) :
  Calls Tryz.prog 136 #[v, .int .i64 i, u] w (a4k w v e sz n i xs us) := by
 have hul : us.length = sz := by rw [hv.1, Nat.one_mul]
 rcases hv.2 with ⟨_, h⟩ | ⟨vb, vcap, curv, rfl, _, hgv, hvc, _, _, hvt⟩
 ·cases h
 ·rw [Nat.one_mul] at hvt
  rcases Nat.lt_or_ge i n with hlt | hge
  ·rcases hown.2 with ⟨_, h⟩ | ⟨g, cap, cur, rfl, _, hg, hnc, hcm, hcs, htk⟩
   ·omega
   ·rcases Nat.lt_or_ge n cap with h | h
    ·exact c1J ht hinfo hsz hown.1 hg hcm hcs htk hx1 hgv hul hvt h1 (fun e => hne g rfl (by rw [e]; rfl)) hlt h
    ·have e1 : cap = n := by omega
     subst e1
     exact c3g ht hinfo hzs hsz hown.1 hg hcm hcs htk hx1 hgv hul hvt h1 hlt h63 hb
  ·have e1 : i = n := by omega
   subst e1
   refine c4Y ht hinfo hzs hsz hown ⟨by rw [Nat.one_mul]; exact hul, fun _ => ⟨vb, 0, rfl, fun j x hj => ?_⟩⟩ h1 h63 hb
   rw [Nat.zero_add, cell_of_row _ vb _ curv e2 (0, 0) hgv]
   have hj' := (List.getElem?_eq_some_iff.1 hj).1
   rw [← hvt, List.getElem?_take, if_pos (by omega), Array.getElem?_toList] at hj
   exact hj
section
variable {P : Program} {C : Ctx} {nt : Nat} {σ : St} {L : Lyt} {a : Act} {w : World} {o : Oper} {x y y2 : Operand} {T : TT}
theorem a7G {w : World} : ∀ (k : Nat) {ds : List DV} {vs : List Value} {f : List Nat}, a0N w ds vs f → ∃ f1 f2, f = f1 ++ f2 ∧ a0N w (ds.take k) (vs.take k) f1 ∧ a0N w (ds.drop k) (vs.drop k) f2
 | 0, ds, vs, f, h => ⟨[], f, rfl, by simp [a0N], by simpa using h⟩
 | k + 1, [], vs, f, h => by
  simp only [a0N] at h
  obtain ⟨rfl, rfl⟩ := h
  exact ⟨[], [], rfl, by simp [a0N], by simp [a0N]⟩
 | k + 1, d :: ds, _, _, h => by
  simp only [a0N] at h
  obtain ⟨v, vs', f1, f2, rfl, rfl, h1, h2⟩ := h
  obtain ⟨g1, g2, rfl, h3, h4⟩ := a7G k h2
  refine ⟨f1 ++ g1, g2, by simp, ?_, by simpa using h4⟩
  simp only [List.take_succ_cons, a0N]
  exact ⟨v, _, f1, g1, rfl, rfl, h1, h3⟩
def a5V (c : List DV) (p : Nat) (us : List DV) : List DV := c.take p ++ us ++ c.drop p
structure InsOk (P : Program) (f e sz by_ : Nat) : Prop where
 pos : 0 < sz
 lt : e < 1000000
 run : ∀ {n i e2 : Nat} {v u : Value} {xs us : List Value} {w : World}, w.ownsRow 0 e sz v n xs → (∀ u ∈ xs, u.oneCell' = true) → w.ownsRow 0 e2 sz u 1 us → (∀ u ∈ us, u.oneCell' = true) → (∀ b, v.ownBlock = some b → u.ownBlock ≠ some b) → i ≤ n → n + 1 ≤ maxLen → (n + 1) * by_ ≤ 140737488355328 →
  Calls P f #[v, .int .i64 i, u] w (a4k w v e sz n i xs us)
theorem c2u {f e sz by_ d k j : Nat} {ats : Array TypeId} {c c2 : KC} {J : List Nat} {p : Int} (hf : InsOk P f e sz by_) (ho : o.op = .call { callee := .value (.func f), args := #[x, y, y2], argTypes := ats }) (hc : ∀ (args : Array Value) (w : World), (callFunc f args).run P w = .ok (.enter f args) w) (hd : o.dst = some d) (hnt : Nat.blt d nt = true)
  (hx : Ev P C nt σ x (.one (.key k))) (hk : lkk σ k = some c) (hce : c.e = e) (hcs : c.sz = sz) (hp : Ev P C nt σ y (.one (.dv J (.int .i64 p)))) (hp0 : 0 ≤ p) (hp1 : p ≤ c.n) (hy : Ev P C nt σ y2 (.one (.key j))) (hj : lkk σ j = some c2) (hcs2 : c2.sz = sz) (hn2 : c2.n = 1) (he2 : Nat.blt c2.e 1000000 = true) (hkj : k ∉ [j]) (hb : (c.n + 1) * by_ ≤ 140737488355328) (h63 : c.n + 1 ≤ 9223372036854775807) :
  Ef P C nt o σ (fun σ' => σ' = (σ.mut k [j] false ⟨false, e, sz, c.n + 1, a5V c.cs (p.toNat * sz) c2.cs⟩).put d (.one (.key k))) := Ef.mk fun L a w hr K Q hK => by
 have hd' : d < nt := by simpa [Nat.blt_eq] using hnt
 have hkj' : k ≠ j := by simpa using hkj
 have e1 := hx.run L a w hr
 have e2 := hp.run L a w hr
 have e3 := hy.run L a w hr
 simp only [SVr, CVr, Lay] at e1 e2 e3
 have ho1 := (hr.ks k c hk).1
 have ho2 := (hr.ks j c2 hj).1
 simp only [Own] at ho1 ho2
 obtain ⟨vs, f1, q1, q2, q3, q4, q5⟩ := ho1
 obtain ⟨us, f2, r1, r2, r3, r4, r5⟩ := ho2
 subst hce; subst hcs
 have hrow := q4.1 hf.lt
 have hrow2 := r4.1 (by simpa [Nat.blt_eq] using he2)
 rw [hn2, hcs2] at hrow2
 have hkn := hr.kn k c hk
 have hjn := hr.kn j c2 hj
 have hkk := hr.kk k j c c2 hk hj hkj'
 rw [q1] at hkn; rw [r1] at hjn
 obtain ⟨n1, n2, n3⟩ := List.nodup_append.1 hkn
 obtain ⟨_, n5, _⟩ := List.nodup_append.1 hjn
 have one : ∀ {ds : List DV} {vs : List Value} {f : List Nat}, a0N w ds vs f → ∀ u ∈ vs, u.oneCell' = true := fun h => a8i (ok := fun _ => True) _ _ (a7x _ _ _ h (fun _ _ => trivial))
 have hpn : ((p.toNat : Nat) : Int) = p := Int.toNat_of_nonneg hp0
 refine a6B (xs := [x, y, y2]) ho hc ?_
 simp only [List.map_cons, List.map_nil, e1, e2.1, e3]
 rw [← hpn]
 refine (hf.run (i := p.toNat) hrow (one q5) hrow2 (one r5) (fun b hb' hb2 => hkk b (by rw [q1, hb']; simp) (by rw [r1, hb2]; simp)) (by omega) (by simpa [maxLen] using h63) hb).mono ?_
 rintro ex w' ⟨A', c', rfl, g1, g2, g3⟩
 refine ⟨_, rfl, ?_⟩
 obtain ⟨fa, fb, rfl, t1, t2⟩ := a7G (p.toNat * c.sz) q5
 have hlt1 : ∀ b ∈ fa ++ fb, b < w.heap.size := a5p _ _ _ q5
 have hlt2 : ∀ b ∈ f2, b < w.heap.size := a5p _ _ _ r5
 have hf2k : ∀ b ∈ f2, b ∉ L.fp k := fun b hb' hm => hkk b hm (by rw [r1]; simp [hb'])
 have keep : ∀ b ∈ fa ++ fb, w'.heap[b]? = w.heap[b]? := fun b hb' => g2.block b (hlt1 b hb') (fun hm => n3 b hm b hb' rfl)
 have keep2 : ∀ b ∈ f2, w'.heap[b]? = w.heap[b]? := fun b hb' => g2.block b (hlt2 b hb') (fun hm => hf2k b hb' (by rw [q1]; simp [hm]))
 have k1 := a3g _ _ _ t1 (fun b hb' => keep b (by simp [hb']))
 have k2 := a3g _ _ _ t2 (fun b hb' => keep b (by simp [hb']))
 have k3 := a3g _ _ _ r5 keep2
 have hlen : (a5V c.cs (p.toNat * c.sz) c2.cs).length = (c.n + 1) * c.sz := by
  have : c2.cs.length = c.sz := by rw [r3, hn2, Nat.one_mul, hcs2]
  have m : p.toNat * c.sz ≤ c.n * c.sz := Nat.mul_le_mul_right _ (by omega)
  simp only [a5V, c5s, c5t, List.length_drop, this, q3, Nat.add_mul, Nat.one_mul]
  omega
 have hown' : Own w' (.sl c.e c.sz (c.n + 1) (a5V c.cs (p.toNat * c.sz) c2.cs)) (.slice A' (c.n + 1) c') ((Value.slice A' (c.n + 1) c').ownBlock.toList ++ (fa ++ f2 ++ fb)) := by
  unfold Own
  exact ⟨_, fa ++ f2 ++ fb, rfl, q2, hlen, a3H hf.lt g1, a3h _ _ _ _ _ _ (a3h _ _ _ _ _ _ k1 k3) k2⟩
 obtain ⟨p1, p2, p3⟩ := List.nodup_append.1 n2
 have hnod : (fa ++ f2 ++ fb).Nodup := by
  refine List.nodup_append.2 ⟨List.nodup_append.2 ⟨p1, n5, fun x hx' y hy' e' => hf2k y hy' (by rw [q1, ← e']; simp [hx'])⟩, p2, fun x hx' y hy' e' => ?_⟩
  rcases List.mem_append.1 hx' with hx' | hx'
  ·exact p3 x hx' y hy' e'
  ·exact hf2k x hx' (by rw [q1, e']; simp [hy'])
 have hset := hr.setkey (k := k) (c := c) (c' := ⟨false, c.e, c.sz, c.n + 1, a5V c.cs (p.toNat * c.sz) c2.cs⟩) (js := [j]) (same := false) hk hkj (g2.mono (fun b hb' => by rw [q1]; simp [hb'])) hown'
  (by
   refine List.nodup_append.2 ⟨?_, hnod, fun x hx' y hy' e' => ?_⟩
   ·cases (Value.slice A' (c.n + 1) c').ownBlock <;> simp
   ·subst e'
    rcases g3 with hb' | hb'
    ·rw [← hb'] at hx'
     rcases List.mem_append.1 hy' with hy' | hy'
     ·rcases List.mem_append.1 hy' with hy' | hy'
      ·exact n3 x hx' x (by simp [hy']) rfl
      ·exact hf2k x hy' (by rw [q1]; simp [hx'])
     ·exact n3 x hx' x (by simp [hy']) rfl
    ·rw [hb'] at hx'
     simp only [Option.toList_some, List.mem_singleton] at hx'
     subst hx'
     rcases List.mem_append.1 hy' with hy' | hy'
     ·rcases List.mem_append.1 hy' with hy' | hy'
      ·exact absurd (hlt1 w.heap.size (by simp [hy'])) (by omega)
      ·exact absurd (hlt2 _ hy') (by omega)
     ·exact absurd (hlt1 w.heap.size (by simp [hy'])) (by omega))
  (fun b hb' => by
   rcases List.mem_append.1 hb' with hb' | hb'
   ·rcases g3 with hbl | hbl
    ·rw [← hbl] at hb'; exact .inl (by rw [q1]; simp [hb'])
    ·rw [hbl] at hb'
     simp only [Option.toList_some, List.mem_singleton] at hb'
     exact .inr (.inr (by omega))
   ·rcases List.mem_append.1 hb' with hb' | hb'
    ·rcases List.mem_append.1 hb' with hb' | hb'
     ·exact .inl (by rw [q1]; simp [hb'])
     ·exact .inr (.inl ⟨j, by simp, by rw [r1]; simp [hb']⟩)
    ·exact .inl (by rw [q1]; simp [hb'])) (by simp [hj]) (by simp) (by simp)
 refine hK { L with fp := fun i => if i = k then (Value.slice A' (c.n + 1) c').ownBlock.toList ++ (fa ++ f2 ++ fb) else L.fp i, rv := fun i => if i = k then .slice A' (c.n + 1) c' else L.rv i } _ _ _ rfl ?_
 rw [hd]
 exact hset.put (v := .one (.key k)) (r := .slice A' (c.n + 1) c') hd' (by simp [SVr, CVr]) (by simp [SV.keys, CV.keys, a6f]) (by simp [SV.boxes])
theorem b1A {Q : Exit → St → Prop} {all : Array Oper} {rest : List Oper} {tm : List (Nat × SV)} {bx : List (Nat × TypeId × List CV)} {ks : List (Nat × Option KC)} {f e sz by_ d k j n : Nat} {ats : Array TypeId} {c c2 : KC} {J : List Nat} {p : Int} {cs : List DV} (hf : InsOk P f e sz by_) (hg : o.guard = none) (ho : o.op = .call { callee := .value (.func f), args := #[x, y, y2], argTypes := ats }) (hc : ∀ (args : Array Value) (w : World), (callFunc f args).run P w = .ok (.enter f args) w) (hd : o.dst = some d) (hnt : Nat.blt d nt = true)
  (hx : Ev P C nt ⟨tm, bx, ks⟩ x (.one (.key k))) (hk : lkk ⟨tm, bx, ks⟩ k = some c) (hce : c.e = e) (hcs : c.sz = sz) (hp : Ev P C nt ⟨tm, bx, ks⟩ y (.one (.dv J (.int .i64 p)))) (hp0 : 0 ≤ p) (hp1 : p ≤ c.n) (hy : Ev P C nt ⟨tm, bx, ks⟩ y2 (.one (.key j))) (hj : lkk ⟨tm, bx, ks⟩ j = some c2) (hcs2 : c2.sz = sz) (hn2 : c2.n = 1) (he2 : Nat.blt c2.e 1000000 = true) (hkj : k ∉ [j]) (hb : (c.n + 1) * by_ ≤ 140737488355328) (h63 : c.n + 1 ≤ 9223372036854775807) (hn : c.n + 1 = n) (hcc : a5V c.cs (p.toNat * sz) c2.cs = cs)
  (h : Ops P C nt Q all rest ⟨(d, .one (.key k)) :: a0i [k, j] [k, j] tm, a0h [k, j] [k, j] bx, (k, some ⟨false, e, sz, n, cs⟩) :: (j, none) :: ks⟩) : Ops P C nt Q all (o :: rest) ⟨tm, bx, ks⟩ :=
 a3o hg (c2u hf ho hc hd hnt hx hk hce hcs hp hp0 hp1 hy hj hcs2 hn2 he2 hkj hb h63) (by subst hn; subst hcc; exact h)
end
theorem a2X {P : Program} {C : Ctx} {nt : Nat} {σ : St} {x : Operand} {k : Nat} {c : KC} {d : DV} (h : Ev P C nt σ x (.one (.key k))) (hk : lkk σ k = some c) (hd : DV.sl c.e c.sz c.n c.cs = d) : Ev P C nt σ x (.one (.dv [k] d)) := by subst hd; exact b2h h hk
theorem b6k {sz by_ : Nat} {zc : List CV} (he : look a4I.el 128 = some (sz, by_, zc)) (hl0 : zc.length = sz) (hpos : 0 < sz) : InsOk Tryz.prog 136 128 sz by_ := by
 obtain ⟨inf, z, g1, g2, g3, g4, g5⟩ := hT.el _ _ _ _ he
 refine ⟨hpos, hT.lt _ _ he, fun hown hx1 hv h1 hne hi h63 hb => c1c (z := z) (by kernel_rfl) (by rw [g1]; simp [g2, g3, g4]) (by
  have := a6H g5
  simp only [Array.length_toList] at this
  rw [this, hl0]) hpos hown hx1 hv h1 hne hi h63 hb⟩
section
variable {P : Program} {C : Ctx} {nt : Nat} {σ : St} {L : Lyt} {a : Act} {w : World} {o o1 o2 : Oper} {x y : Operand} {T : TT}
theorem b0N {t : Array Value} {i d : Nat} {r : Value} (e : i ≠ d) : (t.setIfInBounds d r).getD i undef = t.getD i undef := by
 rw [Array.getD_eq_getD_getElem?, Array.getD_eq_getD_getElem?, Array.getElem?_setIfInBounds_ne (fun e' => e e'.symm)]
theorem b2r {vs rs : List Nat} {i : Nat} {x : TypeId × List CV} : ∀ {bx : List (Nat × TypeId × List CV)}, look (a0h vs rs bx) i = some x → ∃ y, look bx i = some y
 | [], h => by simp [a0h, look] at h
 | p :: bx, h => by
  simp only [a0h, List.map_cons, a0Y] at h
  obtain ⟨b, q⟩ := p
  rw [a0Y]
  split
  ·exact ⟨_, rfl⟩
  ·rename_i e
   rw [if_neg e] at h
   exact b2r h
structure SlOk (P : Program) (C : Ctx) (nt : Nat) (σ : St) (o : Oper) (j sz lo hi : Nat) : Prop where
 run : ∀ L a w, Rel P C nt L σ a w → ∀ A n c, L.rv j = .slice A n c → ∀ w', (execOp a.eval o).run P w' = .ok (.value (sliced A lo hi c sz)) w'
theorem b5r {j : Nat} {c2 : KC} (hr : Rel P C nt L σ a w) (hj : lkk σ j = some c2) {A : Option Addr} {n c : Nat} (e : L.rv j = .slice A n c) : n = c2.n ∧ c2.n ≤ c := by
 have ho := (hr.ks j c2 hj).1
 simp only [Own] at ho
 obtain ⟨vs, f, _, _, _, q4, _⟩ := ho
 rcases (a5o q4).2 with ⟨g1, g2⟩ | ⟨g, cap, cur, t, fz, g1, g2, g3, g4, g5, g6⟩
 ·rw [e] at g1
  simp only [Value.slice.injEq] at g1
  exact ⟨by rw [g2]; exact g1.2.1, by omega⟩
 ·rw [e] at g1
  simp only [Value.slice.injEq] at g1
  exact ⟨g1.2.1, by omega⟩
theorem b3r (hT : TTOk P T) {t e sz by_ j : Nat} {zc : List CV} {c2 : KC} {J : List Nat} {z : Int} (ho : o.op = .slice t x none (some y) none) (h : look T.sl t = some e) (he : look T.el e = some (sz, by_, zc)) (hx : Ev P C nt σ x (.one (.key j))) (hj : lkk σ j = some c2) (hy : Ev P C nt σ y (.one (.dv J (.int .i64 z)))) (h0 : 0 ≤ z) (h1 : z ≤ c2.n) : SlOk P C nt σ o j sz 0 z.toNat := ⟨fun L a w hr A n c e1 w' => by
 have h2 := hx.run L a w hr
 have h3 := hy.run L a w hr
 simp only [SVr, CVr, Lay] at h2 h3
 obtain ⟨k1, k2⟩ := a9U (hT.sl t e h)
 obtain ⟨q1, q2⟩ := b5r hr hj e1
 rw [e1] at h2
 unfold execOp
 simp only [ho, Option.map_none, Option.map_some, h2, h3.1, Sem.run_bind, run_sliceAt_slice _ _ _ _ _ _ k1, run_slice_h w' t A n c k1 .i64 z h0 (by omega), k2, b0y hT he, Result.andThen_ok, Sem.run_pure]⟩
theorem b1T (hT : TTOk P T) {t e sz by_ j : Nat} {zc : List CV} {c2 : KC} {J : List Nat} {z : Int} (ho : o.op = .slice t x (some y) none none) (h : look T.sl t = some e) (he : look T.el e = some (sz, by_, zc)) (hx : Ev P C nt σ x (.one (.key j))) (hj : lkk σ j = some c2) (hy : Ev P C nt σ y (.one (.dv J (.int .i64 z)))) (h0 : 0 ≤ z) (h1 : z ≤ c2.n) : SlOk P C nt σ o j sz z.toNat c2.n := ⟨fun L a w hr A n c e1 w' => by
 have h2 := hx.run L a w hr
 have h3 := hy.run L a w hr
 simp only [SVr, CVr, Lay] at h2 h3
 obtain ⟨k1, k2⟩ := a9U (hT.sl t e h)
 obtain ⟨q1, q2⟩ := b5r hr hj e1
 rw [e1] at h2
 unfold execOp
 rw [← q1]
 simp only [ho, Option.map_none, Option.map_some, h2, h3.1, Sem.run_bind, run_sliceAt_slice _ _ _ _ _ _ k1, run_slice_l w' t A n c k1 .i64 z h0 (by omega), k2, b0y hT he, Result.andThen_ok, Sem.run_pure]⟩
def a5t (cs : List DV) (l m : Nat) : List DV := cs.take l ++ (List.replicate m .hole ++ (cs.drop l).drop m)
theorem a9z {w : World} : ∀ (vs : List Value), (∀ v ∈ vs, v.oneCell' = true) → a0N w (List.replicate vs.length .hole) vs []
 | [], _ => by simp [a0N]
 | v :: vs, h => by
  simp only [List.length_cons, List.replicate_succ, a0N]
  exact ⟨v, vs, [], [], rfl, rfl, by simp [Own, h v (by simp)], a9z vs fun u hu => h u (by simp [hu])⟩
theorem b2o {Q : Exit → St → Prop} {all : Array Oper} {rest : List Oper} {tm : List (Nat × SV)} {bx : List (Nat × TypeId × List CV)} {ks : List (Nat × Option KC)} {t e sz by_ d d1 k j s lo hi n : Nat} {zc : List CV} {c c2 : KC} {cs c2s : List DV} (hT : TTOk P T)
  (hg1 : o1.guard = none) (hd1 : o1.dst = some d1) (hn1 : Nat.blt d1 nt = true) (hs : SlOk P C nt ⟨tm, bx, ks⟩ o1 j sz lo hi)
  (hg2 : o2.guard = none) (hd : o2.dst = some d) (ho : o2.op = .call { callee := .builtin .append, args := #[x, .tmp d1], argTypes := #[t, t] }) (hnt : Nat.blt d nt = true) (ht : look T.sl t = some e) (he : look T.el e = some (sz, by_, zc)) (hl0 : zc.length = sz)
  (hx : Ev P C nt ⟨(d1, .any) :: tm, bx, ks⟩ x (.one (.key k))) (hk : lkk ⟨tm, bx, ks⟩ k = some c) (hce : c.e = e) (hcs : c.sz = sz) (hj : lkk ⟨tm, bx, ks⟩ j = some c2) (hcs2 : c2.sz = sz) (he2 : Nat.blt c2.e 1000000 = true) (hkj : k ∉ [j]) (hh : c2.h = false)
  (hsl : look tm s = some (.one (.key j))) (hsd : Nat.beq s d1 = false ∧ Nat.beq s d = false) (hlh : lo ≤ hi) (hhi : hi ≤ c2.n) (hb : (c.n + (hi - lo)) * by_ ≤ 140737488355328) (h63 : c.n + (hi - lo) ≤ 9223372036854775807) (hn : c.n + (hi - lo) = n) (hcc : c.cs ++ sub (lo * sz) ((hi - lo) * sz) c2.cs = cs) (hcc2 : a5t c2.cs (lo * sz) ((hi - lo) * sz) = c2s)
  (h : Ops P C nt Q all rest ⟨(s, .one (.key j)) :: (d, .one (.key k)) :: a0i [k, j] [k, j] ((d1, .any) :: tm), a0h [k, j] [k, j] bx, (j, some ⟨false, c2.e, sz, c2.n, c2s⟩) :: (k, some ⟨false, e, sz, n, cs⟩) :: (j, none) :: ks⟩) : Ops P C nt Q all (o1 :: o2 :: rest) ⟨tm, bx, ks⟩ := Ops.mk fun L a w hr => by
 subst hn; subst hcc; subst hcc2
 have hkj' : k ≠ j := by simpa using hkj
 refine wpList_plain hg1 fun K1 hK1 => ?_
 -- what stands in memory
 have ho1 := (hr.ks k c hk).1
 have ho2 := (hr.ks j c2 hj).1
 simp only [Own] at ho1 ho2
 obtain ⟨vs, f1, q1, q2, q3, q4, q5⟩ := ho1
 obtain ⟨us, f2, r1, r2, r3, r4, r5⟩ := ho2
 subst hce; subst hcs
 obtain ⟨inf, z, g1, g2, g3, g4, g5⟩ := hT.el c.e c.sz by_ zc he
 have hE : c.e < 1000000 := hT.lt _ _ he
 have hrow := q4.1 hE
 have hE2 : c2.e < 1000000 := by simpa [Nat.blt_eq] using he2
 have hrow2 := r4.1 hE2
 rw [hcs2] at hrow2 r3
 have hul : us.length = c2.n * c.sz := hrow2.1
 have one : ∀ {ds : List DV} {vs : List Value} {f : List Nat}, a0N w ds vs f → ∀ u ∈ vs, u.oneCell' = true := fun h => a8i (ok := fun _ => True) _ _ (a7x _ _ _ h (fun _ _ => trivial))
 obtain ⟨A, m, cap, hA⟩ : ∃ A m cap, L.rv j = .slice A m cap := by
  rcases hrow2.2 with ⟨g, _⟩ | ⟨g, cap, cur, g, _⟩
  ·exact ⟨_, _, _, g⟩
  ·exact ⟨_, _, _, g⟩
 have hrun := hs.run L a w hr A m cap hA w
 have hm1 : (hi - lo) * c.sz + lo * c.sz = hi * c.sz := by rw [← Nat.add_mul]; congr 1; omega
 have hm2 : hi * c.sz ≤ c2.n * c.sz := Nat.mul_le_mul_right _ hhi
 have hm3 : hi * c.sz + (c2.n - hi) * c.sz = c2.n * c.sz := by rw [← Nat.add_mul]; congr 1; omega
 obtain ⟨A1, c1, e1, hrd⟩ : ∃ A1 c1, sliced A lo hi cap c.sz = .slice A1 (hi - lo) c1 ∧ a3w w A1 (hi - lo) c.sz (sub (lo * c.sz) ((hi - lo) * c.sz) us) := by
  refine ⟨_, _, rfl, by rw [a4B _ _ _ (by omega)], fun hpos => ?_⟩
  rcases hrow2.2 with ⟨g1, g2⟩ | ⟨g, cap', cur, g1, _, g3, g4, g5, g6, g7⟩
  ·omega
  ·rw [hA] at g1
   simp only [Value.slice.injEq] at g1
   obtain ⟨rfl, rfl, rfl⟩ := g1
   have hne : ¬ cap = lo := by omega
   refine ⟨g, lo * c.sz, by rw [if_neg hne]; simp only [Option.map_some, a5M, Nat.zero_add], fun i v hi' => ?_⟩
   have hlt : i < (hi - lo) * c.sz := by
    have := (List.getElem?_eq_some_iff.1 hi').1
    rw [a4B _ _ _ (by omega)] at this
    exact this
   rw [a9w _ _ _ _ hlt] at hi'
   rw [cell_of_row _ g _ cur c2.e (0, 0) g3]
   rw [← g7, List.getElem?_take, if_pos (by omega), Array.getElem?_toList] at hi'
   exact hi'
 refine a5u hrun (hK1 _ _ ?_)
 have hr1 : Rel P C nt L ⟨(d1, .any) :: tm, bx, ks⟩ (a.put o1.dst (sliced A lo hi cap c.sz)) w := by
  rw [hd1]
  exact hr.put (v := .any) (by simpa [Nat.blt_eq] using hn1) (by simp only [SVr]) (by simp [SV.keys]) (by simp [SV.boxes])
 have ex := hx.run L _ w hr1
 simp only [SVr, CVr] at ex
 have ey : (a.put o1.dst (sliced A lo hi cap c.sz)).eval (.tmp d1) = .slice A1 (hi - lo) c1 := by
  rw [hd1, ← e1]
  have hsz := hr.sz
  have hlt : d1 < nt := by simpa [Nat.blt_eq] using hn1
  simp [Act.eval, Act.put, hsz, hlt]
 refine wpList_plain hg2 fun K hK => ?_
 have hzs : z.cells.size = c.sz := by
  have := a6H g5
  simp only [Array.length_toList] at this
  rw [this, hl0]
 refine b1a w x (.tmp d1) t ho c.e z c.sz by_ (hT.sl t c.e ht) (by rw [g1]; simp [g2, g3, g4]) hzs q2 (L.rv k) c.n vs ex hrow A1 (hi - lo) c1 _ ey hrd (fun u hu => one r5 u (List.mem_of_mem_drop (List.mem_of_mem_take hu))) (by simpa [maxLen] using h63) hb ?_
 intro A' c' w' h9 hchg hblk
 refine hK _ _ ?_
 -- the parts
 obtain ⟨fa, fr, rfl, ta, tr⟩ := a7G (lo * c.sz) r5
 obtain ⟨fb, fc, rfl, tb, tc⟩ := a7G ((hi - lo) * c.sz) tr
 have hkn := hr.kn k c hk
 have hjn := hr.kn j c2 hj
 have hkk := hr.kk k j c c2 hk hj hkj'
 rw [q1] at hkn; rw [r1] at hjn
 obtain ⟨n1, n2, n3⟩ := List.nodup_append.1 hkn
 obtain ⟨p1, p2, p3⟩ := List.nodup_append.1 hjn
 obtain ⟨pa, pbc, p4⟩ := List.nodup_append.1 p2
 obtain ⟨pb, pc, p5⟩ := List.nodup_append.1 pbc
 have hltk : ∀ b ∈ L.fp k, b < w.heap.size := fun b hb' => hr.k_lt hk b hb'
 have hltj : ∀ b ∈ L.fp j, b < w.heap.size := fun b hb' => hr.k_lt hj b hb'
 have inj : ∀ b, b ∈ fa ++ (fb ++ fc) → b ∈ L.fp j := fun b hb' => by rw [r1]; simp only [List.mem_append] at hb' ⊢; exact .inr hb'
 have ink : ∀ b, b ∈ f1 → b ∈ L.fp k := fun b hb' => by rw [q1]; simp [hb']
 have keepk : ∀ b ∈ f1, w'.heap[b]? = w.heap[b]? := fun b hb' => hchg.block b (hltk b (ink b hb')) (fun hm => n3 b hm b hb' rfl)
 have keepj : ∀ b ∈ L.fp j, w'.heap[b]? = w.heap[b]? := fun b hb' => hchg.block b (hltj b hb') (fun hm => hkk b (by rw [q1]; simp [hm]) hb')
 have k1 := a3g _ _ _ q5 keepk
 have k2 := a3g _ _ _ tb (fun b hb' => keepj b (inj b (by simp [hb'])))
 have hbl : ∀ b, b ∈ (Value.slice A' (c.n + (hi - lo)) c').ownBlock.toList → b ∈ (L.rv k).ownBlock.toList ∨ b = w.heap.size := fun b hb' => by
  rcases hblk with g | g
  ·rw [← g] at hb'; exact .inl hb'
  ·rw [g] at hb'; simp only [Option.toList_some, List.mem_singleton] at hb'; exact .inr hb'
 have hown' : Own w' (.sl c.e c.sz (c.n + (hi - lo)) (c.cs ++ sub (lo * c.sz) ((hi - lo) * c.sz) c2.cs)) (.slice A' (c.n + (hi - lo)) c') ((Value.slice A' (c.n + (hi - lo)) c').ownBlock.toList ++ (f1 ++ fb)) := by
  unfold Own
  refine ⟨_, f1 ++ fb, rfl, q2, ?_, a3H hE h9, a3h _ _ _ _ _ _ k1 k2⟩
  rw [c5s, q3, a4B _ _ _ (by rw [r3]; omega), Nat.add_mul]
 have hset := hr1.setkey (k := k) (c := c) (c' := ⟨false, c.e, c.sz, c.n + (hi - lo), c.cs ++ sub (lo * c.sz) ((hi - lo) * c.sz) c2.cs⟩) (js := [j]) (same := false) hk hkj (hchg.mono (fun b hb' => by rw [q1]; simp [hb'])) hown'
  (by
   refine List.nodup_append.2 ⟨?_, List.nodup_append.2 ⟨n2, pb, fun x hx' y hy' e' => hkk x (ink x hx') (inj x (by rw [e']; simp [hy']))⟩, fun x hx' y hy' e' => ?_⟩
   ·cases (Value.slice A' (c.n + (hi - lo)) c').ownBlock <;> simp
   ·subst e'
    rcases hbl x hx' with g | g
    ·rcases List.mem_append.1 hy' with hy' | hy'
     ·exact n3 x g x hy' rfl
     ·exact hkk x (by rw [q1]; simp [g]) (inj x (by simp [hy']))
    ·rcases List.mem_append.1 hy' with hy' | hy'
     ·have := hltk x (ink x hy'); omega
     ·have := hltj x (inj x (by simp [hy'])); omega)
  (fun b hb' => by
   rcases List.mem_append.1 hb' with hb' | hb'
   ·rcases hbl b hb' with g | g
    ·exact .inl (by rw [q1]; simp [g])
    ·exact .inr (.inr (by omega))
   ·rcases List.mem_append.1 hb' with hb' | hb'
    ·exact .inl (ink b hb')
    ·exact .inr (.inl ⟨j, by simp, inj b (by simp [hb'])⟩)) (by intro i hi'; simp only [List.mem_singleton] at hi'; subst hi'; exact c5r.2 ⟨c2, hj⟩) (by simp) (by simp)
 -- key j again, with holes
 have hone2 : ∀ u ∈ us, u.oneCell' = true := one r5
 have hrow3 : w'.ownsRow 0 c2.e c.sz (L.rv j) c2.n us := by
  refine ⟨hrow2.1, ?_⟩
  rcases hrow2.2 with g | ⟨g, cap', cur, g1, g2, g3, g4⟩
  ·exact .inl g
  ·refine .inr ⟨g, cap', cur, g1, g2, ?_, g4⟩
   rw [keepj g (by rw [r1, g1]; simp [Value.ownBlock])]; exact g3
 have hown2 : Own w' (.sl c2.e c.sz c2.n (a5t c2.cs (lo * c.sz) ((hi - lo) * c.sz))) (L.rv j) ((L.rv j).ownBlock.toList ++ (fa ++ ([] ++ fc))) := by
  unfold Own
  have ta' := a3g _ _ _ ta (fun b hb' => keepj b (inj b (by simp [hb'])))
  have tc' := a3g _ _ _ tc (fun b hb' => keepj b (inj b (by simp [hb'])))
  have th : a0N w' (List.replicate ((hi - lo) * c.sz) .hole) ((us.drop (lo * c.sz)).take ((hi - lo) * c.sz)) [] := by
   have := a9z (w := w') ((us.drop (lo * c.sz)).take ((hi - lo) * c.sz)) (fun v hv => hone2 v (List.mem_of_mem_drop (List.mem_of_mem_take hv)))
   have e' : ((us.drop (lo * c.sz)).take ((hi - lo) * c.sz)).length = (hi - lo) * c.sz := by rw [c5t, List.length_drop]; omega
   rwa [e'] at this
  have hall := a3h _ _ _ _ _ _ ta' (a3h _ _ _ _ _ _ th tc')
  rw [List.take_append_drop, List.take_append_drop] at hall
  refine ⟨us, _, rfl, q2, ?_, a3H hE2 hrow3, hall⟩
  simp only [a5t, c5s, c5t, List.length_replicate, List.length_drop, r3]
  omega
 have hlk : ∀ i, lkk (St.mut ⟨(d1, .any) :: tm, bx, ks⟩ k [j] false ⟨false, c.e, c.sz, c.n + (hi - lo), c.cs ++ sub (lo * c.sz) ((hi - lo) * c.sz) c2.cs⟩) i = if i = k then some ⟨false, c.e, c.sz, c.n + (hi - lo), c.cs ++ sub (lo * c.sz) ((hi - lo) * c.sz) c2.cs⟩ else if i = j then none else lkk ⟨tm, bx, ks⟩ i := fun i => by
  simp only [lkk, St.mut, List.map_cons, List.map_nil, List.cons_append, List.nil_append, a0Y]
  split
  ·rfl
  ·split <;> rfl
 have inj2 : ∀ b, b ∈ (L.rv j).ownBlock.toList ++ (fa ++ ([] ++ fc)) → b ∈ L.fp j := fun b hb' => by
  rw [r1]; simp only [List.mem_append, List.nil_append] at hb' ⊢
  rcases hb' with g | g | g
  ·exact .inl g
  ·exact .inr (.inl g)
  ·exact .inr (.inr (.inr g))
 have hnew := hset.newkey (k := j) (c := ⟨false, c2.e, c.sz, c2.n, a5t c2.cs (lo * c.sz) ((hi - lo) * c.sz)⟩) (v := L.rv j) (f := (L.rv j).ownBlock.toList ++ (fa ++ ([] ++ fc))) (by rw [hlk, if_neg (fun e => hkj' e.symm), if_pos rfl]) hown2 rfl
  (by
   rw [List.nil_append]
   refine List.nodup_append.2 ⟨p1, List.nodup_append.2 ⟨pa, pc, fun x hx' y hy' => p4 x hx' y (by simp [hy'])⟩, fun x hx' y hy' => p3 x hx' y (by
    simp only [List.mem_append] at hy' ⊢
    rcases hy' with g | g
    ·exact .inl g
    ·exact .inr (.inr g))⟩)
  (fun b hb' => hr.k1 j c2 hj b (inj2 b hb'))
  (fun b hb' i x hx' e' => by
   obtain ⟨y, hy⟩ := b2r hx'
   exact hr.bk i j y c2 hy hj (by rw [show L.bb i = b from e']; exact inj2 b hb'))
  (fun b hb' i q hq hm => by
   rw [hlk] at hq
   by_cases hik : i = k
   ·subst hik
    simp only [if_true] at hm
    rcases List.mem_append.1 hm with hm | hm
    ·rcases hbl b hm with g | g
     ·exact hkk b (by rw [q1]; simp [g]) (inj2 b hb')
     ·have := hltj b (inj2 b hb'); omega
    ·rcases List.mem_append.1 hm with hm | hm
     ·exact hkk b (ink b hm) (inj2 b hb')
     ·rw [List.nil_append] at hb'
      rcases List.mem_append.1 hb' with g | g
      ·exact p3 b g b (by simp [hm]) rfl
      ·rcases List.mem_append.1 g with g | g
       ·exact p4 b g b (by simp [hm]) rfl
       ·exact p5 b hm b g rfl
   ·rw [if_neg hik] at hq
    by_cases hij : i = j
    ·rw [if_pos hij] at hq; cases hq
    ·rw [if_neg hij] at hq
     simp only [if_neg hik] at hm
     exact hr.kk i j q c2 hq hj hij b hm (inj2 b hb'))
 have hd' : d < nt := by simpa [Nat.blt_eq] using hnt
 have hput := hnew.put (d := d) (v := .one (.key k)) (r := .slice A' (c.n + (hi - lo)) c') hd' (by simp only [SVr, CVr]; rw [if_neg hkj']; simp) (by
  simp only [SV.keys, CV.keys, List.mem_singleton, forall_eq]
  simp [lkk, a0Y, hkj', St.mut]) (by simp [SV.boxes])
 have hsv := hr.tm s _ hsl
 simp only [SVr, CVr] at hsv
 have n1' : s ≠ d1 := Nat.ne_of_beq_eq_false hsd.1
 have n2' : s ≠ d := Nat.ne_of_beq_eq_false hsd.2
 have hval : ((a.put o1.dst (sliced A lo hi cap c.sz)).put (some d) (.slice A' (c.n + (hi - lo)) c')).tmps.getD s undef = L.rv j := by
  rw [← hsv, hd1]
  simp only [Act.put]
  rw [b0N n2', b0N n1']
 have hal := hput.also (d := s) (v := .one (.key j)) (by simp only [SVr, CVr, if_true]; exact hval) (by simp [SV.keys, CV.keys, lkk, a0Y, St.put]) (by simp [SV.boxes])
 rw [hd]
 exact h.run _ _ _ hal
theorem b1f {tm : List (Nat × SV)} {bx : List (Nat × TypeId × List CV)} {ks : List (Nat × Option KC)} {s k k' : Nat} {c c' : KC} (hs : look tm s = some (.one (.key k))) (hk : lkk ⟨tm, bx, ks⟩ k = some c) (hk' : lkk ⟨tm, bx, ks⟩ k' = some c') (hne : k' ∉ [k]) (hh : c.h = false) :
  Weak P C nt ⟨tm, bx, ks⟩ ⟨(s, .one (.key k')) :: a0i [k', k] [k', k] tm, a0h [k', k] [k', k] bx, (k', some c) :: (k, none) :: ks⟩ := Weak.mk fun L a w hr => by
 have ho := (hr.ks k c hk).1
 have hsv := hr.tm s _ hs
 simp only [SVr, CVr] at hsv
 have hset := hr.setkey (k := k') (c := c') (c' := c) (js := [k]) (same := false) hk' hne (Chg.refl _ w) ho (hr.kn k c hk) (fun b hb => .inr (.inl ⟨k, by simp, hb⟩)) (by intro i hi'; simp only [List.mem_singleton] at hi'; subst hi'; exact c5r.2 ⟨c, hk⟩) (by simp) (fun h => by rw [hh] at h; cases h)
 exact ⟨_, hset.also (d := s) (v := .one (.key k')) (by simp only [SVr, CVr, if_true]; exact hsv) (by simp [SV.keys, CV.keys, a6f]) (by simp [SV.boxes])⟩
/-! ### keys in boxes -/
theorem b3J {L : Lyt} {w : World} {c' : CV} {v : Value} : ∀ {cs : List CV} {vs : List Value} {i : Nat}, CVL C L w cs vs → vs[i]? = some v → CVr C L w c' v → CVL C L w (cs.set i c') vs
 | [], _, _, h, _, _ => by simpa using h
 | x :: xs, _, 0, ⟨u, vs', e, h1, h2⟩, hv, hc => by
  subst e
  simp only [List.getElem?_cons_zero, Option.some.injEq] at hv
  subst hv
  exact ⟨u, vs', rfl, hc, h2⟩
 | x :: xs, _, i + 1, ⟨u, vs', e, h1, h2⟩, hv, hc => by
  subst e
  exact ⟨u, vs', rfl, h1, b3J h2 (by simpa using hv) hc⟩
theorem b3t {L : Lyt} {w : World} {c : CV} : ∀ {cs : List CV} {vs : List Value} {i : Nat}, CVL C L w cs vs → cs[i]? = some c → ∃ v, vs[i]? = some v ∧ CVr C L w c v
 | [], _, _, _, h => by simp at h
 | x :: xs, _, 0, ⟨u, vs', e, h1, h2⟩, h => by
  subst e
  simp only [List.getElem?_cons_zero, Option.some.injEq] at h
  subst h
  exact ⟨u, by simp, h1⟩
 | x :: xs, _, i + 1, ⟨u, vs', e, h1, h2⟩, h => by
  subst e
  simpa using b3t h2 (by simpa using h)
theorem Rel.alsoK (h : Rel P C nt L σ a w) {b t i k : Nat} {cs : List CV} (hb : look σ.bx b = some (t, cs)) (hv : ∀ vs : List Value, w.heap[L.bb b]? = some (.cells vs.toArray t (0, 0)) → vs[i]? = some (L.rv k)) (hk : (lkk σ k).isSome = true) (hok : (cs.flatMap CV.keys).all (fun j => (lkk σ j).isSome) = true) : Rel P C nt L ⟨σ.tm, (b, t, cs.set i (.key k)) :: σ.bx, σ.ks⟩ a w :=
 have hx : ∀ z x, look ((b, t, cs.set i (.key k)) :: σ.bx) z = some x → ∃ y, look σ.bx z = some y := fun z x hx => by
  simp only [a0Y] at hx
  split at hx
  ·rename_i e; exact ⟨_, by rw [e]; exact hb⟩
  ·exact ⟨_, hx⟩
 { h with
  tm := h.tm
  bx := fun i' t' cs'' hx => by
   simp only [a0Y] at hx
   split at hx
   ·rename_i e
    simp only [Option.some.injEq, Prod.mk.injEq] at hx
    obtain ⟨rfl, rfl⟩ := hx
    obtain ⟨vs, h1, h2⟩ := h.bx b _ _ hb
    exact ⟨vs, by rw [e]; exact h1, b3J h2 (hv vs h1) (by simp [CVr])⟩
   ·exact h.bx i' t' cs'' hx
  ks := h.ks
  b1 := fun z x h' => by obtain ⟨y, hy⟩ := hx z x h'; exact h.b1 z y hy
  k1 := h.k1
  kn := h.kn
  bb := fun z j x y h1 h2 => by
   obtain ⟨x', h1'⟩ := hx z x h1
   obtain ⟨y', h2'⟩ := hx j y h2
   exact h.bb z j x' y' h1' h2'
  bk := fun z k2 x c h' hc => by obtain ⟨y, hy⟩ := hx z x h'; exact h.bk z k2 y c hy hc
  kk := h.kk
  lk := fun j hm => by
   simp only [St.tk, List.flatMap_cons, List.mem_append] at hm
   rcases hm with hm | hm | hm
   ·exact h.lk j (by simp only [St.tk, List.mem_append]; exact .inl hm)
   ·obtain ⟨c, hc, hj⟩ := List.mem_flatMap.1 hm
    rcases List.mem_or_eq_of_mem_set hc with hc | hc
    ·exact List.all_eq_true.1 hok j (List.mem_flatMap.2 ⟨c, hc, hj⟩)
    ·rw [hc] at hj
     simp only [CV.keys, List.mem_singleton] at hj
     rw [hj]; exact hk
   ·exact h.lk j (by simp only [St.tk, List.mem_append]; exact .inr hm)
  lb := fun b' hm => by
   have := h.lb b' hm
   simp only [a0Y]
   split
   ·rfl
   ·exact this }
theorem b3m {vs rs : List Nat} {i : Nat} : ∀ {bx : List (Nat × TypeId × List CV)}, look (a0h vs rs bx) i = (look bx i).map fun q => (q.1, q.2.map (CV.kill vs rs))
 | [] => by simp [a0h, look]
 | p :: bx => by
  obtain ⟨b, q⟩ := p
  have ih := b3m (vs := vs) (rs := rs) (i := i) (bx := bx)
  simp only [a0h] at ih
  simp only [a0h, List.map_cons, a0Y]
  split
  ·rfl
  ·exact ih
theorem a2D {tm : List (Nat × SV)} {bx : List (Nat × TypeId × List CV)} {ks : List (Nat × Option KC)} {b i t k k' : Nat} {cs : List CV} {c c' : KC} (hb : look bx b = some (t, cs)) (hi : cs[i]? = some (.key k)) (hk : lkk ⟨tm, bx, ks⟩ k = some c) (hk' : lkk ⟨tm, bx, ks⟩ k' = some c') (hne : k' ∉ [k]) (hh : c.h = false)
  (hok : ((cs.map (CV.kill [k', k] [k', k])).flatMap CV.keys).all (fun j => (lkk ⟨a0i [k', k] [k', k] tm, a0h [k', k] [k', k] bx, (k', some c) :: (k, none) :: ks⟩ j).isSome) = true) :
  Weak P C nt ⟨tm, bx, ks⟩ ⟨a0i [k', k] [k', k] tm, (b, t, (cs.map (CV.kill [k', k] [k', k])).set i (.key k')) :: a0h [k', k] [k', k] bx, (k', some c) :: (k, none) :: ks⟩ := Weak.mk fun L a w hr => by
 have ho := (hr.ks k c hk).1
 obtain ⟨vs0, h1, h2⟩ := hr.bx b t cs hb
 obtain ⟨v, h3, h4⟩ := b3t h2 hi
 simp only [CVr] at h4
 have hset := hr.setkey (k := k') (c := c') (c' := c) (js := [k]) (same := false) hk' hne (Chg.refl _ w) ho (hr.kn k c hk) (fun b hb => .inr (.inl ⟨k, by simp, hb⟩)) (by intro i hi'; simp only [List.mem_singleton] at hi'; subst hi'; exact c5r.2 ⟨c, hk⟩) (by simp) (fun h => by rw [hh] at h; cases h)
 refine ⟨_, hset.alsoK (b := b) (t := t) (i := i) (k := k') (cs := cs.map (CV.kill [k', k] [k', k])) (by show look (a0h [k', k] [k', k] bx) b = _; rw [b3m, hb]; rfl) (fun vs hvs => ?_) (by rw [a6f]; rfl) hok⟩
 have e : vs = vs0 := by
  have : some (Obj.cells vs.toArray t (0, 0)) = some (Obj.cells vs0.toArray t (0, 0)) := hvs.symm.trans h1
  simpa using this
 subst e
 simp only [if_true]
 rw [h3, h4]
theorem b8K {Q : Exit → St → Prop} {all : Array Oper} {rest : List Oper} {tm : List (Nat × SV)} {bx : List (Nat × TypeId × List CV)} {ks : List (Nat × Option KC)} {t e sz by_ d d1 k j s lo hi n : Nat} {zc : List CV} {c c2 : KC} {cs c2s : List DV} {b8 t8 i8 : Nat} {cs8 : List CV} (hT : TTOk P T)
  (hg1 : o1.guard = none) (hd1 : o1.dst = some d1) (hn1 : Nat.blt d1 nt = true) (hs : SlOk P C nt ⟨tm, bx, ks⟩ o1 j sz lo hi)
  (hg2 : o2.guard = none) (hd : o2.dst = some d) (ho : o2.op = .call { callee := .builtin .append, args := #[x, .tmp d1], argTypes := #[t, t] }) (hnt : Nat.blt d nt = true) (ht : look T.sl t = some e) (he : look T.el e = some (sz, by_, zc)) (hl0 : zc.length = sz)
  (hx : Ev P C nt ⟨(d1, .any) :: tm, bx, ks⟩ x (.one (.key k))) (hk : lkk ⟨tm, bx, ks⟩ k = some c) (hce : c.e = e) (hcs : c.sz = sz) (hj : lkk ⟨tm, bx, ks⟩ j = some c2) (hcs2 : c2.sz = sz) (he2 : Nat.blt c2.e 1000000 = true) (hkj : k ∉ [j]) (hh : c2.h = false)
  (hsl : look tm s = some (.one (.key j))) (hsd : Nat.beq s d1 = false ∧ Nat.beq s d = false) (hlh : lo ≤ hi) (hhi : hi ≤ c2.n) (hb : (c.n + (hi - lo)) * by_ ≤ 140737488355328) (h63 : c.n + (hi - lo) ≤ 9223372036854775807) (hn : c.n + (hi - lo) = n) (hcc : c.cs ++ sub (lo * sz) ((hi - lo) * sz) c2.cs = cs) (hcc2 : a5t c2.cs (lo * sz) ((hi - lo) * sz) = c2s)
  (hb8 : look bx b8 = some (t8, cs8)) (hi8 : cs8[i8]? = some (.key j)) (hok8 : ((cs8.map (CV.kill [k, j] [k, j])).flatMap CV.keys).all (fun i => (lkk ⟨(s, .one (.key j)) :: (d, .one (.key k)) :: a0i [k, j] [k, j] ((d1, .any) :: tm), a0h [k, j] [k, j] bx, (j, some ⟨false, c2.e, sz, c2.n, c2s⟩) :: (k, some ⟨false, e, sz, n, cs⟩) :: (j, none) :: ks⟩ i).isSome) = true)
  (h : Ops P C nt Q all rest ⟨(s, .one (.key j)) :: (d, .one (.key k)) :: a0i [k, j] [k, j] ((d1, .any) :: tm), (b8, t8, (cs8.map (CV.kill [k, j] [k, j])).set i8 (.key j)) :: a0h [k, j] [k, j] bx, (j, some ⟨false, c2.e, sz, c2.n, c2s⟩) :: (k, some ⟨false, e, sz, n, cs⟩) :: (j, none) :: ks⟩) : Ops P C nt Q all (o1 :: o2 :: rest) ⟨tm, bx, ks⟩ := Ops.mk fun L a w hr => by
 subst hn; subst hcc; subst hcc2
 have hkj' : k ≠ j := by simpa using hkj
 refine wpList_plain hg1 fun K1 hK1 => ?_
 -- what stands in memory
 have ho1 := (hr.ks k c hk).1
 have ho2 := (hr.ks j c2 hj).1
 simp only [Own] at ho1 ho2
 obtain ⟨vs, f1, q1, q2, q3, q4, q5⟩ := ho1
 obtain ⟨us, f2, r1, r2, r3, r4, r5⟩ := ho2
 subst hce; subst hcs
 obtain ⟨inf, z, g1, g2, g3, g4, g5⟩ := hT.el c.e c.sz by_ zc he
 have hE : c.e < 1000000 := hT.lt _ _ he
 have hrow := q4.1 hE
 have hE2 : c2.e < 1000000 := by simpa [Nat.blt_eq] using he2
 have hrow2 := r4.1 hE2
 rw [hcs2] at hrow2 r3
 have hul : us.length = c2.n * c.sz := hrow2.1
 have one : ∀ {ds : List DV} {vs : List Value} {f : List Nat}, a0N w ds vs f → ∀ u ∈ vs, u.oneCell' = true := fun h => a8i (ok := fun _ => True) _ _ (a7x _ _ _ h (fun _ _ => trivial))
 obtain ⟨A, m, cap, hA⟩ : ∃ A m cap, L.rv j = .slice A m cap := by
  rcases hrow2.2 with ⟨g, _⟩ | ⟨g, cap, cur, g, _⟩
  ·exact ⟨_, _, _, g⟩
  ·exact ⟨_, _, _, g⟩
 have hrun := hs.run L a w hr A m cap hA w
 have hm1 : (hi - lo) * c.sz + lo * c.sz = hi * c.sz := by rw [← Nat.add_mul]; congr 1; omega
 have hm2 : hi * c.sz ≤ c2.n * c.sz := Nat.mul_le_mul_right _ hhi
 have hm3 : hi * c.sz + (c2.n - hi) * c.sz = c2.n * c.sz := by rw [← Nat.add_mul]; congr 1; omega
 obtain ⟨A1, c1, e1, hrd⟩ : ∃ A1 c1, sliced A lo hi cap c.sz = .slice A1 (hi - lo) c1 ∧ a3w w A1 (hi - lo) c.sz (sub (lo * c.sz) ((hi - lo) * c.sz) us) := by
  refine ⟨_, _, rfl, by rw [a4B _ _ _ (by omega)], fun hpos => ?_⟩
  rcases hrow2.2 with ⟨g1, g2⟩ | ⟨g, cap', cur, g1, _, g3, g4, g5, g6, g7⟩
  ·omega
  ·rw [hA] at g1
   simp only [Value.slice.injEq] at g1
   obtain ⟨rfl, rfl, rfl⟩ := g1
   have hne : ¬ cap = lo := by omega
   refine ⟨g, lo * c.sz, by rw [if_neg hne]; simp only [Option.map_some, a5M, Nat.zero_add], fun i v hi' => ?_⟩
   have hlt : i < (hi - lo) * c.sz := by
    have := (List.getElem?_eq_some_iff.1 hi').1
    rw [a4B _ _ _ (by omega)] at this
    exact this
   rw [a9w _ _ _ _ hlt] at hi'
   rw [cell_of_row _ g _ cur c2.e (0, 0) g3]
   rw [← g7, List.getElem?_take, if_pos (by omega), Array.getElem?_toList] at hi'
   exact hi'
 refine a5u hrun (hK1 _ _ ?_)
 have hr1 : Rel P C nt L ⟨(d1, .any) :: tm, bx, ks⟩ (a.put o1.dst (sliced A lo hi cap c.sz)) w := by
  rw [hd1]
  exact hr.put (v := .any) (by simpa [Nat.blt_eq] using hn1) (by simp only [SVr]) (by simp [SV.keys]) (by simp [SV.boxes])
 have ex := hx.run L _ w hr1
 simp only [SVr, CVr] at ex
 have ey : (a.put o1.dst (sliced A lo hi cap c.sz)).eval (.tmp d1) = .slice A1 (hi - lo) c1 := by
  rw [hd1, ← e1]
  have hsz := hr.sz
  have hlt : d1 < nt := by simpa [Nat.blt_eq] using hn1
  simp [Act.eval, Act.put, hsz, hlt]
 refine wpList_plain hg2 fun K hK => ?_
 have hzs : z.cells.size = c.sz := by
  have := a6H g5
  simp only [Array.length_toList] at this
  rw [this, hl0]
 refine b1a w x (.tmp d1) t ho c.e z c.sz by_ (hT.sl t c.e ht) (by rw [g1]; simp [g2, g3, g4]) hzs q2 (L.rv k) c.n vs ex hrow A1 (hi - lo) c1 _ ey hrd (fun u hu => one r5 u (List.mem_of_mem_drop (List.mem_of_mem_take hu))) (by simpa [maxLen] using h63) hb ?_
 intro A' c' w' h9 hchg hblk
 refine hK _ _ ?_
 -- the parts
 obtain ⟨fa, fr, rfl, ta, tr⟩ := a7G (lo * c.sz) r5
 obtain ⟨fb, fc, rfl, tb, tc⟩ := a7G ((hi - lo) * c.sz) tr
 have hkn := hr.kn k c hk
 have hjn := hr.kn j c2 hj
 have hkk := hr.kk k j c c2 hk hj hkj'
 rw [q1] at hkn; rw [r1] at hjn
 obtain ⟨n1, n2, n3⟩ := List.nodup_append.1 hkn
 obtain ⟨p1, p2, p3⟩ := List.nodup_append.1 hjn
 obtain ⟨pa, pbc, p4⟩ := List.nodup_append.1 p2
 obtain ⟨pb, pc, p5⟩ := List.nodup_append.1 pbc
 have hltk : ∀ b ∈ L.fp k, b < w.heap.size := fun b hb' => hr.k_lt hk b hb'
 have hltj : ∀ b ∈ L.fp j, b < w.heap.size := fun b hb' => hr.k_lt hj b hb'
 have inj : ∀ b, b ∈ fa ++ (fb ++ fc) → b ∈ L.fp j := fun b hb' => by rw [r1]; simp only [List.mem_append] at hb' ⊢; exact .inr hb'
 have ink : ∀ b, b ∈ f1 → b ∈ L.fp k := fun b hb' => by rw [q1]; simp [hb']
 have keepk : ∀ b ∈ f1, w'.heap[b]? = w.heap[b]? := fun b hb' => hchg.block b (hltk b (ink b hb')) (fun hm => n3 b hm b hb' rfl)
 have keepj : ∀ b ∈ L.fp j, w'.heap[b]? = w.heap[b]? := fun b hb' => hchg.block b (hltj b hb') (fun hm => hkk b (by rw [q1]; simp [hm]) hb')
 have k1 := a3g _ _ _ q5 keepk
 have k2 := a3g _ _ _ tb (fun b hb' => keepj b (inj b (by simp [hb'])))
 have hbl : ∀ b, b ∈ (Value.slice A' (c.n + (hi - lo)) c').ownBlock.toList → b ∈ (L.rv k).ownBlock.toList ∨ b = w.heap.size := fun b hb' => by
  rcases hblk with g | g
  ·rw [← g] at hb'; exact .inl hb'
  ·rw [g] at hb'; simp only [Option.toList_some, List.mem_singleton] at hb'; exact .inr hb'
 have hown' : Own w' (.sl c.e c.sz (c.n + (hi - lo)) (c.cs ++ sub (lo * c.sz) ((hi - lo) * c.sz) c2.cs)) (.slice A' (c.n + (hi - lo)) c') ((Value.slice A' (c.n + (hi - lo)) c').ownBlock.toList ++ (f1 ++ fb)) := by
  unfold Own
  refine ⟨_, f1 ++ fb, rfl, q2, ?_, a3H hE h9, a3h _ _ _ _ _ _ k1 k2⟩
  rw [c5s, q3, a4B _ _ _ (by rw [r3]; omega), Nat.add_mul]
 have hset := hr1.setkey (k := k) (c := c) (c' := ⟨false, c.e, c.sz, c.n + (hi - lo), c.cs ++ sub (lo * c.sz) ((hi - lo) * c.sz) c2.cs⟩) (js := [j]) (same := false) hk hkj (hchg.mono (fun b hb' => by rw [q1]; simp [hb'])) hown'
  (by
   refine List.nodup_append.2 ⟨?_, List.nodup_append.2 ⟨n2, pb, fun x hx' y hy' e' => hkk x (ink x hx') (inj x (by rw [e']; simp [hy']))⟩, fun x hx' y hy' e' => ?_⟩
   ·cases (Value.slice A' (c.n + (hi - lo)) c').ownBlock <;> simp
   ·subst e'
    rcases hbl x hx' with g | g
    ·rcases List.mem_append.1 hy' with hy' | hy'
     ·exact n3 x g x hy' rfl
     ·exact hkk x (by rw [q1]; simp [g]) (inj x (by simp [hy']))
    ·rcases List.mem_append.1 hy' with hy' | hy'
     ·have := hltk x (ink x hy'); omega
     ·have := hltj x (inj x (by simp [hy'])); omega)
  (fun b hb' => by
   rcases List.mem_append.1 hb' with hb' | hb'
   ·rcases hbl b hb' with g | g
    ·exact .inl (by rw [q1]; simp [g])
    ·exact .inr (.inr (by omega))
   ·rcases List.mem_append.1 hb' with hb' | hb'
    ·exact .inl (ink b hb')
    ·exact .inr (.inl ⟨j, by simp, inj b (by simp [hb'])⟩)) (by intro i hi'; simp only [List.mem_singleton] at hi'; subst hi'; exact c5r.2 ⟨c2, hj⟩) (by simp) (by simp)
 -- key j again, with holes
 have hone2 : ∀ u ∈ us, u.oneCell' = true := one r5
 have hrow3 : w'.ownsRow 0 c2.e c.sz (L.rv j) c2.n us := by
  refine ⟨hrow2.1, ?_⟩
  rcases hrow2.2 with g | ⟨g, cap', cur, g1, g2, g3, g4⟩
  ·exact .inl g
  ·refine .inr ⟨g, cap', cur, g1, g2, ?_, g4⟩
   rw [keepj g (by rw [r1, g1]; simp [Value.ownBlock])]; exact g3
 have hown2 : Own w' (.sl c2.e c.sz c2.n (a5t c2.cs (lo * c.sz) ((hi - lo) * c.sz))) (L.rv j) ((L.rv j).ownBlock.toList ++ (fa ++ ([] ++ fc))) := by
  unfold Own
  have ta' := a3g _ _ _ ta (fun b hb' => keepj b (inj b (by simp [hb'])))
  have tc' := a3g _ _ _ tc (fun b hb' => keepj b (inj b (by simp [hb'])))
  have th : a0N w' (List.replicate ((hi - lo) * c.sz) .hole) ((us.drop (lo * c.sz)).take ((hi - lo) * c.sz)) [] := by
   have := a9z (w := w') ((us.drop (lo * c.sz)).take ((hi - lo) * c.sz)) (fun v hv => hone2 v (List.mem_of_mem_drop (List.mem_of_mem_take hv)))
   have e' : ((us.drop (lo * c.sz)).take ((hi - lo) * c.sz)).length = (hi - lo) * c.sz := by rw [c5t, List.length_drop]; omega
   rwa [e'] at this
  have hall := a3h _ _ _ _ _ _ ta' (a3h _ _ _ _ _ _ th tc')
  rw [List.take_append_drop, List.take_append_drop] at hall
  refine ⟨us, _, rfl, q2, ?_, a3H hE2 hrow3, hall⟩
  simp only [a5t, c5s, c5t, List.length_replicate, List.length_drop, r3]
  omega
 have hlk : ∀ i, lkk (St.mut ⟨(d1, .any) :: tm, bx, ks⟩ k [j] false ⟨false, c.e, c.sz, c.n + (hi - lo), c.cs ++ sub (lo * c.sz) ((hi - lo) * c.sz) c2.cs⟩) i = if i = k then some ⟨false, c.e, c.sz, c.n + (hi - lo), c.cs ++ sub (lo * c.sz) ((hi - lo) * c.sz) c2.cs⟩ else if i = j then none else lkk ⟨tm, bx, ks⟩ i := fun i => by
  simp only [lkk, St.mut, List.map_cons, List.map_nil, List.cons_append, List.nil_append, a0Y]
  split
  ·rfl
  ·split <;> rfl
 have inj2 : ∀ b, b ∈ (L.rv j).ownBlock.toList ++ (fa ++ ([] ++ fc)) → b ∈ L.fp j := fun b hb' => by
  rw [r1]; simp only [List.mem_append, List.nil_append] at hb' ⊢
  rcases hb' with g | g | g
  ·exact .inl g
  ·exact .inr (.inl g)
  ·exact .inr (.inr (.inr g))
 have hnew := hset.newkey (k := j) (c := ⟨false, c2.e, c.sz, c2.n, a5t c2.cs (lo * c.sz) ((hi - lo) * c.sz)⟩) (v := L.rv j) (f := (L.rv j).ownBlock.toList ++ (fa ++ ([] ++ fc))) (by rw [hlk, if_neg (fun e => hkj' e.symm), if_pos rfl]) hown2 rfl
  (by
   rw [List.nil_append]
   refine List.nodup_append.2 ⟨p1, List.nodup_append.2 ⟨pa, pc, fun x hx' y hy' => p4 x hx' y (by simp [hy'])⟩, fun x hx' y hy' => p3 x hx' y (by
    simp only [List.mem_append] at hy' ⊢
    rcases hy' with g | g
    ·exact .inl g
    ·exact .inr (.inr g))⟩)
  (fun b hb' => hr.k1 j c2 hj b (inj2 b hb'))
  (fun b hb' i x hx' e' => by
   obtain ⟨y, hy⟩ := b2r hx'
   exact hr.bk i j y c2 hy hj (by rw [show L.bb i = b from e']; exact inj2 b hb'))
  (fun b hb' i q hq hm => by
   rw [hlk] at hq
   by_cases hik : i = k
   ·subst hik
    simp only [if_true] at hm
    rcases List.mem_append.1 hm with hm | hm
    ·rcases hbl b hm with g | g
     ·exact hkk b (by rw [q1]; simp [g]) (inj2 b hb')
     ·have := hltj b (inj2 b hb'); omega
    ·rcases List.mem_append.1 hm with hm | hm
     ·exact hkk b (ink b hm) (inj2 b hb')
     ·rw [List.nil_append] at hb'
      rcases List.mem_append.1 hb' with g | g
      ·exact p3 b g b (by simp [hm]) rfl
      ·rcases List.mem_append.1 g with g | g
       ·exact p4 b g b (by simp [hm]) rfl
       ·exact p5 b hm b g rfl
   ·rw [if_neg hik] at hq
    by_cases hij : i = j
    ·rw [if_pos hij] at hq; cases hq
    ·rw [if_neg hij] at hq
     simp only [if_neg hik] at hm
     exact hr.kk i j q c2 hq hj hij b hm (inj2 b hb'))
 have hd' : d < nt := by simpa [Nat.blt_eq] using hnt
 have hput := hnew.put (d := d) (v := .one (.key k)) (r := .slice A' (c.n + (hi - lo)) c') hd' (by simp only [SVr, CVr]; rw [if_neg hkj']; simp) (by
  simp only [SV.keys, CV.keys, List.mem_singleton, forall_eq]
  simp [lkk, a0Y, hkj', St.mut]) (by simp [SV.boxes])
 have hsv := hr.tm s _ hsl
 simp only [SVr, CVr] at hsv
 have n1' : s ≠ d1 := Nat.ne_of_beq_eq_false hsd.1
 have n2' : s ≠ d := Nat.ne_of_beq_eq_false hsd.2
 have hval : ((a.put o1.dst (sliced A lo hi cap c.sz)).put (some d) (.slice A' (c.n + (hi - lo)) c')).tmps.getD s undef = L.rv j := by
  rw [← hsv, hd1]
  simp only [Act.put]
  rw [b0N n2', b0N n1']
 have hal := hput.also (d := s) (v := .one (.key j)) (by simp only [SVr, CVr, if_true]; exact hval) (by simp [SV.keys, CV.keys, lkk, a0Y, St.put]) (by simp [SV.boxes])
 rw [hd]
 obtain ⟨vs0, z1, z2⟩ := hr.bx b8 t8 cs8 hb8
 obtain ⟨v8, z3, z4⟩ := b3t z2 hi8
 simp only [CVr] at z4
 have hbk := hr.bk b8 k _ c hb8 hk
 refine h.run _ _ _ (hal.alsoK (b := b8) (t := t8) (i := i8) (k := j) (cs := cs8.map (CV.kill [k, j] [k, j])) (by show look (a0h [k, j] [k, j] bx) b8 = _; rw [b3m, hb8]; rfl) (fun vs2 hvs2 => ?_) (by simp [lkk, a0Y, St.put]) hok8)
 have hkeep : w'.heap[L.bb b8]? = w.heap[L.bb b8]? := hchg.block _ (hr.bx_lt hb8) (fun hm => hbk (by rw [q1]; simp [hm]))
 have e8 : vs2 = vs0 := by
  have : some (Obj.cells vs2.toArray t8 (0, 0)) = some (Obj.cells vs0.toArray t8 (0, 0)) := hvs2.symm.trans (hkeep.trans z1)
  simpa using this
 subst e8
 simp only [if_true]
 rw [z3, z4]
end
def SWX (b : Nat) (wb w : World) : Prop := wb.heap.size ≤ w.heap.size ∧ ∀ k, k < wb.heap.size → k ≠ b → w.heap[k]? = wb.heap[k]?
theorem SWX.refl (b : Nat) (w : World) : SWX b w w := ⟨Nat.le_refl _, fun _ _ _ => rfl⟩
theorem SWX.chg {b : Nat} {wb w w' : World} (h : SWX b wb w) (hc : Chg [b] w w') : SWX b wb w' := ⟨Nat.le_trans h.1 hc.size, fun k hk hn => (hc.block k (Nat.lt_of_lt_of_le hk h.1) (by simpa using hn)).trans (h.2 k hk hn)⟩
def c2e (o : Oper) : Bool := match o.op with | .store _ _ _ => true | _ => false
def hdW (ops : Array Oper) (i : Nat) : Bool := (ops.toList.take i).all b0F && (match ops[i]? with | some o => b0F o || c2e o | none => true)
structure OpsW (P : Program) (C : Ctx) (nt : Nat) (Q : Exit → St → Prop) (all : Array Oper) (oB oK : List Nat) (b : Nat) (listed : Array Bool) (fuel : Nat) (σ : St) : Prop where
 run : ∀ wb L a w, Rel P C nt L σ a w → SWX (L.bb b) wb w → C.w0.heap.size ≤ wb.heap.size → (∀ i ∈ oB, L.bb i < wb.heap.size) → (∀ k ∈ oK, ∀ b ∈ L.fp k, b < wb.heap.size) → a2q P .any all (QQ P C nt Q) (SWX (L.bb b) wb) (hdW all) fuel listed a w
section
variable {P : Program} {C : Ctx} {nt : Nat} {Q : Exit → St → Prop} {all : Array Oper} {oB oK : List Nat} {listed : Array Bool} {fuel b : Nat} {tm : List (Nat × SV)} {bx : List (Nat × TypeId × List CV)} {ks : List (Nat × Option KC)} {o : Oper} {d : Nat} {v X : SV} {Ks Bs : List Nat} {g : Bool} {x y : Operand} {T : TT}
theorem a3p (b : Nat) {id : Nat} {l : List Oper} (hm : P.follows .mixedOrders = true) (hb : (oB.all fun i => (look bx i).isSome) = true) (hk : (oK.all fun k => (lkk ⟨tm, bx, ks⟩ k).isSome) = true)
  (h : OpsW P C nt Q l.toArray oB oK b (Array.replicate l.length false) l.length ⟨tm, bx, ks⟩) : Ok P C nt Q (.region id l.toArray true) ⟨tm, bx, ks⟩ := Ok.mk fun L a w hr => by
 have hr' := a9u hr
 refine a9K (SWX (L.bb b) w.drew) (hdW l.toArray) hm ?_
 have := h.run w.drew L a w.drew hr' (SWX.refl _ _) hr'.chg.size (fun i hi => ?_) (fun k hk' b hb' => ?_)
 ·simpa using this
 ·obtain ⟨x, hx⟩ := c5r.1 (List.all_eq_true.1 hb i hi)
  exact hr'.bx_lt hx
 ·obtain ⟨c, hc⟩ := c5r.1 (List.all_eq_true.1 hk k hk')
  exact hr'.k_lt hc b hb'
theorem a1i (i : Nat) (hi : all[i]? = some o) (ht : a4T .any all (hdW all) listed i = true) (hg : o.guard = none) (hd : o.dst = some d) (hp : Pu P C nt o ⟨tm, bx, ks⟩ v Ks Bs) (h1 : (Ks.all fun k => oK.contains k && (lkk ⟨tm, bx, ks⟩ k).isSome) = true) (h2 : (Bs.all fun k => oB.contains k && (!(Nat.beq k b) && (look bx k).isSome)) = true) (h3 : (look bx b).isSome = true) (hn : Nat.blt d nt = true) (hk : a1p ⟨tm, bx, ks⟩ v = true)
  (h : OpsW P C nt Q all oB oK b (listed.setIfInBounds i true) fuel ⟨(d, v) :: tm, bx, ks⟩) : OpsW P C nt Q all oB oK b listed (fuel + 1) ⟨tm, bx, ks⟩ := ⟨fun wb L a w hr hs hw hB hK => by
 obtain ⟨r, q3, q4⟩ := hp.run L a w hr
 obtain ⟨xb, hxb⟩ := c5r.1 h3
 have hy : ∀ w', SWX (L.bb b) wb w' → (execOp a.eval o).run P w' = .ok (.value r) w' := fun w' hs' => q4 w' fun z _ hu => by
  have hz : z < wb.heap.size ∧ z ≠ L.bb b := by
   rcases hu with (⟨h5, h6⟩ | ⟨k, hk, hb⟩) | ⟨i, hi, rfl⟩
   ·refine ⟨by omega, fun e => ?_⟩
    rcases hr.b1 b xb hxb with g | g
    ·omega
    ·exact h6 (by rw [e]; exact g)
   ·have := List.all_eq_true.1 h1 k hk
    simp only [Bool.and_eq_true, List.contains_iff_mem] at this
    obtain ⟨c, hc⟩ := c5r.1 this.2
    exact ⟨hK k this.1 z hb, fun e => hr.bk b k xb c hxb hc (by rw [← e]; exact hb)⟩
   ·have := List.all_eq_true.1 h2 i hi
    simp only [Bool.and_eq_true, List.contains_iff_mem, Bool.not_eq_true'] at this
    obtain ⟨c, hc⟩ := c5r.1 this.2.2
    exact ⟨hB i this.1, hr.bb i b c xb hc hxb (Nat.ne_of_beq_eq_false this.2.1)⟩
  rw [hs'.2 z hz.1 hz.2, hs.2 z hz.1 hz.2]
 refine a6w i (v := r) hi ht (fun _ _ _ h => h) hs (.inl ⟨by simp [Region.wanted, hg], hy⟩) ?_
 rw [hd]
 exact h.run wb L _ w (hr.put (by simpa [Nat.blt_eq] using hn) q3 (a2f hk).1 (a2f hk).2) hs hw hB hK⟩
theorem a3t (i : Nat) {t j t' sz by_ : Nat} {zc cs : List CV} {p : Bool × List CV} (hi : all[i]? = some o) (ht : (Region.ready .any all listed == [i]) = true) (hg : o.guard = none) (hT : TTOk P T) (ho : o.op = .store t x y) (hd : o.dst = none) (hte : look T.el t = some (sz, by_, zc)) (hx : Ev P C nt ⟨tm, bx, ks⟩ x (.box b j)) (hy : Ev P C nt ⟨tm, bx, ks⟩ y v) (hp : v.part = some p) (hk : a1p ⟨tm, bx, ks⟩ v = true)
  (hb : look bx b = some (t', cs)) (hl : p.2.length = sz) (hle : Nat.ble (j + sz) cs.length = true) (hkc : (cs.flatMap CV.keys).all (fun k => (lkk ⟨tm, bx, ks⟩ k).isSome) = true)
  (h : OpsW P C nt Q all oB oK b (listed.setIfInBounds i true) fuel ⟨tm, (b, t', a1c j p.2 cs) :: bx, ks⟩) : OpsW P C nt Q all oB oK b listed (fuel + 1) ⟨tm, bx, ks⟩ := ⟨fun wb L a w hr hs hw hB hK => by
 refine a8D i hi hg ht fun K hK' => ?_
 obtain ⟨us, h1, h2, h3⟩ := a4R hr hp hk (hy.run L a w hr)
 have h4 := hx.run L a w hr
 simp only [SVr] at h4
 obtain ⟨vs, h5, h6⟩ := hr.bx b t' cs hb
 obtain ⟨inf, z, g1, g2, _⟩ := hT.el t sz by_ zc hte
 have hrun := a7n (z := z) g1 g2 h1 (by rw [a3f h2]; exact hl) h3 h5 (off := j) (by rw [a3f h6]; simpa [Nat.ble_eq] using hle)
 unfold Oper.wp execOp
 simp only [ho, h4, Sem.run_bind, hrun, Result.andThen_ok, Sem.run_pure, Oper.upon, hd, Act.put]
 have hs' := hs.chg (a7A w (L.bb b) (a1c j us vs).toArray)
 refine hK' _ _ (fun _ => hs') (h.run wb L _ _ (hr.setbox hb (a7A _ _ _) (setRow_heap _ _ _ _ _ _ h5) (b1i j h6 h2) ?_) hs' hw hB hK)
 intro k hm
 simp only [a1c, List.flatMap_append, List.mem_append, or_assoc] at hm
 simp only [List.all_eq_true] at hkc
 rcases hm with hm | hm | hm
 ·exact hkc k (by
   obtain ⟨c, hc, hk'⟩ := List.mem_flatMap.1 hm
   exact List.mem_flatMap.2 ⟨c, List.mem_of_mem_take hc, hk'⟩)
 ·rw [a5O hp] at hm; exact (a2f hk).1 k hm
 ·exact hkc k (by
   obtain ⟨c, hc, hk'⟩ := List.mem_flatMap.1 hm
   exact List.mem_flatMap.2 ⟨c, List.mem_of_mem_drop hc, hk'⟩)⟩
theorem a3s (is : List Nat) (hm : (is.all fun i => (all[i]?).isSome) = true) (hf : Nat.ble is.length fuel = true) (hc : a7K .any all (hdW all) is listed = true) (h : Ops P C nt Q all (is.filterMap fun i => all[i]?) ⟨tm, bx, ks⟩) : OpsW P C nt Q all oB oK b listed fuel ⟨tm, bx, ks⟩ := ⟨fun wb L a w hr _ _ _ _ =>
 a9h is _ listed fuel a w (a9C hm) (by simpa [Nat.ble_eq] using hf) hc (h.run L a w hr)⟩
theorem a5S {k : Nat} {c c' : KC} (hk : lkk ⟨tm, bx, ks⟩ k = some c) (e : c = c') (ho : (⟨tm, bx, ks⟩ : St).okB = true) : Weak P C nt ⟨tm, bx, ks⟩ ⟨tm, bx, (k, some c') :: ks⟩ := Weak.mk fun L a w hr => by
 subst e
 have hl : ∀ i q, lkk ⟨tm, bx, (k, some c) :: ks⟩ i = some q → lkk ⟨tm, bx, ks⟩ i = some q := fun i q h => by
  simp only [lkk, a0Y] at h
  split at h
  ·rename_i e; simp only [Option.join_some, Option.some.injEq] at h; rw [e, ← h]; exact hk
  ·exact h
 refine ⟨L, hr.sub' (fun _ _ h => h) (fun _ _ h => h) hl ?_⟩
 simp only [St.okB, Bool.and_eq_true, List.all_eq_true] at ho ⊢
 refine ⟨fun i hi => ?_, ho.2⟩
 have := ho.1 i hi
 simp only [lkk, a0Y]
 split
 ·rfl
 ·exact this
theorem a8F {σ : St} {k : Nat} {c : KC} {dd : DV} (h : Pu P C nt o σ (.one (.key k)) Ks Bs) (hk : lkk σ k = some c) (hd : DV.sl c.e c.sz c.n c.cs = dd) : Pu P C nt o σ (.one (.dv [k] dd)) Ks Bs := Pu.mk fun L a w hr => by
 subst hd
 obtain ⟨r, h1, h2⟩ := h.run L a w hr
 simp only [SVr, CVr] at h1
 refine ⟨r, ?_, h2⟩
 simp only [SVr, CVr]
 rw [h1]
 exact a4O _ _ _ (hr.ks k c hk).1 (fun b hb => .inr ⟨k, by simp, hb⟩)
theorem a6m {oB oK : List Nat} {hd' : Nat → Bool} {tm : List (Nat × SV)} {bx : List (Nat × TypeId × List CV)} {ks : List (Nat × Option KC)} (i : Nat) (hT : TTOk P T) {t e sz by_ d k : Nat} {zc : List CV} {v : SV} {p : Bool × List CV} {ds : List DV} {js : List Nat} (hi : all[i]? = some o) (ht' : (Region.ready .any all listed == [i]) = true) (hg : o.guard = none) (ho : o.op = .buildSlice t 1 #[(0, x)]) (hd : o.dst = some d) (hn : Nat.blt d nt = true) (ht : look T.sl t = some e) (he : look T.el e = some (sz, by_, zc)) (hl0 : zc.length = sz) (hsz : Nat.blt 0 sz = true) (hsm : Nat.ble sz 16777216 = true)
  (hx : Ev P C nt ⟨tm, bx, ks⟩ x v) (hp : v.part = some p) (hkv : a1p ⟨tm, bx, ks⟩ v = true) (how : a4p ⟨tm, bx, ks⟩ p.2 ds js) (hnj : js.Nodup) (hkj : k ∉ js) (hl : p.2.length = sz) (hk : lkk ⟨tm, bx, ks⟩ k = none) (hnk : k ∉ oK)
  (h : OpsD P C nt Q all oB oK hd' (listed.setIfInBounds i true) fuel ⟨(d, .one (.key k)) :: a0i (k :: js) (k :: js) tm, a0h (k :: js) (k :: js) bx, (k, some ⟨false, e, sz, 1, ds⟩) :: ((js.map fun j => (j, none)) ++ (k, some ⟨false, e, sz, 0, []⟩) :: ks)⟩) : OpsD P C nt Q all oB oK hd' listed (fuel + 1) ⟨tm, bx, ks⟩ := ⟨fun wb L a w hr hs hw hB hK => by
 refine a8D i hi hg ht' fun K hK' => ?_
 have hpos : 0 < sz := by simpa [Nat.blt_eq] using hsz
 obtain ⟨us, h1, h2, h3⟩ := a4R hr hp hkv (hx.run L a w hr)
 have hus : us.length = sz := by rw [a3f h2]; exact hl
 obtain ⟨o1, o2, o3⟩ := a7V hr how h2
 have hchg : Chg [] w (w.alloc (.cells us.toArray e)) := (Chg.refl [] w).alloc _
 have hr1 := hr.newkey (k := k) (c := ⟨false, e, sz, 0, []⟩) (v := .slice none 0 0) (f := []) hk (a7s w e sz hpos) rfl (by simp) (by simp) (by simp) (by simp)
 have hlj : ∀ j ∈ js, (lkk { (⟨tm, bx, ks⟩ : St) with ks := (k, some ⟨false, e, sz, 0, []⟩) :: ks } j).isSome = true := fun j hj => by
  have hjk : j ≠ k := fun e' => hkj (by rw [← e']; exact hj)
  have := o2 j hj
  simp only [lkk, a0Y, if_neg hjk] at this ⊢
  exact this
 have hlt : ∀ b ∈ js.flatMap L.fp, b < w.heap.size := a5p _ _ _ o1
 have o1' : a0N (w.alloc (.cells us.toArray e)) ds us (js.flatMap L.fp) := a3g _ _ _ o1 (fun b hb => hchg.block b (hlt b hb) (by simp))
 have hset := hr1.setkey (k := k) (c := ⟨false, e, sz, 0, []⟩) (c' := ⟨false, e, sz, 1, ds⟩) (js := js) (same := false) (w' := w.alloc (.cells us.toArray e)) (v' := .slice (some ⟨w.heap.size, 0, none⟩) 1 1) (f' := w.heap.size :: js.flatMap L.fp)
  (by simp [lkk, a0Y]) hkj (by simpa using hchg)
  (by
   unfold Own
   refine ⟨us, js.flatMap L.fp, rfl, hpos, by rw [o3, hl, Nat.one_mul], a3H (hT.lt e _ he) ⟨by rw [hus, Nat.one_mul], .inr ⟨w.heap.size, 1, us.toArray, rfl, Nat.zero_le _, a9r w _, Nat.le_refl _, by simp [maxLen], by simp [hus], by rw [Nat.one_mul, ← hus]; simp⟩⟩, o1'⟩)
  (by
   rw [List.nodup_cons]
   exact ⟨fun hm => absurd (hlt _ hm) (by omega), a9e hr hnj o2⟩)
  (fun b hb => by
   rcases List.mem_cons.1 hb with hb | hb
   ·exact .inr (.inr (by omega))
   ·obtain ⟨j, hj, hb'⟩ := List.mem_flatMap.1 hb
    have hjk : j ≠ k := fun e' => hkj (by rw [← e']; exact hj)
    exact .inr (.inl ⟨j, hj, by simpa [hjk] using hb'⟩)) hlj (by simp) (by simp)
 refine a5u (v := .slice (some ⟨w.heap.size, 0, none⟩) 1 1) (w' := w.alloc (.cells us.toArray e)) ?_ ?_
 ·unfold execOp
  simp only [ho, List.map_toArray, List.map_cons, List.map_nil, b7D (P := P) (w := w) hT ht he hl0 hpos (by simpa [Nat.ble_eq] using hsm) h1 hus, Sem.run_bind, Result.andThen_ok, Sem.run_pure]
 ·rw [hd]
  refine hK' _ _ (fun _ => hs.chg hchg) (h.run wb _ _ _ (hset.put (v := .one (.key k)) (r := .slice (some ⟨w.heap.size, 0, none⟩) 1 1) (by simpa [Nat.blt_eq] using hn) (by simp [SVr, CVr]) (by simp [SV.keys, CV.keys, a6f]) (by simp [SV.boxes])) (hs.chg hchg) hw hB fun z hz b hb => ?_)
  have hzk : z ≠ k := fun e' => hnk (by rw [← e']; exact hz)
  simp only [if_neg hzk] at hb
  exact hK z hz b hb⟩
end
section
variable {P : Program} {C : Ctx} {nt : Nat} {σ : St} {L : Lyt} {a : Act} {w : World} {o : Oper} {x y : Operand} {T : TT}
def a6k (P : Program) (C : Ctx) (nt : Nat) (σ : St) (sz : Nat) : Nat → List (Nat × Operand) → List CV → Prop
 | _, [], cs => cs = []
 | i, (j, x) :: ps, cs => ∃ v p cs', j = i ∧ Ev P C nt σ x v ∧ v.part = some p ∧ a1p σ v = true ∧ p.2.length = sz ∧ cs = p.2 ++ cs' ∧ a6k P C nt σ sz (i + 1) ps cs'
theorem a4Z {sz i : Nat} : a6k P C nt σ sz i [] [] := rfl
theorem a4V {sz i : Nat} {v : SV} {p : Bool × List CV} {ps : List (Nat × Operand)} {cs' : List CV} (hx : Ev P C nt σ x v) (hp : v.part = some p) (hk : a1p σ v = true) (hl : p.2.length = sz) (h : a6k P C nt σ sz (i + 1) ps cs') : a6k P C nt σ sz i ((i, x) :: ps) (p.2 ++ cs') := ⟨v, p, cs', rfl, hx, hp, hk, hl, rfl, h⟩
theorem b5K (hr : Rel P C nt L σ a w) {sz : Nat} : ∀ {ps : List (Nat × Operand)} {i : Nat} {cs : List CV} {done rest : List Value}, a6k P C nt σ sz i ps cs → done.length = i * sz → rest.length = ps.length * sz →
  ∃ us, Instr.fill (fun i => some (i * sz, sz)) (done ++ rest).toArray (ps.map fun q => (q.1, a.eval q.2)) = some (done ++ us).toArray ∧ CVL C L w cs us
 | [], i, cs, done, rest, h, hd, hl => by
  simp only [a6k] at h; subst h
  have : rest = [] := List.eq_nil_of_length_eq_zero (by simpa using hl)
  subst this
  exact ⟨[], rfl, rfl⟩
 | (j, x) :: ps, i, cs, done, rest, ⟨v, p, cs', e, h1, h2, h3, h4, h5, h6⟩, hd, hl => by
  subst e; subst h5
  obtain ⟨xs, k1, k2, k3⟩ := a4R hr h2 h3 (h1.run L a w hr)
  have hxl : xs.length = sz := by rw [a3f k2]; exact h4
  rw [List.length_cons, Nat.add_mul, Nat.one_mul] at hl
  obtain ⟨us, g1, g2⟩ := b5K hr (done := done ++ xs) (rest := rest.drop sz) h6 (by rw [c5s, hd, hxl, Nat.add_mul, Nat.one_mul]) (by rw [List.length_drop]; omega)
  refine ⟨xs ++ us, ?_, a9X k2 g2⟩
  rw [List.map_cons, b1P (off := j * sz) (sz := sz) rfl k1 hxl (by rw [c5s]; omega)]
  have e : a1c (j * sz) xs (done ++ rest) = done ++ xs ++ rest.drop sz := by
   unfold a1c
   rw [← hd, List.take_left, hxl, List.drop_append]
   simp
  rw [e, g1, List.append_assoc]
theorem b5V (hT : TTOk P T) {t e sz by_ d k n : Nat} {zc cs : List CV} {ds : List DV} {js : List Nat} {ps : List (Nat × Operand)} (ho : o.op = .buildSlice t n ps.toArray) (hd : o.dst = some d) (hn : Nat.blt d nt = true) (ht : look T.sl t = some e) (he : look T.el e = some (sz, by_, zc)) (hl0 : zc.length = sz) (hsz : Nat.blt 0 sz = true) (hsm : Nat.ble (n * sz) 16777216 = true) (hps : ps.length = n) (hn0 : Nat.blt 0 n = true)
  (hx : a6k P C nt σ sz 0 ps cs) (how : a4p σ cs ds js) (hnj : js.Nodup) (hkj : k ∉ js) (hcl : cs.length = n * sz) (hk : lkk σ k = none) :
  EfG P C nt o σ (fun σ' => σ' = (St.mut { σ with ks := (k, some ⟨false, e, sz, 0, []⟩) :: σ.ks } k js false ⟨false, e, sz, n, ds⟩).put d (.one (.key k))) := EfG.mk fun L a w hr K Q hK => by
 have hpos : 0 < sz := by simpa [Nat.blt_eq] using hsz
 have hnp : 0 < n := by simpa [Nat.blt_eq] using hn0
 have hsm' : n * sz ≤ 16777216 := by simpa [Nat.ble_eq] using hsm
 obtain ⟨inf, z, g1, g2, g3, g4, g5⟩ := hT.el e sz by_ zc he
 obtain ⟨us, f1, h2⟩ := b5K hr (sz := sz) (done := []) (rest := ((List.range (n * sz)).map fun j => z.cells[j % z.cells.size]!)) hx (by simp) (by simp [hps])
 have hus : us.length = n * sz := by rw [a3f h2]; exact hcl
 obtain ⟨o1, o2, o3⟩ := a7V hr how h2
 have hchg : Chg [] w (w.alloc (.cells us.toArray e)) := (Chg.refl [] w).alloc _
 have hr1 := hr.newkey (k := k) (c := ⟨false, e, sz, 0, []⟩) (v := .slice none 0 0) (f := []) hk (a7s w e sz hpos) rfl (by simp) (by simp) (by simp) (by simp)
 have hlj : ∀ j ∈ js, (lkk { σ with ks := (k, some ⟨false, e, sz, 0, []⟩) :: σ.ks } j).isSome = true := fun j hj => by
  have hjk : j ≠ k := fun e' => hkj (by rw [← e']; exact hj)
  have := o2 j hj
  simp only [lkk, a0Y, if_neg hjk] at this ⊢
  exact this
 have hlt : ∀ b ∈ js.flatMap L.fp, b < w.heap.size := a5p _ _ _ o1
 have o1' : a0N (w.alloc (.cells us.toArray e)) ds us (js.flatMap L.fp) := a3g _ _ _ o1 (fun b hb => hchg.block b (hlt b hb) (by simp))
 have hset := hr1.setkey (k := k) (c := ⟨false, e, sz, 0, []⟩) (c' := ⟨false, e, sz, n, ds⟩) (js := js) (same := false) (w' := w.alloc (.cells us.toArray e)) (v' := .slice (some ⟨w.heap.size, 0, none⟩) n n) (f' := w.heap.size :: js.flatMap L.fp)
  (by simp [lkk, a0Y]) hkj (by simpa using hchg)
  (by
   unfold Own
   have hnm : n ≤ maxLen := by
    have : n * 1 ≤ n * sz := Nat.mul_le_mul_left _ hpos
    simp only [maxLen]; omega
   refine ⟨us, js.flatMap L.fp, rfl, hpos, by rw [o3, hcl], a3H (hT.lt e _ he) ⟨hus, .inr ⟨w.heap.size, n, us.toArray, rfl, Nat.zero_le _, a9r w _, Nat.le_refl _, hnm, by simp [hus], by rw [← hus]; simp⟩⟩, o1'⟩)
  (by
   rw [List.nodup_cons]
   exact ⟨fun hm => absurd (hlt _ hm) (by omega), a9e hr hnj o2⟩)
  (fun b hb => by
   rcases List.mem_cons.1 hb with hb | hb
   ·exact .inr (.inr (by omega))
   ·obtain ⟨j, hj, hb'⟩ := List.mem_flatMap.1 hb
    have hjk : j ≠ k := fun e' => hkj (by rw [← e']; exact hj)
    exact .inr (.inl ⟨j, hj, by simpa [hjk] using hb'⟩)) hlj (by simp) (by simp)
 have hrun : (Instr.buildSlice t n (ps.map fun q => (q.1, a.eval q.2)).toArray).run P w = .ok (.slice (some ⟨w.heap.size, 0, none⟩) n n) (w.alloc (.cells us.toArray e)) := by
  refine run_buildSlice w t e n _ us.toArray inf z (hT.sl t e ht) g1 g4 (by rw [g2]; omega) (by rw [g2]; have := Nat.mul_pos hnp hpos; omega) ?_
  rw [g2]
  have e1 : ((Array.range (n * sz)).map fun j => z.cells[j % z.cells.size]!) = (((List.range (n * sz)).map fun j => z.cells[j % z.cells.size]!)).toArray := by
   apply Array.ext'
   simp
  rw [e1]
  simpa using f1
 refine a5u (v := .slice (some ⟨w.heap.size, 0, none⟩) n n) (w' := w.alloc (.cells us.toArray e)) ?_ ?_
 ·unfold execOp
  simp only [ho, List.map_toArray, hrun, Sem.run_bind, Result.andThen_ok, Sem.run_pure]
 ·rw [hd]
  refine hK _ _ _ _ rfl (hset.put (v := .one (.key k)) (r := .slice (some ⟨w.heap.size, 0, none⟩) n n) (by simpa [Nat.blt_eq] using hn) (by simp [SVr, CVr]) (by simp [SV.keys, CV.keys, a6f]) (by simp [SV.boxes])) ⟨hchg, fun i c hc => ?_, fun _ _ _ => rfl⟩
  have : i ≠ k := fun e => by rw [e, hk] at hc; cases hc
  simp [this]
end
section
variable {P : Program} {C : Ctx} {nt : Nat} {o : Oper} {x y : Operand} {T : TT} {Q : Exit → St → Prop} {all : Array Oper} {rest : List Oper} {tm : List (Nat × SV)} {bx : List (Nat × TypeId × List CV)} {ks : List (Nat × Option KC)}
end
section
variable {P : Program} {C : Ctx} {nt : Nat} {o : Oper} {x y : Operand} {T : TT} {Q : Exit → St → Prop} {all : Array Oper} {tm : List (Nat × SV)} {bx : List (Nat × TypeId × List CV)} {ks : List (Nat × Option KC)} {oB oK : List Nat} {hd' : Nat → Bool} {listed : Array Bool} {fuel : Nat}
end
section
variable {P : Program} {C : Ctx} {nt : Nat} {Q : Exit → St → Prop} {all : Array Oper} {oB oK : List Nat} {listed : Array Bool} {fuel : Nat} {hd' : Nat → Bool} {tm : List (Nat × SV)} {bx : List (Nat × TypeId × List CV)} {ks : List (Nat × Option KC)} {o : Oper} {d : Nat} {v X : SV} {Ks Bs : List Nat} {g : Bool} {σ : St} {x : Operand} {T : TT}
inductive DSame : DV → DV → Prop where
 | refl (d : DV) : DSame d d
 | sl (e e' sz n : Nat) (cs cs' : List DV) (hl : cs.length = cs'.length) (h : ∀ (i : Nat) d d', cs[i]? = some d → cs'[i]? = some d' → DSame d d') : DSame (.sl e sz n cs) (.sl e' sz n cs')
theorem c2Y {ok : Nat → Prop} {w : World} {d d' : DV} (h : DSame d d') : ∀ {v : Value}, Lay ok w d v → Lay ok w d' v := by
 induction h with
 | refl d => exact fun h => h
 | sl e e' sz n cs cs' hl h ih =>
  intro v hv
  simp only [Lay] at hv ⊢
  obtain ⟨A, c, vs, h1, h2, h3, h4, h5, h6, h7⟩ := hv
  refine ⟨A, c, vs, h1, h2, h3, h4, hl ▸ h5, ?_, h7⟩
  clear h5 h7 h1
  induction cs generalizing cs' vs with
  | nil =>
   cases cs' with
   | nil => exact h6
   | cons x xs => simp at hl
  | cons x xs ih2 =>
   cases cs' with
   | nil => simp at hl
   | cons y ys =>
    simp only [a1n] at h6 ⊢
    obtain ⟨v, vs', rfl, k1, k2⟩ := h6
    exact ⟨v, vs', rfl, ih 0 x y rfl rfl k1, ih2 ys (by simpa using hl) (fun i d d' hd hd' => h (i + 1) d d' (by simpa using hd) (by simpa using hd')) (fun i d d' hd hd' => ih (i + 1) d d' (by simpa using hd) (by simpa using hd')) vs' k2⟩
theorem c3T {d k : Nat} {c : KC} {dd : DV} (hd : look σ.tm d = some (.one (.key k))) (hk : lkk σ k = some c) (hs : DSame (.sl c.e c.sz c.n c.cs) dd) : Weak P C nt σ (σ.put d (.one (.dv [k] dd))) := Weak.mk fun L a w hr => by
 have hv := hr.tm d _ hd
 simp only [SVr, CVr] at hv
 have h1 := c2Y hs (a4O (ok := okB C L [k]) _ _ _ (hr.ks k c hk).1 (fun b hb => .inr ⟨k, by simp, hb⟩))
 exact ⟨_, hr.also (v := .one (.dv [k] dd)) (by simp only [SVr, CVr]; rw [hv]; exact h1) (by simp [SV.keys, CV.keys, hk]) (by simp [SV.boxes])⟩
theorem a7H {c c' : Code} {σ' : St} (h1 : Ok P C nt (a5i (fun τ => Weak P C nt τ σ') Q) c σ) (h2 : Ok P C nt Q c' σ') : Ok P C nt Q (.seq c c') σ :=
 a0p ⟨fun L a w hr => wp_mono (h1.run L a w hr) (b5E fun e τ hq => by
  cases e with
  | normal => exact a0r hq h2
  | _ => exact hq)⟩
end
structure OpsN (P : Program) (C : Ctx) (nt : Nat) (Q : Exit → St → Prop) (all : Array Oper) (oB oK nK : List Nat) (hd : Nat → Bool) (listed : Array Bool) (fuel : Nat) (σ : St) : Prop where
 run : ∀ wb L a w, Rel P C nt L σ a w → SW wb w → C.w0.heap.size ≤ wb.heap.size → (∀ i ∈ oB, L.bb i < wb.heap.size) → (∀ k ∈ oK, ∀ b ∈ L.fp k, b < wb.heap.size) → (∀ k ∈ nK, ∀ b ∈ L.fp k, wb.heap.size ≤ b) →
  a2q P .any all (QQ P C nt Q) (SW wb) hd fuel listed a w
structure OpsNJ (P : Program) (C : Ctx) (nt : Nat) (Q : Exit → St → Prop) (all : Array Oper) (oB oK nK : List Nat) (hd : Nat → Bool) (listed : Array Bool) (fuel : Nat) (i : Nat) (σ : St) : Prop where
 run : ∀ wb L a w, Rel P C nt L σ a w → SW wb w → C.w0.heap.size ≤ wb.heap.size → (∀ i ∈ oB, L.bb i < wb.heap.size) → (∀ k ∈ oK, ∀ b ∈ L.fp k, b < wb.heap.size) → (∀ k ∈ nK, ∀ b ∈ L.fp k, wb.heap.size ≤ b) →
  wpOp P all (QQ P C nt Q) i (fun a' w' => (hd i = true → SW wb w') ∧ a2q P .any all (QQ P C nt Q) (SW wb) hd fuel (listed.setIfInBounds i true) a' w') a w
def b1S (P : Program) (C : Ctx) (nt : Nat) (Q : Exit → St → Prop) (all : Array Oper) (oB oK nK : List Nat) (hd : Nat → Bool) (listed : Array Bool) (fuel : Nat) (σ : St) : List Nat → Prop
 | [] => True
 | i :: is => OpsNJ P C nt Q all oB oK nK hd listed fuel i σ ∧ b1S P C nt Q all oB oK nK hd listed fuel σ is
structure EfN (P : Program) (C : Ctx) (nt : Nat) (o : Oper) (σ : St) (k : Nat) (R : St → Prop) : Prop where
 run : ∀ L a w, Rel P C nt L σ a w → ∀ K Q, (∀ L' σ' a' w', R σ' → Rel P C nt L' σ' a' w' → Gr σ L L' w w' → (∀ b ∈ L'.fp k, w.heap.size ≤ b) → K a' w') → o.wp P a w K Q
section
variable {P : Program} {C : Ctx} {nt : Nat} {Q : Exit → St → Prop} {all : Array Oper} {oB oK nK : List Nat} {listed : Array Bool} {fuel : Nat} {hd' : Nat → Bool} {tm : List (Nat × SV)} {bx : List (Nat × TypeId × List CV)} {ks : List (Nat × Option KC)} {o : Oper} {d : Nat} {v X : SV} {Ks Bs : List Nat} {σ : St} {x y : Operand} {T : TT}
theorem b0W (h : OpsN P C nt Q all oB oK [] hd' listed fuel σ) : OpsD P C nt Q all oB oK hd' listed fuel σ := ⟨fun wb L a w hr hs hw hB hK => h.run wb L a w hr hs hw hB hK (by simp)⟩
theorem b4u : ∀ {is : List Nat}, b1S P C nt Q all oB oK nK hd' listed fuel σ is → ∀ i ∈ is, OpsNJ P C nt Q all oB oK nK hd' listed fuel i σ
 | [], _, _, hi => by cases hi
 | j :: is, h, i, hi => by
  rcases List.mem_cons.1 hi with rfl | hi
  ·exact h.1
  ·exact b4u h.2 i hi
theorem a1J (i : Nat) (is : List Nat) (hr : (Region.ready .any all listed == i :: is) = true) (h : b1S P C nt Q all oB oK nK hd' listed fuel σ (i :: is)) : OpsN P C nt Q all oB oK nK hd' listed (fuel + 1) σ := ⟨fun wb L a w hrel hs hw hB hK hN => by
 have hr' : Region.ready .any all listed = i :: is := by simpa using hr
 refine ⟨fun h0 => (by rw [hr'] at h0; cases h0), fun j hj => ?_⟩
 rw [hr'] at hj
 exact (b4u h j hj).run wb L a w hrel hs hw hB hK hN⟩
theorem a4y (i : Nat) (hi : all[i]? = some o) (ht : a4T .any all hd' listed i = true) (hg : o.guard = none) (hd : o.dst = some d) (hp : Pu P C nt o ⟨tm, bx, ks⟩ v Ks Bs) (h1 : (Ks.all fun k => oK.contains k) = true) (h2 : (Bs.all fun k => oB.contains k) = true) (hn : Nat.blt d nt = true) (hk : a1p ⟨tm, bx, ks⟩ v = true)
  (h : OpsN P C nt Q all oB oK nK hd' (listed.setIfInBounds i true) fuel ⟨(d, v) :: tm, bx, ks⟩) : OpsN P C nt Q all oB oK nK hd' listed (fuel + 1) ⟨tm, bx, ks⟩ := ⟨fun wb L a w hr hs hw hB hK hN => by
 obtain ⟨r, h3, h4⟩ := a9O hr hs hw hB hK hp h1 h2
 refine a6w i (v := r) hi ht (fun _ _ _ h => h) hs (.inl ⟨by simp [Region.wanted, hg], h4⟩) ?_
 rw [hd]
 exact h.run wb L _ w (hr.put (by simpa [Nat.blt_eq] using hn) h3 (a2f hk).1 (a2f hk).2) hs hw hB hK hN⟩
theorem b3p (ht : (Region.ready .any all listed).isEmpty = true) (h : Q .normal ⟨tm, bx, ks⟩) : OpsN P C nt Q all oB oK nK hd' listed fuel ⟨tm, bx, ks⟩ := ⟨fun _ L _ _ hr _ _ _ _ _ => a9k ht ⟨L, _, hr, h⟩ fuel⟩
theorem b1e (i : Nat) (hi : all[i]? = some o) (hg : o.guard = none) (h : ∀ wb L a w, Rel P C nt L σ a w → SW wb w → C.w0.heap.size ≤ wb.heap.size → (∀ i ∈ oB, L.bb i < wb.heap.size) → (∀ k ∈ oK, ∀ b ∈ L.fp k, b < wb.heap.size) → (∀ k ∈ nK, ∀ b ∈ L.fp k, wb.heap.size ≤ b) →
   o.wp P a w (fun a' w' => (hd' i = true → SW wb w') ∧ a2q P .any all (QQ P C nt Q) (SW wb) hd' fuel (listed.setIfInBounds i true) a' w') (QQ P C nt Q)) : OpsNJ P C nt Q all oB oK nK hd' listed fuel i σ := ⟨fun wb L a w hr hs hw hB hK hN => by
 unfold wpOp
 simp only [hi]
 have hw' : Region.wanted o (yielded all a.tmps) = true := by simp [Region.wanted, hg]
 rw [if_pos hw']
 exact .inl (h wb L a w hr hs hw hB hK hN)⟩
theorem b7f (i : Nat) {R : St → Prop} (hi : all[i]? = some o) (hg : o.guard = none) (hp : EfG P C nt o ⟨tm, bx, ks⟩ R) (hb : (oB.all fun i => (look bx i).isSome) = true) (hk : (oK.all fun k => (lkk ⟨tm, bx, ks⟩ k).isSome) = true) (hn : (nK.all fun k => (lkk ⟨tm, bx, ks⟩ k).isSome) = true)
  (h : ∀ σ', R σ' → OpsN P C nt Q all oB oK nK hd' (listed.setIfInBounds i true) fuel σ') : OpsNJ P C nt Q all oB oK nK hd' listed fuel i ⟨tm, bx, ks⟩ :=
 b1e i hi hg fun wb L a w hr hs hw hB hK hN => hp.run L a w hr _ _ fun L' σ' a' w' h1 h2 h3 => ⟨fun _ => hs.chg h3.chg, (h σ' h1).run wb L' a' w' h2 (hs.chg h3.chg) hw
  (fun j hj => by
   obtain ⟨x, hx⟩ := c5r.1 (List.all_eq_true.1 hb j hj)
   rw [h3.box j x hx]; exact hB j hj)
  (fun k hk' => by
   obtain ⟨c, hc⟩ := c5r.1 (List.all_eq_true.1 hk k hk')
   rw [h3.key k c hc]; exact hK k hk')
  (fun k hk' => by
   obtain ⟨c, hc⟩ := c5r.1 (List.all_eq_true.1 hn k hk')
   rw [h3.key k c hc]; exact hN k hk')⟩
theorem a7T (i : Nat) (hT : TTOk P T) {t d sz by_ : Nat} {zc : List CV} (hi : all[i]? = some o) (hg : o.guard = none) (hd : o.dst = some d) (ho : o.op = .alloc t) (ht : look T.el t = some (sz, by_, zc)) (hn : Nat.blt d nt = true) (hx : look bx d = none)
  (hb : (oB.all fun i => (look bx i).isSome) = true) (hk : (oK.all fun k => (lkk ⟨tm, bx, ks⟩ k).isSome) = true) (hn' : (nK.all fun k => (lkk ⟨tm, bx, ks⟩ k).isSome) = true)
  (h : OpsN P C nt Q all oB oK nK hd' (listed.setIfInBounds i true) fuel ⟨(d, .box d 0) :: tm, (d, t, zc) :: bx, ks⟩) : OpsNJ P C nt Q all oB oK nK hd' listed fuel i ⟨tm, bx, ks⟩ :=
 b7f i hi hg (b2l hT ho hd hn ht hx) hb hk hn' fun σ' e => by rw [e]; exact h
theorem b8V (hT : TTOk P T) {t e sz by_ d k : Nat} {zc : List CV} (ho : o.op = .buildSlice t 0 #[]) (hd : o.dst = some d) (hn : Nat.blt d nt = true) (ht : look T.sl t = some e) (he : look T.el e = some (sz, by_, zc)) (hsz : Nat.blt 0 sz = true) (hk : lkk σ k = none) :
  EfN P C nt o σ k (fun σ' => σ' = { σ with ks := (k, some ⟨false, e, sz, 0, []⟩) :: σ.ks }.put d (.one (.key k))) := EfN.mk fun L a w hr K Q hK => by
 have hpos : 0 < sz := by simpa [Nat.blt_eq] using hsz
 have hchg : Chg [] w (w.alloc (.cells #[] e)) := (Chg.refl [] w).alloc _
 refine a5u (v := .slice (some ⟨w.heap.size, 0, none⟩) 0 0) (w' := w.alloc (.cells #[] e)) ?_ ?_
 ·unfold execOp
  simp only [ho, List.map_toArray, List.map_nil, b4j (P := P) (w := w) hT ht he, Sem.run_bind, Result.andThen_ok, Sem.run_pure]
 ·have hb := hr.newkey' hchg (c := ⟨false, e, sz, 0, []⟩) (v := .slice (some ⟨w.heap.size, 0, none⟩) 0 0) (f := [w.heap.size]) hk
   (by
    unfold Own
    exact ⟨[], [], rfl, hpos, by simp, a3H (hT.lt e _ he) ⟨by simp, .inr ⟨w.heap.size, 0, #[], rfl, Nat.zero_le _, a9r w _, Nat.le_refl _, Nat.zero_le _, by simp, by simp⟩⟩, by simp [a0N]⟩) rfl (by simp) (by simp)
  refine hK { L with fp := fun j => if j = k then [w.heap.size] else L.fp j, rv := fun j => if j = k then .slice (some ⟨w.heap.size, 0, none⟩) 0 0 else L.rv j } _ _ _ rfl (by rw [hd]; exact hb.put (v := .one (.key k)) (r := .slice (some ⟨w.heap.size, 0, none⟩) 0 0) (by simpa [Nat.blt_eq] using hn) (by simp [SVr, CVr]) (by simp [SV.keys, CV.keys, lkk, a0Y]) (by simp [SV.boxes])) ⟨hchg, fun i c hc => ?_, fun _ _ _ => rfl⟩ (by simp)
  have : i ≠ k := fun e => by rw [e, hk] at hc; cases hc
  simp [this]
theorem a6v (i : Nat) (hT : TTOk P T) {t e sz by_ d k : Nat} {zc : List CV} (hi : all[i]? = some o) (hg : o.guard = none) (hd : o.dst = some d) (ho : o.op = .buildSlice t 0 #[]) (hn : Nat.blt d nt = true) (ht : look T.sl t = some e) (he : look T.el e = some (sz, by_, zc)) (hsz : Nat.blt 0 sz = true) (hk : lkk ⟨tm, bx, ks⟩ k = none)
  (hb : (oB.all fun i => (look bx i).isSome) = true) (hk' : (oK.all fun k => (lkk ⟨tm, bx, ks⟩ k).isSome) = true) (hn' : (nK.all fun k => (lkk ⟨tm, bx, ks⟩ k).isSome) = true)
  (h : OpsN P C nt Q all oB oK (k :: nK) hd' (listed.setIfInBounds i true) fuel ⟨(d, .one (.key k)) :: tm, bx, (k, some ⟨false, e, sz, 0, []⟩) :: ks⟩) : OpsNJ P C nt Q all oB oK nK hd' listed fuel i ⟨tm, bx, ks⟩ :=
 b1e i hi hg fun wb L a w hr hs hw hB hK hN => (b8V hT ho hd hn ht he hsz hk).run L a w hr _ _ fun L' σ' a' w' h1 h2 h3 h4 => ⟨fun _ => hs.chg h3.chg, h.run wb L' a' w' (by rw [h1] at h2; exact h2) (hs.chg h3.chg) hw
  (fun j hj => by
   obtain ⟨x, hx⟩ := c5r.1 (List.all_eq_true.1 hb j hj)
   rw [h3.box j x hx]; exact hB j hj)
  (fun j hj => by
   obtain ⟨c, hc⟩ := c5r.1 (List.all_eq_true.1 hk' j hj)
   rw [h3.key j c hc]; exact hK j hj)
  (fun j hj => by
   rcases List.mem_cons.1 hj with rfl | hj
   ·exact fun b hb' => Nat.le_trans hs.1 (h4 b hb')
   ·obtain ⟨c, hc⟩ := c5r.1 (List.all_eq_true.1 hn' j hj)
    rw [h3.key j c hc]; exact hN j hj)⟩
theorem a2T (i : Nat) (hT : TTOk P T) {t e sz by_ d k m : Nat} {zc : List CV} {c : KC} {J : List Nat} {e2 : Nat} {ds cs : List DV} (hi : all[i]? = some o) (hg : o.guard = none) (hd : o.dst = some d) (ho : o.op = .call { callee := .builtin .append, args := #[x, y], argTypes := #[t, t] }) (hnt : Nat.blt d nt = true) (ht : look T.sl t = some e) (he : look T.el e = some (sz, by_, zc)) (hl0 : zc.length = sz)
  (hx : Ev P C nt ⟨tm, bx, ks⟩ x (.one (.key k))) (hk : lkk ⟨tm, bx, ks⟩ k = some c) (hce : c.e = e) (hcs : c.sz = sz) (hy : Ev P C nt ⟨tm, bx, ks⟩ y (.one (.dv J (.sl e2 sz m ds)))) (hp : ds.all DV.plain = true) (hb : (c.n + m) * by_ ≤ 140737488355328) (h63 : c.n + m ≤ 9223372036854775807) {n : Nat} (hn : c.n + m = n) (hcc : c.cs ++ ds = cs)
  (hkn : nK.contains k = true) (hko : oK.contains k = false)
  (h : OpsN P C nt Q all oB oK nK hd' (listed.setIfInBounds i true) fuel ⟨(d, .one (.key k)) :: a0i [k] [k] tm, a0h [k] [k] bx, (k, some ⟨false, e, sz, n, cs⟩) :: ks⟩) : OpsNJ P C nt Q all oB oK nK hd' listed fuel i ⟨tm, bx, ks⟩ :=
 b1e i hi hg fun wb L a w hr hs hw hB hK hN => by
  have h1 := hx.run L a w hr
  have h2 := hy.run L a w hr
  simp only [SVr, CVr] at h1 h2
  obtain ⟨A, cap, vs, e1, hrow, hlay⟩ := b1l h2
  subst hn; subst hcc
  have hkn' : k ∈ nK := by simpa using hkn
  refine b2P hT ho hd (by simpa [Nat.blt_eq] using hnt) ht he hl0 hr hk hce hcs h1 e1 (js := []) (by simp) (by simp) hrow (b2J hp hlay) (by simp) (by simp) (by simpa [maxLen] using h63) hb (fun L' a' w' hr' hf => ?_)
  have hs' : SW wb w' := ⟨Nat.le_trans hs.1 hf.chg.size, fun b hb' => (hf.chg.block b (Nat.lt_of_lt_of_le hb' hs.1) (fun hm => absurd (hN k hkn' b hm) (by omega))).trans (hs.2 b hb')⟩
  exact ⟨fun _ => hs', h.run wb L' a' w' hr' hs' hw (fun j hj => by rw [hf.bb]; exact hB j hj)
   (fun j hj => by
    have hjk : j ≠ k := fun e => by rw [e] at hj; rw [List.contains_iff_mem.2 hj] at hko; cases hko
    rw [hf.fp j hjk]; exact hK j hj)
   (fun j hj b hb' => by
    by_cases hjk : j = k
    ·subst hjk
     rcases hf.new b hb' with h5 | ⟨q, hq, _⟩ | h5
     ·exact hN j hj b h5
     ·simp at hq
     ·exact Nat.le_trans hs.1 h5
    ·rw [hf.fp j hjk] at hb'; exact hN j hj b hb')⟩
theorem a5Y (i : Nat) {σ₁ : St} (hi : all[i]? = some o) (hg : o.guard = none) (hh : hd' i = false) (hp : Ef P C nt o ⟨tm, bx, ks⟩ (fun σ' => σ' = σ₁)) (he : (Region.ready .any all (listed.setIfInBounds i true)).isEmpty = true)
  (h : Q .normal σ₁) : OpsNJ P C nt Q all oB oK nK hd' listed fuel i ⟨tm, bx, ks⟩ :=
 b1e i hi hg fun wb L a w hr hs hw hB hK hN => hp.run L a w hr _ _ fun L' σ' a' w' h1 h2 => ⟨fun e => absurd e (by rw [hh]; simp), a9k he ⟨L', σ', h2, by rw [h1]; exact h⟩ fuel⟩
end
section
variable {P : Program} {C : Ctx} {nt : Nat} {σ : St} {o : Oper} {x y : Operand}
theorem c2t (m n : Int) : (if n < m then n else m) = min m n := by split <;> omega
theorem c2g (m n : Int) : (if n > m then n else m) = max m n := by split <;> omega
theorem c4v {t t' : TypeId} {K J : List Nat} {m n : Int} (ho : o.op = .call { callee := .builtin .min, args := #[x, y], argTypes := #[t, t'] }) (hx : Ev P C nt σ x (.one (.dv K (.int .i64 m)))) (hy : Ev P C nt σ y (.one (.dv J (.int .i64 n)))) : Pu P C nt o σ (.one (.dv [] (.int .i64 (min m n)))) [] [] := Pu.mk fun L a w hr => by
 have h1 := hx.run L a w hr
 have h2 := hy.run L a w hr
 simp only [SVr, CVr, Lay] at h1 h2
 have hr' : InR .i64 (min m n) := by
  rcases Int.le_total m n with h | h
  ·rw [Int.min_eq_left h]; exact h1.2
  ·rw [Int.min_eq_right h]; exact h2.2
 refine ⟨.int .i64 (min m n), by simp only [SVr, CVr, Lay]; exact ⟨trivial, hr'⟩, fun w' _ => ?_⟩
 unfold execOp
 simp only [ho, resolve, invoke, builtin, Sem.run_bind, Sem.run_pure, Result.andThen_ok, List.map_toArray, List.map_cons, List.map_nil, h1.1, h2.1, run_min_int2, c2t]
theorem c2Q {t t' : TypeId} {K J : List Nat} {m n : Int} (ho : o.op = .call { callee := .builtin .max, args := #[x, y], argTypes := #[t, t'] }) (hx : Ev P C nt σ x (.one (.dv K (.int .i64 m)))) (hy : Ev P C nt σ y (.one (.dv J (.int .i64 n)))) : Pu P C nt o σ (.one (.dv [] (.int .i64 (max m n)))) [] [] := Pu.mk fun L a w hr => by
 have h1 := hx.run L a w hr
 have h2 := hy.run L a w hr
 simp only [SVr, CVr, Lay] at h1 h2
 have hr' : InR .i64 (max m n) := by
  rcases Int.le_total m n with h | h
  ·rw [Int.max_eq_right h]; exact h2.2
  ·rw [Int.max_eq_left h]; exact h1.2
 refine ⟨.int .i64 (max m n), by simp only [SVr, CVr, Lay]; exact ⟨trivial, hr'⟩, fun w' _ => ?_⟩
 unfold execOp
 simp only [ho, resolve, invoke, builtin, Sem.run_bind, Sem.run_pure, Result.andThen_ok, List.map_toArray, List.map_cons, List.map_nil, h1.1, h2.1, run_max_int2, c2g]
end
end Go.Proofs.YteellmjlalgjaaaGreat
