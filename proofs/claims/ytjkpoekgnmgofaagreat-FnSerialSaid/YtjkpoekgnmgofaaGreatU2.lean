/-
  The rules of a small program logic over abstract states: no program is in sight but in the table of its types. Conditions: none.
-/
import Derived.BigQuiet
import Derived.Deep.QuietTactic
import Derived.Great.BuildSlice
import Derived.Laws.CopyRow
import Derived.Laws.Externs
import Derived.Lib.AppendStr
import Derived.Lib.AppendZerosOnto
import Derived.Lib.Bytealg
import Derived.Lib.ConvBytes
import Derived.Lib.Overlaps
import Derived.Lib.Slices
import Derived.Lib.Strings
import Derived.Lib.Walk
import Derived.Outline
import Derived.Shelf.RegionOpenPlain
import Derived.Shelf.Spec.SlicesInsert
import Derived.Test.YtjkpoekgnmgofaaGreatProg
import Derived.WalkKit
import Derived.WalkLawsBesides
import Derived.Test.YtjkpoekgnmgofaaGreatU1
namespace Go.Proofs.YtjkpoekgnmgofaaGreat
open Go.RowKit
set_option linter.unusedVariables false
set_option linter.unusedSimpArgs false

section
variable {P : Program} {C : Ctx} {nt : Nat} {σ : St} {L : Lyt} {a : Act} {w : World} {o : Oper} {x y : Operand} {T : TT}
theorem a5j {k : Nat} {js : List Nat} {c' : KC} {same : Bool} : lkk (σ.mut k js same c') k = some c' := by
 simp only [lkk, St.mut, List.cons_append, a0Z, if_true]; rfl
structure AppF (L L' : Lyt) (w w' : World) (k : Nat) (js : List Nat) : Prop where
 chg : Chg (L.fp k) w w'
 fp : ∀ i, i ≠ k → L'.fp i = L.fp i
 bb : L'.bb = L.bb
 new : ∀ b ∈ L'.fp k, b ∈ L.fp k ∨ (∃ j ∈ js, b ∈ L.fp j) ∨ w.heap.size ≤ b
theorem c1E {d k m : Nat} {c : KC} {js : List Nat} {us : List Value} {ds : List DV} {f2 : List Nat} {K : Act → World → Prop} {A' : Option Addr} {c' : Nat} {w' : World} {vs : List Value} {f : List Nat}
  (hd : o.dst = some d) (hnt : d < nt) (hr : Rel P C nt L σ a w) (hk : lkk σ k = some c) (hE' : c.e < 1000000) (hkj : k ∉ js) (hj : ∀ j ∈ js, (lkk σ j).isSome = true) (hm' : ds.length = m * c.sz) (ho2 : a0V w ds us f2) (hf2 : ∀ b ∈ f2, ∃ j ∈ js, b ∈ L.fp j) (hn2 : f2.Nodup)
  (e3 : L.fp k = (L.rv k).ownBlock.toList ++ f) (h5 : 0 < c.sz) (h6 : c.cs.length = c.n * c.sz) (h8 : a0V w c.cs vs f)
  (h9 : w'.ownsRow 0 c.e c.sz (.slice A' (c.n + m) c') (c.n + m) (vs ++ us)) (hchg : Chg (L.rv k).ownBlock.toList w w') (hblk : (L.rv k).ownBlock = (Value.slice A' (c.n + m) c').ownBlock ∨ (Value.slice A' (c.n + m) c').ownBlock = some w.heap.size)
  (hK : ∀ L' a' w', Rel P C nt L' ((σ.mut k js false ⟨false, c.e, c.sz, c.n + m, c.cs ++ ds⟩).put d (.one (.key k))) a' w' → AppF L L' w w' k js → K a' w') : K (a.put o.dst (.slice A' (c.n + m) c')) w' := by
 have hkn := hr.kn k c hk
 rw [e3] at hkn
 obtain ⟨n1, n2, n3⟩ := List.nodup_append.1 hkn
 have hdis : ∀ b ∈ f2, b ∉ L.fp k := fun b hb' hm => by
  obtain ⟨j, hj', hb''⟩ := hf2 b hb'
  obtain ⟨q, hq⟩ := Option.isSome_iff_exists.1 (hj j hj')
  exact hr.kk j k q c hq hk (fun e => hkj (by rw [← e]; exact hj')) b hb'' hm
 have hlt1 : ∀ b ∈ f, b < w.heap.size := a5g _ _ _ h8
 have hlt2 : ∀ b ∈ f2, b < w.heap.size := a5g _ _ _ ho2
 have k1 : a0V w' c.cs vs f := a2O _ _ _ h8 (fun b hb' => hchg.block b (hlt1 b hb') (fun hm => n3 b hm b hb' rfl))
 have k2 : a0V w' ds us f2 := a2O _ _ _ ho2 (fun b hb' => hchg.block b (hlt2 b hb') (fun hm => hdis b hb' (by rw [e3]; simp [hm])))
 have hown' : Own w' (.sl c.e c.sz (c.n + m) (c.cs ++ ds)) (.slice A' (c.n + m) c') ((Value.slice A' (c.n + m) c').ownBlock.toList ++ (f ++ f2)) := by
  unfold Own
  exact ⟨vs ++ us, f ++ f2, rfl, h5, by rw [List.length_append, h6, hm', Nat.add_mul], a3y hE' h9, a2X _ _ _ _ _ _ k1 k2⟩
 have hnod : (f ++ f2).Nodup := List.nodup_append.2 ⟨n2, hn2, fun x hx' y hy' e' => hdis y hy' (by rw [e3, ← e']; simp [hx'])⟩
 have hsub : ∀ b ∈ (Value.slice A' (c.n + m) c').ownBlock.toList ++ (f ++ f2), b ∈ L.fp k ∨ (∃ j ∈ js, b ∈ L.fp j) ∨ w.heap.size ≤ b := fun b hb' => by
   rcases List.mem_append.1 hb' with hb' | hb'
   ·rcases hblk with hbl | hbl
    ·rw [← hbl] at hb'; exact .inl (by rw [e3]; simp [hb'])
    ·rw [hbl] at hb'
     simp only [Option.toList_some, List.mem_singleton] at hb'
     exact .inr (.inr (by omega))
   ·rcases List.mem_append.1 hb' with hb' | hb'
    ·exact .inl (by rw [e3]; simp [hb'])
    ·obtain ⟨j, hj', hb''⟩ := hf2 b hb'
     exact .inr (.inl ⟨j, hj', hb''⟩)
 have hset := hr.setkey (k := k) (c := c) (c' := ⟨false, c.e, c.sz, c.n + m, c.cs ++ ds⟩) (js := js) (same := false) hk hkj (hchg.mono (fun b hb' => by rw [e3]; simp [hb'])) hown'
  (by
   rcases hblk with hb' | hb'
   ·rw [← hb']
    refine List.nodup_append.2 ⟨n1, hnod, fun x hx' y hy' e' => ?_⟩
    subst e'
    rcases List.mem_append.1 hy' with hy' | hy'
    ·exact n3 x hx' x hy' rfl
    ·exact hdis x hy' (by rw [e3]; simp [hx'])
   ·rw [hb']
    refine List.nodup_append.2 ⟨by simp, hnod, fun x hx' y hy' e' => ?_⟩
    subst e'
    simp only [Option.toList_some, List.mem_singleton] at hx'
    subst hx'
    rcases List.mem_append.1 hy' with hy' | hy'
    ·exact absurd (hlt1 _ hy') (by omega)
    ·exact absurd (hlt2 _ hy') (by omega))
  hsub hj (by simp) (by simp)
 refine hK { L with fp := fun i => if i = k then (Value.slice A' (c.n + m) c').ownBlock.toList ++ (f ++ f2) else L.fp i, rv := fun i => if i = k then .slice A' (c.n + m) c' else L.rv i } _ _ ?_ ?_
 ·rw [hd]
  exact hset.put (v := .one (.key k)) (r := .slice A' (c.n + m) c') hnt (by simp [SVr, CVr]) (by simp [SV.keys, CV.keys, a5j]) (by simp [SV.boxes])
 ·exact ⟨hchg.mono (fun b hb' => by rw [e3]; simp [hb']), fun i hi => if_neg hi, rfl, by simpa using hsub⟩
theorem b2R (hT : TTOk P T) {t e sz by_ d k m cap : Nat} {zc : List CV} {c : KC} {js : List Nat} {A : Option Addr} {us : List Value} {ds : List DV} {f2 : List Nat} {K : Act → World → Prop} {Q : Exit → Act → World → Prop}
  (ho : o.op = .call { callee := .builtin .append, args := #[x, y], argTypes := #[t, t] }) (hd : o.dst = some d) (hnt : d < nt) (ht : look T.sl t = some e) (he : look T.el e = some (sz, by_, zc)) (hl0 : zc.length = sz)
  (hr : Rel P C nt L σ a w) (hk : lkk σ k = some c) (hce : c.e = e) (hcs : c.sz = sz) (hx : a.eval x = L.rv k) (hy : a.eval y = .slice A m cap) (hkj : k ∉ js) (hj : ∀ j ∈ js, (lkk σ j).isSome = true)
  (hsrc : a3i w A m sz us) (ho2 : a0V w ds us f2) (hf2 : ∀ b ∈ f2, ∃ j ∈ js, b ∈ L.fp j) (hn2 : f2.Nodup) (h63 : c.n + m ≤ maxLen) (hb : (c.n + m) * by_ ≤ 140737488355328)
  (hK : ∀ L' a' w', Rel P C nt L' ((σ.mut k js false ⟨false, e, sz, c.n + m, c.cs ++ ds⟩).put d (.one (.key k))) a' w' → AppF L L' w w' k js → K a' w') : o.wp P a w K Q := by
 subst hce; subst hcs
 obtain ⟨inf, z, g1, g2, g3, g4, g5⟩ := hT.el c.e c.sz by_ zc he
 have hown := (hr.ks k c hk).1
 simp only [Own] at hown
 obtain ⟨vs, f, e3, h5, h6, h7, h8⟩ := hown
 have hE' : c.e < 1000000 := hT.lt _ _ he
 have h7 := h7.1 hE'
 have hm' : ds.length = m * c.sz := by rw [← a2s _ _ _ ho2, hsrc.1]
 have hone : ∀ u ∈ us, u.oneCell' = true := a7g (ok := fun _ => True) _ _ (a6D _ _ _ ho2 (fun _ _ => trivial))
 have hzs : z.cells.size = c.sz := by
  have := a7G g5
  simp only [Array.length_toList] at this
  rw [this, hl0]
 refine b0p w x y t ho c.e z c.sz by_ (hT.sl t c.e ht) (by rw [g1]; simp [g2, g3, g4]) hzs h5 (L.rv k) c.n vs hx h7 A m cap us hy hsrc hone h63 hb ?_
 intro A' c' w' h9 hchg hblk
 exact c1E hd hnt hr hk hE' hkj hj hm' ho2 hf2 hn2 e3 h5 h6 h8 h9 hchg hblk hK
theorem b8R (hT : TTOk P T) {t e sz by_ d k m cap : Nat} {zc : List CV} {c : KC} {js : List Nat} {A : Option Addr} {us : List Value} {ds : List DV} {f2 : List Nat} {K : Act → World → Prop} {Q : Exit → Act → World → Prop}
  (ho : o.op = .call { callee := .builtin .append, args := #[x, y], argTypes := #[t, t] }) (hd : o.dst = some d) (hnt : d < nt) (ht : look T.sl t = some e) (he : look T.el e = some (sz, by_, zc)) (hl0 : zc.length = sz)
  (hr : Rel P C nt L σ a w) (hk : lkk σ k = some c) (hce : c.e = e) (hcs : c.sz = sz) (hx : a.eval x = L.rv k) (hy : a.eval y = .slice A m cap) (hkj : k ∉ js) (hj : ∀ j ∈ js, (lkk σ j).isSome = true)
  (hsrc : a3i w A m sz us) (ho2 : a0V w ds us f2) (hf2 : ∀ b ∈ f2, ∃ j ∈ js, b ∈ L.fp j) (hn2 : f2.Nodup) (h63 : c.n + m ≤ maxLen) (hb : (c.n + m) * by_ ≤ 140737488355328)
  (hK : ∀ L' a' w', Rel P C nt L' ((σ.mut k js false ⟨false, e, sz, c.n + m, c.cs ++ ds⟩).put d (.one (.key k))) a' w' → K a' w') : o.wp P a w K Q :=
 b2R hT ho hd hnt ht he hl0 hr hk hce hcs hx hy hkj hj hsrc ho2 hf2 hn2 h63 hb (fun L' a' w' h _ => hK L' a' w' h)
theorem b2s {ok : Nat → Prop} {w w' : World} : ∀ {ds : List DV} {vs : List Value}, ds.all DV.plain = true → a1u ok w ds vs → a0V w' ds vs []
 | [], _, _, h => by simp only [a1u] at h; subst h; simp [a0V]
 | d :: ds, _, hp, h => by
  simp only [List.all_cons, Bool.and_eq_true] at hp
  simp only [a1u] at h
  obtain ⟨v, vs', rfl, h1, h2⟩ := h
  simp only [a0V]
  exact ⟨v, vs', [], [], rfl, rfl, a9q hp.1 h1, b2s hp.2 h2⟩
theorem b0g {ok : Nat → Prop} {w : World} {e sz n : Nat} {cs : List DV} {v : Value} (h : Lay ok w (.sl e sz n cs) v) : ∃ A c vs, v = .slice A n c ∧ a3i w A n sz vs ∧ a1u ok w cs vs := by
 simp only [Lay] at h
 obtain ⟨A, c, vs, e1, h2, h3, h4, h5, h6, h7⟩ := h
 refine ⟨A, c, vs, e1, ⟨by rw [a4c _ _ h6, h5], fun hn => ?_⟩, h6⟩
 obtain ⟨b, off, k1, _, k3⟩ := h7 hn
 exact ⟨b, off, k1, k3⟩
theorem a3S {α : Type} {enc : α → List DV} (h : ∀ x, (enc x).all DV.plain = true) : ∀ xs : List α, (xs.flatMap enc).all DV.plain = true
 | [] => rfl
 | x :: xs => by rw [List.flatMap_cons, List.all_append, h, a3S h xs]; rfl
theorem b9f (hT : TTOk P T) {t e sz by_ d k m : Nat} {zc : List CV} {c : KC} {J : List Nat} {e2 : Nat} {ds : List DV} (ho : o.op = .call { callee := .builtin .append, args := #[x, y], argTypes := #[t, t] }) (hd : o.dst = some d) (hnt : Nat.blt d nt = true) (ht : look T.sl t = some e) (he : look T.el e = some (sz, by_, zc)) (hl0 : zc.length = sz)
  (hx : Ev P C nt σ x (.one (.key k))) (hk : lkk σ k = some c) (hce : c.e = e) (hcs : c.sz = sz) (hy : Ev P C nt σ y (.one (.dv J (.sl e2 sz m ds)))) (hp : ds.all DV.plain = true) (hb : (c.n + m) * by_ ≤ 140737488355328) (h63 : c.n + m ≤ 9223372036854775807) :
  Ef P C nt o σ (fun σ' => σ' = (σ.mut k [] false ⟨false, e, sz, c.n + m, c.cs ++ ds⟩).put d (.one (.key k))) := Ef.mk fun L a w hr K Q hK => by
 have h1 := hx.run L a w hr
 have h2 := hy.run L a w hr
 simp only [SVr, CVr] at h1 h2
 obtain ⟨A, cap, vs, e1, hrow, hlay⟩ := b0g h2
 exact b8R hT ho hd (by simpa [Nat.blt_eq] using hnt) ht he hl0 hr hk hce hcs h1 e1 (by simp) (by simp) hrow (b2s hp hlay) (by simp) (by simp) (by simpa [maxLen] using h63) hb (fun L' a' w' h => hK L' _ _ _ rfl h)
theorem c6b (hT : TTOk P T) {t e sz by_ d k j : Nat} {zc : List CV} {c c2 : KC} (ho : o.op = .call { callee := .builtin .append, args := #[x, y], argTypes := #[t, t] }) (hd : o.dst = some d) (hnt : Nat.blt d nt = true) (ht : look T.sl t = some e) (he : look T.el e = some (sz, by_, zc)) (hl0 : zc.length = sz)
  (hx : Ev P C nt σ x (.one (.key k))) (hk : lkk σ k = some c) (hce : c.e = e) (hcs : c.sz = sz) (hy : Ev P C nt σ y (.one (.key j))) (hj : lkk σ j = some c2) (hcs2 : c2.sz = sz) (hkj : k ∉ [j]) (hb : (c.n + c2.n) * by_ ≤ 140737488355328) (h63 : c.n + c2.n ≤ 9223372036854775807) :
  Ef P C nt o σ (fun σ' => σ' = (σ.mut k [j] false ⟨false, e, sz, c.n + c2.n, c.cs ++ c2.cs⟩).put d (.one (.key k))) := Ef.mk fun L a w hr K Q hK => by
 have h1 := hx.run L a w hr
 have h2 := hy.run L a w hr
 simp only [SVr, CVr] at h1 h2
 have hown := (hr.ks j c2 hj).1
 have hlay := a4l (ok := fun _ => True) _ _ _ hown (fun _ _ => trivial)
 rw [hcs2] at hlay
 simp only [Own] at hown
 obtain ⟨vs, f, e3, h5, h6, h7, h8⟩ := hown
 obtain ⟨A, cap, vs', e1, hrow, hlay'⟩ := b0g hlay
 have hvs : vs' = vs := by
  have h7' := a5C h7
  rcases h7'.2 with ⟨g1, g2⟩ | ⟨g, cap2, cur, t', fz', g1, g2, g3, g4, g5, g6⟩
  ·have l1 : vs.length = 0 := by rw [h7'.1, g2]; simp
   have l2 : vs'.length = 0 := by rw [hrow.1, g2]; simp
   rw [List.eq_nil_of_length_eq_zero l1, List.eq_nil_of_length_eq_zero l2]
  ·rw [e1] at g1
   simp only [Value.slice.injEq, true_and] at g1
   obtain ⟨rfl, rfl⟩ := g1
   rcases Nat.eq_zero_or_pos c2.n with h0 | h0
   ·have l1 : vs.length = 0 := by rw [h7'.1, h0]; simp
    have l2 : vs'.length = 0 := by rw [hrow.1, h0]; simp
    rw [List.eq_nil_of_length_eq_zero l1, List.eq_nil_of_length_eq_zero l2]
   ·obtain ⟨b, off, k1, k2⟩ := hrow.2 h0
    simp only [Option.some.injEq, Addr.mk.injEq, and_true] at k1
    obtain ⟨rfl, rfl⟩ := k1
    apply List.ext_getElem (by rw [hrow.1, h7'.1, hcs2])
    intro i i1 i2
    have q1 := k2 i _ (List.getElem?_eq_getElem i1)
    rw [Nat.zero_add, cell_of_row w _ i cur t' fz' g2] at q1
    have q3 : i < c2.n * c2.sz := by rw [← h7'.1]; exact i2
    have q2 : vs[i]? = cur[i]? := by rw [← g6, List.getElem?_take, if_pos q3, Array.getElem?_toList]
    rw [List.getElem?_eq_getElem i2] at q2
    rw [← q2] at q1
    exact (Option.some.inj q1).symm
 subst hvs
 have hnf : f.Nodup := by
  have := hr.kn j c2 hj
  rw [e3] at this
  exact (List.nodup_append.1 this).2.1
 exact b8R hT ho hd (by simpa [Nat.blt_eq] using hnt) ht he hl0 hr hk hce hcs h1 (by rw [h2]; exact e1) hkj (by simp [hj]) hrow h8 (fun b hb' => ⟨j, by simp, by rw [e3]; simp [hb']⟩) hnf (by simpa [maxLen] using h63) hb (fun L' a' w' h => hK L' _ _ _ rfl h)
theorem Rel.also (h : Rel P C nt L σ a w) {d : Nat} {v : SV} (hv : SVr P C L w v (a.tmps.getD d undef)) (hk : ∀ k ∈ v.keys, (lkk σ k).isSome = true) (hb : ∀ b ∈ v.boxes, (look σ.bx b).isSome = true) : Rel P C nt L (σ.put d v) a w :=
 { h with
  tm := fun i u hu => by
   simp only [St.put, a0Z] at hu
   split at hu
   ·rename_i e
    simp only [Option.some.injEq] at hu
    rw [e, ← hu]; exact hv
   ·exact h.tm i u hu
  bx := h.bx
  ks := h.ks
  b1 := h.b1
  k1 := h.k1
  kn := h.kn
  bb := h.bb
  bk := h.bk
  kk := h.kk
  lk := fun k hk' => by
   simp only [St.tk, St.put, List.flatMap_cons, List.append_assoc, List.mem_append] at hk'
   rcases hk' with hk' | hk'
   ·exact hk k hk'
   ·exact h.lk k (by simp only [St.tk, List.mem_append]; exact hk')
  lb := fun b hb' => by
   simp only [St.tb, St.put, List.flatMap_cons, List.mem_append] at hb'
   rcases hb' with hb' | hb'
   ·exact hb b hb'
   ·exact h.lb b hb' }
theorem Rel.alsoB (h : Rel P C nt L σ a w) {b t : Nat} {cs cs' : List CV} (hb : look σ.bx b = some (t, cs)) (hv : ∀ vs, CVL C L w cs vs → CVL C L w cs' vs) (hk : ∀ k ∈ cs'.flatMap CV.keys, (lkk σ k).isSome = true) : Rel P C nt L ⟨σ.tm, (b, t, cs') :: σ.bx, σ.ks⟩ a w :=
 have hx : ∀ i x, look ((b, t, cs') :: σ.bx) i = some x → ∃ y, look σ.bx i = some y := fun i x hx => by
  simp only [a0Z] at hx
  split at hx
  ·rename_i e; exact ⟨_, by rw [e]; exact hb⟩
  ·exact ⟨_, hx⟩
 { h with
  tm := h.tm
  bx := fun i t' cs'' hx => by
   simp only [a0Z] at hx
   split at hx
   ·rename_i e
    simp only [Option.some.injEq, Prod.mk.injEq] at hx
    obtain ⟨rfl, rfl⟩ := hx
    obtain ⟨vs, h1, h2⟩ := h.bx b _ _ hb
    exact ⟨vs, by rw [e]; exact h1, hv vs h2⟩
   ·exact h.bx i t' cs'' hx
  ks := h.ks
  b1 := fun i x h' => by obtain ⟨y, hy⟩ := hx i x h'; exact h.b1 i y hy
  k1 := h.k1
  kn := h.kn
  bb := fun i j x y h1 h2 => by
   obtain ⟨x', h1'⟩ := hx i x h1
   obtain ⟨y', h2'⟩ := hx j y h2
   exact h.bb i j x' y' h1' h2'
  bk := fun i k x c h' hc => by obtain ⟨y, hy⟩ := hx i x h'; exact h.bk i k y c hy hc
  kk := h.kk
  lk := fun k hm => by
   simp only [St.tk, List.flatMap_cons, List.mem_append] at hm
   rcases hm with hm | hm | hm
   ·exact h.lk k (by simp only [St.tk, List.mem_append]; exact .inl hm)
   ·exact hk k hm
   ·exact h.lk k (by simp only [St.tk, List.mem_append]; exact .inr hm)
  lb := fun b' hm => by
   have := h.lb b' hm
   simp only [a0Z]
   split
   ·rfl
   ·exact this }
theorem b1H {L : Lyt} {w : World} {c' : CV} : ∀ {cs : List CV} {vs : List Value} {i : Nat} {c : CV}, cs[i]? = some c → (∀ v, CVr C L w c v → CVr C L w c' v) → CVL C L w cs vs → CVL C L w (cs.set i c') vs
 | [], _, i, _, h, _, _ => by simp at h
 | x :: xs, _, 0, c, h, hc, ⟨v, vs', e, h1, h2⟩ => by
  simp only [List.getElem?_cons_zero, Option.some.injEq] at h
  subst h
  exact ⟨v, vs', e, hc v h1, h2⟩
 | x :: xs, _, i + 1, c, h, hc, ⟨v, vs', e, h1, h2⟩ => ⟨v, vs', e, h1, b1H (by simpa using h) hc h2⟩
theorem a3a (k : Nat) {b i t e sz : Nat} {cs : List CV} (hb : look σ.bx b = some (t, cs)) (hi : cs[i]? = some .nil) (hk : lkk σ k = none) (hsz : Nat.blt 0 sz = true) (hl : ((cs.set i (.key k)).flatMap CV.keys).all (fun j => Nat.beq j k || (lkk σ j).isSome) = true) :
  Weak P C nt σ ⟨σ.tm, (b, t, cs.set i (.key k)) :: σ.bx, (k, some ⟨false, e, sz, 0, []⟩) :: σ.ks⟩ := Weak.mk fun L a w hr => by
 have hpos : 0 < sz := by simpa [Nat.blt_eq] using hsz
 have h1 := hr.newkey (k := k) (c := ⟨false, e, sz, 0, []⟩) (v := .slice none 0 0) (f := []) hk (a7q w e sz hpos) rfl (by simp) (by simp) (by simp) (by simp)
 refine ⟨_, h1.alsoB (b := b) hb (fun vs hv => b1H hi (fun v hv => ?_) hv) (fun j hj => ?_)⟩
 ·simp only [CVr] at hv ⊢
  rw [hv]; simp
 ·have := List.all_eq_true.1 hl j hj
  simp only [Bool.or_eq_true] at this
  simp only [lkk, a0Z]
  split
  ·rfl
  ·rename_i e'
   rcases this with this | this
   ·exact absurd (Nat.eq_of_beq_eq_true this) e'
   ·exact this
theorem a9u (w : World) (o : Obj) : (w.alloc o).heap[w.heap.size]? = some o := heap_alloc_new w o
theorem b5P (off : Nat) : ∀ (us : List Value) (k : Nat) (cs : List Value), off + k + us.length ≤ cs.length → (us.zipIdx k).foldl (fun (acc : Array Value) (p : Value × Nat) => acc.setIfInBounds (off + p.2) p.1) cs.toArray = (a1e (off + k) us cs).toArray
 | [], k, cs, _ => by simp [a1e]
 | u :: us, k, cs, h => by
  simp only [List.length_cons] at h
  rw [List.zipIdx_cons, List.foldl_cons]
  have e : (cs.toArray.setIfInBounds (off + k) u) = (cs.set (off + k) u).toArray := by simp
  simp only [e]
  rw [b5P off us (k + 1) _ (by simp; omega)]
  congr 1
  have hlt : off + k < cs.length := by omega
  unfold a1e
  rw [List.set_eq_take_append_cons_drop, if_pos hlt]
  have h1 : (cs.take (off + k)).length = off + k := by simp; omega
  have e1 : (cs.take (off + k) ++ u :: cs.drop (off + k + 1)).take (off + (k + 1)) = cs.take (off + k) ++ [u] := by
   rw [show off + (k + 1) = (cs.take (off + k)).length + 1 by omega, List.take_length_add_append]
   simp
  have e2 : (cs.take (off + k) ++ u :: cs.drop (off + k + 1)).drop (off + (k + 1) + us.length) = cs.drop (off + k + (us.length + 1)) := by
   rw [show off + (k + 1) + us.length = (cs.take (off + k)).length + (1 + us.length) by omega, ← List.drop_drop, List.drop_left, ← List.drop_drop]
   simp only [List.drop_succ_cons, List.drop_zero, List.drop_drop]
   congr 1; omega
  rw [e1, e2]
  simp
theorem b2q {place : Nat → Option (Nat × Nat)} {i off sz : Nat} {v : Value} {us cs : List Value} {rest : List (Nat × Value)} (hp : place i = some (off, sz)) (hv : v.cells = us.toArray) (hl : us.length = sz) (hb : off + sz ≤ cs.length) :
  Instr.fill place cs.toArray ((i, v) :: rest) = Instr.fill place (a1e off us cs).toArray rest := by
 have h2 := b5P off us 0 cs (by omega)
 simp only [Nat.add_zero] at h2
 have e2 : (us.toArray.zipIdx.foldl (fun (acc : Array Value) (p : Value × Nat) => acc.setIfInBounds (off + p.2) p.1) cs.toArray) = (a1e off us cs).toArray := by
  rw [← h2]; simp
 conv => lhs; unfold Instr.fill
 simp only [hp, hv, List.size_toArray, hl, ne_eq, not_true_eq_false, decide_false, Bool.false_or, gt_iff_lt, decide_eq_true_eq, Bool.or_eq_true]
 rw [if_neg (by omega)]
 exact congrArg (fun z => Instr.fill place z rest) e2
theorem b4w {t e sz by_ : Nat} {zc : List CV} (hT : TTOk P T) (ht : look T.sl t = some e) (he : look T.el e = some (sz, by_, zc)) (hl0 : zc.length = sz) (hpos : 0 < sz) (hsm : sz ≤ 16777216) {v : Value} {us : List Value} (hv : v.cells = us.toArray) (hl : us.length = sz) :
  (Instr.buildSlice t 1 #[(0, v)]).run P w = .ok (.slice (some ⟨w.heap.size, 0, none⟩) 1 1) (w.alloc (.cells us.toArray e)) := by
 obtain ⟨inf, z, g1, g2, g3, g4, g5⟩ := hT.el e sz by_ zc he
 refine run_buildSlice w t e 1 _ us.toArray inf z (hT.sl t e ht) g1 g4 (by rw [g2]; omega) (by rw [g2]; omega) ?_
 rw [g2]
 have : ((Array.range (1 * sz)).map fun j => z.cells[j % z.cells.size]!) = (((List.range sz).map fun j => z.cells[j % z.cells.size]!)).toArray := by
  rw [Nat.one_mul]
  apply Array.ext'
  simp
 rw [this, b2q (off := 0) (sz := sz) (by simp) hv hl (by simp)]
 have h2 : a1e 0 us ((List.range sz).map fun j => z.cells[j % z.cells.size]!) = us := by
  unfold a1e
  simp [hl]
 rw [h2]
 rfl
theorem b8J {t e sz by_ : Nat} {zc : List CV} (hT : TTOk P T) (ht : look T.sl t = some e) (he : look T.el e = some (sz, by_, zc)) :
  (Instr.buildSlice t 0 #[]).run P w = .ok (.slice (some ⟨w.heap.size, 0, none⟩) 0 0) (w.alloc (.cells #[] e)) := by
 obtain ⟨inf, z, g1, g2, g3, g4, g5⟩ := hT.el e sz by_ zc he
 have h0 : (Array.range 0) = #[] := rfl
 simp [Instr.buildSlice, run_underlying (hT.sl t e ht), sizeOf, typeInfo, g1, Instr.fill, newRow, h0]
theorem c2D (hT : TTOk P T) {t e sz by_ d k : Nat} {zc : List CV} (ho : o.op = .buildSlice t 0 #[]) (hd : o.dst = some d) (hn : Nat.blt d nt = true) (ht : look T.sl t = some e) (he : look T.el e = some (sz, by_, zc)) (hsz : Nat.blt 0 sz = true) (hk : lkk σ k = none) :
  EfG P C nt o σ (fun σ' => σ' = { σ with ks := (k, some ⟨false, e, sz, 0, []⟩) :: σ.ks }.put d (.one (.key k))) := EfG.mk fun L a w hr K Q hK => by
 have hpos : 0 < sz := by simpa [Nat.blt_eq] using hsz
 have hchg : Chg [] w (w.alloc (.cells #[] e)) := (Chg.refl [] w).alloc _
 refine a5O (v := .slice (some ⟨w.heap.size, 0, none⟩) 0 0) (w' := w.alloc (.cells #[] e)) ?_ ?_
 ·unfold execOp
  simp only [ho, List.map_toArray, List.map_nil, b8J (P := P) (w := w) hT ht he, Sem.run_bind, Result.andThen_ok, Sem.run_pure]
 ·have hb := hr.newkey' hchg (c := ⟨false, e, sz, 0, []⟩) (v := .slice (some ⟨w.heap.size, 0, none⟩) 0 0) (f := [w.heap.size]) hk
   (by
    unfold Own
    exact ⟨[], [], rfl, hpos, by simp, a3y (hT.lt e _ he) ⟨by simp, .inr ⟨w.heap.size, 0, #[], rfl, Nat.zero_le _, a9u w _, Nat.le_refl _, Nat.zero_le _, by simp, by simp⟩⟩, by simp [a0V]⟩) rfl (by simp) (by simp)
  refine hK { L with fp := fun j => if j = k then [w.heap.size] else L.fp j, rv := fun j => if j = k then .slice (some ⟨w.heap.size, 0, none⟩) 0 0 else L.rv j } _ _ _ rfl (by rw [hd]; exact hb.put (v := .one (.key k)) (r := .slice (some ⟨w.heap.size, 0, none⟩) 0 0) (by simpa [Nat.blt_eq] using hn) (by simp [SVr, CVr]) (by simp [SV.keys, CV.keys, lkk, a0Z]) (by simp [SV.boxes])) ⟨hchg, fun i c hc => ?_, fun _ _ _ => rfl⟩
  have : i ≠ k := fun e => by rw [e, hk] at hc; cases hc
  simp [this]
theorem b9O (hT : TTOk P T) {t e sz by_ d k : Nat} {zc : List CV} {v : SV} {p : Bool × List CV} {ds : List DV} {js : List Nat} (ho : o.op = .buildSlice t 1 #[(0, x)]) (hd : o.dst = some d) (hn : Nat.blt d nt = true) (ht : look T.sl t = some e) (he : look T.el e = some (sz, by_, zc)) (hl0 : zc.length = sz) (hsz : Nat.blt 0 sz = true) (hsm : Nat.ble sz 16777216 = true)
  (hx : Ev P C nt σ x v) (hp : v.part = some p) (hkv : a1o σ v = true) (how : a3A σ p.2 ds js) (hnj : js.Nodup) (hkj : k ∉ js) (hl : p.2.length = sz) (hk : lkk σ k = none) :
  Ef P C nt o σ (fun σ' => σ' = (St.mut { σ with ks := (k, some ⟨false, e, sz, 0, []⟩) :: σ.ks } k js false ⟨false, e, sz, 1, ds⟩).put d (.one (.key k))) := Ef.mk fun L a w hr K Q hK => by
 have hpos : 0 < sz := by simpa [Nat.blt_eq] using hsz
 obtain ⟨us, h1, h2, h3⟩ := a4O hr hp hkv (hx.run L a w hr)
 have hus : us.length = sz := by rw [a2I h2]; exact hl
 obtain ⟨o1, o2, o3⟩ := a9i hr how h2
 have hchg : Chg [] w (w.alloc (.cells us.toArray e)) := (Chg.refl [] w).alloc _
 have hr1 := hr.newkey (k := k) (c := ⟨false, e, sz, 0, []⟩) (v := .slice none 0 0) (f := []) hk (a7q w e sz hpos) rfl (by simp) (by simp) (by simp) (by simp)
 have hlj : ∀ j ∈ js, (lkk { σ with ks := (k, some ⟨false, e, sz, 0, []⟩) :: σ.ks } j).isSome = true := fun j hj => by
  have hjk : j ≠ k := fun e' => hkj (by rw [← e']; exact hj)
  have := o2 j hj
  simp only [lkk, a0Z, if_neg hjk] at this ⊢
  exact this
 have hlt : ∀ b ∈ js.flatMap L.fp, b < w.heap.size := a5g _ _ _ o1
 have o1' : a0V (w.alloc (.cells us.toArray e)) ds us (js.flatMap L.fp) := a2O _ _ _ o1 (fun b hb => hchg.block b (hlt b hb) (by simp))
 have hset := hr1.setkey (k := k) (c := ⟨false, e, sz, 0, []⟩) (c' := ⟨false, e, sz, 1, ds⟩) (js := js) (same := false) (w' := w.alloc (.cells us.toArray e)) (v' := .slice (some ⟨w.heap.size, 0, none⟩) 1 1) (f' := w.heap.size :: js.flatMap L.fp)
  (by simp [lkk, a0Z]) hkj (by simpa using hchg)
  (by
   unfold Own
   refine ⟨us, js.flatMap L.fp, rfl, hpos, by rw [o3, hl, Nat.one_mul], a3y (hT.lt e _ he) ⟨by rw [hus, Nat.one_mul], .inr ⟨w.heap.size, 1, us.toArray, rfl, Nat.zero_le _, a9u w _, Nat.le_refl _, by simp [maxLen], by simp [hus], by rw [Nat.one_mul, ← hus]; simp⟩⟩, o1'⟩)
  (by
   rw [List.nodup_cons]
   exact ⟨fun hm => absurd (hlt _ hm) (by omega), a8P hr hnj o2⟩)
  (fun b hb => by
   rcases List.mem_cons.1 hb with hb | hb
   ·exact .inr (.inr (by omega))
   ·obtain ⟨j, hj, hb'⟩ := List.mem_flatMap.1 hb
    have hjk : j ≠ k := fun e' => hkj (by rw [← e']; exact hj)
    exact .inr (.inl ⟨j, hj, by simpa [hjk] using hb'⟩)) hlj (by simp) (by simp)
 refine a5O (v := .slice (some ⟨w.heap.size, 0, none⟩) 1 1) (w' := w.alloc (.cells us.toArray e)) ?_ ?_
 ·unfold execOp
  simp only [ho, List.map_toArray, List.map_cons, List.map_nil, b4w (P := P) (w := w) hT ht he hl0 hpos (by simpa [Nat.ble_eq] using hsm) h1 hus, Sem.run_bind, Result.andThen_ok, Sem.run_pure]
 ·rw [hd]
  exact hK _ _ _ _ rfl (hset.put (v := .one (.key k)) (r := .slice (some ⟨w.heap.size, 0, none⟩) 1 1) (by simpa [Nat.blt_eq] using hn) (by simp [SVr, CVr]) (by simp [SV.keys, CV.keys, a5j]) (by simp [SV.boxes]))
/-! over states that are written out -/
section
variable {Q : Exit → St → Prop} {all : Array Oper} {rest : List Oper} {tm : List (Nat × SV)} {bx : List (Nat × TypeId × List CV)} {ks : List (Nat × Option KC)}
theorem b7Y (hT : TTOk P T) {t e sz by_ d k m : Nat} {zc : List CV} {c : KC} {J : List Nat} {e2 : Nat} {ds cs : List DV} (hg : o.guard = none) (hd : o.dst = some d) (ho : o.op = .call { callee := .builtin .append, args := #[x, y], argTypes := #[t, t] }) (hnt : Nat.blt d nt = true) (ht : look T.sl t = some e) (he : look T.el e = some (sz, by_, zc)) (hl0 : zc.length = sz)
  (hx : Ev P C nt ⟨tm, bx, ks⟩ x (.one (.key k))) (hk : lkk ⟨tm, bx, ks⟩ k = some c) (hce : c.e = e) (hcs : c.sz = sz) (hy : Ev P C nt ⟨tm, bx, ks⟩ y (.one (.dv J (.sl e2 sz m ds)))) (hp : ds.all DV.plain = true) (hb : (c.n + m) * by_ ≤ 140737488355328) (h63 : c.n + m ≤ 9223372036854775807) {n : Nat} (hn : c.n + m = n) (hcc : c.cs ++ ds = cs)
  (h : Ops P C nt Q all rest ⟨(d, .one (.key k)) :: a0l [k] [k] tm, a0i [k] [k] bx, (k, some ⟨false, e, sz, n, cs⟩) :: ks⟩) : Ops P C nt Q all (o :: rest) ⟨tm, bx, ks⟩ :=
 a3u hg (b9f hT ho hd hnt ht he hl0 hx hk hce hcs hy hp hb h63) (by subst hn; subst hcc; exact h)
theorem a2z (hT : TTOk P T) {t e sz by_ d k j : Nat} {zc : List CV} {c c2 : KC} {cs : List DV} (hg : o.guard = none) (hd : o.dst = some d) (ho : o.op = .call { callee := .builtin .append, args := #[x, y], argTypes := #[t, t] }) (hnt : Nat.blt d nt = true) (ht : look T.sl t = some e) (he : look T.el e = some (sz, by_, zc)) (hl0 : zc.length = sz)
  (hx : Ev P C nt ⟨tm, bx, ks⟩ x (.one (.key k))) (hk : lkk ⟨tm, bx, ks⟩ k = some c) (hce : c.e = e) (hcs : c.sz = sz) (hy : Ev P C nt ⟨tm, bx, ks⟩ y (.one (.key j))) (hj : lkk ⟨tm, bx, ks⟩ j = some c2) (hcs2 : c2.sz = sz) (hkj : k ∉ [j]) (hb : (c.n + c2.n) * by_ ≤ 140737488355328) (h63 : c.n + c2.n ≤ 9223372036854775807) {n : Nat} (hn : c.n + c2.n = n) (hcc : c.cs ++ c2.cs = cs)
  (h : Ops P C nt Q all rest ⟨(d, .one (.key k)) :: a0l [k, j] [k, j] tm, a0i [k, j] [k, j] bx, (k, some ⟨false, e, sz, n, cs⟩) :: (j, none) :: ks⟩) : Ops P C nt Q all (o :: rest) ⟨tm, bx, ks⟩ :=
 a3u hg (c6b hT ho hd hnt ht he hl0 hx hk hce hcs hy hj hcs2 hkj hb h63) (by subst hn; subst hcc; exact h)
theorem a3p (hT : TTOk P T) {t e sz by_ d k : Nat} {zc : List CV} (hg : o.guard = none) (hd : o.dst = some d) (ho : o.op = .buildSlice t 0 #[]) (hn : Nat.blt d nt = true) (ht : look T.sl t = some e) (he : look T.el e = some (sz, by_, zc)) (hsz : Nat.blt 0 sz = true) (hk : lkk ⟨tm, bx, ks⟩ k = none)
  (h : Ops P C nt Q all rest ⟨(d, .one (.key k)) :: tm, bx, (k, some ⟨false, e, sz, 0, []⟩) :: ks⟩) : Ops P C nt Q all (o :: rest) ⟨tm, bx, ks⟩ := a3u hg (c2D hT ho hd hn ht he hsz hk).ef h
theorem a4b (hT : TTOk P T) {t e sz by_ d k : Nat} {zc : List CV} {v : SV} {p : Bool × List CV} {ds : List DV} {js : List Nat} (hg : o.guard = none) (hd : o.dst = some d) (ho : o.op = .buildSlice t 1 #[(0, x)]) (hn : Nat.blt d nt = true) (ht : look T.sl t = some e) (he : look T.el e = some (sz, by_, zc)) (hl0 : zc.length = sz) (hsz : Nat.blt 0 sz = true) (hsm : Nat.ble sz 16777216 = true)
  (hx : Ev P C nt ⟨tm, bx, ks⟩ x v) (hp : v.part = some p) (hkv : a1o ⟨tm, bx, ks⟩ v = true) (how : a3A ⟨tm, bx, ks⟩ p.2 ds js) (hnj : js.Nodup) (hkj : k ∉ js) (hl : p.2.length = sz) (hk : lkk ⟨tm, bx, ks⟩ k = none)
  (h : Ops P C nt Q all rest ⟨(d, .one (.key k)) :: a0l (k :: js) (k :: js) tm, a0i (k :: js) (k :: js) bx, (k, some ⟨false, e, sz, 1, ds⟩) :: ((js.map fun j => (j, none)) ++ (k, some ⟨false, e, sz, 0, []⟩) :: ks)⟩) : Ops P C nt Q all (o :: rest) ⟨tm, bx, ks⟩ :=
 a3u hg (b9O hT ho hd hn ht he hl0 hsz hsm hx hp hkv how hnj hkj hl hk) h
end
end
end Go.Proofs.YtjkpoekgnmgofaaGreat

namespace Go.Proofs.YtjkpoekgnmgofaaGreat
open Go.RowKit
set_option linter.unusedVariables false
set_option linter.unusedSimpArgs false

def c2l (P : Program) (T : List (Nat × List (Nat × Nat))) : Bool := T.all fun p => match P.underlying p.1 with
 | some (.struct fs) => (fs.toList.map fun f => (f.offset, (P.info? f.type).map (·.size))) == p.2.map fun q => (q.1, some q.2)
 | _ => false
structure BOk (P : Program) (T : List (Nat × List (Nat × Nat))) : Prop where
 bs : ∀ t pl, look T t = some pl → ∃ fs, P.underlying t = some (.struct fs) ∧ (fs.toList.map fun f => (f.offset, (P.info? f.type).map (·.size))) = pl.map fun q => (q.1, some q.2)
theorem bOk {P : Program} {T : List (Nat × List (Nat × Nat))} (h : c2l P T = true) : BOk P T := by
 refine ⟨fun t pl hl => ?_⟩
 have := List.all_eq_true.1 h _ (a4e hl)
 dsimp only at this
 split at this
 ·rename_i fs hfs; exact ⟨fs, hfs, by simpa using this⟩
 ·cases this
section
variable {P : Program} {C : Ctx} {nt : Nat} {σ : St} {L : Lyt} {a : Act} {w : World} {o : Oper} {x y : Operand} {T : TT} {B : List (Nat × List (Nat × Nat))}
theorem b7k {α β : Type} {g : α → Sem β} {q : α → β} : ∀ {xs : List α}, (∀ x ∈ xs, (g x).run P w = .ok (q x) w) → (xs.mapM g).run P w = .ok (xs.map q) w
 | [], _ => by simp only [List.mapM_nil, Sem.run_pure, List.map_nil]
 | x :: xs, h => by
  have ih := b7k (xs := xs) (fun y hy => h y (by simp [hy]))
  rw [List.mapM_cons]
  simp only [Sem.run_bind, h x (by simp), ih, Result.andThen_ok, Sem.run_pure, List.map_cons]
theorem c0P {α β : Type} {g : α → Sem β} {q : α → β} {xs : Array α} (h : ∀ x ∈ xs.toList, (g x).run P w = .ok (q x) w) : (xs.mapM g).run P w = .ok (xs.toList.map q).toArray w := by
 rw [Array.mapM_eq_mapM_toList, map_eq_pure_bind, Sem.run_bind, b7k h]
 simp only [Result.andThen_ok, Sem.run_pure]
def a7n (P : Program) (C : Ctx) (nt : Nat) (σ : St) (pl : List (Nat × Nat)) : List (Nat × Operand) → List CV → List CV → Prop
 | [], acc, res => acc = res
 | (i, x) :: ps, acc, res => ∃ v p off sz, Ev P C nt σ x v ∧ v.part = some p ∧ a1o σ v = true ∧ pl[i]? = some (off, sz) ∧ p.2.length = sz ∧ off + sz ≤ acc.length ∧ a7n P C nt σ pl ps (a1e off p.2 acc) res
theorem a1E {pl : List (Nat × Nat)} {cs : List CV} : a7n P C nt σ pl [] cs cs := rfl
theorem a1b {pl : List (Nat × Nat)} {i off sz : Nat} {v : SV} {p : Bool × List CV} {ps : List (Nat × Operand)} {acc res : List CV} (hx : Ev P C nt σ x v) (hp : v.part = some p) (hk : a1o σ v = true) (hi : pl[i]? = some (off, sz)) (hl : p.2.length = sz) (hle : Nat.ble (off + sz) acc.length = true)
  (h : a7n P C nt σ pl ps (a1e off p.2 acc) res) : a7n P C nt σ pl ((i, x) :: ps) acc res := ⟨v, p, off, sz, hx, hp, hk, hi, hl, by simpa [Nat.ble_eq] using hle, h⟩
theorem b7r (hr : Rel P C nt L σ a w) {pl : List (Nat × Nat)} : ∀ {ps : List (Nat × Operand)} {acc res : List CV} {us : List Value}, a7n P C nt σ pl ps acc res → CVL C L w acc us →
  ∃ vs, Instr.fill (fun i => pl.toArray[i]?) us.toArray (ps.map fun q => (q.1, a.eval q.2)) = some vs.toArray ∧ CVL C L w res vs
 | [], acc, res, us, h, hu => by simp only [a7n] at h; subst h; exact ⟨us, rfl, hu⟩
 | (i, x) :: ps, acc, res, us, ⟨v, p, off, sz, h1, h2, h3, h4, h5, h6, h7⟩, hu => by
  obtain ⟨xs, k1, k2, k3⟩ := a4O hr h2 h3 (h1.run L a w hr)
  obtain ⟨vs, g1, g2⟩ := b7r hr h7 (a9x off hu k2)
  refine ⟨vs, ?_, g2⟩
  rw [List.map_cons, b2q (off := off) (sz := sz) (by simpa using h4) k1 (by rw [a2I k2]; exact h5) (by rw [a2I hu]; exact h6)]
  exact g1
theorem a1F (hT : TTOk P T) (hB : BOk P B) {t sz by_ : Nat} {zc cs : List CV} {pl : List (Nat × Nat)} {ps : List (Nat × Operand)} (ho : o.op = .build t ps.toArray) (ht : look T.el t = some (sz, by_, zc)) (hb : look B t = some pl) (h : a7n P C nt σ pl ps zc cs) : Pu P C nt o σ (.agg cs) [] [] := Pu.mk fun L a w hr => by
 obtain ⟨inf, z, g1, g2, g3, g4, g5⟩ := hT.el t sz by_ zc ht
 obtain ⟨c1, _, _⟩ := b0l (C := C) (L := L) (w := w) g5
 obtain ⟨fs, f1, f2⟩ := hB.bs t pl hb
 obtain ⟨vs, k1, k2⟩ := b7r hr h c1
 refine ⟨.agg vs.toArray, by simp only [SVr]; exact ⟨vs, rfl, k2⟩, fun w' _ => ?_⟩
 have hsz : ∀ f ∈ fs.toList, ∃ i, P.info? f.type = some i := fun f hf => by
  have : (f.offset, (P.info? f.type).map (·.size)) ∈ pl.map fun q => (q.1, some q.2) := by rw [← f2]; exact List.mem_map.2 ⟨f, hf, rfl⟩
  obtain ⟨q, _, hq⟩ := List.mem_map.1 this
  simp only [Prod.mk.injEq] at hq
  cases hi : P.info? f.type with
  | none => rw [hi] at hq; cases hq.2
  | some i => exact ⟨i, rfl⟩
 have hpl : (fs.toList.map fun f => (f.offset, ((P.info? f.type).map (·.size)).getD 0)) = pl := by
  have h2 := congrArg (List.map fun q : Nat × Option Nat => (q.1, q.2.getD 0)) f2
  simp only [List.map_map, Function.comp_def, Option.getD_some] at h2
  simpa using h2
 have hm : ∀ g : Field → Sem (Nat × Nat), (∀ f, g f = (do pure (f.offset, ← sizeOf f.type))) → (fs.mapM g).run P w' = .ok pl.toArray w' := fun g hg => by
  rw [c0P (q := fun f => (f.offset, ((P.info? f.type).map (·.size)).getD 0)) (fun f hf => by
   obtain ⟨i, hi⟩ := hsz f hf
   rw [hg f]
   simp [sizeOf, typeInfo, hi]), hpl]
 have hz : z.cells = z.cells.toList.toArray := by simp
 have hps : (Array.map (fun q => (q.1, a.eval q.2)) ps.toArray).toList = ps.map fun q => (q.1, a.eval q.2) := by simp
 unfold execOp
 simp only [ho, Instr.build, zeroValue, typeInfo, Sem.run_bind, run_program, g1, g4, Result.andThen_ok, Sem.run_pure, run_underlying f1, hm _ (fun _ => rfl), hps]
 rw [hz, k1]
 simp
end
end Go.Proofs.YtjkpoekgnmgofaaGreat

namespace Go.Proofs.YtjkpoekgnmgofaaGreat
open Go.RowKit
set_option linter.unusedVariables false
set_option linter.unusedSimpArgs false

/-! ### ownership of one cell -/
theorem b0N {w : World} : ∀ {ds : List DV} {vs : List Value} {fp : List Nat} {i : Nat} {d : DV}, a0V w ds vs fp → ds[i]? = some d → ∃ v fa fd fb, vs[i]? = some v ∧ fp = fa ++ (fd ++ fb) ∧ Own w d v fd ∧ a0V w (ds.set i .hole) vs (fa ++ fb)
 | [], _, _, _, _, _, hd => by simp at hd
 | x :: xs, _, _, 0, d, h, hd => by
  simp only [List.getElem?_cons_zero, Option.some.injEq] at hd
  subst hd
  simp only [a0V] at h
  obtain ⟨v, vs', f1, f2, rfl, rfl, h1, h2⟩ := h
  refine ⟨v, [], f1, f2, rfl, rfl, h1, ?_⟩
  simp only [List.set_cons_zero, a0V, List.nil_append]
  exact ⟨v, vs', [], f2, rfl, rfl, by unfold Own; exact ⟨a7P _ _ (a4l (ok := fun _ => True) _ _ _ h1 (fun _ _ => trivial)), rfl⟩, h2⟩
 | x :: xs, _, _, i + 1, d, h, hd => by
  simp only [List.getElem?_cons_succ] at hd
  simp only [a0V] at h
  obtain ⟨v, vs', f1, f2, rfl, rfl, h1, h2⟩ := h
  obtain ⟨u, fa, fd, fb, g1, rfl, g3, g4⟩ := b0N h2 hd
  refine ⟨u, f1 ++ fa, fd, fb, by simpa using g1, by simp, g3, ?_⟩
  simp only [List.set_cons_succ, a0V]
  exact ⟨v, vs', f1, fa ++ fb, rfl, by simp, h1, g4⟩
theorem b0K {w : World} {e sz n o : Nat} {cs : List DV} {v : Value} {fp : List Nat} (h : Own w (.sl e sz n cs) v fp) (ho : o < cs.length) : ∃ g cap vs f, v = .slice (some ⟨g, 0, none⟩) n cap ∧ fp = g :: f ∧ a0V w cs vs f ∧ (∀ j u, vs[j]? = some u → w.cell? ⟨g, j, none⟩ = some u) := by
 simp only [Own] at h
 obtain ⟨vs, f, rfl, h1, h2, h3, h4⟩ := h
 rcases (a5C h3).2 with ⟨rfl, rfl⟩ | ⟨g, cap, cur, t, fz, rfl, hg, _, _, _, ht⟩
 ·simp at h2; subst h2; simp at ho
 ·refine ⟨g, cap, vs, f, rfl, by simp [Value.ownBlock], h4, fun j u hu => ?_⟩
  rw [cell_of_row _ g j cur t fz hg]
  rw [← ht, List.getElem?_take] at hu
  split at hu
  ·simpa using hu
  ·cases hu
def dvE (k o : Nat) (d : DV) : CV := bif d.plain then .dv [] d else .nest k o d
def a2Q (k : Nat) : Nat → List DV → List CV
 | _, [] => []
 | o, d :: ds => dvE k o d :: a2Q k (o + 1) ds
section
variable {P : Program} {C : Ctx} {nt : Nat} {L : Lyt} {σ : St} {a : Act} {w : World} {o : Oper} {x y : Operand} {T : TT}
theorem b5j {k off g n c : Nat} {d : DV} {v : Value} {fd : List Nat} (ho : Own w d v fd) (hf : ∀ b ∈ fd, b ∈ L.fp k) (hr : L.rv k = .slice (some ⟨g, 0, none⟩) n c) (hg : g ∈ L.fp k) (hc : w.cell? ⟨g, off, none⟩ = some v) : CVr C L w (dvE k off d) v := by
 unfold dvE
 have hl : Lay (okB C L [k]) w d v := a4l _ _ _ ho (fun b hb => .inr ⟨k, by simp, hf b hb⟩)
 cases hp : d.plain with
 | true =>
  simp only [cond_true, CVr]
  exact a4l _ _ _ (a9q (w' := w) hp hl) (by simp)
 | false => exact ⟨hl, g, n, c, hr, hg, hc⟩
theorem c2a {k off : Nat} {d : DV} : ∀ j ∈ (dvE k off d).keys, j = k := by
 unfold dvE
 cases d.plain <;> simp [CV.keys]
theorem a4j (hT : TTOk P T) {t k off : Nat} {d : DV} {c : KC} {u : Unit} (ho : o.op = .load t x) (ht : look T.on t = some u) (hx : Ev P C nt σ x (.eptr k off)) (hk : lkk σ k = some c) (hd : c.cs[off]? = some d) : Pu P C nt o σ (.one (dvE k off d)) [k] [] := Pu.mk fun L a w hr => by
 have h1 := hx.run L a w hr
 simp only [SVr] at h1
 obtain ⟨g, n, cap, e1, e2⟩ := h1
 have hlt : off < c.cs.length := (List.getElem?_eq_some_iff.1 hd).1
 obtain ⟨g', cap', vs, f, k1, k2, k3, k4⟩ := b0K (hr.ks k c hk).1 hlt
 rw [e1] at k1
 simp only [Value.slice.injEq, Option.some.injEq, Addr.mk.injEq, and_true, true_and] at k1
 obtain ⟨rfl, rfl, rfl⟩ := k1
 obtain ⟨v, fa, fd, fb, m1, m2, m3, _⟩ := b0N k3 hd
 have hc := k4 off v m1
 have hgm : g ∈ L.fp k := by rw [k2]; simp
 refine ⟨v, by simp only [SVr]; exact b5j m3 (fun b hb => by rw [k2, m2]; simp [hb]) e1 hgm hc, fun w' hw => ?_⟩
 have hc' : w'.cell? ⟨g, off, none⟩ = some v := (World.cell?_of_block (a := ⟨g, off, none⟩) (hw g (a7d hc) (.inl (.inr ⟨k, by simp, hgm⟩)))).trans hc
 unfold execOp
 simp only [ho, e2, Instr.loadAt, Instr.sureAddr, Sem.run_bind, Sem.run_pure, Result.andThen_ok]
 rw [b1x (hT.on t u ht) hc']
 rfl
theorem b5v {k g n c : Nat} (hr : L.rv k = .slice (some ⟨g, 0, none⟩) n c) (hg : g ∈ L.fp k) : ∀ {ds : List DV} {vs : List Value} {f : List Nat} {off : Nat}, a0V w ds vs f → (∀ b ∈ f, b ∈ L.fp k) → (∀ j u, vs[j]? = some u → w.cell? ⟨g, off + j, none⟩ = some u) → CVL C L w (a2Q k off ds) vs
 | [], _, _, _, h, _, _ => by simp only [a0V] at h; obtain ⟨rfl, _⟩ := h; rfl
 | d :: ds, _, _, off, h, hf, hc => by
  simp only [a0V] at h
  obtain ⟨v, vs', f1, f2, rfl, rfl, h1, h2⟩ := h
  refine ⟨v, vs', rfl, b5j h1 (fun b hb => hf b (by simp [hb])) hr hg (by simpa using hc 0 v rfl), b5v hr hg h2 (fun b hb => hf b (by simp [hb])) (fun j u hu => ?_)⟩
  have := hc (j + 1) u (by simpa using hu)
  rwa [show off + 1 + j = off + (j + 1) by omega]
theorem b3f {k : Nat} : ∀ {ds : List DV} {off : Nat}, ∀ j ∈ (a2Q k off ds).flatMap CV.keys, j = k
 | [], _, j, hj => by simp [a2Q] at hj
 | d :: ds, off, j, hj => by
  simp only [a2Q, List.flatMap_cons, List.mem_append] at hj
  rcases hj with hj | hj
  ·exact c2a j hj
  ·exact b3f j hj
theorem b3k (hT : TTOk P T) {t k off n : Nat} {c : KC} {ds : List DV} (ho : o.op = .load t x) (ht : look T.ag t = some n) (hx : Ev P C nt σ x (.eptr k off)) (hk : lkk σ k = some c) (hl : ds.length = n) (hpos : 0 < n) (hd : sub off n c.cs = ds) : Pu P C nt o σ (.agg (a2Q k off ds)) [k] [] := Pu.mk fun L a w hr => by
 subst hd
 have h1 := hx.run L a w hr
 simp only [SVr] at h1
 obtain ⟨g, m, cap, e1, e2⟩ := h1
 have hle : off + n ≤ c.cs.length := by
  simp only [sub, List.length_take, List.length_drop] at hl
  omega
 obtain ⟨g', cap', vs, f, k1, k2, k3, k4⟩ := b0K (hr.ks k c hk).1 (show off < c.cs.length by omega)
 rw [e1] at k1
 simp only [Value.slice.injEq, Option.some.injEq, Addr.mk.injEq, and_true, true_and] at k1
 obtain ⟨rfl, rfl, rfl⟩ := k1
 have hgm : g ∈ L.fp k := by rw [k2]; simp
 have hsp : c.cs = c.cs.take off ++ (sub off n c.cs ++ (c.cs.drop off).drop n) := by rw [sub, List.take_append_drop, List.take_append_drop]
 have k3' := k3
 rw [hsp] at k3'
 obtain ⟨u1, u2, f1, f2, rfl, rfl, q1, q2⟩ := a4t _ _ _ _ k3'
 obtain ⟨u3, u4, f3, f4, rfl, rfl, q3, q4⟩ := a4t _ _ _ _ q2
 have l1 : u1.length = off := by rw [a2s _ _ _ q1]; simp; omega
 have l3 : u3.length = n := by rw [a2s _ _ _ q3]; exact hl
 have hcell : ∀ j u, u3[j]? = some u → w.cell? ⟨g, off + j, none⟩ = some u := fun j u hu => k4 (off + j) u (by
  have hj : j < u3.length := (List.getElem?_eq_some_iff.1 hu).1
  rw [List.getElem?_append_right (by omega), List.getElem?_append_left (by omega), show off + j - u1.length = j by omega]
  exact hu)
 refine ⟨.agg u3.toArray, by simp only [SVr]; exact ⟨u3, rfl, b5v e1 hgm q3 (fun b hb => by rw [k2]; simp [hb]) hcell⟩, fun w' hw => ?_⟩
 have hb' : w'.heap[g]? = w.heap[g]? := hw g (hr.k_lt hk g hgm) (.inl (.inr ⟨k, by simp, hgm⟩))
 unfold execOp
 simp only [ho, e2, Instr.loadAt, Instr.sureAddr, Sem.run_bind, Sem.run_pure, Result.andThen_ok]
 rw [b3e (us := u3) (hT.ag t n ht) l3 (fun j u hu => (World.cell?_of_block (a := ⟨g, off + j, none⟩) hb').trans (hcell j u hu))]
 rfl
/-! ### a nested cell, taken out and put back -/
theorem Rel.split (h : Rel P C nt L σ a w) {k k' off e sz n : Nat} {c : KC} {cs : List DV} (hk : lkk σ k = some c) (hd : c.cs[off]? = some (.sl e sz n cs)) (hk' : lkk σ k' = none) :
  ∃ L' v g m cap, L.rv k = .slice (some ⟨g, 0, none⟩) m cap ∧ w.cell? ⟨g, off, none⟩ = some v ∧ L'.rv k = L.rv k ∧ L'.rv k' = v ∧ g ∈ L'.fp k ∧
   Rel P C nt L' ⟨(σ.mut k [] true { c with cs := c.cs.set off .hole }).tm, (σ.mut k [] true { c with cs := c.cs.set off .hole }).bx, (k', some ⟨false, e, sz, n, cs⟩) :: (k, some { c with cs := c.cs.set off .hole }) :: σ.ks⟩ a w := by
 have hlt : off < c.cs.length := (List.getElem?_eq_some_iff.1 hd).1
 have hown := (h.ks k c hk).1
 obtain ⟨g, cap, vs, f, k1, k2, k3, k4⟩ := b0K hown hlt
 obtain ⟨v, fa, fd, fb, m1, m2, m3, m4⟩ := b0N k3 hd
 have hkk : k ≠ k' := fun e' => by rw [← e', hk] at hk'; cases hk'
 have hgm : g ∈ L.fp k := by rw [k2]; simp
 have hnd := h.kn k c hk
 rw [k2, m2] at hnd
 simp only [List.nodup_cons, List.mem_append, not_or] at hnd
 obtain ⟨nd1, nd2⟩ := hnd
 rw [List.nodup_append] at nd2
 obtain ⟨nd2, nd3, nd4⟩ := nd2
 rw [List.nodup_append] at nd3
 obtain ⟨nd3, nd5, nd6⟩ := nd3
 have hown1 : Own w (.sl c.e c.sz c.n (c.cs.set off .hole)) (L.rv k) (g :: (fa ++ fb)) := by
  unfold Own at hown ⊢
  obtain ⟨vs2, f2, p1, p2, p3, p4, p5⟩ := hown
  have hvs : vs2 = vs := by
   rcases (a5C p4).2 with ⟨q1, q2⟩ | ⟨g2, cap2, cur, t2, fz2, q1, q3, q4, q5, q6, q7⟩
   ·rw [k1] at q1; cases q1
   ·rw [k1] at q1
    simp only [Value.slice.injEq, Option.some.injEq, Addr.mk.injEq, and_true, true_and] at q1
    obtain ⟨rfl, rfl⟩ := q1
    apply List.ext_getElem (by rw [a2s _ _ _ p5, a2s _ _ _ k3])
    intro i i1 i2
    have r1 := k4 i _ (List.getElem?_eq_getElem i2)
    rw [cell_of_row _ g i cur t2 fz2 q3] at r1
    have r3 : i < c.n * c.sz := by rw [← p3, ← a2s _ _ _ p5]; exact i1
    have r2 : vs2[i]? = cur[i]? := by rw [← q7, List.getElem?_take, if_pos r3, Array.getElem?_toList]
    rw [List.getElem?_eq_getElem i1] at r2
    rw [← r2] at r1
    exact Option.some.inj r1
  subst hvs
  exact ⟨vs2, fa ++ fb, by rw [k1]; simp [Value.ownBlock], p2, by simpa using p3, p4, m4⟩
 have hrel := h.setkey (k := k) (c := c) (c' := { c with cs := c.cs.set off .hole }) (js := []) (same := true) (v' := L.rv k) (f' := g :: (fa ++ fb)) hk (by simp) (Chg.refl _ _) hown1
  (by
   rw [List.nodup_cons, List.nodup_append]
   refine ⟨fun hm => ?_, nd2, nd5, fun x hx y hy => nd4 x hx y (by simp [hy])⟩
   simp only [List.mem_append] at hm
   rcases hm with hm | hm
   ·exact nd1.1 hm
   ·exact nd1.2.2 hm)
  (fun b hb => .inl (by
   rw [k2, m2]
   simp only [List.mem_cons, List.mem_append] at hb ⊢
   rcases hb with hb | hb | hb
   ·exact .inl hb
   ·exact .inr (.inl hb)
   ·exact .inr (.inr (.inr hb)))) (by simp) (fun _ => rfl) (fun e' => ⟨e', rfl⟩)
 have hfd : ∀ b ∈ fd, b ∈ L.fp k := fun b hb => by rw [k2, m2]; simp [hb]
 have hnew := hrel.newkey (k := k') (c := ⟨false, e, sz, n, cs⟩) (v := v) (f := fd)
  (by
   simp only [lkk, St.mut, List.map_nil, List.nil_append, List.cons_append, a0Z]
   rw [if_neg (fun e' => hkk e'.symm)]
   exact hk') m3 rfl nd3 (fun b hb => h.k1 k c hk b (hfd b hb))
  (fun b hb i x hx e' => by
   have hx' : ∃ y, look σ.bx i = some y := by
    have := a9o (fun q : TypeId × List CV => (q.1, q.2.map (CV.kill [k] []))) σ.bx i
    change look (a0i [k] [] σ.bx) i = _ at this
    change look (a0i [k] [] σ.bx) i = some x at hx
    rw [this] at hx
    cases hy : look σ.bx i with
    | none => rw [hy] at hx; cases hx
    | some q => exact ⟨q, rfl⟩
   obtain ⟨y, hy⟩ := hx'
   exact h.bk i k y c hy hk (by rw [show L.bb i = b from e']; exact hfd b hb))
  (fun b hb j d' hj => by
   simp only [lkk, St.mut, List.map_nil, List.nil_append, List.cons_append, a0Z] at hj
   by_cases hjk : j = k
   ·subst hjk
    simp only [if_true]
    intro hm
    simp only [List.mem_cons, List.mem_append] at hm
    rcases hm with hm | hm | hm
    ·exact nd1.2.1 (hm ▸ hb)
    ·exact nd4 b hm b (by simp [hb]) rfl
    ·exact nd6 b hb b hm rfl
   ·rw [if_neg hjk] at hj
    simp only [if_neg hjk]
    exact fun hm => h.kk j k d' c hj hk hjk b hm (hfd b hb))
 refine ⟨_, v, g, c.n, cap, k1, k4 off v m1, ?_, ?_, ?_, hnew⟩
 ·simp [hkk]
 ·simp
 ·simp [hkk]
@[reducible] def St.outs (σ : St) (t k k' off e sz n : Nat) (c : KC) (cs : List DV) : St :=
 ⟨(t, .one (.key k')) :: a0l [k] [] σ.tm, a0i [k] [] σ.bx, (k', some ⟨false, e, sz, n, cs⟩) :: (k, some { c with cs := c.cs.set off .hole }) :: σ.ks⟩
section
variable {Q : Exit → St → Prop} {all : Array Oper} {rest : List Oper} {tm : List (Nat × SV)} {bx : List (Nat × TypeId × List CV)} {ks : List (Nat × Option KC)}
def a9p : List Nat → Bool
 | [] => true
 | x :: xs => !(xs.any fun y => Nat.beq x y) && a9p xs
theorem b3w : ∀ {xs : List Nat}, a9p xs = true → xs.Nodup
 | [], _ => List.nodup_nil
 | x :: xs, h => by
  simp only [a9p, Bool.and_eq_true, Bool.not_eq_true', List.any_eq_false] at h
  refine List.nodup_cons.2 ⟨fun hm => ?_, b3w h.2⟩
  have := h.1 x hm
  simp at this
end
/-! ### contents written out at an element -/
def mid (pre B post : List DV) : List DV := pre ++ (B ++ post)
theorem a3n {pre B post : List DV} {m off j : Nat} {d : DV} (hp : pre.length = m) (ho : off = m + j) (hB : B[j]? = some d) : (mid pre B post)[off]? = some d := by
 unfold mid
 have hj : j < B.length := (List.getElem?_eq_some_iff.1 hB).1
 rw [List.getElem?_append_right (by omega), List.getElem?_append_left (by omega), show off - pre.length = j by omega]
 exact hB
theorem b2r {pre B B' post : List DV} {m off j : Nat} {d : DV} (hp : pre.length = m) (ho : off = m + j) (hB : B.set j d = B') (hj : j < B.length) : (mid pre B post).set off d = mid pre B' post := by
 unfold mid
 rw [List.set_append_right _ _ (by omega), List.set_append_left _ _ (by omega), show off - pre.length = j by omega, hB]
theorem a3X {pre B B' post ds : List DV} {m off j : Nat} (hp : pre.length = m) (ho : off = m + j) (hB : a1e j ds B = B') (hj : j + ds.length ≤ B.length) : a1e off ds (mid pre B post) = mid pre B' post := by
 subst hB
 subst ho
 subst hp
 unfold a1e mid
 rw [List.take_length_add_append, Nat.add_assoc, ← List.drop_drop, List.drop_left, List.take_append_of_le_length (by omega), List.drop_append_of_le_length (by omega)]
 simp
theorem a5a {pre B post : List DV} {m off j n : Nat} (hp : pre.length = m) (ho : off = m + j) (hj : j + n ≤ B.length) : off + n ≤ (mid pre B post).length := by
 simp only [mid, List.length_append]
 omega
theorem Rel.same (h : Rel P C nt L σ a w) {ks : List (Nat × Option KC)} (e : ∀ i, lkk ⟨σ.tm, σ.bx, ks⟩ i = lkk σ i) : Rel P C nt L ⟨σ.tm, σ.bx, ks⟩ a w where
 df := h.df
 sz := h.sz
 tm := h.tm
 bx := h.bx
 ks := fun k c hc => h.ks k c (by rw [← e]; exact hc)
 b1 := h.b1
 k1 := fun k c hc => h.k1 k c (by rw [← e]; exact hc)
 kn := fun k c hc => h.kn k c (by rw [← e]; exact hc)
 bb := h.bb
 bk := fun i k x c hx hc => h.bk i k x c hx (by rw [← e]; exact hc)
 kk := fun k j c d hc hd => h.kk k j c d (by rw [← e]; exact hc) (by rw [← e]; exact hd)
 lk := fun k hk => by rw [e]; exact h.lk k hk
 lb := h.lb
 s0 := h.s0
 chg := h.chg
theorem b8X {Q : Exit → St → Prop} {c : Code} {tm : List (Nat × SV)} {bx : List (Nat × TypeId × List CV)} {ks : List (Nat × Option KC)} {k : Nat} {kc : KC} {cs' : List DV} (hk : lkk ⟨tm, bx, ks⟩ k = some kc) (e : kc.cs = cs')
  (h : Ok P C nt Q c ⟨tm, bx, (k, some { kc with cs := cs' }) :: ks⟩) : Ok P C nt Q c ⟨tm, bx, ks⟩ := by
 subst e
 refine a0h (Weak.mk fun L a w hr => ⟨L, hr.same (ks := (k, some kc) :: ks) fun i => ?_⟩) h
 simp only [lkk, a0Z] at hk ⊢
 split
 ·rename_i e'; rw [e', hk]; rfl
 ·rfl
end
end Go.Proofs.YtjkpoekgnmgofaaGreat

namespace Go.Proofs.YtjkpoekgnmgofaaGreat
open Go.RowKit
set_option linter.unusedVariables false
set_option linter.unusedSimpArgs false

section
variable {P : Program} {C : Ctx} {nt : Nat} {L : Lyt} {σ : St} {a : Act} {w : World} {o : Oper} {x y : Operand} {T : TT}
theorem a8w (hT : TTOk P T) {t e' k n : Nat} {c : KC} (ho : o.op = .call { callee := .builtin .len, args := #[x], argTypes := #[t] }) (h : look T.sl t = some e') (hx : Ev P C nt σ x (.one (.key k))) (hk : lkk σ k = some c) (hn : c.n = n) : Pu P C nt o σ (.one (.dv [] (.int .i64 (n : Int)))) [] [] := by
 subst hn
 exact c5i hT ho h hx hk
theorem c5v (k : IntKind) : k.min ≤ 0 := by cases k <;> decide
theorem c0t {k : IntKind} {m z : Int} (h : InR k m) (h0 : 0 ≤ z) (h1 : z ≤ m) : InR k z := ⟨by have := c5v k; omega, by have := h.2; omega⟩
theorem a9T {t ty : TypeId} {K J : List Nat} {k : IntKind} {m n : Int} (ho : o.op = .binOp .rem t x y ty) (hx : Ev P C nt σ x (.one (.dv K (.int k m)))) (hy : Ev P C nt σ y (.one (.dv J (.int k n)))) (hm : 0 ≤ m) (hn : 0 < n) : Pu P C nt o σ (.one (.dv [] (.int k (m % n)))) [] [] := by
 have e : m.tmod n = m % n := Int.tmod_eq_emod_of_nonneg hm
 have hq : InR k m → InR k (m % n) := fun h1 => c0t h1 (Int.emod_nonneg m (show n ≠ 0 by omega)) (by
  rcases Int.lt_or_le m n with h | h
  ·rw [Int.emod_eq_of_lt hm h]; omega
  ·have := Int.emod_lt_of_pos m hn; omega)
 exact a4H ho hx hy fun h1 h2 => ⟨_, fun ok w => by unfold Lay; exact ⟨rfl, hq h1⟩, fun w => by simp [binOp, Op.intDiv, show n ≠ 0 by omega, e]⟩
end
section
variable {P : Program} {C : Ctx} {nt : Nat} {o : Oper} {x y : Operand} {T : TT} {Q : Exit → St → Prop} {all : Array Oper} {rest : List Oper} {tm : List (Nat × SV)} {bx : List (Nat × TypeId × List CV)} {ks : List (Nat × Option KC)}
end
end Go.Proofs.YtjkpoekgnmgofaaGreat

namespace Go.Proofs.YtjkpoekgnmgofaaGreat
open Go.RowKit
set_option linter.unusedVariables false
set_option linter.unusedSimpArgs false

abbrev a1R := List (Nat × Nat × Nat × List CV)
def a2S : a1R → List (Nat × SV) → List (Nat × SV)
 | [], tm => tm
 | p :: B, tm => (p.2.1, .box p.2.1 0) :: a2S B tm
def a2R : a1R → List (Nat × TypeId × List CV) → List (Nat × TypeId × List CV)
 | [], bx => bx
 | p :: B, bx => (p.2.1, p.2.2.1, p.2.2.2) :: a2R B bx
@[reducible] def St.adds (σ : St) (B : a1R) : St := ⟨a2S B σ.tm, a2R B σ.bx, σ.ks⟩
def a2w (listed : Array Bool) : List Nat → Array Bool
 | [] => listed
 | j :: js => (a2w listed js).setIfInBounds j true
theorem b0r (listed : Array Bool) : ∀ js, (a2w listed js).size = listed.size
 | [] => rfl
 | j :: js => by rw [a2w, Array.size_setIfInBounds, b0r listed js]
theorem b1N (listed : Array Bool) (k : Nat) (hk : k < listed.size) : ∀ js, (a2w listed js)[k]? = some (listed[k] || js.contains k)
 | [] => by simp [a2w, Array.getElem?_eq_getElem hk]
 | j :: js => by
  have ih := b1N listed k hk js
  have e : a2w listed (j :: js) = (a2w listed js).setIfInBounds j true := rfl
  rw [e, Array.getElem?_setIfInBounds, ih, List.contains_cons, b0r]
  by_cases h : j = k
  ·subst h; simp [hk]
  ·have h2 : (k == j) = false := by simpa using fun e => h e.symm
   rw [if_neg h, h2, Bool.false_or]
theorem c0e {listed : Array Bool} {js ks : List Nat} (h : ∀ k, js.contains k = ks.contains k) : a2w listed js = a2w listed ks := by
 apply Array.ext_getElem?
 intro k
 by_cases h1 : k < listed.size
 ·rw [b1N listed k h1, b1N listed k h1, h]
 ·rw [Array.getElem?_eq_none (by rw [b0r]; omega), Array.getElem?_eq_none (by rw [b0r]; omega)]
theorem a9g {listed : Array Bool} {i : Nat} : ∀ {js : List Nat}, i ∉ js → a2w (listed.setIfInBounds i true) js = (a2w listed js).setIfInBounds i true
 | [], _ => rfl
 | j :: js, h => by
  simp only [List.mem_cons, not_or] at h
  rw [a2w, a9g h.2, a2w, Array.setIfInBounds_comm _ _ h.1]
@[reducible] def nos (B : a1R) : List Nat := B.map fun p => p.1
section
variable {σ σ' : St}
theorem b2u {B : a1R} {tm : List (Nat × SV)} (j : Nat) : look (a2S B tm) j = if (B.map fun p => p.2.1).contains j then some (.box j 0) else look tm j := by
 induction B with
 | nil => simp [a2S]
 | cons p B ih =>
  simp only [a2S, a0Z, List.map_cons, List.contains_cons, ih]
  by_cases h : j = p.2.1
  ·simp [h]
  ·have h2 : (j == p.2.1) = false := by simpa using h
   rw [if_neg h, h2, Bool.false_or]
def a5T : a1R → Nat → Option (TypeId × List CV)
 | [], _ => none
 | p :: B, j => if j = p.2.1 then some (p.2.2.1, p.2.2.2) else a5T B j
theorem b0Z {B : a1R} {bx : List (Nat × TypeId × List CV)} (j : Nat) : look (a2R B bx) j = (a5T B j).or (look bx j) := by
 induction B with
 | nil => simp [a2R, a5T]
 | cons p B ih =>
  simp only [a2R, a0Z, a5T, ih]
  split <;> simp
theorem b0a {B : a1R} {j : Nat} (h : ∀ p ∈ B, p.2.1 ≠ j) : a5T B j = none := by
 induction B with
 | nil => rfl
 | cons p B ih =>
  rw [a5T, if_neg (fun e => h p (by simp) e.symm)]
  exact ih fun q hq => h q (by simp [hq])
theorem b6T {B : a1R} (hn : (B.map fun p => p.2.1).Nodup) {p : Nat × Nat × Nat × List CV} (hp : p ∈ B) : a5T B p.2.1 = some (p.2.2.1, p.2.2.2) := by
 induction B with
 | nil => simp at hp
 | cons q B ih =>
  simp only [List.map_cons, List.nodup_cons] at hn
  rw [a5T]
  rcases List.mem_cons.1 hp with rfl | hp
  ·simp
  ·rw [if_neg (fun e => hn.1 (by rw [← e]; exact List.mem_map.2 ⟨p, hp, rfl⟩))]
   exact ih hn.2 hp
variable {P : Program} {C : Ctx} {nt : Nat} {L : Lyt} {a : Act} {w : World}
theorem Rel.sub' (h : Rel P C nt L σ' a w) (h1 : ∀ i v, look σ.tm i = some v → look σ'.tm i = some v) (h2 : ∀ i x, look σ.bx i = some x → look σ'.bx i = some x) (h3 : ∀ k c, lkk σ k = some c → lkk σ' k = some c) (h4 : σ.okB = true) : Rel P C nt L σ a w := by
 simp only [St.okB, Bool.and_eq_true, List.all_eq_true] at h4
 exact {
  df := h.df, sz := h.sz
  tm := fun i v hv => h.tm i v (h1 i v hv)
  bx := fun i t cs hx => h.bx i t cs (h2 i _ hx)
  ks := fun k c hc => h.ks k c (h3 k c hc)
  b1 := fun i x hx => h.b1 i x (h2 i _ hx)
  k1 := fun k c hc => h.k1 k c (h3 k c hc)
  kn := fun k c hc => h.kn k c (h3 k c hc)
  bb := fun i j x y hx hy => h.bb i j x y (h2 i _ hx) (h2 j _ hy)
  bk := fun i k x c hx hc => h.bk i k x c (h2 i _ hx) (h3 k c hc)
  kk := fun k j c d hc hd => h.kk k j c d (h3 k c hc) (h3 j d hd)
  lk := h4.1, lb := h4.2
  s0 := h.s0, chg := h.chg }
structure VOk (P : Program) (all : Array Oper) (nt : Nat) (A : a1R) (σ : St) : Prop where
 op : ∀ p ∈ A, ∃ o, all[p.1]? = some o ∧ o.guard = none ∧ o.dst = some p.2.1 ∧ o.op = .alloc p.2.2.1
 ty : ∀ p ∈ A, ∃ T sz by_, TTOk P T ∧ look T.el p.2.2.1 = some (sz, by_, p.2.2.2)
 lt : ∀ p ∈ A, p.2.1 < nt
 zk : ∀ p ∈ A, p.2.2.2.flatMap CV.keys = []
 bn : ∀ p ∈ A, look σ.bx p.2.1 = none
 tn : ∀ p ∈ A, look σ.tm p.2.1 = none
 nd : (A.map fun p => p.2.1).Nodup
 ni : (nos A).Nodup
 ok : σ.okB = true
theorem VOk.okA {all : Array Oper} {A : a1R} (h : VOk P all nt A σ) {B : a1R} (hB : ∀ p ∈ B, p ∈ A) : (σ.adds B).okB = true := by
 have h0 := h.ok
 simp only [St.okB, Bool.and_eq_true, List.all_eq_true] at h0 ⊢
 have hbx : ∀ b, (look σ.bx b).isSome = true → (look (a2R B σ.bx) b).isSome = true := fun b hb => by
  rw [b0Z]; cases a5T B b <;> simp [hb]
 have hin : ∀ {B : a1R} (hB : ∀ p ∈ B, p ∈ A), ∀ p ∈ B, (look (a2R B σ.bx) p.2.1).isSome = true := by
  intro B
  induction B with
  | nil => intro _ p hp; simp at hp
  | cons q B ih =>
   intro hB p hp
   simp only [a2R, a0Z]
   split
   ·rfl
   ·rcases List.mem_cons.1 hp with rfl | hp
    ·rename_i e; exact absurd rfl e
    ·exact ih (fun r hr => hB r (by simp [hr])) p hp
 constructor
 ·intro k hk
  refine h0.1 k ?_
  simp only [St.tk, List.mem_append] at hk ⊢
  have key : ∀ {B : a1R}, (∀ p ∈ B, p ∈ A) → (k ∈ (a2S B σ.tm).flatMap (fun p => p.2.keys) → k ∈ σ.tm.flatMap fun p => p.2.keys) ∧ (k ∈ (a2R B σ.bx).flatMap (fun p => p.2.2.flatMap CV.keys) → k ∈ σ.bx.flatMap fun p => p.2.2.flatMap CV.keys) := by
   intro B
   induction B with
   | nil => intro _; exact ⟨id, id⟩
   | cons p B ih =>
    intro hB
    obtain ⟨i1, i2⟩ := ih fun q hq => hB q (by simp [hq])
    refine ⟨fun hm => i1 ?_, fun hm => i2 ?_⟩
    ·simpa [a2S, SV.keys] using hm
    ·simpa [a2R, h.zk p (hB p (by simp))] using hm
  rcases hk with hk | hk
  ·exact .inl ((key hB).1 hk)
  ·exact .inr ((key hB).2 hk)
 ·intro b hb
  have key : ∀ {B : a1R}, b ∈ (a2S B σ.tm).flatMap (fun p => p.2.boxes) → b ∈ σ.tm.flatMap (fun p => p.2.boxes) ∨ ∃ p ∈ B, b = p.2.1 := by
   intro B
   induction B with
   | nil => intro hm; exact .inl hm
   | cons p B ih =>
    intro hm
    simp only [a2S, List.flatMap_cons, SV.boxes, List.mem_append, List.mem_singleton] at hm
    rcases hm with hm | hm
    ·exact .inr ⟨p, by simp, hm⟩
    ·rcases ih hm with hm | ⟨q, hq, e⟩
     ·exact .inl hm
     ·exact .inr ⟨q, by simp [hq], e⟩
  rcases key hb with hb | ⟨p, hp, rfl⟩
  ·exact hbx b (h0.2 b hb)
  ·exact hin hB p hp
theorem VOk.tmE {all : Array Oper} {A : a1R} (h : VOk P all nt A σ) {B : a1R} (hB : ∀ p ∈ B, p ∈ A) (i : Nat) (v : SV) (hv : look σ.tm i = some v) : look (σ.adds B).tm i = some v := by
 rw [b2u, if_neg]
 ·exact hv
 ·simp only [List.contains_iff_mem, List.mem_map, not_exists, not_and]
  intro p hp e
  rw [← e, h.tn p (hB p hp)] at hv
  cases hv
theorem VOk.bxE {all : Array Oper} {A : a1R} (h : VOk P all nt A σ) {B : a1R} (hB : ∀ p ∈ B, p ∈ A) (i : Nat) (x : TypeId × List CV) (hv : look σ.bx i = some x) : look (σ.adds B).bx i = some x := by
 rw [b0Z, b0a, Option.none_or]
 ·exact hv
 ·intro p hp e
  rw [← e, h.bn p (hB p hp)] at hv
  cases hv
theorem VOk.drop {all : Array Oper} {A : a1R} (h : VOk P all nt A σ) {B : a1R} (hB : ∀ p ∈ B, p ∈ A) (hr : Rel P C nt L (σ.adds B) a w) : Rel P C nt L σ a w :=
 hr.sub' (h.tmE hB) (h.bxE hB) (fun k c hc => hc) h.ok
/-! ### what holds of a state holds of a greater one -/
structure Ext (P : Program) (C : Ctx) (nt : Nat) (σ σ' : St) : Prop where
 rel : ∀ L a w, Rel P C nt L σ' a w → Rel P C nt L σ a w
 bx : ∀ i x, look σ.bx i = some x → look σ'.bx i = some x
 ks : σ'.ks = σ.ks
theorem VOk.ext {all : Array Oper} {A : a1R} (h : VOk P all nt A σ) {B : a1R} (hB : ∀ p ∈ B, p ∈ A) : Ext P C nt σ (σ.adds B) := ⟨fun _ _ _ hr => h.drop hB hr, h.bxE hB, rfl⟩
theorem Ext.lkk (h : Ext P C nt σ σ') (k : Nat) : lkk σ' k = Go.Proofs.YtjkpoekgnmgofaaGreat.lkk σ k := by simp only [Go.Proofs.YtjkpoekgnmgofaaGreat.lkk, h.ks]
theorem Ext.ev (h : Ext P C nt σ σ') {x : Operand} {v : SV} (hx : Ev P C nt σ x v) : Ev P C nt σ' x v := Ev.mk fun L a w hr => hx.run L a w (h.rel L a w hr)
theorem Ext.pu (h : Ext P C nt σ σ') {o : Oper} {v : SV} {Ks Bs : List Nat} (hx : Pu P C nt o σ v Ks Bs) : Pu P C nt o σ' v Ks Bs := Pu.mk fun L a w hr => hx.run L a w (h.rel L a w hr)
theorem Ext.argC (h : Ext P C nt σ σ') {c u : CV} (hx : a1T σ c u) : a1T σ' c u := by
 cases c with
 | key k => simp only [a1T, h.lkk] at hx ⊢; exact hx
 | dv K d => exact hx
 | nest k o d => exact hx
 | arg i d => exact hx
 | nil => exact hx
 | any => exact hx
theorem Ext.argCs (h : Ext P C nt σ σ') : ∀ {cs us : List CV}, a4M σ cs us → a4M σ' cs us
 | [], _, hx => hx
 | c :: cs, _, ⟨u, us', e, h1, h2⟩ => ⟨u, us', e, h.argC h1, h.argCs h2⟩
theorem Ext.cloB (h : Ext P C nt σ σ') : ∀ {bs : List Nat} {dss : List (List DV)}, a3Z σ bs dss → a3Z σ' bs dss
 | [], _, hx => hx
 | b :: bs, _, ⟨ds, dss', t, e, h1, h2⟩ => ⟨ds, dss', t, e, h.bx b _ h1, h.cloB h2⟩
theorem Ext.argS (h : Ext P C nt σ σ') {v u : SV} (hx : a2V σ v u) : a2V σ' v u := by
 cases v with
 | one c => obtain ⟨c', h1, e⟩ := hx; exact ⟨c', h.argC h1, e⟩
 | agg cs => obtain ⟨c', h1, e⟩ := hx; exact ⟨c', h.argCs h1, e⟩
 | ref K ds => exact hx
 | fn f caps => exact hx
 | clo f bs => obtain ⟨caps, h1, e⟩ := hx; exact ⟨caps, h.cloB h1, e⟩
 | _ => exact hx
theorem Ext.args (h : Ext P C nt σ σ') : ∀ {xs : List Operand} {us : List SV}, a2j P C nt σ xs us → a2j P C nt σ' xs us
 | [], _, hx => hx
 | x :: xs, _, ⟨v, u, us', e, h1, h2, h3⟩ => ⟨v, u, us', e, h.ev h1, h.argS h2, h.args h3⟩
end
/-! ### the judgement -/
structure OpsA (P : Program) (C : Ctx) (nt : Nat) (Q : Exit → St → Prop) (all : Array Oper) (oB oK : List Nat) (hd : Nat → Bool) (A : a1R) (listed : Array Bool) (fuel : Nat) (σ : St) : Prop where
 run : ∀ m : Nat → Bool, ∀ wb L a w, Rel P C nt L (σ.adds (A.filter fun p => m p.1)) a w → SW wb w → C.w0.heap.size ≤ wb.heap.size → (∀ i ∈ oB, L.bb i < wb.heap.size) → (∀ k ∈ oK, ∀ b ∈ L.fp k, b < wb.heap.size) →
  a2f P .any all (QQ P C nt Q) (SW wb) hd (fuel + (A.filter fun p => !m p.1).length) (a2w listed (nos (A.filter fun p => m p.1))) a w
section
variable {P : Program} {C : Ctx} {nt : Nat} {Q : Exit → St → Prop} {all : Array Oper} {oB oK : List Nat} {hd' : Nat → Bool} {A : a1R} {listed : Array Bool} {fuel : Nat} {o : Oper} {d : Nat} {v X : SV} {Ks Bs : List Nat} {g : Bool} {σ σ₁ : St}
def a5y {α : Type} : List α → List (List α)
 | [] => [[]]
 | x :: xs => (a5y xs).map (x :: ·) ++ a5y xs
theorem b7c {α : Type} (m : α → Bool) : ∀ l : List α, l.filter m ∈ a5y l
 | [] => by simp [a5y]
 | x :: xs => by
  have ih := b7c m xs
  rw [List.filter_cons, a5y]
  split
  ·exact List.mem_append.2 (.inl (List.mem_map.2 ⟨_, ih, rfl⟩))
  ·exact List.mem_append.2 (.inr ih)
def b0s (all : Array Oper) (listed : Array Bool) (A : a1R) (i : Nat) : Bool := (a5y A).all fun B =>
 (Region.ready .any all (a2w listed (nos B))).contains i && (Region.ready .any all (a2w listed (nos B))).all fun j => j == i || ((nos A).contains j && !(nos B).contains j)
def b5W (all : Array Oper) (listed : Array Bool) (A : a1R) : Bool := (a5y A).all fun B =>
 B.length == A.length || (!(Region.ready .any all (a2w listed (nos B))).isEmpty && (Region.ready .any all (a2w listed (nos B))).all fun j => (nos A).contains j && !(nos B).contains j)
def c3a (hd : Nat → Bool) (all : Array Oper) (listed : Array Bool) (A : a1R) (i : Nat) : Bool := (a5y A).all fun B => a4y .any all hd (a2w listed (nos B)) i
def c0o (hd : Nat → Bool) (all : Array Oper) (listed : Array Bool) (A : a1R) (i : Nat) : Bool := (a5y A).all fun B => a8m .any all hd (a2w listed (nos B)) i
theorem a8X (m : Nat → Bool) : A.filter (fun p => m p.1) ∈ a5y A := b7c _ A
theorem b3Q {m : Nat → Bool} {j : Nat} (hA : (nos A).contains j = true) (h : (nos (A.filter fun p => m p.1)).contains j = false) : m j = false := by
 simp only [List.contains_iff_mem, List.mem_map] at hA
 obtain ⟨p, hp, rfl⟩ := hA
 cases hm : m p.1 with
 | false => rfl
 | true =>
  have : (nos (A.filter fun p => m p.1)).contains p.1 = true := by
   simp only [List.contains_iff_mem, List.mem_map]
   exact ⟨p, List.mem_filter.2 ⟨hp, hm⟩, rfl⟩
  rw [this] at h; cases h
theorem b1I : ∀ {A : a1R} {m : Nat → Bool} {j : Nat}, (nos A).Nodup → j ∈ nos A → m j = false → (A.filter fun p => !m p.1).length = (A.filter fun p => !(m p.1 || p.1 == j)).length + 1
 | [], _, _, _, h, _ => by simp at h
 | p :: A, m, j, hn, h, hm => by
  simp only [List.map_cons, List.nodup_cons] at hn
  simp only [List.map_cons, List.mem_cons] at h
  by_cases e : p.1 = j
  ·subst e
   have h1 : (A.filter fun q => !m q.1) = A.filter fun q => !(m q.1 || q.1 == p.1) := by
    apply List.filter_congr
    intro q hq
    have : q.1 ≠ p.1 := fun e => hn.1 (by rw [← e]; exact List.mem_map.2 ⟨q, hq, rfl⟩)
    simp [this]
   rw [List.filter_cons, List.filter_cons, hm]
   simp [h1]
  ·have hj : j ∈ nos A := by
    rcases h with h | h
    ·exact absurd h.symm e
    ·exact h
   have ih := b1I hn.2 hj hm
   rw [List.filter_cons, List.filter_cons]
   have e2 : (p.1 == j) = false := by simpa using e
   rw [e2, Bool.or_false]
   split
   ·simp [ih]
   ·exact ih
theorem b8E {m : Nat → Bool} {j : Nat} (hj : j ∈ nos A) : a2w listed (nos (A.filter fun p => m p.1 || p.1 == j)) = (a2w listed (nos (A.filter fun p => m p.1))).setIfInBounds j true := by
 have : (a2w listed (nos (A.filter fun p => m p.1))).setIfInBounds j true = a2w listed (j :: nos (A.filter fun p => m p.1)) := rfl
 rw [this]
 apply c0e
 intro k
 rw [Bool.eq_iff_iff]
 simp only [List.contains_iff_mem, List.mem_map, List.mem_filter, List.mem_cons, Bool.or_eq_true, beq_iff_eq]
 constructor
 ·rintro ⟨p, ⟨hp, h⟩, rfl⟩
  rcases h with h | h
  ·exact .inr ⟨p, ⟨hp, h⟩, rfl⟩
  ·exact .inl h
 ·rintro (rfl | ⟨p, ⟨hp, h⟩, rfl⟩)
  ·obtain ⟨p, hp, rfl⟩ := List.mem_map.1 hj
   exact ⟨p, ⟨hp, .inr rfl⟩, rfl⟩
  ·exact ⟨p, ⟨hp, .inl h⟩, rfl⟩
theorem vfm {m : Nat → Bool} : ∀ p ∈ A.filter (fun p => m p.1), p ∈ A := fun p hp => (List.mem_filter.1 hp).1
theorem b7J (h : VOk P all nt A σ) {m : Nat → Bool} {j : Nat} (hj : j ∈ nos A) (hm : m j = false) {L : Lyt} {a : Act} {w wb : World} (hr : Rel P C nt L (σ.adds (A.filter fun p => m p.1)) a w) (hs : SW wb w) (hB : ∀ i ∈ oB, L.bb i < wb.heap.size) (hK : ∀ k ∈ oK, ∀ b ∈ L.fp k, b < wb.heap.size)
  (hob : (oB.all fun i => (look σ.bx i).isSome) = true) (hok : (oK.all fun k => (lkk σ k).isSome) = true) (K : Act → World → Prop) (Q' : Exit → Act → World → Prop)
  (hk : ∀ L' a' w', Rel P C nt L' (σ.adds (A.filter fun p => m p.1 || p.1 == j)) a' w' → SW wb w' → (∀ i ∈ oB, L'.bb i < wb.heap.size) → (∀ k ∈ oK, ∀ b ∈ L'.fp k, b < wb.heap.size) → K a' w') : ∃ oj, all[j]? = some oj ∧ oj.guard = none ∧ oj.wp P a w K Q' := by
 obtain ⟨p, hp, rfl⟩ := List.mem_map.1 hj
 obtain ⟨oj, h1, h2, h3, h4⟩ := h.op p hp
 obtain ⟨T, sz, by_, hT, ht⟩ := h.ty p hp
 refine ⟨oj, h1, h2, ?_⟩
 have hout : ∀ q ∈ A.filter (fun p => m p.1), q.2.1 ≠ p.2.1 := fun q hq e => by
  obtain ⟨hq1, hq2⟩ := List.mem_filter.1 hq
  have : q = p := by
   have key : ∀ {l : a1R}, (l.map fun p => p.2.1).Nodup → q ∈ l → p ∈ l → q = p := by
    intro l
    induction l with
    | nil => intro _ h; simp at h
    | cons x l ih =>
     intro hn h1 h2
     simp only [List.map_cons, List.nodup_cons] at hn
     rcases List.mem_cons.1 h1 with e1 | e1 <;> rcases List.mem_cons.1 h2 with e2 | e2
     ·rw [e1, e2]
     ·exact absurd (List.mem_map.2 ⟨p, e2, by rw [← e, e1]⟩ : x.2.1 ∈ l.map fun p => p.2.1) hn.1
     ·exact absurd (List.mem_map.2 ⟨q, e1, by rw [e, e2]⟩ : x.2.1 ∈ l.map fun p => p.2.1) hn.1
     ·exact ih hn.2 e1 e2
   exact key h.nd hq1 hp
  subst this
  rw [hm] at hq2; cases hq2
 have hbn : look (σ.adds (A.filter fun p => m p.1)).bx p.2.1 = none := by
  rw [b0Z, b0a hout, Option.none_or]; exact h.bn p hp
 have hef := b2A (P := P) (C := C) (nt := nt) (σ := σ.adds (A.filter fun p => m p.1)) hT h4 h3 (by simpa [Nat.blt_eq] using h.lt p hp) ht hbn
 refine hef.run L a w hr K Q' fun L' σ' a' w' e h5 h6 => hk L' a' w' ?_ (hs.chg h6.chg) (fun i hi => ?_) (fun k hk' => ?_)
 ·subst e
  have hmm : ∀ q ∈ A.filter (fun q => m q.1 || q.1 == p.1), q ∈ A.filter (fun q => m q.1) ∨ q = p := fun q hq => by
   obtain ⟨hq1, hq2⟩ := List.mem_filter.1 hq
   simp only [Bool.or_eq_true, beq_iff_eq] at hq2
   rcases hq2 with hq2 | hq2
   ·exact .inl (List.mem_filter.2 ⟨hq1, hq2⟩)
   ·right
    have key : ∀ {l : a1R}, (nos l).Nodup → q ∈ l → p ∈ l → q = p := by
     intro l
     induction l with
     | nil => intro _ h; simp at h
     | cons x l ih =>
      intro hn h1 h2
      simp only [List.map_cons, List.nodup_cons] at hn
      rcases List.mem_cons.1 h1 with e1 | e1 <;> rcases List.mem_cons.1 h2 with e2 | e2
      ·rw [e1, e2]
      ·exact absurd (List.mem_map.2 ⟨p, e2, by rw [← hq2, e1]⟩ : x.1 ∈ nos l) hn.1
      ·exact absurd (List.mem_map.2 ⟨q, e1, by rw [hq2, e2]⟩ : x.1 ∈ nos l) hn.1
      ·exact ih hn.2 e1 e2
    exact key h.ni hq1 hp
  refine h5.sub' (fun i u hu => ?_) (fun i x hx => ?_) (fun k c hc => hc) (h.okA fun p hp => (List.mem_filter.1 hp).1)
  ·simp only [St.put, a0Z]
   rw [b2u] at hu ⊢
   split at hu
   ·rename_i hc
    simp only [List.contains_iff_mem, List.mem_map] at hc
    obtain ⟨q, hq, rfl⟩ := hc
    rcases hmm q hq with hq | rfl
    ·rw [if_neg (hout q hq), if_pos (by simp only [List.contains_iff_mem, List.mem_map]; exact ⟨q, hq, rfl⟩)]
     exact hu
    ·rw [if_pos rfl]; exact hu
   ·rename_i hc
    split
    ·rename_i e; rw [e, h.tn p hp] at hu; cases hu
    ·split
     ·rename_i h7
      exfalso
      apply hc
      simp only [List.contains_iff_mem, List.mem_map] at h7 ⊢
      obtain ⟨q, hq, e⟩ := h7
      obtain ⟨hq1, hq2⟩ := List.mem_filter.1 hq
      exact ⟨q, List.mem_filter.2 ⟨hq1, by simp [hq2]⟩, e⟩
     ·exact hu
  ·simp only [St.put, a0Z]
   rw [b0Z] at hx ⊢
   have hnd' : ((A.filter fun q => m q.1 || q.1 == p.1).map fun p => p.2.1).Nodup := (List.Sublist.map _ List.filter_sublist).nodup h.nd
   have hnd2 : ((A.filter fun q => m q.1).map fun p => p.2.1).Nodup := (List.Sublist.map _ List.filter_sublist).nodup h.nd
   by_cases hq : ∃ q ∈ A.filter (fun q => m q.1 || q.1 == p.1), q.2.1 = i
   ·obtain ⟨q, hq, rfl⟩ := hq
    rw [b6T hnd' hq, Option.some_or] at hx
    rcases hmm q hq with hq | rfl
    ·rw [if_neg (hout q hq), b6T hnd2 hq, Option.some_or]; exact hx
    ·rw [if_pos rfl]; exact hx
   ·rw [b0a (fun q hq' e => hq ⟨q, hq', e⟩), Option.none_or] at hx
    split
    ·rename_i e; rw [e, h.bn p hp] at hx; cases hx
    ·rw [b0a (fun q hq' e => hq ⟨q, List.mem_filter.2 ⟨(List.mem_filter.1 hq').1, by simp [(List.mem_filter.1 hq').2]⟩, e⟩), Option.none_or]
     exact hx
 ·obtain ⟨x, hx⟩ := Option.isSome_iff_exists.1 (List.all_eq_true.1 hob i hi)
  rw [h6.box i x (h.bxE vfm i x hx)]; exact hB i hi
 ·obtain ⟨c, hc⟩ := Option.isSome_iff_exists.1 (List.all_eq_true.1 hok k hk')
  rw [h6.key k c hc]; exact hK k hk'
theorem b1i {ops : Array Oper} {Q' : Exit → Act → World → Prop} {i : Nat} {oi : Oper} {K : Act → World → Prop} {a : Act} {w : World} (hi : ops[i]? = some oi) (hg : oi.guard = none) (h : oi.wp P a w K Q') : wpOp P ops Q' i K a w := by
 unfold wpOp
 simp only [hi]
 have hw : Region.wanted oi (yielded ops a.tmps) = true := by simp [Region.wanted, hg]
 rw [if_pos hw]
 exact .inl h
theorem b9v (A : a1R) (h : OpsA P C nt Q all oB oK hd' A listed fuel σ) : OpsD P C nt Q all oB oK hd' listed (fuel + A.length) σ := ⟨fun wb L a w hr hs hw hB hK => by
 have e1 : A.filter (fun p => (fun _ : Nat => false) p.1) = [] := by rw [List.filter_eq_nil_iff]; simp
 have e2 : A.filter (fun p => !(fun _ : Nat => false) p.1) = A := by rw [List.filter_eq_self]; simp
 have := h.run (fun _ => false) wb L a w (by rw [e1]; exact hr) hs hw hB hK
 rw [e1, e2] at this
 exact this⟩
theorem b9Y (hv : VOk P all nt A σ) (hob : (oB.all fun i => (look σ.bx i).isSome) = true) (hok : (oK.all fun k => (lkk σ k).isSome) = true) (hr0 : b5W all listed A = true) (h : OpsD P C nt Q all oB oK hd' (a2w listed (nos A)) fuel (σ.adds A)) : OpsA P C nt Q all oB oK hd' A listed fuel σ := by
 refine ⟨fun m => ?_⟩
 obtain ⟨n, hn⟩ : ∃ n, n = (A.filter fun p => !m p.1).length := ⟨_, rfl⟩
 induction n generalizing m with
 | zero =>
  intro wb L a w hr hs hw hB hK
  have hall : A.filter (fun p => m p.1) = A := by
   rw [List.filter_eq_self]
   intro p hp
   cases hm : m p.1 with
   | true => rfl
   | false =>
    have : p ∈ A.filter fun p => !m p.1 := List.mem_filter.2 ⟨hp, by simp [hm]⟩
    rw [List.eq_nil_of_length_eq_zero hn.symm] at this
    simp at this
  rw [← hn, hall]
  rw [hall] at hr
  exact h.run wb L a w hr hs hw hB hK
 | succ n ih =>
  intro wb L a w hr hs hw hB hK
  have h1 := List.all_eq_true.1 hr0 _ (a8X m)
  rw [← hn]
  simp only [Bool.or_eq_true, beq_iff_eq, Bool.and_eq_true, Bool.not_eq_true', List.all_eq_true] at h1
  rcases h1 with h1 | ⟨h1, h2⟩
  ·exfalso
   have : A.filter (fun p => m p.1) = A := List.Sublist.eq_of_length List.filter_sublist h1
   rw [List.filter_eq_self] at this
   have h3 : (A.filter fun p => !m p.1) = [] := by rw [List.filter_eq_nil_iff]; intro p hp; simp [this p hp]
   rw [h3] at hn; simp at hn
  ·refine ⟨fun e => (by rw [e] at h1; simp at h1), fun j hj => ?_⟩
   obtain ⟨g1, g2⟩ := h2 j hj
   have hjA : j ∈ nos A := by simpa using g1
   have hmj := b3Q g1 g2
   have hlen := b1I hv.ni hjA hmj
   obtain ⟨oj, k1, k2, k3⟩ := b7J (Q' := QQ P C nt Q) (K := fun a' w' => (hd' j = true → SW wb w') ∧ a2f P .any all (QQ P C nt Q) (SW wb) hd' (fuel + n) ((a2w listed (nos (A.filter fun p => m p.1))).setIfInBounds j true) a' w') hv hjA hmj hr hs hB hK hob hok
    (fun L' a' w' q1 q2 q3 q4 => ⟨fun _ => q2, by
     have := ih (fun i => m i || i == j) (by omega) wb L' a' w' q1 q2 hw q3 q4
     rw [b8E hjA] at this
     rw [show n = (A.filter fun p => !(m p.1 || p.1 == j)).length by omega]
     exact this⟩)
   exact b1i k1 k2 k3
theorem b2n (i : Nat) (hi : all[i]? = some o) (hg : o.guard = none) (hv : VOk P all nt A σ) (hiA : (nos A).contains i = false) (hob : (oB.all fun i => (look σ.bx i).isSome) = true) (hok : (oK.all fun k => (lkk σ k).isSome) = true) (hr0 : b0s all listed A i = true)
  (hp : ∀ B : a1R, (∀ p ∈ B, p ∈ A) → EfG P C nt o (σ.adds B) (fun σ' => σ' = σ₁.adds B ∨ ∀ L a w, Rel P C nt L σ' a w → Rel P C nt L (σ₁.adds B) a w)) (h : OpsA P C nt Q all oB oK hd' A (listed.setIfInBounds i true) fuel σ₁) : OpsA P C nt Q all oB oK hd' A listed (fuel + 1) σ := by
 refine ⟨fun m => ?_⟩
 obtain ⟨n, hn⟩ : ∃ n, n = (A.filter fun p => !m p.1).length := ⟨_, rfl⟩
 induction n generalizing m with
 | zero =>
  intro wb L a w hr hs hw hB hK
  have h1 := List.all_eq_true.1 hr0 _ (a8X m)
  simp only [Bool.and_eq_true, List.all_eq_true, Bool.or_eq_true, beq_iff_eq, Bool.not_eq_true'] at h1
  rw [← hn]
  refine ⟨fun e => (by rw [e] at h1; simp at h1), fun j hj => ?_⟩
  rcases h1.2 j hj with rfl | ⟨g1, g2⟩
  ·refine b1i hi hg ((hp _ vfm).run L a w hr _ _ fun L' σ' a' w' e h5 h6 => ⟨fun _ => hs.chg h6.chg, ?_⟩)
   have h7 : Rel P C nt L' (σ₁.adds (A.filter fun p => m p.1)) a' w' := by
    rcases e with e | e
    ·rw [← e]; exact h5
    ·exact e _ _ _ h5
   have := h.run m wb L' a' w' h7 (hs.chg h6.chg) hw (fun i hi => by
    obtain ⟨x, hx⟩ := Option.isSome_iff_exists.1 (List.all_eq_true.1 hob i hi)
    rw [h6.box i x (hv.bxE vfm i x hx)]; exact hB i hi) (fun k hk' => by
    obtain ⟨c, hc⟩ := Option.isSome_iff_exists.1 (List.all_eq_true.1 hok k hk')
    rw [h6.key k c hc]; exact hK k hk')
   rw [← hn, a9g (fun hm => by
    obtain ⟨p, hp', e⟩ := List.mem_map.1 hm
    have : (nos A).contains j = true := by simp only [List.contains_iff_mem, List.mem_map]; exact ⟨p, vfm p hp', e⟩
    rw [this] at hiA; cases hiA)] at this
   exact this
  ·exfalso
   have hmj := b3Q g1 g2
   obtain ⟨p, hp', rfl⟩ := List.mem_map.1 (by simpa using g1 : j ∈ nos A)
   have : p ∈ A.filter fun p => !m p.1 := List.mem_filter.2 ⟨hp', by simp [hmj]⟩
   rw [List.eq_nil_of_length_eq_zero hn.symm] at this
   simp at this
 | succ n ih =>
  intro wb L a w hr hs hw hB hK
  have h1 := List.all_eq_true.1 hr0 _ (a8X m)
  simp only [Bool.and_eq_true, List.all_eq_true, Bool.or_eq_true, beq_iff_eq, Bool.not_eq_true'] at h1
  rw [← hn]
  refine ⟨fun e => (by rw [e] at h1; simp at h1), fun j hj => ?_⟩
  rcases h1.2 j hj with rfl | ⟨g1, g2⟩
  ·refine b1i hi hg ((hp _ vfm).run L a w hr _ _ fun L' σ' a' w' e h5 h6 => ⟨fun _ => hs.chg h6.chg, ?_⟩)
   have h7 : Rel P C nt L' (σ₁.adds (A.filter fun p => m p.1)) a' w' := by
    rcases e with e | e
    ·rw [← e]; exact h5
    ·exact e _ _ _ h5
   have := h.run m wb L' a' w' h7 (hs.chg h6.chg) hw (fun i hi => by
    obtain ⟨x, hx⟩ := Option.isSome_iff_exists.1 (List.all_eq_true.1 hob i hi)
    rw [h6.box i x (hv.bxE vfm i x hx)]; exact hB i hi) (fun k hk' => by
    obtain ⟨c, hc⟩ := Option.isSome_iff_exists.1 (List.all_eq_true.1 hok k hk')
    rw [h6.key k c hc]; exact hK k hk')
   rw [← hn, a9g (fun hm => by
    obtain ⟨p, hp', e⟩ := List.mem_map.1 hm
    have : (nos A).contains j = true := by simp only [List.contains_iff_mem, List.mem_map]; exact ⟨p, vfm p hp', e⟩
    rw [this] at hiA; cases hiA)] at this
   rw [show fuel + (n + 1) = fuel + 1 + n by omega] at this
   exact this
  ·have hjA : j ∈ nos A := by simpa using g1
   have hmj := b3Q g1 g2
   have hlen := b1I hv.ni hjA hmj
   obtain ⟨oj, k1, k2, k3⟩ := b7J (Q' := QQ P C nt Q) (K := fun a' w' => (hd' j = true → SW wb w') ∧ a2f P .any all (QQ P C nt Q) (SW wb) hd' (fuel + 1 + n) ((a2w listed (nos (A.filter fun p => m p.1))).setIfInBounds j true) a' w') hv hjA hmj hr hs hB hK hob hok
    (fun L' a' w' q1 q2 q3 q4 => ⟨fun _ => q2, by
     have := ih (fun i => m i || i == j) (by omega) wb L' a' w' q1 q2 hw q3 q4
     rw [b8E hjA] at this
     rw [show n = (A.filter fun p => !(m p.1 || p.1 == j)).length by omega]
     exact this⟩)
   exact b1i k1 k2 k3
theorem VOk.perm {tm : List (Nat × SV)} {bx : List (Nat × TypeId × List CV)} {ks : List (Nat × Option KC)} (hv : VOk P all nt A ⟨(d, v) :: tm, bx, ks⟩) {B : a1R} (hB : ∀ p ∈ B, p ∈ A) {C : Ctx} {L : Lyt} {a : Act} {w : World} (hr : Rel P C nt L ⟨(d, v) :: a2S B tm, a2R B bx, ks⟩ a w) : Rel P C nt L (St.adds ⟨(d, v) :: tm, bx, ks⟩ B) a w :=
 hr.sub' (fun i u hu => by
  simp only [a0Z]
  rw [b2u] at hu ⊢
  split at hu
  ·rename_i hc
   have hne : i ≠ d := by
    rintro rfl
    simp only [List.contains_iff_mem, List.mem_map] at hc
    obtain ⟨q, hq, rfl⟩ := hc
    have := hv.tn q (hB q hq)
    rw [a0Z, if_pos rfl] at this
    cases this
   rw [if_neg hne, if_pos hc]; exact hu
  ·rename_i hc
   simp only [a0Z] at hu
   split at hu
   ·rename_i e; rw [if_pos e]; exact hu
   ·rename_i e; rw [if_neg e, if_neg hc]; exact hu) (fun _ _ h => h) (fun _ _ h => h) (hv.okA hB)
def b4m (all : Array Oper) (nt : Nat) (A : a1R) (tms bxs : List Nat) : Bool :=
 (A.all fun p => (match all[p.1]? with
  | some o => o.guard.isNone && o.dst == some p.2.1 && (match o.op with | .alloc t => t == p.2.2.1 | _ => false)
  | none => false) && Nat.blt p.2.1 nt && !(tms.contains p.2.1) && !(bxs.contains p.2.1)) && a9p (A.map fun p => p.2.1) && a9p (nos A)
def a8M (T : TT) : a1R → Prop
 | [] => True
 | p :: A => (∃ sz by_, look T.el p.2.2.1 = some (sz, by_, p.2.2.2)) ∧ p.2.2.2.flatMap CV.keys = [] ∧ a8M T A
theorem a8M.mem {T : TT} : ∀ {A : a1R}, a8M T A → ∀ p ∈ A, (∃ sz by_, look T.el p.2.2.1 = some (sz, by_, p.2.2.2)) ∧ p.2.2.2.flatMap CV.keys = []
 | [], _, p, hp => by simp at hp
 | q :: A, h, p, hp => by
  rcases List.mem_cons.1 hp with rfl | hp
  ·exact ⟨h.1, h.2.1⟩
  ·exact h.2.2.mem p hp
theorem b2c {α : Type} : ∀ {l : List (Nat × α)} {j : Nat}, (l.map fun p => p.1).contains j = false → look l j = none
 | [], _, _ => by simp [look]
 | p :: l, j, h => by
  simp only [List.map_cons, List.contains_cons, Bool.or_eq_false_iff] at h
  obtain ⟨k, x⟩ := p
  rw [a0Z, if_neg (by simpa using h.1)]
  exact b2c h.2
theorem vok {T : TT} (hT : TTOk P T) (ht : a8M T A) (hb : b4m all nt A (σ.tm.map fun p => p.1) (σ.bx.map fun p => p.1) = true) (ho : σ.okB = true) : VOk P all nt A σ := by
 simp only [b4m, Bool.and_eq_true, List.all_eq_true, Bool.not_eq_true'] at hb
 obtain ⟨⟨h1, h2⟩, h3⟩ := hb
 refine ⟨fun p hp => ?_, fun p hp => ?_, fun p hp => by have := (h1 p hp).1.1.2; simpa [Nat.blt_eq] using this, fun p hp => (ht.mem p hp).2, fun p hp => b2c (h1 p hp).2, fun p hp => b2c (h1 p hp).1.2, b3w h2, b3w h3, ho⟩
 ·have := (h1 p hp).1.1.1
  split at this
  ·rename_i oj hoj
   simp only [Bool.and_eq_true, beq_iff_eq, Option.isNone_iff_eq_none] at this
   refine ⟨oj, hoj, this.1.1, this.1.2, ?_⟩
   have h4 := this.2
   split at h4
   ·rename_i t e; rw [e]; rw [beq_iff_eq] at h4; rw [h4]
   ·cases h4
  ·cases this
 ·obtain ⟨⟨sz, by_, h⟩, _⟩ := ht.mem p hp
  exact ⟨T, sz, by_, hT, h⟩
/-! the steps, over states that are written out -/
section
variable {tm : List (Nat × SV)} {bx : List (Nat × TypeId × List CV)} {ks : List (Nat × Option KC)}
theorem a5K {T : TT} {A : a1R} (hT : TTOk P T) (ht : a8M T A) (h : OpsA P C nt Q all oB oK hd' A listed fuel ⟨tm, bx, ks⟩) : OpsD P C nt Q all oB oK hd' listed (fuel + A.length) ⟨tm, bx, ks⟩ := b9v A h
theorem a5Z (hv : VOk P all nt A ⟨tm, bx, ks⟩) (hob : (oB.all fun i => (look bx i).isSome) = true) (hok : (oK.all fun k => (lkk ⟨tm, bx, ks⟩ k).isSome) = true) (hr0 : b5W all listed A = true) (h : OpsD P C nt Q all oB oK hd' (a2w listed (nos A)) fuel ⟨a2S A tm, a2R A bx, ks⟩) : OpsA P C nt Q all oB oK hd' A listed fuel ⟨tm, bx, ks⟩ := b9Y hv hob hok hr0 h
theorem a6k (i : Nat) (hi : all[i]? = some o) (ht : c3a hd' all listed A i = true) (hiA : (nos A).contains i = false) (hg : o.guard = none) (hd : o.dst = some d) (hv : VOk P all nt A ⟨tm, bx, ks⟩) (hv1 : VOk P all nt A ⟨(d, v) :: tm, bx, ks⟩) (hp : Pu P C nt o ⟨tm, bx, ks⟩ v Ks Bs) (h1 : (Ks.all fun k => oK.contains k) = true) (h2 : (Bs.all fun k => oB.contains k) = true) (hn : Nat.blt d nt = true) (hk : a1o ⟨tm, bx, ks⟩ v = true)
  (h : OpsA P C nt Q all oB oK hd' A (listed.setIfInBounds i true) fuel ⟨(d, v) :: tm, bx, ks⟩) : OpsA P C nt Q all oB oK hd' A listed (fuel + 1) ⟨tm, bx, ks⟩ := ⟨fun m wb L a w hr hs hw hB hK => by
 have hx := hv.ext (C := C) (B := A.filter fun p => m p.1) vfm
 obtain ⟨r, h3, h4⟩ := b0u hr hs hw hB hK (hx.pu hp) h1 h2
 rw [show fuel + 1 + (A.filter fun p => !m p.1).length = fuel + (A.filter fun p => !m p.1).length + 1 by omega]
 refine a6a i (v := r) hi (List.all_eq_true.1 ht _ (a8X m)) (fun _ _ _ h => h) hs (.inl ⟨by simp [Region.wanted, hg], h4⟩) ?_
 rw [hd, ← a9g (fun hm => by
  obtain ⟨p, hp', e⟩ := List.mem_map.1 hm
  have : (nos A).contains i = true := by simp only [List.contains_iff_mem, List.mem_map]; exact ⟨p, vfm p hp', e⟩
  rw [this] at hiA; cases hiA)]
 refine h.run m wb L _ w (hv1.perm vfm ?_) hs hw hB hK
 refine hr.put (by simpa [Nat.blt_eq] using hn) h3 (a1Q hk).1 fun b hb => ?_
 obtain ⟨x, hx'⟩ := Option.isSome_iff_exists.1 ((a1Q hk).2 b hb)
 rw [hx.bx b x hx']; rfl⟩
theorem a2G (i : Nat) (hi : all[i]? = some o) (ht : c0o hd' all listed A i = true) (hex : a7B o = true) (hiA : (nos A).contains i = false) (hg : o.guard = none) (hd : o.dst = some d) (hv : VOk P all nt A ⟨tm, bx, ks⟩) (hv1 : VOk P all nt A ⟨(d, v) :: tm, bx, ks⟩) (hp : Pu P C nt o ⟨tm, bx, ks⟩ v Ks Bs) (hn : Nat.blt d nt = true) (hk : a1o ⟨tm, bx, ks⟩ v = true)
  (h : OpsA P C nt Q all oB oK hd' A (listed.setIfInBounds i true) fuel ⟨(d, v) :: tm, bx, ks⟩) : OpsA P C nt Q all oB oK hd' A listed (fuel + 1) ⟨tm, bx, ks⟩ := ⟨fun m wb L a w hr hs hw hB hK => by
 have hx := hv.ext (C := C) (B := A.filter fun p => m p.1) vfm
 obtain ⟨r, h3, h4⟩ := (hx.pu hp).run L a w hr
 rw [show fuel + 1 + (A.filter fun p => !m p.1).length = fuel + (A.filter fun p => !m p.1).length + 1 by omega]
 refine b1L i (v := r) hi (List.all_eq_true.1 ht _ (a8X m)) (fun _ _ _ h => h) (.inl ⟨by simp [Region.wanted, hg], fun w' _ => b1G hex (h4 w fun _ _ _ => rfl) w'⟩) ?_
 rw [hd, ← a9g (fun hm => by
  obtain ⟨p, hp', e⟩ := List.mem_map.1 hm
  have : (nos A).contains i = true := by simp only [List.contains_iff_mem, List.mem_map]; exact ⟨p, vfm p hp', e⟩
  rw [this] at hiA; cases hiA)]
 refine h.run m wb L _ w (hv1.perm vfm ?_) hs hw hB hK
 refine hr.put (by simpa [Nat.blt_eq] using hn) h3 (a1Q hk).1 fun b hb => ?_
 obtain ⟨x, hx'⟩ := Option.isSome_iff_exists.1 ((a1Q hk).2 b hb)
 rw [hx.bx b x hx']; rfl⟩
theorem a7N (m i : Nat) {f : FuncId} {xs : List Operand} {ats : Array TypeId} {us : List SV} {kk : List (Nat × Option KC)} (hi : all[i]? = some o) (ht : b0s all listed A i = true) (hiA : (nos A).contains i = false) (hg : o.guard = none) (hd : o.dst = some d) (hv : VOk P all nt A ⟨tm, bx, ks⟩) (hv1 : VOk P all nt A ⟨(d, v.sh m) :: tm, bx, shK m kk ++ ks⟩) (ho : o.op = .call { callee := .value (.func f), args := xs.toArray, argTypes := ats })
  (hc : ∀ (args : Array Value) (w : World), (callFunc f args).run P w = .ok (.enter f args) w) (hf : KFn P f us v kk) (ha : a2j P C nt ⟨tm, bx, ks⟩ xs us) (hn : Nat.blt d nt = true) (hres : v.retOk = true) (hfree : (kk.all fun q => (lkk ⟨tm, bx, ks⟩ (m + q.1)).isNone) = true)
  (hb : (oB.all fun i => (look bx i).isSome) = true) (hk : (oK.all fun k => (lkk ⟨tm, bx, ks⟩ k).isSome) = true)
  (h : OpsA P C nt Q all oB oK hd' A (listed.setIfInBounds i true) fuel ⟨(d, v.sh m) :: tm, bx, shK m kk ++ ks⟩) : OpsA P C nt Q all oB oK hd' A listed (fuel + 1) ⟨tm, bx, ks⟩ :=
 b2n i hi hg hv hiA hb hk ht (fun B hB => EfG.mk fun L a w hr K Q' hk' =>
  (a7z (σ := St.adds ⟨tm, bx, ks⟩ B) (ι := Unit) (v := fun _ => v) (kk := fun _ => kk) (p := fun _ => True) m ho hd hn hc hf.ok ((hv.ext hB).args ha) (fun u σ' h => ⟨(), h.1, h.2, trivial⟩) (fun _ => hres) (fun _ => hfree)).run L a w hr K Q' fun L' σ' a' w' h1 h2 h3 => hk' L' σ' a' w' (.inr (by
   obtain ⟨_, _, e⟩ := h1
   subst e
   exact fun L a w hr => hv1.perm hB hr)) h2 h3) h
theorem b6m (i : Nat) {f : FuncId} {xs : List Operand} {ats : Array TypeId} {us : List SV} (hi : all[i]? = some o) (ht : b0s all listed A i = true) (hiA : (nos A).contains i = false) (hg : o.guard = none) (hd : o.dst = some d) (hv : VOk P all nt A ⟨tm, bx, ks⟩) (hv1 : VOk P all nt A ⟨(d, X) :: tm, bx, ks⟩) (ho : o.op = .call { callee := .value (.func f), args := xs.toArray, argTypes := ats })
  (hc : ∀ (args : Array Value) (w : World), (callFunc f args).run P w = .ok (.enter f args) w) (hf : PFn P f us X) (ha : a2j P C nt ⟨tm, bx, ks⟩ xs us) (hp : X.plain = true) (hn : Nat.blt d nt = true)
  (hb : (oB.all fun i => (look bx i).isSome) = true) (hk : (oK.all fun k => (lkk ⟨tm, bx, ks⟩ k).isSome) = true)
  (h : OpsA P C nt Q all oB oK hd' A (listed.setIfInBounds i true) fuel ⟨(d, X) :: tm, bx, ks⟩) : OpsA P C nt Q all oB oK hd' A listed (fuel + 1) ⟨tm, bx, ks⟩ :=
 b2n i hi hg hv hiA hb hk ht (fun B hB => EfG.mk fun L a w hr K Q' hk' =>
  ((a8T ho hc hf hp ((hv.ext hB).args ha)).efg (σ := St.adds ⟨tm, bx, ks⟩ B) hd hn).run L a w hr K Q' fun L' σ' a' w' h1 h2 h3 => hk' L' σ' a' w' (.inr (by
   obtain ⟨u, hu, e⟩ := h1
   subst e
   subst hu
   exact fun L a w hr => hv1.perm hB hr)) h2 h3) h
end
end
end Go.Proofs.YtjkpoekgnmgofaaGreat

namespace Go.Proofs.YtjkpoekgnmgofaaGreat
open Go.RowKit
open Go.Proofs
def a4r : TT where
 sl := [(22, 5), (24, 60), (25, 78), (28, 40), (31, 3), (38, 68), (55, 9), (58, 93), (64, 137)]
 ag := [(7, 4), (13, 2), (26, 4), (27, 4), (29, 1), (30, 1), (39, 5), (40, 5), (59, 3), (60, 3), (62, 3), (63, 3), (65, 1), (66, 1), (67, 7), (68, 7), (77, 2), (78, 2), (80, 3), (81, 3), (92, 4), (93, 4), (109, 3), (110, 3), (125, 8), (126, 8), (136, 2), (137, 2)]
 on := [(2, ()), (3, ()), (4, ()), (5, ()), (9, ()), (12, ()), (21, ()), (22, ()), (24, ()), (25, ()), (28, ()), (31, ()), (38, ()), (55, ()), (58, ()), (64, ()), (116, ()), (154, ()), (156, ())]
 of := [(7000, 0), (7001, 1), (7002, 2), (7003, 3), (13000, 0), (13001, 1), (26000, 0), (26001, 1), (26002, 2), (26003, 3), (27000, 0), (27001, 1), (27002, 2), (27003, 3), (29000, 0), (30000, 0), (39000, 0), (39001, 1), (39002, 2), (39003, 3), (39004, 4), (40000, 0), (40001, 1), (40002, 2), (40003, 3), (40004, 4), (59000, 0), (59001, 1), (59002, 2), (60000, 0), (60001, 1), (60002, 2), (62000, 0), (62001, 1), (62002, 2), (63000, 0), (63001, 1), (63002, 2), (65000, 0), (66000, 0), (67000, 0), (67001, 1), (67002, 2), (67003, 5), (67004, 6), (68000, 0), (68001, 1), (68002, 2), (68003, 5), (68004, 6), (77000, 0), (77001, 1), (78000, 0), (78001, 1), (80000, 0), (80001, 1), (80002, 2), (81000, 0), (81001, 1), (81002, 2), (92000, 0), (92001, 3), (93000, 0), (93001, 3), (109000, 0), (109001, 1), (109002, 2), (110000, 0), (110001, 1), (110002, 2), (125000, 0), (125001, 1), (125002, 2), (125003, 5), (126000, 0), (126001, 1), (126002, 2), (126003, 5), (136000, 0), (136001, 1), (137000, 0), (137001, 1)]
 el := [(2, (1, 8, [.dv [] (.int .i64 0)])), (3, (1, 8, [.dv [] (.int .i64 0)])), (4, (1, 1, [.dv [] (.bool false)])), (5, (1, 1, [.dv [] (.int .u8 0)])), (7, (4, 24, [.dv [] (.int .i64 0), .dv [] (.int .i64 0), .dv [] (.bool false), .dv [] (.int .u8 0)])), (9, (1, 16, [.dv [] (.str ByteArray.empty)])), (12, (1, 8, [.dv [] (.int .u64 0)])), (13, (2, 24, [.dv [] (.str ByteArray.empty), .dv [] (.int .u64 0)])), (21, (1, 4, [.dv [] (.int .i32 0)])), (22, (1, 24, [.nil])), (24, (1, 24, [.nil])), (25, (1, 24, [.nil])), (26, (4, 72, [.dv [] (.str ByteArray.empty), .dv [] (.int .i64 0), .nil, .nil])), (27, (4, 72, [.dv [] (.str ByteArray.empty), .dv [] (.int .i64 0), .nil, .nil])), (28, (1, 24, [.nil])), (29, (1, 24, [.nil])), (30, (1, 24, [.nil])), (31, (1, 24, [.nil])), (38, (1, 24, [.nil])), (39, (5, 72, [.dv [] (.int .i64 0), .nil, .dv [] (.int .i64 0), .dv [] (.int .i64 0), .nil])), (40, (5, 72, [.dv [] (.int .i64 0), .nil, .dv [] (.int .i64 0), .dv [] (.int .i64 0), .nil])), (55, (1, 24, [.nil])), (58, (1, 24, [.nil])), (59, (3, 48, [.dv [] (.str ByteArray.empty), .nil, .dv [] (.int .i64 0)])), (60, (3, 48, [.dv [] (.str ByteArray.empty), .nil, .dv [] (.int .i64 0)])), (62, (3, 32, [.dv [] (.int .i64 0), .dv [] (.int .i64 0), .dv [] (.str ByteArray.empty)])), (63, (3, 32, [.dv [] (.int .i64 0), .dv [] (.int .i64 0), .dv [] (.str ByteArray.empty)])), (64, (1, 24, [.nil])), (65, (1, 24, [.nil])), (66, (1, 24, [.nil])), (67, (7, 96, [.dv [] (.int .i64 0), .dv [] (.str ByteArray.empty), .dv [] (.int .i64 0), .dv [] (.int .i64 0), .dv [] (.str ByteArray.empty), .nil, .dv [] (.str ByteArray.empty)])), (68, (7, 96, [.dv [] (.int .i64 0), .dv [] (.str ByteArray.empty), .dv [] (.int .i64 0), .dv [] (.int .i64 0), .dv [] (.str ByteArray.empty), .nil, .dv [] (.str ByteArray.empty)])), (77, (2, 32, [.dv [] (.str ByteArray.empty), .dv [] (.str ByteArray.empty)])), (78, (2, 32, [.dv [] (.str ByteArray.empty), .dv [] (.str ByteArray.empty)])), (80, (3, 40, [.nil, .dv [] (.int .i64 0), .dv [] (.int .i64 0)])), (81, (3, 40, [.nil, .dv [] (.int .i64 0), .dv [] (.int .i64 0)])), (92, (4, 56, [.dv [] (.int .i64 0), .dv [] (.int .i64 0), .dv [] (.str ByteArray.empty), .nil])), (93, (4, 56, [.dv [] (.int .i64 0), .dv [] (.int .i64 0), .dv [] (.str ByteArray.empty), .nil])), (109, (3, 40, [.dv [] (.int .i64 0), .dv [] (.str ByteArray.empty), .dv [] (.str ByteArray.empty)])), (110, (3, 40, [.dv [] (.int .i64 0), .dv [] (.str ByteArray.empty), .dv [] (.str ByteArray.empty)])), (116, (1, 8, [.dv [] (.int .u64 0)])), (125, (8, 72, [.dv [] (.bool false), .dv [] (.bool false), .dv [] (.int .i64 0), .dv [] (.int .i64 0), .dv [] (.str ByteArray.empty), .dv [] (.int .i64 0), .dv [] (.int .i64 0), .dv [] (.str ByteArray.empty)])), (126, (8, 72, [.dv [] (.bool false), .dv [] (.bool false), .dv [] (.int .i64 0), .dv [] (.int .i64 0), .dv [] (.str ByteArray.empty), .dv [] (.int .i64 0), .dv [] (.int .i64 0), .dv [] (.str ByteArray.empty)])), (136, (2, 24, [.dv [] (.str ByteArray.empty), .dv [] (.int .i64 0)])), (137, (2, 24, [.dv [] (.str ByteArray.empty), .dv [] (.int .i64 0)])), (154, (1, 4, [.dv [] (.int .u32 0)])), (156, (1, 8, [.dv [] (.int .u64 0)]))]
 st := [(9, ())]
 bo := [(4, ())]
 it := [(2, .i64), (3, .i64), (5, .u8), (12, .u64), (21, .i32), (116, .u64), (154, .u32), (156, .u64)]
def c2C : List (Nat × List (Nat × Nat)) := [(7, [(0, 1), (1, 1), (2, 1), (3, 1)]), (13, [(0, 1), (1, 1)]), (26, [(0, 1), (1, 1), (2, 1), (3, 1)]), (27, [(0, 1), (1, 1), (2, 1), (3, 1)]), (29, [(0, 1)]), (30, [(0, 1)]), (39, [(0, 1), (1, 1), (2, 1), (3, 1), (4, 1)]), (40, [(0, 1), (1, 1), (2, 1), (3, 1), (4, 1)]), (59, [(0, 1), (1, 1), (2, 1)]), (60, [(0, 1), (1, 1), (2, 1)]), (62, [(0, 1), (1, 1), (2, 1)]), (63, [(0, 1), (1, 1), (2, 1)]), (65, [(0, 1)]), (66, [(0, 1)]), (67, [(0, 1), (1, 1), (2, 3), (5, 1), (6, 1)]), (68, [(0, 1), (1, 1), (2, 3), (5, 1), (6, 1)]), (77, [(0, 1), (1, 1)]), (78, [(0, 1), (1, 1)]), (80, [(0, 1), (1, 1), (2, 1)]), (81, [(0, 1), (1, 1), (2, 1)]), (92, [(0, 3), (3, 1)]), (93, [(0, 3), (3, 1)]), (109, [(0, 1), (1, 1), (2, 1)]), (110, [(0, 1), (1, 1), (2, 1)]), (125, [(0, 1), (1, 1), (2, 3), (5, 3)]), (126, [(0, 1), (1, 1), (2, 3), (5, 3)]), (136, [(0, 1), (1, 1)]), (137, [(0, 1), (1, 1)])]

theorem hT : TTOk Tryz.prog a4r := TT.ok (by kernel_rfl)
theorem hB : BOk Tryz.prog c2C := bOk (by kernel_rfl)
theorem b1V (a : Int) (b : Int) (s : ByteArray) (a' : Int) (b' : Int) (s' : ByteArray) (w : World) : (binOp .eql 63 (.agg [Value.int .i64 a, .int .i64 b, .string s].toArray) (.agg [Value.int .i64 a', .int .i64 b', .string s'].toArray)).run Tryz.prog w = .ok (.bool (((decide (a = a') && (decide (b = b') && sEq s s'))))) w := by
 rw [run_eql_struct]; simp [go_sem, sEq]; by_cases h_a : a = a' <;> by_cases h_b : b = b' <;> by_cases h_s : s.toList = s'.toList <;> simp [h_a, h_b, h_s]
theorem c6k (a : Int) (b : Int) (s : ByteArray) (a' : Int) (b' : Int) (s' : ByteArray) (w : World) : (binOp .neq 63 (.agg [Value.int .i64 a, .int .i64 b, .string s].toArray) (.agg [Value.int .i64 a', .int .i64 b', .string s'].toArray)).run Tryz.prog w = .ok (.bool (!((decide (a = a') && (decide (b = b') && sEq s s'))))) w := by
 rw [run_neq_struct]; simp [go_sem, sEq]; by_cases h_a : a = a' <;> by_cases h_b : b = b' <;> by_cases h_s : s.toList = s'.toList <;> simp [h_a, h_b, h_s]
theorem b5G (s : ByteArray) (a : Int) (s' : ByteArray) (a' : Int) (w : World) : (binOp .neq 137 (.agg [Value.string s, .int .i64 a].toArray) (.agg [Value.string s', .int .i64 a'].toArray)).run Tryz.prog w = .ok (.bool (!((sEq s s' && decide (a = a'))))) w := by
 rw [run_neq_struct]; simp [go_sem, sEq]; by_cases h_s : s.toList = s'.toList <;> by_cases h_a : a = a' <;> simp [h_s, h_a]
theorem b8j (s : ByteArray) (u : ByteArray) (s' : ByteArray) (u' : ByteArray) (w : World) : (binOp .eql 78 (.agg [Value.string s, .string u].toArray) (.agg [Value.string s', .string u'].toArray)).run Tryz.prog w = .ok (.bool (((sEq s s' && sEq u u')))) w := by
 rw [run_eql_struct]; simp [go_sem, sEq]; by_cases h_s : s.toList = s'.toList <;> by_cases h_u : u.toList = u'.toList <;> simp [h_s, h_u]
theorem b4a (s : ByteArray) (u : ByteArray) (s' : ByteArray) (u' : ByteArray) (w : World) : (binOp .neq 78 (.agg [Value.string s, .string u].toArray) (.agg [Value.string s', .string u'].toArray)).run Tryz.prog w = .ok (.bool (!((sEq s s' && sEq u u')))) w := by
 rw [run_neq_struct]; simp [go_sem, sEq]; by_cases h_s : s.toList = s'.toList <;> by_cases h_u : u.toList = u'.toList <;> simp [h_s, h_u]
@[reducible] def b2b (b : UInt8) : List DV := [.int .u8 (b.toNat : Int)]
@[reducible] def a4T (n : Int) : List DV := [.int .i64 n]
@[reducible] def a9b (s : Str) : List DV := [.str s]
@[reducible] def a1h (bs : List UInt8) : DV := a3b 5 1 b2b bs
@[reducible] def a3w (bs : List Int) : DV := a3b 3 1 a4T bs
@[reducible] def a7c (bs : List Str) : DV := a3b 9 1 a9b bs
@[reducible] def a1H (f : a5f) : List DV := [.str f.1, .int .i64 f.2]
@[reducible] def a0L (r : a0A) : DV := a3b 137 2 a1H r
@[reducible] def a0K (x : a0O) : List DV := [.int .i64 x.1.1, .int .i64 x.1.2.1, .str x.1.2.2, a0L x.2]
abbrev a3v := Bool × Bool × a0Y × a0Y
@[reducible] def a0x (xs : List a0O) : DV := a3b 93 4 a0K xs
@[reducible] def a0T (s : a0u) : List DV := [.str s.1, a0x s.2.1, .int .i64 s.2.2]
@[reducible] def a0k (xs : List a0u) : DV := a3b 60 3 a0T xs
@[reducible] def a1O (d : a3d) : List DV := [.str d.1, .str d.2]
@[reducible] def a0r (xs : List a3d) : DV := a3b 78 2 a1O xs
@[reducible] def eOp (o : OpT) : List DV := [.int .i64 o.1, .str o.2.1, .int .i64 o.2.2.1.1, .int .i64 o.2.2.1.2.1, .str o.2.2.1.2.2, a0L o.2.2.2.1, .str o.2.2.2.2]
@[reducible] def a1m (xs : List OpT) : DV := a3b 68 7 eOp xs
@[reducible] def eTx (t : TxT) : List DV := [.int .i64 t.1, a1m t.2.1, .int .i64 t.2.2.1, .int .i64 t.2.2.2.1, a0k t.2.2.2.2]
@[reducible] def a1q (xs : List TxT) : DV := a3b 40 5 eTx xs
end Go.Proofs.YtjkpoekgnmgofaaGreat

namespace Go.Proofs.YtjkpoekgnmgofaaGreat
open Go.RowKit
set_option linter.unusedVariables false
set_option linter.unusedSimpArgs false

section
variable {P : Program}
theorem c3B {C : Ctx} {nt : Nat} {L : Lyt} {σ : St} {a : Act} {w : World} (h : Rel P C nt L σ a w) (r : Value) : Rel P C 1 L ⟨[], [], []⟩ ⟨#[r], []⟩ w where
 df := rfl
 sz := rfl
 tm := fun i v hv => by cases hv
 bx := fun i t cs h => by cases h
 ks := fun k c h => by cases h
 b1 := fun i x h => by cases h
 k1 := fun k c h => by cases h
 kn := fun k c h => by cases h
 bb := fun i j x y h => by cases h
 bk := fun i k x c h => by cases h
 kk := fun k j c d h => by cases h
 lk := fun k hk => by simp [St.tk] at hk
 lb := fun b hb => by simp [St.tb] at hb
 s0 := h.s0
 chg := h.chg
theorem c3n (us : List SV) {i : Nat} {v : SV} (h : us[i]? = some v) : look (a2k 0 us) i = some v := by
 have key : ∀ (l : List SV) (j i : Nat), l[i]? = some v → look (a2k j l) (j + i) = some v := by
  intro l
  induction l with
  | nil => intro j i h; simp at h
  | cons u l ih =>
   intro j i h
   simp only [a2k, a0Z]
   cases i with
   | zero => simpa using h
   | succ i =>
    rw [if_neg (by omega), show j + (i + 1) = j + 1 + i by omega]
    exact ih (j + 1) i (by simpa using h)
 simpa using key us 0 i h
@[reducible] def b5D (P : Program) (us : List SV) (w : World) (vals : List Value) : Prop := ∃ (C : Ctx) (L : Lyt), ∀ (i : Nat) (v : SV), us[i]? = some v → ∃ x, vals[i]? = some x ∧ SVr P C L w v x
theorem c2y {C : Ctx} {L : Lyt} {w : World} {us : List SV} {vals : List Value} (hl : vals.length = us.length) {bx : List (Nat × TypeId × List CV)} {ks : List (Nat × Option KC)} {nt : Nat} (hr : Rel P C nt L ⟨a2k 0 us, bx, ks⟩ ⟨vals.toArray, []⟩ w) : b5D P us w vals := by
 refine ⟨C, L, fun i v hv => ?_⟩
 have hi : i < vals.length := by rw [hl]; exact (List.getElem?_eq_some_iff.1 hv).1
 refine ⟨vals[i], List.getElem?_eq_getElem hi, ?_⟩
 have h1 := hr.tm i v (c3n us hv)
 have h2 : vals.toArray.getD i undef = vals[i] := by simp [Array.getD_eq_getD_getElem?, List.getElem?_eq_getElem hi]
 simpa only [h2] using h1
theorem b9M {f : FuncId} {us : List SV} {X : SV} {v : Value} (hX : X.plain = true) (hv : ∀ C L w, SVr P C L w X v) (h : ∀ (w : World) (vals : List Value), vals.length = us.length → b5D P us w vals → Calls P f vals.toArray w (Ret v w)) : PFn P f us X := by
 refine ⟨fun w S0 L vals hl hr => ?_⟩
 refine (h w vals hl (c2y hl hr)).mono ?_
 rintro x w' ⟨rfl, hc⟩
 obtain ⟨p1, p2, p3, p4⟩ := a9d hX
 refine ⟨_, X, ⟨[], [], []⟩, L, rfl, rfl, ?_⟩
 exact ((c3B hr v).grow hc).also (d := 0) (v := X) (by simpa [Array.getD] using hv _ _ _) (by rw [p2]; simp) (by rw [p3]; simp)
end
end Go.Proofs.YtjkpoekgnmgofaaGreat

namespace Go.Proofs.YtjkpoekgnmgofaaGreat
open Go.RowKit
open Go.Proofs
set_option linter.unusedVariables false
set_option linter.unusedSimpArgs false

set_option maxHeartbeats 1000000 in
set_option maxRecDepth 100000 in
theorem c0X (a b : ByteArray) (w : World) :
  Calls Tryz.prog 150 #[.string a, .string b] w fun e w' => e = .returned (.int .i64 (Lib.compareBytes a.data.toList b.data.toList)) ∧ w' = w := by
 go_enter Tryz.func150, Tryz.ntmps150
 go_wp2
 rw [run_callFunc_extern Tryz.func154 (by kernel_rfl) (by kernel_rfl) (by kernel_rfl) (e := Extern.BytealgCompare.compare) (by kernel_rfl), Lib.run_compareString]
 simp only [Result.andThen]
 rw [Oper.upon_value]
 go_wp2
 go_ret
 exact ⟨rfl, rfl⟩
set_option maxHeartbeats 1000000 in
theorem c5Y (a b : ByteArray) (w : World) :
  Calls Tryz.prog 130 #[.string a, .string b] w fun e w' => e = .returned (.int .i64 (Lib.compareBytes a.data.toList b.data.toList)) ∧ w' = w := by
 go_enter Tryz.func130, Tryz.ntmps130
 go_wp2_with (go_at_call 150; refine (c0X _ _ _).mono ?_; rintro e w' ⟨rfl, rfl⟩)
 go_ret
 exact ⟨rfl, rfl⟩
def a4C (a b : Str) : Int := if sLt a b then -1 else if sLt b a then 1 else 0
theorem b4h : ∀ x y : List UInt8, Lib.compareBytes x y = if Op.bytesLess x y then -1 else if Op.bytesLess y x then 1 else 0
 | [], [] => rfl
 | [], _ :: _ => rfl
 | _ :: _, [] => rfl
 | a :: x, b :: y => by
  have ih := b4h x y
  have e1 : ∀ a b : UInt8, (a < b) ↔ a.toNat < b.toNat := fun _ _ => Iff.rfl
  simp only [Lib.compareBytes, Op.bytesLess]
  rcases Nat.lt_trichotomy a.toNat b.toNat with h | h | h
  ·simp [(e1 a b).2 h]
  ·have e : a = b := UInt8.toNat_inj.1 h
   subst e
   have : ¬ a < a := by rw [e1]; omega
   simp [this, ih]
  ·have h2 : ¬ a < b := by rw [e1]; omega
   have h3 : ¬ a = b := by rintro rfl; omega
   have h4 : ¬ b = a := fun e => h3 e.symm
   simp [(e1 b a).2 h, h2, h3]
theorem c5F (s : ByteArray) : ∀ (n i : Nat) (r : List UInt8), s.size - i = n → ByteArray.toList.loop s i r = r.reverse ++ s.data.toList.drop i := by
 intro n
 induction n with
 | zero =>
  intro i r h
  rw [ByteArray.toList.loop, if_neg (by omega), List.drop_eq_nil_of_le (by have : s.data.toList.length = s.size := rfl; omega)]; simp
 | succ n ih =>
  intro i r h
  have hl : s.data.toList.length = s.size := rfl
  have hi : i < s.data.toList.length := by omega
  rw [ByteArray.toList.loop, if_pos (by omega), ih (i + 1) _ (by omega), List.drop_eq_getElem_cons hi]
  have : s.get! i = s.data.toList[i] := by
   rw [ByteArray.get!]
   simp only [Array.getElem_toList]
   exact getElem!_pos s.data i (by simpa using hi)
  rw [this]
  simp
theorem a6c (s : ByteArray) : s.toList = s.data.toList := by
 rw [ByteArray.toList, c5F s _ 0 [] rfl]; simp
theorem b9h (a b : ByteArray) : Lib.compareBytes a.data.toList b.data.toList = a4C a b := by
 rw [b4h, a4C, sLt, sLt, a6c, a6c]
theorem c4l {x y : Str} : PFn Tryz.prog 130 [.one (.dv [] (.str x)), .one (.dv [] (.str y))] (.one (.dv [] (.int .i64 (a4C x y)))) := by
 refine b9M (v := .int .i64 (a4C x y)) rfl (fun C L w => ?_) (fun w vals hl h => ?_)
 ·simp only [SVr, CVr, Lay]
  refine ⟨trivial, ?_⟩
  unfold a4C
  split
  ·exact ⟨by decide, by decide⟩
  ·split <;> exact ⟨by decide, by decide⟩
 ·obtain ⟨C, L, h⟩ := h
  obtain ⟨u, h1, h2⟩ := h 0 _ rfl
  obtain ⟨v, h3, h4⟩ := h 1 _ rfl
  simp only [SVr, CVr, Lay] at h2 h4
  obtain ⟨rfl, _⟩ := h2
  obtain ⟨rfl, _⟩ := h4
  obtain rfl : vals = [.string x, .string y] := by
   match vals, hl with
   | [a, b], _ => simp at h1 h3; rw [h1, h3]
  refine (c5Y x y w).mono ?_
  rintro e w' ⟨rfl, rfl⟩
  exact ⟨by rw [b9h], Chg.refl _ _⟩
end Go.Proofs.YtjkpoekgnmgofaaGreat

namespace Go.Proofs.YtjkpoekgnmgofaaGreat
open Go.RowKit
open Go.Proofs

def c5D (b : UInt8) : Value := .int .u8 (b.toNat : Int)
def half (bs : List UInt8) (n k : Nat) : Array Value := ((bs.take k).map c5D ++ List.replicate (n - k) (Value.int .u8 0)).toArray
end Go.Proofs.YtjkpoekgnmgofaaGreat

namespace Go.Proofs.YtjkpoekgnmgofaaGreat
open Go.RowKit
open Go.Proofs

def c3V (acc v : Int) : Int := (acc * 1000003 + v % 2147483647 + 13) % 2147483647
def b9F (l : List Int) : Int := l.foldl c3V 11
def b2i (n : Nat) (l : List UInt8) : List Int := (n : Int) :: l.map (fun b => (b.toNat : Int))
def b9z (number : Int) (bs : List UInt8) : Int := b9F ([101, number] ++ b2i bs.length bs)
end Go.Proofs.YtjkpoekgnmgofaaGreat

namespace Go.Proofs.YtjkpoekgnmgofaaGreat
open Go.RowKit
open Go.Proofs

def uv (n : Nat) : List UInt8 := if n < 128 then [UInt8.ofNat n] else UInt8.ofNat (n % 128 + 128) :: uv (n / 128)
termination_by n
decreasing_by omega
def b9c (b : List UInt8) (n : Int) : List UInt8 := if 0 ≤ n ∧ n ≤ 1000000000000 then b ++ uv n.toNat else b


end Go.Proofs.YtjkpoekgnmgofaaGreat

namespace Go.Proofs.YtjkpoekgnmgofaaGreat
open Go.RowKit
open Go.Proofs

def c1a (b d : List UInt8) : List UInt8 := b9c b d.length ++ d

end Go.Proofs.YtjkpoekgnmgofaaGreat

namespace Go.Proofs.YtjkpoekgnmgofaaGreat
open Go.RowKit
open Go.Proofs

def b9w (bs : List UInt8) (v : Int) (ds : List UInt8) : List UInt8 := b9c (c1a bs ds) (b9z v ds)
def b5A (bs : List UInt8) (v : Int) (ds : List UInt8) : Prop := v < 0 ∨ 4000 < (b9w bs v ds).length
instance (bs : List UInt8) (v : Int) (ds : List UInt8) : Decidable (b5A bs v ds) := by unfold b5A; infer_instance
end Go.Proofs.YtjkpoekgnmgofaaGreat

namespace Go.Proofs.YtjkpoekgnmgofaaGreat
open Go.RowKit
open Go.Proofs
set_option linter.unusedVariables false
set_option linter.unusedSimpArgs false

section
variable {P : Program}
theorem a6U (w : World) (dT sT ty elem : TypeId) (sz g o dLen dCap : Nat) (a : Addr) (sLen sCap : Nat) (cur : Array Value) (t : TypeId) (cs : List Value)
  (hu : P.underlying dT = some (.slice elem)) (hs : (P.info? elem).map (·.size) = some sz)
  (hg : w.heap[g]? = some (.cells cur t (0, 0))) (hn : cs.length = Nat.min sLen dLen * sz)
  (hsrc : ∀ j v, cs[j]? = some v → w.cell? (a.add j) = some v) (hfit : o + cs.length ≤ cur.size) (h1 : ∀ v ∈ cs, v.oneCell' = true) :
  (Builtin.copy_ #[dT, sT] ty #[.slice (some ⟨g, o, none⟩) dLen dCap, .slice (some a) sLen sCap]).run P w =
   .ok (goInt (Nat.min sLen dLen)) (w.setRow g (cur.toList.take o ++ cs ++ cur.toList.drop (o + cs.length)).toArray) := by
 have hl := run_loadCells_list (P := P) w a cs hsrc
 have hst := run_storeCells_at P g o t cs 0 cur w hg (by simpa using hfit) h1
 cases hq : P.info? elem with
 | none => simp [hq] at hs
 | some i =>
  have hi : i.size = sz := by simpa [hq] using hs
  simp [Builtin.copy_, run_underlying hu, Builtin.lenOf, Builtin.firstCells, sizeOf, typeInfo, hq, hi, ← hn, hl, hst]
end
def a3I (w : World) (v : Value) (e sz n i : Nat) (xs us : List Value) (ex : Ending) (w' : World) : Prop :=
 ∃ A' c', ex = .returned (.slice A' (n + 1) c') ∧ w'.ownsRow 0 e sz (.slice A' (n + 1) c') (n + 1) (xs.take (i * sz) ++ us ++ xs.drop (i * sz)) ∧
  Chg v.ownBlock.toList w w' ∧ (v.ownBlock = (Value.slice A' (n + 1) c').ownBlock ∨ (Value.slice A' (n + 1) c').ownBlock = some w.heap.size)

set_option maxHeartbeats 4000000 in
set_option maxRecDepth 100000 in
/-- at the end -/
theorem c1y {e sz by_ n vc : Nat} {z : Value} {v : Value} {xs us : List Value} {va : Addr} {w : World} (ht : Tryz.prog.underlying 58 = some (.slice e)) (hinfo : (Tryz.prog.info? e).map (fun i => (i.zero, i.size, i.bytes)) = some (some z, sz, by_)) (hzs : z.cells.size = sz) (hsz : 0 < sz)
  (hown : w.ownsRow 0 e sz v n xs) (hsrc : a3i w (some va) 1 sz us) (h1 : ∀ u ∈ us, u.oneCell' = true) (h63 : n + 1 ≤ maxLen) (hb : (n + 1) * by_ ≤ 140737488355328) :
  Calls Tryz.prog 122 #[v, .int .i64 n, .slice (some va) 1 vc] w (a3I w v e sz n n xs us) := by
 have hm : n ≤ 9223372036854775807 := by unfold maxLen at h63; omega
 have hx1 : xs.length = n * sz := hown.1
 have hso : ∀ w, (Go.sizeOf e).run Tryz.prog w = .ok sz w := fun w => by
  obtain ⟨i0, q1, q2, q3, q4⟩ := info_parts hinfo
  simp [sizeOf, typeInfo, q1, q3]
 have hfin : ∀ A' c' w', w'.ownsRow 0 e sz (.slice A' (n + 1) c') (n + 1) (xs ++ us) → Chg v.ownBlock.toList w w' → (v.ownBlock = (Value.slice A' (n + 1) c').ownBlock ∨ (Value.slice A' (n + 1) c').ownBlock = some w.heap.size) → a3I w v e sz n n xs us (.returned (.slice A' (n + 1) c')) w' := fun A' c' w' g1 g2 g3 =>
  ⟨A', c', rfl, by rw [← hx1]; simpa using g1, g2, g3⟩
 rcases hown.2 with ⟨rfl, rfl⟩ | ⟨g, cap, cur, rfl, _, hg, hnc, hcm, hcs, htk⟩
 ·have HO := Lib.hid hown
  have HF := Lib.hid hfin
  have HS := Lib.hid hsrc
  have H1 := Lib.hid h1
  clear hown hfin hsrc h1 hx1
  go_enter Tryz.func122, Tryz.ntmps122
  go_wp2_with (at_builtin; refine b0I _ rfl _ _ 58 rfl e z sz by_ ht hinfo hzs hsz _ 0 xs rfl HO (some va) 1 vc us rfl HS H1 h63 hb ?_; intro A' c' w' h9 hchg hblk)
  all_goals (go_ret; exact HF _ _ _ h9 hchg hblk)
 ·have HO := Lib.hid hown
  have HF := Lib.hid hfin
  have HS := Lib.hid hsrc
  have H1 := Lib.hid h1
  have HG := Lib.hid hg
  have HT := Lib.hid htk
  have hc63 : cap ≤ 9223372036854775807 := by unfold maxLen at hcm; omega
  clear hown hfin hsrc h1 hx1 hg htk
  go_enter Tryz.func122, Tryz.ntmps122
  go_wp2_with (at_builtin; refine b0I _ rfl _ _ 58 rfl e z sz by_ ht hinfo hzs hsz _ n xs rfl HO (some va) 1 vc us rfl HS H1 h63 hb ?_; intro A' c' w' h9 hchg hblk)
  all_goals (go_ret; exact HF _ _ _ h9 hchg hblk)

theorem a4K {w : World} {g : Nat} {cur : Array Value} : Chg [g] w (w.setRow g cur) := by
 refine ⟨rfl, rfl, rfl, by simp [World.setRow], fun k hk hn => ?_⟩
 simp only [World.setRow]
 rw [Array.getElem?_modify, if_neg (by simpa using fun e => hn (by simp [e]))]
set_option maxHeartbeats 4000000 in
set_option maxRecDepth 100000 in
/-- in place -/
theorem c5A {e sz by_ n i cap vb vcap e2 : Nat} {z : Value} {g : Nat} {xs us : List Value} {w : World} {cur curv : Array Value} (ht : Tryz.prog.underlying 58 = some (.slice e)) (hinfo : (Tryz.prog.info? e).map (fun i => (i.zero, i.size, i.bytes)) = some (some z, sz, by_)) (hsz : 0 < sz)
  (hxl : xs.length = n * sz) (hg : w.heap[g]? = some (.cells cur e (0, 0))) (hcm : cap ≤ maxLen) (hcs : cur.size = cap * sz) (htk : cur.toList.take (n * sz) = xs) (hx1 : ∀ u ∈ xs, u.oneCell' = true)
  (hgv : w.heap[vb]? = some (.cells curv e2 (0, 0))) (hul : us.length = sz) (hvs : curv.toList.take sz = us) (h1 : ∀ u ∈ us, u.oneCell' = true) (hne : vb ≠ g) (hi : i < n) (hroom : n + 1 ≤ cap) :
  Calls Tryz.prog 122 #[.slice (some ⟨g, 0, none⟩) n cap, .int .i64 i, .slice (some ⟨vb, 0, none⟩) 1 vcap] w (a3I w (.slice (some ⟨g, 0, none⟩) n cap) e sz n i xs us) := by
 have hso : ∀ w, (Go.sizeOf e).run Tryz.prog w = .ok sz w := fun w => by
  obtain ⟨i0, q1, q2, q3, q4⟩ := info_parts hinfo
  simp [sizeOf, typeInfo, q1, q3]
 have hsi : (Tryz.prog.info? e).map (·.size) = some sz := by
  obtain ⟨i0, q1, q2, q3, q4⟩ := info_parts hinfo
  rw [q1]; simp [q3]
 have hc63 : cap ≤ 9223372036854775807 := by unfold maxLen at hcm; omega
 have hz2 : ¬ ((i : Int) = (n : Int)) := by omega
 have hw1 : IntKind.i64.wrap ((i : Int) + 1) = (i : Int) + 1 := by rw [IntKind.wrap_i64]; omega
 have hw2 : IntKind.i64.wrap ((n : Int) + 1) = (n : Int) + 1 := by rw [IntKind.wrap_i64]; omega
 have hb1 : (0 : Int) ≤ (i : Int) + 1 := by omega
 have hin : i ≤ n := by omega
 have htn : ((i : Int) + 1).toNat = i + 1 := by omega
 have htn2 : ((n : Int) + 1).toNat = n + 1 := by omega
 have hb2 : ¬ (cap = i + 1) := by omega
 have hb3 : (i : Int) ≤ (n : Int) + 1 := by omega
 have hb4 : ¬ (cap = i) := by omega
 have hov : ∀ off lb cb, (callFunc 144 #[.slice (some ⟨vb, 0, none⟩) 1 vcap, .slice (some ⟨g, off, none⟩) lb cb]).run Tryz.prog w = .ok (.value (.bool false)) w := fun off lb cb => by
  rw [run_callFunc_extern Tryz.func144 (by kernel_rfl) (by kernel_rfl) (by kernel_rfl) (e := Extern.SlicesOverlaps.overlaps #[58, 58] #[4]) (by kernel_rfl),
   Lib.run_overlaps_apart w 58 4 e ht sz hso ⟨vb, 0, none⟩ ⟨g, off, none⟩ 1 vcap lb cb hne e2 e curv.size cur.size (by simp [World.shape?, hgv]) (by simp [World.shape?, hg]) (by rw [hcs]; exact Nat.ne_of_gt (Nat.mul_pos (by omega) hsz)) (by simp [World.frozen?, hgv]) (by simp [World.frozen?, hgv])]
  rfl
 have mixed : Tryz.prog.follows .mixedOrders = true := by kernel_rfl
 have hdl : (xs.drop (i * sz)).length = (n - i) * sz := by rw [List.length_drop, hxl, Nat.sub_mul]
 have m1 : (n + 1) * sz ≤ cap * sz := Nat.mul_le_mul_right _ hroom
 have m2 : (i + 1) * sz + (n - i) * sz = (n + 1) * sz := by rw [← Nat.add_mul]; congr 1; omega
 have m3 : i * sz + (n - i) * sz = n * sz := by rw [← Nat.add_mul]; congr 1; omega
 have m4 : (i + 1) * sz = i * sz + sz := by rw [Nat.add_mul, Nat.one_mul]
 have m5 : (n + 1) * sz = n * sz + sz := by rw [Nat.add_mul, Nat.one_mul]
 have hcur : ∀ j, j < n * sz → cur[j]? = xs[j]? := fun j hj => by rw [← htk, List.getElem?_take, if_pos hj, Array.getElem?_toList]
 obtain ⟨cur1, hcur1⟩ : ∃ cur1 : Array Value, cur1 = (cur.toList.take ((i + 1) * sz) ++ xs.drop (i * sz) ++ cur.toList.drop ((i + 1) * sz + (xs.drop (i * sz)).length)).toArray := ⟨_, rfl⟩
 obtain ⟨cur2, hcur2⟩ : ∃ cur2 : Array Value, cur2 = (cur1.toList.take (i * sz) ++ us ++ cur1.toList.drop (i * sz + us.length)).toArray := ⟨_, rfl⟩
 have hs1 : cur1.size = cap * sz := by
  rw [hcur1]
  simp only [List.size_toArray, List.length_append, List.length_take, List.length_drop, Array.length_toList, hcs, hxl]
  omega
 have hs2 : cur2.size = cap * sz := by
  rw [hcur2]
  simp only [List.size_toArray, List.length_append, List.length_take, List.length_drop, Array.length_toList, hs1, hul]
  omega
 have htk2 : cur2.toList.take ((n + 1) * sz) = xs.take (i * sz) ++ us ++ xs.drop (i * sz) := by
  have e1 : cur1.toList.take (i * sz) = xs.take (i * sz) := by
   rw [hcur1, ← htk, List.take_take, List.append_assoc, List.take_append_of_le_length (by simp only [List.length_take, Array.length_toList, hcs]; omega), List.take_take]
   congr 1; omega
  have e2 : (cur1.toList.drop (i * sz + us.length)).take ((n - i) * sz) = xs.drop (i * sz) := by
   rw [hcur1, hul, ← m4]
   have l1 : (cur.toList.take ((i + 1) * sz)).length = (i + 1) * sz := by simp only [List.length_take, Array.length_toList, hcs]; omega
   simp only [List.append_assoc]
   rw [List.drop_append_of_le_length (by omega), List.drop_eq_nil_of_le (by omega), List.nil_append, List.take_append_of_le_length (by omega), List.take_of_length_le (by omega)]
  rw [hcur2, e1]
  simp only []
  rw [← m2, m4, List.take_append, List.take_of_length_le (by simp only [List.length_append, List.length_take, hxl, hul]; omega)]
  congr 1
  rw [← e2]
  congr 1
  simp only [List.length_append, List.length_take, hxl, hul]
  omega
 have hcp1 : ∀ ty dc sc, (Builtin.copy_ #[58, 58] ty #[.slice (some ⟨g, (i + 1) * sz, none⟩) (n - i) dc, .slice (some ⟨g, i * sz, none⟩) (n + 1 - i) sc]).run Tryz.prog w.drew = .ok (goInt (Nat.min (n + 1 - i) (n - i))) (w.drew.setRow g cur1) := fun ty dc sc => by
  rw [hcur1]
  refine a6U w.drew _ _ ty e sz g ((i + 1) * sz) _ dc ⟨g, i * sz, none⟩ _ sc cur e (xs.drop (i * sz)) ht hsi hg (by rw [hdl]; congr 1; simp only [Nat.min_def]; split <;> omega) (fun j v hj => ?_) (by rw [hdl, hcs]; omega) (fun v hv => hx1 v (List.mem_of_mem_drop hv))
  rw [Addr.add_lit]
  rw [List.getElem?_drop] at hj
  have hj' := (List.getElem?_eq_some_iff.1 hj).1
  exact (cell_of_row w.drew g (i * sz + j) cur e (0, 0) hg).trans ((hcur _ (by omega)).trans hj)
 obtain ⟨W1, hW1⟩ : ∃ W1, W1 = w.drew.setRow g cur1 := ⟨_, rfl⟩
 have hgW : W1.heap[g]? = some (.cells cur1 e (0, 0)) := by rw [hW1]; exact setRow_heap _ g cur cur1 e _ hg
 have hgV : W1.heap[vb]? = some (.cells curv e2 (0, 0)) := by rw [hW1, (a4K (w := w.drew)).block vb (Array.getElem?_eq_some_iff.1 hgv).1 (by simpa using hne)]; exact hgv
 have hcp2 : ∀ ty dc, (Builtin.copy_ #[58, 58] ty #[.slice (some ⟨g, i * sz, none⟩) (n + 1 - i) dc, .slice (some ⟨vb, 0, none⟩) 1 vcap]).run Tryz.prog W1 = .ok (goInt (Nat.min 1 (n + 1 - i))) (W1.setRow g cur2) := fun ty dc => by
  rw [hcur2]
  refine a6U W1 _ _ ty e sz g (i * sz) _ dc ⟨vb, 0, none⟩ _ vcap cur1 e us ht hsi hgW (by rw [hul]; simp only [Nat.min_def]; split <;> first | omega | rfl | simp) (fun j v hj => ?_) (by rw [hul, hs1]; omega) h1
  rw [Addr.add_lit, cell_of_row _ vb _ curv e2 (0, 0) hgV, Nat.zero_add]
  have hj' := (List.getElem?_eq_some_iff.1 hj).1
  rw [← hvs, List.getElem?_take, if_pos (by omega), Array.getElem?_toList] at hj
  exact hj
 have hfin : a3I w (.slice (some ⟨g, 0, none⟩) n cap) e sz n i xs us (.returned (.slice (some ⟨g, 0, none⟩) (n + 1) cap)) (W1.setRow g cur2) := by
  refine ⟨_, _, rfl, ⟨?_, .inr ⟨g, cap, cur2, rfl, Nat.zero_le _, setRow_heap _ g cur1 cur2 e _ hgW, hroom, hcm, hs2, htk2⟩⟩, ?_, .inl rfl⟩
  ·simp only [List.length_append, List.length_take, List.length_drop, hxl, hul]; omega
  ·rw [hW1]
   exact ((Chg.refl [g] w).drew.trans a4K).trans a4K
 rw [← hW1] at hcp1
 have HF := Lib.hid hfin
 clear hcur1 hcur2 hfin hgW hgV htk2 hs2 hs1 hcur hx1 h1 hvs htk hxl hdl m1 m2 m3 m4 m5 hgv hg hcs hcm hinfo hsi hW1 hul
 go_enter Tryz.func122, Tryz.ntmps122
 go_wp2_with (simp only [hov])
 go_region_law_o (refine step_copy_runI rfl _ _ 58 58 rfl _ _ (by simp [Act.eval, Act.put]) (by simp [Act.eval, Act.put]) (hcp1 _ _ _) ?_)
 go_wp2_with (at_builtin; refine wpList_copy_runI _ rfl _ _ 58 58 rfl _ _ rfl rfl (hcp2 _ _) ?_)
 go_ret
 exact HF

set_option maxHeartbeats 4000000 in
set_option maxRecDepth 100000 in
/-- no room -/
theorem c1D {e sz by_ n i vb vcap e2 : Nat} {z : Value} {g : Nat} {xs us : List Value} {w : World} {cur curv : Array Value} (ht : Tryz.prog.underlying 58 = some (.slice e)) (hinfo : (Tryz.prog.info? e).map (fun i => (i.zero, i.size, i.bytes)) = some (some z, sz, by_)) (hzs : z.cells.size = sz) (hsz : 0 < sz)
  (hxl : xs.length = n * sz) (hg : w.heap[g]? = some (.cells cur e (0, 0))) (hcm : n ≤ maxLen) (hcs : cur.size = n * sz) (htk : cur.toList.take (n * sz) = xs) (hx1 : ∀ u ∈ xs, u.oneCell' = true)
  (hgv : w.heap[vb]? = some (.cells curv e2 (0, 0))) (hul : us.length = sz) (hvs : curv.toList.take sz = us) (h1 : ∀ u ∈ us, u.oneCell' = true) (hi : i < n) (h63 : n + 1 ≤ maxLen) (hb : (n + 1) * by_ ≤ 140737488355328) :
  Calls Tryz.prog 122 #[.slice (some ⟨g, 0, none⟩) n n, .int .i64 i, .slice (some ⟨vb, 0, none⟩) 1 vcap] w (a3I w (.slice (some ⟨g, 0, none⟩) n n) e sz n i xs us) := by
 obtain ⟨i0, q1, q2, q3, q4⟩ := info_parts hinfo
 have hso : ∀ w, (Go.sizeOf e).run Tryz.prog w = .ok sz w := fun w => by
  simp [sizeOf, typeInfo, q1, q3]
 have hsi : (Tryz.prog.info? e).map (·.size) = some sz := by
  rw [q1]; simp [q3]
 have hc63 : n + 1 ≤ 9223372036854775807 := by unfold maxLen at h63; omega
 have mixed : Tryz.prog.follows .mixedOrders = true := by kernel_rfl
 have hz2 : ¬ ((i : Int) = (n : Int)) := by omega
 have hw1 : IntKind.i64.wrap ((i : Int) + 1) = (i : Int) + 1 := by rw [IntKind.wrap_i64]; omega
 have hw2 : IntKind.i64.wrap ((n : Int) + 1) = (n : Int) + 1 := by rw [IntKind.wrap_i64]; omega
 have hw3 : IntKind.i64.wrap ((n : Int) + 1 - (i : Int)) = (n : Int) + 1 - (i : Int) := by rw [IntKind.wrap_i64]; omega
 have hb1 : (0 : Int) ≤ (i : Int) + 1 := by omega
 have hin : i ≤ n := by omega
 have htn : ((i : Int) + 1).toNat = i + 1 := by omega
 have hni : ¬ (n = i) := by omega
 have hkk : (n : Int) + 1 - (i : Int) = ((n + 1 - i : Nat) : Int) := by omega
 have hik : i + (n + 1 - i) = n + 1 := by omega
 have hdl : (xs.drop (i * sz)).length = (n - i) * sz := by rw [List.length_drop, hxl, Nat.sub_mul]
 have m2 : (i + 1) * sz + (n - i) * sz = (n + 1) * sz := by rw [← Nat.add_mul]; congr 1; omega
 have m3 : i * sz + (n - i) * sz = n * sz := by rw [← Nat.add_mul]; congr 1; omega
 have m4 : (i + 1) * sz = i * sz + sz := by rw [Nat.add_mul, Nat.one_mul]
 have m5 : (n + 1) * sz = n * sz + sz := by rw [Nat.add_mul, Nat.one_mul]
 have hcur : ∀ j, j < n * sz → cur[j]? = xs[j]? := fun j hj => by rw [← htk, List.getElem?_take, if_pos hj, Array.getElem?_toList]
 have htl : (xs.take (i * sz)).length = i * sz := by rw [List.length_take, hxl]; omega
 have hold : (Builtin.firstCells i0.size i (.slice (some ⟨g, 0, none⟩) i n)).run Tryz.prog w.drew = .ok (xs.take (i * sz)).toArray w.drew := by
  rw [q3]
  refine run_firstCells_some w.drew sz i ⟨g, 0, none⟩ i n (xs.take (i * sz)) (by rw [htl]) (fun j v hj => ?_)
  rw [Addr.add_lit, Nat.zero_add]
  rw [List.getElem?_take] at hj
  split at hj
  ·exact (cell_of_row w.drew g j cur e (0, 0) hg).trans ((hcur _ (by omega)).trans hj)
  ·cases hj
 obtain ⟨G, hG⟩ : ∃ G, G = grownCap w (n + 1) n e := ⟨_, rfl⟩
 have hGn : n + 1 ≤ G := by rw [hG]; exact grownCap_ge w _ _ _
 have hGm : G ≤ maxLen := by rw [hG]; exact grownCap_le_maxLen w (n + 1) n e h63
 obtain ⟨ROW, hROW⟩ : ∃ ROW : Array Value, ROW = (xs.take (i * sz)).toArray ++ Builtin.zeroCells z.cells (n + 1 - i) ++ Builtin.zeroCells z.cells (G - (n + 1)) := ⟨_, rfl⟩
 have hzl : ∀ k, (Builtin.zeroCells z.cells k).size = k * sz := fun k => by simp [Builtin.zeroCells, hzs]
 have hRs : ROW.size = G * sz := by
  rw [hROW]
  simp only [Array.size_append, List.size_toArray, htl, hzl]
  rw [← Nat.add_mul, ← Nat.add_mul]
  congr 1; omega
 obtain ⟨W1, hW1⟩ : ∃ W1, W1 = w.drew.alloc (.cells ROW e) := ⟨_, rfl⟩
 have hrz : ∀ ty, (Builtin.append_ #[58, 3] ty #[.slice (some ⟨g, 0, none⟩) i n, .int .i64 ((n : Int) + 1 - (i : Int))]).run Tryz.prog w =
   .ok (.slice (some ⟨w.heap.size, 0, none⟩) (n + 1) G) W1 := fun ty => by
  have h := Lib.run_append_grow_zeros (P := Tryz.prog) w 58 3 ty e i0 z .i64 .i64 ht (by kernel_rfl) q1 q2 (some ⟨g, 0, none⟩) i n (xs.take (i * sz)) hold (n + 1 - i) (by omega) (by omega) (by omega) (by omega) (by
   rw [q4]
   have : (n + 1 - i) * by_ ≤ (n + 1) * by_ := Nat.mul_le_mul_right _ (by omega)
   omega) (by rw [q4, hik]; exact growslice_fits (by omega) hb)
  rw [hik] at h
  rw [hkk, hW1, hROW, hG]
  exact h
 have hgW0 : W1.heap[w.heap.size]? = some (.cells ROW e (0, 0)) := by rw [hW1]; exact heap_alloc_new w.drew _
 have hgl : g < w.heap.size := (Array.getElem?_eq_some_iff.1 hg).1
 have hvl : vb < w.heap.size := (Array.getElem?_eq_some_iff.1 hgv).1
 have hc1 : Chg [] w W1 := by rw [hW1]; exact (Chg.refl [] w).drew.alloc _
 have hgV : W1.heap[vb]? = some (.cells curv e2 (0, 0)) := by rw [hc1.block vb hvl (by simp)]; exact hgv
 have hm1 : (n + 1) * sz ≤ G * sz := Nat.mul_le_mul_right _ hGn
 obtain ⟨R1, hR1⟩ : ∃ R1 : Array Value, R1 = (ROW.toList.take (i * sz) ++ us ++ ROW.toList.drop (i * sz + us.length)).toArray := ⟨_, rfl⟩
 have hs1 : R1.size = G * sz := by
  rw [hR1]
  simp only [List.size_toArray, List.length_append, List.length_take, List.length_drop, Array.length_toList, hRs, hul]
  omega
 obtain ⟨W2, hW2⟩ : ∃ W2, W2 = W1.setRow w.heap.size R1 := ⟨_, rfl⟩
 have hcpA : ∀ ty dc, (Builtin.copy_ #[58, 58] ty #[.slice (some ⟨w.heap.size, i * sz, none⟩) (n + 1 - i) dc, .slice (some ⟨vb, 0, none⟩) 1 vcap]).run Tryz.prog W1 = .ok (goInt (Nat.min 1 (n + 1 - i))) W2 := fun ty dc => by
  rw [hW2, hR1]
  refine a6U W1 _ _ ty e sz w.heap.size (i * sz) _ dc ⟨vb, 0, none⟩ _ vcap ROW e us ht hsi hgW0 (by rw [hul]; simp only [Nat.min_def]; split <;> first | omega | rfl | simp) (fun j v hj => ?_) (by rw [hul, hRs]; omega) h1
  rw [Addr.add_lit, cell_of_row _ vb _ curv e2 (0, 0) hgV, Nat.zero_add]
  have hj' := (List.getElem?_eq_some_iff.1 hj).1
  rw [← hvs, List.getElem?_take, if_pos (by omega), Array.getElem?_toList] at hj
  exact hj
 have hgW2 : W2.heap[w.heap.size]? = some (.cells R1 e (0, 0)) := by rw [hW2]; exact setRow_heap _ _ ROW R1 e _ hgW0
 have hgG : W2.heap[g]? = some (.cells cur e (0, 0)) := by
  rw [hW2, (a4K (w := W1) (g := w.heap.size)).block g (Nat.lt_of_lt_of_le hgl hc1.size) (by simp; omega), hc1.block g hgl (by simp)]; exact hg
 obtain ⟨R2, hR2⟩ : ∃ R2 : Array Value, R2 = (R1.toList.take ((i + 1) * sz) ++ xs.drop (i * sz) ++ R1.toList.drop ((i + 1) * sz + (xs.drop (i * sz)).length)).toArray := ⟨_, rfl⟩
 have hs2 : R2.size = G * sz := by
  rw [hR2]
  simp only [List.size_toArray, List.length_append, List.length_take, List.length_drop, Array.length_toList, hs1, hxl]
  omega
 obtain ⟨W3, hW3⟩ : ∃ W3, W3 = W2.drew.setRow w.heap.size R2 := ⟨_, rfl⟩
 have hcpB : ∀ ty dc sc, (Builtin.copy_ #[58, 58] ty #[.slice (some ⟨w.heap.size, (i + 1) * sz, none⟩) (n - i) dc, .slice (some ⟨g, i * sz, none⟩) (n - i) sc]).run Tryz.prog W2.drew = .ok (goInt (Nat.min (n - i) (n - i))) W3 := fun ty dc sc => by
  rw [hW3, hR2]
  refine a6U W2.drew _ _ ty e sz w.heap.size ((i + 1) * sz) _ dc ⟨g, i * sz, none⟩ _ sc R1 e (xs.drop (i * sz)) ht hsi hgW2 (by rw [hdl]; congr 1; simp) (fun j v hj => ?_) (by rw [hdl, hs1]; omega) (fun v hv => hx1 v (List.mem_of_mem_drop hv))
  rw [Addr.add_lit]
  rw [List.getElem?_drop] at hj
  have hj' := (List.getElem?_eq_some_iff.1 hj).1
  exact (cell_of_row W2.drew g (i * sz + j) cur e (0, 0) hgG).trans ((hcur _ (by omega)).trans hj)
 have htk2 : R2.toList.take ((n + 1) * sz) = xs.take (i * sz) ++ us ++ xs.drop (i * sz) := by
  have e1 : R1.toList.take ((i + 1) * sz) = xs.take (i * sz) ++ us := by
   rw [hR1, m4]
   simp only []
   rw [List.take_append_of_le_length (by simp only [List.length_append, List.length_take, Array.length_toList, hRs, hul]; omega), List.take_of_length_le (by simp only [List.length_append, List.length_take, Array.length_toList, hRs, hul]; omega)]
   congr 1
   rw [hROW]
   simp only [Array.toList_append, List.append_assoc]
   rw [List.take_append_of_le_length (by rw [htl]; exact Nat.le_refl _), List.take_of_length_le (by rw [htl]; exact Nat.le_refl _)]
  rw [hR2, e1]
  simp only []
  rw [List.take_append_of_le_length (by simp only [List.length_append, List.length_take, List.length_drop, hxl, hul]; omega), List.take_of_length_le (by simp only [List.length_append, List.length_take, List.length_drop, hxl, hul]; omega)]
 have hfin : a3I w (.slice (some ⟨g, 0, none⟩) n n) e sz n i xs us (.returned (.slice (some ⟨w.heap.size, 0, none⟩) (n + 1) G)) W3 := by
  refine ⟨_, _, rfl, ⟨?_, .inr ⟨w.heap.size, G, R2, rfl, Nat.zero_le _, by rw [hW3]; exact setRow_heap _ _ R1 R2 e _ hgW2, hGn, hGm, hs2, htk2⟩⟩, ?_, .inr rfl⟩
  ·simp only [List.length_append, List.length_take, List.length_drop, hxl, hul]; omega
  ·have c3 : Chg [w.heap.size] W1 W3 := by rw [hW3, hW2]; exact (a4K.drew).trans a4K
   refine ⟨c3.os.trans hc1.os, c3.tape.trans hc1.tape, c3.output.trans hc1.output, Nat.le_trans hc1.size c3.size, fun k hk hn => ?_⟩
   rw [c3.block k (Nat.lt_of_lt_of_le hk hc1.size) (by simp; omega), hc1.block k hk (by simp)]
 have HF := Lib.hid hfin
 have hGi : ¬ (G = i) := by omega
 have hGim : ¬ (G = i + 1) := by omega
 have hG63 : G ≤ 9223372036854775807 := by unfold maxLen at hGm; omega
 obtain ⟨H, hH⟩ : ∃ H, H = w.heap.size := ⟨_, rfl⟩
 rw [← hH] at hrz hcpA hcpB HF
 clear hH hfin hgW0 hgV hgW2 hgG htk2 hs2 hs1 hcur hx1 h1 hvs htk hxl hdl m2 m3 m4 m5 hgv hg hcs hcm hinfo hsi hW1 hW2 hW3 hul hR1 hR2 hROW hRs hzl hold htl hc1 hgl hvl hm1 hkk hik hG q1 q2 q3 q4 hzs
 go_enter Tryz.func122, Tryz.ntmps122
 go_wp2_with (first
  | (at_builtin; refine Lib.wpList_append_run _ rfl _ _ _ _ rfl _ _ rfl rfl _ _ (hrz _) ?_)
  | (at_builtin; refine wpList_copy_runI _ rfl _ _ 58 58 rfl _ _ rfl rfl (hcpA _ _) ?_))
 go_region_law_o (refine step_copy_runI rfl _ _ 58 58 rfl _ _ (by simp [Act.eval, Act.put]) (by simp [Act.eval, Act.put]) (hcpB _ _ _) ?_)
 go_wp2
 go_ret
 exact HF

theorem c4x {e sz by_ n i e2 : Nat} {z : Value} {v u : Value} {xs us : List Value} {w : World} (ht : Tryz.prog.underlying 58 = some (.slice e)) (hinfo : (Tryz.prog.info? e).map (fun i => (i.zero, i.size, i.bytes)) = some (some z, sz, by_)) (hzs : z.cells.size = sz) (hsz : 0 < sz)
  (hown : w.ownsRow 0 e sz v n xs) (hx1 : ∀ u ∈ xs, u.oneCell' = true) (hv : w.ownsRow 0 e2 sz u 1 us) (h1 : ∀ u ∈ us, u.oneCell' = true) (hne : ∀ b, v.ownBlock = some b → u.ownBlock ≠ some b) (hi : i ≤ n) (h63 : n + 1 ≤ maxLen) (hb : (n + 1) * by_ ≤ 140737488355328) :
  Calls Tryz.prog 122 #[v, .int .i64 i, u] w (a3I w v e sz n i xs us) := by
 have hul : us.length = sz := by rw [hv.1, Nat.one_mul]
 rcases hv.2 with ⟨_, h⟩ | ⟨vb, vcap, curv, rfl, _, hgv, hvc, _, _, hvt⟩
 ·cases h
 ·rw [Nat.one_mul] at hvt
  rcases Nat.lt_or_ge i n with hlt | hge
  ·rcases hown.2 with ⟨_, h⟩ | ⟨g, cap, cur, rfl, _, hg, hnc, hcm, hcs, htk⟩
   ·omega
   ·rcases Nat.lt_or_ge n cap with h | h
    ·exact c5A ht hinfo hsz hown.1 hg hcm hcs htk hx1 hgv hul hvt h1 (fun e => hne g rfl (by rw [e]; rfl)) hlt h
    ·have e1 : cap = n := by omega
     subst e1
     exact c1D ht hinfo hzs hsz hown.1 hg hcm hcs htk hx1 hgv hul hvt h1 hlt h63 hb
  ·have e1 : i = n := by omega
   subst e1
   refine c1y ht hinfo hzs hsz hown ⟨by rw [Nat.one_mul]; exact hul, fun _ => ⟨vb, 0, rfl, fun j x hj => ?_⟩⟩ h1 h63 hb
   rw [Nat.zero_add, cell_of_row _ vb _ curv e2 (0, 0) hgv]
   have hj' := (List.getElem?_eq_some_iff.1 hj).1
   rw [← hvt, List.getElem?_take, if_pos (by omega), Array.getElem?_toList] at hj
   exact hj
section
variable {P : Program} {C : Ctx} {nt : Nat} {σ : St} {L : Lyt} {a : Act} {w : World} {o : Oper} {x y y2 : Operand} {T : TT}
theorem a7w {w : World} : ∀ (k : Nat) {ds : List DV} {vs : List Value} {f : List Nat}, a0V w ds vs f → ∃ f1 f2, f = f1 ++ f2 ∧ a0V w (ds.take k) (vs.take k) f1 ∧ a0V w (ds.drop k) (vs.drop k) f2
 | 0, ds, vs, f, h => ⟨[], f, rfl, by simp [a0V], by simpa using h⟩
 | k + 1, [], vs, f, h => by
  simp only [a0V] at h
  obtain ⟨rfl, rfl⟩ := h
  exact ⟨[], [], rfl, by simp [a0V], by simp [a0V]⟩
 | k + 1, d :: ds, _, _, h => by
  simp only [a0V] at h
  obtain ⟨v, vs', f1, f2, rfl, rfl, h1, h2⟩ := h
  obtain ⟨g1, g2, rfl, h3, h4⟩ := a7w k h2
  refine ⟨f1 ++ g1, g2, by simp, ?_, by simpa using h4⟩
  simp only [List.take_succ_cons, a0V]
  exact ⟨v, _, f1, g1, rfl, rfl, h1, h3⟩
def a5z (c : List DV) (p : Nat) (us : List DV) : List DV := c.take p ++ us ++ c.drop p
structure InsOk (P : Program) (f e sz by_ : Nat) : Prop where
 pos : 0 < sz
 lt : e < 1000000
 run : ∀ {n i e2 : Nat} {v u : Value} {xs us : List Value} {w : World}, w.ownsRow 0 e sz v n xs → (∀ u ∈ xs, u.oneCell' = true) → w.ownsRow 0 e2 sz u 1 us → (∀ u ∈ us, u.oneCell' = true) → (∀ b, v.ownBlock = some b → u.ownBlock ≠ some b) → i ≤ n → n + 1 ≤ maxLen → (n + 1) * by_ ≤ 140737488355328 →
  Calls P f #[v, .int .i64 i, u] w (a3I w v e sz n i xs us)
theorem c0Q {f e sz by_ d k j : Nat} {ats : Array TypeId} {c c2 : KC} {J : List Nat} {p : Int} (hf : InsOk P f e sz by_) (ho : o.op = .call { callee := .value (.func f), args := #[x, y, y2], argTypes := ats }) (hc : ∀ (args : Array Value) (w : World), (callFunc f args).run P w = .ok (.enter f args) w) (hd : o.dst = some d) (hnt : Nat.blt d nt = true)
  (hx : Ev P C nt σ x (.one (.key k))) (hk : lkk σ k = some c) (hce : c.e = e) (hcs : c.sz = sz) (hp : Ev P C nt σ y (.one (.dv J (.int .i64 p)))) (hp0 : 0 ≤ p) (hp1 : p ≤ c.n) (hy : Ev P C nt σ y2 (.one (.key j))) (hj : lkk σ j = some c2) (hcs2 : c2.sz = sz) (hn2 : c2.n = 1) (he2 : Nat.blt c2.e 1000000 = true) (hkj : k ∉ [j]) (hb : (c.n + 1) * by_ ≤ 140737488355328) (h63 : c.n + 1 ≤ 9223372036854775807) :
  Ef P C nt o σ (fun σ' => σ' = (σ.mut k [j] false ⟨false, e, sz, c.n + 1, a5z c.cs (p.toNat * sz) c2.cs⟩).put d (.one (.key k))) := Ef.mk fun L a w hr K Q hK => by
 have hd' : d < nt := by simpa [Nat.blt_eq] using hnt
 have hkj' : k ≠ j := by simpa using hkj
 have e1 := hx.run L a w hr
 have e2 := hp.run L a w hr
 have e3 := hy.run L a w hr
 simp only [SVr, CVr, Lay] at e1 e2 e3
 have ho1 := (hr.ks k c hk).1
 have ho2 := (hr.ks j c2 hj).1
 simp only [Own] at ho1 ho2
 obtain ⟨vs, f1, q1, q2, q3, q4, q5⟩ := ho1
 obtain ⟨us, f2, r1, r2, r3, r4, r5⟩ := ho2
 subst hce; subst hcs
 have hrow := q4.1 hf.lt
 have hrow2 := r4.1 (by simpa [Nat.blt_eq] using he2)
 rw [hn2, hcs2] at hrow2
 have hkn := hr.kn k c hk
 have hjn := hr.kn j c2 hj
 have hkk := hr.kk k j c c2 hk hj hkj'
 rw [q1] at hkn; rw [r1] at hjn
 obtain ⟨n1, n2, n3⟩ := List.nodup_append.1 hkn
 obtain ⟨_, n5, _⟩ := List.nodup_append.1 hjn
 have one : ∀ {ds : List DV} {vs : List Value} {f : List Nat}, a0V w ds vs f → ∀ u ∈ vs, u.oneCell' = true := fun h => a7g (ok := fun _ => True) _ _ (a6D _ _ _ h (fun _ _ => trivial))
 have hpn : ((p.toNat : Nat) : Int) = p := Int.toNat_of_nonneg hp0
 refine a6n (xs := [x, y, y2]) ho hc ?_
 simp only [List.map_cons, List.map_nil, e1, e2.1, e3]
 rw [← hpn]
 refine (hf.run (i := p.toNat) hrow (one q5) hrow2 (one r5) (fun b hb' hb2 => hkk b (by rw [q1, hb']; simp) (by rw [r1, hb2]; simp)) (by omega) (by simpa [maxLen] using h63) hb).mono ?_
 rintro ex w' ⟨A', c', rfl, g1, g2, g3⟩
 refine ⟨_, rfl, ?_⟩
 obtain ⟨fa, fb, rfl, t1, t2⟩ := a7w (p.toNat * c.sz) q5
 have hlt1 : ∀ b ∈ fa ++ fb, b < w.heap.size := a5g _ _ _ q5
 have hlt2 : ∀ b ∈ f2, b < w.heap.size := a5g _ _ _ r5
 have hf2k : ∀ b ∈ f2, b ∉ L.fp k := fun b hb' hm => hkk b hm (by rw [r1]; simp [hb'])
 have keep : ∀ b ∈ fa ++ fb, w'.heap[b]? = w.heap[b]? := fun b hb' => g2.block b (hlt1 b hb') (fun hm => n3 b hm b hb' rfl)
 have keep2 : ∀ b ∈ f2, w'.heap[b]? = w.heap[b]? := fun b hb' => g2.block b (hlt2 b hb') (fun hm => hf2k b hb' (by rw [q1]; simp [hm]))
 have k1 := a2O _ _ _ t1 (fun b hb' => keep b (by simp [hb']))
 have k2 := a2O _ _ _ t2 (fun b hb' => keep b (by simp [hb']))
 have k3 := a2O _ _ _ r5 keep2
 have hlen : (a5z c.cs (p.toNat * c.sz) c2.cs).length = (c.n + 1) * c.sz := by
  have : c2.cs.length = c.sz := by rw [r3, hn2, Nat.one_mul, hcs2]
  have m : p.toNat * c.sz ≤ c.n * c.sz := Nat.mul_le_mul_right _ (by omega)
  simp only [a5z, List.length_append, List.length_take, List.length_drop, this, q3, Nat.add_mul, Nat.one_mul]
  omega
 have hown' : Own w' (.sl c.e c.sz (c.n + 1) (a5z c.cs (p.toNat * c.sz) c2.cs)) (.slice A' (c.n + 1) c') ((Value.slice A' (c.n + 1) c').ownBlock.toList ++ (fa ++ f2 ++ fb)) := by
  unfold Own
  exact ⟨_, fa ++ f2 ++ fb, rfl, q2, hlen, a3y hf.lt g1, a2X _ _ _ _ _ _ (a2X _ _ _ _ _ _ k1 k3) k2⟩
 obtain ⟨p1, p2, p3⟩ := List.nodup_append.1 n2
 have hnod : (fa ++ f2 ++ fb).Nodup := by
  refine List.nodup_append.2 ⟨List.nodup_append.2 ⟨p1, n5, fun x hx' y hy' e' => hf2k y hy' (by rw [q1, ← e']; simp [hx'])⟩, p2, fun x hx' y hy' e' => ?_⟩
  rcases List.mem_append.1 hx' with hx' | hx'
  ·exact p3 x hx' y hy' e'
  ·exact hf2k x hx' (by rw [q1, e']; simp [hy'])
 have hset := hr.setkey (k := k) (c := c) (c' := ⟨false, c.e, c.sz, c.n + 1, a5z c.cs (p.toNat * c.sz) c2.cs⟩) (js := [j]) (same := false) hk hkj (g2.mono (fun b hb' => by rw [q1]; simp [hb'])) hown'
  (by
   refine List.nodup_append.2 ⟨?_, hnod, fun x hx' y hy' e' => ?_⟩
   ·cases (Value.slice A' (c.n + 1) c').ownBlock <;> simp
   ·subst e'
    rcases g3 with hb' | hb'
    ·rw [← hb'] at hx'
     rcases List.mem_append.1 hy' with hy' | hy'
     ·rcases List.mem_append.1 hy' with hy' | hy'
      ·exact n3 x hx' x (by simp [hy']) rfl
      ·exact hf2k x hy' (by rw [q1]; simp [hx'])
     ·exact n3 x hx' x (by simp [hy']) rfl
    ·rw [hb'] at hx'
     simp only [Option.toList_some, List.mem_singleton] at hx'
     subst hx'
     rcases List.mem_append.1 hy' with hy' | hy'
     ·rcases List.mem_append.1 hy' with hy' | hy'
      ·exact absurd (hlt1 w.heap.size (by simp [hy'])) (by omega)
      ·exact absurd (hlt2 _ hy') (by omega)
     ·exact absurd (hlt1 w.heap.size (by simp [hy'])) (by omega))
  (fun b hb' => by
   rcases List.mem_append.1 hb' with hb' | hb'
   ·rcases g3 with hbl | hbl
    ·rw [← hbl] at hb'; exact .inl (by rw [q1]; simp [hb'])
    ·rw [hbl] at hb'
     simp only [Option.toList_some, List.mem_singleton] at hb'
     exact .inr (.inr (by omega))
   ·rcases List.mem_append.1 hb' with hb' | hb'
    ·rcases List.mem_append.1 hb' with hb' | hb'
     ·exact .inl (by rw [q1]; simp [hb'])
     ·exact .inr (.inl ⟨j, by simp, by rw [r1]; simp [hb']⟩)
    ·exact .inl (by rw [q1]; simp [hb'])) (by simp [hj]) (by simp) (by simp)
 refine hK { L with fp := fun i => if i = k then (Value.slice A' (c.n + 1) c').ownBlock.toList ++ (fa ++ f2 ++ fb) else L.fp i, rv := fun i => if i = k then .slice A' (c.n + 1) c' else L.rv i } _ _ _ rfl ?_
 rw [hd]
 exact hset.put (v := .one (.key k)) (r := .slice A' (c.n + 1) c') hd' (by simp [SVr, CVr]) (by simp [SV.keys, CV.keys, a5j]) (by simp [SV.boxes])
theorem b3g {Q : Exit → St → Prop} {all : Array Oper} {rest : List Oper} {tm : List (Nat × SV)} {bx : List (Nat × TypeId × List CV)} {ks : List (Nat × Option KC)} {f e sz by_ d k j n : Nat} {ats : Array TypeId} {c c2 : KC} {J : List Nat} {p : Int} {cs : List DV} (hf : InsOk P f e sz by_) (hg : o.guard = none) (ho : o.op = .call { callee := .value (.func f), args := #[x, y, y2], argTypes := ats }) (hc : ∀ (args : Array Value) (w : World), (callFunc f args).run P w = .ok (.enter f args) w) (hd : o.dst = some d) (hnt : Nat.blt d nt = true)
  (hx : Ev P C nt ⟨tm, bx, ks⟩ x (.one (.key k))) (hk : lkk ⟨tm, bx, ks⟩ k = some c) (hce : c.e = e) (hcs : c.sz = sz) (hp : Ev P C nt ⟨tm, bx, ks⟩ y (.one (.dv J (.int .i64 p)))) (hp0 : 0 ≤ p) (hp1 : p ≤ c.n) (hy : Ev P C nt ⟨tm, bx, ks⟩ y2 (.one (.key j))) (hj : lkk ⟨tm, bx, ks⟩ j = some c2) (hcs2 : c2.sz = sz) (hn2 : c2.n = 1) (he2 : Nat.blt c2.e 1000000 = true) (hkj : k ∉ [j]) (hb : (c.n + 1) * by_ ≤ 140737488355328) (h63 : c.n + 1 ≤ 9223372036854775807) (hn : c.n + 1 = n) (hcc : a5z c.cs (p.toNat * sz) c2.cs = cs)
  (h : Ops P C nt Q all rest ⟨(d, .one (.key k)) :: a0l [k, j] [k, j] tm, a0i [k, j] [k, j] bx, (k, some ⟨false, e, sz, n, cs⟩) :: (j, none) :: ks⟩) : Ops P C nt Q all (o :: rest) ⟨tm, bx, ks⟩ :=
 a3u hg (c0Q hf ho hc hd hnt hx hk hce hcs hp hp0 hp1 hy hj hcs2 hn2 he2 hkj hb h63) (by subst hn; subst hcc; exact h)
end
theorem a3R {P : Program} {C : Ctx} {nt : Nat} {σ : St} {x : Operand} {k : Nat} {c : KC} {d : DV} (h : Ev P C nt σ x (.one (.key k))) (hk : lkk σ k = some c) (hd : DV.sl c.e c.sz c.n c.cs = d) : Ev P C nt σ x (.one (.dv [k] d)) := by subst hd; exact b5T h hk
theorem b5s {sz by_ : Nat} {zc : List CV} (he : look a4r.el 93 = some (sz, by_, zc)) (hl0 : zc.length = sz) (hpos : 0 < sz) : InsOk Tryz.prog 122 93 sz by_ := by
 obtain ⟨inf, z, g1, g2, g3, g4, g5⟩ := hT.el _ _ _ _ he
 refine ⟨hpos, hT.lt _ _ he, fun hown hx1 hv h1 hne hi h63 hb => c4x (z := z) (by kernel_rfl) (by rw [g1]; simp [g2, g3, g4]) (by
  have := a7G g5
  simp only [Array.length_toList] at this
  rw [this, hl0]) hpos hown hx1 hv h1 hne hi h63 hb⟩
end Go.Proofs.YtjkpoekgnmgofaaGreat

namespace Go.Proofs.YtjkpoekgnmgofaaGreat
open Go.RowKit
set_option linter.unusedVariables false
set_option linter.unusedSimpArgs false

section
variable {P : Program} {C : Ctx} {nt : Nat} {σ : St} {L : Lyt} {a : Act} {w : World} {o o1 o2 : Oper} {x y : Operand} {T : TT}
theorem a9Z {t : Array Value} {i d : Nat} {r : Value} (e : i ≠ d) : (t.setIfInBounds d r).getD i undef = t.getD i undef := by
 rw [Array.getD_eq_getD_getElem?, Array.getD_eq_getD_getElem?, Array.getElem?_setIfInBounds_ne (fun e' => e e'.symm)]
theorem b3x {vs rs : List Nat} {i : Nat} {x : TypeId × List CV} : ∀ {bx : List (Nat × TypeId × List CV)}, look (a0i vs rs bx) i = some x → ∃ y, look bx i = some y
 | [], h => by simp [a0i, look] at h
 | p :: bx, h => by
  simp only [a0i, List.map_cons, a0Z] at h
  obtain ⟨b, q⟩ := p
  rw [a0Z]
  split
  ·exact ⟨_, rfl⟩
  ·rename_i e
   rw [if_neg e] at h
   exact b3x h
structure SlOk (P : Program) (C : Ctx) (nt : Nat) (σ : St) (o : Oper) (j sz lo hi : Nat) : Prop where
 run : ∀ L a w, Rel P C nt L σ a w → ∀ A n c, L.rv j = .slice A n c → ∀ w', (execOp a.eval o).run P w' = .ok (.value (sliced A lo hi c sz)) w'
theorem b6L {j : Nat} {c2 : KC} (hr : Rel P C nt L σ a w) (hj : lkk σ j = some c2) {A : Option Addr} {n c : Nat} (e : L.rv j = .slice A n c) : n = c2.n ∧ c2.n ≤ c := by
 have ho := (hr.ks j c2 hj).1
 simp only [Own] at ho
 obtain ⟨vs, f, _, _, _, q4, _⟩ := ho
 rcases (a5C q4).2 with ⟨g1, g2⟩ | ⟨g, cap, cur, t, fz, g1, g2, g3, g4, g5, g6⟩
 ·rw [e] at g1
  simp only [Value.slice.injEq] at g1
  exact ⟨by rw [g2]; exact g1.2.1, by omega⟩
 ·rw [e] at g1
  simp only [Value.slice.injEq] at g1
  exact ⟨g1.2.1, by omega⟩
theorem b0x (hT : TTOk P T) {t e sz by_ j : Nat} {zc : List CV} {c2 : KC} {J : List Nat} {z : Int} (ho : o.op = .slice t x none (some y) none) (h : look T.sl t = some e) (he : look T.el e = some (sz, by_, zc)) (hx : Ev P C nt σ x (.one (.key j))) (hj : lkk σ j = some c2) (hy : Ev P C nt σ y (.one (.dv J (.int .i64 z)))) (h0 : 0 ≤ z) (h1 : z ≤ c2.n) : SlOk P C nt σ o j sz 0 z.toNat := ⟨fun L a w hr A n c e1 w' => by
 have h2 := hx.run L a w hr
 have h3 := hy.run L a w hr
 simp only [SVr, CVr, Lay] at h2 h3
 obtain ⟨k1, k2⟩ := a9M (hT.sl t e h)
 obtain ⟨q1, q2⟩ := b6L hr hj e1
 rw [e1] at h2
 unfold execOp
 simp only [ho, Option.map_none, Option.map_some, h2, h3.1, Sem.run_bind, run_sliceAt_slice _ _ _ _ _ _ k1, run_slice_h w' t A n c k1 .i64 z h0 (by omega), k2, b0T hT he, Result.andThen_ok, Sem.run_pure]⟩
theorem b0e (hT : TTOk P T) {t e sz by_ j : Nat} {zc : List CV} {c2 : KC} {J : List Nat} {z : Int} (ho : o.op = .slice t x (some y) none none) (h : look T.sl t = some e) (he : look T.el e = some (sz, by_, zc)) (hx : Ev P C nt σ x (.one (.key j))) (hj : lkk σ j = some c2) (hy : Ev P C nt σ y (.one (.dv J (.int .i64 z)))) (h0 : 0 ≤ z) (h1 : z ≤ c2.n) : SlOk P C nt σ o j sz z.toNat c2.n := ⟨fun L a w hr A n c e1 w' => by
 have h2 := hx.run L a w hr
 have h3 := hy.run L a w hr
 simp only [SVr, CVr, Lay] at h2 h3
 obtain ⟨k1, k2⟩ := a9M (hT.sl t e h)
 obtain ⟨q1, q2⟩ := b6L hr hj e1
 rw [e1] at h2
 unfold execOp
 rw [← q1]
 simp only [ho, Option.map_none, Option.map_some, h2, h3.1, Sem.run_bind, run_sliceAt_slice _ _ _ _ _ _ k1, run_slice_l w' t A n c k1 .i64 z h0 (by omega), k2, b0T hT he, Result.andThen_ok, Sem.run_pure]⟩
def a4P (cs : List DV) (l m : Nat) : List DV := cs.take l ++ (List.replicate m .hole ++ (cs.drop l).drop m)
theorem a8i {w : World} : ∀ (vs : List Value), (∀ v ∈ vs, v.oneCell' = true) → a0V w (List.replicate vs.length .hole) vs []
 | [], _ => by simp [a0V]
 | v :: vs, h => by
  simp only [List.length_cons, List.replicate_succ, a0V]
  exact ⟨v, vs, [], [], rfl, rfl, by simp [Own, h v (by simp)], a8i vs fun u hu => h u (by simp [hu])⟩
theorem a9I {Q : Exit → St → Prop} {all : Array Oper} {rest : List Oper} {tm : List (Nat × SV)} {bx : List (Nat × TypeId × List CV)} {ks : List (Nat × Option KC)} {t e sz by_ d d1 k j s lo hi n : Nat} {zc : List CV} {c c2 : KC} {cs c2s : List DV} (hT : TTOk P T)
  (hg1 : o1.guard = none) (hd1 : o1.dst = some d1) (hn1 : Nat.blt d1 nt = true) (hs : SlOk P C nt ⟨tm, bx, ks⟩ o1 j sz lo hi)
  (hg2 : o2.guard = none) (hd : o2.dst = some d) (ho : o2.op = .call { callee := .builtin .append, args := #[x, .tmp d1], argTypes := #[t, t] }) (hnt : Nat.blt d nt = true) (ht : look T.sl t = some e) (he : look T.el e = some (sz, by_, zc)) (hl0 : zc.length = sz)
  (hx : Ev P C nt ⟨(d1, .any) :: tm, bx, ks⟩ x (.one (.key k))) (hk : lkk ⟨tm, bx, ks⟩ k = some c) (hce : c.e = e) (hcs : c.sz = sz) (hj : lkk ⟨tm, bx, ks⟩ j = some c2) (hcs2 : c2.sz = sz) (he2 : Nat.blt c2.e 1000000 = true) (hkj : k ∉ [j]) (hh : c2.h = false)
  (hsl : look tm s = some (.one (.key j))) (hsd : Nat.beq s d1 = false ∧ Nat.beq s d = false) (hlh : lo ≤ hi) (hhi : hi ≤ c2.n) (hb : (c.n + (hi - lo)) * by_ ≤ 140737488355328) (h63 : c.n + (hi - lo) ≤ 9223372036854775807) (hn : c.n + (hi - lo) = n) (hcc : c.cs ++ sub (lo * sz) ((hi - lo) * sz) c2.cs = cs) (hcc2 : a4P c2.cs (lo * sz) ((hi - lo) * sz) = c2s)
  (h : Ops P C nt Q all rest ⟨(s, .one (.key j)) :: (d, .one (.key k)) :: a0l [k, j] [k, j] ((d1, .any) :: tm), a0i [k, j] [k, j] bx, (j, some ⟨false, c2.e, sz, c2.n, c2s⟩) :: (k, some ⟨false, e, sz, n, cs⟩) :: (j, none) :: ks⟩) : Ops P C nt Q all (o1 :: o2 :: rest) ⟨tm, bx, ks⟩ := Ops.mk fun L a w hr => by
 subst hn; subst hcc; subst hcc2
 have hkj' : k ≠ j := by simpa using hkj
 refine wpList_plain hg1 fun K1 hK1 => ?_
 -- what stands in memory
 have ho1 := (hr.ks k c hk).1
 have ho2 := (hr.ks j c2 hj).1
 simp only [Own] at ho1 ho2
 obtain ⟨vs, f1, q1, q2, q3, q4, q5⟩ := ho1
 obtain ⟨us, f2, r1, r2, r3, r4, r5⟩ := ho2
 subst hce; subst hcs
 obtain ⟨inf, z, g1, g2, g3, g4, g5⟩ := hT.el c.e c.sz by_ zc he
 have hE : c.e < 1000000 := hT.lt _ _ he
 have hrow := q4.1 hE
 have hE2 : c2.e < 1000000 := by simpa [Nat.blt_eq] using he2
 have hrow2 := r4.1 hE2
 rw [hcs2] at hrow2 r3
 have hul : us.length = c2.n * c.sz := hrow2.1
 have one : ∀ {ds : List DV} {vs : List Value} {f : List Nat}, a0V w ds vs f → ∀ u ∈ vs, u.oneCell' = true := fun h => a7g (ok := fun _ => True) _ _ (a6D _ _ _ h (fun _ _ => trivial))
 obtain ⟨A, m, cap, hA⟩ : ∃ A m cap, L.rv j = .slice A m cap := by
  rcases hrow2.2 with ⟨g, _⟩ | ⟨g, cap, cur, g, _⟩
  ·exact ⟨_, _, _, g⟩
  ·exact ⟨_, _, _, g⟩
 have hrun := hs.run L a w hr A m cap hA w
 have hm1 : (hi - lo) * c.sz + lo * c.sz = hi * c.sz := by rw [← Nat.add_mul]; congr 1; omega
 have hm2 : hi * c.sz ≤ c2.n * c.sz := Nat.mul_le_mul_right _ hhi
 have hm3 : hi * c.sz + (c2.n - hi) * c.sz = c2.n * c.sz := by rw [← Nat.add_mul]; congr 1; omega
 obtain ⟨A1, c1, e1, hrd⟩ : ∃ A1 c1, sliced A lo hi cap c.sz = .slice A1 (hi - lo) c1 ∧ a3i w A1 (hi - lo) c.sz (sub (lo * c.sz) ((hi - lo) * c.sz) us) := by
  refine ⟨_, _, rfl, by rw [a4v _ _ _ (by omega)], fun hpos => ?_⟩
  rcases hrow2.2 with ⟨g1, g2⟩ | ⟨g, cap', cur, g1, _, g3, g4, g5, g6, g7⟩
  ·omega
  ·rw [hA] at g1
   simp only [Value.slice.injEq] at g1
   obtain ⟨rfl, rfl, rfl⟩ := g1
   have hne : ¬ cap = lo := by omega
   refine ⟨g, lo * c.sz, by rw [if_neg hne]; simp only [Option.map_some, a5i, Nat.zero_add], fun i v hi' => ?_⟩
   have hlt : i < (hi - lo) * c.sz := by
    have := (List.getElem?_eq_some_iff.1 hi').1
    rw [a4v _ _ _ (by omega)] at this
    exact this
   rw [a8O _ _ _ _ hlt] at hi'
   rw [cell_of_row _ g _ cur c2.e (0, 0) g3]
   rw [← g7, List.getElem?_take, if_pos (by omega), Array.getElem?_toList] at hi'
   exact hi'
 refine a5O hrun (hK1 _ _ ?_)
 have hr1 : Rel P C nt L ⟨(d1, .any) :: tm, bx, ks⟩ (a.put o1.dst (sliced A lo hi cap c.sz)) w := by
  rw [hd1]
  exact hr.put (v := .any) (by simpa [Nat.blt_eq] using hn1) (by simp only [SVr]) (by simp [SV.keys]) (by simp [SV.boxes])
 have ex := hx.run L _ w hr1
 simp only [SVr, CVr] at ex
 have ey : (a.put o1.dst (sliced A lo hi cap c.sz)).eval (.tmp d1) = .slice A1 (hi - lo) c1 := by
  rw [hd1, ← e1]
  have hsz := hr.sz
  have hlt : d1 < nt := by simpa [Nat.blt_eq] using hn1
  simp [Act.eval, Act.put, hsz, hlt]
 refine wpList_plain hg2 fun K hK => ?_
 have hzs : z.cells.size = c.sz := by
  have := a7G g5
  simp only [Array.length_toList] at this
  rw [this, hl0]
 refine b0p w x (.tmp d1) t ho c.e z c.sz by_ (hT.sl t c.e ht) (by rw [g1]; simp [g2, g3, g4]) hzs q2 (L.rv k) c.n vs ex hrow A1 (hi - lo) c1 _ ey hrd (fun u hu => one r5 u (List.mem_of_mem_drop (List.mem_of_mem_take hu))) (by simpa [maxLen] using h63) hb ?_
 intro A' c' w' h9 hchg hblk
 refine hK _ _ ?_
 -- the parts
 obtain ⟨fa, fr, rfl, ta, tr⟩ := a7w (lo * c.sz) r5
 obtain ⟨fb, fc, rfl, tb, tc⟩ := a7w ((hi - lo) * c.sz) tr
 have hkn := hr.kn k c hk
 have hjn := hr.kn j c2 hj
 have hkk := hr.kk k j c c2 hk hj hkj'
 rw [q1] at hkn; rw [r1] at hjn
 obtain ⟨n1, n2, n3⟩ := List.nodup_append.1 hkn
 obtain ⟨p1, p2, p3⟩ := List.nodup_append.1 hjn
 obtain ⟨pa, pbc, p4⟩ := List.nodup_append.1 p2
 obtain ⟨pb, pc, p5⟩ := List.nodup_append.1 pbc
 have hltk : ∀ b ∈ L.fp k, b < w.heap.size := fun b hb' => hr.k_lt hk b hb'
 have hltj : ∀ b ∈ L.fp j, b < w.heap.size := fun b hb' => hr.k_lt hj b hb'
 have inj : ∀ b, b ∈ fa ++ (fb ++ fc) → b ∈ L.fp j := fun b hb' => by rw [r1]; simp only [List.mem_append] at hb' ⊢; exact .inr hb'
 have ink : ∀ b, b ∈ f1 → b ∈ L.fp k := fun b hb' => by rw [q1]; simp [hb']
 have keepk : ∀ b ∈ f1, w'.heap[b]? = w.heap[b]? := fun b hb' => hchg.block b (hltk b (ink b hb')) (fun hm => n3 b hm b hb' rfl)
 have keepj : ∀ b ∈ L.fp j, w'.heap[b]? = w.heap[b]? := fun b hb' => hchg.block b (hltj b hb') (fun hm => hkk b (by rw [q1]; simp [hm]) hb')
 have k1 := a2O _ _ _ q5 keepk
 have k2 := a2O _ _ _ tb (fun b hb' => keepj b (inj b (by simp [hb'])))
 have hbl : ∀ b, b ∈ (Value.slice A' (c.n + (hi - lo)) c').ownBlock.toList → b ∈ (L.rv k).ownBlock.toList ∨ b = w.heap.size := fun b hb' => by
  rcases hblk with g | g
  ·rw [← g] at hb'; exact .inl hb'
  ·rw [g] at hb'; simp only [Option.toList_some, List.mem_singleton] at hb'; exact .inr hb'
 have hown' : Own w' (.sl c.e c.sz (c.n + (hi - lo)) (c.cs ++ sub (lo * c.sz) ((hi - lo) * c.sz) c2.cs)) (.slice A' (c.n + (hi - lo)) c') ((Value.slice A' (c.n + (hi - lo)) c').ownBlock.toList ++ (f1 ++ fb)) := by
  unfold Own
  refine ⟨_, f1 ++ fb, rfl, q2, ?_, a3y hE h9, a2X _ _ _ _ _ _ k1 k2⟩
  rw [List.length_append, q3, a4v _ _ _ (by rw [r3]; omega), Nat.add_mul]
 have hset := hr1.setkey (k := k) (c := c) (c' := ⟨false, c.e, c.sz, c.n + (hi - lo), c.cs ++ sub (lo * c.sz) ((hi - lo) * c.sz) c2.cs⟩) (js := [j]) (same := false) hk hkj (hchg.mono (fun b hb' => by rw [q1]; simp [hb'])) hown'
  (by
   refine List.nodup_append.2 ⟨?_, List.nodup_append.2 ⟨n2, pb, fun x hx' y hy' e' => hkk x (ink x hx') (inj x (by rw [e']; simp [hy']))⟩, fun x hx' y hy' e' => ?_⟩
   ·cases (Value.slice A' (c.n + (hi - lo)) c').ownBlock <;> simp
   ·subst e'
    rcases hbl x hx' with g | g
    ·rcases List.mem_append.1 hy' with hy' | hy'
     ·exact n3 x g x hy' rfl
     ·exact hkk x (by rw [q1]; simp [g]) (inj x (by simp [hy']))
    ·rcases List.mem_append.1 hy' with hy' | hy'
     ·have := hltk x (ink x hy'); omega
     ·have := hltj x (inj x (by simp [hy'])); omega)
  (fun b hb' => by
   rcases List.mem_append.1 hb' with hb' | hb'
   ·rcases hbl b hb' with g | g
    ·exact .inl (by rw [q1]; simp [g])
    ·exact .inr (.inr (by omega))
   ·rcases List.mem_append.1 hb' with hb' | hb'
    ·exact .inl (ink b hb')
    ·exact .inr (.inl ⟨j, by simp, inj b (by simp [hb'])⟩)) (by intro i hi'; simp only [List.mem_singleton] at hi'; subst hi'; exact Option.isSome_iff_exists.2 ⟨c2, hj⟩) (by simp) (by simp)
 -- key j again, with holes
 have hone2 : ∀ u ∈ us, u.oneCell' = true := one r5
 have hrow3 : w'.ownsRow 0 c2.e c.sz (L.rv j) c2.n us := by
  refine ⟨hrow2.1, ?_⟩
  rcases hrow2.2 with g | ⟨g, cap', cur, g1, g2, g3, g4⟩
  ·exact .inl g
  ·refine .inr ⟨g, cap', cur, g1, g2, ?_, g4⟩
   rw [keepj g (by rw [r1, g1]; simp [Value.ownBlock])]; exact g3
 have hown2 : Own w' (.sl c2.e c.sz c2.n (a4P c2.cs (lo * c.sz) ((hi - lo) * c.sz))) (L.rv j) ((L.rv j).ownBlock.toList ++ (fa ++ ([] ++ fc))) := by
  unfold Own
  have ta' := a2O _ _ _ ta (fun b hb' => keepj b (inj b (by simp [hb'])))
  have tc' := a2O _ _ _ tc (fun b hb' => keepj b (inj b (by simp [hb'])))
  have th : a0V w' (List.replicate ((hi - lo) * c.sz) .hole) ((us.drop (lo * c.sz)).take ((hi - lo) * c.sz)) [] := by
   have := a8i (w := w') ((us.drop (lo * c.sz)).take ((hi - lo) * c.sz)) (fun v hv => hone2 v (List.mem_of_mem_drop (List.mem_of_mem_take hv)))
   have e' : ((us.drop (lo * c.sz)).take ((hi - lo) * c.sz)).length = (hi - lo) * c.sz := by rw [List.length_take, List.length_drop]; omega
   rwa [e'] at this
  have hall := a2X _ _ _ _ _ _ ta' (a2X _ _ _ _ _ _ th tc')
  rw [List.take_append_drop, List.take_append_drop] at hall
  refine ⟨us, _, rfl, q2, ?_, a3y hE2 hrow3, hall⟩
  simp only [a4P, List.length_append, List.length_take, List.length_replicate, List.length_drop, r3]
  omega
 have hlk : ∀ i, lkk (St.mut ⟨(d1, .any) :: tm, bx, ks⟩ k [j] false ⟨false, c.e, c.sz, c.n + (hi - lo), c.cs ++ sub (lo * c.sz) ((hi - lo) * c.sz) c2.cs⟩) i = if i = k then some ⟨false, c.e, c.sz, c.n + (hi - lo), c.cs ++ sub (lo * c.sz) ((hi - lo) * c.sz) c2.cs⟩ else if i = j then none else lkk ⟨tm, bx, ks⟩ i := fun i => by
  simp only [lkk, St.mut, List.map_cons, List.map_nil, List.cons_append, List.nil_append, a0Z]
  split
  ·rfl
  ·split <;> rfl
 have inj2 : ∀ b, b ∈ (L.rv j).ownBlock.toList ++ (fa ++ ([] ++ fc)) → b ∈ L.fp j := fun b hb' => by
  rw [r1]; simp only [List.mem_append, List.nil_append] at hb' ⊢
  rcases hb' with g | g | g
  ·exact .inl g
  ·exact .inr (.inl g)
  ·exact .inr (.inr (.inr g))
 have hnew := hset.newkey (k := j) (c := ⟨false, c2.e, c.sz, c2.n, a4P c2.cs (lo * c.sz) ((hi - lo) * c.sz)⟩) (v := L.rv j) (f := (L.rv j).ownBlock.toList ++ (fa ++ ([] ++ fc))) (by rw [hlk, if_neg (fun e => hkj' e.symm), if_pos rfl]) hown2 rfl
  (by
   rw [List.nil_append]
   refine List.nodup_append.2 ⟨p1, List.nodup_append.2 ⟨pa, pc, fun x hx' y hy' => p4 x hx' y (by simp [hy'])⟩, fun x hx' y hy' => p3 x hx' y (by
    simp only [List.mem_append] at hy' ⊢
    rcases hy' with g | g
    ·exact .inl g
    ·exact .inr (.inr g))⟩)
  (fun b hb' => hr.k1 j c2 hj b (inj2 b hb'))
  (fun b hb' i x hx' e' => by
   obtain ⟨y, hy⟩ := b3x hx'
   exact hr.bk i j y c2 hy hj (by rw [show L.bb i = b from e']; exact inj2 b hb'))
  (fun b hb' i q hq hm => by
   rw [hlk] at hq
   by_cases hik : i = k
   ·subst hik
    simp only [if_true] at hm
    rcases List.mem_append.1 hm with hm | hm
    ·rcases hbl b hm with g | g
     ·exact hkk b (by rw [q1]; simp [g]) (inj2 b hb')
     ·have := hltj b (inj2 b hb'); omega
    ·rcases List.mem_append.1 hm with hm | hm
     ·exact hkk b (ink b hm) (inj2 b hb')
     ·rw [List.nil_append] at hb'
      rcases List.mem_append.1 hb' with g | g
      ·exact p3 b g b (by simp [hm]) rfl
      ·rcases List.mem_append.1 g with g | g
       ·exact p4 b g b (by simp [hm]) rfl
       ·exact p5 b hm b g rfl
   ·rw [if_neg hik] at hq
    by_cases hij : i = j
    ·rw [if_pos hij] at hq; cases hq
    ·rw [if_neg hij] at hq
     simp only [if_neg hik] at hm
     exact hr.kk i j q c2 hq hj hij b hm (inj2 b hb'))
 have hd' : d < nt := by simpa [Nat.blt_eq] using hnt
 have hput := hnew.put (d := d) (v := .one (.key k)) (r := .slice A' (c.n + (hi - lo)) c') hd' (by simp only [SVr, CVr]; rw [if_neg hkj']; simp) (by
  simp only [SV.keys, CV.keys, List.mem_singleton, forall_eq]
  simp [lkk, a0Z, hkj', St.mut]) (by simp [SV.boxes])
 have hsv := hr.tm s _ hsl
 simp only [SVr, CVr] at hsv
 have n1' : s ≠ d1 := Nat.ne_of_beq_eq_false hsd.1
 have n2' : s ≠ d := Nat.ne_of_beq_eq_false hsd.2
 have hval : ((a.put o1.dst (sliced A lo hi cap c.sz)).put (some d) (.slice A' (c.n + (hi - lo)) c')).tmps.getD s undef = L.rv j := by
  rw [← hsv, hd1]
  simp only [Act.put]
  rw [a9Z n2', a9Z n1']
 have hal := hput.also (d := s) (v := .one (.key j)) (by simp only [SVr, CVr, if_true]; exact hval) (by simp [SV.keys, CV.keys, lkk, a0Z, St.put]) (by simp [SV.boxes])
 rw [hd]
 exact h.run _ _ _ hal
theorem c1Z {tm : List (Nat × SV)} {bx : List (Nat × TypeId × List CV)} {ks : List (Nat × Option KC)} {s k k' : Nat} {c c' : KC} (hs : look tm s = some (.one (.key k))) (hk : lkk ⟨tm, bx, ks⟩ k = some c) (hk' : lkk ⟨tm, bx, ks⟩ k' = some c') (hne : k' ∉ [k]) (hh : c.h = false) :
  Weak P C nt ⟨tm, bx, ks⟩ ⟨(s, .one (.key k')) :: a0l [k', k] [k', k] tm, a0i [k', k] [k', k] bx, (k', some c) :: (k, none) :: ks⟩ := Weak.mk fun L a w hr => by
 have ho := (hr.ks k c hk).1
 have hsv := hr.tm s _ hs
 simp only [SVr, CVr] at hsv
 have hset := hr.setkey (k := k') (c := c') (c' := c) (js := [k]) (same := false) hk' hne (Chg.refl _ w) ho (hr.kn k c hk) (fun b hb => .inr (.inl ⟨k, by simp, hb⟩)) (by intro i hi'; simp only [List.mem_singleton] at hi'; subst hi'; exact Option.isSome_iff_exists.2 ⟨c, hk⟩) (by simp) (fun h => by rw [hh] at h; cases h)
 exact ⟨_, hset.also (d := s) (v := .one (.key k')) (by simp only [SVr, CVr, if_true]; exact hsv) (by simp [SV.keys, CV.keys, a5j]) (by simp [SV.boxes])⟩
/-! ### keys in boxes -/
theorem b4D {L : Lyt} {w : World} {c' : CV} {v : Value} : ∀ {cs : List CV} {vs : List Value} {i : Nat}, CVL C L w cs vs → vs[i]? = some v → CVr C L w c' v → CVL C L w (cs.set i c') vs
 | [], _, _, h, _, _ => by simpa using h
 | x :: xs, _, 0, ⟨u, vs', e, h1, h2⟩, hv, hc => by
  subst e
  simp only [List.getElem?_cons_zero, Option.some.injEq] at hv
  subst hv
  exact ⟨u, vs', rfl, hc, h2⟩
 | x :: xs, _, i + 1, ⟨u, vs', e, h1, h2⟩, hv, hc => by
  subst e
  exact ⟨u, vs', rfl, h1, b4D h2 (by simpa using hv) hc⟩
theorem b2P {L : Lyt} {w : World} {c : CV} : ∀ {cs : List CV} {vs : List Value} {i : Nat}, CVL C L w cs vs → cs[i]? = some c → ∃ v, vs[i]? = some v ∧ CVr C L w c v
 | [], _, _, _, h => by simp at h
 | x :: xs, _, 0, ⟨u, vs', e, h1, h2⟩, h => by
  subst e
  simp only [List.getElem?_cons_zero, Option.some.injEq] at h
  subst h
  exact ⟨u, by simp, h1⟩
 | x :: xs, _, i + 1, ⟨u, vs', e, h1, h2⟩, h => by
  subst e
  simpa using b2P h2 (by simpa using h)
theorem Rel.alsoK (h : Rel P C nt L σ a w) {b t i k : Nat} {cs : List CV} (hb : look σ.bx b = some (t, cs)) (hv : ∀ vs : List Value, w.heap[L.bb b]? = some (.cells vs.toArray t (0, 0)) → vs[i]? = some (L.rv k)) (hk : (lkk σ k).isSome = true) (hok : (cs.flatMap CV.keys).all (fun j => (lkk σ j).isSome) = true) : Rel P C nt L ⟨σ.tm, (b, t, cs.set i (.key k)) :: σ.bx, σ.ks⟩ a w :=
 have hx : ∀ z x, look ((b, t, cs.set i (.key k)) :: σ.bx) z = some x → ∃ y, look σ.bx z = some y := fun z x hx => by
  simp only [a0Z] at hx
  split at hx
  ·rename_i e; exact ⟨_, by rw [e]; exact hb⟩
  ·exact ⟨_, hx⟩
 { h with
  tm := h.tm
  bx := fun i' t' cs'' hx => by
   simp only [a0Z] at hx
   split at hx
   ·rename_i e
    simp only [Option.some.injEq, Prod.mk.injEq] at hx
    obtain ⟨rfl, rfl⟩ := hx
    obtain ⟨vs, h1, h2⟩ := h.bx b _ _ hb
    exact ⟨vs, by rw [e]; exact h1, b4D h2 (hv vs h1) (by simp [CVr])⟩
   ·exact h.bx i' t' cs'' hx
  ks := h.ks
  b1 := fun z x h' => by obtain ⟨y, hy⟩ := hx z x h'; exact h.b1 z y hy
  k1 := h.k1
  kn := h.kn
  bb := fun z j x y h1 h2 => by
   obtain ⟨x', h1'⟩ := hx z x h1
   obtain ⟨y', h2'⟩ := hx j y h2
   exact h.bb z j x' y' h1' h2'
  bk := fun z k2 x c h' hc => by obtain ⟨y, hy⟩ := hx z x h'; exact h.bk z k2 y c hy hc
  kk := h.kk
  lk := fun j hm => by
   simp only [St.tk, List.flatMap_cons, List.mem_append] at hm
   rcases hm with hm | hm | hm
   ·exact h.lk j (by simp only [St.tk, List.mem_append]; exact .inl hm)
   ·obtain ⟨c, hc, hj⟩ := List.mem_flatMap.1 hm
    rcases List.mem_or_eq_of_mem_set hc with hc | hc
    ·exact List.all_eq_true.1 hok j (List.mem_flatMap.2 ⟨c, hc, hj⟩)
    ·rw [hc] at hj
     simp only [CV.keys, List.mem_singleton] at hj
     rw [hj]; exact hk
   ·exact h.lk j (by simp only [St.tk, List.mem_append]; exact .inr hm)
  lb := fun b' hm => by
   have := h.lb b' hm
   simp only [a0Z]
   split
   ·rfl
   ·exact this }
theorem b3H {vs rs : List Nat} {i : Nat} : ∀ {bx : List (Nat × TypeId × List CV)}, look (a0i vs rs bx) i = (look bx i).map fun q => (q.1, q.2.map (CV.kill vs rs))
 | [] => by simp [a0i, look]
 | p :: bx => by
  obtain ⟨b, q⟩ := p
  have ih := b3H (vs := vs) (rs := rs) (i := i) (bx := bx)
  simp only [a0i] at ih
  simp only [a0i, List.map_cons, a0Z]
  split
  ·rfl
  ·exact ih
theorem a2i {tm : List (Nat × SV)} {bx : List (Nat × TypeId × List CV)} {ks : List (Nat × Option KC)} {b i t k k' : Nat} {cs : List CV} {c c' : KC} (hb : look bx b = some (t, cs)) (hi : cs[i]? = some (.key k)) (hk : lkk ⟨tm, bx, ks⟩ k = some c) (hk' : lkk ⟨tm, bx, ks⟩ k' = some c') (hne : k' ∉ [k]) (hh : c.h = false)
  (hok : ((cs.map (CV.kill [k', k] [k', k])).flatMap CV.keys).all (fun j => (lkk ⟨a0l [k', k] [k', k] tm, a0i [k', k] [k', k] bx, (k', some c) :: (k, none) :: ks⟩ j).isSome) = true) :
  Weak P C nt ⟨tm, bx, ks⟩ ⟨a0l [k', k] [k', k] tm, (b, t, (cs.map (CV.kill [k', k] [k', k])).set i (.key k')) :: a0i [k', k] [k', k] bx, (k', some c) :: (k, none) :: ks⟩ := Weak.mk fun L a w hr => by
 have ho := (hr.ks k c hk).1
 obtain ⟨vs0, h1, h2⟩ := hr.bx b t cs hb
 obtain ⟨v, h3, h4⟩ := b2P h2 hi
 simp only [CVr] at h4
 have hset := hr.setkey (k := k') (c := c') (c' := c) (js := [k]) (same := false) hk' hne (Chg.refl _ w) ho (hr.kn k c hk) (fun b hb => .inr (.inl ⟨k, by simp, hb⟩)) (by intro i hi'; simp only [List.mem_singleton] at hi'; subst hi'; exact Option.isSome_iff_exists.2 ⟨c, hk⟩) (by simp) (fun h => by rw [hh] at h; cases h)
 refine ⟨_, hset.alsoK (b := b) (t := t) (i := i) (k := k') (cs := cs.map (CV.kill [k', k] [k', k])) (by show look (a0i [k', k] [k', k] bx) b = _; rw [b3H, hb]; rfl) (fun vs hvs => ?_) (by rw [a5j]; rfl) hok⟩
 have e : vs = vs0 := by
  have : some (Obj.cells vs.toArray t (0, 0)) = some (Obj.cells vs0.toArray t (0, 0)) := hvs.symm.trans h1
  simpa using this
 subst e
 simp only [if_true]
 rw [h3, h4]
theorem b7H {Q : Exit → St → Prop} {all : Array Oper} {rest : List Oper} {tm : List (Nat × SV)} {bx : List (Nat × TypeId × List CV)} {ks : List (Nat × Option KC)} {t e sz by_ d d1 k j s lo hi n : Nat} {zc : List CV} {c c2 : KC} {cs c2s : List DV} {b8 t8 i8 : Nat} {cs8 : List CV} (hT : TTOk P T)
  (hg1 : o1.guard = none) (hd1 : o1.dst = some d1) (hn1 : Nat.blt d1 nt = true) (hs : SlOk P C nt ⟨tm, bx, ks⟩ o1 j sz lo hi)
  (hg2 : o2.guard = none) (hd : o2.dst = some d) (ho : o2.op = .call { callee := .builtin .append, args := #[x, .tmp d1], argTypes := #[t, t] }) (hnt : Nat.blt d nt = true) (ht : look T.sl t = some e) (he : look T.el e = some (sz, by_, zc)) (hl0 : zc.length = sz)
  (hx : Ev P C nt ⟨(d1, .any) :: tm, bx, ks⟩ x (.one (.key k))) (hk : lkk ⟨tm, bx, ks⟩ k = some c) (hce : c.e = e) (hcs : c.sz = sz) (hj : lkk ⟨tm, bx, ks⟩ j = some c2) (hcs2 : c2.sz = sz) (he2 : Nat.blt c2.e 1000000 = true) (hkj : k ∉ [j]) (hh : c2.h = false)
  (hsl : look tm s = some (.one (.key j))) (hsd : Nat.beq s d1 = false ∧ Nat.beq s d = false) (hlh : lo ≤ hi) (hhi : hi ≤ c2.n) (hb : (c.n + (hi - lo)) * by_ ≤ 140737488355328) (h63 : c.n + (hi - lo) ≤ 9223372036854775807) (hn : c.n + (hi - lo) = n) (hcc : c.cs ++ sub (lo * sz) ((hi - lo) * sz) c2.cs = cs) (hcc2 : a4P c2.cs (lo * sz) ((hi - lo) * sz) = c2s)
  (hb8 : look bx b8 = some (t8, cs8)) (hi8 : cs8[i8]? = some (.key j)) (hok8 : ((cs8.map (CV.kill [k, j] [k, j])).flatMap CV.keys).all (fun i => (lkk ⟨(s, .one (.key j)) :: (d, .one (.key k)) :: a0l [k, j] [k, j] ((d1, .any) :: tm), a0i [k, j] [k, j] bx, (j, some ⟨false, c2.e, sz, c2.n, c2s⟩) :: (k, some ⟨false, e, sz, n, cs⟩) :: (j, none) :: ks⟩ i).isSome) = true)
  (h : Ops P C nt Q all rest ⟨(s, .one (.key j)) :: (d, .one (.key k)) :: a0l [k, j] [k, j] ((d1, .any) :: tm), (b8, t8, (cs8.map (CV.kill [k, j] [k, j])).set i8 (.key j)) :: a0i [k, j] [k, j] bx, (j, some ⟨false, c2.e, sz, c2.n, c2s⟩) :: (k, some ⟨false, e, sz, n, cs⟩) :: (j, none) :: ks⟩) : Ops P C nt Q all (o1 :: o2 :: rest) ⟨tm, bx, ks⟩ := Ops.mk fun L a w hr => by
 subst hn; subst hcc; subst hcc2
 have hkj' : k ≠ j := by simpa using hkj
 refine wpList_plain hg1 fun K1 hK1 => ?_
 -- what stands in memory
 have ho1 := (hr.ks k c hk).1
 have ho2 := (hr.ks j c2 hj).1
 simp only [Own] at ho1 ho2
 obtain ⟨vs, f1, q1, q2, q3, q4, q5⟩ := ho1
 obtain ⟨us, f2, r1, r2, r3, r4, r5⟩ := ho2
 subst hce; subst hcs
 obtain ⟨inf, z, g1, g2, g3, g4, g5⟩ := hT.el c.e c.sz by_ zc he
 have hE : c.e < 1000000 := hT.lt _ _ he
 have hrow := q4.1 hE
 have hE2 : c2.e < 1000000 := by simpa [Nat.blt_eq] using he2
 have hrow2 := r4.1 hE2
 rw [hcs2] at hrow2 r3
 have hul : us.length = c2.n * c.sz := hrow2.1
 have one : ∀ {ds : List DV} {vs : List Value} {f : List Nat}, a0V w ds vs f → ∀ u ∈ vs, u.oneCell' = true := fun h => a7g (ok := fun _ => True) _ _ (a6D _ _ _ h (fun _ _ => trivial))
 obtain ⟨A, m, cap, hA⟩ : ∃ A m cap, L.rv j = .slice A m cap := by
  rcases hrow2.2 with ⟨g, _⟩ | ⟨g, cap, cur, g, _⟩
  ·exact ⟨_, _, _, g⟩
  ·exact ⟨_, _, _, g⟩
 have hrun := hs.run L a w hr A m cap hA w
 have hm1 : (hi - lo) * c.sz + lo * c.sz = hi * c.sz := by rw [← Nat.add_mul]; congr 1; omega
 have hm2 : hi * c.sz ≤ c2.n * c.sz := Nat.mul_le_mul_right _ hhi
 have hm3 : hi * c.sz + (c2.n - hi) * c.sz = c2.n * c.sz := by rw [← Nat.add_mul]; congr 1; omega
 obtain ⟨A1, c1, e1, hrd⟩ : ∃ A1 c1, sliced A lo hi cap c.sz = .slice A1 (hi - lo) c1 ∧ a3i w A1 (hi - lo) c.sz (sub (lo * c.sz) ((hi - lo) * c.sz) us) := by
  refine ⟨_, _, rfl, by rw [a4v _ _ _ (by omega)], fun hpos => ?_⟩
  rcases hrow2.2 with ⟨g1, g2⟩ | ⟨g, cap', cur, g1, _, g3, g4, g5, g6, g7⟩
  ·omega
  ·rw [hA] at g1
   simp only [Value.slice.injEq] at g1
   obtain ⟨rfl, rfl, rfl⟩ := g1
   have hne : ¬ cap = lo := by omega
   refine ⟨g, lo * c.sz, by rw [if_neg hne]; simp only [Option.map_some, a5i, Nat.zero_add], fun i v hi' => ?_⟩
   have hlt : i < (hi - lo) * c.sz := by
    have := (List.getElem?_eq_some_iff.1 hi').1
    rw [a4v _ _ _ (by omega)] at this
    exact this
   rw [a8O _ _ _ _ hlt] at hi'
   rw [cell_of_row _ g _ cur c2.e (0, 0) g3]
   rw [← g7, List.getElem?_take, if_pos (by omega), Array.getElem?_toList] at hi'
   exact hi'
 refine a5O hrun (hK1 _ _ ?_)
 have hr1 : Rel P C nt L ⟨(d1, .any) :: tm, bx, ks⟩ (a.put o1.dst (sliced A lo hi cap c.sz)) w := by
  rw [hd1]
  exact hr.put (v := .any) (by simpa [Nat.blt_eq] using hn1) (by simp only [SVr]) (by simp [SV.keys]) (by simp [SV.boxes])
 have ex := hx.run L _ w hr1
 simp only [SVr, CVr] at ex
 have ey : (a.put o1.dst (sliced A lo hi cap c.sz)).eval (.tmp d1) = .slice A1 (hi - lo) c1 := by
  rw [hd1, ← e1]
  have hsz := hr.sz
  have hlt : d1 < nt := by simpa [Nat.blt_eq] using hn1
  simp [Act.eval, Act.put, hsz, hlt]
 refine wpList_plain hg2 fun K hK => ?_
 have hzs : z.cells.size = c.sz := by
  have := a7G g5
  simp only [Array.length_toList] at this
  rw [this, hl0]
 refine b0p w x (.tmp d1) t ho c.e z c.sz by_ (hT.sl t c.e ht) (by rw [g1]; simp [g2, g3, g4]) hzs q2 (L.rv k) c.n vs ex hrow A1 (hi - lo) c1 _ ey hrd (fun u hu => one r5 u (List.mem_of_mem_drop (List.mem_of_mem_take hu))) (by simpa [maxLen] using h63) hb ?_
 intro A' c' w' h9 hchg hblk
 refine hK _ _ ?_
 -- the parts
 obtain ⟨fa, fr, rfl, ta, tr⟩ := a7w (lo * c.sz) r5
 obtain ⟨fb, fc, rfl, tb, tc⟩ := a7w ((hi - lo) * c.sz) tr
 have hkn := hr.kn k c hk
 have hjn := hr.kn j c2 hj
 have hkk := hr.kk k j c c2 hk hj hkj'
 rw [q1] at hkn; rw [r1] at hjn
 obtain ⟨n1, n2, n3⟩ := List.nodup_append.1 hkn
 obtain ⟨p1, p2, p3⟩ := List.nodup_append.1 hjn
 obtain ⟨pa, pbc, p4⟩ := List.nodup_append.1 p2
 obtain ⟨pb, pc, p5⟩ := List.nodup_append.1 pbc
 have hltk : ∀ b ∈ L.fp k, b < w.heap.size := fun b hb' => hr.k_lt hk b hb'
 have hltj : ∀ b ∈ L.fp j, b < w.heap.size := fun b hb' => hr.k_lt hj b hb'
 have inj : ∀ b, b ∈ fa ++ (fb ++ fc) → b ∈ L.fp j := fun b hb' => by rw [r1]; simp only [List.mem_append] at hb' ⊢; exact .inr hb'
 have ink : ∀ b, b ∈ f1 → b ∈ L.fp k := fun b hb' => by rw [q1]; simp [hb']
 have keepk : ∀ b ∈ f1, w'.heap[b]? = w.heap[b]? := fun b hb' => hchg.block b (hltk b (ink b hb')) (fun hm => n3 b hm b hb' rfl)
 have keepj : ∀ b ∈ L.fp j, w'.heap[b]? = w.heap[b]? := fun b hb' => hchg.block b (hltj b hb') (fun hm => hkk b (by rw [q1]; simp [hm]) hb')
 have k1 := a2O _ _ _ q5 keepk
 have k2 := a2O _ _ _ tb (fun b hb' => keepj b (inj b (by simp [hb'])))
 have hbl : ∀ b, b ∈ (Value.slice A' (c.n + (hi - lo)) c').ownBlock.toList → b ∈ (L.rv k).ownBlock.toList ∨ b = w.heap.size := fun b hb' => by
  rcases hblk with g | g
  ·rw [← g] at hb'; exact .inl hb'
  ·rw [g] at hb'; simp only [Option.toList_some, List.mem_singleton] at hb'; exact .inr hb'
 have hown' : Own w' (.sl c.e c.sz (c.n + (hi - lo)) (c.cs ++ sub (lo * c.sz) ((hi - lo) * c.sz) c2.cs)) (.slice A' (c.n + (hi - lo)) c') ((Value.slice A' (c.n + (hi - lo)) c').ownBlock.toList ++ (f1 ++ fb)) := by
  unfold Own
  refine ⟨_, f1 ++ fb, rfl, q2, ?_, a3y hE h9, a2X _ _ _ _ _ _ k1 k2⟩
  rw [List.length_append, q3, a4v _ _ _ (by rw [r3]; omega), Nat.add_mul]
 have hset := hr1.setkey (k := k) (c := c) (c' := ⟨false, c.e, c.sz, c.n + (hi - lo), c.cs ++ sub (lo * c.sz) ((hi - lo) * c.sz) c2.cs⟩) (js := [j]) (same := false) hk hkj (hchg.mono (fun b hb' => by rw [q1]; simp [hb'])) hown'
  (by
   refine List.nodup_append.2 ⟨?_, List.nodup_append.2 ⟨n2, pb, fun x hx' y hy' e' => hkk x (ink x hx') (inj x (by rw [e']; simp [hy']))⟩, fun x hx' y hy' e' => ?_⟩
   ·cases (Value.slice A' (c.n + (hi - lo)) c').ownBlock <;> simp
   ·subst e'
    rcases hbl x hx' with g | g
    ·rcases List.mem_append.1 hy' with hy' | hy'
     ·exact n3 x g x hy' rfl
     ·exact hkk x (by rw [q1]; simp [g]) (inj x (by simp [hy']))
    ·rcases List.mem_append.1 hy' with hy' | hy'
     ·have := hltk x (ink x hy'); omega
     ·have := hltj x (inj x (by simp [hy'])); omega)
  (fun b hb' => by
   rcases List.mem_append.1 hb' with hb' | hb'
   ·rcases hbl b hb' with g | g
    ·exact .inl (by rw [q1]; simp [g])
    ·exact .inr (.inr (by omega))
   ·rcases List.mem_append.1 hb' with hb' | hb'
    ·exact .inl (ink b hb')
    ·exact .inr (.inl ⟨j, by simp, inj b (by simp [hb'])⟩)) (by intro i hi'; simp only [List.mem_singleton] at hi'; subst hi'; exact Option.isSome_iff_exists.2 ⟨c2, hj⟩) (by simp) (by simp)
 -- key j again, with holes
 have hone2 : ∀ u ∈ us, u.oneCell' = true := one r5
 have hrow3 : w'.ownsRow 0 c2.e c.sz (L.rv j) c2.n us := by
  refine ⟨hrow2.1, ?_⟩
  rcases hrow2.2 with g | ⟨g, cap', cur, g1, g2, g3, g4⟩
  ·exact .inl g
  ·refine .inr ⟨g, cap', cur, g1, g2, ?_, g4⟩
   rw [keepj g (by rw [r1, g1]; simp [Value.ownBlock])]; exact g3
 have hown2 : Own w' (.sl c2.e c.sz c2.n (a4P c2.cs (lo * c.sz) ((hi - lo) * c.sz))) (L.rv j) ((L.rv j).ownBlock.toList ++ (fa ++ ([] ++ fc))) := by
  unfold Own
  have ta' := a2O _ _ _ ta (fun b hb' => keepj b (inj b (by simp [hb'])))
  have tc' := a2O _ _ _ tc (fun b hb' => keepj b (inj b (by simp [hb'])))
  have th : a0V w' (List.replicate ((hi - lo) * c.sz) .hole) ((us.drop (lo * c.sz)).take ((hi - lo) * c.sz)) [] := by
   have := a8i (w := w') ((us.drop (lo * c.sz)).take ((hi - lo) * c.sz)) (fun v hv => hone2 v (List.mem_of_mem_drop (List.mem_of_mem_take hv)))
   have e' : ((us.drop (lo * c.sz)).take ((hi - lo) * c.sz)).length = (hi - lo) * c.sz := by rw [List.length_take, List.length_drop]; omega
   rwa [e'] at this
  have hall := a2X _ _ _ _ _ _ ta' (a2X _ _ _ _ _ _ th tc')
  rw [List.take_append_drop, List.take_append_drop] at hall
  refine ⟨us, _, rfl, q2, ?_, a3y hE2 hrow3, hall⟩
  simp only [a4P, List.length_append, List.length_take, List.length_replicate, List.length_drop, r3]
  omega
 have hlk : ∀ i, lkk (St.mut ⟨(d1, .any) :: tm, bx, ks⟩ k [j] false ⟨false, c.e, c.sz, c.n + (hi - lo), c.cs ++ sub (lo * c.sz) ((hi - lo) * c.sz) c2.cs⟩) i = if i = k then some ⟨false, c.e, c.sz, c.n + (hi - lo), c.cs ++ sub (lo * c.sz) ((hi - lo) * c.sz) c2.cs⟩ else if i = j then none else lkk ⟨tm, bx, ks⟩ i := fun i => by
  simp only [lkk, St.mut, List.map_cons, List.map_nil, List.cons_append, List.nil_append, a0Z]
  split
  ·rfl
  ·split <;> rfl
 have inj2 : ∀ b, b ∈ (L.rv j).ownBlock.toList ++ (fa ++ ([] ++ fc)) → b ∈ L.fp j := fun b hb' => by
  rw [r1]; simp only [List.mem_append, List.nil_append] at hb' ⊢
  rcases hb' with g | g | g
  ·exact .inl g
  ·exact .inr (.inl g)
  ·exact .inr (.inr (.inr g))
 have hnew := hset.newkey (k := j) (c := ⟨false, c2.e, c.sz, c2.n, a4P c2.cs (lo * c.sz) ((hi - lo) * c.sz)⟩) (v := L.rv j) (f := (L.rv j).ownBlock.toList ++ (fa ++ ([] ++ fc))) (by rw [hlk, if_neg (fun e => hkj' e.symm), if_pos rfl]) hown2 rfl
  (by
   rw [List.nil_append]
   refine List.nodup_append.2 ⟨p1, List.nodup_append.2 ⟨pa, pc, fun x hx' y hy' => p4 x hx' y (by simp [hy'])⟩, fun x hx' y hy' => p3 x hx' y (by
    simp only [List.mem_append] at hy' ⊢
    rcases hy' with g | g
    ·exact .inl g
    ·exact .inr (.inr g))⟩)
  (fun b hb' => hr.k1 j c2 hj b (inj2 b hb'))
  (fun b hb' i x hx' e' => by
   obtain ⟨y, hy⟩ := b3x hx'
   exact hr.bk i j y c2 hy hj (by rw [show L.bb i = b from e']; exact inj2 b hb'))
  (fun b hb' i q hq hm => by
   rw [hlk] at hq
   by_cases hik : i = k
   ·subst hik
    simp only [if_true] at hm
    rcases List.mem_append.1 hm with hm | hm
    ·rcases hbl b hm with g | g
     ·exact hkk b (by rw [q1]; simp [g]) (inj2 b hb')
     ·have := hltj b (inj2 b hb'); omega
    ·rcases List.mem_append.1 hm with hm | hm
     ·exact hkk b (ink b hm) (inj2 b hb')
     ·rw [List.nil_append] at hb'
      rcases List.mem_append.1 hb' with g | g
      ·exact p3 b g b (by simp [hm]) rfl
      ·rcases List.mem_append.1 g with g | g
       ·exact p4 b g b (by simp [hm]) rfl
       ·exact p5 b hm b g rfl
   ·rw [if_neg hik] at hq
    by_cases hij : i = j
    ·rw [if_pos hij] at hq; cases hq
    ·rw [if_neg hij] at hq
     simp only [if_neg hik] at hm
     exact hr.kk i j q c2 hq hj hij b hm (inj2 b hb'))
 have hd' : d < nt := by simpa [Nat.blt_eq] using hnt
 have hput := hnew.put (d := d) (v := .one (.key k)) (r := .slice A' (c.n + (hi - lo)) c') hd' (by simp only [SVr, CVr]; rw [if_neg hkj']; simp) (by
  simp only [SV.keys, CV.keys, List.mem_singleton, forall_eq]
  simp [lkk, a0Z, hkj', St.mut]) (by simp [SV.boxes])
 have hsv := hr.tm s _ hsl
 simp only [SVr, CVr] at hsv
 have n1' : s ≠ d1 := Nat.ne_of_beq_eq_false hsd.1
 have n2' : s ≠ d := Nat.ne_of_beq_eq_false hsd.2
 have hval : ((a.put o1.dst (sliced A lo hi cap c.sz)).put (some d) (.slice A' (c.n + (hi - lo)) c')).tmps.getD s undef = L.rv j := by
  rw [← hsv, hd1]
  simp only [Act.put]
  rw [a9Z n2', a9Z n1']
 have hal := hput.also (d := s) (v := .one (.key j)) (by simp only [SVr, CVr, if_true]; exact hval) (by simp [SV.keys, CV.keys, lkk, a0Z, St.put]) (by simp [SV.boxes])
 rw [hd]
 obtain ⟨vs0, z1, z2⟩ := hr.bx b8 t8 cs8 hb8
 obtain ⟨v8, z3, z4⟩ := b2P z2 hi8
 simp only [CVr] at z4
 have hbk := hr.bk b8 k _ c hb8 hk
 refine h.run _ _ _ (hal.alsoK (b := b8) (t := t8) (i := i8) (k := j) (cs := cs8.map (CV.kill [k, j] [k, j])) (by show look (a0i [k, j] [k, j] bx) b8 = _; rw [b3H, hb8]; rfl) (fun vs2 hvs2 => ?_) (by simp [lkk, a0Z, St.put]) hok8)
 have hkeep : w'.heap[L.bb b8]? = w.heap[L.bb b8]? := hchg.block _ (hr.bx_lt hb8) (fun hm => hbk (by rw [q1]; simp [hm]))
 have e8 : vs2 = vs0 := by
  have : some (Obj.cells vs2.toArray t8 (0, 0)) = some (Obj.cells vs0.toArray t8 (0, 0)) := hvs2.symm.trans (hkeep.trans z1)
  simpa using this
 subst e8
 simp only [if_true]
 rw [z3, z4]
end
end Go.Proofs.YtjkpoekgnmgofaaGreat

namespace Go.Proofs.YtjkpoekgnmgofaaGreat
open Go.RowKit
set_option linter.unusedVariables false
set_option linter.unusedSimpArgs false

def SWX (b : Nat) (wb w : World) : Prop := wb.heap.size ≤ w.heap.size ∧ ∀ k, k < wb.heap.size → k ≠ b → w.heap[k]? = wb.heap[k]?
theorem SWX.refl (b : Nat) (w : World) : SWX b w w := ⟨Nat.le_refl _, fun _ _ _ => rfl⟩
theorem SWX.chg {b : Nat} {wb w w' : World} (h : SWX b wb w) (hc : Chg [b] w w') : SWX b wb w' := ⟨Nat.le_trans h.1 hc.size, fun k hk hn => (hc.block k (Nat.lt_of_lt_of_le hk h.1) (by simpa using hn)).trans (h.2 k hk hn)⟩
def c6n (o : Oper) : Bool := match o.op with | .store _ _ _ => true | _ => false
def hdW (ops : Array Oper) (i : Nat) : Bool := (ops.toList.take i).all b0f && (match ops[i]? with | some o => b0f o || c6n o | none => true)
structure OpsW (P : Program) (C : Ctx) (nt : Nat) (Q : Exit → St → Prop) (all : Array Oper) (oB oK : List Nat) (b : Nat) (listed : Array Bool) (fuel : Nat) (σ : St) : Prop where
 run : ∀ wb L a w, Rel P C nt L σ a w → SWX (L.bb b) wb w → C.w0.heap.size ≤ wb.heap.size → (∀ i ∈ oB, L.bb i < wb.heap.size) → (∀ k ∈ oK, ∀ b ∈ L.fp k, b < wb.heap.size) → a2f P .any all (QQ P C nt Q) (SWX (L.bb b) wb) (hdW all) fuel listed a w
section
variable {P : Program} {C : Ctx} {nt : Nat} {Q : Exit → St → Prop} {all : Array Oper} {oB oK : List Nat} {listed : Array Bool} {fuel b : Nat} {tm : List (Nat × SV)} {bx : List (Nat × TypeId × List CV)} {ks : List (Nat × Option KC)} {o : Oper} {d : Nat} {v X : SV} {Ks Bs : List Nat} {g : Bool} {x y : Operand} {T : TT}
theorem a5b (b : Nat) {id : Nat} {l : List Oper} (hm : P.follows .mixedOrders = true) (hb : (oB.all fun i => (look bx i).isSome) = true) (hk : (oK.all fun k => (lkk ⟨tm, bx, ks⟩ k).isSome) = true)
  (h : OpsW P C nt Q l.toArray oB oK b (Array.replicate l.length false) l.length ⟨tm, bx, ks⟩) : Ok P C nt Q (.region id l.toArray true) ⟨tm, bx, ks⟩ := Ok.mk fun L a w hr => by
 have hr' := a7Q hr
 refine a8j (SWX (L.bb b) w.drew) (hdW l.toArray) hm ?_
 have := h.run w.drew L a w.drew hr' (SWX.refl _ _) hr'.chg.size (fun i hi => ?_) (fun k hk' b hb' => ?_)
 ·simpa using this
 ·obtain ⟨x, hx⟩ := Option.isSome_iff_exists.1 (List.all_eq_true.1 hb i hi)
  exact hr'.bx_lt hx
 ·obtain ⟨c, hc⟩ := Option.isSome_iff_exists.1 (List.all_eq_true.1 hk k hk')
  exact hr'.k_lt hc b hb'
theorem a1r (i : Nat) (hi : all[i]? = some o) (ht : a4y .any all (hdW all) listed i = true) (hg : o.guard = none) (hd : o.dst = some d) (hp : Pu P C nt o ⟨tm, bx, ks⟩ v Ks Bs) (h1 : (Ks.all fun k => oK.contains k && (lkk ⟨tm, bx, ks⟩ k).isSome) = true) (h2 : (Bs.all fun k => oB.contains k && (!(Nat.beq k b) && (look bx k).isSome)) = true) (h3 : (look bx b).isSome = true) (hn : Nat.blt d nt = true) (hk : a1o ⟨tm, bx, ks⟩ v = true)
  (h : OpsW P C nt Q all oB oK b (listed.setIfInBounds i true) fuel ⟨(d, v) :: tm, bx, ks⟩) : OpsW P C nt Q all oB oK b listed (fuel + 1) ⟨tm, bx, ks⟩ := ⟨fun wb L a w hr hs hw hB hK => by
 obtain ⟨r, q3, q4⟩ := hp.run L a w hr
 obtain ⟨xb, hxb⟩ := Option.isSome_iff_exists.1 h3
 have hy : ∀ w', SWX (L.bb b) wb w' → (execOp a.eval o).run P w' = .ok (.value r) w' := fun w' hs' => q4 w' fun z _ hu => by
  have hz : z < wb.heap.size ∧ z ≠ L.bb b := by
   rcases hu with (⟨h5, h6⟩ | ⟨k, hk, hb⟩) | ⟨i, hi, rfl⟩
   ·refine ⟨by omega, fun e => ?_⟩
    rcases hr.b1 b xb hxb with g | g
    ·omega
    ·exact h6 (by rw [e]; exact g)
   ·have := List.all_eq_true.1 h1 k hk
    simp only [Bool.and_eq_true, List.contains_iff_mem] at this
    obtain ⟨c, hc⟩ := Option.isSome_iff_exists.1 this.2
    exact ⟨hK k this.1 z hb, fun e => hr.bk b k xb c hxb hc (by rw [← e]; exact hb)⟩
   ·have := List.all_eq_true.1 h2 i hi
    simp only [Bool.and_eq_true, List.contains_iff_mem, Bool.not_eq_true'] at this
    obtain ⟨c, hc⟩ := Option.isSome_iff_exists.1 this.2.2
    exact ⟨hB i this.1, hr.bb i b c xb hc hxb (Nat.ne_of_beq_eq_false this.2.1)⟩
  rw [hs'.2 z hz.1 hz.2, hs.2 z hz.1 hz.2]
 refine a6a i (v := r) hi ht (fun _ _ _ h => h) hs (.inl ⟨by simp [Region.wanted, hg], hy⟩) ?_
 rw [hd]
 exact h.run wb L _ w (hr.put (by simpa [Nat.blt_eq] using hn) q3 (a1Q hk).1 (a1Q hk).2) hs hw hB hK⟩
theorem a4W (i : Nat) {t j t' sz by_ : Nat} {zc cs : List CV} {p : Bool × List CV} (hi : all[i]? = some o) (ht : (Region.ready .any all listed == [i]) = true) (hg : o.guard = none) (hT : TTOk P T) (ho : o.op = .store t x y) (hd : o.dst = none) (hte : look T.el t = some (sz, by_, zc)) (hx : Ev P C nt ⟨tm, bx, ks⟩ x (.box b j)) (hy : Ev P C nt ⟨tm, bx, ks⟩ y v) (hp : v.part = some p) (hk : a1o ⟨tm, bx, ks⟩ v = true)
  (hb : look bx b = some (t', cs)) (hl : p.2.length = sz) (hle : Nat.ble (j + sz) cs.length = true) (hkc : (cs.flatMap CV.keys).all (fun k => (lkk ⟨tm, bx, ks⟩ k).isSome) = true)
  (h : OpsW P C nt Q all oB oK b (listed.setIfInBounds i true) fuel ⟨tm, (b, t', a1e j p.2 cs) :: bx, ks⟩) : OpsW P C nt Q all oB oK b listed (fuel + 1) ⟨tm, bx, ks⟩ := ⟨fun wb L a w hr hs hw hB hK => by
 refine a7R i hi hg ht fun K hK' => ?_
 obtain ⟨us, h1, h2, h3⟩ := a4O hr hp hk (hy.run L a w hr)
 have h4 := hx.run L a w hr
 simp only [SVr] at h4
 obtain ⟨vs, h5, h6⟩ := hr.bx b t' cs hb
 obtain ⟨inf, z, g1, g2, _⟩ := hT.el t sz by_ zc hte
 have hrun := a7j (z := z) g1 g2 h1 (by rw [a2I h2]; exact hl) h3 h5 (off := j) (by rw [a2I h6]; simpa [Nat.ble_eq] using hle)
 unfold Oper.wp execOp
 simp only [ho, h4, Sem.run_bind, hrun, Result.andThen_ok, Sem.run_pure, Oper.upon, hd, Act.put]
 have hs' := hs.chg (a6i w (L.bb b) (a1e j us vs).toArray)
 refine hK' _ _ (fun _ => hs') (h.run wb L _ _ (hr.setbox hb (a6i _ _ _) (setRow_heap _ _ _ _ _ _ h5) (a9x j h6 h2) ?_) hs' hw hB hK)
 intro k hm
 simp only [a1e, List.flatMap_append, List.mem_append, or_assoc] at hm
 simp only [List.all_eq_true] at hkc
 rcases hm with hm | hm | hm
 ·exact hkc k (by
   obtain ⟨c, hc, hk'⟩ := List.mem_flatMap.1 hm
   exact List.mem_flatMap.2 ⟨c, List.mem_of_mem_take hc, hk'⟩)
 ·rw [a5c hp] at hm; exact (a1Q hk).1 k hm
 ·exact hkc k (by
   obtain ⟨c, hc, hk'⟩ := List.mem_flatMap.1 hm
   exact List.mem_flatMap.2 ⟨c, List.mem_of_mem_drop hc, hk'⟩)⟩
theorem a4G (is : List Nat) (hm : (is.all fun i => (all[i]?).isSome) = true) (hf : Nat.ble is.length fuel = true) (hc : a6z .any all (hdW all) is listed = true) (h : Ops P C nt Q all (is.filterMap fun i => all[i]?) ⟨tm, bx, ks⟩) : OpsW P C nt Q all oB oK b listed fuel ⟨tm, bx, ks⟩ := ⟨fun wb L a w hr _ _ _ _ =>
 a8e is _ listed fuel a w (a7T hm) (by simpa [Nat.ble_eq] using hf) hc (h.run L a w hr)⟩
theorem a4s {k : Nat} {c c' : KC} (hk : lkk ⟨tm, bx, ks⟩ k = some c) (e : c = c') (ho : (⟨tm, bx, ks⟩ : St).okB = true) : Weak P C nt ⟨tm, bx, ks⟩ ⟨tm, bx, (k, some c') :: ks⟩ := Weak.mk fun L a w hr => by
 subst e
 have hl : ∀ i q, lkk ⟨tm, bx, (k, some c) :: ks⟩ i = some q → lkk ⟨tm, bx, ks⟩ i = some q := fun i q h => by
  simp only [lkk, a0Z] at h
  split at h
  ·rename_i e; simp only [Option.join_some, Option.some.injEq] at h; rw [e, ← h]; exact hk
  ·exact h
 refine ⟨L, hr.sub' (fun _ _ h => h) (fun _ _ h => h) hl ?_⟩
 simp only [St.okB, Bool.and_eq_true, List.all_eq_true] at ho ⊢
 refine ⟨fun i hi => ?_, ho.2⟩
 have := ho.1 i hi
 simp only [lkk, a0Z]
 split
 ·rfl
 ·exact this
theorem a4F {σ : St} {k : Nat} {c : KC} {dd : DV} (h : Pu P C nt o σ (.one (.key k)) Ks Bs) (hk : lkk σ k = some c) (hd : DV.sl c.e c.sz c.n c.cs = dd) : Pu P C nt o σ (.one (.dv [k] dd)) Ks Bs := Pu.mk fun L a w hr => by
 subst hd
 obtain ⟨r, h1, h2⟩ := h.run L a w hr
 simp only [SVr, CVr] at h1
 refine ⟨r, ?_, h2⟩
 simp only [SVr, CVr]
 rw [h1]
 exact a4l _ _ _ (hr.ks k c hk).1 (fun b hb => .inr ⟨k, by simp, hb⟩)
theorem a4o {oB oK : List Nat} {hd' : Nat → Bool} {tm : List (Nat × SV)} {bx : List (Nat × TypeId × List CV)} {ks : List (Nat × Option KC)} (i : Nat) (hT : TTOk P T) {t e sz by_ d k : Nat} {zc : List CV} {v : SV} {p : Bool × List CV} {ds : List DV} {js : List Nat} (hi : all[i]? = some o) (ht' : (Region.ready .any all listed == [i]) = true) (hg : o.guard = none) (ho : o.op = .buildSlice t 1 #[(0, x)]) (hd : o.dst = some d) (hn : Nat.blt d nt = true) (ht : look T.sl t = some e) (he : look T.el e = some (sz, by_, zc)) (hl0 : zc.length = sz) (hsz : Nat.blt 0 sz = true) (hsm : Nat.ble sz 16777216 = true)
  (hx : Ev P C nt ⟨tm, bx, ks⟩ x v) (hp : v.part = some p) (hkv : a1o ⟨tm, bx, ks⟩ v = true) (how : a3A ⟨tm, bx, ks⟩ p.2 ds js) (hnj : js.Nodup) (hkj : k ∉ js) (hl : p.2.length = sz) (hk : lkk ⟨tm, bx, ks⟩ k = none) (hnk : k ∉ oK)
  (h : OpsD P C nt Q all oB oK hd' (listed.setIfInBounds i true) fuel ⟨(d, .one (.key k)) :: a0l (k :: js) (k :: js) tm, a0i (k :: js) (k :: js) bx, (k, some ⟨false, e, sz, 1, ds⟩) :: ((js.map fun j => (j, none)) ++ (k, some ⟨false, e, sz, 0, []⟩) :: ks)⟩) : OpsD P C nt Q all oB oK hd' listed (fuel + 1) ⟨tm, bx, ks⟩ := ⟨fun wb L a w hr hs hw hB hK => by
 refine a7R i hi hg ht' fun K hK' => ?_
 have hpos : 0 < sz := by simpa [Nat.blt_eq] using hsz
 obtain ⟨us, h1, h2, h3⟩ := a4O hr hp hkv (hx.run L a w hr)
 have hus : us.length = sz := by rw [a2I h2]; exact hl
 obtain ⟨o1, o2, o3⟩ := a9i hr how h2
 have hchg : Chg [] w (w.alloc (.cells us.toArray e)) := (Chg.refl [] w).alloc _
 have hr1 := hr.newkey (k := k) (c := ⟨false, e, sz, 0, []⟩) (v := .slice none 0 0) (f := []) hk (a7q w e sz hpos) rfl (by simp) (by simp) (by simp) (by simp)
 have hlj : ∀ j ∈ js, (lkk { (⟨tm, bx, ks⟩ : St) with ks := (k, some ⟨false, e, sz, 0, []⟩) :: ks } j).isSome = true := fun j hj => by
  have hjk : j ≠ k := fun e' => hkj (by rw [← e']; exact hj)
  have := o2 j hj
  simp only [lkk, a0Z, if_neg hjk] at this ⊢
  exact this
 have hlt : ∀ b ∈ js.flatMap L.fp, b < w.heap.size := a5g _ _ _ o1
 have o1' : a0V (w.alloc (.cells us.toArray e)) ds us (js.flatMap L.fp) := a2O _ _ _ o1 (fun b hb => hchg.block b (hlt b hb) (by simp))
 have hset := hr1.setkey (k := k) (c := ⟨false, e, sz, 0, []⟩) (c' := ⟨false, e, sz, 1, ds⟩) (js := js) (same := false) (w' := w.alloc (.cells us.toArray e)) (v' := .slice (some ⟨w.heap.size, 0, none⟩) 1 1) (f' := w.heap.size :: js.flatMap L.fp)
  (by simp [lkk, a0Z]) hkj (by simpa using hchg)
  (by
   unfold Own
   refine ⟨us, js.flatMap L.fp, rfl, hpos, by rw [o3, hl, Nat.one_mul], a3y (hT.lt e _ he) ⟨by rw [hus, Nat.one_mul], .inr ⟨w.heap.size, 1, us.toArray, rfl, Nat.zero_le _, a9u w _, Nat.le_refl _, by simp [maxLen], by simp [hus], by rw [Nat.one_mul, ← hus]; simp⟩⟩, o1'⟩)
  (by
   rw [List.nodup_cons]
   exact ⟨fun hm => absurd (hlt _ hm) (by omega), a8P hr hnj o2⟩)
  (fun b hb => by
   rcases List.mem_cons.1 hb with hb | hb
   ·exact .inr (.inr (by omega))
   ·obtain ⟨j, hj, hb'⟩ := List.mem_flatMap.1 hb
    have hjk : j ≠ k := fun e' => hkj (by rw [← e']; exact hj)
    exact .inr (.inl ⟨j, hj, by simpa [hjk] using hb'⟩)) hlj (by simp) (by simp)
 refine a5O (v := .slice (some ⟨w.heap.size, 0, none⟩) 1 1) (w' := w.alloc (.cells us.toArray e)) ?_ ?_
 ·unfold execOp
  simp only [ho, List.map_toArray, List.map_cons, List.map_nil, b4w (P := P) (w := w) hT ht he hl0 hpos (by simpa [Nat.ble_eq] using hsm) h1 hus, Sem.run_bind, Result.andThen_ok, Sem.run_pure]
 ·rw [hd]
  refine hK' _ _ (fun _ => hs.chg hchg) (h.run wb _ _ _ (hset.put (v := .one (.key k)) (r := .slice (some ⟨w.heap.size, 0, none⟩) 1 1) (by simpa [Nat.blt_eq] using hn) (by simp [SVr, CVr]) (by simp [SV.keys, CV.keys, a5j]) (by simp [SV.boxes])) (hs.chg hchg) hw hB fun z hz b hb => ?_)
  have hzk : z ≠ k := fun e' => hnk (by rw [← e']; exact hz)
  simp only [if_neg hzk] at hb
  exact hK z hz b hb⟩
end
end Go.Proofs.YtjkpoekgnmgofaaGreat

namespace Go.Proofs.YtjkpoekgnmgofaaGreat
open Go.RowKit
open Go.Proofs
set_option linter.unusedVariables false
set_option linter.unusedSimpArgs false
section
variable {P : Program} {C : Ctx} {nt : Nat} {σ : St} {L : Lyt} {a : Act} {w : World} {o : Oper} {x y : Operand} {T : TT}
theorem b7p {t ty : TypeId} {K J : List Nat} {k : IntKind} {m n : Int} (ho : o.op = .binOp .mul t x y ty) (hx : Ev P C nt σ x (.one (.dv K (.int k m)))) (hy : Ev P C nt σ y (.one (.dv J (.int k n)))) (h : InR k (m * n)) : Pu P C nt o σ (.one (.dv [] (.int k (m * n)))) [] [] := by
 have := b3u ho hx hy
 rwa [b2E h] at this
/-! slices with several elements -/
def a5l (P : Program) (C : Ctx) (nt : Nat) (σ : St) (sz : Nat) : Nat → List (Nat × Operand) → List CV → Prop
 | _, [], cs => cs = []
 | i, (j, x) :: ps, cs => ∃ v p cs', j = i ∧ Ev P C nt σ x v ∧ v.part = some p ∧ a1o σ v = true ∧ p.2.length = sz ∧ cs = p.2 ++ cs' ∧ a5l P C nt σ sz (i + 1) ps cs'
theorem a4p {sz i : Nat} : a5l P C nt σ sz i [] [] := rfl
theorem a1W {sz i : Nat} {v : SV} {p : Bool × List CV} {ps : List (Nat × Operand)} {cs' : List CV} (hx : Ev P C nt σ x v) (hp : v.part = some p) (hk : a1o σ v = true) (hl : p.2.length = sz) (h : a5l P C nt σ sz (i + 1) ps cs') : a5l P C nt σ sz i ((i, x) :: ps) (p.2 ++ cs') := ⟨v, p, cs', rfl, hx, hp, hk, hl, rfl, h⟩
theorem b8z (hr : Rel P C nt L σ a w) {sz : Nat} : ∀ {ps : List (Nat × Operand)} {i : Nat} {cs : List CV} {done rest : List Value}, a5l P C nt σ sz i ps cs → done.length = i * sz → rest.length = ps.length * sz →
  ∃ us, Instr.fill (fun i => some (i * sz, sz)) (done ++ rest).toArray (ps.map fun q => (q.1, a.eval q.2)) = some (done ++ us).toArray ∧ CVL C L w cs us
 | [], i, cs, done, rest, h, hd, hl => by
  simp only [a5l] at h; subst h
  have : rest = [] := List.eq_nil_of_length_eq_zero (by simpa using hl)
  subst this
  exact ⟨[], rfl, rfl⟩
 | (j, x) :: ps, i, cs, done, rest, ⟨v, p, cs', e, h1, h2, h3, h4, h5, h6⟩, hd, hl => by
  subst e; subst h5
  obtain ⟨xs, k1, k2, k3⟩ := a4O hr h2 h3 (h1.run L a w hr)
  have hxl : xs.length = sz := by rw [a2I k2]; exact h4
  rw [List.length_cons, Nat.add_mul, Nat.one_mul] at hl
  obtain ⟨us, g1, g2⟩ := b8z hr (done := done ++ xs) (rest := rest.drop sz) h6 (by rw [List.length_append, hd, hxl, Nat.add_mul, Nat.one_mul]) (by rw [List.length_drop]; omega)
  refine ⟨xs ++ us, ?_, b0Y k2 g2⟩
  rw [List.map_cons, b2q (off := j * sz) (sz := sz) rfl k1 hxl (by rw [List.length_append]; omega)]
  have e : a1e (j * sz) xs (done ++ rest) = done ++ xs ++ rest.drop sz := by
   unfold a1e
   rw [← hd, List.take_left, hxl, List.drop_append]
   simp
  rw [e, g1, List.append_assoc]
theorem b1m (hT : TTOk P T) {t e sz by_ d k n : Nat} {zc cs : List CV} {ds : List DV} {js : List Nat} {ps : List (Nat × Operand)} (ho : o.op = .buildSlice t n ps.toArray) (hd : o.dst = some d) (hn : Nat.blt d nt = true) (ht : look T.sl t = some e) (he : look T.el e = some (sz, by_, zc)) (hl0 : zc.length = sz) (hsz : Nat.blt 0 sz = true) (hsm : Nat.ble (n * sz) 16777216 = true) (hps : ps.length = n) (hn0 : Nat.blt 0 n = true)
  (hx : a5l P C nt σ sz 0 ps cs) (how : a3A σ cs ds js) (hnj : js.Nodup) (hkj : k ∉ js) (hcl : cs.length = n * sz) (hk : lkk σ k = none) :
  EfG P C nt o σ (fun σ' => σ' = (St.mut { σ with ks := (k, some ⟨false, e, sz, 0, []⟩) :: σ.ks } k js false ⟨false, e, sz, n, ds⟩).put d (.one (.key k))) := EfG.mk fun L a w hr K Q hK => by
 have hpos : 0 < sz := by simpa [Nat.blt_eq] using hsz
 have hnp : 0 < n := by simpa [Nat.blt_eq] using hn0
 have hsm' : n * sz ≤ 16777216 := by simpa [Nat.ble_eq] using hsm
 obtain ⟨inf, z, g1, g2, g3, g4, g5⟩ := hT.el e sz by_ zc he
 obtain ⟨us, f1, h2⟩ := b8z hr (sz := sz) (done := []) (rest := ((List.range (n * sz)).map fun j => z.cells[j % z.cells.size]!)) hx (by simp) (by simp [hps])
 have hus : us.length = n * sz := by rw [a2I h2]; exact hcl
 obtain ⟨o1, o2, o3⟩ := a9i hr how h2
 have hchg : Chg [] w (w.alloc (.cells us.toArray e)) := (Chg.refl [] w).alloc _
 have hr1 := hr.newkey (k := k) (c := ⟨false, e, sz, 0, []⟩) (v := .slice none 0 0) (f := []) hk (a7q w e sz hpos) rfl (by simp) (by simp) (by simp) (by simp)
 have hlj : ∀ j ∈ js, (lkk { σ with ks := (k, some ⟨false, e, sz, 0, []⟩) :: σ.ks } j).isSome = true := fun j hj => by
  have hjk : j ≠ k := fun e' => hkj (by rw [← e']; exact hj)
  have := o2 j hj
  simp only [lkk, a0Z, if_neg hjk] at this ⊢
  exact this
 have hlt : ∀ b ∈ js.flatMap L.fp, b < w.heap.size := a5g _ _ _ o1
 have o1' : a0V (w.alloc (.cells us.toArray e)) ds us (js.flatMap L.fp) := a2O _ _ _ o1 (fun b hb => hchg.block b (hlt b hb) (by simp))
 have hset := hr1.setkey (k := k) (c := ⟨false, e, sz, 0, []⟩) (c' := ⟨false, e, sz, n, ds⟩) (js := js) (same := false) (w' := w.alloc (.cells us.toArray e)) (v' := .slice (some ⟨w.heap.size, 0, none⟩) n n) (f' := w.heap.size :: js.flatMap L.fp)
  (by simp [lkk, a0Z]) hkj (by simpa using hchg)
  (by
   unfold Own
   have hnm : n ≤ maxLen := by
    have : n * 1 ≤ n * sz := Nat.mul_le_mul_left _ hpos
    simp only [maxLen]; omega
   refine ⟨us, js.flatMap L.fp, rfl, hpos, by rw [o3, hcl], a3y (hT.lt e _ he) ⟨hus, .inr ⟨w.heap.size, n, us.toArray, rfl, Nat.zero_le _, a9u w _, Nat.le_refl _, hnm, by simp [hus], by rw [← hus]; simp⟩⟩, o1'⟩)
  (by
   rw [List.nodup_cons]
   exact ⟨fun hm => absurd (hlt _ hm) (by omega), a8P hr hnj o2⟩)
  (fun b hb => by
   rcases List.mem_cons.1 hb with hb | hb
   ·exact .inr (.inr (by omega))
   ·obtain ⟨j, hj, hb'⟩ := List.mem_flatMap.1 hb
    have hjk : j ≠ k := fun e' => hkj (by rw [← e']; exact hj)
    exact .inr (.inl ⟨j, hj, by simpa [hjk] using hb'⟩)) hlj (by simp) (by simp)
 have hrun : (Instr.buildSlice t n (ps.map fun q => (q.1, a.eval q.2)).toArray).run P w = .ok (.slice (some ⟨w.heap.size, 0, none⟩) n n) (w.alloc (.cells us.toArray e)) := by
  refine run_buildSlice w t e n _ us.toArray inf z (hT.sl t e ht) g1 g4 (by rw [g2]; omega) (by rw [g2]; have := Nat.mul_pos hnp hpos; omega) ?_
  rw [g2]
  have e1 : ((Array.range (n * sz)).map fun j => z.cells[j % z.cells.size]!) = (((List.range (n * sz)).map fun j => z.cells[j % z.cells.size]!)).toArray := by
   apply Array.ext'
   simp
  rw [e1]
  simpa using f1
 refine a5O (v := .slice (some ⟨w.heap.size, 0, none⟩) n n) (w' := w.alloc (.cells us.toArray e)) ?_ ?_
 ·unfold execOp
  simp only [ho, List.map_toArray, hrun, Sem.run_bind, Result.andThen_ok, Sem.run_pure]
 ·rw [hd]
  refine hK _ _ _ _ rfl (hset.put (v := .one (.key k)) (r := .slice (some ⟨w.heap.size, 0, none⟩) n n) (by simpa [Nat.blt_eq] using hn) (by simp [SVr, CVr]) (by simp [SV.keys, CV.keys, a5j]) (by simp [SV.boxes])) ⟨hchg, fun i c hc => ?_, fun _ _ _ => rfl⟩
  have : i ≠ k := fun e => by rw [e, hk] at hc; cases hc
  simp [this]
end
section
variable {P : Program} {C : Ctx} {nt : Nat} {o : Oper} {x y : Operand} {T : TT} {Q : Exit → St → Prop} {all : Array Oper} {rest : List Oper} {tm : List (Nat × SV)} {bx : List (Nat × TypeId × List CV)} {ks : List (Nat × Option KC)}
theorem a9n (hT : TTOk P T) {t e sz by_ d k n : Nat} {zc cs : List CV} {ds : List DV} {js : List Nat} {ps : List (Nat × Operand)} (hg : o.guard = none) (hd : o.dst = some d) (ho : o.op = .buildSlice t n ps.toArray) (hn : Nat.blt d nt = true) (ht : look T.sl t = some e) (he : look T.el e = some (sz, by_, zc)) (hl0 : zc.length = sz) (hsz : Nat.blt 0 sz = true) (hsm : Nat.ble (n * sz) 16777216 = true) (hps : ps.length = n) (hn0 : Nat.blt 0 n = true)
  (hx : a5l P C nt ⟨tm, bx, ks⟩ sz 0 ps cs) (how : a3A ⟨tm, bx, ks⟩ cs ds js) (hnj : js.Nodup) (hkj : k ∉ js) (hcl : cs.length = n * sz) (hk : lkk ⟨tm, bx, ks⟩ k = none)
  (h : Ops P C nt Q all rest ⟨(d, .one (.key k)) :: a0l (k :: js) (k :: js) tm, a0i (k :: js) (k :: js) bx, (k, some ⟨false, e, sz, n, ds⟩) :: ((js.map fun j => (j, none)) ++ (k, some ⟨false, e, sz, 0, []⟩) :: ks)⟩) : Ops P C nt Q all (o :: rest) ⟨tm, bx, ks⟩ :=
 a3u hg (b1m hT ho hd hn ht he hl0 hsz hsm hps hn0 hx how hnj hkj hcl hk).ef h
end
section
variable {P : Program} {C : Ctx} {nt : Nat} {o : Oper} {x y : Operand} {T : TT} {Q : Exit → St → Prop} {all : Array Oper} {tm : List (Nat × SV)} {bx : List (Nat × TypeId × List CV)} {ks : List (Nat × Option KC)} {oB oK : List Nat} {hd' : Nat → Bool} {listed : Array Bool} {fuel : Nat}
end
end Go.Proofs.YtjkpoekgnmgofaaGreat

namespace Go.Proofs.YtjkpoekgnmgofaaGreat
open Go.RowKit
open Go.Proofs
set_option linter.unusedVariables false
set_option linter.unusedSimpArgs false
section
variable {P : Program} {C : Ctx} {nt : Nat} {Q : Exit → St → Prop} {all : Array Oper} {oB oK : List Nat} {listed : Array Bool} {fuel : Nat} {hd' : Nat → Bool} {tm : List (Nat × SV)} {bx : List (Nat × TypeId × List CV)} {ks : List (Nat × Option KC)} {o : Oper} {d : Nat} {v X : SV} {Ks Bs : List Nat} {g : Bool} {σ : St} {x : Operand} {T : TT}
inductive DSame : DV → DV → Prop where
 | refl (d : DV) : DSame d d
 | sl (e e' sz n : Nat) (cs cs' : List DV) (hl : cs.length = cs'.length) (h : ∀ (i : Nat) d d', cs[i]? = some d → cs'[i]? = some d' → DSame d d') : DSame (.sl e sz n cs) (.sl e' sz n cs')
theorem c0Y {ok : Nat → Prop} {w : World} {d d' : DV} (h : DSame d d') : ∀ {v : Value}, Lay ok w d v → Lay ok w d' v := by
 induction h with
 | refl d => exact fun h => h
 | sl e e' sz n cs cs' hl h ih =>
  intro v hv
  simp only [Lay] at hv ⊢
  obtain ⟨A, c, vs, h1, h2, h3, h4, h5, h6, h7⟩ := hv
  refine ⟨A, c, vs, h1, h2, h3, h4, hl ▸ h5, ?_, h7⟩
  clear h5 h7 h1
  induction cs generalizing cs' vs with
  | nil =>
   cases cs' with
   | nil => exact h6
   | cons x xs => simp at hl
  | cons x xs ih2 =>
   cases cs' with
   | nil => simp at hl
   | cons y ys =>
    simp only [a1u] at h6 ⊢
    obtain ⟨v, vs', rfl, k1, k2⟩ := h6
    exact ⟨v, vs', rfl, ih 0 x y rfl rfl k1, ih2 ys (by simpa using hl) (fun i d d' hd hd' => h (i + 1) d d' (by simpa using hd) (by simpa using hd')) (fun i d d' hd hd' => ih (i + 1) d d' (by simpa using hd) (by simpa using hd')) vs' k2⟩
theorem c0v {d k : Nat} {c : KC} {dd : DV} (hd : look σ.tm d = some (.one (.key k))) (hk : lkk σ k = some c) (hs : DSame (.sl c.e c.sz c.n c.cs) dd) : Weak P C nt σ (σ.put d (.one (.dv [k] dd))) := Weak.mk fun L a w hr => by
 have hv := hr.tm d _ hd
 simp only [SVr, CVr] at hv
 have h1 := c0Y hs (a4l (ok := okB C L [k]) _ _ _ (hr.ks k c hk).1 (fun b hb => .inr ⟨k, by simp, hb⟩))
 exact ⟨_, hr.also (v := .one (.dv [k] dd)) (by simp only [SVr, CVr]; rw [hv]; exact h1) (by simp [SV.keys, CV.keys, hk]) (by simp [SV.boxes])⟩
theorem a7h {c c' : Code} {σ' : St} (h1 : Ok P C nt (a5t (fun τ => Weak P C nt τ σ') Q) c σ) (h2 : Ok P C nt Q c' σ') : Ok P C nt Q (.seq c c') σ :=
 a0p ⟨fun L a w hr => wp_mono (h1.run L a w hr) (b6g fun e τ hq => by
  cases e with
  | normal => exact a0h hq h2
  | _ => exact hq)⟩
end
end Go.Proofs.YtjkpoekgnmgofaaGreat

namespace Go.Proofs.YtjkpoekgnmgofaaGreat
open Go.RowKit
open Go.Proofs
set_option linter.unusedVariables false
set_option linter.unusedSimpArgs false
structure OpsN (P : Program) (C : Ctx) (nt : Nat) (Q : Exit → St → Prop) (all : Array Oper) (oB oK nK : List Nat) (hd : Nat → Bool) (listed : Array Bool) (fuel : Nat) (σ : St) : Prop where
 run : ∀ wb L a w, Rel P C nt L σ a w → SW wb w → C.w0.heap.size ≤ wb.heap.size → (∀ i ∈ oB, L.bb i < wb.heap.size) → (∀ k ∈ oK, ∀ b ∈ L.fp k, b < wb.heap.size) → (∀ k ∈ nK, ∀ b ∈ L.fp k, wb.heap.size ≤ b) →
  a2f P .any all (QQ P C nt Q) (SW wb) hd fuel listed a w
structure OpsNJ (P : Program) (C : Ctx) (nt : Nat) (Q : Exit → St → Prop) (all : Array Oper) (oB oK nK : List Nat) (hd : Nat → Bool) (listed : Array Bool) (fuel : Nat) (i : Nat) (σ : St) : Prop where
 run : ∀ wb L a w, Rel P C nt L σ a w → SW wb w → C.w0.heap.size ≤ wb.heap.size → (∀ i ∈ oB, L.bb i < wb.heap.size) → (∀ k ∈ oK, ∀ b ∈ L.fp k, b < wb.heap.size) → (∀ k ∈ nK, ∀ b ∈ L.fp k, wb.heap.size ≤ b) →
  wpOp P all (QQ P C nt Q) i (fun a' w' => (hd i = true → SW wb w') ∧ a2f P .any all (QQ P C nt Q) (SW wb) hd fuel (listed.setIfInBounds i true) a' w') a w
def b3K (P : Program) (C : Ctx) (nt : Nat) (Q : Exit → St → Prop) (all : Array Oper) (oB oK nK : List Nat) (hd : Nat → Bool) (listed : Array Bool) (fuel : Nat) (σ : St) : List Nat → Prop
 | [] => True
 | i :: is => OpsNJ P C nt Q all oB oK nK hd listed fuel i σ ∧ b3K P C nt Q all oB oK nK hd listed fuel σ is
structure EfN (P : Program) (C : Ctx) (nt : Nat) (o : Oper) (σ : St) (k : Nat) (R : St → Prop) : Prop where
 run : ∀ L a w, Rel P C nt L σ a w → ∀ K Q, (∀ L' σ' a' w', R σ' → Rel P C nt L' σ' a' w' → Gr σ L L' w w' → (∀ b ∈ L'.fp k, w.heap.size ≤ b) → K a' w') → o.wp P a w K Q
section
variable {P : Program} {C : Ctx} {nt : Nat} {Q : Exit → St → Prop} {all : Array Oper} {oB oK nK : List Nat} {listed : Array Bool} {fuel : Nat} {hd' : Nat → Bool} {tm : List (Nat × SV)} {bx : List (Nat × TypeId × List CV)} {ks : List (Nat × Option KC)} {o : Oper} {d : Nat} {v X : SV} {Ks Bs : List Nat} {σ : St} {x y : Operand} {T : TT}
theorem b3S (h : OpsN P C nt Q all oB oK [] hd' listed fuel σ) : OpsD P C nt Q all oB oK hd' listed fuel σ := ⟨fun wb L a w hr hs hw hB hK => h.run wb L a w hr hs hw hB hK (by simp)⟩
theorem b7S : ∀ {is : List Nat}, b3K P C nt Q all oB oK nK hd' listed fuel σ is → ∀ i ∈ is, OpsNJ P C nt Q all oB oK nK hd' listed fuel i σ
 | [], _, _, hi => by cases hi
 | j :: is, h, i, hi => by
  rcases List.mem_cons.1 hi with rfl | hi
  ·exact h.1
  ·exact b7S h.2 i hi
theorem a2g (i : Nat) (is : List Nat) (hr : (Region.ready .any all listed == i :: is) = true) (h : b3K P C nt Q all oB oK nK hd' listed fuel σ (i :: is)) : OpsN P C nt Q all oB oK nK hd' listed (fuel + 1) σ := ⟨fun wb L a w hrel hs hw hB hK hN => by
 have hr' : Region.ready .any all listed = i :: is := by simpa using hr
 refine ⟨fun h0 => (by rw [hr'] at h0; cases h0), fun j hj => ?_⟩
 rw [hr'] at hj
 exact (b7S h j hj).run wb L a w hrel hs hw hB hK hN⟩
theorem a5B (i : Nat) (hi : all[i]? = some o) (ht : a4y .any all hd' listed i = true) (hg : o.guard = none) (hd : o.dst = some d) (hp : Pu P C nt o ⟨tm, bx, ks⟩ v Ks Bs) (h1 : (Ks.all fun k => oK.contains k) = true) (h2 : (Bs.all fun k => oB.contains k) = true) (hn : Nat.blt d nt = true) (hk : a1o ⟨tm, bx, ks⟩ v = true)
  (h : OpsN P C nt Q all oB oK nK hd' (listed.setIfInBounds i true) fuel ⟨(d, v) :: tm, bx, ks⟩) : OpsN P C nt Q all oB oK nK hd' listed (fuel + 1) ⟨tm, bx, ks⟩ := ⟨fun wb L a w hr hs hw hB hK hN => by
 obtain ⟨r, h3, h4⟩ := b0u hr hs hw hB hK hp h1 h2
 refine a6a i (v := r) hi ht (fun _ _ _ h => h) hs (.inl ⟨by simp [Region.wanted, hg], h4⟩) ?_
 rw [hd]
 exact h.run wb L _ w (hr.put (by simpa [Nat.blt_eq] using hn) h3 (a1Q hk).1 (a1Q hk).2) hs hw hB hK hN⟩
theorem b1g (i : Nat) (hi : all[i]? = some o) (hg : o.guard = none) (h : ∀ wb L a w, Rel P C nt L σ a w → SW wb w → C.w0.heap.size ≤ wb.heap.size → (∀ i ∈ oB, L.bb i < wb.heap.size) → (∀ k ∈ oK, ∀ b ∈ L.fp k, b < wb.heap.size) → (∀ k ∈ nK, ∀ b ∈ L.fp k, wb.heap.size ≤ b) →
   o.wp P a w (fun a' w' => (hd' i = true → SW wb w') ∧ a2f P .any all (QQ P C nt Q) (SW wb) hd' fuel (listed.setIfInBounds i true) a' w') (QQ P C nt Q)) : OpsNJ P C nt Q all oB oK nK hd' listed fuel i σ := ⟨fun wb L a w hr hs hw hB hK hN => by
 unfold wpOp
 simp only [hi]
 have hw' : Region.wanted o (yielded all a.tmps) = true := by simp [Region.wanted, hg]
 rw [if_pos hw']
 exact .inl (h wb L a w hr hs hw hB hK hN)⟩
theorem b4v (i : Nat) {R : St → Prop} (hi : all[i]? = some o) (hg : o.guard = none) (hp : EfG P C nt o ⟨tm, bx, ks⟩ R) (hb : (oB.all fun i => (look bx i).isSome) = true) (hk : (oK.all fun k => (lkk ⟨tm, bx, ks⟩ k).isSome) = true) (hn : (nK.all fun k => (lkk ⟨tm, bx, ks⟩ k).isSome) = true)
  (h : ∀ σ', R σ' → OpsN P C nt Q all oB oK nK hd' (listed.setIfInBounds i true) fuel σ') : OpsNJ P C nt Q all oB oK nK hd' listed fuel i ⟨tm, bx, ks⟩ :=
 b1g i hi hg fun wb L a w hr hs hw hB hK hN => hp.run L a w hr _ _ fun L' σ' a' w' h1 h2 h3 => ⟨fun _ => hs.chg h3.chg, (h σ' h1).run wb L' a' w' h2 (hs.chg h3.chg) hw
  (fun j hj => by
   obtain ⟨x, hx⟩ := Option.isSome_iff_exists.1 (List.all_eq_true.1 hb j hj)
   rw [h3.box j x hx]; exact hB j hj)
  (fun k hk' => by
   obtain ⟨c, hc⟩ := Option.isSome_iff_exists.1 (List.all_eq_true.1 hk k hk')
   rw [h3.key k c hc]; exact hK k hk')
  (fun k hk' => by
   obtain ⟨c, hc⟩ := Option.isSome_iff_exists.1 (List.all_eq_true.1 hn k hk')
   rw [h3.key k c hc]; exact hN k hk')⟩
theorem a8p (i : Nat) (hT : TTOk P T) {t d sz by_ : Nat} {zc : List CV} (hi : all[i]? = some o) (hg : o.guard = none) (hd : o.dst = some d) (ho : o.op = .alloc t) (ht : look T.el t = some (sz, by_, zc)) (hn : Nat.blt d nt = true) (hx : look bx d = none)
  (hb : (oB.all fun i => (look bx i).isSome) = true) (hk : (oK.all fun k => (lkk ⟨tm, bx, ks⟩ k).isSome) = true) (hn' : (nK.all fun k => (lkk ⟨tm, bx, ks⟩ k).isSome) = true)
  (h : OpsN P C nt Q all oB oK nK hd' (listed.setIfInBounds i true) fuel ⟨(d, .box d 0) :: tm, (d, t, zc) :: bx, ks⟩) : OpsNJ P C nt Q all oB oK nK hd' listed fuel i ⟨tm, bx, ks⟩ :=
 b4v i hi hg (b2A hT ho hd hn ht hx) hb hk hn' fun σ' e => by rw [e]; exact h
theorem c3S (hT : TTOk P T) {t e sz by_ d k : Nat} {zc : List CV} (ho : o.op = .buildSlice t 0 #[]) (hd : o.dst = some d) (hn : Nat.blt d nt = true) (ht : look T.sl t = some e) (he : look T.el e = some (sz, by_, zc)) (hsz : Nat.blt 0 sz = true) (hk : lkk σ k = none) :
  EfN P C nt o σ k (fun σ' => σ' = { σ with ks := (k, some ⟨false, e, sz, 0, []⟩) :: σ.ks }.put d (.one (.key k))) := EfN.mk fun L a w hr K Q hK => by
 have hpos : 0 < sz := by simpa [Nat.blt_eq] using hsz
 have hchg : Chg [] w (w.alloc (.cells #[] e)) := (Chg.refl [] w).alloc _
 refine a5O (v := .slice (some ⟨w.heap.size, 0, none⟩) 0 0) (w' := w.alloc (.cells #[] e)) ?_ ?_
 ·unfold execOp
  simp only [ho, List.map_toArray, List.map_nil, b8J (P := P) (w := w) hT ht he, Sem.run_bind, Result.andThen_ok, Sem.run_pure]
 ·have hb := hr.newkey' hchg (c := ⟨false, e, sz, 0, []⟩) (v := .slice (some ⟨w.heap.size, 0, none⟩) 0 0) (f := [w.heap.size]) hk
   (by
    unfold Own
    exact ⟨[], [], rfl, hpos, by simp, a3y (hT.lt e _ he) ⟨by simp, .inr ⟨w.heap.size, 0, #[], rfl, Nat.zero_le _, a9u w _, Nat.le_refl _, Nat.zero_le _, by simp, by simp⟩⟩, by simp [a0V]⟩) rfl (by simp) (by simp)
  refine hK { L with fp := fun j => if j = k then [w.heap.size] else L.fp j, rv := fun j => if j = k then .slice (some ⟨w.heap.size, 0, none⟩) 0 0 else L.rv j } _ _ _ rfl (by rw [hd]; exact hb.put (v := .one (.key k)) (r := .slice (some ⟨w.heap.size, 0, none⟩) 0 0) (by simpa [Nat.blt_eq] using hn) (by simp [SVr, CVr]) (by simp [SV.keys, CV.keys, lkk, a0Z]) (by simp [SV.boxes])) ⟨hchg, fun i c hc => ?_, fun _ _ _ => rfl⟩ (by simp)
  have : i ≠ k := fun e => by rw [e, hk] at hc; cases hc
  simp [this]
theorem a7W (i : Nat) (hT : TTOk P T) {t e sz by_ d k : Nat} {zc : List CV} (hi : all[i]? = some o) (hg : o.guard = none) (hd : o.dst = some d) (ho : o.op = .buildSlice t 0 #[]) (hn : Nat.blt d nt = true) (ht : look T.sl t = some e) (he : look T.el e = some (sz, by_, zc)) (hsz : Nat.blt 0 sz = true) (hk : lkk ⟨tm, bx, ks⟩ k = none)
  (hb : (oB.all fun i => (look bx i).isSome) = true) (hk' : (oK.all fun k => (lkk ⟨tm, bx, ks⟩ k).isSome) = true) (hn' : (nK.all fun k => (lkk ⟨tm, bx, ks⟩ k).isSome) = true)
  (h : OpsN P C nt Q all oB oK (k :: nK) hd' (listed.setIfInBounds i true) fuel ⟨(d, .one (.key k)) :: tm, bx, (k, some ⟨false, e, sz, 0, []⟩) :: ks⟩) : OpsNJ P C nt Q all oB oK nK hd' listed fuel i ⟨tm, bx, ks⟩ :=
 b1g i hi hg fun wb L a w hr hs hw hB hK hN => (c3S hT ho hd hn ht he hsz hk).run L a w hr _ _ fun L' σ' a' w' h1 h2 h3 h4 => ⟨fun _ => hs.chg h3.chg, h.run wb L' a' w' (by rw [h1] at h2; exact h2) (hs.chg h3.chg) hw
  (fun j hj => by
   obtain ⟨x, hx⟩ := Option.isSome_iff_exists.1 (List.all_eq_true.1 hb j hj)
   rw [h3.box j x hx]; exact hB j hj)
  (fun j hj => by
   obtain ⟨c, hc⟩ := Option.isSome_iff_exists.1 (List.all_eq_true.1 hk' j hj)
   rw [h3.key j c hc]; exact hK j hj)
  (fun j hj => by
   rcases List.mem_cons.1 hj with rfl | hj
   ·exact fun b hb' => Nat.le_trans hs.1 (h4 b hb')
   ·obtain ⟨c, hc⟩ := Option.isSome_iff_exists.1 (List.all_eq_true.1 hn' j hj)
    rw [h3.key j c hc]; exact hN j hj)⟩
theorem a3N (i : Nat) (hT : TTOk P T) {t e sz by_ d k m : Nat} {zc : List CV} {c : KC} {J : List Nat} {e2 : Nat} {ds cs : List DV} (hi : all[i]? = some o) (hg : o.guard = none) (hd : o.dst = some d) (ho : o.op = .call { callee := .builtin .append, args := #[x, y], argTypes := #[t, t] }) (hnt : Nat.blt d nt = true) (ht : look T.sl t = some e) (he : look T.el e = some (sz, by_, zc)) (hl0 : zc.length = sz)
  (hx : Ev P C nt ⟨tm, bx, ks⟩ x (.one (.key k))) (hk : lkk ⟨tm, bx, ks⟩ k = some c) (hce : c.e = e) (hcs : c.sz = sz) (hy : Ev P C nt ⟨tm, bx, ks⟩ y (.one (.dv J (.sl e2 sz m ds)))) (hp : ds.all DV.plain = true) (hb : (c.n + m) * by_ ≤ 140737488355328) (h63 : c.n + m ≤ 9223372036854775807) {n : Nat} (hn : c.n + m = n) (hcc : c.cs ++ ds = cs)
  (hkn : nK.contains k = true) (hko : oK.contains k = false)
  (h : OpsN P C nt Q all oB oK nK hd' (listed.setIfInBounds i true) fuel ⟨(d, .one (.key k)) :: a0l [k] [k] tm, a0i [k] [k] bx, (k, some ⟨false, e, sz, n, cs⟩) :: ks⟩) : OpsNJ P C nt Q all oB oK nK hd' listed fuel i ⟨tm, bx, ks⟩ :=
 b1g i hi hg fun wb L a w hr hs hw hB hK hN => by
  have h1 := hx.run L a w hr
  have h2 := hy.run L a w hr
  simp only [SVr, CVr] at h1 h2
  obtain ⟨A, cap, vs, e1, hrow, hlay⟩ := b0g h2
  subst hn; subst hcc
  have hkn' : k ∈ nK := by simpa using hkn
  refine b2R hT ho hd (by simpa [Nat.blt_eq] using hnt) ht he hl0 hr hk hce hcs h1 e1 (js := []) (by simp) (by simp) hrow (b2s hp hlay) (by simp) (by simp) (by simpa [maxLen] using h63) hb (fun L' a' w' hr' hf => ?_)
  have hs' : SW wb w' := ⟨Nat.le_trans hs.1 hf.chg.size, fun b hb' => (hf.chg.block b (Nat.lt_of_lt_of_le hb' hs.1) (fun hm => absurd (hN k hkn' b hm) (by omega))).trans (hs.2 b hb')⟩
  exact ⟨fun _ => hs', h.run wb L' a' w' hr' hs' hw (fun j hj => by rw [hf.bb]; exact hB j hj)
   (fun j hj => by
    have hjk : j ≠ k := fun e => by rw [e] at hj; rw [List.contains_iff_mem.2 hj] at hko; cases hko
    rw [hf.fp j hjk]; exact hK j hj)
   (fun j hj b hb' => by
    by_cases hjk : j = k
    ·subst hjk
     rcases hf.new b hb' with h5 | ⟨q, hq, _⟩ | h5
     ·exact hN j hj b h5
     ·simp at hq
     ·exact Nat.le_trans hs.1 h5
    ·rw [hf.fp j hjk] at hb'; exact hN j hj b hb')⟩
theorem a6r (i : Nat) {σ₁ : St} (hi : all[i]? = some o) (hg : o.guard = none) (hh : hd' i = false) (hp : Ef P C nt o ⟨tm, bx, ks⟩ (fun σ' => σ' = σ₁)) (he : (Region.ready .any all (listed.setIfInBounds i true)).isEmpty = true)
  (h : Q .normal σ₁) : OpsNJ P C nt Q all oB oK nK hd' listed fuel i ⟨tm, bx, ks⟩ :=
 b1g i hi hg fun wb L a w hr hs hw hB hK hN => hp.run L a w hr _ _ fun L' σ' a' w' h1 h2 => ⟨fun e => absurd e (by rw [hh]; simp), a9t he ⟨L', σ', h2, by rw [h1]; exact h⟩ fuel⟩
end
section
variable {P : Program} {C : Ctx} {nt : Nat} {σ : St} {o : Oper} {x y : Operand}
theorem c3i (m n : Int) : (if n < m then n else m) = min m n := by split <;> omega
theorem c3k (m n : Int) : (if n > m then n else m) = max m n := by split <;> omega
theorem c4Y {t t' : TypeId} {K J : List Nat} {m n : Int} (ho : o.op = .call { callee := .builtin .min, args := #[x, y], argTypes := #[t, t'] }) (hx : Ev P C nt σ x (.one (.dv K (.int .i64 m)))) (hy : Ev P C nt σ y (.one (.dv J (.int .i64 n)))) : Pu P C nt o σ (.one (.dv [] (.int .i64 (min m n)))) [] [] := Pu.mk fun L a w hr => by
 have h1 := hx.run L a w hr
 have h2 := hy.run L a w hr
 simp only [SVr, CVr, Lay] at h1 h2
 have hr' : InR .i64 (min m n) := by
  rcases Int.le_total m n with h | h
  ·rw [Int.min_eq_left h]; exact h1.2
  ·rw [Int.min_eq_right h]; exact h2.2
 refine ⟨.int .i64 (min m n), by simp only [SVr, CVr, Lay]; exact ⟨trivial, hr'⟩, fun w' _ => ?_⟩
 unfold execOp
 simp only [ho, resolve, invoke, builtin, Sem.run_bind, Sem.run_pure, Result.andThen_ok, List.map_toArray, List.map_cons, List.map_nil, h1.1, h2.1, run_min_int2, c3i]
theorem c4e {t t' : TypeId} {K J : List Nat} {m n : Int} (ho : o.op = .call { callee := .builtin .max, args := #[x, y], argTypes := #[t, t'] }) (hx : Ev P C nt σ x (.one (.dv K (.int .i64 m)))) (hy : Ev P C nt σ y (.one (.dv J (.int .i64 n)))) : Pu P C nt o σ (.one (.dv [] (.int .i64 (max m n)))) [] [] := Pu.mk fun L a w hr => by
 have h1 := hx.run L a w hr
 have h2 := hy.run L a w hr
 simp only [SVr, CVr, Lay] at h1 h2
 have hr' : InR .i64 (max m n) := by
  rcases Int.le_total m n with h | h
  ·rw [Int.max_eq_right h]; exact h2.2
  ·rw [Int.max_eq_left h]; exact h1.2
 refine ⟨.int .i64 (max m n), by simp only [SVr, CVr, Lay]; exact ⟨trivial, hr'⟩, fun w' _ => ?_⟩
 unfold execOp
 simp only [ho, resolve, invoke, builtin, Sem.run_bind, Sem.run_pure, Result.andThen_ok, List.map_toArray, List.map_cons, List.map_nil, h1.1, h2.1, run_max_int2, c3k]
end
end Go.Proofs.YtjkpoekgnmgofaaGreat

namespace Go.Proofs.YtjkpoekgnmgofaaGreat
open Go.RowKit
open Go.Proofs
set_option linter.unusedVariables false
set_option linter.unusedSimpArgs false
section
variable {P : Program} {C : Ctx} {nt : Nat} {σ : St} {L : Lyt} {a : Act} {w : World} {o : Oper} {x y u : Operand} {T : TT}
theorem b5J (hr : Rel P C nt L σ a w) {k : Nat} {c : KC} (hk : lkk σ k = some c) : (L.rv k = .slice none 0 0 ∧ c.n = 0) ∨ ∃ g cap, L.rv k = .slice (some ⟨g, 0, none⟩) c.n cap ∧ c.n ≤ cap := by
 have ho := (hr.ks k c hk).1
 simp only [Own] at ho
 obtain ⟨vs, f, _, _, _, q4, _⟩ := ho
 rcases (a5C q4).2 with ⟨g1, g2⟩ | ⟨g, cap, cur, t, fz, g1, g2, g3, g4, g5, g6⟩
 ·exact .inl ⟨g1, g2⟩
 ·exact .inr ⟨g, cap, g1, g3⟩
theorem a8N (hr : Rel P C nt L σ a w) {k : Nat} {c : KC} (hk : lkk σ k = some c) (hE : c.e < 1000000) : 0 < c.sz ∧ c.cs.length = c.n * c.sz ∧ ((L.rv k = .slice none 0 0 ∧ c.n = 0) ∨
  ∃ g cap cur vs f, L.rv k = .slice (some ⟨g, 0, none⟩) c.n cap ∧ w.heap[g]? = some (.cells cur c.e (0, 0)) ∧ c.n ≤ cap ∧ cap ≤ maxLen ∧ cur.size = cap * c.sz ∧ cur.toList.take (c.n * c.sz) = vs ∧ L.fp k = g :: f ∧ a0V w c.cs vs f) := by
 have ho := (hr.ks k c hk).1
 simp only [Own] at ho
 obtain ⟨vs, f, q1, q2, q3, q4, q5⟩ := ho
 refine ⟨q2, q3, ?_⟩
 rcases (q4.1 hE).2 with ⟨g1, g2⟩ | ⟨g, cap, cur, g1, _, g3, g4, g5, g6, g7⟩
 ·exact .inl ⟨g1, g2⟩
 ·exact .inr ⟨g, cap, cur, vs, f, g1, g3, g4, g5, g6, g7, by rw [q1, g1]; simp [Value.ownBlock], q5⟩
theorem b6O {j sz lo hi : Nat} {c2 : KC} (hs : SlOk P C nt σ o j sz lo hi) (hj : lkk σ j = some c2) : Pu P C nt o σ (.ksl j lo hi sz) [] [] := Pu.mk fun L a w hr => by
 rcases b5J hr hj with ⟨h, _⟩ | ⟨g, cap, h, _⟩
 ·exact ⟨_, by simp only [SVr]; exact ⟨_, _, _, h, rfl⟩, fun w' _ => hs.run L a w hr _ _ _ h w'⟩
 ·exact ⟨_, by simp only [SVr]; exact ⟨_, _, _, h, rfl⟩, fun w' _ => hs.run L a w hr _ _ _ h w'⟩
theorem b2l {A : Option Addr} {n c sz : Nat} {hi : Nat} (h : A = none ∨ ∃ g, A = some ⟨g, 0, none⟩) : sliced A 0 hi c sz = .slice A hi c := by
 rcases h with rfl | ⟨g, rfl⟩
 ·simp [sliced]
 ·by_cases hc : c = 0
  ·simp [sliced, hc]
  ·simp [sliced, hc, Addr.add]
theorem b6n (hr : Rel P C nt L σ a w) {k : Nat} {c : KC} (hk : lkk σ k = some c) {A : Option Addr} {n cap : Nat} (h : L.rv k = .slice A n cap) : (A = none ∨ ∃ g, A = some ⟨g, 0, none⟩) ∧ n = c.n ∧ c.n ≤ cap := by
 rcases b5J hr hk with ⟨h1, h2⟩ | ⟨g, cap', h1, h2⟩
 ·rw [h] at h1
  simp only [Value.slice.injEq] at h1
  obtain ⟨rfl, rfl, rfl⟩ := h1
  exact ⟨.inl rfl, h2.symm, by omega⟩
 ·rw [h] at h1
  simp only [Value.slice.injEq] at h1
  obtain ⟨rfl, rfl, rfl⟩ := h1
  exact ⟨.inr ⟨g, rfl⟩, rfl, h2⟩
theorem b7d (hT : TTOk P T) {t e sz by_ j n hi : Nat} {zc : List CV} {c2 : KC} {J : List Nat} {z : Int} (ho : o.op = .slice t x none (some y) none) (h : look T.sl t = some e) (he : look T.el e = some (sz, by_, zc)) (hx : Ev P C nt σ x (.one (.key j))) (hj : lkk σ j = some c2) (hy : Ev P C nt σ y (.one (.dv J (.int .i64 z)))) (hn : c2.n = n) (hh : z.toNat = hi) (h0 : 0 ≤ z) (h1 : z ≤ n) : Pu P C nt o σ (.ksl j 0 hi sz) [] [] := by
 subst hn; subst hh
 exact b6O (b0x hT ho h he hx hj hy h0 h1) hj
theorem b8M (hT : TTOk P T) {t e sz by_ j n lo : Nat} {zc : List CV} {c2 : KC} {J : List Nat} {z : Int} (ho : o.op = .slice t x (some y) none none) (h : look T.sl t = some e) (he : look T.el e = some (sz, by_, zc)) (hx : Ev P C nt σ x (.one (.key j))) (hj : lkk σ j = some c2) (hy : Ev P C nt σ y (.one (.dv J (.int .i64 z)))) (hn : c2.n = n) (hl : z.toNat = lo) (h0 : 0 ≤ z) (h1 : z ≤ n) : Pu P C nt o σ (.ksl j lo n sz) [] [] := by
 subst hn; subst hl
 exact b6O (b0e hT ho h he hx hj hy h0 h1) hj
theorem Rel.wrow (hr : Rel P C nt L σ a w) {k g cap off : Nat} {c : KC} {cur : Array Value} {us : List Value} {cs' : List DV} {f' : List Nat} (hk : lkk σ k = some c) (hE : c.e < 1000000) (e1 : L.rv k = .slice (some ⟨g, 0, none⟩) c.n cap) (hg : w.heap[g]? = some (.cells cur c.e (0, 0))) (hnc : c.n ≤ cap) (hcm : cap ≤ maxLen) (hsz : cur.size = cap * c.sz) (hpos : 0 < c.sz)
  (hle : off + us.length ≤ c.n * c.sz) (hown : a0V w cs' (a1e off us (cur.toList.take (c.n * c.sz))) f') (hf : ∀ b ∈ f', b ∈ L.fp k ∧ b ≠ g) (hgk : g ∈ L.fp k) (hn : f'.Nodup) (hl : cs'.length = c.n * c.sz) :
  Rel P C nt { L with fp := fun i => if i = k then g :: f' else L.fp i, rv := fun i => if i = k then L.rv k else L.rv i } (σ.mut k [] true { c with cs := cs' }) a (w.setRow g (a1e off us cur.toList).toArray) := by
 let w' := w.setRow g (a1e off us cur.toList).toArray
 have hchg : Chg [g] w w' := a6i w g _
 have hle2 : c.n * c.sz ≤ cap * c.sz := Nat.mul_le_mul_right _ hnc
 have hcl : c.n * c.sz ≤ cur.toList.length := by rw [Array.length_toList, hsz]; exact hle2
 have hown2 : a0V w' cs' (a1e off us (cur.toList.take (c.n * c.sz))) f' := a2O _ _ _ hown (fun b hb => hchg.block b (hr.k_lt hk b (hf b hb).1) (by simpa using (hf b hb).2))
 have hown' : Own w' (.sl c.e c.sz c.n cs') (L.rv k) (g :: f') := by
  unfold Own
  refine ⟨_, f', by rw [e1]; simp [Value.ownBlock], hpos, hl, ?_, hown2⟩
  rw [e1]
  refine a3y hE ⟨by rw [a5J (by rw [List.length_take]; omega), List.length_take]; omega, .inr ⟨g, cap, (a1e off us cur.toList).toArray, rfl, Nat.zero_le _, setRow_heap _ _ _ _ _ _ hg, hnc, hcm, ?_, ?_⟩⟩
  ·rw [List.size_toArray, a5J (by omega), Array.length_toList, hsz]
  ·rw [List.toList_toArray]
   unfold a1e
   apply List.ext_getElem?
   intro i
   simp only [List.getElem?_take, List.getElem?_append, List.getElem?_drop, List.length_append, List.length_take]
   have hm1 : min off cur.toList.length = off := by omega
   have hm2 : min off (min (c.n * c.sz) cur.toList.length) = off := by omega
   rw [hm1, hm2]
   by_cases hi : i < c.n * c.sz
   ·simp only [hi, if_true]
    by_cases hi2 : i < off + us.length
    ·simp only [hi2, if_true]
    ·simp only [hi2, if_false]
     have : off + us.length + (i - (off + us.length)) < c.n * c.sz := by omega
     simp only [this, if_true]
   ·have h9 : ¬ i < off + us.length := by omega
    have h10 : ¬ i < off := by omega
    have h11 : ¬ off + us.length + (i - (off + us.length)) < c.n * c.sz := by omega
    simp only [hi, h9, h11, if_false]
 refine hr.setkey hk (by simp) (hchg.mono (by simpa using hgk)) hown' ?_ ?_ (by simp) (fun _ => rfl) (fun e => ⟨e, rfl⟩)
 ·rw [List.nodup_cons]
  exact ⟨fun hm => (hf g hm).2 rfl, hn⟩
 ·intro b hb
  rcases List.mem_cons.1 hb with rfl | hb
  ·exact .inl hgk
  ·exact .inl (hf b hb).1
theorem a6g {α : Type} {A B us D : List α} {off : Nat} (ho : off = A.length) (hB : us.length = B.length) : a1e off us (A ++ (B ++ D)) = A ++ (us ++ D) := by
 subst ho
 unfold a1e
 rw [List.take_left, hB, ← List.append_assoc A B D, ← List.length_append, List.drop_left, List.append_assoc]
theorem b3B {k g n cap : Nat} (e1 : L.rv k = .slice (some ⟨g, 0, none⟩) n cap) : ∀ {ds : List DV} {vs us : List Value} {f : List Nat} {off : Nat}, a0V w ds vs f → CVL C L w (a2Q k off ds) us → (∀ j u, vs[j]? = some u → w.cell? ⟨g, off + j, none⟩ = some u) → a0V w ds us f
 | [], _, _, _, _, h, hc, _ => by
  simp only [a2Q, CVL] at hc
  simp only [a0V] at h ⊢
  exact ⟨hc, h.2⟩
 | d :: ds, _, _, _, off, h, hc, hcell => by
  simp only [a0V] at h
  obtain ⟨v, vs', f1, f2, rfl, rfl, h1, h2⟩ := h
  simp only [a2Q, CVL] at hc
  obtain ⟨u, us', rfl, k1, k2⟩ := hc
  have hrest := b3B e1 h2 k2 (fun j z hz => by have := hcell (j + 1) z (by simpa using hz); rwa [show off + 1 + j = off + (j + 1) by omega])
  simp only [a0V]
  refine ⟨u, us', f1, f2, rfl, rfl, ?_, hrest⟩
  cases hp : d.plain with
  | true =>
   simp only [dvE, hp, cond_true, CVr] at k1
   have := a9q (w' := w) hp k1
   have hf : f1 = [] := by
    cases d with
    | int => simp only [Own] at h1; exact h1.2.2
    | bool => simp only [Own] at h1; exact h1.2
    | str => simp only [Own] at h1; exact h1.2.2
    | sl => simp [DV.plain] at hp
    | hole => simp only [Own] at h1; exact h1.2
   rw [hf]; exact this
  | false =>
   simp only [dvE, hp, cond_false, CVr] at k1
   obtain ⟨_, g', n', c', e2, _, e3⟩ := k1
   rw [e1] at e2
   simp only [Value.slice.injEq, Option.some.injEq, Addr.mk.injEq, and_true, true_and] at e2
   obtain ⟨rfl, _, _⟩ := e2
   have := hcell 0 v rfl
   rw [Nat.add_zero, e3] at this
   simp only [Option.some.injEq] at this
   rw [this]; exact h1
theorem c3X (hT : TTOk P T) {t k off src sz by_ : Nat} {zc : List CV} {c : KC} {ds : List DV} (ho : o.op = .store t x y) (hd : o.dst = none) (ht : look T.el t = some (sz, by_, zc)) (hx : Ev P C nt σ x (.eptr k off)) (hy : Ev P C nt σ y (.agg (a2Q k src ds)))
  (hk : lkk σ k = some c) (hE : Nat.blt c.e 1000000 = true) (hds : sub src sz c.cs = ds) (hlt : off + sz ≤ src) (hle : src + sz ≤ c.cs.length) : Ef P C nt o σ (fun σ' => σ' = σ.mut k [] true { c with cs := a1e off ds (a1e src (List.replicate sz .hole) c.cs) }) := Ef.mk fun L a w hr K Q hK => by
 have hE' : c.e < 1000000 := by simpa [Nat.blt_eq] using hE
 have hdl : ds.length = sz := by rw [← hds, a4v _ _ _ hle]
 have hkv : a1o σ (.agg (a2Q k src ds)) = true := by
  simp only [a1o, SV.keys, SV.boxes, List.all_nil, Bool.and_true, List.all_eq_true]
  intro j hj
  rw [b3f j hj, hk]; rfl
 obtain ⟨us, h1, h2, h3⟩ := a4O (p := (true, a2Q k src ds)) hr rfl hkv (hy.run L a w hr)
 have h4 := hx.run L a w hr
 simp only [SVr] at h4
 obtain ⟨g0, n0, cap0, e1, e2⟩ := h4
 obtain ⟨hpos, hcl, hro⟩ := a8N hr hk hE'
 rcases hro with ⟨e3, _⟩ | ⟨g, cap, cur, vs, f, e3, hg, hnc, hcm, hsz, htake, hfp, hown⟩
 ·rw [e1] at e3; cases e3
 rw [e1] at e3
 simp only [Value.slice.injEq, Option.some.injEq, Addr.mk.injEq, and_true, true_and] at e3
 obtain ⟨rfl, rfl, rfl⟩ := e3
 obtain ⟨inf, z, g1, g2, _⟩ := hT.el t sz by_ zc ht
 have hvl : vs.length = c.cs.length := a2s _ _ _ hown
 have hcur : c.cs.length ≤ cur.toList.length := by rw [hcl, Array.length_toList, hsz]; exact Nat.mul_le_mul_right _ hnc
 have hdvl : ∀ (ds : List DV) (off : Nat), (a2Q k off ds).length = ds.length := fun ds => by
  induction ds with
  | nil => intro _; rfl
  | cons d ds ih => intro off; simp [a2Q, ih]
 have hus : us.length = sz := by rw [a2I h2]; simp only [hdvl, hdl]
 have hcell : ∀ j v, vs[j]? = some v → w.cell? ⟨g0, j, none⟩ = some v := fun j v hj => by
  rw [cell_of_row w g0 j cur c.e (0, 0) hg]
  rw [← htake, List.getElem?_take] at hj
  split at hj
  ·simpa using hj
  ·cases hj
 -- the parts
 have hX : c.cs = c.cs.take off ++ ((c.cs.drop off).take sz ++ (((c.cs.drop (off + sz)).take (src - (off + sz))) ++ (ds ++ c.cs.drop (src + sz)))) := by
  rw [← hds]
  unfold sub
  have q1 : (c.cs.drop src).take sz ++ c.cs.drop (src + sz) = c.cs.drop src := by rw [← List.drop_drop, List.take_append_drop]
  rw [q1]
  have q2 : (c.cs.drop (off + sz)).take (src - (off + sz)) ++ c.cs.drop src = c.cs.drop (off + sz) := by
   have : c.cs.drop src = (c.cs.drop (off + sz)).drop (src - (off + sz)) := by rw [List.drop_drop]; congr 1; omega
   rw [this, List.take_append_drop]
  rw [q2, ← List.drop_drop, List.take_append_drop, List.take_append_drop]
 obtain ⟨A, hA⟩ : ∃ A, A = c.cs.take off := ⟨_, rfl⟩
 obtain ⟨B, hB⟩ : ∃ B, B = (c.cs.drop off).take sz := ⟨_, rfl⟩
 obtain ⟨M, hM⟩ : ∃ M, M = (c.cs.drop (off + sz)).take (src - (off + sz)) := ⟨_, rfl⟩
 obtain ⟨D, hD⟩ : ∃ D, D = c.cs.drop (src + sz) := ⟨_, rfl⟩
 have lA : A.length = off := by rw [hA, List.length_take]; omega
 have lB : B.length = sz := by rw [hB, List.length_take, List.length_drop]; omega
 have lM : M.length = src - (off + sz) := by rw [hM, List.length_take, List.length_drop]; omega
 rw [← hA, ← hB, ← hM, ← hD] at hX
 have hown2 := hown
 rw [hX] at hown2
 obtain ⟨v1, r1, f1, s1, rfl, rfl, o1, t1⟩ := a4t _ _ _ _ hown2
 obtain ⟨v2, r2, f2, s2, rfl, rfl, o2, t2⟩ := a4t _ _ _ _ t1
 obtain ⟨v3, r3, f3, s3, rfl, rfl, o3, t3⟩ := a4t _ _ _ _ t2
 obtain ⟨v4, v5, f4, f5, rfl, rfl, o4, o5⟩ := a4t _ _ _ _ t3
 have l1 := a2s _ _ _ o1
 have l2 := a2s _ _ _ o2
 have l3 := a2s _ _ _ o3
 have l4 := a2s _ _ _ o4
 have o4' : a0V w ds us f4 := b3B e1 o4 h2 (fun j v hj => hcell (src + j) v (by
  have hj' := (List.getElem?_eq_some_iff.1 hj).1
  rw [List.getElem?_append_right (by omega), List.getElem?_append_right (by omega), List.getElem?_append_right (by omega), List.getElem?_append_left (by omega), show src + j - v1.length - v2.length - v3.length = j by omega]
  exact hj))
 have one4 : ∀ v ∈ v4, v.oneCell' = true := a7g (ok := fun _ => True) _ _ (a6D _ _ _ o4 (fun _ _ => trivial))
 have o4h : a0V w (List.replicate sz .hole) v4 [] := by
  have := a8i (w := w) v4 one4
  rwa [l4, hdl] at this
 have hnew : a0V w (A ++ (ds ++ (M ++ (List.replicate sz .hole ++ D)))) (v1 ++ (us ++ (v3 ++ (v4 ++ v5)))) (f1 ++ (f4 ++ (f3 ++ ([] ++ f5)))) :=
  a2X _ _ _ _ _ _ o1 (a2X _ _ _ _ _ _ o4' (a2X _ _ _ _ _ _ o3 (a2X _ _ _ _ _ _ o4h o5)))
 have ecs : a1e off ds (a1e src (List.replicate sz .hole) c.cs) = A ++ (ds ++ (M ++ (List.replicate sz .hole ++ D))) := by
  have q1 : a1e src (List.replicate sz DV.hole) c.cs = A ++ (B ++ (M ++ (List.replicate sz .hole ++ D))) := by
   have := a6g (A := A ++ (B ++ M)) (B := ds) (us := List.replicate sz DV.hole) (D := D) (off := src) (by simp only [List.length_append]; omega) (by simp [hdl])
   simp only [List.append_assoc] at this
   rw [hX]; exact this
  rw [q1]
  exact a6g lA.symm (by omega)
 have evs : a1e off us (cur.toList.take (c.n * c.sz)) = v1 ++ (us ++ (v3 ++ (v4 ++ v5))) := by
  rw [htake]
  exact a6g (by omega) (by omega)
 have hnd := hr.kn k c hk
 rw [hfp, List.nodup_cons] at hnd
 have hperm : (f1 ++ (f4 ++ (f3 ++ ([] ++ f5)))).Nodup := by
  have hs : (f1 ++ (f3 ++ (f4 ++ f5))).Sublist (f1 ++ (f2 ++ (f3 ++ (f4 ++ f5)))) := List.Sublist.append (List.Sublist.refl _) (List.sublist_append_right _ _)
  have hn2 := hs.nodup hnd.2
  refine (List.Perm.nodup_iff ?_).1 hn2
  refine List.Perm.append_left _ ?_
  rw [List.nil_append, ← List.append_assoc, ← List.append_assoc]
  exact List.Perm.append_right _ List.perm_append_comm
 have hsub : ∀ b ∈ f1 ++ (f4 ++ (f3 ++ ([] ++ f5))), b ∈ f1 ++ (f2 ++ (f3 ++ (f4 ++ f5))) := fun b hb => by
  simp only [List.mem_append, List.nil_append] at hb ⊢
  rcases hb with h | h | h | h
  ·exact .inl h
  ·exact .inr (.inr (.inr (.inl h)))
  ·exact .inr (.inr (.inl h))
  ·exact .inr (.inr (.inr (.inr h)))
 have hrun := a7j (P := P) (vs := cur.toList) (z := z) (off := off) (t' := c.e) g1 g2 h1 hus h3 (by simpa using hg) (by omega)
 have hrel := hr.wrow (off := off) (us := us) (cs' := a1e off ds (a1e src (List.replicate sz .hole) c.cs)) (f' := f1 ++ (f4 ++ (f3 ++ ([] ++ f5)))) hk hE' e1 hg hnc hcm hsz hpos (by rw [← hcl]; omega) (by rw [evs, ecs]; exact hnew)
  (fun b hb => ⟨by rw [hfp]; exact List.mem_cons_of_mem _ (hsub b hb), fun e => hnd.1 (by rw [← e]; exact hsub b hb)⟩) (by rw [hfp]; simp) hperm (by rw [a5J (by rw [a5J (by simp; omega)]; omega), a5J (by simp; omega)]; exact hcl)
 unfold Oper.wp execOp
 simp only [ho, e2, Sem.run_bind, hrun, Result.andThen_ok, Sem.run_pure, Oper.upon, hd, Act.put]
 exact hK _ _ _ _ rfl hrel
theorem b9T (hT : TTOk P T) {t e k lo hi sz by_ : Nat} {zc : List CV} {c : KC} (ho : o.op = .call { callee := .builtin .clear, args := #[x], argTypes := #[t] }) (hd : o.dst = none) (ht : look T.sl t = some e) (he : look T.el e = some (sz, by_, zc)) (hl0 : zc.length = sz) (hx : Ev P C nt σ x (.ksl k lo hi sz))
  (hk : lkk σ k = some c) (hce : c.e = e) (hcs : c.sz = sz) (hlh : lo ≤ hi) (hhi : hi ≤ c.n) : Ef P C nt o σ (fun σ' => σ' = σ.mut k [] true { c with cs := a1e (lo * sz) (List.replicate ((hi - lo) * sz) .hole) c.cs }) := Ef.mk fun L a w hr K Q hK => by
 subst hce; subst hcs
 have hE' : c.e < 1000000 := hT.lt _ _ he
 have h4 := hx.run L a w hr
 simp only [SVr] at h4
 obtain ⟨A, n0, cap0, e1, e2⟩ := h4
 obtain ⟨hpos, hcl, hro⟩ := a8N hr hk hE'
 obtain ⟨inf, z, g1, g2, g3, g4, g5⟩ := hT.el c.e c.sz by_ zc he
 obtain ⟨_, _, z1⟩ := b0l (C := C) (L := L) (w := w) g5
 have hzs : z.cells.size = c.sz := by have := a7G g5; simp only [Array.length_toList] at this; rw [this, hl0]
 have hzv : ∀ w, (zeroValue c.e).run P w = .ok z w := fun w => by simp [zeroValue, typeInfo, g1, g4]
 have hm1 : (hi - lo) * c.sz + lo * c.sz = hi * c.sz := by rw [← Nat.add_mul]; congr 1; omega
 have hm2 : hi * c.sz ≤ c.n * c.sz := Nat.mul_le_mul_right _ hhi
 -- nothing to clear
 have same : hi = lo → Rel P C nt L (σ.mut k [] true { c with cs := a1e (lo * c.sz) (List.replicate ((hi - lo) * c.sz) .hole) c.cs }) a w := fun h => by
  have : a1e (lo * c.sz) (List.replicate ((hi - lo) * c.sz) DV.hole) c.cs = c.cs := by
   subst h
   simp [a1e]
  rw [this]
  have := hr.setkey (k := k) (c := c) (c' := c) (js := []) (same := true) (v' := L.rv k) (f' := L.fp k) hk (by simp) ((Chg.refl [] w).mono (by simp)) (hr.ks k c hk).1 (hr.kn k c hk) (fun b hb => .inl hb) (by simp) (fun _ => rfl) (fun h => ⟨h, rfl⟩)
  have eL : ({ L with fp := fun i => if i = k then L.fp k else L.fp i, rv := fun i => if i = k then L.rv k else L.rv i } : Lyt) = L := by
   cases L
   simp only [Lyt.mk.injEq, true_and]
   constructor <;> (funext i; split <;> simp_all)
  rwa [eL] at this
 have hclr0 : ∀ A c', (Builtin.clear_ #[t] o.type #[.slice A 0 c']).run P w = .ok (.tuple #[]) w := fun A c' => by
  cases A <;> simp [Builtin.clear_, run_underlying (hT.sl t c.e ht)]
 rcases Nat.eq_or_lt_of_le hlh with heq | hlt
 ·have e3 : a.eval x = .slice (if cap0 = lo then A else A.map (·.add (lo * c.sz))) 0 (cap0 - lo) := by rw [e2, sliced, heq, Nat.sub_self]
  unfold Oper.wp execOp
  simp only [ho, resolve, invoke, builtin, Sem.run_bind, Sem.run_pure, Result.andThen_ok, List.map_toArray, List.map_cons, List.map_nil, e3, hclr0, Oper.upon, hd, Act.put]
  exact hK _ _ _ _ rfl (same heq.symm)
 rcases hro with ⟨e3, h0⟩ | ⟨g, cap, cur, vs, f, e3, hg, hnc, hcm, hsz, htake, hfp, hown⟩
 ·omega
 rw [e1] at e3
 simp only [Value.slice.injEq] at e3
 obtain ⟨rfl, rfl, rfl⟩ := e3
 have hcur : c.n * c.sz ≤ cur.toList.length := by rw [Array.length_toList, hsz]; exact Nat.mul_le_mul_right _ hnc
 have hvl : vs.length = c.n * c.sz := by rw [a2s _ _ _ hown, hcl]
 obtain ⟨zs, hzz⟩ : ∃ zs, zs = (Builtin.zeroCells z.cells (hi - lo)).toList := ⟨_, rfl⟩
 have hzl : zs.length = (hi - lo) * c.sz := by rw [hzz]; simp [Builtin.zeroCells, hzs]
 have hz1 : ∀ v ∈ zs, v.oneCell' = true := fun v hv => by
  rw [hzz] at hv
  simp only [Builtin.zeroCells, Array.toList_map, List.mem_map] at hv
  obtain ⟨i, _, rfl⟩ := hv
  have hlt2 : i % z.cells.size < z.cells.size := Nat.mod_lt _ (by omega)
  rw [getElem!_pos z.cells _ hlt2]
  exact z1 _ (by simp)
 have hst := run_storeCells_at P g (lo * c.sz) c.e zs 0 cur w hg (by rw [← Array.length_toList]; omega) hz1
 simp only [Nat.add_zero] at hst
 have hne : ¬ cap0 = lo := by omega
 have e4 : a.eval x = .slice (some ⟨g, lo * c.sz, none⟩) (hi - lo) (cap0 - lo) := by
  rw [e2, sliced, if_neg hne]
  simp [a5i]
 have hclr : (Builtin.clear_ #[t] o.type #[.slice (some ⟨g, lo * c.sz, none⟩) (hi - lo) (cap0 - lo)]).run P w = .ok (.tuple #[]) (w.setRow g (a1e (lo * c.sz) zs cur.toList).toArray) := by
  obtain ⟨m, hm⟩ : ∃ m, hi - lo = m + 1 := ⟨hi - lo - 1, by omega⟩
  rw [hzz, hm] at hst
  rw [hm]
  simp [Builtin.clear_, run_underlying (hT.sl t c.e ht), hzv, hst, a1e, hzz, hm]
 have ohole : a0V w (List.replicate ((hi - lo) * c.sz) .hole) zs [] := by
  have := a8i (w := w) zs hz1
  rwa [hzl] at this
 obtain ⟨f1, f3, s1, s2, s3⟩ := b7R hown ohole (off := lo * c.sz) (by simp only [List.length_replicate]; omega)
 have hnd := hr.kn k c hk
 rw [hfp, List.nodup_cons] at hnd
 have hrel := hr.wrow (off := lo * c.sz) (us := zs) (cs' := a1e (lo * c.sz) (List.replicate ((hi - lo) * c.sz) .hole) c.cs) (f' := f1 ++ f3) hk hE' e1 hg hnc hcm hsz hpos (by omega) (by rw [htake]; simpa using s3)
  (fun b hb => ⟨by rw [hfp]; exact List.mem_cons_of_mem _ (s1 b hb), fun e => hnd.1 (by rw [← e]; exact s1 b hb)⟩) (by rw [hfp]; simp) (s2 hnd.2) (by rw [a5J (by simp only [List.length_replicate]; omega)]; exact hcl)
 unfold Oper.wp execOp
 simp only [ho, resolve, invoke, builtin, Sem.run_bind, Sem.run_pure, Result.andThen_ok, List.map_toArray, List.map_cons, List.map_nil, e4, hclr, Oper.upon, hd, Act.put]
 exact hK _ _ _ _ rfl hrel
theorem c2H (hT : TTOk P T) {t e k i j hi sz by_ d : Nat} {zc : List CV} {c : KC} (ho : o.op = .call { callee := .builtin .append, args := #[x, y], argTypes := #[t, t] }) (hd : o.dst = some d) (hnt : Nat.blt d nt = true) (ht : look T.sl t = some e) (he : look T.el e = some (sz, by_, zc)) (hx : Ev P C nt σ x (.ksl k 0 i sz)) (hy : Ev P C nt σ y (.ksl k j hi sz))
  (hk : lkk σ k = some c) (hce : c.e = e) (hcs : c.sz = sz) (hhi : hi = c.n) (hij : i ≤ j) (hj : j ≤ hi) : Ef P C nt o σ (fun σ' => σ' = (σ.mut k [] true { c with cs := c.cs.take (i * sz) ++ (c.cs.drop (j * sz) ++ List.replicate ((j - i) * sz) .hole) }).put d (.ksl k 0 (i + (c.n - j)) sz)) := Ef.mk fun L a w hr K Q hK => by
 subst hce; subst hcs; subst hhi
 have hE' : c.e < 1000000 := hT.lt _ _ he
 have h4 := hx.run L a w hr
 have h5 := hy.run L a w hr
 simp only [SVr] at h4 h5
 obtain ⟨A, n0, cap0, e1, e2⟩ := h4
 obtain ⟨A2, n2, cap2, e1', e3⟩ := h5
 rw [e1] at e1'
 simp only [Value.slice.injEq] at e1'
 obtain ⟨rfl, rfl, rfl⟩ := e1'
 obtain ⟨r1, rfl, r3⟩ := b6n hr hk e1
 rw [b2l (n := c.n) r1] at e2
 obtain ⟨hpos, hcl, hro⟩ := a8N hr hk hE'
 obtain ⟨inf, z, g1, g2, g3, g4, g5⟩ := hT.el c.e c.sz by_ zc he
 have hd' : d < nt := by simpa [Nat.blt_eq] using hnt
 have hm1 : (c.n - j) * c.sz + j * c.sz = c.n * c.sz := by rw [← Nat.add_mul]; congr 1; omega
 have hm2 : (j - i) * c.sz + i * c.sz = j * c.sz := by rw [← Nat.add_mul]; congr 1; omega
 rcases hro with ⟨e4, h0⟩ | ⟨g, cap, cur, vs, f, e4, hg, hnc, hcm, hsz, htake, hfp, hown⟩
 ·
  rw [e1] at e4
  simp only [Value.slice.injEq] at e4
  obtain ⟨rfl, h0', rfl⟩ := e4
  have hj0 : j = 0 := by omega
  have hi0 : i = 0 := by omega
  subst hj0; subst hi0
  have hrow : w.ownsRow 0 c.e c.sz (.slice none 0 0) 0 [] := ⟨by simp, .inl ⟨rfl, rfl⟩⟩
  have hrun := b8V (P := P) w 0 t o.type c.e inf c.sz (hT.sl t c.e ht) g1 (.slice none 0 0) 0 [] hrow 0
  have e3' : a.eval y = .slice none 0 0 := by rw [e3]; simp [sliced, h0]
  have ecs : c.cs = [] := List.eq_nil_of_length_eq_zero (by rw [hcl, h0]; simp)
  have hset := hr.setkey (k := k) (c := c) (c' := { c with cs := c.cs.take (0 * c.sz) ++ (c.cs.drop (0 * c.sz) ++ List.replicate ((0 - 0) * c.sz) .hole) }) (js := []) (same := true) (v' := L.rv k) (f' := L.fp k) hk (by simp) ((Chg.refl [] w).mono (by simp)) (by simpa [ecs] using (hr.ks k c hk).1) (hr.kn k c hk) (fun b hb => .inl hb) (by simp) (fun _ => rfl) (fun h => ⟨h, rfl⟩)
  unfold Oper.wp execOp
  simp only [ho, resolve, invoke, builtin, Sem.run_bind, Sem.run_pure, Result.andThen_ok, List.map_toArray, List.map_cons, List.map_nil, e2, e3', hrun, Oper.upon, hd]
  refine hK _ _ _ _ rfl (hset.put (d := d) (v := .ksl k 0 (0 + (c.n - 0)) c.sz) (r := .slice none 0 0) hd' ?_ (by simp [SV.keys, a5j]) (by simp [SV.boxes]))
  simp only [SVr, if_true]
  exact ⟨none, c.n, 0, e1, by simp [sliced, h0]⟩
 rw [e1] at e4
 simp only [Value.slice.injEq] at e4
 obtain ⟨rfl, _, rfl⟩ := e4
 have hcur : c.n * c.sz ≤ cur.toList.length := by rw [Array.length_toList, hsz]; exact Nat.mul_le_mul_right _ hnc
 have hvl : vs.length = c.n * c.sz := by rw [a2s _ _ _ hown, hcl]
 -- the parts
 have hX : c.cs = c.cs.take (i * c.sz) ++ ((c.cs.drop (i * c.sz)).take ((j - i) * c.sz) ++ c.cs.drop (j * c.sz)) := by
  have : c.cs.drop (j * c.sz) = (c.cs.drop (i * c.sz)).drop ((j - i) * c.sz) := by rw [List.drop_drop]; congr 1; omega
  rw [this, List.take_append_drop, List.take_append_drop]
 have hown2 := hown
 rw [hX] at hown2
 obtain ⟨v1, r1', f1, s1, hv, hf, o1, t1⟩ := a4t _ _ _ _ hown2
 obtain ⟨v2, v3, f2, f3, hv', hf', o2, o3⟩ := a4t _ _ _ _ t1
 subst hv'; subst hf'
 have l1 := a2s _ _ _ o1
 have l2 := a2s _ _ _ o2
 have l3 := a2s _ _ _ o3
 simp only [List.length_take, List.length_drop, hcl] at l1 l2 l3
 have one : ∀ {ds : List DV} {vs : List Value} {f : List Nat}, a0V w ds vs f → ∀ u ∈ vs, u.oneCell' = true := fun h => a7g (ok := fun _ => True) _ _ (a6D _ _ _ h (fun _ _ => trivial))
 have hcell : ∀ q v, vs[q]? = some v → w.cell? ⟨g, q, none⟩ = some v := fun q v hq => by
  rw [cell_of_row w g q cur c.e (0, 0) hg]
  rw [← htake, List.getElem?_take] at hq
  split at hq
  ·simpa using hq
  ·cases hq
 -- the tail's values over the rest
 obtain ⟨R, hR⟩ : ∃ R, R = (v2 ++ v3).drop v3.length := ⟨_, rfl⟩
 have lR : R.length = (j - i) * c.sz := by rw [hR, List.length_drop, List.length_append]; omega
 have hR1 : ∀ v ∈ R, v.oneCell' = true := fun v hm => by
  rw [hR] at hm
  rcases List.mem_append.1 (List.mem_of_mem_drop hm) with h | h
  ·exact one o2 v h
  ·exact one o3 v h
 have ohole : a0V w (List.replicate ((j - i) * c.sz) .hole) R [] := by
  have := a8i (w := w) R hR1
  rwa [lR] at this
 have hnew : a0V w (c.cs.take (i * c.sz) ++ (c.cs.drop (j * c.sz) ++ List.replicate ((j - i) * c.sz) .hole)) (v1 ++ (v3 ++ R)) (f1 ++ (f3 ++ [])) := a2X _ _ _ _ _ _ o1 (a2X _ _ _ _ _ _ o3 ohole)
 have evs : a1e (i * c.sz) v3 (cur.toList.take (c.n * c.sz)) = v1 ++ (v3 ++ R) := by
  rw [htake, hv]
  have e0 : v2 ++ v3 = (v2 ++ v3).take v3.length ++ R := by rw [hR, List.take_append_drop]
  rw [e0]
  exact a6g (by omega) (by rw [List.length_take, List.length_append]; omega)
 have hnd := hr.kn k c hk
 rw [hfp, List.nodup_cons] at hnd
 have hnod : (f1 ++ (f3 ++ [])).Nodup := by
  have := hnd.2
  rw [hf] at this
  rw [List.append_nil]
  exact (List.Sublist.append (List.Sublist.refl _) (List.sublist_append_right _ _)).nodup this
 have hsub : ∀ b ∈ f1 ++ (f3 ++ []), b ∈ f := fun b hb => by
  rw [hf]
  simp only [List.mem_append, List.append_nil] at hb ⊢
  rcases hb with h | h
  ·exact .inl h
  ·exact .inr (.inr h)
 have hrel := hr.wrow (off := i * c.sz) (us := v3) (cs' := c.cs.take (i * c.sz) ++ (c.cs.drop (j * c.sz) ++ List.replicate ((j - i) * c.sz) .hole)) (f' := f1 ++ (f3 ++ [])) hk hE' e1 hg hnc hcm hsz hpos (by omega) (by rw [evs]; exact hnew)
  (fun b hb => ⟨by rw [hfp]; exact List.mem_cons_of_mem _ (hsub b hb), fun e => hnd.1 (by rw [← e]; exact hsub b hb)⟩) (by rw [hfp]; simp) hnod (by simp only [List.length_append, List.length_take, List.length_drop, List.length_replicate, hcl]; omega)
 -- the run
 have hlen3 : v3.length = (c.n - j) * inf.size := by rw [g2]; omega
 obtain ⟨AA, hAA, hcells⟩ : ∃ AA : Addr, a.eval y = .slice (some AA) (c.n - j) (cap0 - j) ∧ ∀ q v, v3[q]? = some v → w.cell? (AA.add q) = some v := by
  rw [e3]
  by_cases hc : cap0 = j
  ·refine ⟨⟨g, 0, none⟩, by simp [sliced, hc], fun q v hq => ?_⟩
   have hq' := (List.getElem?_eq_some_iff.1 hq).1
   have h0 : c.n - j = 0 := by omega
   rw [h0, Nat.zero_mul] at hm1
   omega
  ·refine ⟨⟨g, j * c.sz, none⟩, by simp [sliced, hc, a5i], fun q v hq => ?_⟩
   rw [a5i]
   refine hcell _ _ ?_
   rw [hv, List.getElem?_append_right (by omega), List.getElem?_append_right (by omega), show j * c.sz + q - v1.length - v2.length = q by omega]
   exact hq
 have hrun := run_append_room (P := P) w t o.type c.e inf (hT.sl t c.e ht) g1 g i cap0 cur hg AA (c.n - j) (cap0 - j) v3 hlen3 hcells (one o3) (by omega) (by rw [g2, ← Array.length_toList]; omega)
 rw [g2] at hrun
 unfold Oper.wp execOp
 simp only [ho, resolve, invoke, builtin, Sem.run_bind, Sem.run_pure, Result.andThen_ok, List.map_toArray, List.map_cons, List.map_nil, e2, hAA, hrun, Oper.upon, hd]
 refine hK _ _ _ _ rfl (hrel.put (d := d) (v := .ksl k 0 (i + (c.n - j)) c.sz) (r := .slice (some ⟨g, 0, none⟩) (i + (c.n - j)) cap0) hd' ?_ (by simp [SV.keys, a5j]) (by simp [SV.boxes]))
 simp only [SVr, if_true]
 exact ⟨some ⟨g, 0, none⟩, c.n, cap0, e1, (b2l (n := c.n) (.inr ⟨g, rfl⟩)).symm⟩
theorem b6H {tm : List (Nat × SV)} {bx : List (Nat × TypeId × List CV)} {ks : List (Nat × Option KC)} {s k m sz : Nat} {c : KC} {cs : List DV} (hs : look tm s = some (.ksl k 0 m sz)) (hk : lkk ⟨tm, bx, ks⟩ k = some c) (hE : Nat.blt c.e 1000000 = true) (hcs : c.sz = sz) (hm : m ≤ c.n) (hcc : c.cs.take (m * sz) = cs) :
  Weak P C nt ⟨tm, bx, ks⟩ ⟨(s, .one (.key k)) :: a0l [k] [k] tm, a0i [k] [k] bx, (k, some ⟨false, c.e, sz, m, cs⟩) :: ks⟩ := Weak.mk fun L a w hr => by
 subst hcs; subst hcc
 have hE' : c.e < 1000000 := by simpa [Nat.blt_eq] using hE
 have hsv := hr.tm s _ hs
 simp only [SVr] at hsv
 obtain ⟨A, n0, cap0, e1, e2⟩ := hsv
 obtain ⟨r1, rfl, r3⟩ := b6n hr hk e1
 rw [b2l (n := c.n) r1] at e2
 obtain ⟨hpos, hcl, hro⟩ := a8N hr hk hE'
 have hm2 : m * c.sz ≤ c.n * c.sz := Nat.mul_le_mul_right _ hm
 have hfin : ∀ f', Own w (.sl c.e c.sz m (c.cs.take (m * c.sz))) (.slice A m cap0) f' → f'.Nodup → (∀ b ∈ f', b ∈ L.fp k) → ∃ L', Rel P C nt L' ⟨(s, .one (.key k)) :: a0l [k] [k] tm, a0i [k] [k] bx, (k, some ⟨false, c.e, c.sz, m, c.cs.take (m * c.sz)⟩) :: ks⟩ a w := fun f' ho hn hf => by
  have hset := hr.setkey (k := k) (c := c) (c' := ⟨false, c.e, c.sz, m, c.cs.take (m * c.sz)⟩) (js := []) (same := false) (v' := .slice A m cap0) (f' := f') hk (by simp) ((Chg.refl [] w).mono (by simp)) ho hn (fun b hb => .inl (hf b hb)) (by simp) (by simp) (by simp)
  exact ⟨_, hset.also (d := s) (v := .one (.key k)) (by simp only [SVr, CVr, if_true]; exact e2) (by simp [SV.keys, CV.keys, a5j]) (by simp [SV.boxes])⟩
 rcases hro with ⟨e4, h0⟩ | ⟨g, cap, cur, vs, f, e4, hg, hnc, hcm, hsz, htake, hfp, hown⟩
 ·rw [e1] at e4
  simp only [Value.slice.injEq] at e4
  obtain ⟨rfl, h0', rfl⟩ := e4
  have hm0 : m = 0 := by omega
  subst hm0
  refine hfin [] ?_ (by simp) (by simp)
  rw [Nat.zero_mul, List.take_zero]
  exact a7q w c.e c.sz hpos
 ·rw [e1] at e4
  simp only [Value.slice.injEq] at e4
  obtain ⟨rfl, _, rfl⟩ := e4
  obtain ⟨fa, fb, hf, ta, tb⟩ := a7w (m * c.sz) hown
  have hnd := hr.kn k c hk
  rw [hfp, List.nodup_cons] at hnd
  have hvl : vs.length = c.n * c.sz := by rw [a2s _ _ _ hown, hcl]
  refine hfin (g :: fa) ?_ ?_ ?_
  ·unfold Own
   refine ⟨vs.take (m * c.sz), fa, by simp [Value.ownBlock], hpos, by rw [List.length_take]; omega, a3y hE' ⟨by rw [List.length_take]; omega, .inr ⟨g, cap0, cur, rfl, Nat.zero_le _, hg, by omega, hcm, hsz, ?_⟩⟩, ta⟩
   rw [← htake, List.take_take]
   congr 1; omega
  ·rw [List.nodup_cons]
   rw [hf] at hnd
   exact ⟨fun h => hnd.1 (by simp [h]), (List.nodup_append.1 hnd.2).1⟩
  ·intro b hb
   rw [hfp, hf]
   rcases List.mem_cons.1 hb with rfl | hb
   ·simp
   ·simp [hb]
theorem c4L {Q : Exit → St → Prop} {all : Array Oper} {rest : List Oper} {σ' : St} (h : Weak P C nt σ σ') (k : Ops P C nt Q all rest σ') : Ops P C nt Q all rest σ := Ops.mk fun L a w hr => by
 obtain ⟨L', h'⟩ := h.run L a w hr
 exact k.run L' a w h'
end
/-! ### calls that change a key and hand it back -/
structure MFn (P : Program) (f : FuncId) (us : List SV) (c0 c1 : KC) : Prop where
 ok : a6L P f [] [(0, some c0)] (.one (.key 0) :: us) fun v σ' => v = .one (.key 0) ∧ σ'.ks = [(0, some c1)]
def a7V (σ : St) : SV → SV → Prop
 | .one (.dv _ d), u => d.plain = true ∧ u = .one (.dv [] d)
 | .clo f bs, u => ∃ caps, a3Z σ bs caps ∧ u = .fn f caps
 | _, _ => False
def a6R (P : Program) (C : Ctx) (nt : Nat) (σ : St) : List Operand → List SV → Prop
 | [], us => us = []
 | x :: xs, us => ∃ v u us', us = u :: us' ∧ Ev P C nt σ x v ∧ a7V σ v u ∧ a6R P C nt σ xs us'
section
variable {P : Program} {C : Ctx} {nt : Nat} {σ : St} {L : Lyt} {a : Act} {w : World} {o : Oper} {x y u : Operand} {T : TT}
theorem c0L : a6R P C nt σ [] [] := rfl
theorem c5h {v u : SV} {xs : List Operand} {us : List SV} (hx : Ev P C nt σ x v) (h : a7V σ v u) (h2 : a6R P C nt σ xs us) : a6R P C nt σ (x :: xs) (u :: us) := ⟨v, u, us, rfl, hx, h, h2⟩
theorem c1f {f : FuncId} {bs : List Nat} {caps : List (List DV)} (h : a3Z σ bs caps) : a7V σ (.clo f bs) (.fn f caps) := ⟨caps, h, rfl⟩
def a5Q (L : Lyt) (k : Nat) : Lyt := { bb := fun _ => 0, fp := fun i => if i = 0 then L.fp k else [], rv := fun i => if i = 0 then L.rv k else .bool false }
theorem c6a (hr : Rel P C nt L σ a w) {k : Nat} {c : KC} (hk : lkk σ k = some c) {L' : Lyt} {rv : Nat → Value} : ∀ b, b < w.heap.size → okB C L [] b → okB ⟨w, L.fp k, rv⟩ L' [] b ∧ w.heap[b]? = w.heap[b]? := fun b hb h => by
 rcases h with ⟨h1, h2⟩ | ⟨_, h1, _⟩
 ·refine ⟨.inl ⟨hb, fun hm => ?_⟩, rfl⟩
  rcases hr.k1 k c hk b hm with h3 | h3
  ·omega
  ·exact h2 h3
 ·cases h1
theorem b5w (hr : Rel P C nt L σ a w) {k : Nat} {c : KC} (hk : lkk σ k = some c) (L' : Lyt) {rv : Nat → Value} : ∀ {bs : List Nat} {dss : List (List DV)}, a3Z σ bs dss → a4S ⟨w, L.fp k, rv⟩ L' w dss (bs.map fun b => Value.pointer (some ⟨L.bb b, 0, none⟩))
 | [], _, h => by simp only [a3Z] at h; subst h; rfl
 | b :: bs, _, ⟨ds, dss', t, e, h1, h2⟩ => by
  subst e
  obtain ⟨vs, h3, h4⟩ := hr.bx b t _ h1
  refine ⟨_, _, rfl, ⟨L.bb b, 0, vs, rfl, fun _ => .inl ⟨a7a h3, hr.bk b k _ c h1 hk⟩, a6w (c6a hr hk) _ _ (b7b h4), fun j u hu => ?_⟩, b5w hr hk L' h2⟩
  rw [Nat.zero_add, cell_of_row w _ j vs.toArray t (0, 0) h3]
  simpa using hu
theorem b9x (hr : Rel P C nt L σ a w) {k : Nat} {c : KC} (hk : lkk σ k = some c) (L' : Lyt) {rv : Nat → Value} {v u : SV} {r : Value} (h : a7V σ v u) (hv : SVr P C L w v r) : SVr P ⟨w, L.fp k, rv⟩ L' w u r ∧ u.keys = [] ∧ u.boxes = [] := by
 cases v with
 | one c0 =>
  cases c0 with
  | dv K d =>
   obtain ⟨h1, rfl⟩ := h
   simp only [SVr, CVr] at hv ⊢
   exact ⟨b1e h1 hv, rfl, rfl⟩
  | _ => simp [a7V] at h
 | clo f bs =>
  obtain ⟨caps, h1, rfl⟩ := h
  simp only [SVr] at hv ⊢
  exact ⟨⟨_, hv, b5w hr hk L' h1⟩, rfl, rfl⟩
 | _ => simp [a7V] at h
theorem b5e (hr : Rel P C nt L σ a w) {k : Nat} {c : KC} (hk : lkk σ k = some c) (L' : Lyt) {rv : Nat → Value} : ∀ {xs : List Operand} {us : List SV}, a6R P C nt σ xs us → xs.length = us.length ∧ (∀ u ∈ us, u.keys = [] ∧ u.boxes = []) ∧ ∀ (i : Nat) u, us[i]? = some u → ∃ x, xs[i]? = some x ∧ SVr P ⟨w, L.fp k, rv⟩ L' w u (a.eval x)
 | [], _, h => by simp only [a6R] at h; subst h; simp
 | x :: xs, _, ⟨v, u, us', e, h1, h2, h3⟩ => by
  subst e
  obtain ⟨g1, g2, g3⟩ := b5e hr hk L' (rv := rv) h3
  obtain ⟨q1, q2, q3⟩ := b9x hr hk L' (rv := rv) h2 (h1.run L a w hr)
  refine ⟨by simp [g1], fun z hz => ?_, fun i z hz => ?_⟩
  ·rcases List.mem_cons.1 hz with rfl | hz
   ·exact ⟨q2, q3⟩
   ·exact g2 z hz
  ·cases i with
   | zero => simp only [List.getElem?_cons_zero, Option.some.injEq] at hz; subst hz; exact ⟨x, rfl, q1⟩
   | succ i => simpa using g3 i z (by simpa using hz)
theorem c3m {f : FuncId} {xs : List Operand} {ats : Array TypeId} {us : List SV} {k d : Nat} {c c0 c1 : KC} (ho : o.op = .call { callee := .value (.func f), args := (x :: xs).toArray, argTypes := ats }) (hd : o.dst = some d) (hn : Nat.blt d nt = true)
  (hc : ∀ (args : Array Value) (w : World), (callFunc f args).run P w = .ok (.enter f args) w) (hf : MFn P f us c0 c1) (hx : Ev P C nt σ x (.one (.key k))) (hk : lkk σ k = some c) (hc0 : (⟨false, c.e, c.sz, c.n, c.cs⟩ : KC) = c0) (hc1 : c1.h = false) (ha : a6R P C nt σ xs us) :
  Ef P C nt o σ (fun σ' => σ' = (σ.mut k [] false c1).put d (.one (.key k))) := Ef.mk fun L a w hr K Q hK => by
 subst hc0
 have e1 := hx.run L a w hr
 simp only [SVr, CVr] at e1
 obtain ⟨g1, g2, g3⟩ := b5e hr hk (a5Q L k) (rv := (a5Q L k).rv) ha
 refine a6n (xs := x :: xs) ho hc ?_
 have hall : ∀ q ∈ (.one (.key 0) :: us : List SV), (∀ j ∈ q.keys, j = 0) ∧ q.boxes = [] := fun q hq => by
  rcases List.mem_cons.1 hq with rfl | hq
  ·exact ⟨by simp [SV.keys, CV.keys], rfl⟩
  ·obtain ⟨h1, h2⟩ := g2 q hq
   exact ⟨by simp [h1], h2⟩
 have hlk : ∀ (tm : List (Nat × SV)) j c', lkk ⟨tm, [], [(0, some (⟨false, c.e, c.sz, c.n, c.cs⟩ : KC))]⟩ j = some c' → j = 0 ∧ c' = ⟨false, c.e, c.sz, c.n, c.cs⟩ := fun tm j c' h => by
  simp only [lkk, a0Z] at h
  split at h
  ·rename_i e; exact ⟨e, by simpa using h.symm⟩
  ·simp [look] at h
 have hen : ∀ (us : List SV) (j : Nat), (∀ q ∈ us, (∀ j ∈ q.keys, j = 0) ∧ q.boxes = []) → (∀ i ∈ (a2k j us).flatMap fun p => p.2.keys, i = 0) ∧ ((a2k j us).flatMap fun p => p.2.boxes) = [] := fun us => by
  induction us with
  | nil => intro j _; simp [a2k]
  | cons q us ih =>
   intro j h
   obtain ⟨h1, h2⟩ := ih (j + 1) (fun z hz => h z (by simp [hz]))
   obtain ⟨h3, h4⟩ := h q (by simp)
   refine ⟨fun i hi => ?_, by simp [a2k, h2, h4]⟩
   simp only [a2k, List.flatMap_cons, List.mem_append] at hi
   rcases hi with hi | hi
   ·exact h3 i hi
   ·exact h1 i hi
 obtain ⟨t1, t2⟩ := hen _ 0 hall
 have hent : Rel P ⟨w, L.fp k, (a5Q L k).rv⟩ (.one (.key 0) :: us : List SV).length (a5Q L k) ⟨a2k 0 (.one (.key 0) :: us), [], [(0, some ⟨false, c.e, c.sz, c.n, c.cs⟩)]⟩ ⟨((x :: xs).map a.eval).toArray, []⟩ w := {
  df := rfl
  sz := by simp [g1]
  tm := fun i v hv => by
   obtain ⟨_, h4⟩ := a7y _ 0 i v hv
   rw [Nat.sub_zero] at h4
   cases i with
   | zero =>
    simp only [List.getElem?_cons_zero, Option.some.injEq] at h4
    subst h4
    simp [SVr, CVr, a5Q, e1]
   | succ i =>
    obtain ⟨z, h5, h6⟩ := g3 i v (by simpa using h4)
    have : ((x :: xs).map a.eval).toArray.getD (i + 1) undef = a.eval z := by simp [Array.getD_eq_getD_getElem?, h5]
    rw [this]; exact h6
  bx := fun i t cs h => by cases h
  ks := fun j c' h => by
   obtain ⟨rfl, rfl⟩ := hlk _ j c' h
   refine ⟨?_, by simp⟩
   simpa [a5Q] using (hr.ks k c hk).1
  b1 := fun i x h => by cases h
  k1 := fun j c' h => by
   obtain ⟨rfl, rfl⟩ := hlk _ j c' h
   intro b hb
   exact .inr (by simpa [a5Q] using hb)
  kn := fun j c' h => by
   obtain ⟨rfl, rfl⟩ := hlk _ j c' h
   simpa [a5Q] using hr.kn k c hk
  bb := fun i j x y h => by cases h
  bk := fun i k x c h => by cases h
  kk := fun i j c' d' h1 h2 hij => by
   obtain ⟨rfl, _⟩ := hlk _ i c' h1
   obtain ⟨rfl, _⟩ := hlk _ j d' h2
   exact absurd rfl hij
  lk := fun j hj => by
   simp only [St.tk, List.flatMap_nil, List.append_nil] at hj
   rw [t1 j hj]; simp [lkk, a0Z]
  lb := fun b hb => by simp only [St.tb, t2] at hb; cases hb
  s0 := fun b hb => hr.k_lt hk b hb
  chg := Chg.refl _ _ }
 refine (hf.ok w (L.fp k) (a5Q L k) ((x :: xs).map a.eval) (by simp [g1]) hent).mono ?_
 rintro e' w' ⟨r, res, σ', L', rfl, ⟨rfl, hks⟩, h3⟩
 have hlk' : lkk { σ' with tm := [(0, SV.one (.key 0))] } 0 = some c1 := by simp [lkk, hks, a0Z]
 have hro := (h3.ks 0 c1 hlk').1
 have hrr := h3.tm 0 (.one (.key 0)) (by simp [a0Z])
 simp only [SVr, CVr] at hrr
 have hrr : r = L'.rv 0 := by simpa using hrr
 have hset := hr.setkey (k := k) (c := c) (c' := c1) (js := []) (same := false) (v' := L'.rv 0) (f' := L'.fp 0) hk (by simp) h3.chg hro (h3.kn 0 c1 hlk') (fun b hb => by
  rcases h3.k1 0 c1 hlk' b hb with h | h
  ·exact .inr (.inr h)
  ·exact .inl h) (by simp) (by simp) (fun h => by rw [hc1] at h; cases h)
 refine ⟨r, rfl, hK { L with fp := fun i => if i = k then L'.fp 0 else L.fp i, rv := fun i => if i = k then L'.rv 0 else L.rv i } _ _ _ rfl ?_⟩
 rw [hd]
 exact hset.put (d := d) (v := .one (.key k)) (r := r) (by simpa [Nat.blt_eq] using hn) (by simp [SVr, CVr, hrr]) (by simp [SV.keys, CV.keys, a5j]) (by simp [SV.boxes])
/-! over states that are written out -/
section
variable {Q : Exit → St → Prop} {all : Array Oper} {rest : List Oper} {tm : List (Nat × SV)} {bx : List (Nat × TypeId × List CV)} {ks : List (Nat × Option KC)} {d : Nat}
theorem c1t (hT : TTOk P T) {t k off src sz by_ : Nat} {zc : List CV} {c : KC} {ds cs : List DV} (hg : o.guard = none) (hd : o.dst = none) (ho : o.op = .store t x y) (ht : look T.el t = some (sz, by_, zc)) (hx : Ev P C nt ⟨tm, bx, ks⟩ x (.eptr k off)) (hy : Ev P C nt ⟨tm, bx, ks⟩ y (.agg (a2Q k src ds)))
  (hk : lkk ⟨tm, bx, ks⟩ k = some c) (hE : Nat.blt c.e 1000000 = true) (hds : sub src sz c.cs = ds) (hlt : off + sz ≤ src) (hle : src + sz ≤ c.cs.length) (hcs : a1e off ds (a1e src (List.replicate sz .hole) c.cs) = cs)
  (h : Ops P C nt Q all rest ⟨a0l [k] [] tm, a0i [k] [] bx, (k, some { c with cs := cs }) :: ks⟩) : Ops P C nt Q all (o :: rest) ⟨tm, bx, ks⟩ := a3u hg (c3X hT ho hd ht hx hy hk hE hds hlt hle) (by subst hcs; exact h)
theorem c1C (hT : TTOk P T) {t e k lo hi sz by_ : Nat} {zc : List CV} {c : KC} {cs : List DV} (hg : o.guard = none) (hd : o.dst = none) (ho : o.op = .call { callee := .builtin .clear, args := #[x], argTypes := #[t] }) (ht : look T.sl t = some e) (he : look T.el e = some (sz, by_, zc)) (hl0 : zc.length = sz) (hx : Ev P C nt ⟨tm, bx, ks⟩ x (.ksl k lo hi sz))
  (hk : lkk ⟨tm, bx, ks⟩ k = some c) (hce : c.e = e) (hcz : c.sz = sz) (hlh : lo ≤ hi) (hhi : hi ≤ c.n) (hcs : a1e (lo * sz) (List.replicate ((hi - lo) * sz) .hole) c.cs = cs)
  (h : Ops P C nt Q all rest ⟨a0l [k] [] tm, a0i [k] [] bx, (k, some { c with cs := cs }) :: ks⟩) : Ops P C nt Q all (o :: rest) ⟨tm, bx, ks⟩ := a3u hg (b9T hT ho hd ht he hl0 hx hk hce hcz hlh hhi) (by subst hcs; exact h)
theorem c0l (hT : TTOk P T) {t e k i j hi sz by_ m : Nat} {zc : List CV} {c : KC} {cs : List DV} (hg : o.guard = none) (hd : o.dst = some d) (ho : o.op = .call { callee := .builtin .append, args := #[x, y], argTypes := #[t, t] }) (hnt : Nat.blt d nt = true) (ht : look T.sl t = some e) (he : look T.el e = some (sz, by_, zc)) (hx : Ev P C nt ⟨tm, bx, ks⟩ x (.ksl k 0 i sz)) (hy : Ev P C nt ⟨tm, bx, ks⟩ y (.ksl k j hi sz))
  (hk : lkk ⟨tm, bx, ks⟩ k = some c) (hce : c.e = e) (hcz : c.sz = sz) (hhi : hi = c.n) (hij : i ≤ j) (hj : j ≤ hi) (hm : i + (c.n - j) = m) (hcs : c.cs.take (i * sz) ++ (c.cs.drop (j * sz) ++ List.replicate ((j - i) * sz) .hole) = cs)
  (h : Ops P C nt Q all rest ⟨(d, .ksl k 0 m sz) :: a0l [k] [] tm, a0i [k] [] bx, (k, some { c with cs := cs }) :: ks⟩) : Ops P C nt Q all (o :: rest) ⟨tm, bx, ks⟩ := a3u hg (c2H hT ho hd hnt ht he hx hy hk hce hcz hhi hij hj) (by subst hcs; subst hm; exact h)
theorem c1r {f : FuncId} {xs : List Operand} {ats : Array TypeId} {us : List SV} {k : Nat} {c c0 c1 : KC} (hg : o.guard = none) (hd : o.dst = some d) (ho : o.op = .call { callee := .value (.func f), args := (x :: xs).toArray, argTypes := ats }) (hn : Nat.blt d nt = true)
  (hc : ∀ (args : Array Value) (w : World), (callFunc f args).run P w = .ok (.enter f args) w) (hf : MFn P f us c0 c1) (hx : Ev P C nt ⟨tm, bx, ks⟩ x (.one (.key k))) (hk : lkk ⟨tm, bx, ks⟩ k = some c) (hc0 : (⟨false, c.e, c.sz, c.n, c.cs⟩ : KC) = c0) (hc1 : c1.h = false) (ha : a6R P C nt ⟨tm, bx, ks⟩ xs us)
  (h : Ops P C nt Q all rest ⟨(d, .one (.key k)) :: a0l [k] [k] tm, a0i [k] [k] bx, (k, some c1) :: ks⟩) : Ops P C nt Q all (o :: rest) ⟨tm, bx, ks⟩ := a3u hg (c3m ho hd hn hc hf hx hk hc0 hc1 ha) h
end
end
section
variable {P : Program} {C : Ctx} {nt : Nat} {o : Oper} {x y : Operand} {T : TT} {Q : Exit → St → Prop} {all : Array Oper} {tm : List (Nat × SV)} {bx : List (Nat × TypeId × List CV)} {ks : List (Nat × Option KC)} {oB oK nK : List Nat} {hd' : Nat → Bool} {listed : Array Bool} {fuel : Nat}
theorem b2f (i : Nat) (hT : TTOk P T) {t e sz by_ d k n : Nat} {zc cs : List CV} {ds : List DV} {js : List Nat} {ps : List (Nat × Operand)} (hi : all[i]? = some o) (hg : o.guard = none) (hd : o.dst = some d) (ho : o.op = .buildSlice t n ps.toArray) (hn : Nat.blt d nt = true) (ht : look T.sl t = some e) (he : look T.el e = some (sz, by_, zc)) (hl0 : zc.length = sz) (hsz : Nat.blt 0 sz = true) (hsm : Nat.ble (n * sz) 16777216 = true) (hps : ps.length = n) (hn0 : Nat.blt 0 n = true)
  (hx : a5l P C nt ⟨tm, bx, ks⟩ sz 0 ps cs) (how : a3A ⟨tm, bx, ks⟩ cs ds js) (hnj : js.Nodup) (hkj : k ∉ js) (hcl : cs.length = n * sz) (hk : lkk ⟨tm, bx, ks⟩ k = none)
  (hb : (oB.all fun i => (look bx i).isSome) = true) (hk' : (oK.all fun k => (lkk ⟨tm, bx, ks⟩ k).isSome) = true) (hn' : (nK.all fun k => (lkk ⟨tm, bx, ks⟩ k).isSome) = true)
  (h : OpsN P C nt Q all oB oK nK hd' (listed.setIfInBounds i true) fuel ⟨(d, .one (.key k)) :: a0l (k :: js) (k :: js) tm, a0i (k :: js) (k :: js) bx, (k, some ⟨false, e, sz, n, ds⟩) :: ((js.map fun j => (j, none)) ++ (k, some ⟨false, e, sz, 0, []⟩) :: ks)⟩) : OpsNJ P C nt Q all oB oK nK hd' listed fuel i ⟨tm, bx, ks⟩ :=
 b4v i hi hg (b1m hT ho hd hn ht he hl0 hsz hsm hps hn0 hx how hnj hkj hcl hk) hb hk' hn' fun σ' e => by rw [e]; exact h
end
theorem c1L {P : Program} {C : Ctx} {nt : Nat} {σ σ' : St} {x y : Code} {Q1 Q2 : Exit → St → Prop} (h1 : Ok P C nt (a5t (fun σ1 => Weak P C nt σ1 σ') Q2) x σ) (h2 : Ok P C nt Q1 y σ') : Ok P C nt (a5t (Ok P C nt Q1 y) Q2) x σ := Ok.mk fun L a w hr =>
 wp_mono (h1.run L a w hr) (b6g fun e σ1 h => by
  cases e with
  | normal => exact a0h h h2
  | _ => exact h)
end Go.Proofs.YtjkpoekgnmgofaaGreat

