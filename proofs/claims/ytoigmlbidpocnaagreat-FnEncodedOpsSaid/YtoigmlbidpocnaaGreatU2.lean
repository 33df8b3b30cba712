/-
  The rules of a small program logic over abstract states: no program is in sight but in the table of its types. Conditions: none.
-/
import Derived.BigQuiet
import Derived.Deep.QuietTactic
import Derived.Great.BuildSlice
import Derived.Ground.NamesProg
import Derived.Laws.CopyRow
import Derived.Laws.Externs
import Derived.Lib.AppendStr
import Derived.Lib.AppendZerosOnto
import Derived.Lib.Bytealg
import Derived.Lib.ConvBytes
import Derived.Lib.Overlaps
import Derived.Lib.OwnBridge
import Derived.Lib.Slices
import Derived.Lib.SlicesCompact
import Derived.Lib.Strings
import Derived.Lib.Walk
import Derived.Outline
import Derived.Shelf.RegionOpenPlain
import Derived.Shelf.Slices.CompactS
import Derived.Shelf.Slices.In.SortNone
import Derived.Shelf.Sort.Plain
import Derived.Shelf.Spec.SlicesInsert
import Derived.Sort.OwnSorted
import Derived.Sort.Walk0
import Derived.Test.YtoigmlbidpocnaaGreatProg
import Derived.WalkKit
import Derived.WalkLawsBesides
import Derived.Test.YtoigmlbidpocnaaGreatU1
namespace Go.Proofs.YtoigmlbidpocnaaGreat
open Go.RowKit
set_option linter.unusedVariables false
set_option linter.unusedSimpArgs false

section
variable {P : Program} {C : Ctx} {nt : Nat} {σ : St} {L : Lyt} {a : Act} {w : World} {o : Oper} {x y : Operand} {T : TT}
theorem mut_key {k : Nat} {js : List Nat} {c' : KC} {same : Bool} : lkk (σ.mut k js same c') k = some c' := by
 simp only [lkk, St.mut, List.cons_append, look_cons, if_true]; rfl
structure AppF (L L' : Lyt) (w w' : World) (k : Nat) (js : List Nat) : Prop where
 chg : Chg (L.fp k) w w'
 fp : ∀ i, i ≠ k → L'.fp i = L.fp i
 bb : L'.bb = L.bb
 new : ∀ b ∈ L'.fp k, b ∈ L.fp k ∨ (∃ j ∈ js, b ∈ L.fp j) ∨ w.heap.size ≤ b
theorem app_finX {d k m : Nat} {c : KC} {js : List Nat} {us : List Value} {ds : List DV} {f2 : List Nat} {K : Act → World → Prop} {A' : Option Addr} {c' : Nat} {w' : World} {vs : List Value} {f : List Nat}
  (hd : o.dst = some d) (hnt : d < nt) (hr : Rel P C nt L σ a w) (hk : lkk σ k = some c) (hE' : c.e < 1000000) (hkj : k ∉ js) (hj : ∀ j ∈ js, (lkk σ j).isSome = true) (hm' : ds.length = m * c.sz) (ho2 : OwnL w ds us f2) (hf2 : ∀ b ∈ f2, ∃ j ∈ js, b ∈ L.fp j) (hn2 : f2.Nodup)
  (e3 : L.fp k = (L.rv k).ownBlock.toList ++ f) (h5 : 0 < c.sz) (h6 : c.cs.length = c.n * c.sz) (h8 : OwnL w c.cs vs f)
  (h9 : w'.ownsRow 0 c.e c.sz (.slice A' (c.n + m) c') (c.n + m) (vs ++ us)) (hchg : Chg (L.rv k).ownBlock.toList w w') (hblk : (L.rv k).ownBlock = (Value.slice A' (c.n + m) c').ownBlock ∨ (Value.slice A' (c.n + m) c').ownBlock = some w.heap.size)
  (hK : ∀ L' a' w', Rel P C nt L' ((σ.mut k js false ⟨false, c.e, c.sz, c.n + m, c.cs ++ ds⟩).put d (.one (.key k))) a' w' → AppF L L' w w' k js → K a' w') : K (a.put o.dst (.slice A' (c.n + m) c')) w' := by
 have hkn := hr.kn k c hk
 rw [e3] at hkn
 obtain ⟨n1, n2, n3⟩ := List.nodup_append.1 hkn
 have hdis : ∀ b ∈ f2, b ∉ L.fp k := fun b hb' hm => by
  obtain ⟨j, hj', hb''⟩ := hf2 b hb'
  obtain ⟨q, hq⟩ := Option.isSome_iff_exists.1 (hj j hj')
  exact hr.kk j k q c hq hk (fun e => hkj (by rw [← e]; exact hj')) b hb'' hm
 have hlt1 : ∀ b ∈ f, b < w.heap.size := ownL_lt _ _ _ h8
 have hlt2 : ∀ b ∈ f2, b < w.heap.size := ownL_lt _ _ _ ho2
 have k1 : OwnL w' c.cs vs f := ownL_keep _ _ _ h8 (fun b hb' => hchg.block b (hlt1 b hb') (fun hm => n3 b hm b hb' rfl))
 have k2 : OwnL w' ds us f2 := ownL_keep _ _ _ ho2 (fun b hb' => hchg.block b (hlt2 b hb') (fun hm => hdis b hb' (by rw [e3]; simp [hm])))
 have hown' : Own w' (.sl c.e c.sz (c.n + m) (c.cs ++ ds)) (.slice A' (c.n + m) c') ((Value.slice A' (c.n + m) c').ownBlock.toList ++ (f ++ f2)) := by
  unfold Own
  exact ⟨vs ++ us, f ++ f2, rfl, h5, by rw [List.length_append, h6, hm', Nat.add_mul], rowE_of hE' h9, ownL_append _ _ _ _ _ _ k1 k2⟩
 have hnod : (f ++ f2).Nodup := List.nodup_append.2 ⟨n2, hn2, fun x hx' y hy' e' => hdis y hy' (by rw [e3, ← e']; simp [hx'])⟩
 have hsub : ∀ b ∈ (Value.slice A' (c.n + m) c').ownBlock.toList ++ (f ++ f2), b ∈ L.fp k ∨ (∃ j ∈ js, b ∈ L.fp j) ∨ w.heap.size ≤ b := fun b hb' => by
   rcases List.mem_append.1 hb' with hb' | hb'
   ·rcases hblk with hbl | hbl
    ·rw [← hbl] at hb'; exact .inl (by rw [e3]; simp [hb'])
    ·rw [hbl] at hb'
     simp only [Option.toList_some, List.mem_singleton] at hb'
     exact .inr (.inr (by omega))
   ·rcases List.mem_append.1 hb' with hb' | hb'
    ·exact .inl (by rw [e3]; simp [hb'])
    ·obtain ⟨j, hj', hb''⟩ := hf2 b hb'
     exact .inr (.inl ⟨j, hj', hb''⟩)
 have hset := hr.setkey (k := k) (c := c) (c' := ⟨false, c.e, c.sz, c.n + m, c.cs ++ ds⟩) (js := js) (same := false) hk hkj (hchg.mono (fun b hb' => by rw [e3]; simp [hb'])) hown'
  (by
   rcases hblk with hb' | hb'
   ·rw [← hb']
    refine List.nodup_append.2 ⟨n1, hnod, fun x hx' y hy' e' => ?_⟩
    subst e'
    rcases List.mem_append.1 hy' with hy' | hy'
    ·exact n3 x hx' x hy' rfl
    ·exact hdis x hy' (by rw [e3]; simp [hx'])
   ·rw [hb']
    refine List.nodup_append.2 ⟨by simp, hnod, fun x hx' y hy' e' => ?_⟩
    subst e'
    simp only [Option.toList_some, List.mem_singleton] at hx'
    subst hx'
    rcases List.mem_append.1 hy' with hy' | hy'
    ·exact absurd (hlt1 _ hy') (by omega)
    ·exact absurd (hlt2 _ hy') (by omega))
  hsub hj (by simp) (by simp)
 refine hK { L with fp := fun i => if i = k then (Value.slice A' (c.n + m) c').ownBlock.toList ++ (f ++ f2) else L.fp i, rv := fun i => if i = k then .slice A' (c.n + m) c' else L.rv i } _ _ ?_ ?_
 ·rw [hd]
  exact hset.put (v := .one (.key k)) (r := .slice A' (c.n + m) c') hnt (by simp [SVr, CVr]) (by simp [SV.keys, CV.keys, mut_key]) (by simp [SV.boxes])
 ·exact ⟨hchg.mono (fun b hb' => by rw [e3]; simp [hb']), fun i hi => if_neg hi, rfl, by simpa using hsub⟩
theorem app_fin {d k m : Nat} {c : KC} {js : List Nat} {us : List Value} {ds : List DV} {f2 : List Nat} {K : Act → World → Prop} {A' : Option Addr} {c' : Nat} {w' : World} {vs : List Value} {f : List Nat}
  (hd : o.dst = some d) (hnt : d < nt) (hr : Rel P C nt L σ a w) (hk : lkk σ k = some c) (hE' : c.e < 1000000) (hkj : k ∉ js) (hj : ∀ j ∈ js, (lkk σ j).isSome = true) (hm' : ds.length = m * c.sz) (ho2 : OwnL w ds us f2) (hf2 : ∀ b ∈ f2, ∃ j ∈ js, b ∈ L.fp j) (hn2 : f2.Nodup)
  (e3 : L.fp k = (L.rv k).ownBlock.toList ++ f) (h5 : 0 < c.sz) (h6 : c.cs.length = c.n * c.sz) (h8 : OwnL w c.cs vs f)
  (h9 : w'.ownsRow 0 c.e c.sz (.slice A' (c.n + m) c') (c.n + m) (vs ++ us)) (hchg : Chg (L.rv k).ownBlock.toList w w') (hblk : (L.rv k).ownBlock = (Value.slice A' (c.n + m) c').ownBlock ∨ (Value.slice A' (c.n + m) c').ownBlock = some w.heap.size)
  (hK : ∀ L' a' w', Rel P C nt L' ((σ.mut k js false ⟨false, c.e, c.sz, c.n + m, c.cs ++ ds⟩).put d (.one (.key k))) a' w' → K a' w') : K (a.put o.dst (.slice A' (c.n + m) c')) w' :=
 app_finX hd hnt hr hk hE' hkj hj hm' ho2 hf2 hn2 e3 h5 h6 h8 h9 hchg hblk (fun L' a' w' h _ => hK L' a' w' h)
theorem app_wpX (hT : TTOk P T) {t e sz by_ d k m cap : Nat} {zc : List CV} {c : KC} {js : List Nat} {A : Option Addr} {us : List Value} {ds : List DV} {f2 : List Nat} {K : Act → World → Prop} {Q : Exit → Act → World → Prop}
  (ho : o.op = .call { callee := .builtin .append, args := #[x, y], argTypes := #[t, t] }) (hd : o.dst = some d) (hnt : d < nt) (ht : look T.sl t = some e) (he : look T.el e = some (sz, by_, zc)) (hl0 : zc.length = sz)
  (hr : Rel P C nt L σ a w) (hk : lkk σ k = some c) (hce : c.e = e) (hcs : c.sz = sz) (hx : a.eval x = L.rv k) (hy : a.eval y = .slice A m cap) (hkj : k ∉ js) (hj : ∀ j ∈ js, (lkk σ j).isSome = true)
  (hsrc : RowRd w A m sz us) (ho2 : OwnL w ds us f2) (hf2 : ∀ b ∈ f2, ∃ j ∈ js, b ∈ L.fp j) (hn2 : f2.Nodup) (h63 : c.n + m ≤ maxLen) (hb : (c.n + m) * by_ ≤ 140737488355328)
  (hK : ∀ L' a' w', Rel P C nt L' ((σ.mut k js false ⟨false, e, sz, c.n + m, c.cs ++ ds⟩).put d (.one (.key k))) a' w' → AppF L L' w w' k js → K a' w') : o.wp P a w K Q := by
 subst hce; subst hcs
 obtain ⟨inf, z, g1, g2, g3, g4, g5⟩ := hT.el c.e c.sz by_ zc he
 have hown := (hr.ks k c hk).1
 simp only [Own] at hown
 obtain ⟨vs, f, e3, h5, h6, h7, h8⟩ := hown
 have hE' : c.e < 1000000 := hT.lt _ _ he
 have h7 := h7.1 hE'
 have hm' : ds.length = m * c.sz := by rw [← ownL_len _ _ _ ho2, hsrc.1]
 have hone : ∀ u ∈ us, u.oneCell' = true := layL_one (ok := fun _ => True) _ _ (ownL_lay _ _ _ ho2 (fun _ _ => trivial))
 have hzs : z.cells.size = c.sz := by
  have := zL_len g5
  simp only [Array.length_toList] at this
  rw [this, hl0]
 refine wp_app w x y t ho c.e z c.sz by_ (hT.sl t c.e ht) (by rw [g1]; simp [g2, g3, g4]) hzs h5 (L.rv k) c.n vs hx h7 A m cap us hy hsrc hone h63 hb ?_
 intro A' c' w' h9 hchg hblk
 exact app_finX hd hnt hr hk hE' hkj hj hm' ho2 hf2 hn2 e3 h5 h6 h8 h9 hchg hblk hK
theorem app_wp (hT : TTOk P T) {t e sz by_ d k m cap : Nat} {zc : List CV} {c : KC} {js : List Nat} {A : Option Addr} {us : List Value} {ds : List DV} {f2 : List Nat} {K : Act → World → Prop} {Q : Exit → Act → World → Prop}
  (ho : o.op = .call { callee := .builtin .append, args := #[x, y], argTypes := #[t, t] }) (hd : o.dst = some d) (hnt : d < nt) (ht : look T.sl t = some e) (he : look T.el e = some (sz, by_, zc)) (hl0 : zc.length = sz)
  (hr : Rel P C nt L σ a w) (hk : lkk σ k = some c) (hce : c.e = e) (hcs : c.sz = sz) (hx : a.eval x = L.rv k) (hy : a.eval y = .slice A m cap) (hkj : k ∉ js) (hj : ∀ j ∈ js, (lkk σ j).isSome = true)
  (hsrc : RowRd w A m sz us) (ho2 : OwnL w ds us f2) (hf2 : ∀ b ∈ f2, ∃ j ∈ js, b ∈ L.fp j) (hn2 : f2.Nodup) (h63 : c.n + m ≤ maxLen) (hb : (c.n + m) * by_ ≤ 140737488355328)
  (hK : ∀ L' a' w', Rel P C nt L' ((σ.mut k js false ⟨false, e, sz, c.n + m, c.cs ++ ds⟩).put d (.one (.key k))) a' w' → K a' w') : o.wp P a w K Q :=
 app_wpX hT ho hd hnt ht he hl0 hr hk hce hcs hx hy hkj hj hsrc ho2 hf2 hn2 h63 hb (fun L' a' w' h _ => hK L' a' w' h)
theorem own_plainL {ok : Nat → Prop} {w w' : World} : ∀ {ds : List DV} {vs : List Value}, ds.all DV.plain = true → LayL ok w ds vs → OwnL w' ds vs []
 | [], _, _, h => by simp only [LayL] at h; subst h; simp [OwnL]
 | d :: ds, _, hp, h => by
  simp only [List.all_cons, Bool.and_eq_true] at hp
  simp only [LayL] at h
  obtain ⟨v, vs', rfl, h1, h2⟩ := h
  simp only [OwnL]
  exact ⟨v, vs', [], [], rfl, rfl, lay_plain hp.1 h1, own_plainL hp.2 h2⟩
theorem lay_row {ok : Nat → Prop} {w : World} {e sz n : Nat} {cs : List DV} {v : Value} (h : Lay ok w (.sl e sz n cs) v) : ∃ A c vs, v = .slice A n c ∧ RowRd w A n sz vs ∧ LayL ok w cs vs := by
 simp only [Lay] at h
 obtain ⟨A, c, vs, e1, h2, h3, h4, h5, h6, h7⟩ := h
 refine ⟨A, c, vs, e1, ⟨by rw [layL_len _ _ h6, h5], fun hn => ?_⟩, h6⟩
 obtain ⟨b, off, k1, _, k3⟩ := h7 hn
 exact ⟨b, off, k1, k3⟩
theorem plain_flat {α : Type} {enc : α → List DV} (h : ∀ x, (enc x).all DV.plain = true) : ∀ xs : List α, (xs.flatMap enc).all DV.plain = true
 | [] => rfl
 | x :: xs => by rw [List.flatMap_cons, List.all_append, h, plain_flat h xs]; rfl
theorem ef_appV (hT : TTOk P T) {t e sz by_ d k m : Nat} {zc : List CV} {c : KC} {J : List Nat} {e2 : Nat} {ds : List DV} (ho : o.op = .call { callee := .builtin .append, args := #[x, y], argTypes := #[t, t] }) (hd : o.dst = some d) (hnt : Nat.blt d nt = true) (ht : look T.sl t = some e) (he : look T.el e = some (sz, by_, zc)) (hl0 : zc.length = sz)
  (hx : Ev P C nt σ x (.one (.key k))) (hk : lkk σ k = some c) (hce : c.e = e) (hcs : c.sz = sz) (hy : Ev P C nt σ y (.one (.dv J (.sl e2 sz m ds)))) (hp : ds.all DV.plain = true) (hb : (c.n + m) * by_ ≤ 140737488355328) (h63 : c.n + m ≤ 9223372036854775807) :
  Ef P C nt o σ (fun σ' => σ' = (σ.mut k [] false ⟨false, e, sz, c.n + m, c.cs ++ ds⟩).put d (.one (.key k))) := Ef.mk fun L a w hr K Q hK => by
 have h1 := hx.run L a w hr
 have h2 := hy.run L a w hr
 simp only [SVr, CVr] at h1 h2
 obtain ⟨A, cap, vs, e1, hrow, hlay⟩ := lay_row h2
 exact app_wp hT ho hd (by simpa [Nat.blt_eq] using hnt) ht he hl0 hr hk hce hcs h1 e1 (by simp) (by simp) hrow (own_plainL hp hlay) (by simp) (by simp) (by simpa [maxLen] using h63) hb (fun L' a' w' h => hK L' _ _ _ rfl h)
theorem ef_appK (hT : TTOk P T) {t e sz by_ d k j : Nat} {zc : List CV} {c c2 : KC} (ho : o.op = .call { callee := .builtin .append, args := #[x, y], argTypes := #[t, t] }) (hd : o.dst = some d) (hnt : Nat.blt d nt = true) (ht : look T.sl t = some e) (he : look T.el e = some (sz, by_, zc)) (hl0 : zc.length = sz)
  (hx : Ev P C nt σ x (.one (.key k))) (hk : lkk σ k = some c) (hce : c.e = e) (hcs : c.sz = sz) (hy : Ev P C nt σ y (.one (.key j))) (hj : lkk σ j = some c2) (hcs2 : c2.sz = sz) (hkj : k ∉ [j]) (hb : (c.n + c2.n) * by_ ≤ 140737488355328) (h63 : c.n + c2.n ≤ 9223372036854775807) :
  Ef P C nt o σ (fun σ' => σ' = (σ.mut k [j] false ⟨false, e, sz, c.n + c2.n, c.cs ++ c2.cs⟩).put d (.one (.key k))) := Ef.mk fun L a w hr K Q hK => by
 have h1 := hx.run L a w hr
 have h2 := hy.run L a w hr
 simp only [SVr, CVr] at h1 h2
 have hown := (hr.ks j c2 hj).1
 have hlay := own_lay (ok := fun _ => True) _ _ _ hown (fun _ _ => trivial)
 rw [hcs2] at hlay
 simp only [Own] at hown
 obtain ⟨vs, f, e3, h5, h6, h7, h8⟩ := hown
 obtain ⟨A, cap, vs', e1, hrow, hlay'⟩ := lay_row hlay
 have hvs : vs' = vs := by
  have h7' := rowE_open h7
  rcases h7'.2 with ⟨g1, g2⟩ | ⟨g, cap2, cur, t', fz', g1, g2, g3, g4, g5, g6⟩
  ·have l1 : vs.length = 0 := by rw [h7'.1, g2]; simp
   have l2 : vs'.length = 0 := by rw [hrow.1, g2]; simp
   rw [List.eq_nil_of_length_eq_zero l1, List.eq_nil_of_length_eq_zero l2]
  ·rw [e1] at g1
   simp only [Value.slice.injEq, true_and] at g1
   obtain ⟨rfl, rfl⟩ := g1
   rcases Nat.eq_zero_or_pos c2.n with h0 | h0
   ·have l1 : vs.length = 0 := by rw [h7'.1, h0]; simp
    have l2 : vs'.length = 0 := by rw [hrow.1, h0]; simp
    rw [List.eq_nil_of_length_eq_zero l1, List.eq_nil_of_length_eq_zero l2]
   ·obtain ⟨b, off, k1, k2⟩ := hrow.2 h0
    simp only [Option.some.injEq, Addr.mk.injEq, and_true] at k1
    obtain ⟨rfl, rfl⟩ := k1
    apply List.ext_getElem (by rw [hrow.1, h7'.1, hcs2])
    intro i i1 i2
    have q1 := k2 i _ (List.getElem?_eq_getElem i1)
    rw [Nat.zero_add, cell_of_row w _ i cur t' fz' g2] at q1
    have q3 : i < c2.n * c2.sz := by rw [← h7'.1]; exact i2
    have q2 : vs[i]? = cur[i]? := by rw [← g6, List.getElem?_take, if_pos q3, Array.getElem?_toList]
    rw [List.getElem?_eq_getElem i2] at q2
    rw [← q2] at q1
    exact (Option.some.inj q1).symm
 subst hvs
 have hnf : f.Nodup := by
  have := hr.kn j c2 hj
  rw [e3] at this
  exact (List.nodup_append.1 this).2.1
 exact app_wp hT ho hd (by simpa [Nat.blt_eq] using hnt) ht he hl0 hr hk hce hcs h1 (by rw [h2]; exact e1) hkj (by simp [hj]) hrow h8 (fun b hb' => ⟨j, by simp, by rw [e3]; simp [hb']⟩) hnf (by simpa [maxLen] using h63) hb (fun L' a' w' h => hK L' _ _ _ rfl h)
theorem Rel.also (h : Rel P C nt L σ a w) {d : Nat} {v : SV} (hv : SVr P C L w v (a.tmps.getD d undef)) (hk : ∀ k ∈ v.keys, (lkk σ k).isSome = true) (hb : ∀ b ∈ v.boxes, (look σ.bx b).isSome = true) : Rel P C nt L (σ.put d v) a w :=
 { h with
  tm := fun i u hu => by
   simp only [St.put, look_cons] at hu
   split at hu
   ·rename_i e
    simp only [Option.some.injEq] at hu
    rw [e, ← hu]; exact hv
   ·exact h.tm i u hu
  bx := h.bx
  ks := h.ks
  b1 := h.b1
  k1 := h.k1
  kn := h.kn
  bb := h.bb
  bk := h.bk
  kk := h.kk
  lk := fun k hk' => by
   simp only [St.tk, St.put, List.flatMap_cons, List.append_assoc, List.mem_append] at hk'
   rcases hk' with hk' | hk'
   ·exact hk k hk'
   ·exact h.lk k (by simp only [St.tk, List.mem_append]; exact hk')
  lb := fun b hb' => by
   simp only [St.tb, St.put, List.flatMap_cons, List.mem_append] at hb'
   rcases hb' with hb' | hb'
   ·exact hb b hb'
   ·exact h.lb b hb' }
theorem Rel.alsoB (h : Rel P C nt L σ a w) {b t : Nat} {cs cs' : List CV} (hb : look σ.bx b = some (t, cs)) (hv : ∀ vs, CVL C L w cs vs → CVL C L w cs' vs) (hk : ∀ k ∈ cs'.flatMap CV.keys, (lkk σ k).isSome = true) : Rel P C nt L ⟨σ.tm, (b, t, cs') :: σ.bx, σ.ks⟩ a w :=
 have hx : ∀ i x, look ((b, t, cs') :: σ.bx) i = some x → ∃ y, look σ.bx i = some y := fun i x hx => by
  simp only [look_cons] at hx
  split at hx
  ·rename_i e; exact ⟨_, by rw [e]; exact hb⟩
  ·exact ⟨_, hx⟩
 { h with
  tm := h.tm
  bx := fun i t' cs'' hx => by
   simp only [look_cons] at hx
   split at hx
   ·rename_i e
    simp only [Option.some.injEq, Prod.mk.injEq] at hx
    obtain ⟨rfl, rfl⟩ := hx
    obtain ⟨vs, h1, h2⟩ := h.bx b _ _ hb
    exact ⟨vs, by rw [e]; exact h1, hv vs h2⟩
   ·exact h.bx i t' cs'' hx
  ks := h.ks
  b1 := fun i x h' => by obtain ⟨y, hy⟩ := hx i x h'; exact h.b1 i y hy
  k1 := h.k1
  kn := h.kn
  bb := fun i j x y h1 h2 => by
   obtain ⟨x', h1'⟩ := hx i x h1
   obtain ⟨y', h2'⟩ := hx j y h2
   exact h.bb i j x' y' h1' h2'
  bk := fun i k x c h' hc => by obtain ⟨y, hy⟩ := hx i x h'; exact h.bk i k y c hy hc
  kk := h.kk
  lk := fun k hm => by
   simp only [St.tk, List.flatMap_cons, List.mem_append] at hm
   rcases hm with hm | hm | hm
   ·exact h.lk k (by simp only [St.tk, List.mem_append]; exact .inl hm)
   ·exact hk k hm
   ·exact h.lk k (by simp only [St.tk, List.mem_append]; exact .inr hm)
  lb := fun b' hm => by
   have := h.lb b' hm
   simp only [look_cons]
   split
   ·rfl
   ·exact this }
theorem cvL_set {L : Lyt} {w : World} {c' : CV} : ∀ {cs : List CV} {vs : List Value} {i : Nat} {c : CV}, cs[i]? = some c → (∀ v, CVr C L w c v → CVr C L w c' v) → CVL C L w cs vs → CVL C L w (cs.set i c') vs
 | [], _, i, _, h, _, _ => by simp at h
 | x :: xs, _, 0, c, h, hc, ⟨v, vs', e, h1, h2⟩ => by
  simp only [List.getElem?_cons_zero, Option.some.injEq] at h
  subst h
  exact ⟨v, vs', e, hc v h1, h2⟩
 | x :: xs, _, i + 1, c, h, hc, ⟨v, vs', e, h1, h2⟩ => ⟨v, vs', e, h1, cvL_set (by simpa using h) hc h2⟩
theorem weak_nilB (k : Nat) {b i t e sz : Nat} {cs : List CV} (hb : look σ.bx b = some (t, cs)) (hi : cs[i]? = some .nil) (hk : lkk σ k = none) (hsz : Nat.blt 0 sz = true) (hl : ((cs.set i (.key k)).flatMap CV.keys).all (fun j => Nat.beq j k || (lkk σ j).isSome) = true) :
  Weak P C nt σ ⟨σ.tm, (b, t, cs.set i (.key k)) :: σ.bx, (k, some ⟨false, e, sz, 0, []⟩) :: σ.ks⟩ := Weak.mk fun L a w hr => by
 have hpos : 0 < sz := by simpa [Nat.blt_eq] using hsz
 have h1 := hr.newkey (k := k) (c := ⟨false, e, sz, 0, []⟩) (v := .slice none 0 0) (f := []) hk (own_nil w e sz hpos) rfl (by simp) (by simp) (by simp) (by simp)
 refine ⟨_, h1.alsoB (b := b) hb (fun vs hv => cvL_set hi (fun v hv => ?_) hv) (fun j hj => ?_)⟩
 ·simp only [CVr] at hv ⊢
  rw [hv]; simp
 ·have := List.all_eq_true.1 hl j hj
  simp only [Bool.or_eq_true] at this
  simp only [lkk, look_cons]
  split
  ·rfl
  ·rename_i e'
   rcases this with this | this
   ·exact absurd (Nat.eq_of_beq_eq_true this) e'
   ·exact this
theorem alloc_last (w : World) (o : Obj) : (w.alloc o).heap[w.heap.size]? = some o := heap_alloc_new w o
theorem foldl_set (off : Nat) : ∀ (us : List Value) (k : Nat) (cs : List Value), off + k + us.length ≤ cs.length → (us.zipIdx k).foldl (fun (acc : Array Value) (p : Value × Nat) => acc.setIfInBounds (off + p.2) p.1) cs.toArray = (setR (off + k) us cs).toArray
 | [], k, cs, _ => by simp [setR]
 | u :: us, k, cs, h => by
  simp only [List.length_cons] at h
  rw [List.zipIdx_cons, List.foldl_cons]
  have e : (cs.toArray.setIfInBounds (off + k) u) = (cs.set (off + k) u).toArray := by simp
  simp only [e]
  rw [foldl_set off us (k + 1) _ (by simp; omega)]
  congr 1
  have hlt : off + k < cs.length := by omega
  unfold setR
  rw [List.set_eq_take_append_cons_drop, if_pos hlt]
  have h1 : (cs.take (off + k)).length = off + k := by simp; omega
  have e1 : (cs.take (off + k) ++ u :: cs.drop (off + k + 1)).take (off + (k + 1)) = cs.take (off + k) ++ [u] := by
   rw [show off + (k + 1) = (cs.take (off + k)).length + 1 by omega, List.take_length_add_append]
   simp
  have e2 : (cs.take (off + k) ++ u :: cs.drop (off + k + 1)).drop (off + (k + 1) + us.length) = cs.drop (off + k + (us.length + 1)) := by
   rw [show off + (k + 1) + us.length = (cs.take (off + k)).length + (1 + us.length) by omega, ← List.drop_drop, List.drop_left, ← List.drop_drop]
   simp only [List.drop_succ_cons, List.drop_zero, List.drop_drop]
   congr 1; omega
  rw [e1, e2]
  simp
theorem fill_one {place : Nat → Option (Nat × Nat)} {i off sz : Nat} {v : Value} {us cs : List Value} {rest : List (Nat × Value)} (hp : place i = some (off, sz)) (hv : v.cells = us.toArray) (hl : us.length = sz) (hb : off + sz ≤ cs.length) :
  Instr.fill place cs.toArray ((i, v) :: rest) = Instr.fill place (setR off us cs).toArray rest := by
 have h2 := foldl_set off us 0 cs (by omega)
 simp only [Nat.add_zero] at h2
 have e2 : (us.toArray.zipIdx.foldl (fun (acc : Array Value) (p : Value × Nat) => acc.setIfInBounds (off + p.2) p.1) cs.toArray) = (setR off us cs).toArray := by
  rw [← h2]; simp
 conv => lhs; unfold Instr.fill
 simp only [hp, hv, List.size_toArray, hl, ne_eq, not_true_eq_false, decide_false, Bool.false_or, gt_iff_lt, decide_eq_true_eq, Bool.or_eq_true]
 rw [if_neg (by omega)]
 exact congrArg (fun z => Instr.fill place z rest) e2
theorem run_build1 {t e sz by_ : Nat} {zc : List CV} (hT : TTOk P T) (ht : look T.sl t = some e) (he : look T.el e = some (sz, by_, zc)) (hl0 : zc.length = sz) (hpos : 0 < sz) (hsm : sz ≤ 16777216) {v : Value} {us : List Value} (hv : v.cells = us.toArray) (hl : us.length = sz) :
  (Instr.buildSlice t 1 #[(0, v)]).run P w = .ok (.slice (some ⟨w.heap.size, 0, none⟩) 1 1) (w.alloc (.cells us.toArray e)) := by
 obtain ⟨inf, z, g1, g2, g3, g4, g5⟩ := hT.el e sz by_ zc he
 refine run_buildSlice w t e 1 _ us.toArray inf z (hT.sl t e ht) g1 g4 (by rw [g2]; omega) (by rw [g2]; omega) ?_
 rw [g2]
 have : ((Array.range (1 * sz)).map fun j => z.cells[j % z.cells.size]!) = (((List.range sz).map fun j => z.cells[j % z.cells.size]!)).toArray := by
  rw [Nat.one_mul]
  apply Array.ext'
  simp
 rw [this, fill_one (off := 0) (sz := sz) (by simp) hv hl (by simp)]
 have h2 : setR 0 us ((List.range sz).map fun j => z.cells[j % z.cells.size]!) = us := by
  unfold setR
  simp [hl]
 rw [h2]
 rfl
theorem run_build0 {t e sz by_ : Nat} {zc : List CV} (hT : TTOk P T) (ht : look T.sl t = some e) (he : look T.el e = some (sz, by_, zc)) :
  (Instr.buildSlice t 0 #[]).run P w = .ok (.slice (some ⟨w.heap.size, 0, none⟩) 0 0) (w.alloc (.cells #[] e)) := by
 obtain ⟨inf, z, g1, g2, g3, g4, g5⟩ := hT.el e sz by_ zc he
 have h0 : (Array.range 0) = #[] := rfl
 simp [Instr.buildSlice, run_underlying (hT.sl t e ht), sizeOf, typeInfo, g1, Instr.fill, newRow, h0]
theorem efg_build0 (hT : TTOk P T) {t e sz by_ d k : Nat} {zc : List CV} (ho : o.op = .buildSlice t 0 #[]) (hd : o.dst = some d) (hn : Nat.blt d nt = true) (ht : look T.sl t = some e) (he : look T.el e = some (sz, by_, zc)) (hsz : Nat.blt 0 sz = true) (hk : lkk σ k = none) :
  EfG P C nt o σ (fun σ' => σ' = { σ with ks := (k, some ⟨false, e, sz, 0, []⟩) :: σ.ks }.put d (.one (.key k))) := EfG.mk fun L a w hr K Q hK => by
 have hpos : 0 < sz := by simpa [Nat.blt_eq] using hsz
 have hchg : Chg [] w (w.alloc (.cells #[] e)) := (Chg.refl [] w).alloc _
 refine wp_new (v := .slice (some ⟨w.heap.size, 0, none⟩) 0 0) (w' := w.alloc (.cells #[] e)) ?_ ?_
 ·unfold execOp
  simp only [ho, List.map_toArray, List.map_nil, run_build0 (P := P) (w := w) hT ht he, Sem.run_bind, Result.andThen_ok, Sem.run_pure]
 ·have hb := hr.newkey' hchg (c := ⟨false, e, sz, 0, []⟩) (v := .slice (some ⟨w.heap.size, 0, none⟩) 0 0) (f := [w.heap.size]) hk
   (by
    unfold Own
    exact ⟨[], [], rfl, hpos, by simp, rowE_of (hT.lt e _ he) ⟨by simp, .inr ⟨w.heap.size, 0, #[], rfl, Nat.zero_le _, alloc_last w _, Nat.le_refl _, Nat.zero_le _, by simp, by simp⟩⟩, by simp [OwnL]⟩) rfl (by simp) (by simp)
  refine hK { L with fp := fun j => if j = k then [w.heap.size] else L.fp j, rv := fun j => if j = k then .slice (some ⟨w.heap.size, 0, none⟩) 0 0 else L.rv j } _ _ _ rfl (by rw [hd]; exact hb.put (v := .one (.key k)) (r := .slice (some ⟨w.heap.size, 0, none⟩) 0 0) (by simpa [Nat.blt_eq] using hn) (by simp [SVr, CVr]) (by simp [SV.keys, CV.keys, lkk, look_cons]) (by simp [SV.boxes])) ⟨hchg, fun i c hc => ?_, fun _ _ _ => rfl⟩
  have : i ≠ k := fun e => by rw [e, hk] at hc; cases hc
  simp [this]
theorem ef_build1 (hT : TTOk P T) {t e sz by_ d k : Nat} {zc : List CV} {v : SV} {p : Bool × List CV} {ds : List DV} {js : List Nat} (ho : o.op = .buildSlice t 1 #[(0, x)]) (hd : o.dst = some d) (hn : Nat.blt d nt = true) (ht : look T.sl t = some e) (he : look T.el e = some (sz, by_, zc)) (hl0 : zc.length = sz) (hsz : Nat.blt 0 sz = true) (hsm : Nat.ble sz 16777216 = true)
  (hx : Ev P C nt σ x v) (hp : v.part = some p) (hkv : svOk σ v = true) (how : OwCs σ p.2 ds js) (hnj : js.Nodup) (hkj : k ∉ js) (hl : p.2.length = sz) (hk : lkk σ k = none) :
  Ef P C nt o σ (fun σ' => σ' = (St.mut { σ with ks := (k, some ⟨false, e, sz, 0, []⟩) :: σ.ks } k js false ⟨false, e, sz, 1, ds⟩).put d (.one (.key k))) := Ef.mk fun L a w hr K Q hK => by
 have hpos : 0 < sz := by simpa [Nat.blt_eq] using hsz
 obtain ⟨us, h1, h2, h3⟩ := sv_cells hr hp hkv (hx.run L a w hr)
 have hus : us.length = sz := by rw [cvL_len h2]; exact hl
 obtain ⟨o1, o2, o3⟩ := owCs_own hr how h2
 have hchg : Chg [] w (w.alloc (.cells us.toArray e)) := (Chg.refl [] w).alloc _
 have hr1 := hr.newkey (k := k) (c := ⟨false, e, sz, 0, []⟩) (v := .slice none 0 0) (f := []) hk (own_nil w e sz hpos) rfl (by simp) (by simp) (by simp) (by simp)
 have hlj : ∀ j ∈ js, (lkk { σ with ks := (k, some ⟨false, e, sz, 0, []⟩) :: σ.ks } j).isSome = true := fun j hj => by
  have hjk : j ≠ k := fun e' => hkj (by rw [← e']; exact hj)
  have := o2 j hj
  simp only [lkk, look_cons, if_neg hjk] at this ⊢
  exact this
 have hlt : ∀ b ∈ js.flatMap L.fp, b < w.heap.size := ownL_lt _ _ _ o1
 have o1' : OwnL (w.alloc (.cells us.toArray e)) ds us (js.flatMap L.fp) := ownL_keep _ _ _ o1 (fun b hb => hchg.block b (hlt b hb) (by simp))
 have hset := hr1.setkey (k := k) (c := ⟨false, e, sz, 0, []⟩) (c' := ⟨false, e, sz, 1, ds⟩) (js := js) (same := false) (w' := w.alloc (.cells us.toArray e)) (v' := .slice (some ⟨w.heap.size, 0, none⟩) 1 1) (f' := w.heap.size :: js.flatMap L.fp)
  (by simp [lkk, look_cons]) hkj (by simpa using hchg)
  (by
   unfold Own
   refine ⟨us, js.flatMap L.fp, rfl, hpos, by rw [o3, hl, Nat.one_mul], rowE_of (hT.lt e _ he) ⟨by rw [hus, Nat.one_mul], .inr ⟨w.heap.size, 1, us.toArray, rfl, Nat.zero_le _, alloc_last w _, Nat.le_refl _, by simp [maxLen], by simp [hus], by rw [Nat.one_mul, ← hus]; simp⟩⟩, o1'⟩)
  (by
   rw [List.nodup_cons]
   exact ⟨fun hm => absurd (hlt _ hm) (by omega), nodup_flat hr hnj o2⟩)
  (fun b hb => by
   rcases List.mem_cons.1 hb with hb | hb
   ·exact .inr (.inr (by omega))
   ·obtain ⟨j, hj, hb'⟩ := List.mem_flatMap.1 hb
    have hjk : j ≠ k := fun e' => hkj (by rw [← e']; exact hj)
    exact .inr (.inl ⟨j, hj, by simpa [hjk] using hb'⟩)) hlj (by simp) (by simp)
 refine wp_new (v := .slice (some ⟨w.heap.size, 0, none⟩) 1 1) (w' := w.alloc (.cells us.toArray e)) ?_ ?_
 ·unfold execOp
  simp only [ho, List.map_toArray, List.map_cons, List.map_nil, run_build1 (P := P) (w := w) hT ht he hl0 hpos (by simpa [Nat.ble_eq] using hsm) h1 hus, Sem.run_bind, Result.andThen_ok, Sem.run_pure]
 ·rw [hd]
  exact hK _ _ _ _ rfl (hset.put (v := .one (.key k)) (r := .slice (some ⟨w.heap.size, 0, none⟩) 1 1) (by simpa [Nat.blt_eq] using hn) (by simp [SVr, CVr]) (by simp [SV.keys, CV.keys, mut_key]) (by simp [SV.boxes]))
/-! over states that are written out -/
section
variable {Q : Exit → St → Prop} {all : Array Oper} {rest : List Oper} {tm : List (Nat × SV)} {bx : List (Nat × TypeId × List CV)} {ks : List (Nat × Option KC)}
theorem o_appV (hT : TTOk P T) {t e sz by_ d k m : Nat} {zc : List CV} {c : KC} {J : List Nat} {e2 : Nat} {ds cs : List DV} (hg : o.guard = none) (hd : o.dst = some d) (ho : o.op = .call { callee := .builtin .append, args := #[x, y], argTypes := #[t, t] }) (hnt : Nat.blt d nt = true) (ht : look T.sl t = some e) (he : look T.el e = some (sz, by_, zc)) (hl0 : zc.length = sz)
  (hx : Ev P C nt ⟨tm, bx, ks⟩ x (.one (.key k))) (hk : lkk ⟨tm, bx, ks⟩ k = some c) (hce : c.e = e) (hcs : c.sz = sz) (hy : Ev P C nt ⟨tm, bx, ks⟩ y (.one (.dv J (.sl e2 sz m ds)))) (hp : ds.all DV.plain = true) (hb : (c.n + m) * by_ ≤ 140737488355328) (h63 : c.n + m ≤ 9223372036854775807) {n : Nat} (hn : c.n + m = n) (hcc : c.cs ++ ds = cs)
  (h : Ops P C nt Q all rest ⟨(d, .one (.key k)) :: killT [k] [k] tm, killB [k] [k] bx, (k, some ⟨false, e, sz, n, cs⟩) :: ks⟩) : Ops P C nt Q all (o :: rest) ⟨tm, bx, ks⟩ :=
 ops_ef1 hg (ef_appV hT ho hd hnt ht he hl0 hx hk hce hcs hy hp hb h63) (by subst hn; subst hcc; exact h)
theorem o_appK (hT : TTOk P T) {t e sz by_ d k j : Nat} {zc : List CV} {c c2 : KC} {cs : List DV} (hg : o.guard = none) (hd : o.dst = some d) (ho : o.op = .call { callee := .builtin .append, args := #[x, y], argTypes := #[t, t] }) (hnt : Nat.blt d nt = true) (ht : look T.sl t = some e) (he : look T.el e = some (sz, by_, zc)) (hl0 : zc.length = sz)
  (hx : Ev P C nt ⟨tm, bx, ks⟩ x (.one (.key k))) (hk : lkk ⟨tm, bx, ks⟩ k = some c) (hce : c.e = e) (hcs : c.sz = sz) (hy : Ev P C nt ⟨tm, bx, ks⟩ y (.one (.key j))) (hj : lkk ⟨tm, bx, ks⟩ j = some c2) (hcs2 : c2.sz = sz) (hkj : k ∉ [j]) (hb : (c.n + c2.n) * by_ ≤ 140737488355328) (h63 : c.n + c2.n ≤ 9223372036854775807) {n : Nat} (hn : c.n + c2.n = n) (hcc : c.cs ++ c2.cs = cs)
  (h : Ops P C nt Q all rest ⟨(d, .one (.key k)) :: killT [k, j] [k, j] tm, killB [k, j] [k, j] bx, (k, some ⟨false, e, sz, n, cs⟩) :: (j, none) :: ks⟩) : Ops P C nt Q all (o :: rest) ⟨tm, bx, ks⟩ :=
 ops_ef1 hg (ef_appK hT ho hd hnt ht he hl0 hx hk hce hcs hy hj hcs2 hkj hb h63) (by subst hn; subst hcc; exact h)
theorem o_build0 (hT : TTOk P T) {t e sz by_ d k : Nat} {zc : List CV} (hg : o.guard = none) (hd : o.dst = some d) (ho : o.op = .buildSlice t 0 #[]) (hn : Nat.blt d nt = true) (ht : look T.sl t = some e) (he : look T.el e = some (sz, by_, zc)) (hsz : Nat.blt 0 sz = true) (hk : lkk ⟨tm, bx, ks⟩ k = none)
  (h : Ops P C nt Q all rest ⟨(d, .one (.key k)) :: tm, bx, (k, some ⟨false, e, sz, 0, []⟩) :: ks⟩) : Ops P C nt Q all (o :: rest) ⟨tm, bx, ks⟩ := ops_ef1 hg (efg_build0 hT ho hd hn ht he hsz hk).ef h
theorem o_build1 (hT : TTOk P T) {t e sz by_ d k : Nat} {zc : List CV} {v : SV} {p : Bool × List CV} {ds : List DV} {js : List Nat} (hg : o.guard = none) (hd : o.dst = some d) (ho : o.op = .buildSlice t 1 #[(0, x)]) (hn : Nat.blt d nt = true) (ht : look T.sl t = some e) (he : look T.el e = some (sz, by_, zc)) (hl0 : zc.length = sz) (hsz : Nat.blt 0 sz = true) (hsm : Nat.ble sz 16777216 = true)
  (hx : Ev P C nt ⟨tm, bx, ks⟩ x v) (hp : v.part = some p) (hkv : svOk ⟨tm, bx, ks⟩ v = true) (how : OwCs ⟨tm, bx, ks⟩ p.2 ds js) (hnj : js.Nodup) (hkj : k ∉ js) (hl : p.2.length = sz) (hk : lkk ⟨tm, bx, ks⟩ k = none)
  (h : Ops P C nt Q all rest ⟨(d, .one (.key k)) :: killT (k :: js) (k :: js) tm, killB (k :: js) (k :: js) bx, (k, some ⟨false, e, sz, 1, ds⟩) :: ((js.map fun j => (j, none)) ++ (k, some ⟨false, e, sz, 0, []⟩) :: ks)⟩) : Ops P C nt Q all (o :: rest) ⟨tm, bx, ks⟩ :=
 ops_ef1 hg (ef_build1 hT ho hd hn ht he hl0 hsz hsm hx hp hkv how hnj hkj hl hk) h
end
end
end Go.Proofs.YtoigmlbidpocnaaGreat

namespace Go.Proofs.YtoigmlbidpocnaaGreat
open Go.RowKit
set_option linter.unusedVariables false
set_option linter.unusedSimpArgs false

def bCheck (P : Program) (T : List (Nat × List (Nat × Nat))) : Bool := T.all fun p => match P.underlying p.1 with
 | some (.struct fs) => (fs.toList.map fun f => (f.offset, (P.info? f.type).map (·.size))) == p.2.map fun q => (q.1, some q.2)
 | _ => false
structure BOk (P : Program) (T : List (Nat × List (Nat × Nat))) : Prop where
 bs : ∀ t pl, look T t = some pl → ∃ fs, P.underlying t = some (.struct fs) ∧ (fs.toList.map fun f => (f.offset, (P.info? f.type).map (·.size))) = pl.map fun q => (q.1, some q.2)
theorem bOk {P : Program} {T : List (Nat × List (Nat × Nat))} (h : bCheck P T = true) : BOk P T := by
 refine ⟨fun t pl hl => ?_⟩
 have := List.all_eq_true.1 h _ (look_mem hl)
 dsimp only at this
 split at this
 ·rename_i fs hfs; exact ⟨fs, hfs, by simpa using this⟩
 ·cases this
section
variable {P : Program} {C : Ctx} {nt : Nat} {σ : St} {L : Lyt} {a : Act} {w : World} {o : Oper} {x y : Operand} {T : TT} {B : List (Nat × List (Nat × Nat))}
theorem run_mapR {α β : Type} {g : α → Sem β} {q : α → β} : ∀ {xs : List α}, (∀ x ∈ xs, (g x).run P w = .ok (q x) w) → (xs.mapM g).run P w = .ok (xs.map q) w
 | [], _ => by simp only [List.mapM_nil, Sem.run_pure, List.map_nil]
 | x :: xs, h => by
  have ih := run_mapR (xs := xs) (fun y hy => h y (by simp [hy]))
  rw [List.mapM_cons]
  simp only [Sem.run_bind, h x (by simp), ih, Result.andThen_ok, Sem.run_pure, List.map_cons]
theorem run_mapA {α β : Type} {g : α → Sem β} {q : α → β} {xs : Array α} (h : ∀ x ∈ xs.toList, (g x).run P w = .ok (q x) w) : (xs.mapM g).run P w = .ok (xs.toList.map q).toArray w := by
 rw [Array.mapM_eq_mapM_toList, map_eq_pure_bind, Sem.run_bind, run_mapR h]
 simp only [Result.andThen_ok, Sem.run_pure]
def BParts (P : Program) (C : Ctx) (nt : Nat) (σ : St) (pl : List (Nat × Nat)) : List (Nat × Operand) → List CV → List CV → Prop
 | [], acc, res => acc = res
 | (i, x) :: ps, acc, res => ∃ v p off sz, Ev P C nt σ x v ∧ v.part = some p ∧ svOk σ v = true ∧ pl[i]? = some (off, sz) ∧ p.2.length = sz ∧ off + sz ≤ acc.length ∧ BParts P C nt σ pl ps (setR off p.2 acc) res
theorem bp_nil {pl : List (Nat × Nat)} {cs : List CV} : BParts P C nt σ pl [] cs cs := rfl
theorem bp_cons {pl : List (Nat × Nat)} {i off sz : Nat} {v : SV} {p : Bool × List CV} {ps : List (Nat × Operand)} {acc res : List CV} (hx : Ev P C nt σ x v) (hp : v.part = some p) (hk : svOk σ v = true) (hi : pl[i]? = some (off, sz)) (hl : p.2.length = sz) (hle : Nat.ble (off + sz) acc.length = true)
  (h : BParts P C nt σ pl ps (setR off p.2 acc) res) : BParts P C nt σ pl ((i, x) :: ps) acc res := ⟨v, p, off, sz, hx, hp, hk, hi, hl, by simpa [Nat.ble_eq] using hle, h⟩
theorem fill_parts (hr : Rel P C nt L σ a w) {pl : List (Nat × Nat)} : ∀ {ps : List (Nat × Operand)} {acc res : List CV} {us : List Value}, BParts P C nt σ pl ps acc res → CVL C L w acc us →
  ∃ vs, Instr.fill (fun i => pl.toArray[i]?) us.toArray (ps.map fun q => (q.1, a.eval q.2)) = some vs.toArray ∧ CVL C L w res vs
 | [], acc, res, us, h, hu => by simp only [BParts] at h; subst h; exact ⟨us, rfl, hu⟩
 | (i, x) :: ps, acc, res, us, ⟨v, p, off, sz, h1, h2, h3, h4, h5, h6, h7⟩, hu => by
  obtain ⟨xs, k1, k2, k3⟩ := sv_cells hr h2 h3 (h1.run L a w hr)
  obtain ⟨vs, g1, g2⟩ := fill_parts hr h7 (cvL_setR off hu k2)
  refine ⟨vs, ?_, g2⟩
  rw [List.map_cons, fill_one (off := off) (sz := sz) (by simpa using h4) k1 (by rw [cvL_len k2]; exact h5) (by rw [cvL_len hu]; exact h6)]
  exact g1
theorem pu_build (hT : TTOk P T) (hB : BOk P B) {t sz by_ : Nat} {zc cs : List CV} {pl : List (Nat × Nat)} {ps : List (Nat × Operand)} (ho : o.op = .build t ps.toArray) (ht : look T.el t = some (sz, by_, zc)) (hb : look B t = some pl) (h : BParts P C nt σ pl ps zc cs) : Pu P C nt o σ (.agg cs) [] [] := Pu.mk fun L a w hr => by
 obtain ⟨inf, z, g1, g2, g3, g4, g5⟩ := hT.el t sz by_ zc ht
 obtain ⟨c1, _, _⟩ := zL_cv (C := C) (L := L) (w := w) g5
 obtain ⟨fs, f1, f2⟩ := hB.bs t pl hb
 obtain ⟨vs, k1, k2⟩ := fill_parts hr h c1
 refine ⟨.agg vs.toArray, by simp only [SVr]; exact ⟨vs, rfl, k2⟩, fun w' _ => ?_⟩
 have hsz : ∀ f ∈ fs.toList, ∃ i, P.info? f.type = some i := fun f hf => by
  have : (f.offset, (P.info? f.type).map (·.size)) ∈ pl.map fun q => (q.1, some q.2) := by rw [← f2]; exact List.mem_map.2 ⟨f, hf, rfl⟩
  obtain ⟨q, _, hq⟩ := List.mem_map.1 this
  simp only [Prod.mk.injEq] at hq
  cases hi : P.info? f.type with
  | none => rw [hi] at hq; cases hq.2
  | some i => exact ⟨i, rfl⟩
 have hpl : (fs.toList.map fun f => (f.offset, ((P.info? f.type).map (·.size)).getD 0)) = pl := by
  have h2 := congrArg (List.map fun q : Nat × Option Nat => (q.1, q.2.getD 0)) f2
  simp only [List.map_map, Function.comp_def, Option.getD_some] at h2
  simpa using h2
 have hm : ∀ g : Field → Sem (Nat × Nat), (∀ f, g f = (do pure (f.offset, ← sizeOf f.type))) → (fs.mapM g).run P w' = .ok pl.toArray w' := fun g hg => by
  rw [run_mapA (q := fun f => (f.offset, ((P.info? f.type).map (·.size)).getD 0)) (fun f hf => by
   obtain ⟨i, hi⟩ := hsz f hf
   rw [hg f]
   simp [sizeOf, typeInfo, hi]), hpl]
 have hz : z.cells = z.cells.toList.toArray := by simp
 have hps : (Array.map (fun q => (q.1, a.eval q.2)) ps.toArray).toList = ps.map fun q => (q.1, a.eval q.2) := by simp
 unfold execOp
 simp only [ho, Instr.build, zeroValue, typeInfo, Sem.run_bind, run_program, g1, g4, Result.andThen_ok, Sem.run_pure, run_underlying f1, hm _ (fun _ => rfl), hps]
 rw [hz, k1]
 simp
end
end Go.Proofs.YtoigmlbidpocnaaGreat

namespace Go.Proofs.YtoigmlbidpocnaaGreat
open Go.RowKit
set_option linter.unusedVariables false
set_option linter.unusedSimpArgs false

/-! ### ownership of one cell -/
theorem ownL_out {w : World} : ∀ {ds : List DV} {vs : List Value} {fp : List Nat} {i : Nat} {d : DV}, OwnL w ds vs fp → ds[i]? = some d → ∃ v fa fd fb, vs[i]? = some v ∧ fp = fa ++ (fd ++ fb) ∧ Own w d v fd ∧ OwnL w (ds.set i .hole) vs (fa ++ fb)
 | [], _, _, _, _, _, hd => by simp at hd
 | x :: xs, _, _, 0, d, h, hd => by
  simp only [List.getElem?_cons_zero, Option.some.injEq] at hd
  subst hd
  simp only [OwnL] at h
  obtain ⟨v, vs', f1, f2, rfl, rfl, h1, h2⟩ := h
  refine ⟨v, [], f1, f2, rfl, rfl, h1, ?_⟩
  simp only [List.set_cons_zero, OwnL, List.nil_append]
  exact ⟨v, vs', [], f2, rfl, rfl, by unfold Own; exact ⟨lay_one _ _ (own_lay (ok := fun _ => True) _ _ _ h1 (fun _ _ => trivial)), rfl⟩, h2⟩
 | x :: xs, _, _, i + 1, d, h, hd => by
  simp only [List.getElem?_cons_succ] at hd
  simp only [OwnL] at h
  obtain ⟨v, vs', f1, f2, rfl, rfl, h1, h2⟩ := h
  obtain ⟨u, fa, fd, fb, g1, rfl, g3, g4⟩ := ownL_out h2 hd
  refine ⟨u, f1 ++ fa, fd, fb, by simpa using g1, by simp, g3, ?_⟩
  simp only [List.set_cons_succ, OwnL]
  exact ⟨v, vs', f1, fa ++ fb, rfl, by simp, h1, g4⟩
theorem ownE_row {w : World} {e sz n o : Nat} {cs : List DV} {v : Value} {fp : List Nat} (h : Own w (.sl e sz n cs) v fp) (ho : o < cs.length) : ∃ g cap vs f, v = .slice (some ⟨g, 0, none⟩) n cap ∧ fp = g :: f ∧ OwnL w cs vs f ∧ (∀ j u, vs[j]? = some u → w.cell? ⟨g, j, none⟩ = some u) := by
 simp only [Own] at h
 obtain ⟨vs, f, rfl, h1, h2, h3, h4⟩ := h
 rcases (rowE_open h3).2 with ⟨rfl, rfl⟩ | ⟨g, cap, cur, t, fz, rfl, hg, _, _, _, ht⟩
 ·simp at h2; subst h2; simp at ho
 ·refine ⟨g, cap, vs, f, rfl, by simp [Value.ownBlock], h4, fun j u hu => ?_⟩
  rw [cell_of_row _ g j cur t fz hg]
  rw [← ht, List.getElem?_take] at hu
  split at hu
  ·simpa using hu
  ·cases hu
section
variable {P : Program} {C : Ctx} {nt : Nat} {L : Lyt} {σ : St} {a : Act} {w : World} {o : Oper} {x y : Operand} {T : TT}
theorem Rel.split (h : Rel P C nt L σ a w) {k k' off e sz n : Nat} {c : KC} {cs : List DV} (hk : lkk σ k = some c) (hd : c.cs[off]? = some (.sl e sz n cs)) (hk' : lkk σ k' = none) :
  ∃ L' v g m cap, L.rv k = .slice (some ⟨g, 0, none⟩) m cap ∧ w.cell? ⟨g, off, none⟩ = some v ∧ L'.rv k = L.rv k ∧ L'.rv k' = v ∧ g ∈ L'.fp k ∧
   Rel P C nt L' ⟨(σ.mut k [] true { c with cs := c.cs.set off .hole }).tm, (σ.mut k [] true { c with cs := c.cs.set off .hole }).bx, (k', some ⟨false, e, sz, n, cs⟩) :: (k, some { c with cs := c.cs.set off .hole }) :: σ.ks⟩ a w := by
 have hlt : off < c.cs.length := (List.getElem?_eq_some_iff.1 hd).1
 have hown := (h.ks k c hk).1
 obtain ⟨g, cap, vs, f, k1, k2, k3, k4⟩ := ownE_row hown hlt
 obtain ⟨v, fa, fd, fb, m1, m2, m3, m4⟩ := ownL_out k3 hd
 have hkk : k ≠ k' := fun e' => by rw [← e', hk] at hk'; cases hk'
 have hgm : g ∈ L.fp k := by rw [k2]; simp
 have hnd := h.kn k c hk
 rw [k2, m2] at hnd
 simp only [List.nodup_cons, List.mem_append, not_or] at hnd
 obtain ⟨nd1, nd2⟩ := hnd
 rw [List.nodup_append] at nd2
 obtain ⟨nd2, nd3, nd4⟩ := nd2
 rw [List.nodup_append] at nd3
 obtain ⟨nd3, nd5, nd6⟩ := nd3
 have hown1 : Own w (.sl c.e c.sz c.n (c.cs.set off .hole)) (L.rv k) (g :: (fa ++ fb)) := by
  unfold Own at hown ⊢
  obtain ⟨vs2, f2, p1, p2, p3, p4, p5⟩ := hown
  have hvs : vs2 = vs := by
   rcases (rowE_open p4).2 with ⟨q1, q2⟩ | ⟨g2, cap2, cur, t2, fz2, q1, q3, q4, q5, q6, q7⟩
   ·rw [k1] at q1; cases q1
   ·rw [k1] at q1
    simp only [Value.slice.injEq, Option.some.injEq, Addr.mk.injEq, and_true, true_and] at q1
    obtain ⟨rfl, rfl⟩ := q1
    apply List.ext_getElem (by rw [ownL_len _ _ _ p5, ownL_len _ _ _ k3])
    intro i i1 i2
    have r1 := k4 i _ (List.getElem?_eq_getElem i2)
    rw [cell_of_row _ g i cur t2 fz2 q3] at r1
    have r3 : i < c.n * c.sz := by rw [← p3, ← ownL_len _ _ _ p5]; exact i1
    have r2 : vs2[i]? = cur[i]? := by rw [← q7, List.getElem?_take, if_pos r3, Array.getElem?_toList]
    rw [List.getElem?_eq_getElem i1] at r2
    rw [← r2] at r1
    exact Option.some.inj r1
  subst hvs
  exact ⟨vs2, fa ++ fb, by rw [k1]; simp [Value.ownBlock], p2, by simpa using p3, p4, m4⟩
 have hrel := h.setkey (k := k) (c := c) (c' := { c with cs := c.cs.set off .hole }) (js := []) (same := true) (v' := L.rv k) (f' := g :: (fa ++ fb)) hk (by simp) (Chg.refl _ _) hown1
  (by
   rw [List.nodup_cons, List.nodup_append]
   refine ⟨fun hm => ?_, nd2, nd5, fun x hx y hy => nd4 x hx y (by simp [hy])⟩
   simp only [List.mem_append] at hm
   rcases hm with hm | hm
   ·exact nd1.1 hm
   ·exact nd1.2.2 hm)
  (fun b hb => .inl (by
   rw [k2, m2]
   simp only [List.mem_cons, List.mem_append] at hb ⊢
   rcases hb with hb | hb | hb
   ·exact .inl hb
   ·exact .inr (.inl hb)
   ·exact .inr (.inr (.inr hb)))) (by simp) (fun _ => rfl) (fun e' => ⟨e', rfl⟩)
 have hfd : ∀ b ∈ fd, b ∈ L.fp k := fun b hb => by rw [k2, m2]; simp [hb]
 have hnew := hrel.newkey (k := k') (c := ⟨false, e, sz, n, cs⟩) (v := v) (f := fd)
  (by
   simp only [lkk, St.mut, List.map_nil, List.nil_append, List.cons_append, look_cons]
   rw [if_neg (fun e' => hkk e'.symm)]
   exact hk') m3 rfl nd3 (fun b hb => h.k1 k c hk b (hfd b hb))
  (fun b hb i x hx e' => by
   have hx' : ∃ y, look σ.bx i = some y := by
    have := look_map (fun q : TypeId × List CV => (q.1, q.2.map (CV.kill [k] []))) σ.bx i
    change look (killB [k] [] σ.bx) i = _ at this
    change look (killB [k] [] σ.bx) i = some x at hx
    rw [this] at hx
    cases hy : look σ.bx i with
    | none => rw [hy] at hx; cases hx
    | some q => exact ⟨q, rfl⟩
   obtain ⟨y, hy⟩ := hx'
   exact h.bk i k y c hy hk (by rw [show L.bb i = b from e']; exact hfd b hb))
  (fun b hb j d' hj => by
   simp only [lkk, St.mut, List.map_nil, List.nil_append, List.cons_append, look_cons] at hj
   by_cases hjk : j = k
   ·subst hjk
    simp only [if_true]
    intro hm
    simp only [List.mem_cons, List.mem_append] at hm
    rcases hm with hm | hm | hm
    ·exact nd1.2.1 (hm ▸ hb)
    ·exact nd4 b hm b (by simp [hb]) rfl
    ·exact nd6 b hb b hm rfl
   ·rw [if_neg hjk] at hj
    simp only [if_neg hjk]
    exact fun hm => h.kk j k d' c hj hk hjk b hm (hfd b hb))
 refine ⟨_, v, g, c.n, cap, k1, k4 off v m1, ?_, ?_, ?_, hnew⟩
 ·simp [hkk]
 ·simp
 ·simp [hkk]
section
variable {Q : Exit → St → Prop} {all : Array Oper} {rest : List Oper} {tm : List (Nat × SV)} {bx : List (Nat × TypeId × List CV)} {ks : List (Nat × Option KC)}
def nodupB : List Nat → Bool
 | [] => true
 | x :: xs => !(xs.any fun y => Nat.beq x y) && nodupB xs
theorem nodupB_spec : ∀ {xs : List Nat}, nodupB xs = true → xs.Nodup
 | [], _ => List.nodup_nil
 | x :: xs, h => by
  simp only [nodupB, Bool.and_eq_true, Bool.not_eq_true', List.any_eq_false] at h
  refine List.nodup_cons.2 ⟨fun hm => ?_, nodupB_spec h.2⟩
  have := h.1 x hm
  simp at this
end
/-! ### contents written out at an element -/
def mid (pre B post : List DV) : List DV := pre ++ (B ++ post)
theorem setR_mid {pre B B' post ds : List DV} {m off j : Nat} (hp : pre.length = m) (ho : off = m + j) (hB : setR j ds B = B') (hj : j + ds.length ≤ B.length) : setR off ds (mid pre B post) = mid pre B' post := by
 subst hB
 subst ho
 subst hp
 unfold setR mid
 rw [List.take_length_add_append, Nat.add_assoc, ← List.drop_drop, List.drop_left, List.take_append_of_le_length (by omega), List.drop_append_of_le_length (by omega)]
 simp
theorem Rel.same (h : Rel P C nt L σ a w) {ks : List (Nat × Option KC)} (e : ∀ i, lkk ⟨σ.tm, σ.bx, ks⟩ i = lkk σ i) : Rel P C nt L ⟨σ.tm, σ.bx, ks⟩ a w where
 df := h.df
 sz := h.sz
 tm := h.tm
 bx := h.bx
 ks := fun k c hc => h.ks k c (by rw [← e]; exact hc)
 b1 := h.b1
 k1 := fun k c hc => h.k1 k c (by rw [← e]; exact hc)
 kn := fun k c hc => h.kn k c (by rw [← e]; exact hc)
 bb := h.bb
 bk := fun i k x c hx hc => h.bk i k x c hx (by rw [← e]; exact hc)
 kk := fun k j c d hc hd => h.kk k j c d (by rw [← e]; exact hc) (by rw [← e]; exact hd)
 lk := fun k hk => by rw [e]; exact h.lk k hk
 lb := h.lb
 s0 := h.s0
 chg := h.chg
end
end Go.Proofs.YtoigmlbidpocnaaGreat

namespace Go.Proofs.YtoigmlbidpocnaaGreat
open Go.RowKit
set_option linter.unusedVariables false
set_option linter.unusedSimpArgs false

section
variable {P : Program} {C : Ctx} {nt : Nat} {L : Lyt} {σ : St} {a : Act} {w : World} {o : Oper} {x y : Operand} {T : TT}
theorem ownL_bytes (w : World) : ∀ bs : List UInt8, OwnL w (bs.flatMap fun b => [DV.int .u8 (b.toNat : Int)]) (bs.map fun b => Value.int .u8 (b.toNat : Int)) []
 | [] => by simp [OwnL]
 | b :: bs => by
  have hb := b.toNat_lt
  simp only [List.flatMap_cons, List.map_cons, List.singleton_append, OwnL]
  refine ⟨_, _, [], [], rfl, rfl, ?_, ownL_bytes w bs⟩
  unfold Own
  exact ⟨rfl, by simp [InR, IntKind.min, IntKind.max, IntKind.signed, IntKind.bits]; omega, rfl⟩
theorem chg_bytes (w : World) (e : TypeId) (s : ByteArray) : Chg [] w (Lib.bytesWorld w e s) :=
 ⟨by simp [Lib.bytesWorld, World.freeze, World.alloc, World.drew, -World.alloc_eq, -World.drew_eq], by simp [Lib.bytesWorld, World.freeze, World.alloc, World.drew, -World.alloc_eq, -World.drew_eq],
  by simp [Lib.bytesWorld, World.freeze, World.alloc, World.drew, -World.alloc_eq, -World.drew_eq], by rw [Lib.bytesWorld_size]; omega, fun k hk _ => Lib.bytesWorld_at_old w e s k hk⟩
theorem flat_bytes_len (bs : List UInt8) : (bs.flatMap fun b => [DV.int .u8 (b.toNat : Int)]).length = bs.length := by
 induction bs with
 | nil => rfl
 | cons b bs ih => rw [List.flatMap_cons, List.length_append, ih, List.length_cons]; simp; omega
theorem efg_convSB (hT : TTOk P T) {s t e d k : Nat} {u : Unit} {J : List Nat} {v : ByteArray} (ho : o.op = .convert s t x) (hd : o.dst = some d) (hn : Nat.blt d nt = true) (hs : look T.st s = some u) (ht : look T.sl t = some e) (he : look T.it e = some .u8)
  (hx : Ev P C nt σ x (.one (.dv J (.str v)))) (hk : lkk σ k = none) :
  EfG P C nt o σ (fun σ' => σ' = { σ with ks := (k, some ⟨false, 1000005, 1, v.data.toList.length, v.data.toList.flatMap fun b : UInt8 => [DV.int .u8 (b.toNat : Int)]⟩) :: σ.ks }.put d (.one (.key k))) := EfG.mk fun L a w hr K Q hK => by
 have h1 := hx.run L a w hr
 simp only [SVr, CVr, Lay] at h1
 obtain ⟨h1, h2⟩ := h1
 have hchg := chg_bytes w e v
 have hlen : v.data.toList.length = v.size := rfl
 have hrow : rowE (Lib.bytesWorld w e v) 1000005 1 (.slice (some ⟨w.heap.size, 0, none⟩) v.size (grownCap w v.size 0 e)) v.size (v.data.toList.map fun b => Value.int .u8 (b.toNat : Int)) := by
  refine ⟨fun h => absurd h (by decide), fun _ => ⟨by simp [hlen], .inr ⟨w.heap.size, _, Lib.bytesCells w e v, e, _, rfl, Lib.bytesWorld_at_new w e v, ?_, ?_, ?_, ?_⟩⟩⟩
  ·exact grownCap_ge w v.size 0 e
  ·exact grownCap_le_maxLen w v.size 0 e (by simpa [maxLen] using h2)
  ·simp [Lib.bytesCells]
  ·simp [Lib.bytesCells]
 have hb := hr.newkey' hchg (c := ⟨false, 1000005, 1, v.data.toList.length, v.data.toList.flatMap fun b : UInt8 => [DV.int .u8 (b.toNat : Int)]⟩) (v := .slice (some ⟨w.heap.size, 0, none⟩) v.size (grownCap w v.size 0 e)) (f := [w.heap.size]) hk
  (by unfold Own; exact ⟨_, [], rfl, Nat.one_pos, by rw [flat_bytes_len, Nat.mul_one], hrow, ownL_bytes _ _⟩) rfl (by simp) (by simp)
 refine wp_new (v := .slice (some ⟨w.heap.size, 0, none⟩) v.size (grownCap w v.size 0 e)) (w' := Lib.bytesWorld w e v) ?_ ?_
 ·unfold execOp
  simp only [ho, h1, Lib.run_convert_string_bytes w s t e v (hT.st s u hs) (hT.sl t e ht) (hT.it e _ he), Sem.run_bind, Result.andThen_ok, Sem.run_pure]
 ·refine hK { L with fp := fun j => if j = k then [w.heap.size] else L.fp j, rv := fun j => if j = k then .slice (some ⟨w.heap.size, 0, none⟩) v.size (grownCap w v.size 0 e) else L.rv j } _ _ _ rfl (by rw [hd]; exact hb.put (v := .one (.key k)) (by simpa [Nat.blt_eq] using hn) (by simp [SVr, CVr]) (by simp [SV.keys, CV.keys, lkk, look_cons]) (by simp [SV.boxes])) ⟨hchg, fun i c hc => ?_, fun _ _ _ => rfl⟩
  have : i ≠ k := fun e => by rw [e, hk] at hc; cases hc
  simp [this]
theorem pu_lenKn (hT : TTOk P T) {t e' k n : Nat} {c : KC} (ho : o.op = .call { callee := .builtin .len, args := #[x], argTypes := #[t] }) (h : look T.sl t = some e') (hx : Ev P C nt σ x (.one (.key k))) (hk : lkk σ k = some c) (hn : c.n = n) : Pu P C nt o σ (.one (.dv [] (.int .i64 (n : Int)))) [] [] := by
 subst hn
 exact pu_lenK hT ho h hx hk
theorem kmin_le (k : IntKind) : k.min ≤ 0 := by cases k <;> decide
theorem inR_less {k : IntKind} {m z : Int} (h : InR k m) (h0 : 0 ≤ z) (h1 : z ≤ m) : InR k z := ⟨by have := kmin_le k; omega, by have := h.2; omega⟩
theorem pu_remN {t ty : TypeId} {K J : List Nat} {k : IntKind} {m n : Int} (ho : o.op = .binOp .rem t x y ty) (hx : Ev P C nt σ x (.one (.dv K (.int k m)))) (hy : Ev P C nt σ y (.one (.dv J (.int k n)))) (hm : 0 ≤ m) (hn : 0 < n) : Pu P C nt o σ (.one (.dv [] (.int k (m % n)))) [] [] := by
 have e : m.tmod n = m % n := Int.tmod_eq_emod_of_nonneg hm
 have hq : InR k m → InR k (m % n) := fun h1 => inR_less h1 (Int.emod_nonneg m (show n ≠ 0 by omega)) (by
  rcases Int.lt_or_le m n with h | h
  ·rw [Int.emod_eq_of_lt hm h]; omega
  ·have := Int.emod_lt_of_pos m hn; omega)
 exact pu_int ho hx hy fun h1 h2 => ⟨_, fun ok w => by unfold Lay; exact ⟨rfl, hq h1⟩, fun w => by simp [binOp, Op.intDiv, show n ≠ 0 by omega, e]⟩
theorem pu_quoN {t ty : TypeId} {K J : List Nat} {k : IntKind} {m n : Int} (ho : o.op = .binOp .quo t x y ty) (hx : Ev P C nt σ x (.one (.dv K (.int k m)))) (hy : Ev P C nt σ y (.one (.dv J (.int k n)))) (hm : 0 ≤ m) (hn : 0 < n) : Pu P C nt o σ (.one (.dv [] (.int k (m / n)))) [] [] := by
 have h := pu_quo ho hx hy (show n ≠ 0 by omega)
 have e : m.tdiv n = m / n := Int.tdiv_eq_ediv_of_nonneg hm
 rw [e] at h
 refine Pu.mk fun L a w hr => ?_
 have h1 := hx.run L a w hr
 simp only [SVr, CVr, Lay] at h1
 have h2 : InR k (m / n) := inR_less h1.2 (Int.ediv_nonneg hm (show (0 : Int) ≤ n by omega)) (Int.ediv_le_self n hm)
 have := h.run L a w hr
 rwa [wrap_inR h2] at this
theorem pu_shrN {t ty : TypeId} {K J : List Nat} {k j : IntKind} {m n : Int} (ho : o.op = .binOp .shr t x y ty) (hx : Ev P C nt σ x (.one (.dv K (.int k m)))) (hy : Ev P C nt σ y (.one (.dv J (.int j n)))) (hm : 0 ≤ m) (hn : 0 ≤ n) (hn2 : n.toNat ≤ k.bits) : Pu P C nt o σ (.one (.dv [] (.int k (m / (2 ^ n.toNat : Nat))))) [] [] := Pu.mk fun L a w hr => by
 have h1 := hx.run L a w hr
 have h2 := hy.run L a w hr
 simp only [SVr, CVr, Lay] at h1 h2
 have hp : (0 : Int) < ((2 ^ n.toNat : Nat) : Int) := by have : 0 < 2 ^ n.toNat := Nat.two_pow_pos _; omega
 have e : m.fdiv (2 ^ n.toNat) = m / ((2 ^ n.toNat : Nat) : Int) := by
  have : ((2 ^ n.toNat : Nat) : Int) = (2 : Int) ^ n.toNat := by simp
  rw [← this, Int.fdiv_eq_ediv_of_nonneg _ (by omega)]
 have h3 : InR k (m / ((2 ^ n.toNat : Nat) : Int)) := inR_less h1.2 (Int.ediv_nonneg hm (Int.le_of_lt hp)) (Int.ediv_le_self _ hm)
 refine ⟨.int k (m / ((2 ^ n.toNat : Nat) : Int)), by simp only [SVr, CVr, Lay]; exact ⟨trivial, h3⟩, fun w' _ => ?_⟩
 unfold execOp
 simp only [ho, h1.1, h2.1, Sem.run_bind]
 have hg : (eqGuard .shr t x y (.int k m) (.int j n)).run P w' = .ok () w' := by unfold eqGuard; rfl
 have hb : (binOp .shr t (.int k m) (.int j n)).run P w' = .ok (.int k (m / ((2 ^ n.toNat : Nat) : Int))) w' := by
  simp only [binOp, Op.shift]
  rw [if_neg (by omega), Nat.min_eq_left hn2, e]
  rfl
 simp only [hg, Result.andThen_ok, hb, Sem.run_pure]
theorem pu_shlW {t ty : TypeId} {K J : List Nat} {k j : IntKind} {m n : Int} (ho : o.op = .binOp .shl t x y ty) (hx : Ev P C nt σ x (.one (.dv K (.int k m)))) (hy : Ev P C nt σ y (.one (.dv J (.int j n)))) (hn : 0 ≤ n) (hn2 : n.toNat ≤ k.bits) : Pu P C nt o σ (.one (.dv [] (.int k (k.wrap (m * (2 ^ n.toNat : Nat)))))) [] [] := Pu.mk fun L a w hr => by
 have h1 := hx.run L a w hr
 have h2 := hy.run L a w hr
 simp only [SVr, CVr, Lay] at h1 h2
 refine ⟨.int k (k.wrap (m * (2 ^ n.toNat : Nat))), by simp only [SVr, CVr, Lay]; exact ⟨trivial, inR_wrap _ _⟩, fun w' _ => ?_⟩
 unfold execOp
 simp only [ho, h1.1, h2.1, Sem.run_bind]
 have hg : (eqGuard .shl t x y (.int k m) (.int j n)).run P w' = .ok () w' := by unfold eqGuard; rfl
 have hb : (binOp .shl t (.int k m) (.int j n)).run P w' = .ok (.int k (k.wrap (m * (2 ^ n.toNat : Nat)))) w' := by
  simp only [binOp, Op.shift]
  rw [if_neg (by omega), Nat.min_eq_left hn2]
  have : ((2 ^ n.toNat : Nat) : Int) = (2 : Int) ^ n.toNat := by simp
  rw [this]; rfl
 simp only [hg, Result.andThen_ok, hb, Sem.run_pure]
theorem wrap_u8 (z : Int) : IntKind.u8.wrap z = ((UInt8.ofNat (IntKind.u8.wrap z).toNat).toNat : Int) := by
 have h := inR_wrap .u8 z
 simp only [InR, IntKind.min, IntKind.max, IntKind.signed, IntKind.bits] at h
 obtain ⟨h1, h2⟩ := h
 simp at h1 h2
 simp only [UInt8.toNat_ofNat']
 have : (IntKind.u8.wrap z).toNat % 2 ^ 8 = (IntKind.u8.wrap z).toNat := Nat.mod_eq_of_lt (by omega)
 omega
end
section
variable {P : Program} {C : Ctx} {nt : Nat} {o : Oper} {x y : Operand} {T : TT} {Q : Exit → St → Prop} {all : Array Oper} {rest : List Oper} {tm : List (Nat × SV)} {bx : List (Nat × TypeId × List CV)} {ks : List (Nat × Option KC)}
theorem o_convSB (hT : TTOk P T) {s t e d k : Nat} {u : Unit} {J : List Nat} {v : ByteArray} (hg : o.guard = none) (hd : o.dst = some d) (ho : o.op = .convert s t x) (hn : Nat.blt d nt = true) (hs : look T.st s = some u) (ht : look T.sl t = some e) (he : look T.it e = some .u8)
  (hx : Ev P C nt ⟨tm, bx, ks⟩ x (.one (.dv J (.str v)))) (hk : lkk ⟨tm, bx, ks⟩ k = none)
  (h : Ops P C nt Q all rest ⟨(d, .one (.key k)) :: tm, bx, (k, some ⟨false, 1000005, 1, v.data.toList.length, v.data.toList.flatMap fun b : UInt8 => [DV.int .u8 (b.toNat : Int)]⟩) :: ks⟩) : Ops P C nt Q all (o :: rest) ⟨tm, bx, ks⟩ := ops_ef1 hg (efg_convSB hT ho hd hn hs ht he hx hk).ef h
end
end Go.Proofs.YtoigmlbidpocnaaGreat

namespace Go.Proofs.YtoigmlbidpocnaaGreat
open Go.RowKit
set_option linter.unusedVariables false
set_option linter.unusedSimpArgs false

abbrev Vars := List (Nat × Nat × Nat × List CV)
def addT : Vars → List (Nat × SV) → List (Nat × SV)
 | [], tm => tm
 | p :: B, tm => (p.2.1, .box p.2.1 0) :: addT B tm
def addB : Vars → List (Nat × TypeId × List CV) → List (Nat × TypeId × List CV)
 | [], bx => bx
 | p :: B, bx => (p.2.1, p.2.2.1, p.2.2.2) :: addB B bx
@[reducible] def St.adds (σ : St) (B : Vars) : St := ⟨addT B σ.tm, addB B σ.bx, σ.ks⟩
def setAll (listed : Array Bool) : List Nat → Array Bool
 | [] => listed
 | j :: js => (setAll listed js).setIfInBounds j true
theorem setAll_size (listed : Array Bool) : ∀ js, (setAll listed js).size = listed.size
 | [] => rfl
 | j :: js => by rw [setAll, Array.size_setIfInBounds, setAll_size listed js]
theorem setAll_get (listed : Array Bool) (k : Nat) (hk : k < listed.size) : ∀ js, (setAll listed js)[k]? = some (listed[k] || js.contains k)
 | [] => by simp [setAll, Array.getElem?_eq_getElem hk]
 | j :: js => by
  have ih := setAll_get listed k hk js
  have e : setAll listed (j :: js) = (setAll listed js).setIfInBounds j true := rfl
  rw [e, Array.getElem?_setIfInBounds, ih, List.contains_cons, setAll_size]
  by_cases h : j = k
  ·subst h; simp [hk]
  ·have h2 : (k == j) = false := by simpa using fun e => h e.symm
   rw [if_neg h, h2, Bool.false_or]
theorem setAll_ext {listed : Array Bool} {js ks : List Nat} (h : ∀ k, js.contains k = ks.contains k) : setAll listed js = setAll listed ks := by
 apply Array.ext_getElem?
 intro k
 by_cases h1 : k < listed.size
 ·rw [setAll_get listed k h1, setAll_get listed k h1, h]
 ·rw [Array.getElem?_eq_none (by rw [setAll_size]; omega), Array.getElem?_eq_none (by rw [setAll_size]; omega)]
theorem setAll_set {listed : Array Bool} {i : Nat} : ∀ {js : List Nat}, i ∉ js → setAll (listed.setIfInBounds i true) js = (setAll listed js).setIfInBounds i true
 | [], _ => rfl
 | j :: js, h => by
  simp only [List.mem_cons, not_or] at h
  rw [setAll, setAll_set h.2, setAll, Array.setIfInBounds_comm _ _ h.1]
@[reducible] def nos (B : Vars) : List Nat := B.map fun p => p.1
section
variable {σ σ' : St}
theorem look_addT {B : Vars} {tm : List (Nat × SV)} (j : Nat) : look (addT B tm) j = if (B.map fun p => p.2.1).contains j then some (.box j 0) else look tm j := by
 induction B with
 | nil => simp [addT]
 | cons p B ih =>
  simp only [addT, look_cons, List.map_cons, List.contains_cons, ih]
  by_cases h : j = p.2.1
  ·simp [h]
  ·have h2 : (j == p.2.1) = false := by simpa using h
   rw [if_neg h, h2, Bool.false_or]
def lookV : Vars → Nat → Option (TypeId × List CV)
 | [], _ => none
 | p :: B, j => if j = p.2.1 then some (p.2.2.1, p.2.2.2) else lookV B j
theorem look_addB {B : Vars} {bx : List (Nat × TypeId × List CV)} (j : Nat) : look (addB B bx) j = (lookV B j).or (look bx j) := by
 induction B with
 | nil => simp [addB, lookV]
 | cons p B ih =>
  simp only [addB, look_cons, lookV, ih]
  split <;> simp
theorem lookV_none {B : Vars} {j : Nat} (h : ∀ p ∈ B, p.2.1 ≠ j) : lookV B j = none := by
 induction B with
 | nil => rfl
 | cons p B ih =>
  rw [lookV, if_neg (fun e => h p (by simp) e.symm)]
  exact ih fun q hq => h q (by simp [hq])
theorem lookV_mem {B : Vars} (hn : (B.map fun p => p.2.1).Nodup) {p : Nat × Nat × Nat × List CV} (hp : p ∈ B) : lookV B p.2.1 = some (p.2.2.1, p.2.2.2) := by
 induction B with
 | nil => simp at hp
 | cons q B ih =>
  simp only [List.map_cons, List.nodup_cons] at hn
  rw [lookV]
  rcases List.mem_cons.1 hp with rfl | hp
  ·simp
  ·rw [if_neg (fun e => hn.1 (by rw [← e]; exact List.mem_map.2 ⟨p, hp, rfl⟩))]
   exact ih hn.2 hp
variable {P : Program} {C : Ctx} {nt : Nat} {L : Lyt} {a : Act} {w : World}
theorem Rel.sub' (h : Rel P C nt L σ' a w) (h1 : ∀ i v, look σ.tm i = some v → look σ'.tm i = some v) (h2 : ∀ i x, look σ.bx i = some x → look σ'.bx i = some x) (h3 : ∀ k c, lkk σ k = some c → lkk σ' k = some c) (h4 : σ.okB = true) : Rel P C nt L σ a w := by
 simp only [St.okB, Bool.and_eq_true, List.all_eq_true] at h4
 exact {
  df := h.df, sz := h.sz
  tm := fun i v hv => h.tm i v (h1 i v hv)
  bx := fun i t cs hx => h.bx i t cs (h2 i _ hx)
  ks := fun k c hc => h.ks k c (h3 k c hc)
  b1 := fun i x hx => h.b1 i x (h2 i _ hx)
  k1 := fun k c hc => h.k1 k c (h3 k c hc)
  kn := fun k c hc => h.kn k c (h3 k c hc)
  bb := fun i j x y hx hy => h.bb i j x y (h2 i _ hx) (h2 j _ hy)
  bk := fun i k x c hx hc => h.bk i k x c (h2 i _ hx) (h3 k c hc)
  kk := fun k j c d hc hd => h.kk k j c d (h3 k c hc) (h3 j d hd)
  lk := h4.1, lb := h4.2
  s0 := h.s0, chg := h.chg }
structure VOk (P : Program) (all : Array Oper) (nt : Nat) (A : Vars) (σ : St) : Prop where
 op : ∀ p ∈ A, ∃ o, all[p.1]? = some o ∧ o.guard = none ∧ o.dst = some p.2.1 ∧ o.op = .alloc p.2.2.1
 ty : ∀ p ∈ A, ∃ T sz by_, TTOk P T ∧ look T.el p.2.2.1 = some (sz, by_, p.2.2.2)
 lt : ∀ p ∈ A, p.2.1 < nt
 zk : ∀ p ∈ A, p.2.2.2.flatMap CV.keys = []
 bn : ∀ p ∈ A, look σ.bx p.2.1 = none
 tn : ∀ p ∈ A, look σ.tm p.2.1 = none
 nd : (A.map fun p => p.2.1).Nodup
 ni : (nos A).Nodup
 ok : σ.okB = true
theorem VOk.okA {all : Array Oper} {A : Vars} (h : VOk P all nt A σ) {B : Vars} (hB : ∀ p ∈ B, p ∈ A) : (σ.adds B).okB = true := by
 have h0 := h.ok
 simp only [St.okB, Bool.and_eq_true, List.all_eq_true] at h0 ⊢
 have hbx : ∀ b, (look σ.bx b).isSome = true → (look (addB B σ.bx) b).isSome = true := fun b hb => by
  rw [look_addB]; cases lookV B b <;> simp [hb]
 have hin : ∀ {B : Vars} (hB : ∀ p ∈ B, p ∈ A), ∀ p ∈ B, (look (addB B σ.bx) p.2.1).isSome = true := by
  intro B
  induction B with
  | nil => intro _ p hp; simp at hp
  | cons q B ih =>
   intro hB p hp
   simp only [addB, look_cons]
   split
   ·rfl
   ·rcases List.mem_cons.1 hp with rfl | hp
    ·rename_i e; exact absurd rfl e
    ·exact ih (fun r hr => hB r (by simp [hr])) p hp
 constructor
 ·intro k hk
  refine h0.1 k ?_
  simp only [St.tk, List.mem_append] at hk ⊢
  have key : ∀ {B : Vars}, (∀ p ∈ B, p ∈ A) → (k ∈ (addT B σ.tm).flatMap (fun p => p.2.keys) → k ∈ σ.tm.flatMap fun p => p.2.keys) ∧ (k ∈ (addB B σ.bx).flatMap (fun p => p.2.2.flatMap CV.keys) → k ∈ σ.bx.flatMap fun p => p.2.2.flatMap CV.keys) := by
   intro B
   induction B with
   | nil => intro _; exact ⟨id, id⟩
   | cons p B ih =>
    intro hB
    obtain ⟨i1, i2⟩ := ih fun q hq => hB q (by simp [hq])
    refine ⟨fun hm => i1 ?_, fun hm => i2 ?_⟩
    ·simpa [addT, SV.keys] using hm
    ·simpa [addB, h.zk p (hB p (by simp))] using hm
  rcases hk with hk | hk
  ·exact .inl ((key hB).1 hk)
  ·exact .inr ((key hB).2 hk)
 ·intro b hb
  have key : ∀ {B : Vars}, b ∈ (addT B σ.tm).flatMap (fun p => p.2.boxes) → b ∈ σ.tm.flatMap (fun p => p.2.boxes) ∨ ∃ p ∈ B, b = p.2.1 := by
   intro B
   induction B with
   | nil => intro hm; exact .inl hm
   | cons p B ih =>
    intro hm
    simp only [addT, List.flatMap_cons, SV.boxes, List.mem_append, List.mem_singleton] at hm
    rcases hm with hm | hm
    ·exact .inr ⟨p, by simp, hm⟩
    ·rcases ih hm with hm | ⟨q, hq, e⟩
     ·exact .inl hm
     ·exact .inr ⟨q, by simp [hq], e⟩
  rcases key hb with hb | ⟨p, hp, rfl⟩
  ·exact hbx b (h0.2 b hb)
  ·exact hin hB p hp
theorem VOk.tmE {all : Array Oper} {A : Vars} (h : VOk P all nt A σ) {B : Vars} (hB : ∀ p ∈ B, p ∈ A) (i : Nat) (v : SV) (hv : look σ.tm i = some v) : look (σ.adds B).tm i = some v := by
 rw [look_addT, if_neg]
 ·exact hv
 ·simp only [List.contains_iff_mem, List.mem_map, not_exists, not_and]
  intro p hp e
  rw [← e, h.tn p (hB p hp)] at hv
  cases hv
theorem VOk.bxE {all : Array Oper} {A : Vars} (h : VOk P all nt A σ) {B : Vars} (hB : ∀ p ∈ B, p ∈ A) (i : Nat) (x : TypeId × List CV) (hv : look σ.bx i = some x) : look (σ.adds B).bx i = some x := by
 rw [look_addB, lookV_none, Option.none_or]
 ·exact hv
 ·intro p hp e
  rw [← e, h.bn p (hB p hp)] at hv
  cases hv
theorem VOk.drop {all : Array Oper} {A : Vars} (h : VOk P all nt A σ) {B : Vars} (hB : ∀ p ∈ B, p ∈ A) (hr : Rel P C nt L (σ.adds B) a w) : Rel P C nt L σ a w :=
 hr.sub' (h.tmE hB) (h.bxE hB) (fun k c hc => hc) h.ok
/-! ### what holds of a state holds of a greater one -/
structure Ext (P : Program) (C : Ctx) (nt : Nat) (σ σ' : St) : Prop where
 rel : ∀ L a w, Rel P C nt L σ' a w → Rel P C nt L σ a w
 bx : ∀ i x, look σ.bx i = some x → look σ'.bx i = some x
 ks : σ'.ks = σ.ks
theorem VOk.ext {all : Array Oper} {A : Vars} (h : VOk P all nt A σ) {B : Vars} (hB : ∀ p ∈ B, p ∈ A) : Ext P C nt σ (σ.adds B) := ⟨fun _ _ _ hr => h.drop hB hr, h.bxE hB, rfl⟩
theorem Ext.lkk (h : Ext P C nt σ σ') (k : Nat) : lkk σ' k = Go.Proofs.YtoigmlbidpocnaaGreat.lkk σ k := by simp only [Go.Proofs.YtoigmlbidpocnaaGreat.lkk, h.ks]
theorem Ext.ev (h : Ext P C nt σ σ') {x : Operand} {v : SV} (hx : Ev P C nt σ x v) : Ev P C nt σ' x v := Ev.mk fun L a w hr => hx.run L a w (h.rel L a w hr)
theorem Ext.pu (h : Ext P C nt σ σ') {o : Oper} {v : SV} {Ks Bs : List Nat} (hx : Pu P C nt o σ v Ks Bs) : Pu P C nt o σ' v Ks Bs := Pu.mk fun L a w hr => hx.run L a w (h.rel L a w hr)
theorem Ext.argC (h : Ext P C nt σ σ') {c u : CV} (hx : ArgC σ c u) : ArgC σ' c u := by
 cases c with
 | key k => simp only [ArgC, h.lkk] at hx ⊢; exact hx
 | dv K d => exact hx
 | nest k o d => exact hx
 | arg i d => exact hx
 | nil => exact hx
 | any => exact hx
theorem Ext.argCs (h : Ext P C nt σ σ') : ∀ {cs us : List CV}, ArgCs σ cs us → ArgCs σ' cs us
 | [], _, hx => hx
 | c :: cs, _, ⟨u, us', e, h1, h2⟩ => ⟨u, us', e, h.argC h1, h.argCs h2⟩
theorem Ext.cloB (h : Ext P C nt σ σ') : ∀ {bs : List Nat} {dss : List (List DV)}, CloB σ bs dss → CloB σ' bs dss
 | [], _, hx => hx
 | b :: bs, _, ⟨ds, dss', t, e, h1, h2⟩ => ⟨ds, dss', t, e, h.bx b _ h1, h.cloB h2⟩
theorem Ext.argS (h : Ext P C nt σ σ') {v u : SV} (hx : ArgS σ v u) : ArgS σ' v u := by
 cases v with
 | one c => obtain ⟨c', h1, e⟩ := hx; exact ⟨c', h.argC h1, e⟩
 | agg cs => obtain ⟨c', h1, e⟩ := hx; exact ⟨c', h.argCs h1, e⟩
 | ref K ds => exact hx
 | fn f caps => exact hx
 | clo f bs => obtain ⟨caps, h1, e⟩ := hx; exact ⟨caps, h.cloB h1, e⟩
 | _ => exact hx
theorem Ext.args (h : Ext P C nt σ σ') : ∀ {xs : List Operand} {us : List SV}, ArgSs P C nt σ xs us → ArgSs P C nt σ' xs us
 | [], _, hx => hx
 | x :: xs, _, ⟨v, u, us', e, h1, h2, h3⟩ => ⟨v, u, us', e, h.ev h1, h.argS h2, h.args h3⟩
end
/-! ### the judgement -/
structure OpsA (P : Program) (C : Ctx) (nt : Nat) (Q : Exit → St → Prop) (all : Array Oper) (oB oK : List Nat) (hd : Nat → Bool) (A : Vars) (listed : Array Bool) (fuel : Nat) (σ : St) : Prop where
 run : ∀ m : Nat → Bool, ∀ wb L a w, Rel P C nt L (σ.adds (A.filter fun p => m p.1)) a w → SW wb w → C.w0.heap.size ≤ wb.heap.size → (∀ i ∈ oB, L.bb i < wb.heap.size) → (∀ k ∈ oK, ∀ b ∈ L.fp k, b < wb.heap.size) →
  wpAnyT P .any all (QQ P C nt Q) (SW wb) hd (fuel + (A.filter fun p => !m p.1).length) (setAll listed (nos (A.filter fun p => m p.1))) a w
section
variable {P : Program} {C : Ctx} {nt : Nat} {Q : Exit → St → Prop} {all : Array Oper} {oB oK : List Nat} {hd' : Nat → Bool} {A : Vars} {listed : Array Bool} {fuel : Nat} {o : Oper} {d : Nat} {v X : SV} {Ks Bs : List Nat} {g : Bool} {σ σ₁ : St}
def subs {α : Type} : List α → List (List α)
 | [] => [[]]
 | x :: xs => (subs xs).map (x :: ·) ++ subs xs
theorem mem_subs {α : Type} (m : α → Bool) : ∀ l : List α, l.filter m ∈ subs l
 | [] => by simp [subs]
 | x :: xs => by
  have ih := mem_subs m xs
  rw [List.filter_cons, subs]
  split
  ·exact List.mem_append.2 (.inl (List.mem_map.2 ⟨_, ih, rfl⟩))
  ·exact List.mem_append.2 (.inr ih)
def readyI (all : Array Oper) (listed : Array Bool) (A : Vars) (i : Nat) : Bool := (subs A).all fun B =>
 (Region.ready .any all (setAll listed (nos B))).contains i && (Region.ready .any all (setAll listed (nos B))).all fun j => j == i || ((nos A).contains j && !(nos B).contains j)
def readyN (all : Array Oper) (listed : Array Bool) (A : Vars) : Bool := (subs A).all fun B =>
 B.length == A.length || (!(Region.ready .any all (setAll listed (nos B))).isEmpty && (Region.ready .any all (setAll listed (nos B))).all fun j => (nos A).contains j && !(nos B).contains j)
def takeA (hd : Nat → Bool) (all : Array Oper) (listed : Array Bool) (A : Vars) (i : Nat) : Bool := (subs A).all fun B => takeB .any all hd (setAll listed (nos B)) i
def takeAX (hd : Nat → Bool) (all : Array Oper) (listed : Array Bool) (A : Vars) (i : Nat) : Bool := (subs A).all fun B => takeXB .any all hd (setAll listed (nos B)) i
theorem vfilt_sub (m : Nat → Bool) : A.filter (fun p => m p.1) ∈ subs A := mem_subs _ A
theorem vfilt_nos {m : Nat → Bool} {j : Nat} (hA : (nos A).contains j = true) (h : (nos (A.filter fun p => m p.1)).contains j = false) : m j = false := by
 simp only [List.contains_iff_mem, List.mem_map] at hA
 obtain ⟨p, hp, rfl⟩ := hA
 cases hm : m p.1 with
 | false => rfl
 | true =>
  have : (nos (A.filter fun p => m p.1)).contains p.1 = true := by
   simp only [List.contains_iff_mem, List.mem_map]
   exact ⟨p, List.mem_filter.2 ⟨hp, hm⟩, rfl⟩
  rw [this] at h; cases h
theorem vfilt_len : ∀ {A : Vars} {m : Nat → Bool} {j : Nat}, (nos A).Nodup → j ∈ nos A → m j = false → (A.filter fun p => !m p.1).length = (A.filter fun p => !(m p.1 || p.1 == j)).length + 1
 | [], _, _, _, h, _ => by simp at h
 | p :: A, m, j, hn, h, hm => by
  simp only [List.map_cons, List.nodup_cons] at hn
  simp only [List.map_cons, List.mem_cons] at h
  by_cases e : p.1 = j
  ·subst e
   have h1 : (A.filter fun q => !m q.1) = A.filter fun q => !(m q.1 || q.1 == p.1) := by
    apply List.filter_congr
    intro q hq
    have : q.1 ≠ p.1 := fun e => hn.1 (by rw [← e]; exact List.mem_map.2 ⟨q, hq, rfl⟩)
    simp [this]
   rw [List.filter_cons, List.filter_cons, hm]
   simp [h1]
  ·have hj : j ∈ nos A := by
    rcases h with h | h
    ·exact absurd h.symm e
    ·exact h
   have ih := vfilt_len hn.2 hj hm
   rw [List.filter_cons, List.filter_cons]
   have e2 : (p.1 == j) = false := by simpa using e
   rw [e2, Bool.or_false]
   split
   ·simp [ih]
   ·exact ih
theorem vfilt_set {m : Nat → Bool} {j : Nat} (hj : j ∈ nos A) : setAll listed (nos (A.filter fun p => m p.1 || p.1 == j)) = (setAll listed (nos (A.filter fun p => m p.1))).setIfInBounds j true := by
 have : (setAll listed (nos (A.filter fun p => m p.1))).setIfInBounds j true = setAll listed (j :: nos (A.filter fun p => m p.1)) := rfl
 rw [this]
 apply setAll_ext
 intro k
 rw [Bool.eq_iff_iff]
 simp only [List.contains_iff_mem, List.mem_map, List.mem_filter, List.mem_cons, Bool.or_eq_true, beq_iff_eq]
 constructor
 ·rintro ⟨p, ⟨hp, h⟩, rfl⟩
  rcases h with h | h
  ·exact .inr ⟨p, ⟨hp, h⟩, rfl⟩
  ·exact .inl h
 ·rintro (rfl | ⟨p, ⟨hp, h⟩, rfl⟩)
  ·obtain ⟨p, hp, rfl⟩ := List.mem_map.1 hj
   exact ⟨p, ⟨hp, .inr rfl⟩, rfl⟩
  ·exact ⟨p, ⟨hp, .inl h⟩, rfl⟩
theorem vfm {m : Nat → Bool} : ∀ p ∈ A.filter (fun p => m p.1), p ∈ A := fun p hp => (List.mem_filter.1 hp).1
theorem lay_one_var (h : VOk P all nt A σ) {m : Nat → Bool} {j : Nat} (hj : j ∈ nos A) (hm : m j = false) {L : Lyt} {a : Act} {w wb : World} (hr : Rel P C nt L (σ.adds (A.filter fun p => m p.1)) a w) (hs : SW wb w) (hB : ∀ i ∈ oB, L.bb i < wb.heap.size) (hK : ∀ k ∈ oK, ∀ b ∈ L.fp k, b < wb.heap.size)
  (hob : (oB.all fun i => (look σ.bx i).isSome) = true) (hok : (oK.all fun k => (lkk σ k).isSome) = true) (K : Act → World → Prop) (Q' : Exit → Act → World → Prop)
  (hk : ∀ L' a' w', Rel P C nt L' (σ.adds (A.filter fun p => m p.1 || p.1 == j)) a' w' → SW wb w' → (∀ i ∈ oB, L'.bb i < wb.heap.size) → (∀ k ∈ oK, ∀ b ∈ L'.fp k, b < wb.heap.size) → K a' w') : ∃ oj, all[j]? = some oj ∧ oj.guard = none ∧ oj.wp P a w K Q' := by
 obtain ⟨p, hp, rfl⟩ := List.mem_map.1 hj
 obtain ⟨oj, h1, h2, h3, h4⟩ := h.op p hp
 obtain ⟨T, sz, by_, hT, ht⟩ := h.ty p hp
 refine ⟨oj, h1, h2, ?_⟩
 have hout : ∀ q ∈ A.filter (fun p => m p.1), q.2.1 ≠ p.2.1 := fun q hq e => by
  obtain ⟨hq1, hq2⟩ := List.mem_filter.1 hq
  have : q = p := by
   have key : ∀ {l : Vars}, (l.map fun p => p.2.1).Nodup → q ∈ l → p ∈ l → q = p := by
    intro l
    induction l with
    | nil => intro _ h; simp at h
    | cons x l ih =>
     intro hn h1 h2
     simp only [List.map_cons, List.nodup_cons] at hn
     rcases List.mem_cons.1 h1 with e1 | e1 <;> rcases List.mem_cons.1 h2 with e2 | e2
     ·rw [e1, e2]
     ·exact absurd (List.mem_map.2 ⟨p, e2, by rw [← e, e1]⟩ : x.2.1 ∈ l.map fun p => p.2.1) hn.1
     ·exact absurd (List.mem_map.2 ⟨q, e1, by rw [e, e2]⟩ : x.2.1 ∈ l.map fun p => p.2.1) hn.1
     ·exact ih hn.2 e1 e2
   exact key h.nd hq1 hp
  subst this
  rw [hm] at hq2; cases hq2
 have hbn : look (σ.adds (A.filter fun p => m p.1)).bx p.2.1 = none := by
  rw [look_addB, lookV_none hout, Option.none_or]; exact h.bn p hp
 have hef := efg_alloc (P := P) (C := C) (nt := nt) (σ := σ.adds (A.filter fun p => m p.1)) hT h4 h3 (by simpa [Nat.blt_eq] using h.lt p hp) ht hbn
 refine hef.run L a w hr K Q' fun L' σ' a' w' e h5 h6 => hk L' a' w' ?_ (hs.chg h6.chg) (fun i hi => ?_) (fun k hk' => ?_)
 ·subst e
  have hmm : ∀ q ∈ A.filter (fun q => m q.1 || q.1 == p.1), q ∈ A.filter (fun q => m q.1) ∨ q = p := fun q hq => by
   obtain ⟨hq1, hq2⟩ := List.mem_filter.1 hq
   simp only [Bool.or_eq_true, beq_iff_eq] at hq2
   rcases hq2 with hq2 | hq2
   ·exact .inl (List.mem_filter.2 ⟨hq1, hq2⟩)
   ·right
    have key : ∀ {l : Vars}, (nos l).Nodup → q ∈ l → p ∈ l → q = p := by
     intro l
     induction l with
     | nil => intro _ h; simp at h
     | cons x l ih =>
      intro hn h1 h2
      simp only [List.map_cons, List.nodup_cons] at hn
      rcases List.mem_cons.1 h1 with e1 | e1 <;> rcases List.mem_cons.1 h2 with e2 | e2
      ·rw [e1, e2]
      ·exact absurd (List.mem_map.2 ⟨p, e2, by rw [← hq2, e1]⟩ : x.1 ∈ nos l) hn.1
      ·exact absurd (List.mem_map.2 ⟨q, e1, by rw [hq2, e2]⟩ : x.1 ∈ nos l) hn.1
      ·exact ih hn.2 e1 e2
    exact key h.ni hq1 hp
  refine h5.sub' (fun i u hu => ?_) (fun i x hx => ?_) (fun k c hc => hc) (h.okA fun p hp => (List.mem_filter.1 hp).1)
  ·simp only [St.put, look_cons]
   rw [look_addT] at hu ⊢
   split at hu
   ·rename_i hc
    simp only [List.contains_iff_mem, List.mem_map] at hc
    obtain ⟨q, hq, rfl⟩ := hc
    rcases hmm q hq with hq | rfl
    ·rw [if_neg (hout q hq), if_pos (by simp only [List.contains_iff_mem, List.mem_map]; exact ⟨q, hq, rfl⟩)]
     exact hu
    ·rw [if_pos rfl]; exact hu
   ·rename_i hc
    split
    ·rename_i e; rw [e, h.tn p hp] at hu; cases hu
    ·split
     ·rename_i h7
      exfalso
      apply hc
      simp only [List.contains_iff_mem, List.mem_map] at h7 ⊢
      obtain ⟨q, hq, e⟩ := h7
      obtain ⟨hq1, hq2⟩ := List.mem_filter.1 hq
      exact ⟨q, List.mem_filter.2 ⟨hq1, by simp [hq2]⟩, e⟩
     ·exact hu
  ·simp only [St.put, look_cons]
   rw [look_addB] at hx ⊢
   have hnd' : ((A.filter fun q => m q.1 || q.1 == p.1).map fun p => p.2.1).Nodup := (List.Sublist.map _ List.filter_sublist).nodup h.nd
   have hnd2 : ((A.filter fun q => m q.1).map fun p => p.2.1).Nodup := (List.Sublist.map _ List.filter_sublist).nodup h.nd
   by_cases hq : ∃ q ∈ A.filter (fun q => m q.1 || q.1 == p.1), q.2.1 = i
   ·obtain ⟨q, hq, rfl⟩ := hq
    rw [lookV_mem hnd' hq, Option.some_or] at hx
    rcases hmm q hq with hq | rfl
    ·rw [if_neg (hout q hq), lookV_mem hnd2 hq, Option.some_or]; exact hx
    ·rw [if_pos rfl]; exact hx
   ·rw [lookV_none (fun q hq' e => hq ⟨q, hq', e⟩), Option.none_or] at hx
    split
    ·rename_i e; rw [e, h.bn p hp] at hx; cases hx
    ·rw [lookV_none (fun q hq' e => hq ⟨q, List.mem_filter.2 ⟨(List.mem_filter.1 hq').1, by simp [(List.mem_filter.1 hq').2]⟩, e⟩), Option.none_or]
     exact hx
 ·obtain ⟨x, hx⟩ := Option.isSome_iff_exists.1 (List.all_eq_true.1 hob i hi)
  rw [h6.box i x (h.bxE vfm i x hx)]; exact hB i hi
 ·obtain ⟨c, hc⟩ := Option.isSome_iff_exists.1 (List.all_eq_true.1 hok k hk')
  rw [h6.key k c hc]; exact hK k hk'
theorem wpOp_inl {ops : Array Oper} {Q' : Exit → Act → World → Prop} {i : Nat} {oi : Oper} {K : Act → World → Prop} {a : Act} {w : World} (hi : ops[i]? = some oi) (hg : oi.guard = none) (h : oi.wp P a w K Q') : wpOp P ops Q' i K a w := by
 unfold wpOp
 simp only [hi]
 have hw : Region.wanted oi (yielded ops a.tmps) = true := by simp [Region.wanted, hg]
 rw [if_pos hw]
 exact .inl h
theorem d_vars0 (A : Vars) (h : OpsA P C nt Q all oB oK hd' A listed fuel σ) : OpsD P C nt Q all oB oK hd' listed (fuel + A.length) σ := ⟨fun wb L a w hr hs hw hB hK => by
 have e1 : A.filter (fun p => (fun _ : Nat => false) p.1) = [] := by rw [List.filter_eq_nil_iff]; simp
 have e2 : A.filter (fun p => !(fun _ : Nat => false) p.1) = A := by rw [List.filter_eq_self]; simp
 have := h.run (fun _ => false) wb L a w (by rw [e1]; exact hr) hs hw hB hK
 rw [e1, e2] at this
 exact this⟩
theorem a_exit (hv : VOk P all nt A σ) (hob : (oB.all fun i => (look σ.bx i).isSome) = true) (hok : (oK.all fun k => (lkk σ k).isSome) = true) (hr0 : readyN all listed A = true) (h : OpsD P C nt Q all oB oK hd' (setAll listed (nos A)) fuel (σ.adds A)) : OpsA P C nt Q all oB oK hd' A listed fuel σ := by
 refine ⟨fun m => ?_⟩
 obtain ⟨n, hn⟩ : ∃ n, n = (A.filter fun p => !m p.1).length := ⟨_, rfl⟩
 induction n generalizing m with
 | zero =>
  intro wb L a w hr hs hw hB hK
  have hall : A.filter (fun p => m p.1) = A := by
   rw [List.filter_eq_self]
   intro p hp
   cases hm : m p.1 with
   | true => rfl
   | false =>
    have : p ∈ A.filter fun p => !m p.1 := List.mem_filter.2 ⟨hp, by simp [hm]⟩
    rw [List.eq_nil_of_length_eq_zero hn.symm] at this
    simp at this
  rw [← hn, hall]
  rw [hall] at hr
  exact h.run wb L a w hr hs hw hB hK
 | succ n ih =>
  intro wb L a w hr hs hw hB hK
  have h1 := List.all_eq_true.1 hr0 _ (vfilt_sub m)
  rw [← hn]
  simp only [Bool.or_eq_true, beq_iff_eq, Bool.and_eq_true, Bool.not_eq_true', List.all_eq_true] at h1
  rcases h1 with h1 | ⟨h1, h2⟩
  ·exfalso
   have : A.filter (fun p => m p.1) = A := List.Sublist.eq_of_length List.filter_sublist h1
   rw [List.filter_eq_self] at this
   have h3 : (A.filter fun p => !m p.1) = [] := by rw [List.filter_eq_nil_iff]; intro p hp; simp [this p hp]
   rw [h3] at hn; simp at hn
  ·refine ⟨fun e => (by rw [e] at h1; simp at h1), fun j hj => ?_⟩
   obtain ⟨g1, g2⟩ := h2 j hj
   have hjA : j ∈ nos A := by simpa using g1
   have hmj := vfilt_nos g1 g2
   have hlen := vfilt_len hv.ni hjA hmj
   obtain ⟨oj, k1, k2, k3⟩ := lay_one_var (Q' := QQ P C nt Q) (K := fun a' w' => (hd' j = true → SW wb w') ∧ wpAnyT P .any all (QQ P C nt Q) (SW wb) hd' (fuel + n) ((setAll listed (nos (A.filter fun p => m p.1))).setIfInBounds j true) a' w') hv hjA hmj hr hs hB hK hob hok
    (fun L' a' w' q1 q2 q3 q4 => ⟨fun _ => q2, by
     have := ih (fun i => m i || i == j) (by omega) wb L' a' w' q1 q2 hw q3 q4
     rw [vfilt_set hjA] at this
     rw [show n = (A.filter fun p => !(m p.1 || p.1 == j)).length by omega]
     exact this⟩)
   exact wpOp_inl k1 k2 k3
theorem a_step (i : Nat) (hi : all[i]? = some o) (hg : o.guard = none) (hv : VOk P all nt A σ) (hiA : (nos A).contains i = false) (hob : (oB.all fun i => (look σ.bx i).isSome) = true) (hok : (oK.all fun k => (lkk σ k).isSome) = true) (hr0 : readyI all listed A i = true)
  (hp : ∀ B : Vars, (∀ p ∈ B, p ∈ A) → EfG P C nt o (σ.adds B) (fun σ' => σ' = σ₁.adds B ∨ ∀ L a w, Rel P C nt L σ' a w → Rel P C nt L (σ₁.adds B) a w)) (h : OpsA P C nt Q all oB oK hd' A (listed.setIfInBounds i true) fuel σ₁) : OpsA P C nt Q all oB oK hd' A listed (fuel + 1) σ := by
 refine ⟨fun m => ?_⟩
 obtain ⟨n, hn⟩ : ∃ n, n = (A.filter fun p => !m p.1).length := ⟨_, rfl⟩
 induction n generalizing m with
 | zero =>
  intro wb L a w hr hs hw hB hK
  have h1 := List.all_eq_true.1 hr0 _ (vfilt_sub m)
  simp only [Bool.and_eq_true, List.all_eq_true, Bool.or_eq_true, beq_iff_eq, Bool.not_eq_true'] at h1
  rw [← hn]
  refine ⟨fun e => (by rw [e] at h1; simp at h1), fun j hj => ?_⟩
  rcases h1.2 j hj with rfl | ⟨g1, g2⟩
  ·refine wpOp_inl hi hg ((hp _ vfm).run L a w hr _ _ fun L' σ' a' w' e h5 h6 => ⟨fun _ => hs.chg h6.chg, ?_⟩)
   have h7 : Rel P C nt L' (σ₁.adds (A.filter fun p => m p.1)) a' w' := by
    rcases e with e | e
    ·rw [← e]; exact h5
    ·exact e _ _ _ h5
   have := h.run m wb L' a' w' h7 (hs.chg h6.chg) hw (fun i hi => by
    obtain ⟨x, hx⟩ := Option.isSome_iff_exists.1 (List.all_eq_true.1 hob i hi)
    rw [h6.box i x (hv.bxE vfm i x hx)]; exact hB i hi) (fun k hk' => by
    obtain ⟨c, hc⟩ := Option.isSome_iff_exists.1 (List.all_eq_true.1 hok k hk')
    rw [h6.key k c hc]; exact hK k hk')
   rw [← hn, setAll_set (fun hm => by
    obtain ⟨p, hp', e⟩ := List.mem_map.1 hm
    have : (nos A).contains j = true := by simp only [List.contains_iff_mem, List.mem_map]; exact ⟨p, vfm p hp', e⟩
    rw [this] at hiA; cases hiA)] at this
   exact this
  ·exfalso
   have hmj := vfilt_nos g1 g2
   obtain ⟨p, hp', rfl⟩ := List.mem_map.1 (by simpa using g1 : j ∈ nos A)
   have : p ∈ A.filter fun p => !m p.1 := List.mem_filter.2 ⟨hp', by simp [hmj]⟩
   rw [List.eq_nil_of_length_eq_zero hn.symm] at this
   simp at this
 | succ n ih =>
  intro wb L a w hr hs hw hB hK
  have h1 := List.all_eq_true.1 hr0 _ (vfilt_sub m)
  simp only [Bool.and_eq_true, List.all_eq_true, Bool.or_eq_true, beq_iff_eq, Bool.not_eq_true'] at h1
  rw [← hn]
  refine ⟨fun e => (by rw [e] at h1; simp at h1), fun j hj => ?_⟩
  rcases h1.2 j hj with rfl | ⟨g1, g2⟩
  ·refine wpOp_inl hi hg ((hp _ vfm).run L a w hr _ _ fun L' σ' a' w' e h5 h6 => ⟨fun _ => hs.chg h6.chg, ?_⟩)
   have h7 : Rel P C nt L' (σ₁.adds (A.filter fun p => m p.1)) a' w' := by
    rcases e with e | e
    ·rw [← e]; exact h5
    ·exact e _ _ _ h5
   have := h.run m wb L' a' w' h7 (hs.chg h6.chg) hw (fun i hi => by
    obtain ⟨x, hx⟩ := Option.isSome_iff_exists.1 (List.all_eq_true.1 hob i hi)
    rw [h6.box i x (hv.bxE vfm i x hx)]; exact hB i hi) (fun k hk' => by
    obtain ⟨c, hc⟩ := Option.isSome_iff_exists.1 (List.all_eq_true.1 hok k hk')
    rw [h6.key k c hc]; exact hK k hk')
   rw [← hn, setAll_set (fun hm => by
    obtain ⟨p, hp', e⟩ := List.mem_map.1 hm
    have : (nos A).contains j = true := by simp only [List.contains_iff_mem, List.mem_map]; exact ⟨p, vfm p hp', e⟩
    rw [this] at hiA; cases hiA)] at this
   rw [show fuel + (n + 1) = fuel + 1 + n by omega] at this
   exact this
  ·have hjA : j ∈ nos A := by simpa using g1
   have hmj := vfilt_nos g1 g2
   have hlen := vfilt_len hv.ni hjA hmj
   obtain ⟨oj, k1, k2, k3⟩ := lay_one_var (Q' := QQ P C nt Q) (K := fun a' w' => (hd' j = true → SW wb w') ∧ wpAnyT P .any all (QQ P C nt Q) (SW wb) hd' (fuel + 1 + n) ((setAll listed (nos (A.filter fun p => m p.1))).setIfInBounds j true) a' w') hv hjA hmj hr hs hB hK hob hok
    (fun L' a' w' q1 q2 q3 q4 => ⟨fun _ => q2, by
     have := ih (fun i => m i || i == j) (by omega) wb L' a' w' q1 q2 hw q3 q4
     rw [vfilt_set hjA] at this
     rw [show n = (A.filter fun p => !(m p.1 || p.1 == j)).length by omega]
     exact this⟩)
   exact wpOp_inl k1 k2 k3
theorem VOk.perm {tm : List (Nat × SV)} {bx : List (Nat × TypeId × List CV)} {ks : List (Nat × Option KC)} (hv : VOk P all nt A ⟨(d, v) :: tm, bx, ks⟩) {B : Vars} (hB : ∀ p ∈ B, p ∈ A) {C : Ctx} {L : Lyt} {a : Act} {w : World} (hr : Rel P C nt L ⟨(d, v) :: addT B tm, addB B bx, ks⟩ a w) : Rel P C nt L (St.adds ⟨(d, v) :: tm, bx, ks⟩ B) a w :=
 hr.sub' (fun i u hu => by
  simp only [look_cons]
  rw [look_addT] at hu ⊢
  split at hu
  ·rename_i hc
   have hne : i ≠ d := by
    rintro rfl
    simp only [List.contains_iff_mem, List.mem_map] at hc
    obtain ⟨q, hq, rfl⟩ := hc
    have := hv.tn q (hB q hq)
    rw [look_cons, if_pos rfl] at this
    cases this
   rw [if_neg hne, if_pos hc]; exact hu
  ·rename_i hc
   simp only [look_cons] at hu
   split at hu
   ·rename_i e; rw [if_pos e]; exact hu
   ·rename_i e; rw [if_neg e, if_neg hc]; exact hu) (fun _ _ h => h) (fun _ _ h => h) (hv.okA hB)
def vokB (all : Array Oper) (nt : Nat) (A : Vars) (tms bxs : List Nat) : Bool :=
 (A.all fun p => (match all[p.1]? with
  | some o => o.guard.isNone && o.dst == some p.2.1 && (match o.op with | .alloc t => t == p.2.2.1 | _ => false)
  | none => false) && Nat.blt p.2.1 nt && !(tms.contains p.2.1) && !(bxs.contains p.2.1)) && nodupB (A.map fun p => p.2.1) && nodupB (nos A)
def VTys (T : TT) : Vars → Prop
 | [] => True
 | p :: A => (∃ sz by_, look T.el p.2.2.1 = some (sz, by_, p.2.2.2)) ∧ p.2.2.2.flatMap CV.keys = [] ∧ VTys T A
theorem VTys.mem {T : TT} : ∀ {A : Vars}, VTys T A → ∀ p ∈ A, (∃ sz by_, look T.el p.2.2.1 = some (sz, by_, p.2.2.2)) ∧ p.2.2.2.flatMap CV.keys = []
 | [], _, p, hp => by simp at hp
 | q :: A, h, p, hp => by
  rcases List.mem_cons.1 hp with rfl | hp
  ·exact ⟨h.1, h.2.1⟩
  ·exact h.2.2.mem p hp
theorem look_out {α : Type} : ∀ {l : List (Nat × α)} {j : Nat}, (l.map fun p => p.1).contains j = false → look l j = none
 | [], _, _ => by simp [look]
 | p :: l, j, h => by
  simp only [List.map_cons, List.contains_cons, Bool.or_eq_false_iff] at h
  obtain ⟨k, x⟩ := p
  rw [look_cons, if_neg (by simpa using h.1)]
  exact look_out h.2
theorem vok {T : TT} (hT : TTOk P T) (ht : VTys T A) (hb : vokB all nt A (σ.tm.map fun p => p.1) (σ.bx.map fun p => p.1) = true) (ho : σ.okB = true) : VOk P all nt A σ := by
 simp only [vokB, Bool.and_eq_true, List.all_eq_true, Bool.not_eq_true'] at hb
 obtain ⟨⟨h1, h2⟩, h3⟩ := hb
 refine ⟨fun p hp => ?_, fun p hp => ?_, fun p hp => by have := (h1 p hp).1.1.2; simpa [Nat.blt_eq] using this, fun p hp => (ht.mem p hp).2, fun p hp => look_out (h1 p hp).2, fun p hp => look_out (h1 p hp).1.2, nodupB_spec h2, nodupB_spec h3, ho⟩
 ·have := (h1 p hp).1.1.1
  split at this
  ·rename_i oj hoj
   simp only [Bool.and_eq_true, beq_iff_eq, Option.isNone_iff_eq_none] at this
   refine ⟨oj, hoj, this.1.1, this.1.2, ?_⟩
   have h4 := this.2
   split at h4
   ·rename_i t e; rw [e]; rw [beq_iff_eq] at h4; rw [h4]
   ·cases h4
  ·cases this
 ·obtain ⟨⟨sz, by_, h⟩, _⟩ := ht.mem p hp
  exact ⟨T, sz, by_, hT, h⟩
/-! the steps, over states that are written out -/
section
variable {tm : List (Nat × SV)} {bx : List (Nat × TypeId × List CV)} {ks : List (Nat × Option KC)}
theorem d_vars {T : TT} {A : Vars} (hT : TTOk P T) (ht : VTys T A) (h : OpsA P C nt Q all oB oK hd' A listed fuel ⟨tm, bx, ks⟩) : OpsD P C nt Q all oB oK hd' listed (fuel + A.length) ⟨tm, bx, ks⟩ := d_vars0 A h
theorem a_exit1 (hv : VOk P all nt A ⟨tm, bx, ks⟩) (hob : (oB.all fun i => (look bx i).isSome) = true) (hok : (oK.all fun k => (lkk ⟨tm, bx, ks⟩ k).isSome) = true) (hr0 : readyN all listed A = true) (h : OpsD P C nt Q all oB oK hd' (setAll listed (nos A)) fuel ⟨addT A tm, addB A bx, ks⟩) : OpsA P C nt Q all oB oK hd' A listed fuel ⟨tm, bx, ks⟩ := a_exit hv hob hok hr0 h
theorem a_take (i : Nat) (hi : all[i]? = some o) (ht : takeA hd' all listed A i = true) (hiA : (nos A).contains i = false) (hg : o.guard = none) (hd : o.dst = some d) (hv : VOk P all nt A ⟨tm, bx, ks⟩) (hv1 : VOk P all nt A ⟨(d, v) :: tm, bx, ks⟩) (hp : Pu P C nt o ⟨tm, bx, ks⟩ v Ks Bs) (h1 : (Ks.all fun k => oK.contains k) = true) (h2 : (Bs.all fun k => oB.contains k) = true) (hn : Nat.blt d nt = true) (hk : svOk ⟨tm, bx, ks⟩ v = true)
  (h : OpsA P C nt Q all oB oK hd' A (listed.setIfInBounds i true) fuel ⟨(d, v) :: tm, bx, ks⟩) : OpsA P C nt Q all oB oK hd' A listed (fuel + 1) ⟨tm, bx, ks⟩ := ⟨fun m wb L a w hr hs hw hB hK => by
 have hx := hv.ext (C := C) (B := A.filter fun p => m p.1) vfm
 obtain ⟨r, h3, h4⟩ := pu_yields hr hs hw hB hK (hx.pu hp) h1 h2
 rw [show fuel + 1 + (A.filter fun p => !m p.1).length = fuel + (A.filter fun p => !m p.1).length + 1 by omega]
 refine T_take i (v := r) hi (List.all_eq_true.1 ht _ (vfilt_sub m)) (fun _ _ _ h => h) hs (.inl ⟨by simp [Region.wanted, hg], h4⟩) ?_
 rw [hd, ← setAll_set (fun hm => by
  obtain ⟨p, hp', e⟩ := List.mem_map.1 hm
  have : (nos A).contains i = true := by simp only [List.contains_iff_mem, List.mem_map]; exact ⟨p, vfm p hp', e⟩
  rw [this] at hiA; cases hiA)]
 refine h.run m wb L _ w (hv1.perm vfm ?_) hs hw hB hK
 refine hr.put (by simpa [Nat.blt_eq] using hn) h3 (svOk_spec hk).1 fun b hb => ?_
 obtain ⟨x, hx'⟩ := Option.isSome_iff_exists.1 ((svOk_spec hk).2 b hb)
 rw [hx.bx b x hx']; rfl⟩
theorem a_takeX (i : Nat) (hi : all[i]? = some o) (ht : takeAX hd' all listed A i = true) (hex : extO o = true) (hiA : (nos A).contains i = false) (hg : o.guard = none) (hd : o.dst = some d) (hv : VOk P all nt A ⟨tm, bx, ks⟩) (hv1 : VOk P all nt A ⟨(d, v) :: tm, bx, ks⟩) (hp : Pu P C nt o ⟨tm, bx, ks⟩ v Ks Bs) (hn : Nat.blt d nt = true) (hk : svOk ⟨tm, bx, ks⟩ v = true)
  (h : OpsA P C nt Q all oB oK hd' A (listed.setIfInBounds i true) fuel ⟨(d, v) :: tm, bx, ks⟩) : OpsA P C nt Q all oB oK hd' A listed (fuel + 1) ⟨tm, bx, ks⟩ := ⟨fun m wb L a w hr hs hw hB hK => by
 have hx := hv.ext (C := C) (B := A.filter fun p => m p.1) vfm
 obtain ⟨r, h3, h4⟩ := (hx.pu hp).run L a w hr
 rw [show fuel + 1 + (A.filter fun p => !m p.1).length = fuel + (A.filter fun p => !m p.1).length + 1 by omega]
 refine T_takeX i (v := r) hi (List.all_eq_true.1 ht _ (vfilt_sub m)) (fun _ _ _ h => h) (.inl ⟨by simp [Region.wanted, hg], fun w' _ => ext_any hex (h4 w fun _ _ _ => rfl) w'⟩) ?_
 rw [hd, ← setAll_set (fun hm => by
  obtain ⟨p, hp', e⟩ := List.mem_map.1 hm
  have : (nos A).contains i = true := by simp only [List.contains_iff_mem, List.mem_map]; exact ⟨p, vfm p hp', e⟩
  rw [this] at hiA; cases hiA)]
 refine h.run m wb L _ w (hv1.perm vfm ?_) hs hw hB hK
 refine hr.put (by simpa [Nat.blt_eq] using hn) h3 (svOk_spec hk).1 fun b hb => ?_
 obtain ⟨x, hx'⟩ := Option.isSome_iff_exists.1 ((svOk_spec hk).2 b hb)
 rw [hx.bx b x hx']; rfl⟩
theorem a_call (i : Nat) {f : FuncId} {xs : List Operand} {ats : Array TypeId} {us : List SV} (hi : all[i]? = some o) (ht : readyI all listed A i = true) (hiA : (nos A).contains i = false) (hg : o.guard = none) (hd : o.dst = some d) (hv : VOk P all nt A ⟨tm, bx, ks⟩) (hv1 : VOk P all nt A ⟨(d, X) :: tm, bx, ks⟩) (ho : o.op = .call { callee := .value (.func f), args := xs.toArray, argTypes := ats })
  (hc : ∀ (args : Array Value) (w : World), (callFunc f args).run P w = .ok (.enter f args) w) (hf : PFn P f us X) (ha : ArgSs P C nt ⟨tm, bx, ks⟩ xs us) (hp : X.plain = true) (hn : Nat.blt d nt = true)
  (hb : (oB.all fun i => (look bx i).isSome) = true) (hk : (oK.all fun k => (lkk ⟨tm, bx, ks⟩ k).isSome) = true)
  (h : OpsA P C nt Q all oB oK hd' A (listed.setIfInBounds i true) fuel ⟨(d, X) :: tm, bx, ks⟩) : OpsA P C nt Q all oB oK hd' A listed (fuel + 1) ⟨tm, bx, ks⟩ :=
 a_step i hi hg hv hiA hb hk ht (fun B hB => EfG.mk fun L a w hr K Q' hk' =>
  ((pc_p ho hc hf hp ((hv.ext hB).args ha)).efg (σ := St.adds ⟨tm, bx, ks⟩ B) hd hn).run L a w hr K Q' fun L' σ' a' w' h1 h2 h3 => hk' L' σ' a' w' (.inr (by
   obtain ⟨u, hu, e⟩ := h1
   subst e
   subst hu
   exact fun L a w hr => hv1.perm hB hr)) h2 h3) h
end
end
end Go.Proofs.YtoigmlbidpocnaaGreat

namespace Go.Proofs.YtoigmlbidpocnaaGreat
open Go.RowKit
open Go.Proofs
def TTab : TT where
 sl := [(22, 5), (24, 34), (30, 77), (40, 9), (47, 22), (70, 110), (71, 113), (84, 3), (108, 128)]
 ag := [(7, 4), (13, 2), (28, 3), (29, 3), (31, 1), (32, 1), (33, 7), (34, 7), (54, 4), (72, 4), (73, 4), (76, 2), (77, 2), (79, 3), (80, 3), (109, 3), (110, 3), (112, 2), (113, 2), (125, 3), (126, 3), (127, 4), (128, 4)]
 on := [(2, ()), (3, ()), (4, ()), (5, ()), (9, ()), (12, ()), (21, ()), (22, ()), (24, ()), (30, ()), (40, ()), (47, ()), (70, ()), (71, ()), (78, ()), (84, ()), (104, ()), (106, ()), (108, ())]
 of := [(7000, 0), (7001, 1), (7002, 2), (7003, 3), (13000, 0), (13001, 1), (28000, 0), (28001, 1), (28002, 2), (29000, 0), (29001, 1), (29002, 2), (31000, 0), (32000, 0), (33000, 0), (33001, 1), (33002, 2), (33003, 5), (33004, 6), (34000, 0), (34001, 1), (34002, 2), (34003, 5), (34004, 6), (72000, 0), (72001, 1), (72002, 2), (72003, 3), (73000, 0), (73001, 1), (73002, 2), (73003, 3), (76000, 0), (76001, 1), (77000, 0), (77001, 1), (79000, 0), (79001, 1), (79002, 2), (80000, 0), (80001, 1), (80002, 2), (109000, 0), (109001, 1), (109002, 2), (110000, 0), (110001, 1), (110002, 2), (112000, 0), (112001, 1), (113000, 0), (113001, 1), (125000, 0), (125001, 1), (125002, 2), (126000, 0), (126001, 1), (126002, 2), (127000, 0), (127001, 3), (128000, 0), (128001, 3)]
 el := [(2, (1, 8, [.dv [] (.int .i64 0)])), (3, (1, 8, [.dv [] (.int .i64 0)])), (4, (1, 1, [.dv [] (.bool false)])), (5, (1, 1, [.dv [] (.int .u8 0)])), (7, (4, 24, [.dv [] (.int .i64 0), .dv [] (.int .i64 0), .dv [] (.bool false), .dv [] (.int .u8 0)])), (9, (1, 16, [.dv [] (.str ByteArray.empty)])), (12, (1, 8, [.dv [] (.int .u64 0)])), (13, (2, 24, [.dv [] (.str ByteArray.empty), .dv [] (.int .u64 0)])), (21, (1, 4, [.dv [] (.int .i32 0)])), (22, (1, 24, [.nil])), (24, (1, 24, [.nil])), (28, (3, 32, [.dv [] (.int .i64 0), .dv [] (.int .i64 0), .dv [] (.str ByteArray.empty)])), (29, (3, 32, [.dv [] (.int .i64 0), .dv [] (.int .i64 0), .dv [] (.str ByteArray.empty)])), (30, (1, 24, [.nil])), (31, (1, 24, [.nil])), (32, (1, 24, [.nil])), (33, (7, 96, [.dv [] (.int .i64 0), .dv [] (.str ByteArray.empty), .dv [] (.int .i64 0), .dv [] (.int .i64 0), .dv [] (.str ByteArray.empty), .nil, .dv [] (.str ByteArray.empty)])), (34, (7, 96, [.dv [] (.int .i64 0), .dv [] (.str ByteArray.empty), .dv [] (.int .i64 0), .dv [] (.int .i64 0), .dv [] (.str ByteArray.empty), .nil, .dv [] (.str ByteArray.empty)])), (40, (1, 24, [.nil])), (47, (1, 24, [.nil])), (54, (4, 96, [.nil, .nil, .nil, .nil])), (70, (1, 24, [.nil])), (71, (1, 24, [.nil])), (72, (4, 72, [.dv [] (.str ByteArray.empty), .dv [] (.int .i64 0), .nil, .nil])), (73, (4, 72, [.dv [] (.str ByteArray.empty), .dv [] (.int .i64 0), .nil, .nil])), (76, (2, 24, [.dv [] (.str ByteArray.empty), .dv [] (.int .i64 0)])), (77, (2, 24, [.dv [] (.str ByteArray.empty), .dv [] (.int .i64 0)])), (78, (1, 8, [.dv [] (.int .u64 0)])), (79, (3, 40, [.nil, .dv [] (.int .i64 0), .dv [] (.int .i64 0)])), (80, (3, 40, [.nil, .dv [] (.int .i64 0), .dv [] (.int .i64 0)])), (84, (1, 24, [.nil])), (104, (1, 4, [.dv [] (.int .u32 0)])), (106, (1, 8, [.dv [] (.int .u64 0)])), (108, (1, 24, [.nil])), (109, (3, 48, [.dv [] (.str ByteArray.empty), .nil, .dv [] (.int .i64 0)])), (110, (3, 48, [.dv [] (.str ByteArray.empty), .nil, .dv [] (.int .i64 0)])), (112, (2, 32, [.dv [] (.str ByteArray.empty), .dv [] (.str ByteArray.empty)])), (113, (2, 32, [.dv [] (.str ByteArray.empty), .dv [] (.str ByteArray.empty)])), (125, (3, 40, [.dv [] (.int .i64 0), .dv [] (.str ByteArray.empty), .dv [] (.str ByteArray.empty)])), (126, (3, 40, [.dv [] (.int .i64 0), .dv [] (.str ByteArray.empty), .dv [] (.str ByteArray.empty)])), (127, (4, 56, [.dv [] (.int .i64 0), .dv [] (.int .i64 0), .dv [] (.str ByteArray.empty), .nil])), (128, (4, 56, [.dv [] (.int .i64 0), .dv [] (.int .i64 0), .dv [] (.str ByteArray.empty), .nil]))]
 st := [(9, ())]
 bo := [(4, ())]
 it := [(2, .i64), (3, .i64), (5, .u8), (12, .u64), (21, .i32), (78, .u64), (104, .u32), (106, .u64)]
def BTab : List (Nat × List (Nat × Nat)) := [(7, [(0, 1), (1, 1), (2, 1), (3, 1)]), (13, [(0, 1), (1, 1)]), (28, [(0, 1), (1, 1), (2, 1)]), (29, [(0, 1), (1, 1), (2, 1)]), (31, [(0, 1)]), (32, [(0, 1)]), (33, [(0, 1), (1, 1), (2, 3), (5, 1), (6, 1)]), (34, [(0, 1), (1, 1), (2, 3), (5, 1), (6, 1)]), (72, [(0, 1), (1, 1), (2, 1), (3, 1)]), (73, [(0, 1), (1, 1), (2, 1), (3, 1)]), (76, [(0, 1), (1, 1)]), (77, [(0, 1), (1, 1)]), (79, [(0, 1), (1, 1), (2, 1)]), (80, [(0, 1), (1, 1), (2, 1)]), (109, [(0, 1), (1, 1), (2, 1)]), (110, [(0, 1), (1, 1), (2, 1)]), (112, [(0, 1), (1, 1)]), (113, [(0, 1), (1, 1)]), (125, [(0, 1), (1, 1), (2, 1)]), (126, [(0, 1), (1, 1), (2, 1)]), (127, [(0, 3), (3, 1)]), (128, [(0, 3), (3, 1)])]

theorem hT : TTOk Tryz.prog TTab := TT.ok (by kernel_rfl)
theorem hB : BOk Tryz.prog BTab := bOk (by kernel_rfl)
theorem eql_Key (a : Int) (b : Int) (s : ByteArray) (a' : Int) (b' : Int) (s' : ByteArray) (w : World) : (binOp .eql 29 (.agg [Value.int .i64 a, .int .i64 b, .string s].toArray) (.agg [Value.int .i64 a', .int .i64 b', .string s'].toArray)).run Tryz.prog w = .ok (.bool (((decide (a = a') && (decide (b = b') && sEq s s'))))) w := by
 rw [run_eql_struct]; simp [go_sem, sEq]; by_cases h_a : a = a' <;> by_cases h_b : b = b' <;> by_cases h_s : s.toList = s'.toList <;> simp [h_a, h_b, h_s]
theorem neq_Field (s : ByteArray) (a : Int) (s' : ByteArray) (a' : Int) (w : World) : (binOp .neq 77 (.agg [Value.string s, .int .i64 a].toArray) (.agg [Value.string s', .int .i64 a'].toArray)).run Tryz.prog w = .ok (.bool (!((sEq s s' && decide (a = a'))))) w := by
 rw [run_neq_struct]; simp [go_sem, sEq]; by_cases h_s : s.toList = s'.toList <;> by_cases h_a : a = a' <;> simp [h_s, h_a]
theorem eql_Def (s : ByteArray) (u : ByteArray) (s' : ByteArray) (u' : ByteArray) (w : World) : (binOp .eql 113 (.agg [Value.string s, .string u].toArray) (.agg [Value.string s', .string u'].toArray)).run Tryz.prog w = .ok (.bool (((sEq s s' && sEq u u')))) w := by
 rw [run_eql_struct]; simp [go_sem, sEq]; by_cases h_s : s.toList = s'.toList <;> by_cases h_u : u.toList = u'.toList <;> simp [h_s, h_u]
@[reducible] def eByte (b : UInt8) : List DV := [.int .u8 (b.toNat : Int)]
@[reducible] def eInt (n : Int) : List DV := [.int .i64 n]
@[reducible] def eStr (s : Str) : List DV := [.str s]
@[reducible] def bytesD (bs : List UInt8) : DV := listD 5 1 eByte bs
@[reducible] def intsD (bs : List Int) : DV := listD 3 1 eInt bs
@[reducible] def strsD (bs : List Str) : DV := listD 9 1 eStr bs
@[reducible] def eField (f : FieldT) : List DV := [.str f.1, .int .i64 f.2]
@[reducible] def fieldsD (r : RecT) : DV := listD 77 2 eField r
@[reducible] def eItem (x : ItemT) : List DV := [.int .i64 x.1.1, .int .i64 x.1.2.1, .str x.1.2.2, fieldsD x.2]
@[reducible] def itemsD (xs : List ItemT) : DV := listD 128 4 eItem xs
@[reducible] def eStore (s : StoreT) : List DV := [.str s.1, itemsD s.2.1, .int .i64 s.2.2]
@[reducible] def storesD (xs : List StoreT) : DV := listD 110 3 eStore xs
@[reducible] def eDef (d : DefT) : List DV := [.str d.1, .str d.2]
@[reducible] def defsD (xs : List DefT) : DV := listD 113 2 eDef xs
@[reducible] def eOp (o : OpT) : List DV := [.int .i64 o.1, .str o.2.1, .int .i64 o.2.2.1.1, .int .i64 o.2.2.1.2.1, .str o.2.2.1.2.2, fieldsD o.2.2.2.1, .str o.2.2.2.2]
@[reducible] def opsD (xs : List OpT) : DV := listD 34 7 eOp xs
end Go.Proofs.YtoigmlbidpocnaaGreat

namespace Go.Proofs.YtoigmlbidpocnaaGreat
open Go.RowKit
set_option linter.unusedVariables false
set_option linter.unusedSimpArgs false

section
variable {P : Program}
theorem lay_bytes {ok : Nat → Prop} {w : World} : ∀ {bs : List UInt8} {vs : List Value}, LayL ok w (bs.flatMap fun b => [DV.int .u8 (b.toNat : Int)]) vs → vs = bs.map fun b => Value.int .u8 (b.toNat : Int)
 | [], _, h => by simpa [LayL] using h
 | b :: bs, _, h => by
  simp only [List.flatMap_cons, List.singleton_append, LayL] at h
  obtain ⟨v, vs', rfl, h1, h2⟩ := h
  simp only [Lay] at h1
  rw [h1.1, lay_bytes h2]; rfl
theorem allR_bytes {w : World} {B : Nat} : ∀ bs : List UInt8, AllR (byteC.Rd w B) bs (bs.map fun b => Value.int .u8 (b.toNat : Int))
 | [] => rfl
 | b :: bs => ⟨[_], _, rfl, rfl, allR_bytes bs⟩
theorem rd_of_lay {ok : Nat → Prop} {w : World} {e : Nat} {bs : List UInt8} {v : Value} (h : Lay ok w (.sl e 1 bs.length (bs.flatMap fun b => [DV.int .u8 (b.toNat : Int)])) v) : ∃ A c, v = .slice A bs.length c ∧ bytesC.Rd w w.heap.size bs [.slice A bs.length c] := by
 simp only [Lay] at h
 obtain ⟨A, c, vs, rfl, h1, h2, h3, h4, h5, h6⟩ := h
 have hvs := lay_bytes h5
 subst hvs
 refine ⟨A, c, rfl, A, c, _, rfl, h1, h2, allR_bytes bs, fun hn => ?_⟩
 obtain ⟨b, off, e1, _, e3⟩ := h6 hn
 exact ⟨b, off, e1, cell_lt (e3 0 _ (by rw [List.getElem?_map, List.getElem?_eq_getElem hn]; rfl)), e3⟩
theorem own_of_slice {α : Type} {w : World} {e : Nat} {C' : Cod α} {enc : α → List DV} (he : e < 1000000) (hl : ∀ x, (enc x).length = C'.size) (hx : ∀ x cs f, C'.Own w x cs f → OwnL w (enc x) cs f) {xs : List α} {v : Value} {fp : List Nat} (h : (sliceC e C').Own w xs [v] fp) : Own w (.sl e C'.size xs.length (xs.flatMap enc)) v fp := by
 obtain ⟨u, cells, f, h1, h2, h3, h4⟩ := h
 simp only [List.cons.injEq, and_true] at h1
 subst h1
 have key : ∀ (xs : List α) (cs : List Value) (g : List Nat), AllO (C'.Own w) xs cs g → OwnL w (xs.flatMap enc) cs g := by
  intro xs
  induction xs with
  | nil => intro cs g h; obtain ⟨rfl, rfl⟩ := h; simp [OwnL]
  | cons x xs ih =>
   rintro cs g ⟨c1, c2, f1, f2, rfl, rfl, h1, h2⟩
   rw [List.flatMap_cons]
   exact ownL_append _ _ _ _ _ _ (hx _ _ _ h1) (ih _ _ h2)
 unfold Own
 exact ⟨_, _, h2, C'.pos, flat_len hl xs, rowE_of he h3, key _ _ _ h4⟩
theorem own_of_bytes {w : World} {bs : List UInt8} {v : Value} {fp : List Nat} (h : bytesC.Own w bs [v] fp) : Own w (.sl 5 1 bs.length (bs.flatMap fun b => [DV.int .u8 (b.toNat : Int)])) v fp :=
 own_of_slice (C' := byteC) (by decide) (fun _ => rfl) (fun x cs f h => by
  obtain ⟨rfl, rfl⟩ := h
  have := ownL_bytes w [x]
  simpa using this) h
theorem rel_blank {C : Ctx} {nt : Nat} {L : Lyt} {σ : St} {a : Act} {w : World} (h : Rel P C nt L σ a w) (r : Value) : Rel P C 1 L ⟨[], [], []⟩ ⟨#[r], []⟩ w where
 df := rfl
 sz := rfl
 tm := fun i v hv => by cases hv
 bx := fun i t cs h => by cases h
 ks := fun k c h => by cases h
 b1 := fun i x h => by cases h
 k1 := fun k c h => by cases h
 kn := fun k c h => by cases h
 bb := fun i j x y h => by cases h
 bk := fun i k x c h => by cases h
 kk := fun k j c d h => by cases h
 lk := fun k hk => by simp [St.tk] at hk
 lb := fun b hb => by simp [St.tb] at hb
 s0 := h.s0
 chg := h.chg
theorem ret_slice {C : Ctx} {nt : Nat} {L : Lyt} {σ : St} {a : Act} {w w' : World} (h : Rel P C nt L σ a w) {e sz m : Nat} {cs : List DV} {v : Value} {fp : List Nat} (r : Value) (ho : Own w' (.sl e sz m cs) v fp) (hf : Fresh w.heap.size fp) (hc : Chg [] w w') :
  ∃ L', L'.rv 0 = v ∧ Rel P C 1 L' ⟨[], [], [(0, some (KC.mk false e sz m cs))]⟩ ⟨#[r], []⟩ w' := by
 have h1 := (rel_blank h r).newkey' hc (k := 0) (c := KC.mk false e sz m cs) (v := v) (f := fp) rfl ho rfl hf.1 hf.2
 exact ⟨_, by simp, h1⟩
theorem enum_get (us : List SV) {i : Nat} {v : SV} (h : us[i]? = some v) : look (enumS 0 us) i = some v := by
 have key : ∀ (l : List SV) (j i : Nat), l[i]? = some v → look (enumS j l) (j + i) = some v := by
  intro l
  induction l with
  | nil => intro j i h; simp at h
  | cons u l ih =>
   intro j i h
   simp only [enumS, look_cons]
   cases i with
   | zero => simpa using h
   | succ i =>
    rw [if_neg (by omega), show j + (i + 1) = j + 1 + i by omega]
    exact ih (j + 1) i (by simpa using h)
 simpa using key us 0 i h
@[reducible] def ArgsAt (P : Program) (us : List SV) (w : World) (vals : List Value) : Prop := ∃ (C : Ctx) (L : Lyt), ∀ (i : Nat) (v : SV), us[i]? = some v → ∃ x, vals[i]? = some x ∧ SVr P C L w v x
theorem args_at {C : Ctx} {L : Lyt} {w : World} {us : List SV} {vals : List Value} (hl : vals.length = us.length) {bx : List (Nat × TypeId × List CV)} {ks : List (Nat × Option KC)} {nt : Nat} (hr : Rel P C nt L ⟨enumS 0 us, bx, ks⟩ ⟨vals.toArray, []⟩ w) : ArgsAt P us w vals := by
 refine ⟨C, L, fun i v hv => ?_⟩
 have hi : i < vals.length := by rw [hl]; exact (List.getElem?_eq_some_iff.1 hv).1
 refine ⟨vals[i], List.getElem?_eq_getElem hi, ?_⟩
 have h1 := hr.tm i v (enum_get us hv)
 have h2 : vals.toArray.getD i undef = vals[i] := by simp [Array.getD_eq_getD_getElem?, List.getElem?_eq_getElem hi]
 simpa only [h2] using h1
def plainT (ts : List (DV × Value)) : Prop := ∀ t ∈ ts, ∀ (ok : Nat → Prop) (w : World), Lay ok w t.1 t.2
theorem kfn_tup {f : FuncId} {us : List SV} {e sz m : Nat} {cs : List DV} {ts : List (DV × Value)} (ht : plainT ts) (h : ∀ (w : World) (vals : List Value), vals.length = us.length → ArgsAt P us w vals →
   Calls P f vals.toArray w fun x w' => ∃ v fp, x = .returned (.tuple (v :: ts.map (·.2)).toArray) ∧ Own w' (.sl e sz m cs) v fp ∧ Fresh w.heap.size fp ∧ Chg [] w w') :
  KFn P f us (.tup ((false, [.key 0]) :: ts.map fun t => (false, [CV.dv [] t.1]))) [(0, some (KC.mk false e sz m cs))] := by
 refine ⟨fun w S0 L vals hl hr => ?_⟩
 refine (h w vals hl (args_at hl hr)).mono ?_
 rintro x w' ⟨v, fp, rfl, ho, hf, hc⟩
 obtain ⟨L', h1, h2⟩ := ret_slice hr (.tuple (v :: ts.map (·.2)).toArray) ho hf hc
 refine ⟨_, .tup ((false, [.key 0]) :: ts.map fun t => (false, [CV.dv [] t.1])), ⟨[], [], _⟩, L', rfl, ⟨rfl, rfl⟩, ?_⟩
 have key : ∀ ts : List (DV × Value), plainT ts → TVL ⟨w, S0, L.rv⟩ L' w' (ts.map fun t => (false, [CV.dv [] t.1])) (ts.map (·.2)) := by
  intro ts
  induction ts with
  | nil => intro _; rfl
  | cons t ts ih =>
   intro ht
   exact ⟨[t.2], t.2, _, rfl, ⟨t.2, [], rfl, ht t (by simp) _ _, rfl⟩, by simp, ih (fun u hu => ht u (by simp [hu]))⟩
 have kk : ∀ ts : List (DV × Value), ((ts.map fun t => (false, [CV.dv [] t.1])).flatMap fun t => t.2.flatMap CV.keys) = [] := by
  intro ts
  induction ts with
  | nil => rfl
  | cons t ts ih => simp only [List.map_cons, List.flatMap_cons, ih]; rfl
 refine h2.also (d := 0) ?_ ?_ (by simp [SV.boxes])
 ·simp only [SVr]
  refine ⟨_, by simp [Array.getD], [v], v, _, rfl, ⟨v, [], rfl, by simp only [CVr]; exact h1.symm, rfl⟩, by simp, key ts ht⟩
 ·intro k hk
  simp only [SV.keys, List.flatMap_cons, kk, CV.keys, List.flatMap_nil, List.append_nil, List.mem_singleton] at hk
  subst hk
  simp [lkk, look_cons]
theorem pfn_ret {f : FuncId} {us : List SV} {X : SV} {v : Value} (hX : X.plain = true) (hv : ∀ C L w, SVr P C L w X v) (h : ∀ (w : World) (vals : List Value), vals.length = us.length → ArgsAt P us w vals → Calls P f vals.toArray w (Ret v w)) : PFn P f us X := by
 refine ⟨fun w S0 L vals hl hr => ?_⟩
 refine (h w vals hl (args_at hl hr)).mono ?_
 rintro x w' ⟨rfl, hc⟩
 obtain ⟨p1, p2, p3, p4⟩ := sv_plain_ret hX
 refine ⟨_, X, ⟨[], [], []⟩, L, rfl, rfl, ?_⟩
 exact ((rel_blank hr v).grow hc).also (d := 0) (v := X) (by simpa [Array.getD] using hv _ _ _) (by rw [p2]; simp) (by rw [p3]; simp)
end
end Go.Proofs.YtoigmlbidpocnaaGreat

namespace Go.Proofs.YtoigmlbidpocnaaGreat
open Go.RowKit
open Go.Proofs
set_option linter.unusedVariables false
set_option linter.unusedSimpArgs false

def sgnS (a b : Str) : Int := if sLt a b then -1 else if sLt b a then 1 else 0
theorem toList_loop (s : ByteArray) : ∀ (n i : Nat) (r : List UInt8), s.size - i = n → ByteArray.toList.loop s i r = r.reverse ++ s.data.toList.drop i := by
 intro n
 induction n with
 | zero =>
  intro i r h
  rw [ByteArray.toList.loop, if_neg (by omega), List.drop_eq_nil_of_le (by have : s.data.toList.length = s.size := rfl; omega)]; simp
 | succ n ih =>
  intro i r h
  have hl : s.data.toList.length = s.size := rfl
  have hi : i < s.data.toList.length := by omega
  rw [ByteArray.toList.loop, if_pos (by omega), ih (i + 1) _ (by omega), List.drop_eq_getElem_cons hi]
  have : s.get! i = s.data.toList[i] := by
   rw [ByteArray.get!]
   simp only [Array.getElem_toList]
   exact getElem!_pos s.data i (by simpa using hi)
  rw [this]
  simp
theorem toList_data (s : ByteArray) : s.toList = s.data.toList := by
 rw [ByteArray.toList, toList_loop s _ 0 [] rfl]; simp
end Go.Proofs.YtoigmlbidpocnaaGreat

namespace Go.Proofs.YtoigmlbidpocnaaGreat
open Go.RowKit
open Go.Proofs

def byteV (b : UInt8) : Value := .int .u8 (b.toNat : Int)
theorem infoByte : (Tryz.prog.info? 5).map (fun i => (i.zero, i.size, i.bytes)) = some (some (.int .u8 0), 1, 1) := by kernel_rfl
theorem all_bytes {w : World} : ∀ (bs : List UInt8), AllO (byteC.Own w) bs (bs.map byteV) []
 | [] => ⟨rfl, rfl⟩
 | _ :: bs => ⟨_, _, [], [], rfl, rfl, ⟨rfl, rfl⟩, all_bytes bs⟩
theorem byte_at {w : World} {B : Nat} {bs : List UInt8} {A : Option Addr} {n c k : Nat} (h : bytesC.Rd w B bs [.slice A n c]) (hk : k < n) :
  ∃ b off v, A = some ⟨b, off, none⟩ ∧ b < B ∧ bs[k]? = some v ∧ w.cell? ⟨b, off + k, none⟩ = some (.int .u8 (v.toNat : Int)) := by
 have hl : k < bs.length := by rw [← rds_len h]; exact hk
 obtain ⟨b, off, ci, rfl, hb, hr, hc⟩ := rd_at h (List.getElem?_eq_getElem hl)
 have hci : ci = [.int .u8 ((bs[k]).toNat : Int)] := hr
 subst hci
 have := hc 0 _ rfl
 simp only [byteC, Nat.mul_one, Nat.add_zero] at this
 exact ⟨b, off, bs[k], rfl, hb, List.getElem?_eq_getElem hl, this⟩

end Go.Proofs.YtoigmlbidpocnaaGreat

namespace Go.Proofs.YtoigmlbidpocnaaGreat
open Go.RowKit
open Go.Proofs
theorem own_new {α : Type} {e : TypeId} {C : Cod α} {w : World} {k : Nat} (hk : k = w.heap.size) : (sliceC e C).Own (w.alloc (.cells #[] e)) [] [.slice (some ⟨k, 0, none⟩) 0 0] [k] :=
 ⟨_, [], [], rfl, rfl, own_empty (heap_alloc_eq hk), rfl, rfl⟩

theorem bytes_row {w : World} {bs : List UInt8} {A : Option Addr} {n c : Nat} (h : bytesC.Rd w w.heap.size bs [.slice A n c]) :
  n = bs.length ∧ n ≤ c ∧ c ≤ maxLen ∧ RowRd w A n 1 (bs.map byteV) ∧ (0 < n → ∃ b off, A = some ⟨b, off, none⟩ ∧ b < w.heap.size) := by
 obtain ⟨h1, h2, h3, cells, h4, h5, h6⟩ := rd_row h
 have : ∀ (bs : List UInt8) cells, AllR (byteC.Rd w w.heap.size) bs cells → cells = bs.map byteV := by
  intro bs
  induction bs with
  | nil => intro cells h; exact h
  | cons b bs ih => intro cells h; obtain ⟨c1, c2, e, g1, g2⟩ := h; rw [e, ih _ g2]; rw [show c1 = [.int .u8 (b.toNat : Int)] from g1]; rfl
 rw [this _ _ h4] at h5
 exact ⟨h1, h2, h3, h5, h6⟩

set_option maxHeartbeats 400000 in
theorem impl_copyBytes (w : World) (bs : List UInt8) (A : Option Addr) (n c : Nat) (hr : bytesC.Rd w w.heap.size bs [.slice A n c]) (hsz : n ≤ 1073741824) :
  Calls Tryz.prog 40 #[.slice A n c] w (RetV bytesC bs w) := by
 obtain ⟨hl, _, _, hrow, hlt⟩ := bytes_row hr
 have HL := Lib.hid hl
 clear hl hr
 go_enter Tryz.func40, Tryz.ntmps40
 go_wp2_with (first | (at_builtin; refine wpList_push byteC _ rfl _ _ _ rfl 5 _ 1 Tryz.underlying22 infoByte rfl _ 0 0 rfl [] [w.heap.size] (own_new (by simp)) A n c rfl bs [] (bs.map byteV) (hrow.chg hlt (Nat.le_refl _) ((Chg.refl _ _).alloc _)) (all_bytes _) HL.out (by simp) (by simp only [maxLen]; omega) (by omega) ?hk))
 case hk =>
  intro A' c' w1 fp hown hnd hfp hchg
  have H1 := Lib.hid hown
  have H2 := Lib.hid (((Chg.refl [] w).alloc _).andThen hchg (by simp))
  have H3 := Lib.hid hfp
  clear hown hchg hfp
  go_wp2
  go_ret
  exact ⟨A', n, c', fp, rfl, H1.out, ⟨hnd, fun b hb => by have h := H3.out b hb; (try simp at h); omega⟩, H2.out⟩

theorem all_take {α : Type} {r : α → List Value → Prop} {n : Nat} (h : ∀ x c, r x c → c.length = n) : ∀ (xs : List α) (cs : List Value) (j : Nat), AllR r xs cs → AllR r (xs.take j) (cs.take (j * n))
 | [], cs, j, hc => by simp [AllR] at hc; simp [hc, AllR]
 | x :: xs, _, 0, _ => by simp [AllR]
 | x :: xs, _, j + 1, ⟨c1, c2, e, h1, h2⟩ => by
  refine ⟨c1, c2.take (j * n), ?_, h1, all_take h xs c2 j h2⟩
  have hl := h _ _ h1
  rw [e, List.take_append, hl, List.take_of_length_le (by rw [hl, Nat.add_mul]; omega)]
  congr 2
  rw [Nat.add_mul]; omega
theorem rd_take {α : Type} {e : TypeId} {C : Cod α} {w : World} {B : Nat} {xs : List α} {A : Option Addr} {n c : Nat} (h : (sliceC e C).Rd w B xs [.slice A n c]) (j : Nat) (hj : j ≤ n) :
  (sliceC e C).Rd w B (xs.take j) [.slice A j c] := by
 obtain ⟨A', c', cells, e1, h2, h3, h4, h5⟩ := h
 simp only [List.cons.injEq, Value.slice.injEq, and_true] at e1
 obtain ⟨rfl, rfl, rfl⟩ := e1
 have hl : (xs.take j).length = j := by simp; omega
 refine ⟨A, c, cells.take (j * C.size), by rw [hl], by omega, h3, all_take (fun _ _ hr => C.rd_len hr) _ _ j h4, fun hp => ?_⟩
 obtain ⟨b, off, e1, e2, e3⟩ := h5 (by omega)
 refine ⟨b, off, e1, e2, fun i u hu => e3 i u ?_⟩
 rw [List.getElem?_take] at hu
 split at hu
 ·exact hu
 ·cases hu

end Go.Proofs.YtoigmlbidpocnaaGreat

namespace Go.Proofs.YtoigmlbidpocnaaGreat
open Go.RowKit
open Go.Proofs

def hstep (acc v : Int) : Int := (acc * 1000003 + v % 2147483647 + 13) % 2147483647
def hashL (l : List Int) : Int := l.foldl hstep 11
def b2i (n : Nat) (l : List UInt8) : List Int := (n : Int) :: l.map (fun b => (b.toNat : Int))
def checkV (number : Int) (bs : List UInt8) : Int := hashL ([101, number] ++ b2i bs.length bs)
end Go.Proofs.YtoigmlbidpocnaaGreat

namespace Go.Proofs.YtoigmlbidpocnaaGreat
open Go.RowKit
open Go.Proofs

def uv (n : Nat) : List UInt8 := if n < 128 then [UInt8.ofNat n] else UInt8.ofNat (n % 128 + 128) :: uv (n / 128)
termination_by n
decreasing_by omega
def appUO (b : List UInt8) (n : Int) : List UInt8 := if 0 ≤ n ∧ n ≤ 1000000000000 then b ++ uv n.toNat else b


end Go.Proofs.YtoigmlbidpocnaaGreat

namespace Go.Proofs.YtoigmlbidpocnaaGreat
open Go.RowKit
open Go.Proofs

def appBO (b d : List UInt8) : List UInt8 := appUO b d.length ++ d

def rdF : Nat → Nat → Nat → List UInt8 → Option (Nat × Nat)
 | 0, _, _, _ => none
 | _ + 1, _, _, [] => none
 | f + 1, i, acc, x :: r =>
  if x.toNat < 128 then (if (0 < i ∧ x.toNat = 0) ∨ 1000000000000 < acc + (x.toNat % 128) * 2 ^ (7 * i) then none else some (acc + (x.toNat % 128) * 2 ^ (7 * i), i + 1))
  else rdF f (i + 1) (acc + (x.toNat % 128) * 2 ^ (7 * i)) r
def rdU (b : List UInt8) (off : Int) : Option (Nat × Nat) := if 0 ≤ off ∧ off < b.length then rdF 6 0 0 (b.drop off.toNat) else none
def retU (off : Int) : Option (Nat × Nat) → Value
 | none => .tuple #[.int .i64 0, .int .i64 0, .bool false]
 | some (v, k) => .tuple #[.int .i64 (v : Int), .int .i64 (off + (k : Int)), .bool true]


theorem rd_step (k acc : Nat) (hk : k < 6) (x : UInt8) (r : List UInt8) : rdF (6 - k) k acc (x :: r) =
  if x.toNat < 128 then (if (0 < k ∧ x.toNat = 0) ∨ 1000000000000 < acc + (x.toNat % 128) * 2 ^ (7 * k) then none else some (acc + (x.toNat % 128) * 2 ^ (7 * k), k + 1))
  else rdF (6 - (k + 1)) (k + 1) (acc + (x.toNat % 128) * 2 ^ (7 * k)) r := by
 rw [show 6 - k = (6 - (k + 1)) + 1 by omega]; rfl
theorem pow_le (k : Nat) (hk : k < 6) : 2 ^ (7 * k) ≤ 34359738368 := Nat.le_trans (Nat.pow_le_pow_right (by omega) (show 7 * k ≤ 35 by omega)) (by decide)
theorem acc_next {k acc x : Nat} (ha : acc < 2 ^ (7 * k)) : acc + (x % 128) * 2 ^ (7 * k) < 2 ^ (7 * (k + 1)) := by
 have h1 : x % 128 ≤ 127 := by omega
 have h2 : (x % 128) * 2 ^ (7 * k) ≤ 127 * 2 ^ (7 * k) := Nat.mul_le_mul_right _ h1
 rw [show 7 * (k + 1) = 7 * k + 7 by omega, Nat.pow_add]
 omega
theorem drop_at {α : Type} {l : List α} {i : Nat} {v : α} (h : l[i]? = some v) : l.drop i = v :: l.drop (i + 1) := by
 obtain ⟨h1, h2⟩ := List.getElem?_eq_some_iff.1 h
 rw [List.drop_eq_getElem_cons h1, h2]
theorem byte_adds (v : UInt8) (k : Nat) (hk : k < 6) : ∃ t : Nat, v.toNat % 128 * 2 ^ (7 * k) = t ∧ ((v.toNat : Int) % 128) * 2 ^ (7 * k) = (t : Int) ∧ (t : Int) ≤ 4398046511104 := by
 refine ⟨_, rfl, by push_cast; rfl, ?_⟩
 have h1 := pow_le k hk
 have h2 : v.toNat % 128 * 2 ^ (7 * k) ≤ 128 * 34359738368 := Nat.mul_le_mul (by omega) h1
 omega

set_option maxRecDepth 100000 in
set_option maxHeartbeats 1000000 in
theorem impl_ReadUvarint (w : World) (bs : List UInt8) (A : Option Addr) (n c : Nat) (off : Int) (hr : bytesC.Rd w w.heap.size bs [.slice A n c]) (hn : n ≤ 16777216) :
    Calls Tryz.prog 24 #[.slice A n c, .int .i64 off] w (fun e w' => e = .returned (retU off (rdU bs off)) ∧ w = w') := by
  have HR := Lib.hid hr
  have HN := Lib.hid (rds_len hr)
  clear hr
  by_cases hoff : 0 ≤ off ∧ off < n
  · have HU : Hid (rdU bs off = rdF 6 0 0 (bs.drop off.toNat)) := if_pos (by have := HN.out; omega)
    obtain ⟨h1, h2⟩ := hoff
    obtain ⟨o, rfl⟩ := Int.eq_ofNat_of_zero_le h1
    rw [Int.toNat_natCast] at HU
    have hd1 : decide ((o : Int) < 0) = false := decide_eq_false (by omega)
    go_enter Tryz.func24, Tryz.ntmps24
    go_wp2
    go_loop [4, 5, 6, 7, 8] (fun _ _ _ a i => ∃ k acc : Nat, k ≤ 6 ∧ i = .int .i64 k ∧ a = .int .i64 acc ∧ acc < 2 ^ (7 * k) ∧ rdF 6 0 0 (bs.drop o) = rdF (6 - k) k acc (bs.drop (o + k))) (fun _ _ _ _ i => 6 - (intOf i).toNat)
    case atStart => exact ⟨0, 0, by omega, rfl, rfl, by decide, rfl⟩
    case round =>
      obtain ⟨k, acc, hk, rfl, rfl, hacc, hrd⟩ := hrel
      have HA := Lib.hid hacc
      have HD := Lib.hid hrd
      by_cases hlt : k < 6 ∧ o + k < n
      · obtain ⟨g1, g2⟩ := hlt
        have hab : (acc : Int) ≤ 34359738368 := by have := pow_le k g1; omega
        clear hacc hrd
        obtain ⟨b, off', v, rfl, hb, hv, hc⟩ := byte_at HR.out g2
        obtain ⟨t, ht, htI, htb⟩ := byte_adds v k g1
        have hv1 : (0 : Int) ≤ (v.toNat : Int) := by omega
        have hv2 : (v.toNat : Int) ≤ 255 := by have := v.toNat_lt; omega
        have HV : Hid (rdF (6 - k) k acc (bs.drop (o + k)) = _) := (congrArg (rdF (6 - k) k acc) (drop_at hv)).trans (rd_step k acc g1 v _)
        rw [ht] at HV
        have HT := Lib.hid ht
        clear hv ht
        by_cases hx : v.toNat < 128
        · have hx1 : (v.toNat : Int) < 128 := by omega
          by_cases hbad : (0 < k ∧ v.toNat = 0) ∨ 1000000000000 < acc + t
          · have HF := Lib.hid (show rdU bs o = none by rw [HU.out, HD.out, HV.out, if_pos hx, if_pos hbad])
            have hbad1 : (0 < (k : Int) ∧ (v.toNat : Int) = 0) ∨ (1000000000000 : Int) < (acc : Int) + t := by omega
            clear hbad
            rcases hbad1 with ⟨g3, g4⟩ | g3
            · rw [g4] at hc
              have htz : t = 0 := by rw [← HT.out]; have : v.toNat = 0 := by omega
                                     rw [this]; simp
              subst htz
              rw [g4] at htI
              clear htI hx1 hv1 hv2 g4
              go_wp2
              go_ret3
              exact ⟨by rw [HF.out]; rfl, rfl⟩
            · go_wp2
              all_goals
                go_ret3
                exact ⟨by rw [HF.out]; rfl, rfl⟩
          · have HF := Lib.hid (show rdU bs o = some (acc + t, k + 1) by rw [HU.out, HD.out, HV.out, if_pos hx, if_neg hbad])
            have hgood : ((k : Int) ≤ 0 ∨ 1 ≤ (v.toNat : Int)) ∧ (acc : Int) + t ≤ 1000000000000 := by omega
            obtain ⟨g3, g4⟩ := hgood
            clear hbad
            have hval : Hid (Value.tuple #[.int .i64 ((acc : Int) + (t : Int)), .int .i64 ((o : Int) + (k : Int) + 1), .bool true] = retU o (some (acc + t, k + 1))) := by
              show _ = _
              simp [retU, Int.add_assoc]
            rcases g3 with g3 | g3
            all_goals
              go_wp2
              all_goals
                go_ret3
                first
                  | exact ⟨by rw [HF.out, ← hval.out]; rfl, rfl⟩
                  | (exfalso; rename_i h9 _; rcases h9 with h9 | h9 <;> first | omega | (have h10 : (v.toNat : Int) = 0 := eq_of_beq h9; omega))
        · have hx1 : (128 : Int) ≤ (v.toNat : Int) := by omega
          have HF := Lib.hid (show rdF (6 - k) k acc (bs.drop (o + k)) = rdF (6 - (k + 1)) (k + 1) (acc + t) (bs.drop (o + (k + 1))) by rw [HV.out, if_neg hx]; rfl)
          go_wp2
          refine ⟨⟨_, _, _, _, _, ⟨k + 1, by omega, rfl, acc + t, rfl, by rw [← HT.out]; exact acc_next HA.out, by rw [HD.out, HF.out]⟩, rfl, rfl, rfl, by go_num, by go_num⟩, by simp [intOf]; omega⟩
      · have HF := Lib.hid (show rdU bs o = none by
          rw [HU.out, HD.out]
          by_cases h6 : k = 6
          · subst h6; rfl
          · rw [List.drop_eq_nil_of_le (by have := HN.out; omega)]
            rw [show 6 - k = (6 - (k + 1)) + 1 by omega]; rfl)
        clear hacc hrd
        have hend : (6 : Int) ≤ (k : Int) ∨ ((k : Int) < 6 ∧ (n : Int) ≤ (o : Int) + (k : Int)) := by omega
        clear hlt
        rcases hend with g3 | ⟨g3, g4⟩
        all_goals
          go_wp2
          go_ret3
          exact ⟨by rw [HF.out]; rfl, rfl⟩
  · have HF := Lib.hid (show rdU bs off = none from if_neg (by have := HN.out; omega))
    have hout : off < 0 ∨ (0 ≤ off ∧ (n : Int) ≤ off) := by omega
    clear hoff
    rcases hout with g3 | ⟨g3, g4⟩
    all_goals
      go_enter Tryz.func24, Tryz.ntmps24
      go_wp2
      go_ret3
      exact ⟨by rw [HF.out]; rfl, rfl⟩
end Go.Proofs.YtoigmlbidpocnaaGreat

namespace Go.Proofs.YtoigmlbidpocnaaGreat
open Go.RowKit
open Go.Proofs

theorem rdF_some : ∀ (f i acc : Nat) (l : List UInt8) (v k : Nat), rdF f i acc l = some (v, k) → v ≤ 1000000000000 ∧ i < k ∧ k ≤ i + l.length
 | 0, _, _, _, _, _, h => by simp [rdF] at h
 | _ + 1, _, _, [], _, _, h => by simp [rdF] at h
 | f + 1, i, acc, x :: r, v, k, h => by
  unfold rdF at h
  split at h
  ·split at h
   ·cases h
   ·rename_i hb
    simp only [Option.some.injEq, Prod.mk.injEq] at h
    obtain ⟨rfl, rfl⟩ := h
    simp only [not_or] at hb
    refine ⟨by omega, by omega, by simp⟩
  ·have h2 := rdF_some f (i + 1) _ r v k h
   simp only [List.length_cons]
   omega
theorem rdU_some {bs : List UInt8} {off : Int} {v k : Nat} (h : rdU bs off = some (v, k)) : ∃ o p : Nat, off = o ∧ p = o + k ∧ 0 < k ∧ p ≤ bs.length ∧ v ≤ 1000000000000 := by
 unfold rdU at h
 split at h
 ·rename_i h1
  obtain ⟨h2, h3⟩ := h1
  have h4 := rdF_some _ _ _ _ _ _ h
  rw [List.length_drop] at h4
  exact ⟨off.toNat, off.toNat + k, by omega, rfl, by omega, by omega, h4.1⟩
 ·cases h
def rdB (bs : List UInt8) (off : Int) (most : Int) : Option (List UInt8 × Nat) :=
 match rdU bs off with
 | none => none
 | some (v, k) => if (v : Int) ≤ most ∧ off.toNat + k + v ≤ bs.length then some ((bs.drop (off.toNat + k)).take v, off.toNat + k + v) else none
def tailB : Option (List UInt8 × Nat) → List Value
 | none => [.int .i64 0, .bool false]
 | some (_, p) => [.int .i64 (p : Int), .bool true]
def headB : Option (List UInt8 × Nat) → List UInt8
 | none => []
 | some (d, _) => d
def RetT {α : Type} (C : Cod (List α)) (x : List α) (t : List Value) (w : World) (e : Ending) (w' : World) : Prop :=
 ∃ A n c fp, e = .returned (.tuple (Value.slice A n c :: t).toArray) ∧ C.Own w' x [.slice A n c] fp ∧ Fresh w.heap.size fp ∧ Chg [] w w'
theorem all_drop {α : Type} {r : α → List Value → Prop} {n : Nat} (h : ∀ x c, r x c → c.length = n) : ∀ (xs : List α) (cs : List Value) (j : Nat), AllR r xs cs → AllR r (xs.drop j) (cs.drop (j * n))
 | [], cs, j, hc => by simp [AllR] at hc; simp [hc, AllR]
 | x :: xs, cs, 0, hc => by simpa using hc
 | x :: xs, _, j + 1, ⟨c1, c2, e, h1, h2⟩ => by
  have hl := h _ _ h1
  rw [e, List.drop_succ_cons, Nat.add_mul, List.drop_append, List.drop_of_length_le (l := c1) (by rw [hl]; omega), List.nil_append, hl]
  rw [show j * n + 1 * n - n = j * n by omega]
  exact all_drop h xs c2 j h2
theorem rd_drop {α : Type} {e : TypeId} {C : Cod α} {w : World} {B : Nat} {xs : List α} {b o n c : Nat} (h : (sliceC e C).Rd w B xs [.slice (some ⟨b, o, none⟩) n c]) (j : Nat) (hj : j ≤ n) (hz : 0 < n) :
  (sliceC e C).Rd w B (xs.drop j) [.slice (some ⟨b, o + j * C.size, none⟩) (n - j) (c - j)] := by
 obtain ⟨A', c', cells, e1, h2, h3, h4, h5⟩ := h
 simp only [List.cons.injEq, Value.slice.injEq, and_true] at e1
 obtain ⟨rfl, rfl, rfl⟩ := e1
 refine ⟨_, _, cells.drop (j * C.size), by rw [List.length_drop], by rw [List.length_drop]; omega, by omega, all_drop (fun _ _ hr => C.rd_len hr) _ _ j h4, fun hp => ?_⟩
 obtain ⟨b', off, e1, e2, e3⟩ := h5 (by omega)
 cases e1
 refine ⟨b, o + j * C.size, rfl, e2, fun i u hu => ?_⟩
 rw [List.getElem?_drop] at hu
 rw [Nat.add_assoc]
 exact e3 _ u hu

theorem rd_zero {α : Type} {e : TypeId} {C : Cod α} {w : World} {B : Nat} {xs : List α} {A : Option Addr} {v c : Nat} (h : v = 0) (hc : c ≤ 9223372036854775807) : (sliceC e C).Rd w B (xs.take v) [.slice A v c] := by
 subst h
 exact ⟨A, c, [], rfl, Nat.zero_le _, hc, rfl, fun h => absurd h (Nat.lt_irrefl _)⟩
set_option maxRecDepth 100000 in
set_option maxHeartbeats 1000000 in
theorem impl_ReadBytes (w : World) (bs : List UInt8) (A : Option Addr) (n c : Nat) (off : Int) (most : Int) (hr : bytesC.Rd w w.heap.size bs [.slice A n c]) (hn : n ≤ 16777216) :
  Calls Tryz.prog 25 #[.slice A n c, .int .i64 off, .int .i64 most] w (RetT bytesC (headB (rdB bs off most)) (tailB (rdB bs off most)) w) := by
 have hN := rds_len hr
 have hU := impl_ReadUvarint w bs A n c off hr hn
 cases hu : rdU bs off with
 | none =>
  have HB := Lib.hid (show rdB bs off most = none by simp [rdB, hu])
  rw [hu, show retU off none = .tuple #[.int .i64 0, .int .i64 0, .bool false] from rfl] at hU
  have HU := Lib.hid hU
  clear hU hu hr hN
  go_enter Tryz.func25, Tryz.ntmps25
  go_wp2_with fail
  refine (HU.out).mono ?_
  rintro e w' ⟨rfl, rfl⟩
  go_wp2_with fail
  go_ret3
  rw [HB.out]
  exact ⟨_, _, _, [w.heap.size], rfl, own_new rfl, ⟨by simp, by simp⟩, (Chg.refl _ _).alloc _⟩
 | some vk =>
  obtain ⟨v, k⟩ := vk
  obtain ⟨o, p, rfl, hp, hk, hpl, hv⟩ := rdU_some hu
  have hcn := (rd_row hr).2.1
  have hcm := (rd_row hr).2.2.1
  obtain ⟨b, o', rfl, hb⟩ := (bytes_row hr).2.2.2.2 (by omega)
  have hRU : retU (o : Int) (some (v, k)) = .tuple #[.int .i64 (v : Int), .int .i64 (p : Int), .bool true] := by subst hp; simp [retU]
  rw [hu, hRU] at hU
  have HU := Lib.hid hU
  have HN := Lib.hid hN
  have hpn : p ≤ n := by omega
  have hcm2 : c ≤ 9223372036854775807 := by simp only [maxLen] at hcm; omega
  clear hRU hU hcm
  by_cases hok : (v : Int) ≤ most ∧ p + v ≤ n
  ·have HB := Lib.hid (show rdB bs o most = some ((bs.drop p).take v, p + v) by
    unfold rdB; rw [hu]; simp only [Int.toNat_natCast]; rw [← hp, if_pos (by omega)])
   have hD1 := rd_take (rd_drop hr p hpn (by omega)) v (by omega)
   rw [show byteC.size = 1 from rfl, Nat.mul_one] at hD1
   have HD := Lib.hid hD1
   clear hD1
   obtain ⟨h1, h2⟩ := hok
   have h3 : (v : Int) ≤ (n : Int) - (p : Int) := by omega
   clear hr hu hN hp
   go_enter Tryz.func25, Tryz.ntmps25
   go_wp2_with fail
   refine (HU.out).mono ?_
   rintro e w' ⟨rfl, rfl⟩
   go_wp2_with fail
   all_goals
    refine (impl_copyBytes _ ((bs.drop p).take v) _ v _ (by first | exact HD.out | exact rd_zero (by omega) (by omega)) (by omega)).mono ?_
    rintro e w1 ⟨A1, n1, c1, fp, rfl, hown, hfr, hchg⟩
    have HO := Lib.hid hown
    have HF := Lib.hid hfr
    have HC := Lib.hid hchg
    clear hown hfr hchg
    go_wp2_with fail
    go_ret3
    rw [HB.out]
    exact ⟨A1, n1, c1, fp, rfl, HO.out, HF.out, HC.out⟩
  ·have HB := Lib.hid (show rdB bs o most = none by
    unfold rdB; rw [hu]; simp only [Int.toNat_natCast]; rw [← hp, if_neg (by omega)])
   have hok' : most < (v : Int) ∨ ((v : Int) ≤ most ∧ (n : Int) - (p : Int) < (v : Int)) := by omega
   clear hok hr hu hN hp
   rcases hok' with h1 | ⟨h1, h2⟩
   all_goals
    go_enter Tryz.func25, Tryz.ntmps25
    go_wp2_with fail
    refine (HU.out).mono ?_
    rintro e w' ⟨rfl, rfl⟩
    go_wp2_with fail
    go_ret3
    rw [HB.out]
    exact ⟨_, _, _, [w.heap.size], rfl, own_new rfl, ⟨by simp, by simp⟩, (Chg.refl _ _).alloc _⟩
end Go.Proofs.YtoigmlbidpocnaaGreat

namespace Go.Proofs.YtoigmlbidpocnaaGreat
open Go.RowKit
open Go.Proofs

def logOut (bs : List UInt8) (v : Int) (ds : List UInt8) : List UInt8 := appUO (appBO bs ds) (checkV v ds)
def alBad (bs : List UInt8) (v : Int) (ds : List UInt8) : Prop := v < 0 ∨ 4000 < (logOut bs v ds).length
instance (bs : List UInt8) (v : Int) (ds : List UInt8) : Decidable (alBad bs v ds) := by unfold alBad; infer_instance
end Go.Proofs.YtoigmlbidpocnaaGreat

namespace Go.Proofs.YtoigmlbidpocnaaGreat
open Go.RowKit
open Go.Proofs

theorem rdB_some {bs : List UInt8} {off : Int} {most : Int} {d : List UInt8} {nx : Nat} (h : rdB bs off most = some (d, nx)) : off < (nx : Int) ∧ nx ≤ bs.length ∧ d.length ≤ most ∧ d.length ≤ bs.length := by
 unfold rdB at h
 split at h
 ·cases h
 ·rename_i v k hu
  split at h
  ·rename_i hc
   obtain ⟨o, p, rfl, hp, hk, hpl, hv⟩ := rdU_some hu
   simp only [Option.some.injEq, Prod.mk.injEq, Int.toNat_natCast] at h hc
   obtain ⟨rfl, rfl⟩ := h
   simp only [List.length_take, List.length_drop]
   omega
  ·cases h
end Go.Proofs.YtoigmlbidpocnaaGreat

namespace Go.Proofs.YtoigmlbidpocnaaGreat
open Go.RowKit
open Go.Proofs
set_option linter.unusedVariables false
set_option linter.unusedSimpArgs false
theorem pu_eqI {P : Program} {C : Ctx} {nt : Nat} {σ : St} {o : Oper} {Ks Bs K : List Nat} {k : IntKind} {m n : Int} (h : Pu P C nt o σ (.one (.dv K (.int k m))) Ks Bs) (e : m = n) : Pu P C nt o σ (.one (.dv K (.int k n))) Ks Bs := e ▸ h
def uvV (b : List UInt8) (off : Int) : Int := match rdU b off with | none => 0 | some (v, _) => (v : Int)
def uvP (b : List UInt8) (off : Int) : Int := match rdU b off with | none => 0 | some (_, k) => off + (k : Int)
def uvK (b : List UInt8) (off : Int) : Bool := (rdU b off).isSome
def rbP : Option (List UInt8 × Nat) → Int
 | none => 0
 | some (_, p) => (p : Int)
theorem retU_eq (b : List UInt8) (off : Int) : retU off (rdU b off) = .tuple [Value.int .i64 (uvV b off), .int .i64 (uvP b off), .bool (uvK b off)].toArray := by
 unfold uvV uvP uvK
 cases rdU b off with
 | none => rfl
 | some r => obtain ⟨v, k⟩ := r; rfl
theorem uv_bds (b : List UInt8) (off : Int) : 0 ≤ uvV b off ∧ uvV b off ≤ 1000000000000 ∧ 0 ≤ uvP b off ∧ uvP b off ≤ (b.length : Int) := by
 unfold uvV uvP
 cases h : rdU b off with
 | none => simp
 | some r =>
  obtain ⟨v, k⟩ := r
  obtain ⟨o, p, h1, h2, h3, h4, h5⟩ := rdU_some h
  simp only
  omega
theorem tailB_eq (r : Option (List UInt8 × Nat)) : tailB r = [.int .i64 (rbP r), .bool r.isSome] := by
 cases r with
 | none => rfl
 | some q => obtain ⟨d, p⟩ := q; rfl
theorem rb_bds (b : List UInt8) (off most : Int) : 0 ≤ rbP (rdB b off most) ∧ rbP (rdB b off most) ≤ (b.length : Int) ∧ (headB (rdB b off most)).length ≤ b.length := by
 cases h : rdB b off most with
 | none => simp [rbP, headB]
 | some r =>
  obtain ⟨d, p⟩ := r
  have := rdB_some h
  simp only [rbP, headB]
  omega
theorem arg_bytes {P : Program} {us : List SV} {w : World} {vals : List Value} {bs : List UInt8} {i : Nat} (h : ArgsAt P us w vals) (hi : us[i]? = some (.one (.dv [] (bytesD bs)))) : ∃ A c, vals[i]? = some (.slice A bs.length c) ∧ bytesC.Rd w w.heap.size bs [.slice A bs.length c] := by
 obtain ⟨C, L, h⟩ := h
 obtain ⟨u, h1, h2⟩ := h i _ hi
 simp only [SVr, CVr] at h2
 obtain ⟨A, c, rfl, hr⟩ := rd_of_lay h2
 exact ⟨A, c, h1, hr⟩
theorem arg_int {P : Program} {us : List SV} {w : World} {vals : List Value} {n : Int} {i : Nat} (h : ArgsAt P us w vals) (hi : us[i]? = some (.one (.dv [] (.int .i64 n)))) : vals[i]? = some (.int .i64 n) := by
 obtain ⟨C, L, h⟩ := h
 obtain ⟨u, h1, h2⟩ := h i _ hi
 simp only [SVr, CVr, Lay] at h2
 rw [h1, h2.1]
theorem lay_i64 {ok : Nat → Prop} {w : World} {n : Int} (h1 : -9223372036854775808 ≤ n) (h2 : n ≤ 9223372036854775807) : Lay ok w (.int .i64 n) (.int .i64 n) := by
 simp only [Lay]
 exact ⟨trivial, h1, h2⟩
theorem lay_bool {ok : Nat → Prop} {w : World} {b : Bool} : Lay ok w (.bool b) (.bool b) := by
 simp only [Lay]
theorem cv_i64 {C : Ctx} {L : Lyt} {w : World} {n : Int} (h1 : -9223372036854775808 ≤ n) (h2 : n ≤ 9223372036854775807) : CVr C L w (.dv [] (.int .i64 n)) (.int .i64 n) := by
 simp only [CVr]
 exact lay_i64 h1 h2
theorem cv_bool {C : Ctx} {L : Lyt} {w : World} {b : Bool} : CVr C L w (.dv [] (.bool b)) (.bool b) := by
 simp only [CVr]
 exact lay_bool
theorem ok_impl_ReadUvarint {b : List UInt8} {off : Int} (hb : b.length ≤ 16777216) : PFn Tryz.prog 24 [.one (.dv [] (bytesD (b))), .one (.dv [] (.int .i64 (off)))] (.tup [(false, [.dv [] (.int .i64 (uvV b off))]), (false, [.dv [] (.int .i64 (uvP b off))]), (false, [.dv [] (.bool (uvK b off))])]) := by
 have hbd := uv_bds b off
 refine pfn_ret (v := .tuple [Value.int .i64 (uvV b off), .int .i64 (uvP b off), .bool (uvK b off)].toArray) rfl (fun C L w => ?_) (fun w vals hl h => ?_)
 ·simp only [SVr]
  exact ⟨_, rfl, _, _, _, rfl, ⟨_, _, rfl, cv_i64 (by omega) (by omega), rfl⟩, by simp, _, _, _, rfl, ⟨_, _, rfl, cv_i64 (by omega) (by omega), rfl⟩, by simp, _, _, _, rfl, ⟨_, _, rfl, cv_bool, rfl⟩, by simp, rfl⟩
 ·obtain ⟨A, c, h1, hr⟩ := arg_bytes (i := 0) (bs := b) h rfl
  have h3 := arg_int (i := 1) (n := off) h rfl
  obtain rfl : vals = [.slice A b.length c, .int .i64 off] := by
   match vals, hl with
   | [x, y], _ => simp at h1 h3; rw [h1, h3]
  refine (impl_ReadUvarint w b A b.length c off hr hb).mono ?_
  rintro e w' ⟨rfl, rfl⟩
  exact ⟨by rw [retU_eq], Chg.refl _ _⟩
theorem ok_impl_ReadBytes {b : List UInt8} {off m : Int} (hb : b.length ≤ 16777216) : KFn Tryz.prog 25 [.one (.dv [] (bytesD (b))), .one (.dv [] (.int .i64 (off))), .one (.dv [] (.int .i64 (m)))] (.tup [(false, [.key 0]), (false, [.dv [] (.int .i64 (rbP (rdB b off m)))]), (false, [.dv [] (.bool ((rdB b off m).isSome))])]) [(0, some (kcOf false (bytesD (headB (rdB b off m)))))] := by
 have hbd := rb_bds b off m
 refine kfn_tup (ts := [(.int .i64 (rbP (rdB b off m)), .int .i64 (rbP (rdB b off m))), (.bool (rdB b off m).isSome, .bool (rdB b off m).isSome)]) (fun t ht ok w => ?_) (fun w vals hl h => ?_)
 ·simp only [List.mem_cons, List.not_mem_nil, or_false] at ht
  rcases ht with rfl | rfl
  ·exact lay_i64 (by omega) (by omega)
  ·exact lay_bool
 ·obtain ⟨A, c, h1, hr⟩ := arg_bytes (i := 0) (bs := b) h rfl
  have h3 := arg_int (i := 1) (n := off) h rfl
  have h5 := arg_int (i := 2) (n := m) h rfl
  obtain rfl : vals = [.slice A b.length c, .int .i64 off, .int .i64 m] := by
   match vals, hl with
   | [x, y, z], _ => simp at h1 h3 h5; rw [h1, h3, h5]
  refine (impl_ReadBytes w b A b.length c off m hr hb).mono ?_
  rintro e w' ⟨A1, n1, c1, fp, rfl, ho, hf, hc⟩
  exact ⟨_, fp, by rw [tailB_eq]; rfl, own_of_bytes ho, hf, hc⟩
end Go.Proofs.YtoigmlbidpocnaaGreat

namespace Go.Proofs.YtoigmlbidpocnaaGreat
open Go.RowKit
open Go.Proofs
set_option linter.unusedVariables false
set_option linter.unusedSimpArgs false

section
variable {P : Program}
end
section
variable {P : Program} {C : Ctx} {nt : Nat} {σ : St} {L : Lyt} {a : Act} {w : World} {o : Oper} {x y y2 : Operand} {T : TT}
theorem ownL_cut {w : World} : ∀ (k : Nat) {ds : List DV} {vs : List Value} {f : List Nat}, OwnL w ds vs f → ∃ f1 f2, f = f1 ++ f2 ∧ OwnL w (ds.take k) (vs.take k) f1 ∧ OwnL w (ds.drop k) (vs.drop k) f2
 | 0, ds, vs, f, h => ⟨[], f, rfl, by simp [OwnL], by simpa using h⟩
 | k + 1, [], vs, f, h => by
  simp only [OwnL] at h
  obtain ⟨rfl, rfl⟩ := h
  exact ⟨[], [], rfl, by simp [OwnL], by simp [OwnL]⟩
 | k + 1, d :: ds, _, _, h => by
  simp only [OwnL] at h
  obtain ⟨v, vs', f1, f2, rfl, rfl, h1, h2⟩ := h
  obtain ⟨g1, g2, rfl, h3, h4⟩ := ownL_cut k h2
  refine ⟨f1 ++ g1, g2, by simp, ?_, by simpa using h4⟩
  simp only [List.take_succ_cons, OwnL]
  exact ⟨v, _, f1, g1, rfl, rfl, h1, h3⟩
end
theorem ev_keyv' {P : Program} {C : Ctx} {nt : Nat} {σ : St} {x : Operand} {k : Nat} {c : KC} {d : DV} (h : Ev P C nt σ x (.one (.key k))) (hk : lkk σ k = some c) (hd : DV.sl c.e c.sz c.n c.cs = d) : Ev P C nt σ x (.one (.dv [k] d)) := by subst hd; exact ev_keyv h hk
end Go.Proofs.YtoigmlbidpocnaaGreat

namespace Go.Proofs.YtoigmlbidpocnaaGreat
open Go.RowKit
set_option linter.unusedVariables false
set_option linter.unusedSimpArgs false

section
variable {P : Program} {C : Ctx} {nt : Nat} {σ : St} {L : Lyt} {a : Act} {w : World} {o o1 o2 : Oper} {x y : Operand} {T : TT}
theorem getD_setV {t : Array Value} {i d : Nat} {r : Value} (e : i ≠ d) : (t.setIfInBounds d r).getD i undef = t.getD i undef := by
 rw [Array.getD_eq_getD_getElem?, Array.getD_eq_getD_getElem?, Array.getElem?_setIfInBounds_ne (fun e' => e e'.symm)]
theorem killB_some {vs rs : List Nat} {i : Nat} {x : TypeId × List CV} : ∀ {bx : List (Nat × TypeId × List CV)}, look (killB vs rs bx) i = some x → ∃ y, look bx i = some y
 | [], h => by simp [killB, look] at h
 | p :: bx, h => by
  simp only [killB, List.map_cons, look_cons] at h
  obtain ⟨b, q⟩ := p
  rw [look_cons]
  split
  ·exact ⟨_, rfl⟩
  ·rename_i e
   rw [if_neg e] at h
   exact killB_some h
structure SlOk (P : Program) (C : Ctx) (nt : Nat) (σ : St) (o : Oper) (j sz lo hi : Nat) : Prop where
 run : ∀ L a w, Rel P C nt L σ a w → ∀ A n c, L.rv j = .slice A n c → ∀ w', (execOp a.eval o).run P w' = .ok (.value (sliced A lo hi c sz)) w'
theorem key_cap {j : Nat} {c2 : KC} (hr : Rel P C nt L σ a w) (hj : lkk σ j = some c2) {A : Option Addr} {n c : Nat} (e : L.rv j = .slice A n c) : n = c2.n ∧ c2.n ≤ c := by
 have ho := (hr.ks j c2 hj).1
 simp only [Own] at ho
 obtain ⟨vs, f, _, _, _, q4, _⟩ := ho
 rcases (rowE_open q4).2 with ⟨g1, g2⟩ | ⟨g, cap, cur, t, fz, g1, g2, g3, g4, g5, g6⟩
 ·rw [e] at g1
  simp only [Value.slice.injEq] at g1
  exact ⟨by rw [g2]; exact g1.2.1, by omega⟩
 ·rw [e] at g1
  simp only [Value.slice.injEq] at g1
  exact ⟨g1.2.1, by omega⟩
theorem sl_h (hT : TTOk P T) {t e sz by_ j : Nat} {zc : List CV} {c2 : KC} {J : List Nat} {z : Int} (ho : o.op = .slice t x none (some y) none) (h : look T.sl t = some e) (he : look T.el e = some (sz, by_, zc)) (hx : Ev P C nt σ x (.one (.key j))) (hj : lkk σ j = some c2) (hy : Ev P C nt σ y (.one (.dv J (.int .i64 z)))) (h0 : 0 ≤ z) (h1 : z ≤ c2.n) : SlOk P C nt σ o j sz 0 z.toNat := ⟨fun L a w hr A n c e1 w' => by
 have h2 := hx.run L a w hr
 have h3 := hy.run L a w hr
 simp only [SVr, CVr, Lay] at h2 h3
 obtain ⟨k1, k2⟩ := elem_eq (hT.sl t e h)
 obtain ⟨q1, q2⟩ := key_cap hr hj e1
 rw [e1] at h2
 unfold execOp
 simp only [ho, Option.map_none, Option.map_some, h2, h3.1, Sem.run_bind, run_sliceAt_slice _ _ _ _ _ _ k1, run_slice_h w' t A n c k1 .i64 z h0 (by omega), k2, run_sizeT hT he, Result.andThen_ok, Sem.run_pure]⟩
theorem sl_l (hT : TTOk P T) {t e sz by_ j : Nat} {zc : List CV} {c2 : KC} {J : List Nat} {z : Int} (ho : o.op = .slice t x (some y) none none) (h : look T.sl t = some e) (he : look T.el e = some (sz, by_, zc)) (hx : Ev P C nt σ x (.one (.key j))) (hj : lkk σ j = some c2) (hy : Ev P C nt σ y (.one (.dv J (.int .i64 z)))) (h0 : 0 ≤ z) (h1 : z ≤ c2.n) : SlOk P C nt σ o j sz z.toNat c2.n := ⟨fun L a w hr A n c e1 w' => by
 have h2 := hx.run L a w hr
 have h3 := hy.run L a w hr
 simp only [SVr, CVr, Lay] at h2 h3
 obtain ⟨k1, k2⟩ := elem_eq (hT.sl t e h)
 obtain ⟨q1, q2⟩ := key_cap hr hj e1
 rw [e1] at h2
 unfold execOp
 rw [← q1]
 simp only [ho, Option.map_none, Option.map_some, h2, h3.1, Sem.run_bind, run_sliceAt_slice _ _ _ _ _ _ k1, run_slice_l w' t A n c k1 .i64 z h0 (by omega), k2, run_sizeT hT he, Result.andThen_ok, Sem.run_pure]⟩
def holed (cs : List DV) (l m : Nat) : List DV := cs.take l ++ (List.replicate m .hole ++ (cs.drop l).drop m)
theorem ownL_holes {w : World} : ∀ (vs : List Value), (∀ v ∈ vs, v.oneCell' = true) → OwnL w (List.replicate vs.length .hole) vs []
 | [], _ => by simp [OwnL]
 | v :: vs, h => by
  simp only [List.length_cons, List.replicate_succ, OwnL]
  exact ⟨v, vs, [], [], rfl, rfl, by simp [Own, h v (by simp)], ownL_holes vs fun u hu => h u (by simp [hu])⟩
theorem o_appSub {Q : Exit → St → Prop} {all : Array Oper} {rest : List Oper} {tm : List (Nat × SV)} {bx : List (Nat × TypeId × List CV)} {ks : List (Nat × Option KC)} {t e sz by_ d d1 k j s lo hi n : Nat} {zc : List CV} {c c2 : KC} {cs c2s : List DV} (hT : TTOk P T)
  (hg1 : o1.guard = none) (hd1 : o1.dst = some d1) (hn1 : Nat.blt d1 nt = true) (hs : SlOk P C nt ⟨tm, bx, ks⟩ o1 j sz lo hi)
  (hg2 : o2.guard = none) (hd : o2.dst = some d) (ho : o2.op = .call { callee := .builtin .append, args := #[x, .tmp d1], argTypes := #[t, t] }) (hnt : Nat.blt d nt = true) (ht : look T.sl t = some e) (he : look T.el e = some (sz, by_, zc)) (hl0 : zc.length = sz)
  (hx : Ev P C nt ⟨(d1, .any) :: tm, bx, ks⟩ x (.one (.key k))) (hk : lkk ⟨tm, bx, ks⟩ k = some c) (hce : c.e = e) (hcs : c.sz = sz) (hj : lkk ⟨tm, bx, ks⟩ j = some c2) (hcs2 : c2.sz = sz) (he2 : Nat.blt c2.e 1000000 = true) (hkj : k ∉ [j]) (hh : c2.h = false)
  (hsl : look tm s = some (.one (.key j))) (hsd : Nat.beq s d1 = false ∧ Nat.beq s d = false) (hlh : lo ≤ hi) (hhi : hi ≤ c2.n) (hb : (c.n + (hi - lo)) * by_ ≤ 140737488355328) (h63 : c.n + (hi - lo) ≤ 9223372036854775807) (hn : c.n + (hi - lo) = n) (hcc : c.cs ++ sub (lo * sz) ((hi - lo) * sz) c2.cs = cs) (hcc2 : holed c2.cs (lo * sz) ((hi - lo) * sz) = c2s)
  (h : Ops P C nt Q all rest ⟨(s, .one (.key j)) :: (d, .one (.key k)) :: killT [k, j] [k, j] ((d1, .any) :: tm), killB [k, j] [k, j] bx, (j, some ⟨false, c2.e, sz, c2.n, c2s⟩) :: (k, some ⟨false, e, sz, n, cs⟩) :: (j, none) :: ks⟩) : Ops P C nt Q all (o1 :: o2 :: rest) ⟨tm, bx, ks⟩ := Ops.mk fun L a w hr => by
 subst hn; subst hcc; subst hcc2
 have hkj' : k ≠ j := by simpa using hkj
 refine wpList_plain hg1 fun K1 hK1 => ?_
 -- what stands in memory
 have ho1 := (hr.ks k c hk).1
 have ho2 := (hr.ks j c2 hj).1
 simp only [Own] at ho1 ho2
 obtain ⟨vs, f1, q1, q2, q3, q4, q5⟩ := ho1
 obtain ⟨us, f2, r1, r2, r3, r4, r5⟩ := ho2
 subst hce; subst hcs
 obtain ⟨inf, z, g1, g2, g3, g4, g5⟩ := hT.el c.e c.sz by_ zc he
 have hE : c.e < 1000000 := hT.lt _ _ he
 have hrow := q4.1 hE
 have hE2 : c2.e < 1000000 := by simpa [Nat.blt_eq] using he2
 have hrow2 := r4.1 hE2
 rw [hcs2] at hrow2 r3
 have hul : us.length = c2.n * c.sz := hrow2.1
 have one : ∀ {ds : List DV} {vs : List Value} {f : List Nat}, OwnL w ds vs f → ∀ u ∈ vs, u.oneCell' = true := fun h => layL_one (ok := fun _ => True) _ _ (ownL_lay _ _ _ h (fun _ _ => trivial))
 obtain ⟨A, m, cap, hA⟩ : ∃ A m cap, L.rv j = .slice A m cap := by
  rcases hrow2.2 with ⟨g, _⟩ | ⟨g, cap, cur, g, _⟩
  ·exact ⟨_, _, _, g⟩
  ·exact ⟨_, _, _, g⟩
 have hrun := hs.run L a w hr A m cap hA w
 have hm1 : (hi - lo) * c.sz + lo * c.sz = hi * c.sz := by rw [← Nat.add_mul]; congr 1; omega
 have hm2 : hi * c.sz ≤ c2.n * c.sz := Nat.mul_le_mul_right _ hhi
 have hm3 : hi * c.sz + (c2.n - hi) * c.sz = c2.n * c.sz := by rw [← Nat.add_mul]; congr 1; omega
 obtain ⟨A1, c1, e1, hrd⟩ : ∃ A1 c1, sliced A lo hi cap c.sz = .slice A1 (hi - lo) c1 ∧ RowRd w A1 (hi - lo) c.sz (sub (lo * c.sz) ((hi - lo) * c.sz) us) := by
  refine ⟨_, _, rfl, by rw [sub_len _ _ _ (by omega)], fun hpos => ?_⟩
  rcases hrow2.2 with ⟨g1, g2⟩ | ⟨g, cap', cur, g1, _, g3, g4, g5, g6, g7⟩
  ·omega
  ·rw [hA] at g1
   simp only [Value.slice.injEq] at g1
   obtain ⟨rfl, rfl, rfl⟩ := g1
   have hne : ¬ cap = lo := by omega
   refine ⟨g, lo * c.sz, by rw [if_neg hne]; simp only [Option.map_some, add_row, Nat.zero_add], fun i v hi' => ?_⟩
   have hlt : i < (hi - lo) * c.sz := by
    have := (List.getElem?_eq_some_iff.1 hi').1
    rw [sub_len _ _ _ (by omega)] at this
    exact this
   rw [sub_get _ _ _ _ hlt] at hi'
   rw [cell_of_row _ g _ cur c2.e (0, 0) g3]
   rw [← g7, List.getElem?_take, if_pos (by omega), Array.getElem?_toList] at hi'
   exact hi'
 refine wp_new hrun (hK1 _ _ ?_)
 have hr1 : Rel P C nt L ⟨(d1, .any) :: tm, bx, ks⟩ (a.put o1.dst (sliced A lo hi cap c.sz)) w := by
  rw [hd1]
  exact hr.put (v := .any) (by simpa [Nat.blt_eq] using hn1) (by simp only [SVr]) (by simp [SV.keys]) (by simp [SV.boxes])
 have ex := hx.run L _ w hr1
 simp only [SVr, CVr] at ex
 have ey : (a.put o1.dst (sliced A lo hi cap c.sz)).eval (.tmp d1) = .slice A1 (hi - lo) c1 := by
  rw [hd1, ← e1]
  have hsz := hr.sz
  have hlt : d1 < nt := by simpa [Nat.blt_eq] using hn1
  simp [Act.eval, Act.put, hsz, hlt]
 refine wpList_plain hg2 fun K hK => ?_
 have hzs : z.cells.size = c.sz := by
  have := zL_len g5
  simp only [Array.length_toList] at this
  rw [this, hl0]
 refine wp_app w x (.tmp d1) t ho c.e z c.sz by_ (hT.sl t c.e ht) (by rw [g1]; simp [g2, g3, g4]) hzs q2 (L.rv k) c.n vs ex hrow A1 (hi - lo) c1 _ ey hrd (fun u hu => one r5 u (List.mem_of_mem_drop (List.mem_of_mem_take hu))) (by simpa [maxLen] using h63) hb ?_
 intro A' c' w' h9 hchg hblk
 refine hK _ _ ?_
 -- the parts
 obtain ⟨fa, fr, rfl, ta, tr⟩ := ownL_cut (lo * c.sz) r5
 obtain ⟨fb, fc, rfl, tb, tc⟩ := ownL_cut ((hi - lo) * c.sz) tr
 have hkn := hr.kn k c hk
 have hjn := hr.kn j c2 hj
 have hkk := hr.kk k j c c2 hk hj hkj'
 rw [q1] at hkn; rw [r1] at hjn
 obtain ⟨n1, n2, n3⟩ := List.nodup_append.1 hkn
 obtain ⟨p1, p2, p3⟩ := List.nodup_append.1 hjn
 obtain ⟨pa, pbc, p4⟩ := List.nodup_append.1 p2
 obtain ⟨pb, pc, p5⟩ := List.nodup_append.1 pbc
 have hltk : ∀ b ∈ L.fp k, b < w.heap.size := fun b hb' => hr.k_lt hk b hb'
 have hltj : ∀ b ∈ L.fp j, b < w.heap.size := fun b hb' => hr.k_lt hj b hb'
 have inj : ∀ b, b ∈ fa ++ (fb ++ fc) → b ∈ L.fp j := fun b hb' => by rw [r1]; simp only [List.mem_append] at hb' ⊢; exact .inr hb'
 have ink : ∀ b, b ∈ f1 → b ∈ L.fp k := fun b hb' => by rw [q1]; simp [hb']
 have keepk : ∀ b ∈ f1, w'.heap[b]? = w.heap[b]? := fun b hb' => hchg.block b (hltk b (ink b hb')) (fun hm => n3 b hm b hb' rfl)
 have keepj : ∀ b ∈ L.fp j, w'.heap[b]? = w.heap[b]? := fun b hb' => hchg.block b (hltj b hb') (fun hm => hkk b (by rw [q1]; simp [hm]) hb')
 have k1 := ownL_keep _ _ _ q5 keepk
 have k2 := ownL_keep _ _ _ tb (fun b hb' => keepj b (inj b (by simp [hb'])))
 have hbl : ∀ b, b ∈ (Value.slice A' (c.n + (hi - lo)) c').ownBlock.toList → b ∈ (L.rv k).ownBlock.toList ∨ b = w.heap.size := fun b hb' => by
  rcases hblk with g | g
  ·rw [← g] at hb'; exact .inl hb'
  ·rw [g] at hb'; simp only [Option.toList_some, List.mem_singleton] at hb'; exact .inr hb'
 have hown' : Own w' (.sl c.e c.sz (c.n + (hi - lo)) (c.cs ++ sub (lo * c.sz) ((hi - lo) * c.sz) c2.cs)) (.slice A' (c.n + (hi - lo)) c') ((Value.slice A' (c.n + (hi - lo)) c').ownBlock.toList ++ (f1 ++ fb)) := by
  unfold Own
  refine ⟨_, f1 ++ fb, rfl, q2, ?_, rowE_of hE h9, ownL_append _ _ _ _ _ _ k1 k2⟩
  rw [List.length_append, q3, sub_len _ _ _ (by rw [r3]; omega), Nat.add_mul]
 have hset := hr1.setkey (k := k) (c := c) (c' := ⟨false, c.e, c.sz, c.n + (hi - lo), c.cs ++ sub (lo * c.sz) ((hi - lo) * c.sz) c2.cs⟩) (js := [j]) (same := false) hk hkj (hchg.mono (fun b hb' => by rw [q1]; simp [hb'])) hown'
  (by
   refine List.nodup_append.2 ⟨?_, List.nodup_append.2 ⟨n2, pb, fun x hx' y hy' e' => hkk x (ink x hx') (inj x (by rw [e']; simp [hy']))⟩, fun x hx' y hy' e' => ?_⟩
   ·cases (Value.slice A' (c.n + (hi - lo)) c').ownBlock <;> simp
   ·subst e'
    rcases hbl x hx' with g | g
    ·rcases List.mem_append.1 hy' with hy' | hy'
     ·exact n3 x g x hy' rfl
     ·exact hkk x (by rw [q1]; simp [g]) (inj x (by simp [hy']))
    ·rcases List.mem_append.1 hy' with hy' | hy'
     ·have := hltk x (ink x hy'); omega
     ·have := hltj x (inj x (by simp [hy'])); omega)
  (fun b hb' => by
   rcases List.mem_append.1 hb' with hb' | hb'
   ·rcases hbl b hb' with g | g
    ·exact .inl (by rw [q1]; simp [g])
    ·exact .inr (.inr (by omega))
   ·rcases List.mem_append.1 hb' with hb' | hb'
    ·exact .inl (ink b hb')
    ·exact .inr (.inl ⟨j, by simp, inj b (by simp [hb'])⟩)) (by intro i hi'; simp only [List.mem_singleton] at hi'; subst hi'; exact Option.isSome_iff_exists.2 ⟨c2, hj⟩) (by simp) (by simp)
 -- key j again, with holes
 have hone2 : ∀ u ∈ us, u.oneCell' = true := one r5
 have hrow3 : w'.ownsRow 0 c2.e c.sz (L.rv j) c2.n us := by
  refine ⟨hrow2.1, ?_⟩
  rcases hrow2.2 with g | ⟨g, cap', cur, g1, g2, g3, g4⟩
  ·exact .inl g
  ·refine .inr ⟨g, cap', cur, g1, g2, ?_, g4⟩
   rw [keepj g (by rw [r1, g1]; simp [Value.ownBlock])]; exact g3
 have hown2 : Own w' (.sl c2.e c.sz c2.n (holed c2.cs (lo * c.sz) ((hi - lo) * c.sz))) (L.rv j) ((L.rv j).ownBlock.toList ++ (fa ++ ([] ++ fc))) := by
  unfold Own
  have ta' := ownL_keep _ _ _ ta (fun b hb' => keepj b (inj b (by simp [hb'])))
  have tc' := ownL_keep _ _ _ tc (fun b hb' => keepj b (inj b (by simp [hb'])))
  have th : OwnL w' (List.replicate ((hi - lo) * c.sz) .hole) ((us.drop (lo * c.sz)).take ((hi - lo) * c.sz)) [] := by
   have := ownL_holes (w := w') ((us.drop (lo * c.sz)).take ((hi - lo) * c.sz)) (fun v hv => hone2 v (List.mem_of_mem_drop (List.mem_of_mem_take hv)))
   have e' : ((us.drop (lo * c.sz)).take ((hi - lo) * c.sz)).length = (hi - lo) * c.sz := by rw [List.length_take, List.length_drop]; omega
   rwa [e'] at this
  have hall := ownL_append _ _ _ _ _ _ ta' (ownL_append _ _ _ _ _ _ th tc')
  rw [List.take_append_drop, List.take_append_drop] at hall
  refine ⟨us, _, rfl, q2, ?_, rowE_of hE2 hrow3, hall⟩
  simp only [holed, List.length_append, List.length_take, List.length_replicate, List.length_drop, r3]
  omega
 have hlk : ∀ i, lkk (St.mut ⟨(d1, .any) :: tm, bx, ks⟩ k [j] false ⟨false, c.e, c.sz, c.n + (hi - lo), c.cs ++ sub (lo * c.sz) ((hi - lo) * c.sz) c2.cs⟩) i = if i = k then some ⟨false, c.e, c.sz, c.n + (hi - lo), c.cs ++ sub (lo * c.sz) ((hi - lo) * c.sz) c2.cs⟩ else if i = j then none else lkk ⟨tm, bx, ks⟩ i := fun i => by
  simp only [lkk, St.mut, List.map_cons, List.map_nil, List.cons_append, List.nil_append, look_cons]
  split
  ·rfl
  ·split <;> rfl
 have inj2 : ∀ b, b ∈ (L.rv j).ownBlock.toList ++ (fa ++ ([] ++ fc)) → b ∈ L.fp j := fun b hb' => by
  rw [r1]; simp only [List.mem_append, List.nil_append] at hb' ⊢
  rcases hb' with g | g | g
  ·exact .inl g
  ·exact .inr (.inl g)
  ·exact .inr (.inr (.inr g))
 have hnew := hset.newkey (k := j) (c := ⟨false, c2.e, c.sz, c2.n, holed c2.cs (lo * c.sz) ((hi - lo) * c.sz)⟩) (v := L.rv j) (f := (L.rv j).ownBlock.toList ++ (fa ++ ([] ++ fc))) (by rw [hlk, if_neg (fun e => hkj' e.symm), if_pos rfl]) hown2 rfl
  (by
   rw [List.nil_append]
   refine List.nodup_append.2 ⟨p1, List.nodup_append.2 ⟨pa, pc, fun x hx' y hy' => p4 x hx' y (by simp [hy'])⟩, fun x hx' y hy' => p3 x hx' y (by
    simp only [List.mem_append] at hy' ⊢
    rcases hy' with g | g
    ·exact .inl g
    ·exact .inr (.inr g))⟩)
  (fun b hb' => hr.k1 j c2 hj b (inj2 b hb'))
  (fun b hb' i x hx' e' => by
   obtain ⟨y, hy⟩ := killB_some hx'
   exact hr.bk i j y c2 hy hj (by rw [show L.bb i = b from e']; exact inj2 b hb'))
  (fun b hb' i q hq hm => by
   rw [hlk] at hq
   by_cases hik : i = k
   ·subst hik
    simp only [if_true] at hm
    rcases List.mem_append.1 hm with hm | hm
    ·rcases hbl b hm with g | g
     ·exact hkk b (by rw [q1]; simp [g]) (inj2 b hb')
     ·have := hltj b (inj2 b hb'); omega
    ·rcases List.mem_append.1 hm with hm | hm
     ·exact hkk b (ink b hm) (inj2 b hb')
     ·rw [List.nil_append] at hb'
      rcases List.mem_append.1 hb' with g | g
      ·exact p3 b g b (by simp [hm]) rfl
      ·rcases List.mem_append.1 g with g | g
       ·exact p4 b g b (by simp [hm]) rfl
       ·exact p5 b hm b g rfl
   ·rw [if_neg hik] at hq
    by_cases hij : i = j
    ·rw [if_pos hij] at hq; cases hq
    ·rw [if_neg hij] at hq
     simp only [if_neg hik] at hm
     exact hr.kk i j q c2 hq hj hij b hm (inj2 b hb'))
 have hd' : d < nt := by simpa [Nat.blt_eq] using hnt
 have hput := hnew.put (d := d) (v := .one (.key k)) (r := .slice A' (c.n + (hi - lo)) c') hd' (by simp only [SVr, CVr]; rw [if_neg hkj']; simp) (by
  simp only [SV.keys, CV.keys, List.mem_singleton, forall_eq]
  simp [lkk, look_cons, hkj', St.mut]) (by simp [SV.boxes])
 have hsv := hr.tm s _ hsl
 simp only [SVr, CVr] at hsv
 have n1' : s ≠ d1 := Nat.ne_of_beq_eq_false hsd.1
 have n2' : s ≠ d := Nat.ne_of_beq_eq_false hsd.2
 have hval : ((a.put o1.dst (sliced A lo hi cap c.sz)).put (some d) (.slice A' (c.n + (hi - lo)) c')).tmps.getD s undef = L.rv j := by
  rw [← hsv, hd1]
  simp only [Act.put]
  rw [getD_setV n2', getD_setV n1']
 have hal := hput.also (d := s) (v := .one (.key j)) (by simp only [SVr, CVr, if_true]; exact hval) (by simp [SV.keys, CV.keys, lkk, look_cons, St.put]) (by simp [SV.boxes])
 rw [hd]
 exact h.run _ _ _ hal
theorem weak_swap {tm : List (Nat × SV)} {bx : List (Nat × TypeId × List CV)} {ks : List (Nat × Option KC)} {s k k' : Nat} {c c' : KC} (hs : look tm s = some (.one (.key k))) (hk : lkk ⟨tm, bx, ks⟩ k = some c) (hk' : lkk ⟨tm, bx, ks⟩ k' = some c') (hne : k' ∉ [k]) (hh : c.h = false) :
  Weak P C nt ⟨tm, bx, ks⟩ ⟨(s, .one (.key k')) :: killT [k', k] [k', k] tm, killB [k', k] [k', k] bx, (k', some c) :: (k, none) :: ks⟩ := Weak.mk fun L a w hr => by
 have ho := (hr.ks k c hk).1
 have hsv := hr.tm s _ hs
 simp only [SVr, CVr] at hsv
 have hset := hr.setkey (k := k') (c := c') (c' := c) (js := [k]) (same := false) hk' hne (Chg.refl _ w) ho (hr.kn k c hk) (fun b hb => .inr (.inl ⟨k, by simp, hb⟩)) (by intro i hi'; simp only [List.mem_singleton] at hi'; subst hi'; exact Option.isSome_iff_exists.2 ⟨c, hk⟩) (by simp) (fun h => by rw [hh] at h; cases h)
 exact ⟨_, hset.also (d := s) (v := .one (.key k')) (by simp only [SVr, CVr, if_true]; exact hsv) (by simp [SV.keys, CV.keys, mut_key]) (by simp [SV.boxes])⟩
/-! ### keys in boxes -/
theorem cvL_setk {L : Lyt} {w : World} {c' : CV} {v : Value} : ∀ {cs : List CV} {vs : List Value} {i : Nat}, CVL C L w cs vs → vs[i]? = some v → CVr C L w c' v → CVL C L w (cs.set i c') vs
 | [], _, _, h, _, _ => by simpa using h
 | x :: xs, _, 0, ⟨u, vs', e, h1, h2⟩, hv, hc => by
  subst e
  simp only [List.getElem?_cons_zero, Option.some.injEq] at hv
  subst hv
  exact ⟨u, vs', rfl, hc, h2⟩
 | x :: xs, _, i + 1, ⟨u, vs', e, h1, h2⟩, hv, hc => by
  subst e
  exact ⟨u, vs', rfl, h1, cvL_setk h2 (by simpa using hv) hc⟩
theorem cvL_getk {L : Lyt} {w : World} {c : CV} : ∀ {cs : List CV} {vs : List Value} {i : Nat}, CVL C L w cs vs → cs[i]? = some c → ∃ v, vs[i]? = some v ∧ CVr C L w c v
 | [], _, _, _, h => by simp at h
 | x :: xs, _, 0, ⟨u, vs', e, h1, h2⟩, h => by
  subst e
  simp only [List.getElem?_cons_zero, Option.some.injEq] at h
  subst h
  exact ⟨u, by simp, h1⟩
 | x :: xs, _, i + 1, ⟨u, vs', e, h1, h2⟩, h => by
  subst e
  simpa using cvL_getk h2 (by simpa using h)
theorem Rel.alsoK (h : Rel P C nt L σ a w) {b t i k : Nat} {cs : List CV} (hb : look σ.bx b = some (t, cs)) (hv : ∀ vs : List Value, w.heap[L.bb b]? = some (.cells vs.toArray t (0, 0)) → vs[i]? = some (L.rv k)) (hk : (lkk σ k).isSome = true) (hok : (cs.flatMap CV.keys).all (fun j => (lkk σ j).isSome) = true) : Rel P C nt L ⟨σ.tm, (b, t, cs.set i (.key k)) :: σ.bx, σ.ks⟩ a w :=
 have hx : ∀ z x, look ((b, t, cs.set i (.key k)) :: σ.bx) z = some x → ∃ y, look σ.bx z = some y := fun z x hx => by
  simp only [look_cons] at hx
  split at hx
  ·rename_i e; exact ⟨_, by rw [e]; exact hb⟩
  ·exact ⟨_, hx⟩
 { h with
  tm := h.tm
  bx := fun i' t' cs'' hx => by
   simp only [look_cons] at hx
   split at hx
   ·rename_i e
    simp only [Option.some.injEq, Prod.mk.injEq] at hx
    obtain ⟨rfl, rfl⟩ := hx
    obtain ⟨vs, h1, h2⟩ := h.bx b _ _ hb
    exact ⟨vs, by rw [e]; exact h1, cvL_setk h2 (hv vs h1) (by simp [CVr])⟩
   ·exact h.bx i' t' cs'' hx
  ks := h.ks
  b1 := fun z x h' => by obtain ⟨y, hy⟩ := hx z x h'; exact h.b1 z y hy
  k1 := h.k1
  kn := h.kn
  bb := fun z j x y h1 h2 => by
   obtain ⟨x', h1'⟩ := hx z x h1
   obtain ⟨y', h2'⟩ := hx j y h2
   exact h.bb z j x' y' h1' h2'
  bk := fun z k2 x c h' hc => by obtain ⟨y, hy⟩ := hx z x h'; exact h.bk z k2 y c hy hc
  kk := h.kk
  lk := fun j hm => by
   simp only [St.tk, List.flatMap_cons, List.mem_append] at hm
   rcases hm with hm | hm | hm
   ·exact h.lk j (by simp only [St.tk, List.mem_append]; exact .inl hm)
   ·obtain ⟨c, hc, hj⟩ := List.mem_flatMap.1 hm
    rcases List.mem_or_eq_of_mem_set hc with hc | hc
    ·exact List.all_eq_true.1 hok j (List.mem_flatMap.2 ⟨c, hc, hj⟩)
    ·rw [hc] at hj
     simp only [CV.keys, List.mem_singleton] at hj
     rw [hj]; exact hk
   ·exact h.lk j (by simp only [St.tk, List.mem_append]; exact .inr hm)
  lb := fun b' hm => by
   have := h.lb b' hm
   simp only [look_cons]
   split
   ·rfl
   ·exact this }
theorem look_killB {vs rs : List Nat} {i : Nat} : ∀ {bx : List (Nat × TypeId × List CV)}, look (killB vs rs bx) i = (look bx i).map fun q => (q.1, q.2.map (CV.kill vs rs))
 | [] => by simp [killB, look]
 | p :: bx => by
  obtain ⟨b, q⟩ := p
  have ih := look_killB (vs := vs) (rs := rs) (i := i) (bx := bx)
  simp only [killB] at ih
  simp only [killB, List.map_cons, look_cons]
  split
  ·rfl
  ·exact ih
theorem weak_swapB {tm : List (Nat × SV)} {bx : List (Nat × TypeId × List CV)} {ks : List (Nat × Option KC)} {b i t k k' : Nat} {cs : List CV} {c c' : KC} (hb : look bx b = some (t, cs)) (hi : cs[i]? = some (.key k)) (hk : lkk ⟨tm, bx, ks⟩ k = some c) (hk' : lkk ⟨tm, bx, ks⟩ k' = some c') (hne : k' ∉ [k]) (hh : c.h = false)
  (hok : ((cs.map (CV.kill [k', k] [k', k])).flatMap CV.keys).all (fun j => (lkk ⟨killT [k', k] [k', k] tm, killB [k', k] [k', k] bx, (k', some c) :: (k, none) :: ks⟩ j).isSome) = true) :
  Weak P C nt ⟨tm, bx, ks⟩ ⟨killT [k', k] [k', k] tm, (b, t, (cs.map (CV.kill [k', k] [k', k])).set i (.key k')) :: killB [k', k] [k', k] bx, (k', some c) :: (k, none) :: ks⟩ := Weak.mk fun L a w hr => by
 have ho := (hr.ks k c hk).1
 obtain ⟨vs0, h1, h2⟩ := hr.bx b t cs hb
 obtain ⟨v, h3, h4⟩ := cvL_getk h2 hi
 simp only [CVr] at h4
 have hset := hr.setkey (k := k') (c := c') (c' := c) (js := [k]) (same := false) hk' hne (Chg.refl _ w) ho (hr.kn k c hk) (fun b hb => .inr (.inl ⟨k, by simp, hb⟩)) (by intro i hi'; simp only [List.mem_singleton] at hi'; subst hi'; exact Option.isSome_iff_exists.2 ⟨c, hk⟩) (by simp) (fun h => by rw [hh] at h; cases h)
 refine ⟨_, hset.alsoK (b := b) (t := t) (i := i) (k := k') (cs := cs.map (CV.kill [k', k] [k', k])) (by show look (killB [k', k] [k', k] bx) b = _; rw [look_killB, hb]; rfl) (fun vs hvs => ?_) (by rw [mut_key]; rfl) hok⟩
 have e : vs = vs0 := by
  have : some (Obj.cells vs.toArray t (0, 0)) = some (Obj.cells vs0.toArray t (0, 0)) := hvs.symm.trans h1
  simpa using this
 subst e
 simp only [if_true]
 rw [h3, h4]
theorem o_appSubB {Q : Exit → St → Prop} {all : Array Oper} {rest : List Oper} {tm : List (Nat × SV)} {bx : List (Nat × TypeId × List CV)} {ks : List (Nat × Option KC)} {t e sz by_ d d1 k j s lo hi n : Nat} {zc : List CV} {c c2 : KC} {cs c2s : List DV} {b8 t8 i8 : Nat} {cs8 : List CV} (hT : TTOk P T)
  (hg1 : o1.guard = none) (hd1 : o1.dst = some d1) (hn1 : Nat.blt d1 nt = true) (hs : SlOk P C nt ⟨tm, bx, ks⟩ o1 j sz lo hi)
  (hg2 : o2.guard = none) (hd : o2.dst = some d) (ho : o2.op = .call { callee := .builtin .append, args := #[x, .tmp d1], argTypes := #[t, t] }) (hnt : Nat.blt d nt = true) (ht : look T.sl t = some e) (he : look T.el e = some (sz, by_, zc)) (hl0 : zc.length = sz)
  (hx : Ev P C nt ⟨(d1, .any) :: tm, bx, ks⟩ x (.one (.key k))) (hk : lkk ⟨tm, bx, ks⟩ k = some c) (hce : c.e = e) (hcs : c.sz = sz) (hj : lkk ⟨tm, bx, ks⟩ j = some c2) (hcs2 : c2.sz = sz) (he2 : Nat.blt c2.e 1000000 = true) (hkj : k ∉ [j]) (hh : c2.h = false)
  (hsl : look tm s = some (.one (.key j))) (hsd : Nat.beq s d1 = false ∧ Nat.beq s d = false) (hlh : lo ≤ hi) (hhi : hi ≤ c2.n) (hb : (c.n + (hi - lo)) * by_ ≤ 140737488355328) (h63 : c.n + (hi - lo) ≤ 9223372036854775807) (hn : c.n + (hi - lo) = n) (hcc : c.cs ++ sub (lo * sz) ((hi - lo) * sz) c2.cs = cs) (hcc2 : holed c2.cs (lo * sz) ((hi - lo) * sz) = c2s)
  (hb8 : look bx b8 = some (t8, cs8)) (hi8 : cs8[i8]? = some (.key j)) (hok8 : ((cs8.map (CV.kill [k, j] [k, j])).flatMap CV.keys).all (fun i => (lkk ⟨(s, .one (.key j)) :: (d, .one (.key k)) :: killT [k, j] [k, j] ((d1, .any) :: tm), killB [k, j] [k, j] bx, (j, some ⟨false, c2.e, sz, c2.n, c2s⟩) :: (k, some ⟨false, e, sz, n, cs⟩) :: (j, none) :: ks⟩ i).isSome) = true)
  (h : Ops P C nt Q all rest ⟨(s, .one (.key j)) :: (d, .one (.key k)) :: killT [k, j] [k, j] ((d1, .any) :: tm), (b8, t8, (cs8.map (CV.kill [k, j] [k, j])).set i8 (.key j)) :: killB [k, j] [k, j] bx, (j, some ⟨false, c2.e, sz, c2.n, c2s⟩) :: (k, some ⟨false, e, sz, n, cs⟩) :: (j, none) :: ks⟩) : Ops P C nt Q all (o1 :: o2 :: rest) ⟨tm, bx, ks⟩ := Ops.mk fun L a w hr => by
 subst hn; subst hcc; subst hcc2
 have hkj' : k ≠ j := by simpa using hkj
 refine wpList_plain hg1 fun K1 hK1 => ?_
 -- what stands in memory
 have ho1 := (hr.ks k c hk).1
 have ho2 := (hr.ks j c2 hj).1
 simp only [Own] at ho1 ho2
 obtain ⟨vs, f1, q1, q2, q3, q4, q5⟩ := ho1
 obtain ⟨us, f2, r1, r2, r3, r4, r5⟩ := ho2
 subst hce; subst hcs
 obtain ⟨inf, z, g1, g2, g3, g4, g5⟩ := hT.el c.e c.sz by_ zc he
 have hE : c.e < 1000000 := hT.lt _ _ he
 have hrow := q4.1 hE
 have hE2 : c2.e < 1000000 := by simpa [Nat.blt_eq] using he2
 have hrow2 := r4.1 hE2
 rw [hcs2] at hrow2 r3
 have hul : us.length = c2.n * c.sz := hrow2.1
 have one : ∀ {ds : List DV} {vs : List Value} {f : List Nat}, OwnL w ds vs f → ∀ u ∈ vs, u.oneCell' = true := fun h => layL_one (ok := fun _ => True) _ _ (ownL_lay _ _ _ h (fun _ _ => trivial))
 obtain ⟨A, m, cap, hA⟩ : ∃ A m cap, L.rv j = .slice A m cap := by
  rcases hrow2.2 with ⟨g, _⟩ | ⟨g, cap, cur, g, _⟩
  ·exact ⟨_, _, _, g⟩
  ·exact ⟨_, _, _, g⟩
 have hrun := hs.run L a w hr A m cap hA w
 have hm1 : (hi - lo) * c.sz + lo * c.sz = hi * c.sz := by rw [← Nat.add_mul]; congr 1; omega
 have hm2 : hi * c.sz ≤ c2.n * c.sz := Nat.mul_le_mul_right _ hhi
 have hm3 : hi * c.sz + (c2.n - hi) * c.sz = c2.n * c.sz := by rw [← Nat.add_mul]; congr 1; omega
 obtain ⟨A1, c1, e1, hrd⟩ : ∃ A1 c1, sliced A lo hi cap c.sz = .slice A1 (hi - lo) c1 ∧ RowRd w A1 (hi - lo) c.sz (sub (lo * c.sz) ((hi - lo) * c.sz) us) := by
  refine ⟨_, _, rfl, by rw [sub_len _ _ _ (by omega)], fun hpos => ?_⟩
  rcases hrow2.2 with ⟨g1, g2⟩ | ⟨g, cap', cur, g1, _, g3, g4, g5, g6, g7⟩
  ·omega
  ·rw [hA] at g1
   simp only [Value.slice.injEq] at g1
   obtain ⟨rfl, rfl, rfl⟩ := g1
   have hne : ¬ cap = lo := by omega
   refine ⟨g, lo * c.sz, by rw [if_neg hne]; simp only [Option.map_some, add_row, Nat.zero_add], fun i v hi' => ?_⟩
   have hlt : i < (hi - lo) * c.sz := by
    have := (List.getElem?_eq_some_iff.1 hi').1
    rw [sub_len _ _ _ (by omega)] at this
    exact this
   rw [sub_get _ _ _ _ hlt] at hi'
   rw [cell_of_row _ g _ cur c2.e (0, 0) g3]
   rw [← g7, List.getElem?_take, if_pos (by omega), Array.getElem?_toList] at hi'
   exact hi'
 refine wp_new hrun (hK1 _ _ ?_)
 have hr1 : Rel P C nt L ⟨(d1, .any) :: tm, bx, ks⟩ (a.put o1.dst (sliced A lo hi cap c.sz)) w := by
  rw [hd1]
  exact hr.put (v := .any) (by simpa [Nat.blt_eq] using hn1) (by simp only [SVr]) (by simp [SV.keys]) (by simp [SV.boxes])
 have ex := hx.run L _ w hr1
 simp only [SVr, CVr] at ex
 have ey : (a.put o1.dst (sliced A lo hi cap c.sz)).eval (.tmp d1) = .slice A1 (hi - lo) c1 := by
  rw [hd1, ← e1]
  have hsz := hr.sz
  have hlt : d1 < nt := by simpa [Nat.blt_eq] using hn1
  simp [Act.eval, Act.put, hsz, hlt]
 refine wpList_plain hg2 fun K hK => ?_
 have hzs : z.cells.size = c.sz := by
  have := zL_len g5
  simp only [Array.length_toList] at this
  rw [this, hl0]
 refine wp_app w x (.tmp d1) t ho c.e z c.sz by_ (hT.sl t c.e ht) (by rw [g1]; simp [g2, g3, g4]) hzs q2 (L.rv k) c.n vs ex hrow A1 (hi - lo) c1 _ ey hrd (fun u hu => one r5 u (List.mem_of_mem_drop (List.mem_of_mem_take hu))) (by simpa [maxLen] using h63) hb ?_
 intro A' c' w' h9 hchg hblk
 refine hK _ _ ?_
 -- the parts
 obtain ⟨fa, fr, rfl, ta, tr⟩ := ownL_cut (lo * c.sz) r5
 obtain ⟨fb, fc, rfl, tb, tc⟩ := ownL_cut ((hi - lo) * c.sz) tr
 have hkn := hr.kn k c hk
 have hjn := hr.kn j c2 hj
 have hkk := hr.kk k j c c2 hk hj hkj'
 rw [q1] at hkn; rw [r1] at hjn
 obtain ⟨n1, n2, n3⟩ := List.nodup_append.1 hkn
 obtain ⟨p1, p2, p3⟩ := List.nodup_append.1 hjn
 obtain ⟨pa, pbc, p4⟩ := List.nodup_append.1 p2
 obtain ⟨pb, pc, p5⟩ := List.nodup_append.1 pbc
 have hltk : ∀ b ∈ L.fp k, b < w.heap.size := fun b hb' => hr.k_lt hk b hb'
 have hltj : ∀ b ∈ L.fp j, b < w.heap.size := fun b hb' => hr.k_lt hj b hb'
 have inj : ∀ b, b ∈ fa ++ (fb ++ fc) → b ∈ L.fp j := fun b hb' => by rw [r1]; simp only [List.mem_append] at hb' ⊢; exact .inr hb'
 have ink : ∀ b, b ∈ f1 → b ∈ L.fp k := fun b hb' => by rw [q1]; simp [hb']
 have keepk : ∀ b ∈ f1, w'.heap[b]? = w.heap[b]? := fun b hb' => hchg.block b (hltk b (ink b hb')) (fun hm => n3 b hm b hb' rfl)
 have keepj : ∀ b ∈ L.fp j, w'.heap[b]? = w.heap[b]? := fun b hb' => hchg.block b (hltj b hb') (fun hm => hkk b (by rw [q1]; simp [hm]) hb')
 have k1 := ownL_keep _ _ _ q5 keepk
 have k2 := ownL_keep _ _ _ tb (fun b hb' => keepj b (inj b (by simp [hb'])))
 have hbl : ∀ b, b ∈ (Value.slice A' (c.n + (hi - lo)) c').ownBlock.toList → b ∈ (L.rv k).ownBlock.toList ∨ b = w.heap.size := fun b hb' => by
  rcases hblk with g | g
  ·rw [← g] at hb'; exact .inl hb'
  ·rw [g] at hb'; simp only [Option.toList_some, List.mem_singleton] at hb'; exact .inr hb'
 have hown' : Own w' (.sl c.e c.sz (c.n + (hi - lo)) (c.cs ++ sub (lo * c.sz) ((hi - lo) * c.sz) c2.cs)) (.slice A' (c.n + (hi - lo)) c') ((Value.slice A' (c.n + (hi - lo)) c').ownBlock.toList ++ (f1 ++ fb)) := by
  unfold Own
  refine ⟨_, f1 ++ fb, rfl, q2, ?_, rowE_of hE h9, ownL_append _ _ _ _ _ _ k1 k2⟩
  rw [List.length_append, q3, sub_len _ _ _ (by rw [r3]; omega), Nat.add_mul]
 have hset := hr1.setkey (k := k) (c := c) (c' := ⟨false, c.e, c.sz, c.n + (hi - lo), c.cs ++ sub (lo * c.sz) ((hi - lo) * c.sz) c2.cs⟩) (js := [j]) (same := false) hk hkj (hchg.mono (fun b hb' => by rw [q1]; simp [hb'])) hown'
  (by
   refine List.nodup_append.2 ⟨?_, List.nodup_append.2 ⟨n2, pb, fun x hx' y hy' e' => hkk x (ink x hx') (inj x (by rw [e']; simp [hy']))⟩, fun x hx' y hy' e' => ?_⟩
   ·cases (Value.slice A' (c.n + (hi - lo)) c').ownBlock <;> simp
   ·subst e'
    rcases hbl x hx' with g | g
    ·rcases List.mem_append.1 hy' with hy' | hy'
     ·exact n3 x g x hy' rfl
     ·exact hkk x (by rw [q1]; simp [g]) (inj x (by simp [hy']))
    ·rcases List.mem_append.1 hy' with hy' | hy'
     ·have := hltk x (ink x hy'); omega
     ·have := hltj x (inj x (by simp [hy'])); omega)
  (fun b hb' => by
   rcases List.mem_append.1 hb' with hb' | hb'
   ·rcases hbl b hb' with g | g
    ·exact .inl (by rw [q1]; simp [g])
    ·exact .inr (.inr (by omega))
   ·rcases List.mem_append.1 hb' with hb' | hb'
    ·exact .inl (ink b hb')
    ·exact .inr (.inl ⟨j, by simp, inj b (by simp [hb'])⟩)) (by intro i hi'; simp only [List.mem_singleton] at hi'; subst hi'; exact Option.isSome_iff_exists.2 ⟨c2, hj⟩) (by simp) (by simp)
 -- key j again, with holes
 have hone2 : ∀ u ∈ us, u.oneCell' = true := one r5
 have hrow3 : w'.ownsRow 0 c2.e c.sz (L.rv j) c2.n us := by
  refine ⟨hrow2.1, ?_⟩
  rcases hrow2.2 with g | ⟨g, cap', cur, g1, g2, g3, g4⟩
  ·exact .inl g
  ·refine .inr ⟨g, cap', cur, g1, g2, ?_, g4⟩
   rw [keepj g (by rw [r1, g1]; simp [Value.ownBlock])]; exact g3
 have hown2 : Own w' (.sl c2.e c.sz c2.n (holed c2.cs (lo * c.sz) ((hi - lo) * c.sz))) (L.rv j) ((L.rv j).ownBlock.toList ++ (fa ++ ([] ++ fc))) := by
  unfold Own
  have ta' := ownL_keep _ _ _ ta (fun b hb' => keepj b (inj b (by simp [hb'])))
  have tc' := ownL_keep _ _ _ tc (fun b hb' => keepj b (inj b (by simp [hb'])))
  have th : OwnL w' (List.replicate ((hi - lo) * c.sz) .hole) ((us.drop (lo * c.sz)).take ((hi - lo) * c.sz)) [] := by
   have := ownL_holes (w := w') ((us.drop (lo * c.sz)).take ((hi - lo) * c.sz)) (fun v hv => hone2 v (List.mem_of_mem_drop (List.mem_of_mem_take hv)))
   have e' : ((us.drop (lo * c.sz)).take ((hi - lo) * c.sz)).length = (hi - lo) * c.sz := by rw [List.length_take, List.length_drop]; omega
   rwa [e'] at this
  have hall := ownL_append _ _ _ _ _ _ ta' (ownL_append _ _ _ _ _ _ th tc')
  rw [List.take_append_drop, List.take_append_drop] at hall
  refine ⟨us, _, rfl, q2, ?_, rowE_of hE2 hrow3, hall⟩
  simp only [holed, List.length_append, List.length_take, List.length_replicate, List.length_drop, r3]
  omega
 have hlk : ∀ i, lkk (St.mut ⟨(d1, .any) :: tm, bx, ks⟩ k [j] false ⟨false, c.e, c.sz, c.n + (hi - lo), c.cs ++ sub (lo * c.sz) ((hi - lo) * c.sz) c2.cs⟩) i = if i = k then some ⟨false, c.e, c.sz, c.n + (hi - lo), c.cs ++ sub (lo * c.sz) ((hi - lo) * c.sz) c2.cs⟩ else if i = j then none else lkk ⟨tm, bx, ks⟩ i := fun i => by
  simp only [lkk, St.mut, List.map_cons, List.map_nil, List.cons_append, List.nil_append, look_cons]
  split
  ·rfl
  ·split <;> rfl
 have inj2 : ∀ b, b ∈ (L.rv j).ownBlock.toList ++ (fa ++ ([] ++ fc)) → b ∈ L.fp j := fun b hb' => by
  rw [r1]; simp only [List.mem_append, List.nil_append] at hb' ⊢
  rcases hb' with g | g | g
  ·exact .inl g
  ·exact .inr (.inl g)
  ·exact .inr (.inr (.inr g))
 have hnew := hset.newkey (k := j) (c := ⟨false, c2.e, c.sz, c2.n, holed c2.cs (lo * c.sz) ((hi - lo) * c.sz)⟩) (v := L.rv j) (f := (L.rv j).ownBlock.toList ++ (fa ++ ([] ++ fc))) (by rw [hlk, if_neg (fun e => hkj' e.symm), if_pos rfl]) hown2 rfl
  (by
   rw [List.nil_append]
   refine List.nodup_append.2 ⟨p1, List.nodup_append.2 ⟨pa, pc, fun x hx' y hy' => p4 x hx' y (by simp [hy'])⟩, fun x hx' y hy' => p3 x hx' y (by
    simp only [List.mem_append] at hy' ⊢
    rcases hy' with g | g
    ·exact .inl g
    ·exact .inr (.inr g))⟩)
  (fun b hb' => hr.k1 j c2 hj b (inj2 b hb'))
  (fun b hb' i x hx' e' => by
   obtain ⟨y, hy⟩ := killB_some hx'
   exact hr.bk i j y c2 hy hj (by rw [show L.bb i = b from e']; exact inj2 b hb'))
  (fun b hb' i q hq hm => by
   rw [hlk] at hq
   by_cases hik : i = k
   ·subst hik
    simp only [if_true] at hm
    rcases List.mem_append.1 hm with hm | hm
    ·rcases hbl b hm with g | g
     ·exact hkk b (by rw [q1]; simp [g]) (inj2 b hb')
     ·have := hltj b (inj2 b hb'); omega
    ·rcases List.mem_append.1 hm with hm | hm
     ·exact hkk b (ink b hm) (inj2 b hb')
     ·rw [List.nil_append] at hb'
      rcases List.mem_append.1 hb' with g | g
      ·exact p3 b g b (by simp [hm]) rfl
      ·rcases List.mem_append.1 g with g | g
       ·exact p4 b g b (by simp [hm]) rfl
       ·exact p5 b hm b g rfl
   ·rw [if_neg hik] at hq
    by_cases hij : i = j
    ·rw [if_pos hij] at hq; cases hq
    ·rw [if_neg hij] at hq
     simp only [if_neg hik] at hm
     exact hr.kk i j q c2 hq hj hij b hm (inj2 b hb'))
 have hd' : d < nt := by simpa [Nat.blt_eq] using hnt
 have hput := hnew.put (d := d) (v := .one (.key k)) (r := .slice A' (c.n + (hi - lo)) c') hd' (by simp only [SVr, CVr]; rw [if_neg hkj']; simp) (by
  simp only [SV.keys, CV.keys, List.mem_singleton, forall_eq]
  simp [lkk, look_cons, hkj', St.mut]) (by simp [SV.boxes])
 have hsv := hr.tm s _ hsl
 simp only [SVr, CVr] at hsv
 have n1' : s ≠ d1 := Nat.ne_of_beq_eq_false hsd.1
 have n2' : s ≠ d := Nat.ne_of_beq_eq_false hsd.2
 have hval : ((a.put o1.dst (sliced A lo hi cap c.sz)).put (some d) (.slice A' (c.n + (hi - lo)) c')).tmps.getD s undef = L.rv j := by
  rw [← hsv, hd1]
  simp only [Act.put]
  rw [getD_setV n2', getD_setV n1']
 have hal := hput.also (d := s) (v := .one (.key j)) (by simp only [SVr, CVr, if_true]; exact hval) (by simp [SV.keys, CV.keys, lkk, look_cons, St.put]) (by simp [SV.boxes])
 rw [hd]
 obtain ⟨vs0, z1, z2⟩ := hr.bx b8 t8 cs8 hb8
 obtain ⟨v8, z3, z4⟩ := cvL_getk z2 hi8
 simp only [CVr] at z4
 have hbk := hr.bk b8 k _ c hb8 hk
 refine h.run _ _ _ (hal.alsoK (b := b8) (t := t8) (i := i8) (k := j) (cs := cs8.map (CV.kill [k, j] [k, j])) (by show look (killB [k, j] [k, j] bx) b8 = _; rw [look_killB, hb8]; rfl) (fun vs2 hvs2 => ?_) (by simp [lkk, look_cons, St.put]) hok8)
 have hkeep : w'.heap[L.bb b8]? = w.heap[L.bb b8]? := hchg.block _ (hr.bx_lt hb8) (fun hm => hbk (by rw [q1]; simp [hm]))
 have e8 : vs2 = vs0 := by
  have : some (Obj.cells vs2.toArray t8 (0, 0)) = some (Obj.cells vs0.toArray t8 (0, 0)) := hvs2.symm.trans (hkeep.trans z1)
  simpa using this
 subst e8
 simp only [if_true]
 rw [z3, z4]
end
end Go.Proofs.YtoigmlbidpocnaaGreat

namespace Go.Proofs.YtoigmlbidpocnaaGreat
open Go.RowKit
set_option linter.unusedVariables false
set_option linter.unusedSimpArgs false

def SWX (b : Nat) (wb w : World) : Prop := wb.heap.size ≤ w.heap.size ∧ ∀ k, k < wb.heap.size → k ≠ b → w.heap[k]? = wb.heap[k]?
theorem SWX.refl (b : Nat) (w : World) : SWX b w w := ⟨Nat.le_refl _, fun _ _ _ => rfl⟩
theorem SWX.chg {b : Nat} {wb w w' : World} (h : SWX b wb w) (hc : Chg [b] w w') : SWX b wb w' := ⟨Nat.le_trans h.1 hc.size, fun k hk hn => (hc.block k (Nat.lt_of_lt_of_le hk h.1) (by simpa using hn)).trans (h.2 k hk hn)⟩
def storeO (o : Oper) : Bool := match o.op with | .store _ _ _ => true | _ => false
def hdW (ops : Array Oper) (i : Nat) : Bool := (ops.toList.take i).all headO && (match ops[i]? with | some o => headO o || storeO o | none => true)
structure OpsW (P : Program) (C : Ctx) (nt : Nat) (Q : Exit → St → Prop) (all : Array Oper) (oB oK : List Nat) (b : Nat) (listed : Array Bool) (fuel : Nat) (σ : St) : Prop where
 run : ∀ wb L a w, Rel P C nt L σ a w → SWX (L.bb b) wb w → C.w0.heap.size ≤ wb.heap.size → (∀ i ∈ oB, L.bb i < wb.heap.size) → (∀ k ∈ oK, ∀ b ∈ L.fp k, b < wb.heap.size) → wpAnyT P .any all (QQ P C nt Q) (SWX (L.bb b) wb) (hdW all) fuel listed a w
section
variable {P : Program} {C : Ctx} {nt : Nat} {Q : Exit → St → Prop} {all : Array Oper} {oB oK : List Nat} {listed : Array Bool} {fuel b : Nat} {tm : List (Nat × SV)} {bx : List (Nat × TypeId × List CV)} {ks : List (Nat × Option KC)} {o : Oper} {d : Nat} {v X : SV} {Ks Bs : List Nat} {g : Bool} {x y : Operand} {T : TT}
theorem ok_regionW (b : Nat) {id : Nat} {l : List Oper} (hm : P.follows .mixedOrders = true) (hb : (oB.all fun i => (look bx i).isSome) = true) (hk : (oK.all fun k => (lkk ⟨tm, bx, ks⟩ k).isSome) = true)
  (h : OpsW P C nt Q l.toArray oB oK b (Array.replicate l.length false) l.length ⟨tm, bx, ks⟩) : Ok P C nt Q (.region id l.toArray true) ⟨tm, bx, ks⟩ := Ok.mk fun L a w hr => by
 have hr' := rel_drew hr
 refine T_begin (SWX (L.bb b) w.drew) (hdW l.toArray) hm ?_
 have := h.run w.drew L a w.drew hr' (SWX.refl _ _) hr'.chg.size (fun i hi => ?_) (fun k hk' b hb' => ?_)
 ·simpa using this
 ·obtain ⟨x, hx⟩ := Option.isSome_iff_exists.1 (List.all_eq_true.1 hb i hi)
  exact hr'.bx_lt hx
 ·obtain ⟨c, hc⟩ := Option.isSome_iff_exists.1 (List.all_eq_true.1 hk k hk')
  exact hr'.k_lt hc b hb'
theorem w_take (i : Nat) (hi : all[i]? = some o) (ht : takeB .any all (hdW all) listed i = true) (hg : o.guard = none) (hd : o.dst = some d) (hp : Pu P C nt o ⟨tm, bx, ks⟩ v Ks Bs) (h1 : (Ks.all fun k => oK.contains k && (lkk ⟨tm, bx, ks⟩ k).isSome) = true) (h2 : (Bs.all fun k => oB.contains k && (!(Nat.beq k b) && (look bx k).isSome)) = true) (h3 : (look bx b).isSome = true) (hn : Nat.blt d nt = true) (hk : svOk ⟨tm, bx, ks⟩ v = true)
  (h : OpsW P C nt Q all oB oK b (listed.setIfInBounds i true) fuel ⟨(d, v) :: tm, bx, ks⟩) : OpsW P C nt Q all oB oK b listed (fuel + 1) ⟨tm, bx, ks⟩ := ⟨fun wb L a w hr hs hw hB hK => by
 obtain ⟨r, q3, q4⟩ := hp.run L a w hr
 obtain ⟨xb, hxb⟩ := Option.isSome_iff_exists.1 h3
 have hy : ∀ w', SWX (L.bb b) wb w' → (execOp a.eval o).run P w' = .ok (.value r) w' := fun w' hs' => q4 w' fun z _ hu => by
  have hz : z < wb.heap.size ∧ z ≠ L.bb b := by
   rcases hu with (⟨h5, h6⟩ | ⟨k, hk, hb⟩) | ⟨i, hi, rfl⟩
   ·refine ⟨by omega, fun e => ?_⟩
    rcases hr.b1 b xb hxb with g | g
    ·omega
    ·exact h6 (by rw [e]; exact g)
   ·have := List.all_eq_true.1 h1 k hk
    simp only [Bool.and_eq_true, List.contains_iff_mem] at this
    obtain ⟨c, hc⟩ := Option.isSome_iff_exists.1 this.2
    exact ⟨hK k this.1 z hb, fun e => hr.bk b k xb c hxb hc (by rw [← e]; exact hb)⟩
   ·have := List.all_eq_true.1 h2 i hi
    simp only [Bool.and_eq_true, List.contains_iff_mem, Bool.not_eq_true'] at this
    obtain ⟨c, hc⟩ := Option.isSome_iff_exists.1 this.2.2
    exact ⟨hB i this.1, hr.bb i b c xb hc hxb (Nat.ne_of_beq_eq_false this.2.1)⟩
  rw [hs'.2 z hz.1 hz.2, hs.2 z hz.1 hz.2]
 refine T_take i (v := r) hi ht (fun _ _ _ h => h) hs (.inl ⟨by simp [Region.wanted, hg], hy⟩) ?_
 rw [hd]
 exact h.run wb L _ w (hr.put (by simpa [Nat.blt_eq] using hn) q3 (svOk_spec hk).1 (svOk_spec hk).2) hs hw hB hK⟩
theorem w_store (i : Nat) {t j t' sz by_ : Nat} {zc cs : List CV} {p : Bool × List CV} (hi : all[i]? = some o) (ht : (Region.ready .any all listed == [i]) = true) (hg : o.guard = none) (hT : TTOk P T) (ho : o.op = .store t x y) (hd : o.dst = none) (hte : look T.el t = some (sz, by_, zc)) (hx : Ev P C nt ⟨tm, bx, ks⟩ x (.box b j)) (hy : Ev P C nt ⟨tm, bx, ks⟩ y v) (hp : v.part = some p) (hk : svOk ⟨tm, bx, ks⟩ v = true)
  (hb : look bx b = some (t', cs)) (hl : p.2.length = sz) (hle : Nat.ble (j + sz) cs.length = true) (hkc : (cs.flatMap CV.keys).all (fun k => (lkk ⟨tm, bx, ks⟩ k).isSome) = true)
  (h : OpsW P C nt Q all oB oK b (listed.setIfInBounds i true) fuel ⟨tm, (b, t', setR j p.2 cs) :: bx, ks⟩) : OpsW P C nt Q all oB oK b listed (fuel + 1) ⟨tm, bx, ks⟩ := ⟨fun wb L a w hr hs hw hB hK => by
 refine T_one i hi hg ht fun K hK' => ?_
 obtain ⟨us, h1, h2, h3⟩ := sv_cells hr hp hk (hy.run L a w hr)
 have h4 := hx.run L a w hr
 simp only [SVr] at h4
 obtain ⟨vs, h5, h6⟩ := hr.bx b t' cs hb
 obtain ⟨inf, z, g1, g2, _⟩ := hT.el t sz by_ zc hte
 have hrun := run_store_row (z := z) g1 g2 h1 (by rw [cvL_len h2]; exact hl) h3 h5 (off := j) (by rw [cvL_len h6]; simpa [Nat.ble_eq] using hle)
 unfold Oper.wp execOp
 simp only [ho, h4, Sem.run_bind, hrun, Result.andThen_ok, Sem.run_pure, Oper.upon, hd, Act.put]
 have hs' := hs.chg (chg_setRow w (L.bb b) (setR j us vs).toArray)
 refine hK' _ _ (fun _ => hs') (h.run wb L _ _ (hr.setbox hb (chg_setRow _ _ _) (setRow_heap _ _ _ _ _ _ h5) (cvL_setR j h6 h2) ?_) hs' hw hB hK)
 intro k hm
 simp only [setR, List.flatMap_append, List.mem_append, or_assoc] at hm
 simp only [List.all_eq_true] at hkc
 rcases hm with hm | hm | hm
 ·exact hkc k (by
   obtain ⟨c, hc, hk'⟩ := List.mem_flatMap.1 hm
   exact List.mem_flatMap.2 ⟨c, List.mem_of_mem_take hc, hk'⟩)
 ·rw [part_keys hp] at hm; exact (svOk_spec hk).1 k hm
 ·exact hkc k (by
   obtain ⟨c, hc, hk'⟩ := List.mem_flatMap.1 hm
   exact List.mem_flatMap.2 ⟨c, List.mem_of_mem_drop hc, hk'⟩)⟩
theorem w_chain (is : List Nat) (hm : (is.all fun i => (all[i]?).isSome) = true) (hf : Nat.ble is.length fuel = true) (hc : chainB .any all (hdW all) is listed = true) (h : Ops P C nt Q all (is.filterMap fun i => all[i]?) ⟨tm, bx, ks⟩) : OpsW P C nt Q all oB oK b listed fuel ⟨tm, bx, ks⟩ := ⟨fun wb L a w hr _ _ _ _ =>
 T_chain is _ listed fuel a w (chain_map hm) (by simpa [Nat.ble_eq] using hf) hc (h.run L a w hr)⟩
theorem weak_eq {k : Nat} {c c' : KC} (hk : lkk ⟨tm, bx, ks⟩ k = some c) (e : c = c') (ho : (⟨tm, bx, ks⟩ : St).okB = true) : Weak P C nt ⟨tm, bx, ks⟩ ⟨tm, bx, (k, some c') :: ks⟩ := Weak.mk fun L a w hr => by
 subst e
 have hl : ∀ i q, lkk ⟨tm, bx, (k, some c) :: ks⟩ i = some q → lkk ⟨tm, bx, ks⟩ i = some q := fun i q h => by
  simp only [lkk, look_cons] at h
  split at h
  ·rename_i e; simp only [Option.join_some, Option.some.injEq] at h; rw [e, ← h]; exact hk
  ·exact h
 refine ⟨L, hr.sub' (fun _ _ h => h) (fun _ _ h => h) hl ?_⟩
 simp only [St.okB, Bool.and_eq_true, List.all_eq_true] at ho ⊢
 refine ⟨fun i hi => ?_, ho.2⟩
 have := ho.1 i hi
 simp only [lkk, look_cons]
 split
 ·rfl
 ·exact this
theorem d_build1 {oB oK : List Nat} {hd' : Nat → Bool} {tm : List (Nat × SV)} {bx : List (Nat × TypeId × List CV)} {ks : List (Nat × Option KC)} (i : Nat) (hT : TTOk P T) {t e sz by_ d k : Nat} {zc : List CV} {v : SV} {p : Bool × List CV} {ds : List DV} {js : List Nat} (hi : all[i]? = some o) (ht' : (Region.ready .any all listed == [i]) = true) (hg : o.guard = none) (ho : o.op = .buildSlice t 1 #[(0, x)]) (hd : o.dst = some d) (hn : Nat.blt d nt = true) (ht : look T.sl t = some e) (he : look T.el e = some (sz, by_, zc)) (hl0 : zc.length = sz) (hsz : Nat.blt 0 sz = true) (hsm : Nat.ble sz 16777216 = true)
  (hx : Ev P C nt ⟨tm, bx, ks⟩ x v) (hp : v.part = some p) (hkv : svOk ⟨tm, bx, ks⟩ v = true) (how : OwCs ⟨tm, bx, ks⟩ p.2 ds js) (hnj : js.Nodup) (hkj : k ∉ js) (hl : p.2.length = sz) (hk : lkk ⟨tm, bx, ks⟩ k = none) (hnk : k ∉ oK)
  (h : OpsD P C nt Q all oB oK hd' (listed.setIfInBounds i true) fuel ⟨(d, .one (.key k)) :: killT (k :: js) (k :: js) tm, killB (k :: js) (k :: js) bx, (k, some ⟨false, e, sz, 1, ds⟩) :: ((js.map fun j => (j, none)) ++ (k, some ⟨false, e, sz, 0, []⟩) :: ks)⟩) : OpsD P C nt Q all oB oK hd' listed (fuel + 1) ⟨tm, bx, ks⟩ := ⟨fun wb L a w hr hs hw hB hK => by
 refine T_one i hi hg ht' fun K hK' => ?_
 have hpos : 0 < sz := by simpa [Nat.blt_eq] using hsz
 obtain ⟨us, h1, h2, h3⟩ := sv_cells hr hp hkv (hx.run L a w hr)
 have hus : us.length = sz := by rw [cvL_len h2]; exact hl
 obtain ⟨o1, o2, o3⟩ := owCs_own hr how h2
 have hchg : Chg [] w (w.alloc (.cells us.toArray e)) := (Chg.refl [] w).alloc _
 have hr1 := hr.newkey (k := k) (c := ⟨false, e, sz, 0, []⟩) (v := .slice none 0 0) (f := []) hk (own_nil w e sz hpos) rfl (by simp) (by simp) (by simp) (by simp)
 have hlj : ∀ j ∈ js, (lkk { (⟨tm, bx, ks⟩ : St) with ks := (k, some ⟨false, e, sz, 0, []⟩) :: ks } j).isSome = true := fun j hj => by
  have hjk : j ≠ k := fun e' => hkj (by rw [← e']; exact hj)
  have := o2 j hj
  simp only [lkk, look_cons, if_neg hjk] at this ⊢
  exact this
 have hlt : ∀ b ∈ js.flatMap L.fp, b < w.heap.size := ownL_lt _ _ _ o1
 have o1' : OwnL (w.alloc (.cells us.toArray e)) ds us (js.flatMap L.fp) := ownL_keep _ _ _ o1 (fun b hb => hchg.block b (hlt b hb) (by simp))
 have hset := hr1.setkey (k := k) (c := ⟨false, e, sz, 0, []⟩) (c' := ⟨false, e, sz, 1, ds⟩) (js := js) (same := false) (w' := w.alloc (.cells us.toArray e)) (v' := .slice (some ⟨w.heap.size, 0, none⟩) 1 1) (f' := w.heap.size :: js.flatMap L.fp)
  (by simp [lkk, look_cons]) hkj (by simpa using hchg)
  (by
   unfold Own
   refine ⟨us, js.flatMap L.fp, rfl, hpos, by rw [o3, hl, Nat.one_mul], rowE_of (hT.lt e _ he) ⟨by rw [hus, Nat.one_mul], .inr ⟨w.heap.size, 1, us.toArray, rfl, Nat.zero_le _, alloc_last w _, Nat.le_refl _, by simp [maxLen], by simp [hus], by rw [Nat.one_mul, ← hus]; simp⟩⟩, o1'⟩)
  (by
   rw [List.nodup_cons]
   exact ⟨fun hm => absurd (hlt _ hm) (by omega), nodup_flat hr hnj o2⟩)
  (fun b hb => by
   rcases List.mem_cons.1 hb with hb | hb
   ·exact .inr (.inr (by omega))
   ·obtain ⟨j, hj, hb'⟩ := List.mem_flatMap.1 hb
    have hjk : j ≠ k := fun e' => hkj (by rw [← e']; exact hj)
    exact .inr (.inl ⟨j, hj, by simpa [hjk] using hb'⟩)) hlj (by simp) (by simp)
 refine wp_new (v := .slice (some ⟨w.heap.size, 0, none⟩) 1 1) (w' := w.alloc (.cells us.toArray e)) ?_ ?_
 ·unfold execOp
  simp only [ho, List.map_toArray, List.map_cons, List.map_nil, run_build1 (P := P) (w := w) hT ht he hl0 hpos (by simpa [Nat.ble_eq] using hsm) h1 hus, Sem.run_bind, Result.andThen_ok, Sem.run_pure]
 ·rw [hd]
  refine hK' _ _ (fun _ => hs.chg hchg) (h.run wb _ _ _ (hset.put (v := .one (.key k)) (r := .slice (some ⟨w.heap.size, 0, none⟩) 1 1) (by simpa [Nat.blt_eq] using hn) (by simp [SVr, CVr]) (by simp [SV.keys, CV.keys, mut_key]) (by simp [SV.boxes])) (hs.chg hchg) hw hB fun z hz b hb => ?_)
  have hzk : z ≠ k := fun e' => hnk (by rw [← e']; exact hz)
  simp only [if_neg hzk] at hb
  exact hK z hz b hb⟩
end
end Go.Proofs.YtoigmlbidpocnaaGreat

namespace Go.Proofs.YtoigmlbidpocnaaGreat
open Go.RowKit
open Go.Proofs
set_option linter.unusedVariables false
set_option linter.unusedSimpArgs false
section
variable {P : Program} {C : Ctx} {nt : Nat} {σ : St} {o : Oper} {x y : Operand}
theorem ofInt64 (a : Nat) (ha : a < 9223372036854775808) : (BitVec.ofInt 64 (a : Int)).toNat = a := by
 rw [BitVec.ofInt_natCast, BitVec.toNat_ofNat]; exact Nat.mod_eq_of_lt (by omega)
theorem and_nat (a b : Nat) (ha : a < 9223372036854775808) (hb : b < 9223372036854775808) : bits .and .i64 (a : Int) (b : Int) = ((a &&& b : Nat) : Int) := by
 have hx : a &&& b < 2 ^ 63 := Nat.and_lt_two_pow _ (by omega)
 show IntKind.i64.wrap ((BitVec.ofInt 64 (a : Int) &&& BitVec.ofInt 64 (b : Int)).toNat : Int) = _
 rw [BitVec.toNat_and, ofInt64 a ha, ofInt64 b hb, IntKind.wrap_i64]
 omega
theorem or_nat (a b : Nat) (ha : a < 9223372036854775808) (hb : b < 9223372036854775808) : bits .or .i64 (a : Int) (b : Int) = ((a ||| b : Nat) : Int) := by
 have hx : a ||| b < 2 ^ 63 := Nat.or_lt_two_pow (by omega) (by omega)
 show IntKind.i64.wrap ((BitVec.ofInt 64 (a : Int) ||| BitVec.ofInt 64 (b : Int)).toNat : Int) = _
 rw [BitVec.toNat_or, ofInt64 a ha, ofInt64 b hb, IntKind.wrap_i64]
 omega
theorem and127 {m : Int} (h0 : 0 ≤ m) (h1 : m ≤ 9223372036854775807) : bits .and .i64 m 127 = m % 128 := by
 obtain ⟨k, rfl⟩ := Int.eq_ofNat_of_zero_le h0
 rw [show (127 : Int) = ((127 : Nat) : Int) from rfl, and_nat k 127 (by omega) (by omega), show (127 : Nat) = 2 ^ 7 - 1 from rfl, Nat.and_two_pow_sub_one_eq_mod]
 omega
theorem and255 {m : Int} (h0 : 0 ≤ m) (h1 : m ≤ 9223372036854775807) : bits .and .i64 m 255 = m % 256 := by
 obtain ⟨k, rfl⟩ := Int.eq_ofNat_of_zero_le h0
 rw [show (255 : Int) = ((255 : Nat) : Int) from rfl, and_nat k 255 (by omega) (by omega), show (255 : Nat) = 2 ^ 8 - 1 from rfl, Nat.and_two_pow_sub_one_eq_mod]
 omega
theorem or128 {m : Int} (h0 : 0 ≤ m) (h1 : m < 128) : bits .or .i64 m 128 = m + 128 := by
 obtain ⟨k, rfl⟩ := Int.eq_ofNat_of_zero_le h0
 have h := Nat.two_pow_add_eq_or_of_lt (i := 7) (b := k) (by omega) 1
 rw [show (128 : Int) = ((128 : Nat) : Int) from rfl, or_nat k 128 (by omega) (by omega), Nat.or_comm]
 rw [show (2 : Nat) ^ 7 * 1 = 128 from rfl] at h
 rw [← h]
 omega
theorem pu_orR {t ty : TypeId} {K J : List Nat} {m n q : Int} (ho : o.op = .binOp .or t x y ty) (hx : Ev P C nt σ x (.one (.dv K (.int .i64 m)))) (hy : Ev P C nt σ y (.one (.dv J (.int .i64 n)))) (e : bits .or .i64 m n = q) (hq : InR .i64 q) : Pu P C nt o σ (.one (.dv [] (.int .i64 q))) [] [] :=
 pu_int ho hx hy fun _ _ => ⟨_, fun ok w => by unfold Lay; exact ⟨rfl, hq⟩, fun w => by simp [binOp, Op.intBits, ← e, bits]⟩
theorem pu_andR {t ty : TypeId} {K J : List Nat} {m n q : Int} (ho : o.op = .binOp .and t x y ty) (hx : Ev P C nt σ x (.one (.dv K (.int .i64 m)))) (hy : Ev P C nt σ y (.one (.dv J (.int .i64 n)))) (e : bits .and .i64 m n = q) (hq : InR .i64 q) : Pu P C nt o σ (.one (.dv [] (.int .i64 q))) [] [] :=
 pu_int ho hx hy fun _ _ => ⟨_, fun ok w => by unfold Lay; exact ⟨rfl, hq⟩, fun w => by simp [binOp, Op.intBits, ← e, bits]⟩
end
end Go.Proofs.YtoigmlbidpocnaaGreat

namespace Go.Proofs.YtoigmlbidpocnaaGreat
open Go.RowKit
open Go.Proofs
set_option linter.unusedVariables false
set_option linter.unusedSimpArgs false
section
variable {P : Program} {C : Ctx} {nt : Nat} {σ : St} {L : Lyt} {a : Act} {w : World} {o : Oper} {x y : Operand} {T : TT}
theorem info_split {e : TypeId} {z : Value} {sz by_ : Nat} (h : (P.info? e).map (fun i => (i.zero, i.size, i.bytes)) = some (some z, sz, by_)) : ∃ i, P.info? e = some i ∧ i.zero = some z ∧ i.size = sz ∧ i.bytes = by_ := by
 cases hi : P.info? e with
 | none => rw [hi] at h; cases h
 | some i =>
  rw [hi] at h
  simp only [Option.map_some, Option.some.injEq, Prod.mk.injEq] at h
  exact ⟨i, rfl, h.1, h.2.1, h.2.2⟩
theorem run_append_str (w : World) (t u ty e : TypeId) (ht : P.underlying t = some (.slice e)) (hu : P.underlying u = some .string) (hinfo : (P.info? e).map (fun i => (i.zero, i.size, i.bytes)) = some (some (.int .u8 0), 1, 1))
  (v : Value) (n : Nat) (xs : List Value) (hown : w.ownsRow 0 e 1 v n xs) (s : ByteArray) (h63 : n + s.size ≤ maxLen) (hbytes : n + s.size ≤ 140737488355328) :
  ∃ A' c' w', (Builtin.append_ #[t, u] ty #[v, .string s]).run P w = .ok (.slice A' (n + s.size) c') w' ∧ w'.ownsRow 0 e 1 (.slice A' (n + s.size) c') (n + s.size) (xs ++ Lib.strCells s) ∧ Chg v.ownBlock.toList w w' ∧
   (v.ownBlock = (Value.slice A' (n + s.size) c').ownBlock ∨ (Value.slice A' (n + s.size) c').ownBlock = some w.heap.size) := by
 obtain ⟨i, hi, hz, hs, hb⟩ := info_split hinfo
 obtain ⟨v', w', hr, h2, h3, h4⟩ := Lib.run_append_own_string (P := P) w 0 t u ty e i ht hu hi hz hs hb v n xs hown s h63 hbytes (Nat.zero_le _)
 have hsmall : n + s.size ≤ 9223372036854775807 := by simp only [maxLen] at h63; omega
 have hk : v'.ownBlock = v.ownBlock ∨ v'.ownBlock = some w.heap.size := by
  rcases hown.2 with ⟨rfl, rfl⟩ | ⟨g, cap, cur, rfl, hbg, hg, hnc, hcm, hcs, htake⟩
  ·by_cases hm : s.size = 0
   ·rw [h4.2 ⟨rfl, hm⟩]; exact .inl rfl
   ·have hr' := run_append_nil_string (P := P) w t u ty e i (.int .u8 0) ht hu hi hz s (by omega) (by omega) (by rw [hb]; omega)
    rw [hr'] at hr
    simp only [Result.ok.injEq] at hr
    rw [← hr.1]; exact .inr rfl
  ·by_cases hroom : n + s.size ≤ cap
   ·have hr' := Lib.run_append_room_string (P := P) w t u ty e i ht hu hi hs g n cap cur hg s hroom (by omega)
    rw [hr'] at hr
    simp only [Result.ok.injEq] at hr
    rw [← hr.1]; exact .inl rfl
   ·have hr' := Lib.run_append_grow_string (P := P) w t u ty e i (.int .u8 0) ht hu hi hz ⟨g, 0, none⟩ n cap xs (by rw [hs]; simpa using hown.1) (hown.cells (g := g) rfl) s (by omega) (by omega) (by rw [hb]; exact growslice_fits (by omega) (by omega))
    rw [hr'] at hr
    simp only [Result.ok.injEq] at hr
    rw [← hr.1]; exact .inr rfl
 obtain ⟨A', c', rfl, _⟩ := own_form h2
 refine ⟨A', c', w', hr, h2, (Chg.refl _ w).grown h3 (fun g hg => .inl (by rw [hg]; simp)), ?_⟩
 rcases hk with hk | hk
 ·exact .inl hk.symm
 ·exact .inr hk
theorem ef_appS (hT : TTOk P T) {t u e d k : Nat} {q : Unit} {c : KC} {J : List Nat} {s : ByteArray} (ho : o.op = .call { callee := .builtin .append, args := #[x, y], argTypes := #[t, u] }) (hd : o.dst = some d) (hnt : Nat.blt d nt = true) (ht : look T.sl t = some e) (hu : look T.st u = some q) (hinfo : (P.info? e).map (fun i => (i.zero, i.size, i.bytes)) = some (some (.int .u8 0), 1, 1)) (he : Nat.blt e 1000000 = true)
  (hx : Ev P C nt σ x (.one (.key k))) (hk : lkk σ k = some c) (hce : c.e = e) (hcs : c.sz = 1) (hy : Ev P C nt σ y (.one (.dv J (.str s)))) (hb : c.n + s.size ≤ 140737488355328) :
  Ef P C nt o σ (fun σ' => σ' = (σ.mut k [] false ⟨false, e, 1, c.n + s.size, c.cs ++ s.data.toList.flatMap fun b : UInt8 => [DV.int .u8 (b.toNat : Int)]⟩).put d (.one (.key k))) := Ef.mk fun L a w hr K Q hK => by
 have h1 := hx.run L a w hr
 have h2 := hy.run L a w hr
 simp only [SVr, CVr, Lay] at h1 h2
 subst hce
 have hE' : c.e < 1000000 := by simpa [Nat.blt_eq] using he
 have hown := (hr.ks k c hk).1
 simp only [Own] at hown
 obtain ⟨vs, f, e3, h5, h6, h7, h8⟩ := hown
 have h7 := h7.1 hE'
 rw [hcs] at h7
 have hcells : Lib.strCells s = s.data.toList.map fun b => Value.int .u8 (b.toNat : Int) := rfl
 obtain ⟨A', c', w', hrun, g2, g3, g4⟩ := run_append_str (P := P) w t u o.type c.e (hT.sl t c.e ht) (hT.st u q hu) hinfo (L.rv k) c.n vs h7 s (by simp only [maxLen]; omega) hb
 unfold Oper.wp execOp
 simp only [ho, resolve, invoke, builtin, Sem.run_bind, Sem.run_pure, Result.andThen_ok, List.map_toArray, List.map_cons, List.map_nil, h1, h2.1, hrun]
 have hl : (s.data.toList.flatMap fun b : UInt8 => [DV.int .u8 (b.toNat : Int)]).length = s.size * c.sz := by rw [hcs, Nat.mul_one, flat_bytes_len]; rfl
 rw [hcells, ← hcs] at g2
 exact app_fin (js := []) (m := s.size) (us := s.data.toList.map fun b => Value.int .u8 (b.toNat : Int)) (ds := s.data.toList.flatMap fun b : UInt8 => [DV.int .u8 (b.toNat : Int)]) (f2 := []) hd (by simpa [Nat.blt_eq] using hnt) hr hk hE' (by simp) (by simp) hl (ownL_bytes w _) (by simp) (by simp) e3 h5 h6 h8 g2 g3 g4 (fun L' a' w' h => hK L' _ _ _ (by rw [hcs]) h)
theorem pu_mulR {t ty : TypeId} {K J : List Nat} {k : IntKind} {m n : Int} (ho : o.op = .binOp .mul t x y ty) (hx : Ev P C nt σ x (.one (.dv K (.int k m)))) (hy : Ev P C nt σ y (.one (.dv J (.int k n)))) (h : InR k (m * n)) : Pu P C nt o σ (.one (.dv [] (.int k (m * n)))) [] [] := by
 have := pu_mul ho hx hy
 rwa [wrap_inR h] at this
/-! slices with several elements -/
def EvParts (P : Program) (C : Ctx) (nt : Nat) (σ : St) (sz : Nat) : Nat → List (Nat × Operand) → List CV → Prop
 | _, [], cs => cs = []
 | i, (j, x) :: ps, cs => ∃ v p cs', j = i ∧ Ev P C nt σ x v ∧ v.part = some p ∧ svOk σ v = true ∧ p.2.length = sz ∧ cs = p.2 ++ cs' ∧ EvParts P C nt σ sz (i + 1) ps cs'
theorem ep_nil {sz i : Nat} : EvParts P C nt σ sz i [] [] := rfl
theorem ep_cons {sz i : Nat} {v : SV} {p : Bool × List CV} {ps : List (Nat × Operand)} {cs' : List CV} (hx : Ev P C nt σ x v) (hp : v.part = some p) (hk : svOk σ v = true) (hl : p.2.length = sz) (h : EvParts P C nt σ sz (i + 1) ps cs') : EvParts P C nt σ sz i ((i, x) :: ps) (p.2 ++ cs') := ⟨v, p, cs', rfl, hx, hp, hk, hl, rfl, h⟩
theorem fill_list (hr : Rel P C nt L σ a w) {sz : Nat} : ∀ {ps : List (Nat × Operand)} {i : Nat} {cs : List CV} {done rest : List Value}, EvParts P C nt σ sz i ps cs → done.length = i * sz → rest.length = ps.length * sz →
  ∃ us, Instr.fill (fun i => some (i * sz, sz)) (done ++ rest).toArray (ps.map fun q => (q.1, a.eval q.2)) = some (done ++ us).toArray ∧ CVL C L w cs us
 | [], i, cs, done, rest, h, hd, hl => by
  simp only [EvParts] at h; subst h
  have : rest = [] := List.eq_nil_of_length_eq_zero (by simpa using hl)
  subst this
  exact ⟨[], rfl, rfl⟩
 | (j, x) :: ps, i, cs, done, rest, ⟨v, p, cs', e, h1, h2, h3, h4, h5, h6⟩, hd, hl => by
  subst e; subst h5
  obtain ⟨xs, k1, k2, k3⟩ := sv_cells hr h2 h3 (h1.run L a w hr)
  have hxl : xs.length = sz := by rw [cvL_len k2]; exact h4
  rw [List.length_cons, Nat.add_mul, Nat.one_mul] at hl
  obtain ⟨us, g1, g2⟩ := fill_list hr (done := done ++ xs) (rest := rest.drop sz) h6 (by rw [List.length_append, hd, hxl, Nat.add_mul, Nat.one_mul]) (by rw [List.length_drop]; omega)
  refine ⟨xs ++ us, ?_, cvL_append k2 g2⟩
  rw [List.map_cons, fill_one (off := j * sz) (sz := sz) rfl k1 hxl (by rw [List.length_append]; omega)]
  have e : setR (j * sz) xs (done ++ rest) = done ++ xs ++ rest.drop sz := by
   unfold setR
   rw [← hd, List.take_left, hxl, List.drop_append]
   simp
  rw [e, g1, List.append_assoc]
theorem efg_buildN (hT : TTOk P T) {t e sz by_ d k n : Nat} {zc cs : List CV} {ds : List DV} {js : List Nat} {ps : List (Nat × Operand)} (ho : o.op = .buildSlice t n ps.toArray) (hd : o.dst = some d) (hn : Nat.blt d nt = true) (ht : look T.sl t = some e) (he : look T.el e = some (sz, by_, zc)) (hl0 : zc.length = sz) (hsz : Nat.blt 0 sz = true) (hsm : Nat.ble (n * sz) 16777216 = true) (hps : ps.length = n) (hn0 : Nat.blt 0 n = true)
  (hx : EvParts P C nt σ sz 0 ps cs) (how : OwCs σ cs ds js) (hnj : js.Nodup) (hkj : k ∉ js) (hcl : cs.length = n * sz) (hk : lkk σ k = none) :
  EfG P C nt o σ (fun σ' => σ' = (St.mut { σ with ks := (k, some ⟨false, e, sz, 0, []⟩) :: σ.ks } k js false ⟨false, e, sz, n, ds⟩).put d (.one (.key k))) := EfG.mk fun L a w hr K Q hK => by
 have hpos : 0 < sz := by simpa [Nat.blt_eq] using hsz
 have hnp : 0 < n := by simpa [Nat.blt_eq] using hn0
 have hsm' : n * sz ≤ 16777216 := by simpa [Nat.ble_eq] using hsm
 obtain ⟨inf, z, g1, g2, g3, g4, g5⟩ := hT.el e sz by_ zc he
 obtain ⟨us, f1, h2⟩ := fill_list hr (sz := sz) (done := []) (rest := ((List.range (n * sz)).map fun j => z.cells[j % z.cells.size]!)) hx (by simp) (by simp [hps])
 have hus : us.length = n * sz := by rw [cvL_len h2]; exact hcl
 obtain ⟨o1, o2, o3⟩ := owCs_own hr how h2
 have hchg : Chg [] w (w.alloc (.cells us.toArray e)) := (Chg.refl [] w).alloc _
 have hr1 := hr.newkey (k := k) (c := ⟨false, e, sz, 0, []⟩) (v := .slice none 0 0) (f := []) hk (own_nil w e sz hpos) rfl (by simp) (by simp) (by simp) (by simp)
 have hlj : ∀ j ∈ js, (lkk { σ with ks := (k, some ⟨false, e, sz, 0, []⟩) :: σ.ks } j).isSome = true := fun j hj => by
  have hjk : j ≠ k := fun e' => hkj (by rw [← e']; exact hj)
  have := o2 j hj
  simp only [lkk, look_cons, if_neg hjk] at this ⊢
  exact this
 have hlt : ∀ b ∈ js.flatMap L.fp, b < w.heap.size := ownL_lt _ _ _ o1
 have o1' : OwnL (w.alloc (.cells us.toArray e)) ds us (js.flatMap L.fp) := ownL_keep _ _ _ o1 (fun b hb => hchg.block b (hlt b hb) (by simp))
 have hset := hr1.setkey (k := k) (c := ⟨false, e, sz, 0, []⟩) (c' := ⟨false, e, sz, n, ds⟩) (js := js) (same := false) (w' := w.alloc (.cells us.toArray e)) (v' := .slice (some ⟨w.heap.size, 0, none⟩) n n) (f' := w.heap.size :: js.flatMap L.fp)
  (by simp [lkk, look_cons]) hkj (by simpa using hchg)
  (by
   unfold Own
   have hnm : n ≤ maxLen := by
    have : n * 1 ≤ n * sz := Nat.mul_le_mul_left _ hpos
    simp only [maxLen]; omega
   refine ⟨us, js.flatMap L.fp, rfl, hpos, by rw [o3, hcl], rowE_of (hT.lt e _ he) ⟨hus, .inr ⟨w.heap.size, n, us.toArray, rfl, Nat.zero_le _, alloc_last w _, Nat.le_refl _, hnm, by simp [hus], by rw [← hus]; simp⟩⟩, o1'⟩)
  (by
   rw [List.nodup_cons]
   exact ⟨fun hm => absurd (hlt _ hm) (by omega), nodup_flat hr hnj o2⟩)
  (fun b hb => by
   rcases List.mem_cons.1 hb with hb | hb
   ·exact .inr (.inr (by omega))
   ·obtain ⟨j, hj, hb'⟩ := List.mem_flatMap.1 hb
    have hjk : j ≠ k := fun e' => hkj (by rw [← e']; exact hj)
    exact .inr (.inl ⟨j, hj, by simpa [hjk] using hb'⟩)) hlj (by simp) (by simp)
 have hrun : (Instr.buildSlice t n (ps.map fun q => (q.1, a.eval q.2)).toArray).run P w = .ok (.slice (some ⟨w.heap.size, 0, none⟩) n n) (w.alloc (.cells us.toArray e)) := by
  refine run_buildSlice w t e n _ us.toArray inf z (hT.sl t e ht) g1 g4 (by rw [g2]; omega) (by rw [g2]; have := Nat.mul_pos hnp hpos; omega) ?_
  rw [g2]
  have e1 : ((Array.range (n * sz)).map fun j => z.cells[j % z.cells.size]!) = (((List.range (n * sz)).map fun j => z.cells[j % z.cells.size]!)).toArray := by
   apply Array.ext'
   simp
  rw [e1]
  simpa using f1
 refine wp_new (v := .slice (some ⟨w.heap.size, 0, none⟩) n n) (w' := w.alloc (.cells us.toArray e)) ?_ ?_
 ·unfold execOp
  simp only [ho, List.map_toArray, hrun, Sem.run_bind, Result.andThen_ok, Sem.run_pure]
 ·rw [hd]
  refine hK _ _ _ _ rfl (hset.put (v := .one (.key k)) (r := .slice (some ⟨w.heap.size, 0, none⟩) n n) (by simpa [Nat.blt_eq] using hn) (by simp [SVr, CVr]) (by simp [SV.keys, CV.keys, mut_key]) (by simp [SV.boxes])) ⟨hchg, fun i c hc => ?_, fun _ _ _ => rfl⟩
  have : i ≠ k := fun e => by rw [e, hk] at hc; cases hc
  simp [this]
end
section
variable {P : Program} {C : Ctx} {nt : Nat} {o : Oper} {x y : Operand} {T : TT} {Q : Exit → St → Prop} {all : Array Oper} {rest : List Oper} {tm : List (Nat × SV)} {bx : List (Nat × TypeId × List CV)} {ks : List (Nat × Option KC)}
theorem o_appS (hT : TTOk P T) {t u e d k : Nat} {q : Unit} {c : KC} {J : List Nat} {s : ByteArray} {cs : List DV} (hg : o.guard = none) (hd : o.dst = some d) (ho : o.op = .call { callee := .builtin .append, args := #[x, y], argTypes := #[t, u] }) (hnt : Nat.blt d nt = true) (ht : look T.sl t = some e) (hu : look T.st u = some q) (hinfo : (P.info? e).map (fun i => (i.zero, i.size, i.bytes)) = some (some (.int .u8 0), 1, 1)) (he : Nat.blt e 1000000 = true)
  (hx : Ev P C nt ⟨tm, bx, ks⟩ x (.one (.key k))) (hk : lkk ⟨tm, bx, ks⟩ k = some c) (hce : c.e = e) (hcs : c.sz = 1) (hy : Ev P C nt ⟨tm, bx, ks⟩ y (.one (.dv J (.str s)))) (hb : c.n + s.size ≤ 140737488355328) {n : Nat} (hn : c.n + s.size = n) (hcc : (c.cs ++ s.data.toList.flatMap fun b : UInt8 => [DV.int .u8 (b.toNat : Int)]) = cs)
  (h : Ops P C nt Q all rest ⟨(d, .one (.key k)) :: killT [k] [k] tm, killB [k] [k] bx, (k, some ⟨false, e, 1, n, cs⟩) :: ks⟩) : Ops P C nt Q all (o :: rest) ⟨tm, bx, ks⟩ :=
 ops_ef1 hg (ef_appS hT ho hd hnt ht hu hinfo he hx hk hce hcs hy hb) (by subst hn; subst hcc; exact h)
theorem o_buildN (hT : TTOk P T) {t e sz by_ d k n : Nat} {zc cs : List CV} {ds : List DV} {js : List Nat} {ps : List (Nat × Operand)} (hg : o.guard = none) (hd : o.dst = some d) (ho : o.op = .buildSlice t n ps.toArray) (hn : Nat.blt d nt = true) (ht : look T.sl t = some e) (he : look T.el e = some (sz, by_, zc)) (hl0 : zc.length = sz) (hsz : Nat.blt 0 sz = true) (hsm : Nat.ble (n * sz) 16777216 = true) (hps : ps.length = n) (hn0 : Nat.blt 0 n = true)
  (hx : EvParts P C nt ⟨tm, bx, ks⟩ sz 0 ps cs) (how : OwCs ⟨tm, bx, ks⟩ cs ds js) (hnj : js.Nodup) (hkj : k ∉ js) (hcl : cs.length = n * sz) (hk : lkk ⟨tm, bx, ks⟩ k = none)
  (h : Ops P C nt Q all rest ⟨(d, .one (.key k)) :: killT (k :: js) (k :: js) tm, killB (k :: js) (k :: js) bx, (k, some ⟨false, e, sz, n, ds⟩) :: ((js.map fun j => (j, none)) ++ (k, some ⟨false, e, sz, 0, []⟩) :: ks)⟩) : Ops P C nt Q all (o :: rest) ⟨tm, bx, ks⟩ :=
 ops_ef1 hg (efg_buildN hT ho hd hn ht he hl0 hsz hsm hps hn0 hx how hnj hkj hcl hk).ef h
end
section
variable {P : Program} {C : Ctx} {nt : Nat} {o : Oper} {x y : Operand} {T : TT} {Q : Exit → St → Prop} {all : Array Oper} {tm : List (Nat × SV)} {bx : List (Nat × TypeId × List CV)} {ks : List (Nat × Option KC)} {oB oK : List Nat} {hd' : Nat → Bool} {listed : Array Bool} {fuel : Nat}
theorem d_convSB (i : Nat) (hT : TTOk P T) {s t e d k : Nat} {u : Unit} {J : List Nat} {v : ByteArray} (hi : all[i]? = some o) (hy : (Region.ready .any all listed == [i]) = true) (hg : o.guard = none) (hd : o.dst = some d) (ho : o.op = .convert s t x) (hn : Nat.blt d nt = true) (hs : look T.st s = some u) (ht : look T.sl t = some e) (he : look T.it e = some .u8)
  (hx : Ev P C nt ⟨tm, bx, ks⟩ x (.one (.dv J (.str v)))) (hk : lkk ⟨tm, bx, ks⟩ k = none) (hb : (oB.all fun i => (look bx i).isSome) = true) (hk' : (oK.all fun k => (lkk ⟨tm, bx, ks⟩ k).isSome) = true)
  (h : OpsD P C nt Q all oB oK hd' (listed.setIfInBounds i true) fuel ⟨(d, .one (.key k)) :: tm, bx, (k, some ⟨false, 1000005, 1, v.data.toList.length, v.data.toList.flatMap fun b : UInt8 => [DV.int .u8 (b.toNat : Int)]⟩) :: ks⟩) : OpsD P C nt Q all oB oK hd' listed (fuel + 1) ⟨tm, bx, ks⟩ :=
 d_efg i hi hy hg (efg_convSB hT ho hd hn hs ht he hx hk) hb hk' fun σ' e => by rw [e]; exact h
theorem d_buildN (i : Nat) (hT : TTOk P T) {t e sz by_ d k n : Nat} {zc cs : List CV} {ds : List DV} {js : List Nat} {ps : List (Nat × Operand)} (hi : all[i]? = some o) (hy : (Region.ready .any all listed == [i]) = true) (hg : o.guard = none) (hd : o.dst = some d) (ho : o.op = .buildSlice t n ps.toArray) (hn : Nat.blt d nt = true) (ht : look T.sl t = some e) (he : look T.el e = some (sz, by_, zc)) (hl0 : zc.length = sz) (hsz : Nat.blt 0 sz = true) (hsm : Nat.ble (n * sz) 16777216 = true) (hps : ps.length = n) (hn0 : Nat.blt 0 n = true)
  (hx : EvParts P C nt ⟨tm, bx, ks⟩ sz 0 ps cs) (how : OwCs ⟨tm, bx, ks⟩ cs ds js) (hnj : js.Nodup) (hkj : k ∉ js) (hcl : cs.length = n * sz) (hk : lkk ⟨tm, bx, ks⟩ k = none)
  (hb : (oB.all fun i => (look bx i).isSome) = true) (hk' : (oK.all fun k => (lkk ⟨tm, bx, ks⟩ k).isSome) = true)
  (h : OpsD P C nt Q all oB oK hd' (listed.setIfInBounds i true) fuel ⟨(d, .one (.key k)) :: killT (k :: js) (k :: js) tm, killB (k :: js) (k :: js) bx, (k, some ⟨false, e, sz, n, ds⟩) :: ((js.map fun j => (j, none)) ++ (k, some ⟨false, e, sz, 0, []⟩) :: ks)⟩) : OpsD P C nt Q all oB oK hd' listed (fuel + 1) ⟨tm, bx, ks⟩ :=
 d_efg i hi hy hg (efg_buildN hT ho hd hn ht he hl0 hsz hsm hps hn0 hx how hnj hkj hcl hk) hb hk' fun σ' e => by rw [e]; exact h
end
end Go.Proofs.YtoigmlbidpocnaaGreat

namespace Go.Proofs.YtoigmlbidpocnaaGreat
open Go.RowKit
open Go.Proofs
set_option linter.unusedVariables false
set_option linter.unusedSimpArgs false
structure OpsJ (P : Program) (C : Ctx) (nt : Nat) (Q : Exit → St → Prop) (all : Array Oper) (oB oK : List Nat) (hd : Nat → Bool) (listed : Array Bool) (fuel : Nat) (i : Nat) (σ : St) : Prop where
 run : ∀ wb L a w, Rel P C nt L σ a w → SW wb w → C.w0.heap.size ≤ wb.heap.size → (∀ i ∈ oB, L.bb i < wb.heap.size) → (∀ k ∈ oK, ∀ b ∈ L.fp k, b < wb.heap.size) →
  wpOp P all (QQ P C nt Q) i (fun a' w' => (hd i = true → SW wb w') ∧ wpAnyT P .any all (QQ P C nt Q) (SW wb) hd fuel (listed.setIfInBounds i true) a' w') a w
def AllJ (P : Program) (C : Ctx) (nt : Nat) (Q : Exit → St → Prop) (all : Array Oper) (oB oK : List Nat) (hd : Nat → Bool) (listed : Array Bool) (fuel : Nat) (σ : St) : List Nat → Prop
 | [] => True
 | i :: is => OpsJ P C nt Q all oB oK hd listed fuel i σ ∧ AllJ P C nt Q all oB oK hd listed fuel σ is
section
variable {P : Program} {C : Ctx} {nt : Nat} {Q : Exit → St → Prop} {all : Array Oper} {oB oK : List Nat} {listed : Array Bool} {fuel : Nat} {hd' : Nat → Bool} {tm : List (Nat × SV)} {bx : List (Nat × TypeId × List CV)} {ks : List (Nat × Option KC)} {o : Oper} {d : Nat} {v X : SV} {Ks Bs : List Nat} {g : Bool} {σ : St} {x : Operand} {T : TT}
theorem allJ_mem : ∀ {is : List Nat}, AllJ P C nt Q all oB oK hd' listed fuel σ is → ∀ i ∈ is, OpsJ P C nt Q all oB oK hd' listed fuel i σ
 | [], _, _, hi => by cases hi
 | j :: is, h, i, hi => by
  rcases List.mem_cons.1 hi with rfl | hi
  ·exact h.1
  ·exact allJ_mem h.2 i hi
theorem d_split (i : Nat) (is : List Nat) (hr : (Region.ready .any all listed == i :: is) = true) (h : AllJ P C nt Q all oB oK hd' listed fuel σ (i :: is)) : OpsD P C nt Q all oB oK hd' listed (fuel + 1) σ := ⟨fun wb L a w hrel hs hw hB hK => by
 have hr' : Region.ready .any all listed = i :: is := by simpa using hr
 refine ⟨fun h0 => (by rw [hr'] at h0; cases h0), fun j hj => ?_⟩
 rw [hr'] at hj
 exact (allJ_mem h j hj).run wb L a w hrel hs hw hB hK⟩
theorem j_efg (i : Nat) {R : St → Prop} (hi : all[i]? = some o) (hg : o.guard = none) (hp : EfG P C nt o ⟨tm, bx, ks⟩ R) (hb : (oB.all fun i => (look bx i).isSome) = true) (hk : (oK.all fun k => (lkk ⟨tm, bx, ks⟩ k).isSome) = true)
  (h : ∀ σ', R σ' → OpsD P C nt Q all oB oK hd' (listed.setIfInBounds i true) fuel σ') : OpsJ P C nt Q all oB oK hd' listed fuel i ⟨tm, bx, ks⟩ := ⟨fun wb L a w hr hs hw hB hK => by
 unfold wpOp
 simp only [hi]
 have hw' : Region.wanted o (yielded all a.tmps) = true := by simp [Region.wanted, hg]
 rw [if_pos hw']
 refine .inl (hp.run L a w hr _ _ fun L' σ' a' w' h1 h2 h3 => ⟨fun _ => hs.chg h3.chg, (h σ' h1).run wb L' a' w' h2 (hs.chg h3.chg) hw (fun j hj => ?_) (fun k hk' => ?_)⟩)
 ·obtain ⟨x, hx⟩ := Option.isSome_iff_exists.1 (List.all_eq_true.1 hb j hj)
  rw [h3.box j x hx]; exact hB j hj
 ·obtain ⟨c, hc⟩ := Option.isSome_iff_exists.1 (List.all_eq_true.1 hk k hk')
  rw [h3.key k c hc]; exact hK k hk'⟩
theorem j_callK (m i : Nat) {f : FuncId} {xs : List Operand} {ats : Array TypeId} {us : List SV} {kk : List (Nat × Option KC)} (hi : all[i]? = some o) (hg : o.guard = none) (hd : o.dst = some d) (ho : o.op = .call { callee := .value (.func f), args := xs.toArray, argTypes := ats })
  (hc : ∀ (args : Array Value) (w : World), (callFunc f args).run P w = .ok (.enter f args) w) (hf : KFn P f us v kk) (ha : ArgSs P C nt ⟨tm, bx, ks⟩ xs us) (hn : Nat.blt d nt = true) (hres : v.retOk = true) (hfree : (kk.all fun q => (lkk ⟨tm, bx, ks⟩ (m + q.1)).isNone) = true)
  (hb : (oB.all fun i => (look bx i).isSome) = true) (hk : (oK.all fun k => (lkk ⟨tm, bx, ks⟩ k).isSome) = true)
  (h : OpsD P C nt Q all oB oK hd' (listed.setIfInBounds i true) fuel ⟨(d, v.sh m) :: tm, bx, shK m kk ++ ks⟩) : OpsJ P C nt Q all oB oK hd' listed fuel i ⟨tm, bx, ks⟩ :=
 j_efg i hi hg (efg_call (ι := Unit) (v := fun _ => v) (kk := fun _ => kk) (p := fun _ => True) m ho hd hn hc hf.ok ha (fun u σ' h => ⟨(), h.1, h.2, trivial⟩) (fun _ => hres) (fun _ => hfree)) hb hk fun σ' ⟨_, _, e⟩ => by rw [e]; exact h
theorem j_convSB (i : Nat) (hT : TTOk P T) {s t e d k : Nat} {u : Unit} {J : List Nat} {v : ByteArray} (hi : all[i]? = some o) (hg : o.guard = none) (hd : o.dst = some d) (ho : o.op = .convert s t x) (hn : Nat.blt d nt = true) (hs : look T.st s = some u) (ht : look T.sl t = some e) (he : look T.it e = some .u8)
  (hx : Ev P C nt ⟨tm, bx, ks⟩ x (.one (.dv J (.str v)))) (hk : lkk ⟨tm, bx, ks⟩ k = none) (hb : (oB.all fun i => (look bx i).isSome) = true) (hk' : (oK.all fun k => (lkk ⟨tm, bx, ks⟩ k).isSome) = true)
  (h : OpsD P C nt Q all oB oK hd' (listed.setIfInBounds i true) fuel ⟨(d, .one (.key k)) :: tm, bx, (k, some ⟨false, 1000005, 1, v.data.toList.length, v.data.toList.flatMap fun b : UInt8 => [DV.int .u8 (b.toNat : Int)]⟩) :: ks⟩) : OpsJ P C nt Q all oB oK hd' listed fuel i ⟨tm, bx, ks⟩ :=
 j_efg i hi hg (efg_convSB hT ho hd hn hs ht he hx hk) hb hk' fun σ' e => by rw [e]; exact h
inductive DSame : DV → DV → Prop where
 | refl (d : DV) : DSame d d
 | sl (e e' sz n : Nat) (cs cs' : List DV) (hl : cs.length = cs'.length) (h : ∀ (i : Nat) d d', cs[i]? = some d → cs'[i]? = some d' → DSame d d') : DSame (.sl e sz n cs) (.sl e' sz n cs')
theorem dsame_lay {ok : Nat → Prop} {w : World} {d d' : DV} (h : DSame d d') : ∀ {v : Value}, Lay ok w d v → Lay ok w d' v := by
 induction h with
 | refl d => exact fun h => h
 | sl e e' sz n cs cs' hl h ih =>
  intro v hv
  simp only [Lay] at hv ⊢
  obtain ⟨A, c, vs, h1, h2, h3, h4, h5, h6, h7⟩ := hv
  refine ⟨A, c, vs, h1, h2, h3, h4, hl ▸ h5, ?_, h7⟩
  clear h5 h7 h1
  induction cs generalizing cs' vs with
  | nil =>
   cases cs' with
   | nil => exact h6
   | cons x xs => simp at hl
  | cons x xs ih2 =>
   cases cs' with
   | nil => simp at hl
   | cons y ys =>
    simp only [LayL] at h6 ⊢
    obtain ⟨v, vs', rfl, k1, k2⟩ := h6
    exact ⟨v, vs', rfl, ih 0 x y rfl rfl k1, ih2 ys (by simpa using hl) (fun i d d' hd hd' => h (i + 1) d d' (by simpa using hd) (by simpa using hd')) (fun i d d' hd hd' => ih (i + 1) d d' (by simpa using hd) (by simpa using hd')) vs' k2⟩
def DSames : List DV → List DV → Prop
 | [], [] => True
 | d :: ds, d' :: ds' => DSame d d' ∧ DSames ds ds'
 | _, _ => False
theorem dsames_len : ∀ {cs cs' : List DV}, DSames cs cs' → cs.length = cs'.length
 | [], [], _ => rfl
 | _ :: _, _ :: _, h => by simp [dsames_len h.2]
 | [], _ :: _, h => h.elim
 | _ :: _, [], h => h.elim
theorem dsames_get : ∀ {cs cs' : List DV}, DSames cs cs' → ∀ (i : Nat) d d', cs[i]? = some d → cs'[i]? = some d' → DSame d d'
 | [], [], _, i, _, _, h, _ => by simp at h
 | x :: xs, y :: ys, h, 0, d, d', h1, h2 => by
  simp only [List.getElem?_cons_zero, Option.some.injEq] at h1 h2
  rw [← h1, ← h2]; exact h.1
 | x :: xs, y :: ys, h, i + 1, d, d', h1, h2 => dsames_get h.2 i d d' (by simpa using h1) (by simpa using h2)
 | [], _ :: _, h, _, _, _, _, _ => h.elim
 | _ :: _, [], h, _, _, _, _, _ => h.elim
theorem ds_sl {e e' sz n : Nat} {cs cs' : List DV} (h : DSames cs cs') : DSame (.sl e sz n cs) (.sl e' sz n cs') := .sl e e' sz n cs cs' (dsames_len h) (dsames_get h)
theorem ds_ty {e e' sz n : Nat} {cs : List DV} : DSame (.sl e sz n cs) (.sl e' sz n cs) := .sl e e' sz n cs cs rfl (fun i d d' h1 h2 => by rw [h1] at h2; cases h2; exact .refl d)
theorem dss_nil : DSames [] [] := trivial
theorem dss_cons {d d' : DV} {ds ds' : List DV} (h : DSame d d') (h2 : DSames ds ds') : DSames (d :: ds) (d' :: ds') := ⟨h, h2⟩
theorem weak_view {d k : Nat} {c : KC} {dd : DV} (hd : look σ.tm d = some (.one (.key k))) (hk : lkk σ k = some c) (hs : DSame (.sl c.e c.sz c.n c.cs) dd) : Weak P C nt σ (σ.put d (.one (.dv [k] dd))) := Weak.mk fun L a w hr => by
 have hv := hr.tm d _ hd
 simp only [SVr, CVr] at hv
 have h1 := dsame_lay hs (own_lay (ok := okB C L [k]) _ _ _ (hr.ks k c hk).1 (fun b hb => .inr ⟨k, by simp, hb⟩))
 exact ⟨_, hr.also (v := .one (.dv [k] dd)) (by simp only [SVr, CVr]; rw [hv]; exact h1) (by simp [SV.keys, CV.keys, hk]) (by simp [SV.boxes])⟩
theorem ok_cutS {c c' : Code} {σ' : St} (h1 : Ok P C nt (thenQ (fun τ => Weak P C nt τ σ') Q) c σ) (h2 : Ok P C nt Q c' σ') : Ok P C nt Q (.seq c c') σ :=
 ok_seq ⟨fun L a w hr => wp_mono (h1.run L a w hr) (QQ_mono fun e τ hq => by
  cases e with
  | normal => exact ok_weak hq h2
  | _ => exact hq)⟩
end
end Go.Proofs.YtoigmlbidpocnaaGreat

namespace Go.Proofs.YtoigmlbidpocnaaGreat
open Go.RowKit
open Go.Proofs
set_option linter.unusedVariables false
set_option linter.unusedSimpArgs false
structure OpsN (P : Program) (C : Ctx) (nt : Nat) (Q : Exit → St → Prop) (all : Array Oper) (oB oK nK : List Nat) (hd : Nat → Bool) (listed : Array Bool) (fuel : Nat) (σ : St) : Prop where
 run : ∀ wb L a w, Rel P C nt L σ a w → SW wb w → C.w0.heap.size ≤ wb.heap.size → (∀ i ∈ oB, L.bb i < wb.heap.size) → (∀ k ∈ oK, ∀ b ∈ L.fp k, b < wb.heap.size) → (∀ k ∈ nK, ∀ b ∈ L.fp k, wb.heap.size ≤ b) →
  wpAnyT P .any all (QQ P C nt Q) (SW wb) hd fuel listed a w
structure OpsNJ (P : Program) (C : Ctx) (nt : Nat) (Q : Exit → St → Prop) (all : Array Oper) (oB oK nK : List Nat) (hd : Nat → Bool) (listed : Array Bool) (fuel : Nat) (i : Nat) (σ : St) : Prop where
 run : ∀ wb L a w, Rel P C nt L σ a w → SW wb w → C.w0.heap.size ≤ wb.heap.size → (∀ i ∈ oB, L.bb i < wb.heap.size) → (∀ k ∈ oK, ∀ b ∈ L.fp k, b < wb.heap.size) → (∀ k ∈ nK, ∀ b ∈ L.fp k, wb.heap.size ≤ b) →
  wpOp P all (QQ P C nt Q) i (fun a' w' => (hd i = true → SW wb w') ∧ wpAnyT P .any all (QQ P C nt Q) (SW wb) hd fuel (listed.setIfInBounds i true) a' w') a w
def AllN (P : Program) (C : Ctx) (nt : Nat) (Q : Exit → St → Prop) (all : Array Oper) (oB oK nK : List Nat) (hd : Nat → Bool) (listed : Array Bool) (fuel : Nat) (σ : St) : List Nat → Prop
 | [] => True
 | i :: is => OpsNJ P C nt Q all oB oK nK hd listed fuel i σ ∧ AllN P C nt Q all oB oK nK hd listed fuel σ is
structure EfN (P : Program) (C : Ctx) (nt : Nat) (o : Oper) (σ : St) (k : Nat) (R : St → Prop) : Prop where
 run : ∀ L a w, Rel P C nt L σ a w → ∀ K Q, (∀ L' σ' a' w', R σ' → Rel P C nt L' σ' a' w' → Gr σ L L' w w' → (∀ b ∈ L'.fp k, w.heap.size ≤ b) → K a' w') → o.wp P a w K Q
section
variable {P : Program} {C : Ctx} {nt : Nat} {Q : Exit → St → Prop} {all : Array Oper} {oB oK nK : List Nat} {listed : Array Bool} {fuel : Nat} {hd' : Nat → Bool} {tm : List (Nat × SV)} {bx : List (Nat × TypeId × List CV)} {ks : List (Nat × Option KC)} {o : Oper} {d : Nat} {v X : SV} {Ks Bs : List Nat} {σ : St} {x y : Operand} {T : TT}
theorem n_start (h : OpsN P C nt Q all oB oK [] hd' listed fuel σ) : OpsD P C nt Q all oB oK hd' listed fuel σ := ⟨fun wb L a w hr hs hw hB hK => h.run wb L a w hr hs hw hB hK (by simp)⟩
theorem allN_mem : ∀ {is : List Nat}, AllN P C nt Q all oB oK nK hd' listed fuel σ is → ∀ i ∈ is, OpsNJ P C nt Q all oB oK nK hd' listed fuel i σ
 | [], _, _, hi => by cases hi
 | j :: is, h, i, hi => by
  rcases List.mem_cons.1 hi with rfl | hi
  ·exact h.1
  ·exact allN_mem h.2 i hi
theorem n_split (i : Nat) (is : List Nat) (hr : (Region.ready .any all listed == i :: is) = true) (h : AllN P C nt Q all oB oK nK hd' listed fuel σ (i :: is)) : OpsN P C nt Q all oB oK nK hd' listed (fuel + 1) σ := ⟨fun wb L a w hrel hs hw hB hK hN => by
 have hr' : Region.ready .any all listed = i :: is := by simpa using hr
 refine ⟨fun h0 => (by rw [hr'] at h0; cases h0), fun j hj => ?_⟩
 rw [hr'] at hj
 exact (allN_mem h j hj).run wb L a w hrel hs hw hB hK hN⟩
theorem n_take (i : Nat) (hi : all[i]? = some o) (ht : takeB .any all hd' listed i = true) (hg : o.guard = none) (hd : o.dst = some d) (hp : Pu P C nt o ⟨tm, bx, ks⟩ v Ks Bs) (h1 : (Ks.all fun k => oK.contains k) = true) (h2 : (Bs.all fun k => oB.contains k) = true) (hn : Nat.blt d nt = true) (hk : svOk ⟨tm, bx, ks⟩ v = true)
  (h : OpsN P C nt Q all oB oK nK hd' (listed.setIfInBounds i true) fuel ⟨(d, v) :: tm, bx, ks⟩) : OpsN P C nt Q all oB oK nK hd' listed (fuel + 1) ⟨tm, bx, ks⟩ := ⟨fun wb L a w hr hs hw hB hK hN => by
 obtain ⟨r, h3, h4⟩ := pu_yields hr hs hw hB hK hp h1 h2
 refine T_take i (v := r) hi ht (fun _ _ _ h => h) hs (.inl ⟨by simp [Region.wanted, hg], h4⟩) ?_
 rw [hd]
 exact h.run wb L _ w (hr.put (by simpa [Nat.blt_eq] using hn) h3 (svOk_spec hk).1 (svOk_spec hk).2) hs hw hB hK hN⟩
theorem nj_of (i : Nat) (hi : all[i]? = some o) (hg : o.guard = none) (h : ∀ wb L a w, Rel P C nt L σ a w → SW wb w → C.w0.heap.size ≤ wb.heap.size → (∀ i ∈ oB, L.bb i < wb.heap.size) → (∀ k ∈ oK, ∀ b ∈ L.fp k, b < wb.heap.size) → (∀ k ∈ nK, ∀ b ∈ L.fp k, wb.heap.size ≤ b) →
   o.wp P a w (fun a' w' => (hd' i = true → SW wb w') ∧ wpAnyT P .any all (QQ P C nt Q) (SW wb) hd' fuel (listed.setIfInBounds i true) a' w') (QQ P C nt Q)) : OpsNJ P C nt Q all oB oK nK hd' listed fuel i σ := ⟨fun wb L a w hr hs hw hB hK hN => by
 unfold wpOp
 simp only [hi]
 have hw' : Region.wanted o (yielded all a.tmps) = true := by simp [Region.wanted, hg]
 rw [if_pos hw']
 exact .inl (h wb L a w hr hs hw hB hK hN)⟩
theorem nj_efg (i : Nat) {R : St → Prop} (hi : all[i]? = some o) (hg : o.guard = none) (hp : EfG P C nt o ⟨tm, bx, ks⟩ R) (hb : (oB.all fun i => (look bx i).isSome) = true) (hk : (oK.all fun k => (lkk ⟨tm, bx, ks⟩ k).isSome) = true) (hn : (nK.all fun k => (lkk ⟨tm, bx, ks⟩ k).isSome) = true)
  (h : ∀ σ', R σ' → OpsN P C nt Q all oB oK nK hd' (listed.setIfInBounds i true) fuel σ') : OpsNJ P C nt Q all oB oK nK hd' listed fuel i ⟨tm, bx, ks⟩ :=
 nj_of i hi hg fun wb L a w hr hs hw hB hK hN => hp.run L a w hr _ _ fun L' σ' a' w' h1 h2 h3 => ⟨fun _ => hs.chg h3.chg, (h σ' h1).run wb L' a' w' h2 (hs.chg h3.chg) hw
  (fun j hj => by
   obtain ⟨x, hx⟩ := Option.isSome_iff_exists.1 (List.all_eq_true.1 hb j hj)
   rw [h3.box j x hx]; exact hB j hj)
  (fun k hk' => by
   obtain ⟨c, hc⟩ := Option.isSome_iff_exists.1 (List.all_eq_true.1 hk k hk')
   rw [h3.key k c hc]; exact hK k hk')
  (fun k hk' => by
   obtain ⟨c, hc⟩ := Option.isSome_iff_exists.1 (List.all_eq_true.1 hn k hk')
   rw [h3.key k c hc]; exact hN k hk')⟩
theorem nj_alloc (i : Nat) (hT : TTOk P T) {t d sz by_ : Nat} {zc : List CV} (hi : all[i]? = some o) (hg : o.guard = none) (hd : o.dst = some d) (ho : o.op = .alloc t) (ht : look T.el t = some (sz, by_, zc)) (hn : Nat.blt d nt = true) (hx : look bx d = none)
  (hb : (oB.all fun i => (look bx i).isSome) = true) (hk : (oK.all fun k => (lkk ⟨tm, bx, ks⟩ k).isSome) = true) (hn' : (nK.all fun k => (lkk ⟨tm, bx, ks⟩ k).isSome) = true)
  (h : OpsN P C nt Q all oB oK nK hd' (listed.setIfInBounds i true) fuel ⟨(d, .box d 0) :: tm, (d, t, zc) :: bx, ks⟩) : OpsNJ P C nt Q all oB oK nK hd' listed fuel i ⟨tm, bx, ks⟩ :=
 nj_efg i hi hg (efg_alloc hT ho hd hn ht hx) hb hk hn' fun σ' e => by rw [e]; exact h
theorem efn_build0 (hT : TTOk P T) {t e sz by_ d k : Nat} {zc : List CV} (ho : o.op = .buildSlice t 0 #[]) (hd : o.dst = some d) (hn : Nat.blt d nt = true) (ht : look T.sl t = some e) (he : look T.el e = some (sz, by_, zc)) (hsz : Nat.blt 0 sz = true) (hk : lkk σ k = none) :
  EfN P C nt o σ k (fun σ' => σ' = { σ with ks := (k, some ⟨false, e, sz, 0, []⟩) :: σ.ks }.put d (.one (.key k))) := EfN.mk fun L a w hr K Q hK => by
 have hpos : 0 < sz := by simpa [Nat.blt_eq] using hsz
 have hchg : Chg [] w (w.alloc (.cells #[] e)) := (Chg.refl [] w).alloc _
 refine wp_new (v := .slice (some ⟨w.heap.size, 0, none⟩) 0 0) (w' := w.alloc (.cells #[] e)) ?_ ?_
 ·unfold execOp
  simp only [ho, List.map_toArray, List.map_nil, run_build0 (P := P) (w := w) hT ht he, Sem.run_bind, Result.andThen_ok, Sem.run_pure]
 ·have hb := hr.newkey' hchg (c := ⟨false, e, sz, 0, []⟩) (v := .slice (some ⟨w.heap.size, 0, none⟩) 0 0) (f := [w.heap.size]) hk
   (by
    unfold Own
    exact ⟨[], [], rfl, hpos, by simp, rowE_of (hT.lt e _ he) ⟨by simp, .inr ⟨w.heap.size, 0, #[], rfl, Nat.zero_le _, alloc_last w _, Nat.le_refl _, Nat.zero_le _, by simp, by simp⟩⟩, by simp [OwnL]⟩) rfl (by simp) (by simp)
  refine hK { L with fp := fun j => if j = k then [w.heap.size] else L.fp j, rv := fun j => if j = k then .slice (some ⟨w.heap.size, 0, none⟩) 0 0 else L.rv j } _ _ _ rfl (by rw [hd]; exact hb.put (v := .one (.key k)) (r := .slice (some ⟨w.heap.size, 0, none⟩) 0 0) (by simpa [Nat.blt_eq] using hn) (by simp [SVr, CVr]) (by simp [SV.keys, CV.keys, lkk, look_cons]) (by simp [SV.boxes])) ⟨hchg, fun i c hc => ?_, fun _ _ _ => rfl⟩ (by simp)
  have : i ≠ k := fun e => by rw [e, hk] at hc; cases hc
  simp [this]
theorem nj_build0 (i : Nat) (hT : TTOk P T) {t e sz by_ d k : Nat} {zc : List CV} (hi : all[i]? = some o) (hg : o.guard = none) (hd : o.dst = some d) (ho : o.op = .buildSlice t 0 #[]) (hn : Nat.blt d nt = true) (ht : look T.sl t = some e) (he : look T.el e = some (sz, by_, zc)) (hsz : Nat.blt 0 sz = true) (hk : lkk ⟨tm, bx, ks⟩ k = none)
  (hb : (oB.all fun i => (look bx i).isSome) = true) (hk' : (oK.all fun k => (lkk ⟨tm, bx, ks⟩ k).isSome) = true) (hn' : (nK.all fun k => (lkk ⟨tm, bx, ks⟩ k).isSome) = true)
  (h : OpsN P C nt Q all oB oK (k :: nK) hd' (listed.setIfInBounds i true) fuel ⟨(d, .one (.key k)) :: tm, bx, (k, some ⟨false, e, sz, 0, []⟩) :: ks⟩) : OpsNJ P C nt Q all oB oK nK hd' listed fuel i ⟨tm, bx, ks⟩ :=
 nj_of i hi hg fun wb L a w hr hs hw hB hK hN => (efn_build0 hT ho hd hn ht he hsz hk).run L a w hr _ _ fun L' σ' a' w' h1 h2 h3 h4 => ⟨fun _ => hs.chg h3.chg, h.run wb L' a' w' (by rw [h1] at h2; exact h2) (hs.chg h3.chg) hw
  (fun j hj => by
   obtain ⟨x, hx⟩ := Option.isSome_iff_exists.1 (List.all_eq_true.1 hb j hj)
   rw [h3.box j x hx]; exact hB j hj)
  (fun j hj => by
   obtain ⟨c, hc⟩ := Option.isSome_iff_exists.1 (List.all_eq_true.1 hk' j hj)
   rw [h3.key j c hc]; exact hK j hj)
  (fun j hj => by
   rcases List.mem_cons.1 hj with rfl | hj
   ·exact fun b hb' => Nat.le_trans hs.1 (h4 b hb')
   ·obtain ⟨c, hc⟩ := Option.isSome_iff_exists.1 (List.all_eq_true.1 hn' j hj)
    rw [h3.key j c hc]; exact hN j hj)⟩
theorem nj_appV (i : Nat) (hT : TTOk P T) {t e sz by_ d k m : Nat} {zc : List CV} {c : KC} {J : List Nat} {e2 : Nat} {ds cs : List DV} (hi : all[i]? = some o) (hg : o.guard = none) (hd : o.dst = some d) (ho : o.op = .call { callee := .builtin .append, args := #[x, y], argTypes := #[t, t] }) (hnt : Nat.blt d nt = true) (ht : look T.sl t = some e) (he : look T.el e = some (sz, by_, zc)) (hl0 : zc.length = sz)
  (hx : Ev P C nt ⟨tm, bx, ks⟩ x (.one (.key k))) (hk : lkk ⟨tm, bx, ks⟩ k = some c) (hce : c.e = e) (hcs : c.sz = sz) (hy : Ev P C nt ⟨tm, bx, ks⟩ y (.one (.dv J (.sl e2 sz m ds)))) (hp : ds.all DV.plain = true) (hb : (c.n + m) * by_ ≤ 140737488355328) (h63 : c.n + m ≤ 9223372036854775807) {n : Nat} (hn : c.n + m = n) (hcc : c.cs ++ ds = cs)
  (hkn : nK.contains k = true) (hko : oK.contains k = false)
  (h : OpsN P C nt Q all oB oK nK hd' (listed.setIfInBounds i true) fuel ⟨(d, .one (.key k)) :: killT [k] [k] tm, killB [k] [k] bx, (k, some ⟨false, e, sz, n, cs⟩) :: ks⟩) : OpsNJ P C nt Q all oB oK nK hd' listed fuel i ⟨tm, bx, ks⟩ :=
 nj_of i hi hg fun wb L a w hr hs hw hB hK hN => by
  have h1 := hx.run L a w hr
  have h2 := hy.run L a w hr
  simp only [SVr, CVr] at h1 h2
  obtain ⟨A, cap, vs, e1, hrow, hlay⟩ := lay_row h2
  subst hn; subst hcc
  have hkn' : k ∈ nK := by simpa using hkn
  refine app_wpX hT ho hd (by simpa [Nat.blt_eq] using hnt) ht he hl0 hr hk hce hcs h1 e1 (js := []) (by simp) (by simp) hrow (own_plainL hp hlay) (by simp) (by simp) (by simpa [maxLen] using h63) hb (fun L' a' w' hr' hf => ?_)
  have hs' : SW wb w' := ⟨Nat.le_trans hs.1 hf.chg.size, fun b hb' => (hf.chg.block b (Nat.lt_of_lt_of_le hb' hs.1) (fun hm => absurd (hN k hkn' b hm) (by omega))).trans (hs.2 b hb')⟩
  exact ⟨fun _ => hs', h.run wb L' a' w' hr' hs' hw (fun j hj => by rw [hf.bb]; exact hB j hj)
   (fun j hj => by
    have hjk : j ≠ k := fun e => by rw [e] at hj; rw [List.contains_iff_mem.2 hj] at hko; cases hko
    rw [hf.fp j hjk]; exact hK j hj)
   (fun j hj b hb' => by
    by_cases hjk : j = k
    ·subst hjk
     rcases hf.new b hb' with h5 | ⟨q, hq, _⟩ | h5
     ·exact hN j hj b h5
     ·simp at hq
     ·exact Nat.le_trans hs.1 h5
    ·rw [hf.fp j hjk] at hb'; exact hN j hj b hb')⟩
theorem nj_last (i : Nat) {σ₁ : St} (hi : all[i]? = some o) (hg : o.guard = none) (hh : hd' i = false) (hp : Ef P C nt o ⟨tm, bx, ks⟩ (fun σ' => σ' = σ₁)) (he : (Region.ready .any all (listed.setIfInBounds i true)).isEmpty = true)
  (h : Q .normal σ₁) : OpsNJ P C nt Q all oB oK nK hd' listed fuel i ⟨tm, bx, ks⟩ :=
 nj_of i hi hg fun wb L a w hr hs hw hB hK hN => hp.run L a w hr _ _ fun L' σ' a' w' h1 h2 => ⟨fun e => absurd e (by rw [hh]; simp), T_done he ⟨L', σ', h2, by rw [h1]; exact h⟩ fuel⟩
end
section
variable {P : Program} {C : Ctx} {nt : Nat} {σ : St} {o : Oper} {x y : Operand}
end
end Go.Proofs.YtoigmlbidpocnaaGreat

namespace Go.Proofs.YtoigmlbidpocnaaGreat
open Go.RowKit
open Go.Proofs
set_option linter.unusedVariables false
set_option linter.unusedSimpArgs false
section
variable {P : Program} {C : Ctx} {nt : Nat} {σ : St} {L : Lyt} {a : Act} {w : World} {o : Oper} {x y u : Operand} {T : TT}
theorem key_root (hr : Rel P C nt L σ a w) {k : Nat} {c : KC} (hk : lkk σ k = some c) : (L.rv k = .slice none 0 0 ∧ c.n = 0) ∨ ∃ g cap, L.rv k = .slice (some ⟨g, 0, none⟩) c.n cap ∧ c.n ≤ cap := by
 have ho := (hr.ks k c hk).1
 simp only [Own] at ho
 obtain ⟨vs, f, _, _, _, q4, _⟩ := ho
 rcases (rowE_open q4).2 with ⟨g1, g2⟩ | ⟨g, cap, cur, t, fz, g1, g2, g3, g4, g5, g6⟩
 ·exact .inl ⟨g1, g2⟩
 ·exact .inr ⟨g, cap, g1, g3⟩
theorem key_open (hr : Rel P C nt L σ a w) {k : Nat} {c : KC} (hk : lkk σ k = some c) (hE : c.e < 1000000) : 0 < c.sz ∧ c.cs.length = c.n * c.sz ∧ ((L.rv k = .slice none 0 0 ∧ c.n = 0) ∨
  ∃ g cap cur vs f, L.rv k = .slice (some ⟨g, 0, none⟩) c.n cap ∧ w.heap[g]? = some (.cells cur c.e (0, 0)) ∧ c.n ≤ cap ∧ cap ≤ maxLen ∧ cur.size = cap * c.sz ∧ cur.toList.take (c.n * c.sz) = vs ∧ L.fp k = g :: f ∧ OwnL w c.cs vs f) := by
 have ho := (hr.ks k c hk).1
 simp only [Own] at ho
 obtain ⟨vs, f, q1, q2, q3, q4, q5⟩ := ho
 refine ⟨q2, q3, ?_⟩
 rcases (q4.1 hE).2 with ⟨g1, g2⟩ | ⟨g, cap, cur, g1, _, g3, g4, g5, g6, g7⟩
 ·exact .inl ⟨g1, g2⟩
 ·exact .inr ⟨g, cap, cur, vs, f, g1, g3, g4, g5, g6, g7, by rw [q1, g1]; simp [Value.ownBlock], q5⟩
theorem pu_ksl {j sz lo hi : Nat} {c2 : KC} (hs : SlOk P C nt σ o j sz lo hi) (hj : lkk σ j = some c2) : Pu P C nt o σ (.ksl j lo hi sz) [] [] := Pu.mk fun L a w hr => by
 rcases key_root hr hj with ⟨h, _⟩ | ⟨g, cap, h, _⟩
 ·exact ⟨_, by simp only [SVr]; exact ⟨_, _, _, h, rfl⟩, fun w' _ => hs.run L a w hr _ _ _ h w'⟩
 ·exact ⟨_, by simp only [SVr]; exact ⟨_, _, _, h, rfl⟩, fun w' _ => hs.run L a w hr _ _ _ h w'⟩
theorem ksl_at0 {A : Option Addr} {n c sz : Nat} {hi : Nat} (h : A = none ∨ ∃ g, A = some ⟨g, 0, none⟩) : sliced A 0 hi c sz = .slice A hi c := by
 rcases h with rfl | ⟨g, rfl⟩
 ·simp [sliced]
 ·by_cases hc : c = 0
  ·simp [sliced, hc]
  ·simp [sliced, hc, Addr.add]
theorem root_form (hr : Rel P C nt L σ a w) {k : Nat} {c : KC} (hk : lkk σ k = some c) {A : Option Addr} {n cap : Nat} (h : L.rv k = .slice A n cap) : (A = none ∨ ∃ g, A = some ⟨g, 0, none⟩) ∧ n = c.n ∧ c.n ≤ cap := by
 rcases key_root hr hk with ⟨h1, h2⟩ | ⟨g, cap', h1, h2⟩
 ·rw [h] at h1
  simp only [Value.slice.injEq] at h1
  obtain ⟨rfl, rfl, rfl⟩ := h1
  exact ⟨.inl rfl, h2.symm, by omega⟩
 ·rw [h] at h1
  simp only [Value.slice.injEq] at h1
  obtain ⟨rfl, rfl, rfl⟩ := h1
  exact ⟨.inr ⟨g, rfl⟩, rfl, h2⟩
theorem pu_kslH (hT : TTOk P T) {t e sz by_ j n hi : Nat} {zc : List CV} {c2 : KC} {J : List Nat} {z : Int} (ho : o.op = .slice t x none (some y) none) (h : look T.sl t = some e) (he : look T.el e = some (sz, by_, zc)) (hx : Ev P C nt σ x (.one (.key j))) (hj : lkk σ j = some c2) (hy : Ev P C nt σ y (.one (.dv J (.int .i64 z)))) (hn : c2.n = n) (hh : z.toNat = hi) (h0 : 0 ≤ z) (h1 : z ≤ n) : Pu P C nt o σ (.ksl j 0 hi sz) [] [] := by
 subst hn; subst hh
 exact pu_ksl (sl_h hT ho h he hx hj hy h0 h1) hj
theorem pu_kslL (hT : TTOk P T) {t e sz by_ j n lo : Nat} {zc : List CV} {c2 : KC} {J : List Nat} {z : Int} (ho : o.op = .slice t x (some y) none none) (h : look T.sl t = some e) (he : look T.el e = some (sz, by_, zc)) (hx : Ev P C nt σ x (.one (.key j))) (hj : lkk σ j = some c2) (hy : Ev P C nt σ y (.one (.dv J (.int .i64 z)))) (hn : c2.n = n) (hl : z.toNat = lo) (h0 : 0 ≤ z) (h1 : z ≤ n) : Pu P C nt o σ (.ksl j lo n sz) [] [] := by
 subst hn; subst hl
 exact pu_ksl (sl_l hT ho h he hx hj hy h0 h1) hj
theorem Rel.wrow (hr : Rel P C nt L σ a w) {k g cap off : Nat} {c : KC} {cur : Array Value} {us : List Value} {cs' : List DV} {f' : List Nat} (hk : lkk σ k = some c) (hE : c.e < 1000000) (e1 : L.rv k = .slice (some ⟨g, 0, none⟩) c.n cap) (hg : w.heap[g]? = some (.cells cur c.e (0, 0))) (hnc : c.n ≤ cap) (hcm : cap ≤ maxLen) (hsz : cur.size = cap * c.sz) (hpos : 0 < c.sz)
  (hle : off + us.length ≤ c.n * c.sz) (hown : OwnL w cs' (setR off us (cur.toList.take (c.n * c.sz))) f') (hf : ∀ b ∈ f', b ∈ L.fp k ∧ b ≠ g) (hgk : g ∈ L.fp k) (hn : f'.Nodup) (hl : cs'.length = c.n * c.sz) :
  Rel P C nt { L with fp := fun i => if i = k then g :: f' else L.fp i, rv := fun i => if i = k then L.rv k else L.rv i } (σ.mut k [] true { c with cs := cs' }) a (w.setRow g (setR off us cur.toList).toArray) := by
 let w' := w.setRow g (setR off us cur.toList).toArray
 have hchg : Chg [g] w w' := chg_setRow w g _
 have hle2 : c.n * c.sz ≤ cap * c.sz := Nat.mul_le_mul_right _ hnc
 have hcl : c.n * c.sz ≤ cur.toList.length := by rw [Array.length_toList, hsz]; exact hle2
 have hown2 : OwnL w' cs' (setR off us (cur.toList.take (c.n * c.sz))) f' := ownL_keep _ _ _ hown (fun b hb => hchg.block b (hr.k_lt hk b (hf b hb).1) (by simpa using (hf b hb).2))
 have hown' : Own w' (.sl c.e c.sz c.n cs') (L.rv k) (g :: f') := by
  unfold Own
  refine ⟨_, f', by rw [e1]; simp [Value.ownBlock], hpos, hl, ?_, hown2⟩
  rw [e1]
  refine rowE_of hE ⟨by rw [setR_len (by rw [List.length_take]; omega), List.length_take]; omega, .inr ⟨g, cap, (setR off us cur.toList).toArray, rfl, Nat.zero_le _, setRow_heap _ _ _ _ _ _ hg, hnc, hcm, ?_, ?_⟩⟩
  ·rw [List.size_toArray, setR_len (by omega), Array.length_toList, hsz]
  ·rw [List.toList_toArray]
   unfold setR
   apply List.ext_getElem?
   intro i
   simp only [List.getElem?_take, List.getElem?_append, List.getElem?_drop, List.length_append, List.length_take]
   have hm1 : min off cur.toList.length = off := by omega
   have hm2 : min off (min (c.n * c.sz) cur.toList.length) = off := by omega
   rw [hm1, hm2]
   by_cases hi : i < c.n * c.sz
   ·simp only [hi, if_true]
    by_cases hi2 : i < off + us.length
    ·simp only [hi2, if_true]
    ·simp only [hi2, if_false]
     have : off + us.length + (i - (off + us.length)) < c.n * c.sz := by omega
     simp only [this, if_true]
   ·have h9 : ¬ i < off + us.length := by omega
    have h10 : ¬ i < off := by omega
    have h11 : ¬ off + us.length + (i - (off + us.length)) < c.n * c.sz := by omega
    simp only [hi, h9, h11, if_false]
 refine hr.setkey hk (by simp) (hchg.mono (by simpa using hgk)) hown' ?_ ?_ (by simp) (fun _ => rfl) (fun e => ⟨e, rfl⟩)
 ·rw [List.nodup_cons]
  exact ⟨fun hm => (hf g hm).2 rfl, hn⟩
 ·intro b hb
  rcases List.mem_cons.1 hb with rfl | hb
  ·exact .inl hgk
  ·exact .inl (hf b hb).1
theorem setR_mid3 {α : Type} {A B us D : List α} {off : Nat} (ho : off = A.length) (hB : us.length = B.length) : setR off us (A ++ (B ++ D)) = A ++ (us ++ D) := by
 subst ho
 unfold setR
 rw [List.take_left, hB, ← List.append_assoc A B D, ← List.length_append, List.drop_left, List.append_assoc]
theorem ef_appKK (hT : TTOk P T) {t e k i j hi sz by_ d : Nat} {zc : List CV} {c : KC} (ho : o.op = .call { callee := .builtin .append, args := #[x, y], argTypes := #[t, t] }) (hd : o.dst = some d) (hnt : Nat.blt d nt = true) (ht : look T.sl t = some e) (he : look T.el e = some (sz, by_, zc)) (hx : Ev P C nt σ x (.ksl k 0 i sz)) (hy : Ev P C nt σ y (.ksl k j hi sz))
  (hk : lkk σ k = some c) (hce : c.e = e) (hcs : c.sz = sz) (hhi : hi = c.n) (hij : i ≤ j) (hj : j ≤ hi) : Ef P C nt o σ (fun σ' => σ' = (σ.mut k [] true { c with cs := c.cs.take (i * sz) ++ (c.cs.drop (j * sz) ++ List.replicate ((j - i) * sz) .hole) }).put d (.ksl k 0 (i + (c.n - j)) sz)) := Ef.mk fun L a w hr K Q hK => by
 subst hce; subst hcs; subst hhi
 have hE' : c.e < 1000000 := hT.lt _ _ he
 have h4 := hx.run L a w hr
 have h5 := hy.run L a w hr
 simp only [SVr] at h4 h5
 obtain ⟨A, n0, cap0, e1, e2⟩ := h4
 obtain ⟨A2, n2, cap2, e1', e3⟩ := h5
 rw [e1] at e1'
 simp only [Value.slice.injEq] at e1'
 obtain ⟨rfl, rfl, rfl⟩ := e1'
 obtain ⟨r1, rfl, r3⟩ := root_form hr hk e1
 rw [ksl_at0 (n := c.n) r1] at e2
 obtain ⟨hpos, hcl, hro⟩ := key_open hr hk hE'
 obtain ⟨inf, z, g1, g2, g3, g4, g5⟩ := hT.el c.e c.sz by_ zc he
 have hd' : d < nt := by simpa [Nat.blt_eq] using hnt
 have hm1 : (c.n - j) * c.sz + j * c.sz = c.n * c.sz := by rw [← Nat.add_mul]; congr 1; omega
 have hm2 : (j - i) * c.sz + i * c.sz = j * c.sz := by rw [← Nat.add_mul]; congr 1; omega
 rcases hro with ⟨e4, h0⟩ | ⟨g, cap, cur, vs, f, e4, hg, hnc, hcm, hsz, htake, hfp, hown⟩
 ·
  rw [e1] at e4
  simp only [Value.slice.injEq] at e4
  obtain ⟨rfl, h0', rfl⟩ := e4
  have hj0 : j = 0 := by omega
  have hi0 : i = 0 := by omega
  subst hj0; subst hi0
  have hrow : w.ownsRow 0 c.e c.sz (.slice none 0 0) 0 [] := ⟨by simp, .inl ⟨rfl, rfl⟩⟩
  have hrun := run_append_nil_src (P := P) w 0 t o.type c.e inf c.sz (hT.sl t c.e ht) g1 (.slice none 0 0) 0 [] hrow 0
  have e3' : a.eval y = .slice none 0 0 := by rw [e3]; simp [sliced, h0]
  have ecs : c.cs = [] := List.eq_nil_of_length_eq_zero (by rw [hcl, h0]; simp)
  have hset := hr.setkey (k := k) (c := c) (c' := { c with cs := c.cs.take (0 * c.sz) ++ (c.cs.drop (0 * c.sz) ++ List.replicate ((0 - 0) * c.sz) .hole) }) (js := []) (same := true) (v' := L.rv k) (f' := L.fp k) hk (by simp) ((Chg.refl [] w).mono (by simp)) (by simpa [ecs] using (hr.ks k c hk).1) (hr.kn k c hk) (fun b hb => .inl hb) (by simp) (fun _ => rfl) (fun h => ⟨h, rfl⟩)
  unfold Oper.wp execOp
  simp only [ho, resolve, invoke, builtin, Sem.run_bind, Sem.run_pure, Result.andThen_ok, List.map_toArray, List.map_cons, List.map_nil, e2, e3', hrun, Oper.upon, hd]
  refine hK _ _ _ _ rfl (hset.put (d := d) (v := .ksl k 0 (0 + (c.n - 0)) c.sz) (r := .slice none 0 0) hd' ?_ (by simp [SV.keys, mut_key]) (by simp [SV.boxes]))
  simp only [SVr, if_true]
  exact ⟨none, c.n, 0, e1, by simp [sliced, h0]⟩
 rw [e1] at e4
 simp only [Value.slice.injEq] at e4
 obtain ⟨rfl, _, rfl⟩ := e4
 have hcur : c.n * c.sz ≤ cur.toList.length := by rw [Array.length_toList, hsz]; exact Nat.mul_le_mul_right _ hnc
 have hvl : vs.length = c.n * c.sz := by rw [ownL_len _ _ _ hown, hcl]
 -- the parts
 have hX : c.cs = c.cs.take (i * c.sz) ++ ((c.cs.drop (i * c.sz)).take ((j - i) * c.sz) ++ c.cs.drop (j * c.sz)) := by
  have : c.cs.drop (j * c.sz) = (c.cs.drop (i * c.sz)).drop ((j - i) * c.sz) := by rw [List.drop_drop]; congr 1; omega
  rw [this, List.take_append_drop, List.take_append_drop]
 have hown2 := hown
 rw [hX] at hown2
 obtain ⟨v1, r1', f1, s1, hv, hf, o1, t1⟩ := ownL_split _ _ _ _ hown2
 obtain ⟨v2, v3, f2, f3, hv', hf', o2, o3⟩ := ownL_split _ _ _ _ t1
 subst hv'; subst hf'
 have l1 := ownL_len _ _ _ o1
 have l2 := ownL_len _ _ _ o2
 have l3 := ownL_len _ _ _ o3
 simp only [List.length_take, List.length_drop, hcl] at l1 l2 l3
 have one : ∀ {ds : List DV} {vs : List Value} {f : List Nat}, OwnL w ds vs f → ∀ u ∈ vs, u.oneCell' = true := fun h => layL_one (ok := fun _ => True) _ _ (ownL_lay _ _ _ h (fun _ _ => trivial))
 have hcell : ∀ q v, vs[q]? = some v → w.cell? ⟨g, q, none⟩ = some v := fun q v hq => by
  rw [cell_of_row w g q cur c.e (0, 0) hg]
  rw [← htake, List.getElem?_take] at hq
  split at hq
  ·simpa using hq
  ·cases hq
 -- the tail's values over the rest
 obtain ⟨R, hR⟩ : ∃ R, R = (v2 ++ v3).drop v3.length := ⟨_, rfl⟩
 have lR : R.length = (j - i) * c.sz := by rw [hR, List.length_drop, List.length_append]; omega
 have hR1 : ∀ v ∈ R, v.oneCell' = true := fun v hm => by
  rw [hR] at hm
  rcases List.mem_append.1 (List.mem_of_mem_drop hm) with h | h
  ·exact one o2 v h
  ·exact one o3 v h
 have ohole : OwnL w (List.replicate ((j - i) * c.sz) .hole) R [] := by
  have := ownL_holes (w := w) R hR1
  rwa [lR] at this
 have hnew : OwnL w (c.cs.take (i * c.sz) ++ (c.cs.drop (j * c.sz) ++ List.replicate ((j - i) * c.sz) .hole)) (v1 ++ (v3 ++ R)) (f1 ++ (f3 ++ [])) := ownL_append _ _ _ _ _ _ o1 (ownL_append _ _ _ _ _ _ o3 ohole)
 have evs : setR (i * c.sz) v3 (cur.toList.take (c.n * c.sz)) = v1 ++ (v3 ++ R) := by
  rw [htake, hv]
  have e0 : v2 ++ v3 = (v2 ++ v3).take v3.length ++ R := by rw [hR, List.take_append_drop]
  rw [e0]
  exact setR_mid3 (by omega) (by rw [List.length_take, List.length_append]; omega)
 have hnd := hr.kn k c hk
 rw [hfp, List.nodup_cons] at hnd
 have hnod : (f1 ++ (f3 ++ [])).Nodup := by
  have := hnd.2
  rw [hf] at this
  rw [List.append_nil]
  exact (List.Sublist.append (List.Sublist.refl _) (List.sublist_append_right _ _)).nodup this
 have hsub : ∀ b ∈ f1 ++ (f3 ++ []), b ∈ f := fun b hb => by
  rw [hf]
  simp only [List.mem_append, List.append_nil] at hb ⊢
  rcases hb with h | h
  ·exact .inl h
  ·exact .inr (.inr h)
 have hrel := hr.wrow (off := i * c.sz) (us := v3) (cs' := c.cs.take (i * c.sz) ++ (c.cs.drop (j * c.sz) ++ List.replicate ((j - i) * c.sz) .hole)) (f' := f1 ++ (f3 ++ [])) hk hE' e1 hg hnc hcm hsz hpos (by omega) (by rw [evs]; exact hnew)
  (fun b hb => ⟨by rw [hfp]; exact List.mem_cons_of_mem _ (hsub b hb), fun e => hnd.1 (by rw [← e]; exact hsub b hb)⟩) (by rw [hfp]; simp) hnod (by simp only [List.length_append, List.length_take, List.length_drop, List.length_replicate, hcl]; omega)
 -- the run
 have hlen3 : v3.length = (c.n - j) * inf.size := by rw [g2]; omega
 obtain ⟨AA, hAA, hcells⟩ : ∃ AA : Addr, a.eval y = .slice (some AA) (c.n - j) (cap0 - j) ∧ ∀ q v, v3[q]? = some v → w.cell? (AA.add q) = some v := by
  rw [e3]
  by_cases hc : cap0 = j
  ·refine ⟨⟨g, 0, none⟩, by simp [sliced, hc], fun q v hq => ?_⟩
   have hq' := (List.getElem?_eq_some_iff.1 hq).1
   have h0 : c.n - j = 0 := by omega
   rw [h0, Nat.zero_mul] at hm1
   omega
  ·refine ⟨⟨g, j * c.sz, none⟩, by simp [sliced, hc, add_row], fun q v hq => ?_⟩
   rw [add_row]
   refine hcell _ _ ?_
   rw [hv, List.getElem?_append_right (by omega), List.getElem?_append_right (by omega), show j * c.sz + q - v1.length - v2.length = q by omega]
   exact hq
 have hrun := run_append_room (P := P) w t o.type c.e inf (hT.sl t c.e ht) g1 g i cap0 cur hg AA (c.n - j) (cap0 - j) v3 hlen3 hcells (one o3) (by omega) (by rw [g2, ← Array.length_toList]; omega)
 rw [g2] at hrun
 unfold Oper.wp execOp
 simp only [ho, resolve, invoke, builtin, Sem.run_bind, Sem.run_pure, Result.andThen_ok, List.map_toArray, List.map_cons, List.map_nil, e2, hAA, hrun, Oper.upon, hd]
 refine hK _ _ _ _ rfl (hrel.put (d := d) (v := .ksl k 0 (i + (c.n - j)) c.sz) (r := .slice (some ⟨g, 0, none⟩) (i + (c.n - j)) cap0) hd' ?_ (by simp [SV.keys, mut_key]) (by simp [SV.boxes]))
 simp only [SVr, if_true]
 exact ⟨some ⟨g, 0, none⟩, c.n, cap0, e1, (ksl_at0 (n := c.n) (.inr ⟨g, rfl⟩)).symm⟩
theorem weak_cut {tm : List (Nat × SV)} {bx : List (Nat × TypeId × List CV)} {ks : List (Nat × Option KC)} {s k m sz : Nat} {c : KC} {cs : List DV} (hs : look tm s = some (.ksl k 0 m sz)) (hk : lkk ⟨tm, bx, ks⟩ k = some c) (hE : Nat.blt c.e 1000000 = true) (hcs : c.sz = sz) (hm : m ≤ c.n) (hcc : c.cs.take (m * sz) = cs) :
  Weak P C nt ⟨tm, bx, ks⟩ ⟨(s, .one (.key k)) :: killT [k] [k] tm, killB [k] [k] bx, (k, some ⟨false, c.e, sz, m, cs⟩) :: ks⟩ := Weak.mk fun L a w hr => by
 subst hcs; subst hcc
 have hE' : c.e < 1000000 := by simpa [Nat.blt_eq] using hE
 have hsv := hr.tm s _ hs
 simp only [SVr] at hsv
 obtain ⟨A, n0, cap0, e1, e2⟩ := hsv
 obtain ⟨r1, rfl, r3⟩ := root_form hr hk e1
 rw [ksl_at0 (n := c.n) r1] at e2
 obtain ⟨hpos, hcl, hro⟩ := key_open hr hk hE'
 have hm2 : m * c.sz ≤ c.n * c.sz := Nat.mul_le_mul_right _ hm
 have hfin : ∀ f', Own w (.sl c.e c.sz m (c.cs.take (m * c.sz))) (.slice A m cap0) f' → f'.Nodup → (∀ b ∈ f', b ∈ L.fp k) → ∃ L', Rel P C nt L' ⟨(s, .one (.key k)) :: killT [k] [k] tm, killB [k] [k] bx, (k, some ⟨false, c.e, c.sz, m, c.cs.take (m * c.sz)⟩) :: ks⟩ a w := fun f' ho hn hf => by
  have hset := hr.setkey (k := k) (c := c) (c' := ⟨false, c.e, c.sz, m, c.cs.take (m * c.sz)⟩) (js := []) (same := false) (v' := .slice A m cap0) (f' := f') hk (by simp) ((Chg.refl [] w).mono (by simp)) ho hn (fun b hb => .inl (hf b hb)) (by simp) (by simp) (by simp)
  exact ⟨_, hset.also (d := s) (v := .one (.key k)) (by simp only [SVr, CVr, if_true]; exact e2) (by simp [SV.keys, CV.keys, mut_key]) (by simp [SV.boxes])⟩
 rcases hro with ⟨e4, h0⟩ | ⟨g, cap, cur, vs, f, e4, hg, hnc, hcm, hsz, htake, hfp, hown⟩
 ·rw [e1] at e4
  simp only [Value.slice.injEq] at e4
  obtain ⟨rfl, h0', rfl⟩ := e4
  have hm0 : m = 0 := by omega
  subst hm0
  refine hfin [] ?_ (by simp) (by simp)
  rw [Nat.zero_mul, List.take_zero]
  exact own_nil w c.e c.sz hpos
 ·rw [e1] at e4
  simp only [Value.slice.injEq] at e4
  obtain ⟨rfl, _, rfl⟩ := e4
  obtain ⟨fa, fb, hf, ta, tb⟩ := ownL_cut (m * c.sz) hown
  have hnd := hr.kn k c hk
  rw [hfp, List.nodup_cons] at hnd
  have hvl : vs.length = c.n * c.sz := by rw [ownL_len _ _ _ hown, hcl]
  refine hfin (g :: fa) ?_ ?_ ?_
  ·unfold Own
   refine ⟨vs.take (m * c.sz), fa, by simp [Value.ownBlock], hpos, by rw [List.length_take]; omega, rowE_of hE' ⟨by rw [List.length_take]; omega, .inr ⟨g, cap0, cur, rfl, Nat.zero_le _, hg, by omega, hcm, hsz, ?_⟩⟩, ta⟩
   rw [← htake, List.take_take]
   congr 1; omega
  ·rw [List.nodup_cons]
   rw [hf] at hnd
   exact ⟨fun h => hnd.1 (by simp [h]), (List.nodup_append.1 hnd.2).1⟩
  ·intro b hb
   rw [hfp, hf]
   rcases List.mem_cons.1 hb with rfl | hb
   ·simp
   ·simp [hb]
theorem ops_weak {Q : Exit → St → Prop} {all : Array Oper} {rest : List Oper} {σ' : St} (h : Weak P C nt σ σ') (k : Ops P C nt Q all rest σ') : Ops P C nt Q all rest σ := Ops.mk fun L a w hr => by
 obtain ⟨L', h'⟩ := h.run L a w hr
 exact k.run L' a w h'
end
/-! ### calls that change a key and hand it back -/
section
variable {P : Program} {C : Ctx} {nt : Nat} {σ : St} {L : Lyt} {a : Act} {w : World} {o : Oper} {x y u : Operand} {T : TT}
section
variable {Q : Exit → St → Prop} {all : Array Oper} {rest : List Oper} {tm : List (Nat × SV)} {bx : List (Nat × TypeId × List CV)} {ks : List (Nat × Option KC)} {d : Nat}
theorem o_appKK (hT : TTOk P T) {t e k i j hi sz by_ m : Nat} {zc : List CV} {c : KC} {cs : List DV} (hg : o.guard = none) (hd : o.dst = some d) (ho : o.op = .call { callee := .builtin .append, args := #[x, y], argTypes := #[t, t] }) (hnt : Nat.blt d nt = true) (ht : look T.sl t = some e) (he : look T.el e = some (sz, by_, zc)) (hx : Ev P C nt ⟨tm, bx, ks⟩ x (.ksl k 0 i sz)) (hy : Ev P C nt ⟨tm, bx, ks⟩ y (.ksl k j hi sz))
  (hk : lkk ⟨tm, bx, ks⟩ k = some c) (hce : c.e = e) (hcz : c.sz = sz) (hhi : hi = c.n) (hij : i ≤ j) (hj : j ≤ hi) (hm : i + (c.n - j) = m) (hcs : c.cs.take (i * sz) ++ (c.cs.drop (j * sz) ++ List.replicate ((j - i) * sz) .hole) = cs)
  (h : Ops P C nt Q all rest ⟨(d, .ksl k 0 m sz) :: killT [k] [] tm, killB [k] [] bx, (k, some { c with cs := cs }) :: ks⟩) : Ops P C nt Q all (o :: rest) ⟨tm, bx, ks⟩ := ops_ef1 hg (ef_appKK hT ho hd hnt ht he hx hy hk hce hcz hhi hij hj) (by subst hcs; subst hm; exact h)
end
end
section
variable {P : Program} {C : Ctx} {nt : Nat} {o : Oper} {x y : Operand} {T : TT} {Q : Exit → St → Prop} {all : Array Oper} {tm : List (Nat × SV)} {bx : List (Nat × TypeId × List CV)} {ks : List (Nat × Option KC)} {oB oK nK : List Nat} {hd' : Nat → Bool} {listed : Array Bool} {fuel : Nat}
theorem nj_buildN (i : Nat) (hT : TTOk P T) {t e sz by_ d k n : Nat} {zc cs : List CV} {ds : List DV} {js : List Nat} {ps : List (Nat × Operand)} (hi : all[i]? = some o) (hg : o.guard = none) (hd : o.dst = some d) (ho : o.op = .buildSlice t n ps.toArray) (hn : Nat.blt d nt = true) (ht : look T.sl t = some e) (he : look T.el e = some (sz, by_, zc)) (hl0 : zc.length = sz) (hsz : Nat.blt 0 sz = true) (hsm : Nat.ble (n * sz) 16777216 = true) (hps : ps.length = n) (hn0 : Nat.blt 0 n = true)
  (hx : EvParts P C nt ⟨tm, bx, ks⟩ sz 0 ps cs) (how : OwCs ⟨tm, bx, ks⟩ cs ds js) (hnj : js.Nodup) (hkj : k ∉ js) (hcl : cs.length = n * sz) (hk : lkk ⟨tm, bx, ks⟩ k = none)
  (hb : (oB.all fun i => (look bx i).isSome) = true) (hk' : (oK.all fun k => (lkk ⟨tm, bx, ks⟩ k).isSome) = true) (hn' : (nK.all fun k => (lkk ⟨tm, bx, ks⟩ k).isSome) = true)
  (h : OpsN P C nt Q all oB oK nK hd' (listed.setIfInBounds i true) fuel ⟨(d, .one (.key k)) :: killT (k :: js) (k :: js) tm, killB (k :: js) (k :: js) bx, (k, some ⟨false, e, sz, n, ds⟩) :: ((js.map fun j => (j, none)) ++ (k, some ⟨false, e, sz, 0, []⟩) :: ks)⟩) : OpsNJ P C nt Q all oB oK nK hd' listed fuel i ⟨tm, bx, ks⟩ :=
 nj_efg i hi hg (efg_buildN hT ho hd hn ht he hl0 hsz hsm hps hn0 hx how hnj hkj hcl hk) hb hk' hn' fun σ' e => by rw [e]; exact h
end
theorem ok_cutT {P : Program} {C : Ctx} {nt : Nat} {σ σ' : St} {x y : Code} {Q1 Q2 : Exit → St → Prop} (h1 : Ok P C nt (thenQ (fun σ1 => Weak P C nt σ1 σ') Q2) x σ) (h2 : Ok P C nt Q1 y σ') : Ok P C nt (thenQ (Ok P C nt Q1 y) Q2) x σ := Ok.mk fun L a w hr =>
 wp_mono (h1.run L a w hr) (QQ_mono fun e σ1 h => by
  cases e with
  | normal => exact ok_weak h h2
  | _ => exact h)
end Go.Proofs.YtoigmlbidpocnaaGreat

namespace Go.Proofs.YtoigmlbidpocnaaGreat
open Go.RowKit
open Go.Proofs
open Go.Sort
set_option linter.unusedVariables false
set_option linter.unusedSimpArgs false
def ofB (b : List UInt8) : ByteArray := ⟨b.toArray⟩
def srtS (l : List ByteArray) : List ByteArray := ((l.map fun s => s.data.toList).mergeSort fun x y => decide (x ≤ y)).map ofB
def cmpS (l : List ByteArray) : List ByteArray := (Lib.compact (l.map fun s => s.data.toList)).map ofB
theorem ofB_id (s : ByteArray) : ofB s.data.toList = s := by unfold ofB; rfl
theorem map_ofB (z : List (List UInt8)) : (z.map ofB).map (fun s => s.data.toList) = z := by
 rw [List.map_map]
 have : ((fun s : ByteArray => s.data.toList) ∘ ofB) = id := by funext b; simp [ofB]
 rw [this, List.map_id]
theorem srtS_len (l : List ByteArray) : (srtS l).length = l.length := by simp [srtS, List.length_mergeSort]
theorem srtS_mem {l : List ByteArray} {s : ByteArray} : s ∈ srtS l ↔ s ∈ l := by
 unfold srtS
 rw [List.mem_map]
 constructor
 ·rintro ⟨b, hb, e⟩
  rw [List.mem_mergeSort] at hb
  obtain ⟨t, ht, e2⟩ := List.mem_map.1 hb
  rw [← e, ← e2, ofB_id]; exact ht
 ·intro h
  exact ⟨s.data.toList, List.mem_mergeSort.2 (List.mem_map.2 ⟨s, h, rfl⟩), ofB_id s⟩
theorem cmp_mem {α : Type} [Inhabited α] [DecidableEq α] {z : List α} {x : α} (h : x ∈ Lib.compact z) : x ∈ z := by
 unfold Lib.compact Lib.compactUpTo at h
 obtain ⟨j, hj, e⟩ := List.mem_map.1 h
 have hj2 := List.mem_range.1 (List.mem_filter.1 hj).1
 rw [← e, getElem!_pos z.toArray j (by simpa using hj2)]
 simp
theorem cmpS_mem {l : List ByteArray} {s : ByteArray} (h : s ∈ cmpS l) : s ∈ l := by
 unfold cmpS at h
 obtain ⟨b, hb, e⟩ := List.mem_map.1 h
 obtain ⟨t, ht, e2⟩ := List.mem_map.1 (cmp_mem hb)
 rw [← e, ← e2, ofB_id]; exact ht
structure SortOk (P : Program) (f : FuncId) : Prop where
 run : ∀ (blk off cap : Nat) (ss : List (List UInt8)) (w : World), Holds encStr w blk off ss.toArray → blk < w.heap.size → ss.length < 4611686018427387904 → Calls P f #[.slice (some ⟨blk, off, none⟩) ss.length cap] w fun e w' => e = .returned (.tuple #[]) ∧ ∃ n os, w' = grow (putRow encStr (Sort.ahead w n) blk off (ss.mergeSort fun x y => decide (x ≤ y)).toArray) os
 none : ∀ (p : Option Addr) (cap : Nat) (w : World), Calls P f #[.slice p 0 cap] w fun e w' => e = .returned (.tuple #[]) ∧ w' = w
structure CompOk (P : Program) (f : FuncId) : Prop where
 run : ∀ (blk off cap : Nat) (zs : List (List UInt8)) (w : World), Holds encStr w blk off zs.toArray → zs.length ≤ 9223372036854775807 → zs.length ≤ cap → Calls P f #[.slice (some ⟨blk, off, none⟩) zs.length cap] w fun e w' => e = .returned (.slice (some ⟨blk, off, none⟩) (Lib.compact zs).length cap) ∧ ∃ q, w' = putRow encStr (Sort.ahead w q) blk off (Lib.compact zs ++ List.replicate (zs.length - (Lib.compact zs).length) []).toArray
 none : ∀ (p : Option Addr) (cap : Nat) (w : World), Calls P f #[.slice p 0 cap] w fun e w' => e = .returned (.slice p 0 cap) ∧ w' = w
def strD (l : List ByteArray) : List DV := l.flatMap fun s => [.str s]
theorem strD_len (l : List ByteArray) : (strD l).length = l.length := by
 unfold strD
 induction l with
 | nil => rfl
 | cons s l ih => simp [List.flatMap_cons, ih]
theorem own_strs {w : World} : ∀ {l : List ByteArray} {vs : List Value} {f : List Nat}, OwnL w (strD l) vs f → vs = (l.map fun s => s.data.toList).map encStr ∧ f = [] ∧ ∀ s ∈ l, s.size ≤ 9223372036854775807
 | [], _, _, h => by simp only [strD, List.flatMap_nil, OwnL] at h; obtain ⟨rfl, rfl⟩ := h; simp
 | s :: l, _, _, h => by
  rw [strD, List.flatMap_cons, List.singleton_append, OwnL] at h
  obtain ⟨v, vs', f1, f2, rfl, rfl, h1, h2⟩ := h
  obtain ⟨rfl, rfl, h3⟩ := own_strs (l := l) h2
  simp only [Own] at h1
  obtain ⟨rfl, h4, rfl⟩ := h1
  refine ⟨?_, rfl, fun t ht => ?_⟩
  ·simp only [List.map_cons]
  ·rcases List.mem_cons.1 ht with e | ht
   ·rw [e]; exact h4
   ·exact h3 t ht
theorem own_strs_mk {w : World} : ∀ {l : List ByteArray}, (∀ s ∈ l, s.size ≤ 9223372036854775807) → OwnL w (strD l) ((l.map fun s => s.data.toList).map encStr) []
 | [], _ => by simp [strD, OwnL]
 | s :: l, h => by
  rw [strD, List.flatMap_cons, List.singleton_append, OwnL]
  exact ⟨.string s, _, [], [], rfl, rfl, by unfold Own; exact ⟨rfl, h s (by simp), rfl⟩, own_strs_mk (fun t ht => h t (by simp [ht]))⟩
section
variable {P : Program} {C : Ctx} {nt : Nat} {σ : St} {L : Lyt} {a : Act} {w : World} {o : Oper} {x y : Operand}
theorem ef_sort {f k d : Nat} {ats : Array TypeId} {c : KC} {l : List ByteArray} (hf : SortOk P f) (ho : o.op = .call { callee := .value (.func f), args := #[x], argTypes := ats }) (hc : ∀ (args : Array Value) (w : World), (callFunc f args).run P w = .ok (.enter f args) w) (hd : o.dst = some d) (hnt : Nat.blt d nt = true)
  (hx : Ev P C nt σ x (.one (.key k))) (hk : lkk σ k = some c) (he : Nat.blt c.e 1000000 = true) (hsz : c.sz = 1) (hn : c.n = l.length) (hcs : c.cs = strD l) (hl : l.length < 4611686018427387904) :
  Ef P C nt o σ (fun σ' => σ' = (σ.mut k [] true ⟨false, c.e, 1, l.length, strD (srtS l)⟩).put d .any) := Ef.mk fun L a w hr K Q hK => by
 have hd' : d < nt := by simpa [Nat.blt_eq] using hnt
 have e1 := hx.run L a w hr
 simp only [SVr, CVr] at e1
 have ho1 := (hr.ks k c hk).1
 have hkn := hr.kn k c hk
 rw [hsz, hn, hcs] at ho1
 simp only [Own] at ho1
 obtain ⟨vs, f1, q1, q2, q3, q4, q5⟩ := ho1
 obtain ⟨rfl, rfl, hz⟩ := own_strs q5
 have he' : c.e < 1000000 := by simpa [Nat.blt_eq] using he
 have hrow := q4.1 he'
 rw [List.append_nil] at q1
 refine wp_callGo (xs := [x]) ho hc ?_
 simp only [List.map_cons, List.map_nil, e1]
 have hz' : ∀ s ∈ srtS l, s.size ≤ 9223372036854775807 := fun s hs => hz s (srtS_mem.1 hs)
 by_cases hnil : L.rv k = .slice none 0 0
 ·have hl0 : l = [] := by
   have := hrow.1
   rcases hrow.2 with ⟨_, h0⟩ | ⟨g, cap, cur, h1, _⟩
   ·exact List.length_eq_zero_iff.1 h0
   ·rw [hnil] at h1; cases h1
  subst hl0
  rw [hnil]
  refine (hf.none none 0 w).mono ?_
  rintro e w' ⟨rfl, rfl⟩
  refine ⟨_, rfl, ?_⟩
  rw [hd]
  have e0 : (⟨false, c.e, 1, ([] : List ByteArray).length, strD (srtS [])⟩ : KC) = ⟨false, c.e, 1, 0, strD []⟩ := by simp [srtS]
  refine hK _ ((σ.mut k [] true ⟨false, c.e, 1, 0, strD []⟩).put d .any) _ _ (by rw [e0]) (Rel.put (hr.setkey (k := k) (c := c) (c' := ⟨false, c.e, 1, 0, strD []⟩) (js := []) (same := true) (v' := L.rv k) (f' := L.fp k) hk (by simp) (Chg.refl _ _) ?_ hkn (fun b hb => .inl hb) (by simp) (fun _ => rfl) (by simp)) hd' trivial (by simp [SV.keys]) (by simp [SV.boxes]))
  have := (hr.ks k c hk).1
  rw [hsz, hn, hcs] at this
  exact this
 ·obtain ⟨g, cap, hv, _, hg, h1, h2, h3, hH⟩ := Lib.holds_of_ownsRow hrow hnil
  rw [hv]
  have hl2 : (l.map fun s => s.data.toList).length < 4611686018427387904 := by simpa using hl
  have := hf.run g 0 cap (l.map fun s => s.data.toList) w hH hg hl2
  rw [List.length_map] at this
  refine this.mono ?_
  rintro e w' ⟨rfl, n, os, rfl⟩
  refine ⟨_, rfl, ?_⟩
  rw [hd]
  have hfp : L.fp k = [g] := by rw [q1, hv]; rfl
  have hlen : ((l.map fun s => s.data.toList).mergeSort fun x y => decide (x ≤ y)).length = (l.map fun s => s.data.toList).length := List.length_mergeSort _
  obtain ⟨cur, hb, hcur⟩ : ∃ cur, w.heap[g]? = some (.cells cur c.e (0, 0)) ∧ cur.size = cap * 1 := by
   rcases hrow.2 with ⟨h0, _⟩ | ⟨g', cap', cur, h0, _, hb, _, _, hcur, _⟩
   ·exact absurd h0 hnil
   ·rw [hv] at h0
    injection h0 with a1 a2 a3
    injection a1 with a1
    injection a1 with a1
    subst a1; subst a3
    exact ⟨cur, hb, hcur⟩
  have hown := ownsRow_sorted (n := n) (os := os) (base := 0) hlen (Nat.zero_le g) hb (by simpa using h1) h2 hcur
  rw [List.length_map] at hown
  obtain ⟨gb1, gb2, gb3, gb4, gb5⟩ := grownBy_sorted (w := w) (g := g) (n := n) (os := os) ((l.map fun s => s.data.toList).mergeSort fun x y => decide (x ≤ y)).toArray
  refine hK _ _ _ _ rfl (Rel.put (hr.setkey (k := k) (c := c) (c' := ⟨false, c.e, 1, l.length, strD (srtS l)⟩) (js := []) (same := true) (v' := L.rv k) (f' := L.fp k) hk (by simp) ⟨gb1, gb2, gb3, gb4, fun i hi hne => gb5 i hi (fun e => hne (by rw [hfp]; injection e with e; simp [e]))⟩ ?_ hkn (fun b hb => .inl hb) (by simp) (fun _ => rfl) (by simp)) hd' trivial (by simp [SV.keys]) (by simp [SV.boxes]))
  have hsl := srtS_len l
  simp only [Own]
  refine ⟨((srtS l).map fun s => s.data.toList).map encStr, [], by rw [q1, List.append_nil], by decide, by rw [strD_len, hsl, Nat.mul_one], rowE_of he' ?_, own_strs_mk hz'⟩
  rw [hv]
  have e2 : (srtS l).map (fun s => s.data.toList) = (l.map fun s => s.data.toList).mergeSort fun x y => decide (x ≤ y) := map_ofB _
  rw [e2]
  exact hown
theorem ef_compact {f k d : Nat} {ats : Array TypeId} {c : KC} {l : List ByteArray} (hf : CompOk P f) (ho : o.op = .call { callee := .value (.func f), args := #[x], argTypes := ats }) (hc : ∀ (args : Array Value) (w : World), (callFunc f args).run P w = .ok (.enter f args) w) (hd : o.dst = some d) (hnt : Nat.blt d nt = true)
  (hx : Ev P C nt σ x (.one (.key k))) (hk : lkk σ k = some c) (he : Nat.blt c.e 1000000 = true) (hsz : c.sz = 1) (hn : c.n = l.length) (hcs : c.cs = strD l) (hl : l.length < 4611686018427387904) :
  Ef P C nt o σ (fun σ' => σ' = (σ.mut k [] false ⟨false, c.e, 1, (cmpS l).length, strD (cmpS l)⟩).put d (.one (.key k))) := Ef.mk fun L a w hr K Q hK => by
 have hd' : d < nt := by simpa [Nat.blt_eq] using hnt
 have e1 := hx.run L a w hr
 simp only [SVr, CVr] at e1
 have ho1 := (hr.ks k c hk).1
 have hkn := hr.kn k c hk
 rw [hsz, hn, hcs] at ho1
 simp only [Own] at ho1
 obtain ⟨vs, f1, q1, q2, q3, q4, q5⟩ := ho1
 obtain ⟨rfl, rfl, hz⟩ := own_strs q5
 have he' : c.e < 1000000 := by simpa [Nat.blt_eq] using he
 have hrow := q4.1 he'
 rw [List.append_nil] at q1
 refine wp_callGo (xs := [x]) ho hc ?_
 simp only [List.map_cons, List.map_nil, e1]
 have hz' : ∀ s ∈ cmpS l, s.size ≤ 9223372036854775807 := fun s hs => hz s (cmpS_mem hs)
 have fin : ∀ {w' : World} {v' : Value} {f' : List Nat}, Chg (L.fp k) w w' → Own w' (.sl c.e 1 (cmpS l).length (strD (cmpS l))) v' f' → f' = L.fp k → K (a.put o.dst v') w' := fun {w' v' f'} h1 h2 h3 => by
  subst h3
  have hset := hr.setkey (k := k) (c := c) (c' := ⟨false, c.e, 1, (cmpS l).length, strD (cmpS l)⟩) (js := []) (same := false) (v' := v') (f' := L.fp k) hk (by simp) h1 h2 hkn (fun b hb => .inl hb) (by simp) (fun e => by cases e) (by simp)
  rw [hd]
  refine hK _ _ _ _ rfl (hset.put hd' (v := .one (.key k)) ?_ ?_ (by simp [SV.boxes]))
  ·simp [SVr, CVr]
  ·intro j hj
   simp only [SV.keys, CV.keys, List.mem_singleton] at hj
   subst hj
   simp [lkk, St.mut, look_cons]
 by_cases hnil : L.rv k = .slice none 0 0
 ·have hl0 : l = [] := by
   rcases hrow.2 with ⟨_, h0⟩ | ⟨g, cap, cur, h1, _⟩
   ·exact List.length_eq_zero_iff.1 h0
   ·rw [hnil] at h1; cases h1
  subst hl0
  rw [hnil]
  refine (hf.none none 0 w).mono ?_
  rintro e w' ⟨rfl, rfl⟩
  refine ⟨_, rfl, fin (Chg.refl _ _) (v' := .slice none 0 0) (f' := L.fp k) ?_ rfl⟩
  have := (hr.ks k c hk).1
  rw [hsz, hn, hcs, hnil] at this
  exact this
 ·obtain ⟨g, cap, hv, _, hg, h1, h2, h3, hH⟩ := Lib.holds_of_ownsRow hrow hnil
  rw [hv]
  have hl2 : (l.map fun s => s.data.toList).length ≤ 9223372036854775807 := by rw [List.length_map]; omega
  have := hf.run g 0 cap (l.map fun s => s.data.toList) w hH hl2 (by rw [List.length_map]; exact h1)
  rw [List.length_map] at this
  refine this.mono ?_
  rintro e w' ⟨rfl, q, rfl⟩
  have hfp : L.fp k = [g] := by rw [q1, hv]; rfl
  have hcl := Lib.compact_length_le (l.map fun s => s.data.toList)
  rw [List.length_map] at hcl
  have hcl2 : (cmpS l).length = (Lib.compact (l.map fun s => s.data.toList)).length := by simp [cmpS]
  have hrow' := hrow
  rw [hv] at hrow'
  have hown := Lib.ownsRow_putRow (q := q) (k := (Lib.compact (l.map fun s => s.data.toList)).length) (ys := Lib.compact (l.map fun s => s.data.toList) ++ List.replicate (l.length - (Lib.compact (l.map fun s => s.data.toList)).length) []) hrow' (by simp; omega) hcl
  rw [List.take_left] at hown
  refine ⟨_, rfl, fin ⟨rfl, rfl, rfl, by simp [putRow, mapBlock, Sort.ahead], fun i hi hne => ?_⟩ ?_ rfl⟩
  ·have : g ≠ i := fun e => hne (by rw [hfp, e]; simp)
   simp [putRow, mapBlock, Sort.ahead, Array.getElem?_modify, this]
  ·simp only [Own]
   refine ⟨((cmpS l).map fun s => s.data.toList).map encStr, [], by rw [hfp]; rfl, by decide, by rw [strD_len, Nat.mul_one], rowE_of he' ?_, own_strs_mk hz'⟩
   rw [show (cmpS l).map (fun s => s.data.toList) = Lib.compact (l.map fun s => s.data.toList) from map_ofB _, hcl2]
   exact hown
end
section
variable {P : Program} {C : Ctx} {nt : Nat} {o : Oper} {x : Operand} {Q : Exit → St → Prop} {all : Array Oper} {rest : List Oper} {tm : List (Nat × SV)} {bx : List (Nat × TypeId × List CV)} {ks : List (Nat × Option KC)}
theorem o_sort {f k d : Nat} {ats : Array TypeId} {c : KC} {l : List ByteArray} {n : Nat} {cs : List DV} (hg : o.guard = none) (hd : o.dst = some d) (ho : o.op = .call { callee := .value (.func f), args := #[x], argTypes := ats }) (hnt : Nat.blt d nt = true) (hc : ∀ (args : Array Value) (w : World), (callFunc f args).run P w = .ok (.enter f args) w) (hf : SortOk P f)
  (hx : Ev P C nt ⟨tm, bx, ks⟩ x (.one (.key k))) (hk : lkk ⟨tm, bx, ks⟩ k = some c) (he : Nat.blt c.e 1000000 = true) (hsz : c.sz = 1) (hn : c.n = l.length) (hcs : c.cs = strD l) (hl : l.length < 4611686018427387904) (hn2 : l.length = n) (hcs2 : strD (srtS l) = cs)
  (h : Ops P C nt Q all rest ⟨(d, .any) :: killT [k] [] tm, killB [k] [] bx, (k, some ⟨false, c.e, 1, n, cs⟩) :: ks⟩) : Ops P C nt Q all (o :: rest) ⟨tm, bx, ks⟩ := by
 subst hn2; subst hcs2
 exact ops_ef1 hg (ef_sort hf ho hc hd hnt hx hk he hsz hn hcs hl) h
theorem o_compact {f k d : Nat} {ats : Array TypeId} {c : KC} {l : List ByteArray} {n : Nat} {cs : List DV} (hg : o.guard = none) (hd : o.dst = some d) (ho : o.op = .call { callee := .value (.func f), args := #[x], argTypes := ats }) (hnt : Nat.blt d nt = true) (hc : ∀ (args : Array Value) (w : World), (callFunc f args).run P w = .ok (.enter f args) w) (hf : CompOk P f)
  (hx : Ev P C nt ⟨tm, bx, ks⟩ x (.one (.key k))) (hk : lkk ⟨tm, bx, ks⟩ k = some c) (he : Nat.blt c.e 1000000 = true) (hsz : c.sz = 1) (hn : c.n = l.length) (hcs : c.cs = strD l) (hl : l.length < 4611686018427387904) (hn2 : (cmpS l).length = n) (hcs2 : strD (cmpS l) = cs)
  (h : Ops P C nt Q all rest ⟨(d, .one (.key k)) :: killT [k] [k] tm, killB [k] [k] bx, (k, some ⟨false, c.e, 1, n, cs⟩) :: ks⟩) : Ops P C nt Q all (o :: rest) ⟨tm, bx, ks⟩ := by
 subst hn2; subst hcs2
 exact ops_ef1 hg (ef_compact hf ho hc hd hnt hx hk he hsz hn hcs hl) h
end
end Go.Proofs.YtoigmlbidpocnaaGreat

namespace Go.Proofs.YtoigmlbidpocnaaGreat
open Go.RowKit
open Go.Proofs
open Go.Shelf
def laysSort_ren : Go.Shelf.Ren := ⟨fun | 190 => 34 | 125 => 53 | 258 => 52 | 128 => 73 | 129 => 74 | 302 => 64 | 303 => 65 | 304 => 66 | 305 => 67 | 306 => 68 | 307 => 69 | 308 => 70 | 309 => 71 | 310 => 72 | 333 => 82 | 329 => 83 | 330 => 84 | 334 => 85 | 335 => 86 | 336 => 87 | 344 => 94 | n => n, fun | 31 => 40 | 9 => 9 | 3 => 3 | 46 => 78 | 0 => 0 | 51 => 104 | 53 => 106 | 4 => 4 | 183 => 96 | 182 => 95 | 131 => 101 | 5 => 5 | 218 => 116 | 222 => 120 | 228 => 133 | 229 => 134 | n => n, fun | n => n⟩
theorem laysSort : Go.Proofs.Lays.n190 Tryz.prog laysSort_ren := {
 mixed := by kernel_rfl
 f125 := Tryz.func53.trans (congrArg some (by kernel_rfl))
 f128 := Tryz.func73.trans (congrArg some (by kernel_rfl))
 f129 := Tryz.func74.trans (congrArg some (by kernel_rfl))
 f190 := Tryz.func34.trans (congrArg some (by kernel_rfl))
 f258 := Tryz.func52.trans (congrArg some (by kernel_rfl))
 f302 := Tryz.func64.trans (congrArg some (by kernel_rfl))
 f303 := Tryz.func65.trans (congrArg some (by kernel_rfl))
 f304 := Tryz.func66.trans (congrArg some (by kernel_rfl))
 f305 := Tryz.func67.trans (congrArg some (by kernel_rfl))
 f306 := Tryz.func68.trans (congrArg some (by kernel_rfl))
 f307 := Tryz.func69.trans (congrArg some (by kernel_rfl))
 f308 := Tryz.func70.trans (congrArg some (by kernel_rfl))
 f309 := Tryz.func71.trans (congrArg some (by kernel_rfl))
 f310 := Tryz.func72.trans (congrArg some (by kernel_rfl))
 f329 := Tryz.func83.trans (congrArg some (by kernel_rfl))
 f330 := Tryz.func84.trans (congrArg some (by kernel_rfl))
 f333 := Tryz.func82.trans (congrArg some (by kernel_rfl))
 f334 := Tryz.func85.trans (congrArg some (by kernel_rfl))
 f335 := Tryz.func86.trans (congrArg some (by kernel_rfl))
 f336 := Tryz.func87.trans (congrArg some (by kernel_rfl))
 f344 := Tryz.func94.trans (congrArg some (by kernel_rfl))
 t0 := Tryz.underlying0
 a0 := Tryz.isAgg0
 z0 := Tryz.sizeOf0
 v0 := Tryz.zeroValue0
 t3 := Tryz.underlying3
 a3 := Tryz.isAgg3
 z3 := Tryz.sizeOf3
 v3 := Tryz.zeroValue3
 t4 := Tryz.underlying4
 a4 := Tryz.isAgg4
 z4 := Tryz.sizeOf4
 v4 := Tryz.zeroValue4
 t5 := Tryz.underlying5
 a5 := Tryz.isAgg5
 z5 := Tryz.sizeOf5
 v5 := Tryz.zeroValue5
 t9 := Tryz.underlying9
 a9 := Tryz.isAgg9
 z9 := Tryz.sizeOf9
 v9 := Tryz.zeroValue9
 t31 := Tryz.underlying40
 a31 := Tryz.isAgg40
 z31 := Tryz.sizeOf40
 v31 := Tryz.zeroValue40
 t46 := Tryz.underlying78
 a46 := Tryz.isAgg78
 z46 := Tryz.sizeOf78
 v46 := Tryz.zeroValue78
 t51 := Tryz.underlying104
 a51 := Tryz.isAgg104
 z51 := Tryz.sizeOf104
 v51 := Tryz.zeroValue104
 t53 := Tryz.underlying106
 a53 := Tryz.isAgg106
 z53 := Tryz.sizeOf106
 v53 := Tryz.zeroValue106
 t131 := Tryz.underlying101
 a131 := Tryz.isAgg101
 z131 := Tryz.sizeOf101
 v131 := Tryz.zeroValue101
 t182 := Tryz.underlying95
 a182 := Tryz.isAgg95
 z182 := Tryz.sizeOf95
 v182 := Tryz.zeroValue95
 t183 := Tryz.underlying96
 a183 := Tryz.isAgg96
 z183 := Tryz.sizeOf96
 v183 := Tryz.zeroValue96
 t218 := Tryz.underlying116
 a218 := Tryz.isAgg116
 z218 := Tryz.sizeOf116
 v218 := Tryz.zeroValue116
 t222 := Tryz.underlying120
 a222 := Tryz.isAgg120
 z222 := Tryz.sizeOf120
 v222 := Tryz.zeroValue120
 t228 := Tryz.underlying133
 a228 := Tryz.isAgg133
 z228 := Tryz.sizeOf133
 v228 := Tryz.zeroValue133
 t229 := Tryz.underlying134
 a229 := Tryz.isAgg134
 z229 := Tryz.sizeOf134
 v229 := Tryz.zeroValue134 }
def laysCompact_ren : Go.Shelf.Ren := ⟨fun | 194 => 35 | n => n, fun | 31 => 40 | 9 => 9 | 3 => 3 | 4 => 4 | 0 => 0 | n => n, fun | n => n⟩
theorem laysCompact : Go.Proofs.Lays.n194 Tryz.prog laysCompact_ren := {
 mixed := by kernel_rfl
 f194 := Tryz.func35.trans (congrArg some (by kernel_rfl))
 t0 := Tryz.underlying0
 a0 := Tryz.isAgg0
 z0 := Tryz.sizeOf0
 v0 := Tryz.zeroValue0
 t3 := Tryz.underlying3
 a3 := Tryz.isAgg3
 z3 := Tryz.sizeOf3
 v3 := Tryz.zeroValue3
 t4 := Tryz.underlying4
 a4 := Tryz.isAgg4
 z4 := Tryz.sizeOf4
 v4 := Tryz.zeroValue4
 t9 := Tryz.underlying9
 a9 := Tryz.isAgg9
 z9 := Tryz.sizeOf9
 v9 := Tryz.zeroValue9
 t31 := Tryz.underlying40
 a31 := Tryz.isAgg40
 z31 := Tryz.sizeOf40
 v31 := Tryz.zeroValue40 }
theorem sortOk : SortOk Tryz.prog 34 := ⟨fun blk off cap ss w h1 h2 h3 => Any.slices_Sort_string laysSort blk off cap ss w h1 h2 h3, fun p cap w => Any.slices_Sort_string_none laysSort p cap w⟩
theorem compOk : CompOk Tryz.prog 35 := ⟨fun blk off cap zs w h1 h2 h3 => Any.slices_Compact_string laysCompact blk off cap zs w h1 h2 h3, fun p cap w => Any.slices_Compact_string_empty laysCompact p cap w⟩
end Go.Proofs.YtoigmlbidpocnaaGreat

