/-
  The rules of a small program logic over abstract states: no program is in sight but in the table of its types. Conditions: none.
-/
import Derived.Great.BuildSlice
import Derived.Ground.NamesProg
import Derived.Laws.CopyRow
import Derived.Laws.Externs
import Derived.Lib.AppendStr
import Derived.Lib.AppendZerosOnto
import Derived.Lib.Bytealg
import Derived.Lib.ConvBytes
import Derived.Lib.Overlaps
import Derived.Lib.OwnBridge
import Derived.Lib.Slices
import Derived.Lib.SlicesCompact
import Derived.Lib.Strings
import Derived.Lib.Walk
import Derived.Shelf.RegionOpenPlain
import Derived.Shelf.Slices.CompactS
import Derived.Shelf.Slices.In.SortNone
import Derived.Shelf.Sort.Plain
import Derived.Shelf.Spec.SlicesInsert
import Derived.Sort.OwnSorted
import Derived.Sort.Walk0
import Derived.Test.YtcgmpjedhbhplaaGreatProg
import Derived.WalkKit
import Derived.Test.YtcgmpjedhbhplaaGreatU1
namespace Go.Proofs.YtcgmpjedhbhplaaGreat
open Go.RowKit
set_option linter.unusedVariables false
set_option linter.unusedSimpArgs false

section
variable {P : Program} {C : Ctx} {nt : Nat} {σ : St} {L : Lyt} {a : Act} {w : World} {o : Oper} {x y : Operand} {T : TT}
theorem mut_key {k : Nat} {js : List Nat} {c' : KC} {same : Bool} : lkk (σ.mut k js same c') k = some c' := by
 simp only [lkk, St.mut, List.cons_append, look_cons, if_true]; rfl
structure AppF (L L' : Lyt) (w w' : World) (k : Nat) (js : List Nat) : Prop where
 chg : Chg (L.fp k) w w'
 fp : ∀ i, i ≠ k → L'.fp i = L.fp i
 bb : L'.bb = L.bb
 new : ∀ b ∈ L'.fp k, b ∈ L.fp k ∨ (∃ j ∈ js, b ∈ L.fp j) ∨ w.heap.size ≤ b
theorem app_finX {d k m : Nat} {c : KC} {js : List Nat} {us : List Value} {ds : List DV} {f2 : List Nat} {K : Act → World → Prop} {A' : Option Addr} {c' : Nat} {w' : World} {vs : List Value} {f : List Nat}
  (hd : o.dst = some d) (hnt : d < nt) (hr : Rel P C nt L σ a w) (hk : lkk σ k = some c) (hE' : c.e < 1000000) (hkj : k ∉ js) (hj : ∀ j ∈ js, (lkk σ j).isSome = true) (hm' : ds.length = m * c.sz) (ho2 : OwnL w ds us f2) (hf2 : ∀ b ∈ f2, ∃ j ∈ js, b ∈ L.fp j) (hn2 : f2.Nodup)
  (e3 : L.fp k = (L.rv k).ownBlock.toList ++ f) (h5 : 0 < c.sz) (h6 : c.cs.length = c.n * c.sz) (h8 : OwnL w c.cs vs f)
  (h9 : w'.ownsRow 0 c.e c.sz (.slice A' (c.n + m) c') (c.n + m) (vs ++ us)) (hchg : Chg (L.rv k).ownBlock.toList w w') (hblk : (L.rv k).ownBlock = (Value.slice A' (c.n + m) c').ownBlock ∨ (Value.slice A' (c.n + m) c').ownBlock = some w.heap.size)
  (hK : ∀ L' a' w', Rel P C nt L' ((σ.mut k js false ⟨false, c.e, c.sz, c.n + m, c.cs ++ ds⟩).put d (.one (.key k))) a' w' → AppF L L' w w' k js → K a' w') : K (a.put o.dst (.slice A' (c.n + m) c')) w' := by
 have hkn := hr.kn k c hk
 rw [e3] at hkn
 obtain ⟨n1, n2, n3⟩ := List.nodup_append.1 hkn
 have hdis : ∀ b ∈ f2, b ∉ L.fp k := fun b hb' hm => by
  obtain ⟨j, hj', hb''⟩ := hf2 b hb'
  obtain ⟨q, hq⟩ := Option.isSome_iff_exists.1 (hj j hj')
  exact hr.kk j k q c hq hk (fun e => hkj (by rw [← e]; exact hj')) b hb'' hm
 have hlt1 : ∀ b ∈ f, b < w.heap.size := ownL_lt _ _ _ h8
 have hlt2 : ∀ b ∈ f2, b < w.heap.size := ownL_lt _ _ _ ho2
 have k1 : OwnL w' c.cs vs f := ownL_keep _ _ _ h8 (fun b hb' => hchg.block b (hlt1 b hb') (fun hm => n3 b hm b hb' rfl))
 have k2 : OwnL w' ds us f2 := ownL_keep _ _ _ ho2 (fun b hb' => hchg.block b (hlt2 b hb') (fun hm => hdis b hb' (by rw [e3]; simp [hm])))
 have hown' : Own w' (.sl c.e c.sz (c.n + m) (c.cs ++ ds)) (.slice A' (c.n + m) c') ((Value.slice A' (c.n + m) c').ownBlock.toList ++ (f ++ f2)) := by
  unfold Own
  exact ⟨vs ++ us, f ++ f2, rfl, h5, by rw [List.length_append, h6, hm', Nat.add_mul], rowE_of hE' h9, ownL_append _ _ _ _ _ _ k1 k2⟩
 have hnod : (f ++ f2).Nodup := List.nodup_append.2 ⟨n2, hn2, fun x hx' y hy' e' => hdis y hy' (by rw [e3, ← e']; simp [hx'])⟩
 have hsub : ∀ b ∈ (Value.slice A' (c.n + m) c').ownBlock.toList ++ (f ++ f2), b ∈ L.fp k ∨ (∃ j ∈ js, b ∈ L.fp j) ∨ w.heap.size ≤ b := fun b hb' => by
   rcases List.mem_append.1 hb' with hb' | hb'
   ·rcases hblk with hbl | hbl
    ·rw [← hbl] at hb'; exact .inl (by rw [e3]; simp [hb'])
    ·rw [hbl] at hb'
     simp only [Option.toList_some, List.mem_singleton] at hb'
     exact .inr (.inr (by omega))
   ·rcases List.mem_append.1 hb' with hb' | hb'
    ·exact .inl (by rw [e3]; simp [hb'])
    ·obtain ⟨j, hj', hb''⟩ := hf2 b hb'
     exact .inr (.inl ⟨j, hj', hb''⟩)
 have hset := hr.setkey (k := k) (c := c) (c' := ⟨false, c.e, c.sz, c.n + m, c.cs ++ ds⟩) (js := js) (same := false) hk hkj (hchg.mono (fun b hb' => by rw [e3]; simp [hb'])) hown'
  (by
   rcases hblk with hb' | hb'
   ·rw [← hb']
    refine List.nodup_append.2 ⟨n1, hnod, fun x hx' y hy' e' => ?_⟩
    subst e'
    rcases List.mem_append.1 hy' with hy' | hy'
    ·exact n3 x hx' x hy' rfl
    ·exact hdis x hy' (by rw [e3]; simp [hx'])
   ·rw [hb']
    refine List.nodup_append.2 ⟨by simp, hnod, fun x hx' y hy' e' => ?_⟩
    subst e'
    simp only [Option.toList_some, List.mem_singleton] at hx'
    subst hx'
    rcases List.mem_append.1 hy' with hy' | hy'
    ·exact absurd (hlt1 _ hy') (by omega)
    ·exact absurd (hlt2 _ hy') (by omega))
  hsub hj (by simp) (by simp)
 refine hK { L with fp := fun i => if i = k then (Value.slice A' (c.n + m) c').ownBlock.toList ++ (f ++ f2) else L.fp i, rv := fun i => if i = k then .slice A' (c.n + m) c' else L.rv i } _ _ ?_ ?_
 ·rw [hd]
  exact hset.put (v := .one (.key k)) (r := .slice A' (c.n + m) c') hnt (by simp [SVr, CVr]) (by simp [SV.keys, CV.keys, mut_key]) (by simp [SV.boxes])
 ·exact ⟨hchg.mono (fun b hb' => by rw [e3]; simp [hb']), fun i hi => if_neg hi, rfl, by simpa using hsub⟩
theorem app_wpX (hT : TTOk P T) {t e sz by_ d k m cap : Nat} {zc : List CV} {c : KC} {js : List Nat} {A : Option Addr} {us : List Value} {ds : List DV} {f2 : List Nat} {K : Act → World → Prop} {Q : Exit → Act → World → Prop}
  (ho : o.op = .call { callee := .builtin .append, args := #[x, y], argTypes := #[t, t] }) (hd : o.dst = some d) (hnt : d < nt) (ht : look T.sl t = some e) (he : look T.el e = some (sz, by_, zc)) (hl0 : zc.length = sz)
  (hr : Rel P C nt L σ a w) (hk : lkk σ k = some c) (hce : c.e = e) (hcs : c.sz = sz) (hx : a.eval x = L.rv k) (hy : a.eval y = .slice A m cap) (hkj : k ∉ js) (hj : ∀ j ∈ js, (lkk σ j).isSome = true)
  (hsrc : RowRd w A m sz us) (ho2 : OwnL w ds us f2) (hf2 : ∀ b ∈ f2, ∃ j ∈ js, b ∈ L.fp j) (hn2 : f2.Nodup) (h63 : c.n + m ≤ maxLen) (hb : (c.n + m) * by_ ≤ 140737488355328)
  (hK : ∀ L' a' w', Rel P C nt L' ((σ.mut k js false ⟨false, e, sz, c.n + m, c.cs ++ ds⟩).put d (.one (.key k))) a' w' → AppF L L' w w' k js → K a' w') : o.wp P a w K Q := by
 subst hce; subst hcs
 obtain ⟨inf, z, g1, g2, g3, g4, g5⟩ := hT.el c.e c.sz by_ zc he
 have hown := (hr.ks k c hk).1
 simp only [Own] at hown
 obtain ⟨vs, f, e3, h5, h6, h7, h8⟩ := hown
 have hE' : c.e < 1000000 := hT.lt _ _ he
 have h7 := h7.1 hE'
 have hm' : ds.length = m * c.sz := by rw [← ownL_len _ _ _ ho2, hsrc.1]
 have hone : ∀ u ∈ us, u.oneCell' = true := layL_one (ok := fun _ => True) _ _ (ownL_lay _ _ _ ho2 (fun _ _ => trivial))
 have hzs : z.cells.size = c.sz := by
  have := zL_len g5
  simp only [Array.length_toList] at this
  rw [this, hl0]
 refine wp_app w x y t ho c.e z c.sz by_ (hT.sl t c.e ht) (by rw [g1]; simp [g2, g3, g4]) hzs h5 (L.rv k) c.n vs hx h7 A m cap us hy hsrc hone h63 hb ?_
 intro A' c' w' h9 hchg hblk
 exact app_finX hd hnt hr hk hE' hkj hj hm' ho2 hf2 hn2 e3 h5 h6 h8 h9 hchg hblk hK
theorem app_wp (hT : TTOk P T) {t e sz by_ d k m cap : Nat} {zc : List CV} {c : KC} {js : List Nat} {A : Option Addr} {us : List Value} {ds : List DV} {f2 : List Nat} {K : Act → World → Prop} {Q : Exit → Act → World → Prop}
  (ho : o.op = .call { callee := .builtin .append, args := #[x, y], argTypes := #[t, t] }) (hd : o.dst = some d) (hnt : d < nt) (ht : look T.sl t = some e) (he : look T.el e = some (sz, by_, zc)) (hl0 : zc.length = sz)
  (hr : Rel P C nt L σ a w) (hk : lkk σ k = some c) (hce : c.e = e) (hcs : c.sz = sz) (hx : a.eval x = L.rv k) (hy : a.eval y = .slice A m cap) (hkj : k ∉ js) (hj : ∀ j ∈ js, (lkk σ j).isSome = true)
  (hsrc : RowRd w A m sz us) (ho2 : OwnL w ds us f2) (hf2 : ∀ b ∈ f2, ∃ j ∈ js, b ∈ L.fp j) (hn2 : f2.Nodup) (h63 : c.n + m ≤ maxLen) (hb : (c.n + m) * by_ ≤ 140737488355328)
  (hK : ∀ L' a' w', Rel P C nt L' ((σ.mut k js false ⟨false, e, sz, c.n + m, c.cs ++ ds⟩).put d (.one (.key k))) a' w' → K a' w') : o.wp P a w K Q :=
 app_wpX hT ho hd hnt ht he hl0 hr hk hce hcs hx hy hkj hj hsrc ho2 hf2 hn2 h63 hb (fun L' a' w' h _ => hK L' a' w' h)
theorem own_plainL {ok : Nat → Prop} {w w' : World} : ∀ {ds : List DV} {vs : List Value}, ds.all DV.plain = true → LayL ok w ds vs → OwnL w' ds vs []
 | [], _, _, h => by simp only [LayL] at h; subst h; simp [OwnL]
 | d :: ds, _, hp, h => by
  simp only [List.all_cons, Bool.and_eq_true] at hp
  simp only [LayL] at h
  obtain ⟨v, vs', rfl, h1, h2⟩ := h
  simp only [OwnL]
  exact ⟨v, vs', [], [], rfl, rfl, lay_plain hp.1 h1, own_plainL hp.2 h2⟩
theorem lay_row {ok : Nat → Prop} {w : World} {e sz n : Nat} {cs : List DV} {v : Value} (h : Lay ok w (.sl e sz n cs) v) : ∃ A c vs, v = .slice A n c ∧ RowRd w A n sz vs ∧ LayL ok w cs vs := by
 simp only [Lay] at h
 obtain ⟨A, c, vs, e1, h2, h3, h4, h5, h6, h7⟩ := h
 refine ⟨A, c, vs, e1, ⟨by rw [layL_len _ _ h6, h5], fun hn => ?_⟩, h6⟩
 obtain ⟨b, off, k1, _, k3⟩ := h7 hn
 exact ⟨b, off, k1, k3⟩
theorem plain_flat {α : Type} {enc : α → List DV} (h : ∀ x, (enc x).all DV.plain = true) : ∀ xs : List α, (xs.flatMap enc).all DV.plain = true
 | [] => rfl
 | x :: xs => by rw [List.flatMap_cons, List.all_append, h, plain_flat h xs]; rfl
theorem ef_appV (hT : TTOk P T) {t e sz by_ d k m : Nat} {zc : List CV} {c : KC} {J : List Nat} {e2 : Nat} {ds : List DV} (ho : o.op = .call { callee := .builtin .append, args := #[x, y], argTypes := #[t, t] }) (hd : o.dst = some d) (hnt : Nat.blt d nt = true) (ht : look T.sl t = some e) (he : look T.el e = some (sz, by_, zc)) (hl0 : zc.length = sz)
  (hx : Ev P C nt σ x (.one (.key k))) (hk : lkk σ k = some c) (hce : c.e = e) (hcs : c.sz = sz) (hy : Ev P C nt σ y (.one (.dv J (.sl e2 sz m ds)))) (hp : ds.all DV.plain = true) (hb : (c.n + m) * by_ ≤ 140737488355328) (h63 : c.n + m ≤ 9223372036854775807) :
  Ef P C nt o σ (fun σ' => σ' = (σ.mut k [] false ⟨false, e, sz, c.n + m, c.cs ++ ds⟩).put d (.one (.key k))) := Ef.mk fun L a w hr K Q hK => by
 have h1 := hx.run L a w hr
 have h2 := hy.run L a w hr
 simp only [SVr, CVr] at h1 h2
 obtain ⟨A, cap, vs, e1, hrow, hlay⟩ := lay_row h2
 exact app_wp hT ho hd (by simpa [Nat.blt_eq] using hnt) ht he hl0 hr hk hce hcs h1 e1 (by simp) (by simp) hrow (own_plainL hp hlay) (by simp) (by simp) (by simpa [maxLen] using h63) hb (fun L' a' w' h => hK L' _ _ _ rfl h)
theorem ef_appK (hT : TTOk P T) {t e sz by_ d k j : Nat} {zc : List CV} {c c2 : KC} (ho : o.op = .call { callee := .builtin .append, args := #[x, y], argTypes := #[t, t] }) (hd : o.dst = some d) (hnt : Nat.blt d nt = true) (ht : look T.sl t = some e) (he : look T.el e = some (sz, by_, zc)) (hl0 : zc.length = sz)
  (hx : Ev P C nt σ x (.one (.key k))) (hk : lkk σ k = some c) (hce : c.e = e) (hcs : c.sz = sz) (hy : Ev P C nt σ y (.one (.key j))) (hj : lkk σ j = some c2) (hcs2 : c2.sz = sz) (hkj : k ∉ [j]) (hb : (c.n + c2.n) * by_ ≤ 140737488355328) (h63 : c.n + c2.n ≤ 9223372036854775807) :
  Ef P C nt o σ (fun σ' => σ' = (σ.mut k [j] false ⟨false, e, sz, c.n + c2.n, c.cs ++ c2.cs⟩).put d (.one (.key k))) := Ef.mk fun L a w hr K Q hK => by
 have h1 := hx.run L a w hr
 have h2 := hy.run L a w hr
 simp only [SVr, CVr] at h1 h2
 have hown := (hr.ks j c2 hj).1
 have hlay := own_lay (ok := fun _ => True) _ _ _ hown (fun _ _ => trivial)
 rw [hcs2] at hlay
 simp only [Own] at hown
 obtain ⟨vs, f, e3, h5, h6, h7, h8⟩ := hown
 obtain ⟨A, cap, vs', e1, hrow, hlay'⟩ := lay_row hlay
 have hvs : vs' = vs := by
  have h7' := rowE_open h7
  rcases h7'.2 with ⟨g1, g2⟩ | ⟨g, cap2, cur, t', fz', g1, g2, g3, g4, g5, g6⟩
  ·have l1 : vs.length = 0 := by rw [h7'.1, g2]; simp
   have l2 : vs'.length = 0 := by rw [hrow.1, g2]; simp
   rw [List.eq_nil_of_length_eq_zero l1, List.eq_nil_of_length_eq_zero l2]
  ·rw [e1] at g1
   simp only [Value.slice.injEq, true_and] at g1
   obtain ⟨rfl, rfl⟩ := g1
   rcases Nat.eq_zero_or_pos c2.n with h0 | h0
   ·have l1 : vs.length = 0 := by rw [h7'.1, h0]; simp
    have l2 : vs'.length = 0 := by rw [hrow.1, h0]; simp
    rw [List.eq_nil_of_length_eq_zero l1, List.eq_nil_of_length_eq_zero l2]
   ·obtain ⟨b, off, k1, k2⟩ := hrow.2 h0
    simp only [Option.some.injEq, Addr.mk.injEq, and_true] at k1
    obtain ⟨rfl, rfl⟩ := k1
    apply List.ext_getElem (by rw [hrow.1, h7'.1, hcs2])
    intro i i1 i2
    have q1 := k2 i _ (List.getElem?_eq_getElem i1)
    rw [Nat.zero_add, cell_of_row w _ i cur t' fz' g2] at q1
    have q3 : i < c2.n * c2.sz := by rw [← h7'.1]; exact i2
    have q2 : vs[i]? = cur[i]? := by rw [← g6, List.getElem?_take, if_pos q3, Array.getElem?_toList]
    rw [List.getElem?_eq_getElem i2] at q2
    rw [← q2] at q1
    exact (Option.some.inj q1).symm
 subst hvs
 have hnf : f.Nodup := by
  have := hr.kn j c2 hj
  rw [e3] at this
  exact (List.nodup_append.1 this).2.1
 exact app_wp hT ho hd (by simpa [Nat.blt_eq] using hnt) ht he hl0 hr hk hce hcs h1 (by rw [h2]; exact e1) hkj (by simp [hj]) hrow h8 (fun b hb' => ⟨j, by simp, by rw [e3]; simp [hb']⟩) hnf (by simpa [maxLen] using h63) hb (fun L' a' w' h => hK L' _ _ _ rfl h)
theorem Rel.also (h : Rel P C nt L σ a w) {d : Nat} {v : SV} (hv : SVr P C L w v (a.tmps.getD d undef)) (hk : ∀ k ∈ v.keys, (lkk σ k).isSome = true) (hb : ∀ b ∈ v.boxes, (look σ.bx b).isSome = true) : Rel P C nt L (σ.put d v) a w :=
 { h with
  tm := fun i u hu => by
   simp only [St.put, look_cons] at hu
   split at hu
   ·rename_i e
    simp only [Option.some.injEq] at hu
    rw [e, ← hu]; exact hv
   ·exact h.tm i u hu
  bx := h.bx
  ks := h.ks
  b1 := h.b1
  k1 := h.k1
  kn := h.kn
  bb := h.bb
  bk := h.bk
  kk := h.kk
  lk := fun k hk' => by
   simp only [St.tk, St.put, List.flatMap_cons, List.append_assoc, List.mem_append] at hk'
   rcases hk' with hk' | hk'
   ·exact hk k hk'
   ·exact h.lk k (by simp only [St.tk, List.mem_append]; exact hk')
  lb := fun b hb' => by
   simp only [St.tb, St.put, List.flatMap_cons, List.mem_append] at hb'
   rcases hb' with hb' | hb'
   ·exact hb b hb'
   ·exact h.lb b hb' }
theorem Rel.alsoB (h : Rel P C nt L σ a w) {b t : Nat} {cs cs' : List CV} (hb : look σ.bx b = some (t, cs)) (hv : ∀ vs, CVL C L w cs vs → CVL C L w cs' vs) (hk : ∀ k ∈ cs'.flatMap CV.keys, (lkk σ k).isSome = true) : Rel P C nt L ⟨σ.tm, (b, t, cs') :: σ.bx, σ.ks⟩ a w :=
 have hx : ∀ i x, look ((b, t, cs') :: σ.bx) i = some x → ∃ y, look σ.bx i = some y := fun i x hx => by
  simp only [look_cons] at hx
  split at hx
  ·rename_i e; exact ⟨_, by rw [e]; exact hb⟩
  ·exact ⟨_, hx⟩
 { h with
  tm := h.tm
  bx := fun i t' cs'' hx => by
   simp only [look_cons] at hx
   split at hx
   ·rename_i e
    simp only [Option.some.injEq, Prod.mk.injEq] at hx
    obtain ⟨rfl, rfl⟩ := hx
    obtain ⟨vs, h1, h2⟩ := h.bx b _ _ hb
    exact ⟨vs, by rw [e]; exact h1, hv vs h2⟩
   ·exact h.bx i t' cs'' hx
  ks := h.ks
  b1 := fun i x h' => by obtain ⟨y, hy⟩ := hx i x h'; exact h.b1 i y hy
  k1 := h.k1
  kn := h.kn
  bb := fun i j x y h1 h2 => by
   obtain ⟨x', h1'⟩ := hx i x h1
   obtain ⟨y', h2'⟩ := hx j y h2
   exact h.bb i j x' y' h1' h2'
  bk := fun i k x c h' hc => by obtain ⟨y, hy⟩ := hx i x h'; exact h.bk i k y c hy hc
  kk := h.kk
  lk := fun k hm => by
   simp only [St.tk, List.flatMap_cons, List.mem_append] at hm
   rcases hm with hm | hm | hm
   ·exact h.lk k (by simp only [St.tk, List.mem_append]; exact .inl hm)
   ·exact hk k hm
   ·exact h.lk k (by simp only [St.tk, List.mem_append]; exact .inr hm)
  lb := fun b' hm => by
   have := h.lb b' hm
   simp only [look_cons]
   split
   ·rfl
   ·exact this }
theorem cvL_set {L : Lyt} {w : World} {c' : CV} : ∀ {cs : List CV} {vs : List Value} {i : Nat} {c : CV}, cs[i]? = some c → (∀ v, CVr C L w c v → CVr C L w c' v) → CVL C L w cs vs → CVL C L w (cs.set i c') vs
 | [], _, i, _, h, _, _ => by simp at h
 | x :: xs, _, 0, c, h, hc, ⟨v, vs', e, h1, h2⟩ => by
  simp only [List.getElem?_cons_zero, Option.some.injEq] at h
  subst h
  exact ⟨v, vs', e, hc v h1, h2⟩
 | x :: xs, _, i + 1, c, h, hc, ⟨v, vs', e, h1, h2⟩ => ⟨v, vs', e, h1, cvL_set (by simpa using h) hc h2⟩
theorem weak_nilB (k : Nat) {b i t e sz : Nat} {cs : List CV} (hb : look σ.bx b = some (t, cs)) (hi : cs[i]? = some .nil) (hk : lkk σ k = none) (hsz : Nat.blt 0 sz = true) (hl : ((cs.set i (.key k)).flatMap CV.keys).all (fun j => Nat.beq j k || (lkk σ j).isSome) = true) :
  Weak P C nt σ ⟨σ.tm, (b, t, cs.set i (.key k)) :: σ.bx, (k, some ⟨false, e, sz, 0, []⟩) :: σ.ks⟩ := Weak.mk fun L a w hr => by
 have hpos : 0 < sz := by simpa [Nat.blt_eq] using hsz
 have h1 := hr.newkey (k := k) (c := ⟨false, e, sz, 0, []⟩) (v := .slice none 0 0) (f := []) hk (own_nil w e sz hpos) rfl (by simp) (by simp) (by simp) (by simp)
 refine ⟨_, h1.alsoB (b := b) hb (fun vs hv => cvL_set hi (fun v hv => ?_) hv) (fun j hj => ?_)⟩
 ·simp only [CVr] at hv ⊢
  rw [hv]; simp
 ·have := List.all_eq_true.1 hl j hj
  simp only [Bool.or_eq_true] at this
  simp only [lkk, look_cons]
  split
  ·rfl
  ·rename_i e'
   rcases this with this | this
   ·exact absurd (Nat.eq_of_beq_eq_true this) e'
   ·exact this
theorem alloc_last (w : World) (o : Obj) : (w.alloc o).heap[w.heap.size]? = some o := heap_alloc_new w o
theorem foldl_set (off : Nat) : ∀ (us : List Value) (k : Nat) (cs : List Value), off + k + us.length ≤ cs.length → (us.zipIdx k).foldl (fun (acc : Array Value) (p : Value × Nat) => acc.setIfInBounds (off + p.2) p.1) cs.toArray = (setR (off + k) us cs).toArray
 | [], k, cs, _ => by simp [setR]
 | u :: us, k, cs, h => by
  simp only [List.length_cons] at h
  rw [List.zipIdx_cons, List.foldl_cons]
  have e : (cs.toArray.setIfInBounds (off + k) u) = (cs.set (off + k) u).toArray := by simp
  simp only [e]
  rw [foldl_set off us (k + 1) _ (by simp; omega)]
  congr 1
  have hlt : off + k < cs.length := by omega
  unfold setR
  rw [List.set_eq_take_append_cons_drop, if_pos hlt]
  have h1 : (cs.take (off + k)).length = off + k := by simp; omega
  have e1 : (cs.take (off + k) ++ u :: cs.drop (off + k + 1)).take (off + (k + 1)) = cs.take (off + k) ++ [u] := by
   rw [show off + (k + 1) = (cs.take (off + k)).length + 1 by omega, List.take_length_add_append]
   simp
  have e2 : (cs.take (off + k) ++ u :: cs.drop (off + k + 1)).drop (off + (k + 1) + us.length) = cs.drop (off + k + (us.length + 1)) := by
   rw [show off + (k + 1) + us.length = (cs.take (off + k)).length + (1 + us.length) by omega, ← List.drop_drop, List.drop_left, ← List.drop_drop]
   simp only [List.drop_succ_cons, List.drop_zero, List.drop_drop]
   congr 1; omega
  rw [e1, e2]
  simp
theorem fill_one {place : Nat → Option (Nat × Nat)} {i off sz : Nat} {v : Value} {us cs : List Value} {rest : List (Nat × Value)} (hp : place i = some (off, sz)) (hv : v.cells = us.toArray) (hl : us.length = sz) (hb : off + sz ≤ cs.length) :
  Instr.fill place cs.toArray ((i, v) :: rest) = Instr.fill place (setR off us cs).toArray rest := by
 have h2 := foldl_set off us 0 cs (by omega)
 simp only [Nat.add_zero] at h2
 have e2 : (us.toArray.zipIdx.foldl (fun (acc : Array Value) (p : Value × Nat) => acc.setIfInBounds (off + p.2) p.1) cs.toArray) = (setR off us cs).toArray := by
  rw [← h2]; simp
 conv => lhs; unfold Instr.fill
 simp only [hp, hv, List.size_toArray, hl, ne_eq, not_true_eq_false, decide_false, Bool.false_or, gt_iff_lt, decide_eq_true_eq, Bool.or_eq_true]
 rw [if_neg (by omega)]
 exact congrArg (fun z => Instr.fill place z rest) e2
theorem run_build1 {t e sz by_ : Nat} {zc : List CV} (hT : TTOk P T) (ht : look T.sl t = some e) (he : look T.el e = some (sz, by_, zc)) (hl0 : zc.length = sz) (hpos : 0 < sz) (hsm : sz ≤ 16777216) {v : Value} {us : List Value} (hv : v.cells = us.toArray) (hl : us.length = sz) :
  (Instr.buildSlice t 1 #[(0, v)]).run P w = .ok (.slice (some ⟨w.heap.size, 0, none⟩) 1 1) (w.alloc (.cells us.toArray e)) := by
 obtain ⟨inf, z, g1, g2, g3, g4, g5⟩ := hT.el e sz by_ zc he
 refine run_buildSlice w t e 1 _ us.toArray inf z (hT.sl t e ht) g1 g4 (by rw [g2]; omega) (by rw [g2]; omega) ?_
 rw [g2]
 have : ((Array.range (1 * sz)).map fun j => z.cells[j % z.cells.size]!) = (((List.range sz).map fun j => z.cells[j % z.cells.size]!)).toArray := by
  rw [Nat.one_mul]
  apply Array.ext'
  simp
 rw [this, fill_one (off := 0) (sz := sz) (by simp) hv hl (by simp)]
 have h2 : setR 0 us ((List.range sz).map fun j => z.cells[j % z.cells.size]!) = us := by
  unfold setR
  simp [hl]
 rw [h2]
 rfl
theorem run_build0 {t e sz by_ : Nat} {zc : List CV} (hT : TTOk P T) (ht : look T.sl t = some e) (he : look T.el e = some (sz, by_, zc)) :
  (Instr.buildSlice t 0 #[]).run P w = .ok (.slice (some ⟨w.heap.size, 0, none⟩) 0 0) (w.alloc (.cells #[] e)) := by
 obtain ⟨inf, z, g1, g2, g3, g4, g5⟩ := hT.el e sz by_ zc he
 have h0 : (Array.range 0) = #[] := rfl
 simp [Instr.buildSlice, run_underlying (hT.sl t e ht), sizeOf, typeInfo, g1, Instr.fill, newRow, h0]
theorem efg_build0 (hT : TTOk P T) {t e sz by_ d k : Nat} {zc : List CV} (ho : o.op = .buildSlice t 0 #[]) (hd : o.dst = some d) (hn : Nat.blt d nt = true) (ht : look T.sl t = some e) (he : look T.el e = some (sz, by_, zc)) (hsz : Nat.blt 0 sz = true) (hk : lkk σ k = none) :
  EfG P C nt o σ (fun σ' => σ' = { σ with ks := (k, some ⟨false, e, sz, 0, []⟩) :: σ.ks }.put d (.one (.key k))) := EfG.mk fun L a w hr K Q hK => by
 have hpos : 0 < sz := by simpa [Nat.blt_eq] using hsz
 have hchg : Chg [] w (w.alloc (.cells #[] e)) := (Chg.refl [] w).alloc _
 refine wp_new (v := .slice (some ⟨w.heap.size, 0, none⟩) 0 0) (w' := w.alloc (.cells #[] e)) ?_ ?_
 ·unfold execOp
  simp only [ho, List.map_toArray, List.map_nil, run_build0 (P := P) (w := w) hT ht he, Sem.run_bind, Result.andThen_ok, Sem.run_pure]
 ·have hb := hr.newkey' hchg (c := ⟨false, e, sz, 0, []⟩) (v := .slice (some ⟨w.heap.size, 0, none⟩) 0 0) (f := [w.heap.size]) hk
   (by
    unfold Own
    exact ⟨[], [], rfl, hpos, by simp, rowE_of (hT.lt e _ he) ⟨by simp, .inr ⟨w.heap.size, 0, #[], rfl, Nat.zero_le _, alloc_last w _, Nat.le_refl _, Nat.zero_le _, by simp, by simp⟩⟩, by simp [OwnL]⟩) rfl (by simp) (by simp)
  refine hK { L with fp := fun j => if j = k then [w.heap.size] else L.fp j, rv := fun j => if j = k then .slice (some ⟨w.heap.size, 0, none⟩) 0 0 else L.rv j } _ _ _ rfl (by rw [hd]; exact hb.put (v := .one (.key k)) (r := .slice (some ⟨w.heap.size, 0, none⟩) 0 0) (by simpa [Nat.blt_eq] using hn) (by simp [SVr, CVr]) (by simp [SV.keys, CV.keys, lkk, look_cons]) (by simp [SV.boxes])) ⟨hchg, fun i c hc => ?_, fun _ _ _ => rfl⟩
  have : i ≠ k := fun e => by rw [e, hk] at hc; cases hc
  simp [this]
theorem ef_build1 (hT : TTOk P T) {t e sz by_ d k : Nat} {zc : List CV} {v : SV} {p : Bool × List CV} {ds : List DV} {js : List Nat} (ho : o.op = .buildSlice t 1 #[(0, x)]) (hd : o.dst = some d) (hn : Nat.blt d nt = true) (ht : look T.sl t = some e) (he : look T.el e = some (sz, by_, zc)) (hl0 : zc.length = sz) (hsz : Nat.blt 0 sz = true) (hsm : Nat.ble sz 16777216 = true)
  (hx : Ev P C nt σ x v) (hp : v.part = some p) (hkv : svOk σ v = true) (how : OwCs σ p.2 ds js) (hnj : js.Nodup) (hkj : k ∉ js) (hl : p.2.length = sz) (hk : lkk σ k = none) :
  Ef P C nt o σ (fun σ' => σ' = (St.mut { σ with ks := (k, some ⟨false, e, sz, 0, []⟩) :: σ.ks } k js false ⟨false, e, sz, 1, ds⟩).put d (.one (.key k))) := Ef.mk fun L a w hr K Q hK => by
 have hpos : 0 < sz := by simpa [Nat.blt_eq] using hsz
 obtain ⟨us, h1, h2, h3⟩ := sv_cells hr hp hkv (hx.run L a w hr)
 have hus : us.length = sz := by rw [cvL_len h2]; exact hl
 obtain ⟨o1, o2, o3⟩ := owCs_own hr how h2
 have hchg : Chg [] w (w.alloc (.cells us.toArray e)) := (Chg.refl [] w).alloc _
 have hr1 := hr.newkey (k := k) (c := ⟨false, e, sz, 0, []⟩) (v := .slice none 0 0) (f := []) hk (own_nil w e sz hpos) rfl (by simp) (by simp) (by simp) (by simp)
 have hlj : ∀ j ∈ js, (lkk { σ with ks := (k, some ⟨false, e, sz, 0, []⟩) :: σ.ks } j).isSome = true := fun j hj => by
  have hjk : j ≠ k := fun e' => hkj (by rw [← e']; exact hj)
  have := o2 j hj
  simp only [lkk, look_cons, if_neg hjk] at this ⊢
  exact this
 have hlt : ∀ b ∈ js.flatMap L.fp, b < w.heap.size := ownL_lt _ _ _ o1
 have o1' : OwnL (w.alloc (.cells us.toArray e)) ds us (js.flatMap L.fp) := ownL_keep _ _ _ o1 (fun b hb => hchg.block b (hlt b hb) (by simp))
 have hset := hr1.setkey (k := k) (c := ⟨false, e, sz, 0, []⟩) (c' := ⟨false, e, sz, 1, ds⟩) (js := js) (same := false) (w' := w.alloc (.cells us.toArray e)) (v' := .slice (some ⟨w.heap.size, 0, none⟩) 1 1) (f' := w.heap.size :: js.flatMap L.fp)
  (by simp [lkk, look_cons]) hkj (by simpa using hchg)
  (by
   unfold Own
   refine ⟨us, js.flatMap L.fp, rfl, hpos, by rw [o3, hl, Nat.one_mul], rowE_of (hT.lt e _ he) ⟨by rw [hus, Nat.one_mul], .inr ⟨w.heap.size, 1, us.toArray, rfl, Nat.zero_le _, alloc_last w _, Nat.le_refl _, by simp [maxLen], by simp [hus], by rw [Nat.one_mul, ← hus]; simp⟩⟩, o1'⟩)
  (by
   rw [List.nodup_cons]
   exact ⟨fun hm => absurd (hlt _ hm) (by omega), nodup_flat hr hnj o2⟩)
  (fun b hb => by
   rcases List.mem_cons.1 hb with hb | hb
   ·exact .inr (.inr (by omega))
   ·obtain ⟨j, hj, hb'⟩ := List.mem_flatMap.1 hb
    have hjk : j ≠ k := fun e' => hkj (by rw [← e']; exact hj)
    exact .inr (.inl ⟨j, hj, by simpa [hjk] using hb'⟩)) hlj (by simp) (by simp)
 refine wp_new (v := .slice (some ⟨w.heap.size, 0, none⟩) 1 1) (w' := w.alloc (.cells us.toArray e)) ?_ ?_
 ·unfold execOp
  simp only [ho, List.map_toArray, List.map_cons, List.map_nil, run_build1 (P := P) (w := w) hT ht he hl0 hpos (by simpa [Nat.ble_eq] using hsm) h1 hus, Sem.run_bind, Result.andThen_ok, Sem.run_pure]
 ·rw [hd]
  exact hK _ _ _ _ rfl (hset.put (v := .one (.key k)) (r := .slice (some ⟨w.heap.size, 0, none⟩) 1 1) (by simpa [Nat.blt_eq] using hn) (by simp [SVr, CVr]) (by simp [SV.keys, CV.keys, mut_key]) (by simp [SV.boxes]))
/-! over states that are written out -/
section
variable {Q : Exit → St → Prop} {all : Array Oper} {rest : List Oper} {tm : List (Nat × SV)} {bx : List (Nat × TypeId × List CV)} {ks : List (Nat × Option KC)}
theorem o_appV (hT : TTOk P T) {t e sz by_ d k m : Nat} {zc : List CV} {c : KC} {J : List Nat} {e2 : Nat} {ds cs : List DV} (hg : o.guard = none) (hd : o.dst = some d) (ho : o.op = .call { callee := .builtin .append, args := #[x, y], argTypes := #[t, t] }) (hnt : Nat.blt d nt = true) (ht : look T.sl t = some e) (he : look T.el e = some (sz, by_, zc)) (hl0 : zc.length = sz)
  (hx : Ev P C nt ⟨tm, bx, ks⟩ x (.one (.key k))) (hk : lkk ⟨tm, bx, ks⟩ k = some c) (hce : c.e = e) (hcs : c.sz = sz) (hy : Ev P C nt ⟨tm, bx, ks⟩ y (.one (.dv J (.sl e2 sz m ds)))) (hp : ds.all DV.plain = true) (hb : (c.n + m) * by_ ≤ 140737488355328) (h63 : c.n + m ≤ 9223372036854775807) {n : Nat} (hn : c.n + m = n) (hcc : c.cs ++ ds = cs)
  (h : Ops P C nt Q all rest ⟨(d, .one (.key k)) :: killT [k] [k] tm, killB [k] [k] bx, (k, some ⟨false, e, sz, n, cs⟩) :: ks⟩) : Ops P C nt Q all (o :: rest) ⟨tm, bx, ks⟩ :=
 ops_ef1 hg (ef_appV hT ho hd hnt ht he hl0 hx hk hce hcs hy hp hb h63) (by subst hn; subst hcc; exact h)
theorem o_appK (hT : TTOk P T) {t e sz by_ d k j : Nat} {zc : List CV} {c c2 : KC} {cs : List DV} (hg : o.guard = none) (hd : o.dst = some d) (ho : o.op = .call { callee := .builtin .append, args := #[x, y], argTypes := #[t, t] }) (hnt : Nat.blt d nt = true) (ht : look T.sl t = some e) (he : look T.el e = some (sz, by_, zc)) (hl0 : zc.length = sz)
  (hx : Ev P C nt ⟨tm, bx, ks⟩ x (.one (.key k))) (hk : lkk ⟨tm, bx, ks⟩ k = some c) (hce : c.e = e) (hcs : c.sz = sz) (hy : Ev P C nt ⟨tm, bx, ks⟩ y (.one (.key j))) (hj : lkk ⟨tm, bx, ks⟩ j = some c2) (hcs2 : c2.sz = sz) (hkj : k ∉ [j]) (hb : (c.n + c2.n) * by_ ≤ 140737488355328) (h63 : c.n + c2.n ≤ 9223372036854775807) {n : Nat} (hn : c.n + c2.n = n) (hcc : c.cs ++ c2.cs = cs)
  (h : Ops P C nt Q all rest ⟨(d, .one (.key k)) :: killT [k, j] [k, j] tm, killB [k, j] [k, j] bx, (k, some ⟨false, e, sz, n, cs⟩) :: (j, none) :: ks⟩) : Ops P C nt Q all (o :: rest) ⟨tm, bx, ks⟩ :=
 ops_ef1 hg (ef_appK hT ho hd hnt ht he hl0 hx hk hce hcs hy hj hcs2 hkj hb h63) (by subst hn; subst hcc; exact h)
theorem o_build0 (hT : TTOk P T) {t e sz by_ d k : Nat} {zc : List CV} (hg : o.guard = none) (hd : o.dst = some d) (ho : o.op = .buildSlice t 0 #[]) (hn : Nat.blt d nt = true) (ht : look T.sl t = some e) (he : look T.el e = some (sz, by_, zc)) (hsz : Nat.blt 0 sz = true) (hk : lkk ⟨tm, bx, ks⟩ k = none)
  (h : Ops P C nt Q all rest ⟨(d, .one (.key k)) :: tm, bx, (k, some ⟨false, e, sz, 0, []⟩) :: ks⟩) : Ops P C nt Q all (o :: rest) ⟨tm, bx, ks⟩ := ops_ef1 hg (efg_build0 hT ho hd hn ht he hsz hk).ef h
theorem o_build1 (hT : TTOk P T) {t e sz by_ d k : Nat} {zc : List CV} {v : SV} {p : Bool × List CV} {ds : List DV} {js : List Nat} (hg : o.guard = none) (hd : o.dst = some d) (ho : o.op = .buildSlice t 1 #[(0, x)]) (hn : Nat.blt d nt = true) (ht : look T.sl t = some e) (he : look T.el e = some (sz, by_, zc)) (hl0 : zc.length = sz) (hsz : Nat.blt 0 sz = true) (hsm : Nat.ble sz 16777216 = true)
  (hx : Ev P C nt ⟨tm, bx, ks⟩ x v) (hp : v.part = some p) (hkv : svOk ⟨tm, bx, ks⟩ v = true) (how : OwCs ⟨tm, bx, ks⟩ p.2 ds js) (hnj : js.Nodup) (hkj : k ∉ js) (hl : p.2.length = sz) (hk : lkk ⟨tm, bx, ks⟩ k = none)
  (h : Ops P C nt Q all rest ⟨(d, .one (.key k)) :: killT (k :: js) (k :: js) tm, killB (k :: js) (k :: js) bx, (k, some ⟨false, e, sz, 1, ds⟩) :: ((js.map fun j => (j, none)) ++ (k, some ⟨false, e, sz, 0, []⟩) :: ks)⟩) : Ops P C nt Q all (o :: rest) ⟨tm, bx, ks⟩ :=
 ops_ef1 hg (ef_build1 hT ho hd hn ht he hl0 hsz hsm hx hp hkv how hnj hkj hl hk) h
end
end
end Go.Proofs.YtcgmpjedhbhplaaGreat

namespace Go.Proofs.YtcgmpjedhbhplaaGreat
open Go.RowKit
set_option linter.unusedVariables false
set_option linter.unusedSimpArgs false

def bCheck (P : Program) (T : List (Nat × List (Nat × Nat))) : Bool := T.all fun p => match P.underlying p.1 with
 | some (.struct fs) => (fs.toList.map fun f => (f.offset, (P.info? f.type).map (·.size))) == p.2.map fun q => (q.1, some q.2)
 | _ => false
structure BOk (P : Program) (T : List (Nat × List (Nat × Nat))) : Prop where
 bs : ∀ t pl, look T t = some pl → ∃ fs, P.underlying t = some (.struct fs) ∧ (fs.toList.map fun f => (f.offset, (P.info? f.type).map (·.size))) = pl.map fun q => (q.1, some q.2)
theorem bOk {P : Program} {T : List (Nat × List (Nat × Nat))} (h : bCheck P T = true) : BOk P T := by
 refine ⟨fun t pl hl => ?_⟩
 have := List.all_eq_true.1 h _ (look_mem hl)
 dsimp only at this
 split at this
 ·rename_i fs hfs; exact ⟨fs, hfs, by simpa using this⟩
 ·cases this
section
variable {P : Program} {C : Ctx} {nt : Nat} {σ : St} {L : Lyt} {a : Act} {w : World} {o : Oper} {x y : Operand} {T : TT} {B : List (Nat × List (Nat × Nat))}
theorem run_mapR {α β : Type} {g : α → Sem β} {q : α → β} : ∀ {xs : List α}, (∀ x ∈ xs, (g x).run P w = .ok (q x) w) → (xs.mapM g).run P w = .ok (xs.map q) w
 | [], _ => by simp only [List.mapM_nil, Sem.run_pure, List.map_nil]
 | x :: xs, h => by
  have ih := run_mapR (xs := xs) (fun y hy => h y (by simp [hy]))
  rw [List.mapM_cons]
  simp only [Sem.run_bind, h x (by simp), ih, Result.andThen_ok, Sem.run_pure, List.map_cons]
theorem run_mapA {α β : Type} {g : α → Sem β} {q : α → β} {xs : Array α} (h : ∀ x ∈ xs.toList, (g x).run P w = .ok (q x) w) : (xs.mapM g).run P w = .ok (xs.toList.map q).toArray w := by
 rw [Array.mapM_eq_mapM_toList, map_eq_pure_bind, Sem.run_bind, run_mapR h]
 simp only [Result.andThen_ok, Sem.run_pure]
def BParts (P : Program) (C : Ctx) (nt : Nat) (σ : St) (pl : List (Nat × Nat)) : List (Nat × Operand) → List CV → List CV → Prop
 | [], acc, res => acc = res
 | (i, x) :: ps, acc, res => ∃ v p off sz, Ev P C nt σ x v ∧ v.part = some p ∧ svOk σ v = true ∧ pl[i]? = some (off, sz) ∧ p.2.length = sz ∧ off + sz ≤ acc.length ∧ BParts P C nt σ pl ps (setR off p.2 acc) res
theorem bp_nil {pl : List (Nat × Nat)} {cs : List CV} : BParts P C nt σ pl [] cs cs := rfl
theorem bp_cons {pl : List (Nat × Nat)} {i off sz : Nat} {v : SV} {p : Bool × List CV} {ps : List (Nat × Operand)} {acc res : List CV} (hx : Ev P C nt σ x v) (hp : v.part = some p) (hk : svOk σ v = true) (hi : pl[i]? = some (off, sz)) (hl : p.2.length = sz) (hle : Nat.ble (off + sz) acc.length = true)
  (h : BParts P C nt σ pl ps (setR off p.2 acc) res) : BParts P C nt σ pl ((i, x) :: ps) acc res := ⟨v, p, off, sz, hx, hp, hk, hi, hl, by simpa [Nat.ble_eq] using hle, h⟩
theorem fill_parts (hr : Rel P C nt L σ a w) {pl : List (Nat × Nat)} : ∀ {ps : List (Nat × Operand)} {acc res : List CV} {us : List Value}, BParts P C nt σ pl ps acc res → CVL C L w acc us →
  ∃ vs, Instr.fill (fun i => pl.toArray[i]?) us.toArray (ps.map fun q => (q.1, a.eval q.2)) = some vs.toArray ∧ CVL C L w res vs
 | [], acc, res, us, h, hu => by simp only [BParts] at h; subst h; exact ⟨us, rfl, hu⟩
 | (i, x) :: ps, acc, res, us, ⟨v, p, off, sz, h1, h2, h3, h4, h5, h6, h7⟩, hu => by
  obtain ⟨xs, k1, k2, k3⟩ := sv_cells hr h2 h3 (h1.run L a w hr)
  obtain ⟨vs, g1, g2⟩ := fill_parts hr h7 (cvL_setR off hu k2)
  refine ⟨vs, ?_, g2⟩
  rw [List.map_cons, fill_one (off := off) (sz := sz) (by simpa using h4) k1 (by rw [cvL_len k2]; exact h5) (by rw [cvL_len hu]; exact h6)]
  exact g1
theorem pu_build (hT : TTOk P T) (hB : BOk P B) {t sz by_ : Nat} {zc cs : List CV} {pl : List (Nat × Nat)} {ps : List (Nat × Operand)} (ho : o.op = .build t ps.toArray) (ht : look T.el t = some (sz, by_, zc)) (hb : look B t = some pl) (h : BParts P C nt σ pl ps zc cs) : Pu P C nt o σ (.agg cs) [] [] := Pu.mk fun L a w hr => by
 obtain ⟨inf, z, g1, g2, g3, g4, g5⟩ := hT.el t sz by_ zc ht
 obtain ⟨c1, _, _⟩ := zL_cv (C := C) (L := L) (w := w) g5
 obtain ⟨fs, f1, f2⟩ := hB.bs t pl hb
 obtain ⟨vs, k1, k2⟩ := fill_parts hr h c1
 refine ⟨.agg vs.toArray, by simp only [SVr]; exact ⟨vs, rfl, k2⟩, fun w' _ => ?_⟩
 have hsz : ∀ f ∈ fs.toList, ∃ i, P.info? f.type = some i := fun f hf => by
  have : (f.offset, (P.info? f.type).map (·.size)) ∈ pl.map fun q => (q.1, some q.2) := by rw [← f2]; exact List.mem_map.2 ⟨f, hf, rfl⟩
  obtain ⟨q, _, hq⟩ := List.mem_map.1 this
  simp only [Prod.mk.injEq] at hq
  cases hi : P.info? f.type with
  | none => rw [hi] at hq; cases hq.2
  | some i => exact ⟨i, rfl⟩
 have hpl : (fs.toList.map fun f => (f.offset, ((P.info? f.type).map (·.size)).getD 0)) = pl := by
  have h2 := congrArg (List.map fun q : Nat × Option Nat => (q.1, q.2.getD 0)) f2
  simp only [List.map_map, Function.comp_def, Option.getD_some] at h2
  simpa using h2
 have hm : ∀ g : Field → Sem (Nat × Nat), (∀ f, g f = (do pure (f.offset, ← sizeOf f.type))) → (fs.mapM g).run P w' = .ok pl.toArray w' := fun g hg => by
  rw [run_mapA (q := fun f => (f.offset, ((P.info? f.type).map (·.size)).getD 0)) (fun f hf => by
   obtain ⟨i, hi⟩ := hsz f hf
   rw [hg f]
   simp [sizeOf, typeInfo, hi]), hpl]
 have hz : z.cells = z.cells.toList.toArray := by simp
 have hps : (Array.map (fun q => (q.1, a.eval q.2)) ps.toArray).toList = ps.map fun q => (q.1, a.eval q.2) := by simp
 unfold execOp
 simp only [ho, Instr.build, zeroValue, typeInfo, Sem.run_bind, run_program, g1, g4, Result.andThen_ok, Sem.run_pure, run_underlying f1, hm _ (fun _ => rfl), hps]
 rw [hz, k1]
 simp
theorem pu_sadd {t ty : TypeId} {K J : List Nat} {m n : ByteArray} (ho : o.op = .binOp .add t x y ty) (hx : Ev P C nt σ x (.one (.dv K (.str m)))) (hy : Ev P C nt σ y (.one (.dv J (.str n)))) (h : m.size + n.size ≤ 9223372036854775807) : Pu P C nt o σ (.one (.dv [] (.str (m ++ n)))) [] [] :=
 pu_str ho hx hy ⟨.string (m ++ n), fun ok w => by
  unfold Lay
  exact ⟨rfl, by rw [ByteArray.size_append]; exact h⟩, fun w => by
  have : ¬ (((m.size + n.size : Nat) : Int) > IntKind.i64.max) := by
   have e : IntKind.i64.max = 9223372036854775807 := rfl
   rw [e]; omega
  unfold Op.stringOp
  simp only [if_neg this, Sem.run_pure]⟩ ⟨by simp, by simp⟩
end
end Go.Proofs.YtcgmpjedhbhplaaGreat

namespace Go.Proofs.YtcgmpjedhbhplaaGreat
open Go.RowKit
set_option linter.unusedVariables false
set_option linter.unusedSimpArgs false

section
variable {P : Program} {C : Ctx} {nt : Nat} {L : Lyt} {σ : St} {a : Act} {w w' : World}
def St.muts (σ : St) (ups : List (Nat × KC × List Nat)) : St :=
 ⟨killT (ups.map (·.1)) [] σ.tm, killB (ups.map (·.1)) [] σ.bx, (ups.map fun u => (u.1, some u.2.1)) ++ σ.ks⟩
def newFp (L : Lyt) (ups : List (Nat × KC × List Nat)) (i : Nat) : List Nat := match look ups i with
 | some u => u.2
 | none => L.fp i
theorem look_none {α : Type} {l : List (Nat × α)} {i : Nat} : look l i = none ↔ i ∉ l.map (·.1) := by
 induction l with
 | nil => simp [look]
 | cons p l ih =>
  obtain ⟨k, v⟩ := p
  rw [look_cons]
  by_cases h : i = k
  ·simp [h]
  ·simp only [if_neg h, ih, List.map_cons, List.mem_cons, not_or]
   exact ⟨fun h' => ⟨h, h'⟩, fun h' => h'.2⟩
theorem lkk_muts {ups : List (Nat × KC × List Nat)} (i : Nat) : lkk (σ.muts ups) i = match look ups i with | some u => some u.1 | none => lkk σ i := by
 simp only [lkk, St.muts]
 rw [look_append, look_map (fun u : KC × List Nat => some u.1) ups i]
 cases look ups i with
 | none => simp
 | some u => simp
theorem Rel.setkeys (h : Rel P C nt L σ a w) {ups : List (Nat × KC × List Nat)} (hc : Chg (ups.flatMap fun u => L.fp u.1) w w')
  (hu : ∀ i u, look ups i = some u → ∃ c, lkk σ i = some c ∧ Own w' (.sl u.1.e u.1.sz u.1.n u.1.cs) (L.rv i) u.2 ∧ u.2.Nodup ∧ (∀ b ∈ u.2, (b ∈ ups.flatMap fun u => L.fp u.1) ∨ w.heap.size ≤ b) ∧ (u.1.h = true → c.h = true))
  (hd : ∀ i j u v, look ups i = some u → look ups j = some v → i ≠ j → ∀ b ∈ u.2, b ∉ v.2) :
  Rel P C nt { L with fp := newFp L ups } (σ.muts ups) a w' := by
 have hin : ∀ p ∈ ups, ∃ u, look ups p.1 = some u := fun p hp => by
  cases hq : look ups p.1 with
  | none => exact absurd (List.mem_map.2 ⟨p, hp, rfl⟩) (look_none.1 hq)
  | some u => exact ⟨u, rfl⟩
 have hout : ∀ i c, lkk σ i = some c → look ups i = none → ∀ b ∈ L.fp i, b ∉ ups.flatMap fun u => L.fp u.1 := fun i c hi hn b hb hm => by
  obtain ⟨p, hp, hb'⟩ := List.mem_flatMap.1 hm
  obtain ⟨u, hu'⟩ := hin p hp
  obtain ⟨c', hc', _⟩ := hu p.1 u hu'
  have hne : i ≠ p.1 := fun e => by rw [e, hu'] at hn; cases hn
  exact h.kk i p.1 c c' hi hc' hne b hb hb'
 have hfr : ∀ b ∈ ups.flatMap fun u => L.fp u.1, fresh C b := fun b hm => by
  obtain ⟨p, hp, hb'⟩ := List.mem_flatMap.1 hm
  obtain ⟨u, hu'⟩ := hin p hp
  obtain ⟨c', hc', _⟩ := hu p.1 u hu'
  exact h.k1 p.1 c' hc' b hb'
 have hnf : ∀ i, look ups i = none → newFp L ups i = L.fp i := fun i hi => by simp only [newFp, hi]
 have hnf' : ∀ i u, look ups i = some u → newFp L ups i = u.2 := fun i u hi => by simp only [newFp, hi]
 have hK : KillOk C L { L with fp := newFp L ups } w w' (fun i => (lkk σ i).isSome = true) (ups.map (·.1)) [] := {
  key := fun i hi hv => by
   have hn := look_none.2 hv
   obtain ⟨d, hd'⟩ := Option.isSome_iff_exists.1 hi
   exact ⟨hnf i hn, fun b hb hlt => hc.block b hlt (hout i d hd' hn b hb)⟩
  root := fun i _ _ => rfl
  sub := fun i _ hr => by simp at hr
  old := fun b hb hs0 => hc.block b (Nat.lt_of_lt_of_le hb h.chg.size) (fun hm => by
   rcases hfr b hm with h1 | h1
   ·omega
   ·exact hs0 h1) }
 have hcase : ∀ i d, lkk (σ.muts ups) i = some d → (∃ u, look ups i = some u ∧ d = u.1) ∨ (look ups i = none ∧ lkk σ i = some d) := fun i d hd' => by
  rw [lkk_muts] at hd'
  cases hq : look ups i with
  | none => rw [hq] at hd'; exact .inr ⟨rfl, hd'⟩
  | some u => rw [hq] at hd'; exact .inl ⟨u, rfl, (Option.some.inj hd').symm⟩
 have hlive : ∀ i, (lkk σ i).isSome = true → (lkk (σ.muts ups) i).isSome = true := fun i hi => by
  rw [lkk_muts]
  cases look ups i with
  | none => exact hi
  | some u => rfl
 have hbx : ∀ i t cs, look (killB (ups.map (·.1)) [] σ.bx) i = some (t, cs) → ∃ cs0, look σ.bx i = some (t, cs0) ∧ cs = cs0.map (CV.kill (ups.map (·.1)) []) := fun i t cs hx => by
  have := look_map (fun q : TypeId × List CV => (q.1, q.2.map (CV.kill (ups.map (·.1)) []))) σ.bx i
  change look (killB (ups.map (·.1)) [] σ.bx) i = _ at this
  rw [this] at hx
  cases hy : look σ.bx i with
  | none => rw [hy] at hx; cases hx
  | some q =>
   rw [hy] at hx
   simp only [Option.map_some, Option.some.injEq, Prod.mk.injEq] at hx
   exact ⟨q.2, by rw [← hx.1], hx.2.symm⟩
 have hbx' : ∀ i, (look σ.bx i).isSome = true → (look (killB (ups.map (·.1)) [] σ.bx) i).isSome = true := fun i hi => by
  have := look_map (fun q : TypeId × List CV => (q.1, q.2.map (CV.kill (ups.map (·.1)) []))) σ.bx i
  change look (killB (ups.map (·.1)) [] σ.bx) i = _ at this
  rw [this]
  simpa using hi
 have hbb : ∀ i x, look (killB (ups.map (·.1)) [] σ.bx) i = some x → ∃ y, look σ.bx i = some y := fun i x hx => by
  obtain ⟨cs0, h1, _⟩ := hbx i x.1 x.2 hx
  exact ⟨_, h1⟩
 exact {
  df := h.df, sz := h.sz
  tm := fun i u hu' => by
   have := look_map (SV.kill (ups.map (·.1)) []) σ.tm i
   change look (killT (ups.map (·.1)) [] σ.tm) i = _ at this
   change look (killT (ups.map (·.1)) [] σ.tm) i = some u at hu'
   rw [this] at hu'
   cases hy : look σ.tm i with
   | none => rw [hy] at hu'; cases hu'
   | some v =>
    rw [hy] at hu'
    simp only [Option.map_some, Option.some.injEq] at hu'
    subst hu'
    exact sv_kill h hK rfl (fun j hj => h.lk j (tk_tm hy j hj)) (h.tm i v hy)
  bx := fun i t cs hx => by
   obtain ⟨cs0, h1, rfl⟩ := hbx i t cs hx
   obtain ⟨us, h2, h3⟩ := h.bx i t cs0 h1
   have hl' : ∀ j ∈ cs0.flatMap CV.keys, (lkk σ j).isSome = true := fun j hj => h.lk j (tk_bx h1 j hj)
   refine ⟨us, (hc.block _ (heap_lt h2) (fun hm => ?_)).trans h2, (cvL_kill hK hl' (cvL_cells h hl' h3) h3).1⟩
   obtain ⟨p, hp, hb'⟩ := List.mem_flatMap.1 hm
   obtain ⟨u, hu'⟩ := hin p hp
   obtain ⟨c', hc', _⟩ := hu p.1 u hu'
   exact h.bk i p.1 _ c' h1 hc' hb'
  ks := fun i d hd' => by
   rcases hcase i d hd' with ⟨u, h1, rfl⟩ | ⟨h1, h2⟩
   ·obtain ⟨c, k1, k2, k3, k4, k5⟩ := hu i u h1
    rw [show ({ L with fp := newFp L ups } : Lyt).fp i = u.2 from hnf' i u h1]
    exact ⟨k2, fun e => (h.ks i c k1).2 (k5 e)⟩
   ·rw [show ({ L with fp := newFp L ups } : Lyt).fp i = L.fp i from hnf i h1]
    exact ⟨own_keep _ _ _ (h.ks i d h2).1 (fun b hb => hc.block b (h.k_lt h2 b hb) (hout i d h2 h1 b hb)), (h.ks i d h2).2⟩
  b1 := fun i x hx => by obtain ⟨y, hy⟩ := hbb i x hx; exact h.b1 i y hy
  k1 := fun i d hd' b hb => by
   rcases hcase i d hd' with ⟨u, h1, rfl⟩ | ⟨h1, h2⟩
   ·obtain ⟨c, k1, k2, k3, k4, k5⟩ := hu i u h1
    rw [show ({ L with fp := newFp L ups } : Lyt).fp i = u.2 from hnf' i u h1] at hb
    rcases k4 b hb with h3 | h3
    ·exact hfr b h3
    ·exact .inl (Nat.le_trans h.chg.size h3)
   ·rw [show ({ L with fp := newFp L ups } : Lyt).fp i = L.fp i from hnf i h1] at hb
    exact h.k1 i d h2 b hb
  kn := fun i d hd' => by
   rcases hcase i d hd' with ⟨u, h1, rfl⟩ | ⟨h1, h2⟩
   ·rw [show ({ L with fp := newFp L ups } : Lyt).fp i = u.2 from hnf' i u h1]
    obtain ⟨c, k1, k2, k3, k4, k5⟩ := hu i u h1
    exact k3
   ·rw [show ({ L with fp := newFp L ups } : Lyt).fp i = L.fp i from hnf i h1]
    exact h.kn i d h2
  bb := fun i j x y hx hy => by
   obtain ⟨x', hx'⟩ := hbb i x hx
   obtain ⟨y', hy'⟩ := hbb j y hy
   exact h.bb i j x' y' hx' hy'
  bk := fun i j x d hx hd' hm => by
   obtain ⟨x', hx'⟩ := hbb i x hx
   rcases hcase j d hd' with ⟨u, h1, rfl⟩ | ⟨h1, h2⟩
   ·rw [show ({ L with fp := newFp L ups } : Lyt).fp j = u.2 from hnf' j u h1] at hm
    obtain ⟨c, k1, k2, k3, k4, k5⟩ := hu j u h1
    rcases k4 _ hm with h3 | h3
    ·obtain ⟨p, hp, hb'⟩ := List.mem_flatMap.1 h3
     obtain ⟨u', hu'⟩ := hin p hp
     obtain ⟨c', hc', _⟩ := hu p.1 u' hu'
     exact h.bk i p.1 x' c' hx' hc' hb'
    ·have := h.bx_lt hx'
     have e : ({ L with fp := newFp L ups } : Lyt).bb i = L.bb i := rfl
     omega
   ·rw [show ({ L with fp := newFp L ups } : Lyt).fp j = L.fp j from hnf j h1] at hm
    exact h.bk i j x' d hx' h2 hm
  kk := fun i j x y hx hy hij b hb hm => by
   rcases hcase i x hx with ⟨u, h1, rfl⟩ | ⟨h1, h2⟩ <;> rcases hcase j y hy with ⟨v, h3, rfl⟩ | ⟨h3, h4⟩
   ·rw [show ({ L with fp := newFp L ups } : Lyt).fp i = u.2 from hnf' i u h1] at hb
    rw [show ({ L with fp := newFp L ups } : Lyt).fp j = v.2 from hnf' j v h3] at hm
    exact hd i j u v h1 h3 hij b hb hm
   ·rw [show ({ L with fp := newFp L ups } : Lyt).fp i = u.2 from hnf' i u h1] at hb
    rw [show ({ L with fp := newFp L ups } : Lyt).fp j = L.fp j from hnf j h3] at hm
    obtain ⟨c, k1, k2, k3, k4, k5⟩ := hu i u h1
    rcases k4 b hb with h5 | h5
    ·exact hout j y h4 h3 b hm h5
    ·have := h.k_lt h4 b hm; omega
   ·rw [show ({ L with fp := newFp L ups } : Lyt).fp i = L.fp i from hnf i h1] at hb
    rw [show ({ L with fp := newFp L ups } : Lyt).fp j = v.2 from hnf' j v h3] at hm
    obtain ⟨c, k1, k2, k3, k4, k5⟩ := hu j v h3
    rcases k4 b hm with h5 | h5
    ·exact hout i x h2 h1 b hb h5
    ·have := h.k_lt h2 b hb; omega
   ·rw [show ({ L with fp := newFp L ups } : Lyt).fp i = L.fp i from hnf i h1] at hb
    rw [show ({ L with fp := newFp L ups } : Lyt).fp j = L.fp j from hnf j h3] at hm
    exact h.kk i j x y h2 h4 hij b hb hm
  lk := fun i hi => by
   simp only [St.tk, St.muts, List.mem_append, List.mem_flatMap] at hi
   rcases hi with ⟨p, hp, hi⟩ | ⟨p, hp, hi⟩
   ·obtain ⟨q, hq, rfl⟩ := List.mem_map.1 hp
    obtain ⟨g1, _⟩ := (kill_keysS hK.sub q.2).1 i hi
    exact hlive i (h.lk i (by simp only [St.tk, List.mem_append, List.mem_flatMap]; exact .inl ⟨q, hq, g1⟩))
   ·obtain ⟨q, hq, rfl⟩ := List.mem_map.1 hp
    obtain ⟨g1, _⟩ := kill_keysL hK.sub q.2.2 i (List.mem_flatMap.2 (by simpa using hi))
    exact hlive i (h.lk i (by simp only [St.tk, List.mem_append, List.mem_flatMap]; exact .inr ⟨q, hq, by simpa using g1⟩))
  lb := fun b hb => by
   simp only [St.tb, St.muts, List.mem_flatMap] at hb
   obtain ⟨p, hp, hb⟩ := hb
   obtain ⟨q, hq, rfl⟩ := List.mem_map.1 hp
   have := List.all_eq_true.1 (kill_keysS hK.sub q.2).2 b hb
   exact hbx' b (h.lb b (by simp only [St.tb, List.mem_flatMap]; exact ⟨q, hq, by simpa using this⟩))
  s0 := h.s0
  chg := h.chg.andThen hc (fun x hx => (hfr x hx).symm) }
/-! ### calls that write what they are handed -/
def ArgWc (km : List (Nat × Nat)) : CV → CV → Prop
 | .key k, u => ∃ i, look km i = some k ∧ u = .key i
 | .dv _ d, u => d.plain = true ∧ u = .dv [] d
 | _, _ => False
def ArgWcs (km : List (Nat × Nat)) : List CV → List CV → Prop
 | [], us => us = []
 | c :: cs, us => ∃ u us', us = u :: us' ∧ ArgWc km c u ∧ ArgWcs km cs us'
def ArgW (km : List (Nat × Nat)) : SV → SV → Prop
 | .one c, u => ∃ c', ArgWc km c c' ∧ u = .one c'
 | .agg cs, u => ∃ cs', ArgWcs km cs cs' ∧ u = .agg cs'
 | _, _ => False
def ArgWs (P : Program) (C : Ctx) (nt : Nat) (σ : St) (km : List (Nat × Nat)) : List Operand → List SV → Prop
 | [], us => us = []
 | x :: xs, us => ∃ v u us', us = u :: us' ∧ Ev P C nt σ x v ∧ ArgW km v u ∧ ArgWs P C nt σ km xs us'
structure WFn (P : Program) (f : FuncId) (us : List SV) (X : SV) (ks0 ks1 : List (Nat × KC)) : Prop where
 ok : FnOk P f [] (ks0.map fun q => (q.1, some q.2)) us fun v σ' => v = X ∧ ∀ i c, look ks1 i = some c → lkk σ' i = some c
def wLyt (L : Lyt) (km : List (Nat × Nat)) : Lyt := { L with fp := fun i => match look km i with | some k => L.fp k | none => [], rv := fun i => match look km i with | some k => L.rv k | none => .bool false }
theorem plain_layW {ok ok' : Nat → Prop} {w w' : World} {d : DV} {v : Value} (hp : d.plain = true) (h : Lay ok w d v) : Lay ok' w' d v :=
 own_lay _ _ _ (lay_plain hp h) (fun b hb => by simp at hb)
theorem argWc_lay {km : List (Nat × Nat)} {C' : Ctx} {c u : CV} {v : Value} (h : ArgWc km c u) (hv : CVr C L w c v) : CVr C' (wLyt L km) w u v ∧ (∀ j ∈ u.keys, (look km j).isSome = true) := by
 cases c with
 | dv K d =>
  simp only [ArgWc] at h
  obtain ⟨h1, rfl⟩ := h
  exact ⟨plain_layW h1 hv, by simp [CV.keys]⟩
 | key k =>
  simp only [ArgWc] at h
  obtain ⟨i, h1, rfl⟩ := h
  simp only [CVr] at hv ⊢
  exact ⟨by simp only [wLyt, h1]; exact hv, by simp [CV.keys, h1]⟩
 | _ => simp [ArgWc] at h
theorem argWcs_lay {km : List (Nat × Nat)} {C' : Ctx} : ∀ {cs us : List CV} {vs : List Value}, ArgWcs km cs us → CVL C L w cs vs → CVL C' (wLyt L km) w us vs ∧ (∀ j ∈ us.flatMap CV.keys, (look km j).isSome = true)
 | [], _, _, h, hv => by simp only [ArgWcs] at h; subst h; exact ⟨hv, by simp⟩
 | c :: cs, _, _, ⟨u, us', e, h1, h2⟩, ⟨v, vs', e', h3, h4⟩ => by
  subst e; subst e'
  obtain ⟨g1, g2⟩ := argWc_lay (C' := C') h1 h3
  obtain ⟨k1, k2⟩ := argWcs_lay (C' := C') h2 h4
  refine ⟨⟨v, vs', rfl, g1, k1⟩, fun j hj => ?_⟩
  simp only [List.flatMap_cons, List.mem_append] at hj
  rcases hj with hj | hj
  ·exact g2 j hj
  ·exact k2 j hj
theorem argW_lay {km : List (Nat × Nat)} {C' : Ctx} {v u : SV} {r : Value} (h : ArgW km v u) (hv : SVr P C L w v r) : SVr P C' (wLyt L km) w u r ∧ (∀ j ∈ u.keys, (look km j).isSome = true) ∧ u.boxes = [] := by
 cases v with
 | one c =>
  simp only [ArgW] at h
  obtain ⟨c', h1, rfl⟩ := h
  simp only [SVr] at hv ⊢
  obtain ⟨g1, g2⟩ := argWc_lay (C' := C') h1 hv
  exact ⟨g1, g2, rfl⟩
 | agg cs =>
  simp only [ArgW] at h
  obtain ⟨cs', h1, rfl⟩ := h
  simp only [SVr] at hv ⊢
  obtain ⟨vs, e, h2⟩ := hv
  obtain ⟨g1, g2⟩ := argWcs_lay (C' := C') h1 h2
  exact ⟨⟨vs, e, g1⟩, g2, rfl⟩
 | _ => simp [ArgW] at h
theorem argWs_lay (hr : Rel P C nt L σ a w) {km : List (Nat × Nat)} {C' : Ctx} : ∀ {xs : List Operand} {us : List SV}, ArgWs P C nt σ km xs us →
  us.length = xs.length ∧ (∀ (i : Nat) u, us[i]? = some u → ∃ x, xs[i]? = some x ∧ SVr P C' (wLyt L km) w u (a.eval x) ∧ (∀ j ∈ u.keys, (look km j).isSome = true) ∧ u.boxes = [])
 | [], _, h => by simp only [ArgWs] at h; subst h; exact ⟨rfl, fun i u hu => by simp at hu⟩
 | x :: xs, _, ⟨v, u, us', e, h1, h2, h3⟩ => by
  subst e
  obtain ⟨k1, k2⟩ := argWs_lay (C' := C') hr h3
  refine ⟨by simp [k1], fun i u' hu => ?_⟩
  cases i with
  | zero =>
   simp only [List.getElem?_cons_zero, Option.some.injEq] at hu
   subst hu
   exact ⟨x, rfl, argW_lay (C' := C') h2 (h1.run L a w hr)⟩
  | succ i => simpa using k2 i u' (by simpa using hu)
@[reducible] def itK (it : List (Nat × Nat × KC × KC)) : List (Nat × Nat) := it.map fun q => (q.1, q.2.1)
@[reducible] def it0 (it : List (Nat × Nat × KC × KC)) : List (Nat × KC) := it.map fun q => (q.1, { q.2.2.1 with h := true })
@[reducible] def it1 (it : List (Nat × Nat × KC × KC)) : List (Nat × KC) := it.map fun q => (q.1, { q.2.2.2 with h := true })
theorem look_it {β : Type} (g : Nat × KC × KC → β) : ∀ {it : List (Nat × Nat × KC × KC)} {i : Nat} {v : β}, look (it.map fun q => (q.1, g q.2)) i = some v → ∃ q, look it i = some q ∧ v = g q := fun {it i v} h => by
 rw [look_map g it i] at h
 cases hq : look it i with
 | none => rw [hq] at h; cases h
 | some q => rw [hq] at h; exact ⟨q, rfl, (Option.some.inj h).symm⟩
theorem look_itS {β : Type} (g : Nat × KC × KC → β) {it : List (Nat × Nat × KC × KC)} {i : Nat} {q : Nat × KC × KC} (h : look it i = some q) : look (it.map fun q => (q.1, g q.2)) i = some (g q) := by
 rw [look_map g it i, h]; rfl
theorem rel_enterW (hr : Rel P C nt L σ a w) {it : List (Nat × Nat × KC × KC)} {us : List SV} {vs : List Value} (hl : vs.length = us.length) (hlive : ∀ i q, look it i = some q → lkk σ q.1 = some q.2.1) (hmem : ∀ q ∈ it, look it q.1 = some q.2) (hinj : ∀ i j q r, look it i = some q → look it j = some r → q.1 = r.1 → i = j)
  (h : ∀ (i : Nat) u, us[i]? = some u → ∃ x, vs[i]? = some x ∧ SVr P ⟨w, it.flatMap fun q => L.fp q.2.1, (wLyt L (itK it)).rv⟩ (wLyt L (itK it)) w u x ∧ (∀ j ∈ u.keys, (look (itK it) j).isSome = true) ∧ u.boxes = []) :
  Rel P ⟨w, it.flatMap fun q => L.fp q.2.1, (wLyt L (itK it)).rv⟩ us.length (wLyt L (itK it)) ⟨enumS 0 us, [], (it0 it).map fun q => (q.1, some q.2)⟩ ⟨vs.toArray, []⟩ w := by
 have hlk : ∀ i c, lkk ⟨enumS 0 us, [], (it0 it).map fun q => (q.1, some q.2)⟩ i = some c → ∃ q, look it i = some q ∧ c = { q.2.1 with h := true } := fun i c hc => by
  simp only [lkk] at hc
  rw [look_map (fun q : KC => some q) (it0 it) i] at hc
  cases hq : look (it0 it) i with
  | none => rw [hq] at hc; cases hc
  | some d =>
   rw [hq] at hc
   obtain ⟨q, h1, h2⟩ := look_it (fun q => { q.2.1 with h := true }) hq
   exact ⟨q, h1, by rw [← h2]; exact (Option.some.inj hc).symm⟩
 have hfp : ∀ i q, look it i = some q → (wLyt L (itK it)).fp i = L.fp q.1 ∧ (wLyt L (itK it)).rv i = L.rv q.1 := fun i q hq => by
  have : look (itK it) i = some q.1 := look_itS (fun q => q.1) hq
  simp only [wLyt, this]; exact ⟨trivial, trivial⟩
 have hmem' : ∀ i q, look it i = some q → ∀ b ∈ L.fp q.1, b ∈ it.flatMap fun q => L.fp q.2.1 := fun i q hq b hb => List.mem_flatMap.2 ⟨(i, q), look_mem hq, hb⟩
 have hb0 : ∀ u ∈ us, u.boxes = [] := fun u hu => by
  obtain ⟨i, hi⟩ := List.mem_iff_getElem?.1 hu
  obtain ⟨_, _, _, _, h4⟩ := h i u hi
  exact h4
 have hkeys : ∀ p ∈ enumS 0 us, (∀ j ∈ p.2.keys, (look (itK it) j).isSome = true) ∧ p.2.boxes = [] := fun p hp => by
  have key : ∀ (us' : List SV) (n : Nat), (∀ u ∈ us', (∀ j ∈ u.keys, (look (itK it) j).isSome = true) ∧ u.boxes = []) → ∀ p ∈ enumS n us', (∀ j ∈ p.2.keys, (look (itK it) j).isSome = true) ∧ p.2.boxes = [] := fun us' => by
   induction us' with
   | nil => intro n _ p hp; simp [enumS] at hp
   | cons u us' ih =>
    intro n hu p hp
    simp only [enumS, List.mem_cons] at hp
    rcases hp with rfl | hp
    ·exact hu u (by simp)
    ·exact ih (n + 1) (fun v hv => hu v (by simp [hv])) p hp
  exact key us 0 (fun u hu => by
   obtain ⟨i, hi⟩ := List.mem_iff_getElem?.1 hu
   obtain ⟨_, _, _, h3, h4⟩ := h i u hi
   exact ⟨h3, h4⟩) p hp
 exact {
  df := rfl
  sz := by simp [hl]
  tm := fun i v hv => by
   obtain ⟨_, h4⟩ := enumS_look us 0 i v hv
   obtain ⟨x, h5, h6, _⟩ := h i v (by simpa using h4)
   have : vs.toArray.getD i undef = x := by simp [Array.getD_eq_getD_getElem?, h5]
   rw [this]; exact h6
  bx := fun i t cs h => by cases h
  ks := fun k c hc => by
   obtain ⟨q, h1, rfl⟩ := hlk k c hc
   obtain ⟨f1, f2⟩ := hfp k q h1
   rw [f1, f2]
   exact ⟨(hr.ks q.1 q.2.1 (hlive k q h1)).1, fun _ => f2.symm⟩
  b1 := fun i x h => by cases h
  k1 := fun k c hc b hb => by
   obtain ⟨q, h1, rfl⟩ := hlk k c hc
   rw [(hfp k q h1).1] at hb
   exact .inr (hmem' k q h1 b hb)
  kn := fun k c hc => by
   obtain ⟨q, h1, rfl⟩ := hlk k c hc
   rw [(hfp k q h1).1]
   exact hr.kn q.1 q.2.1 (hlive k q h1)
  bb := fun i j x y h => by cases h
  bk := fun i k x c h => by cases h
  kk := fun i j c d hc hd hij b hb hm => by
   obtain ⟨q, h1, rfl⟩ := hlk i c hc
   obtain ⟨r, h2, rfl⟩ := hlk j d hd
   rw [(hfp i q h1).1] at hb
   rw [(hfp j r h2).1] at hm
   exact hr.kk q.1 r.1 q.2.1 r.2.1 (hlive i q h1) (hlive j r h2) (fun e => hij (hinj i j q r h1 h2 e)) b hb hm
  lk := fun k hk => by
   simp only [St.tk, List.flatMap_nil, List.append_nil, List.mem_flatMap] at hk
   obtain ⟨p, hp, hk⟩ := hk
   have h1 := (hkeys p hp).1 k hk
   obtain ⟨k', hk'⟩ := Option.isSome_iff_exists.1 h1
   obtain ⟨q, h2, _⟩ := look_it (fun q => q.1) hk'
   simp only [lkk]
   have h3 : look (it0 it) k = some { q.2.1 with h := true } := look_itS (fun q => ({ q.2.1 with h := true } : KC)) h2
   rw [look_map (fun q : KC => some q) (it0 it) k, h3]
   rfl
  lb := fun b hb => by
   simp only [St.tb, List.mem_flatMap] at hb
   obtain ⟨p, hp, hb⟩ := hb
   rw [(hkeys p hp).2] at hb
   cases hb
  s0 := fun b hb => by
   obtain ⟨q, hq, hb⟩ := List.mem_flatMap.1 hb
   exact hr.k_lt (hlive q.1 q.2 (hmem q hq)) b hb
  chg := Chg.refl _ _ }
def upsOf (L'' : Lyt) (it : List (Nat × Nat × KC × KC)) : List (Nat × KC × List Nat) := it.map fun q => (q.2.1, { q.2.2.2 with h := q.2.2.1.h }, L''.fp q.1)
def St.wrote (σ : St) (it : List (Nat × Nat × KC × KC)) : St :=
 ⟨killT (it.map fun q => q.2.1) [] σ.tm, killB (it.map fun q => q.2.1) [] σ.bx, (it.map fun q => (q.2.1, some { q.2.2.2 with h := q.2.2.1.h })) ++ σ.ks⟩
theorem muts_wrote {L'' : Lyt} {it : List (Nat × Nat × KC × KC)} : σ.muts (upsOf L'' it) = σ.wrote it := by
 simp only [St.muts, St.wrote, upsOf, List.map_map, Function.comp_def]
theorem callW_wp {o : Oper} {f : FuncId} {xs : List Operand} {ats : Array TypeId} {us : List SV} {X : SV} {it : List (Nat × Nat × KC × KC)} {d : Nat} (ho : o.op = .call { callee := .value (.func f), args := xs.toArray, argTypes := ats }) (hd : o.dst = some d) (hn : Nat.blt d nt = true)
  (hc : ∀ (args : Array Value) (w : World), (callFunc f args).run P w = .ok (.enter f args) w) (hf : WFn P f us X (it0 it) (it1 it)) (ha : ArgWs P C nt σ (itK it) xs us) (hX : X.plain = true)
  (hlive : ∀ i q, look it i = some q → lkk σ q.1 = some q.2.1) (hmem : ∀ q ∈ it, look it q.1 = some q.2) (hinj : ∀ i j q r, look it i = some q → look it j = some r → q.1 = r.1 → i = j) 
  (hr : Rel P C nt L σ a w) {K : Act → World → Prop} {Q' : Exit → Act → World → Prop} (hK : ∀ L2 a' w', Rel P C nt L2 ((σ.wrote it).put d X) a' w' → L2.rv = L.rv → Chg (it.flatMap fun q => L.fp q.2.1) w w' → K a' w') : o.wp P a w K Q' := by
 refine wp_callGo ho hc ?_
 obtain ⟨g1, g2⟩ := argWs_lay (C' := ⟨w, it.flatMap fun q => L.fp q.2.1, (wLyt L (itK it)).rv⟩) hr ha
 have hent := rel_enterW hr (us := us) (vs := xs.map a.eval) (by simp [g1]) hlive hmem hinj (fun i u hu => by
  obtain ⟨x, k1, k2⟩ := g2 i u hu
  exact ⟨a.eval x, by simp [k1], k2⟩)
 refine (hf.ok w _ (wLyt L (itK it)) (xs.map a.eval) (by simp [g1]) hent).mono ?_
 rintro e w' ⟨r, res, σ', L'', rfl, ⟨rfl, h2⟩, h3⟩
 obtain ⟨p1, p2, p3, p4⟩ := sv_plain_ret hX
 have hfp : ∀ i q, look it i = some q → (wLyt L (itK it)).fp i = L.fp q.1 ∧ (wLyt L (itK it)).rv i = L.rv q.1 := fun i q hq => by
  have : look (itK it) i = some q.1 := look_itS (fun q => q.1) hq
  simp only [wLyt, this]; exact ⟨trivial, trivial⟩
 have hk' : ∀ i q, look it i = some q → lkk { σ' with tm := [(0, res)] } i = some { q.2.2 with h := true } := fun i q hq => h2 i _ (look_itS (fun q => ({ q.2.2 with h := true } : KC)) hq)
 have hlu : ∀ k u, look (upsOf L'' it) k = some u → ∃ i q, look it i = some q ∧ q.1 = k ∧ u = ({ q.2.2 with h := q.2.1.h }, L''.fp i) := fun k u hu => by
  have := look_mem hu
  obtain ⟨p, hp, he⟩ := List.mem_map.1 this
  simp only [Prod.mk.injEq] at he
  exact ⟨p.1, p.2, hmem p hp, he.1, he.2.symm⟩
 have hset := hr.setkeys (ups := upsOf L'' it) (w' := w')
  (h3.chg.mono (fun b hb => by
   obtain ⟨q, hq, hb⟩ := List.mem_flatMap.1 hb
   exact List.mem_flatMap.2 ⟨_, List.mem_map.2 ⟨q, hq, rfl⟩, hb⟩))
  (fun k u hu => by
   obtain ⟨i, q, hq, rfl, rfl⟩ := hlu k u hu
   obtain ⟨o1, o2⟩ := h3.ks i _ (hk' i q hq)
   refine ⟨q.2.1, hlive i q hq, ?_, h3.kn i _ (hk' i q hq), fun b hb => ?_, fun e => e⟩
   ·have o1' : Own w' (.sl q.2.2.e q.2.2.sz q.2.2.n q.2.2.cs) (L''.rv i) (L''.fp i) := o1
    have o2' : L''.rv i = L.rv q.1 := (o2 rfl).trans (hfp i q hq).2
    show Own w' (.sl q.2.2.e q.2.2.sz q.2.2.n q.2.2.cs) (L.rv q.1) (L''.fp i)
    rw [← o2']; exact o1'
   ·rcases h3.k1 i _ (hk' i q hq) b hb with h4 | h4
    ·exact .inr h4
    ·obtain ⟨p, hp, hb'⟩ := List.mem_flatMap.1 h4
     exact .inl (List.mem_flatMap.2 ⟨_, List.mem_map.2 ⟨p, hp, rfl⟩, hb'⟩))
  (fun k l u v hu hv hkl b hb hm => by
   obtain ⟨i, q, hq, rfl, rfl⟩ := hlu k u hu
   obtain ⟨j, r', hr', rfl, rfl⟩ := hlu l v hv
   exact h3.kk i j _ _ (hk' i q hq) (hk' j r' hr') (fun e => hkl (by subst e; rw [hq] at hr'; rw [Option.some.inj hr'])) b hb hm)
 rw [muts_wrote] at hset
 refine ⟨r, rfl, hK { L with fp := newFp L (upsOf L'' it) } _ _ ?_ rfl h3.chg⟩
 rw [hd]
 refine hset.put (v := res) (by simpa [Nat.blt_eq] using hn) ?_ (by rw [p2]; simp) (by rw [p3]; simp)
 have := sv_ret (C := C) (L := { L with fp := newFp L (upsOf L'' it) }) (m := 0) p1 (by rw [p2]; simp) (h3.tm 0 res (by simp [look_cons]))
 rwa [p4] at this
theorem ef_callW {o : Oper} {f : FuncId} {xs : List Operand} {ats : Array TypeId} {us : List SV} {X : SV} {it : List (Nat × Nat × KC × KC)} {d : Nat} (ho : o.op = .call { callee := .value (.func f), args := xs.toArray, argTypes := ats }) (hd : o.dst = some d) (hn : Nat.blt d nt = true)
  (hc : ∀ (args : Array Value) (w : World), (callFunc f args).run P w = .ok (.enter f args) w) (hf : WFn P f us X (it0 it) (it1 it)) (ha : ArgWs P C nt σ (itK it) xs us) (hX : X.plain = true)
  (hlive : ∀ i q, look it i = some q → lkk σ q.1 = some q.2.1) (hmem : ∀ q ∈ it, look it q.1 = some q.2) (hinj : ∀ i j q r, look it i = some q → look it j = some r → q.1 = r.1 → i = j) :
  Ef P C nt o σ (fun σ' => σ' = (σ.wrote it).put d X) := Ef.mk fun L a w hr K Q' hK => callW_wp ho hd hn hc hf ha hX hlive hmem hinj hr (fun L2 a' w' h _ _ => hK L2 _ a' w' rfl h)
end
end Go.Proofs.YtcgmpjedhbhplaaGreat

namespace Go.Proofs.YtcgmpjedhbhplaaGreat
open Go.RowKit
set_option linter.unusedVariables false
set_option linter.unusedSimpArgs false

/-! ### ownership of one cell -/
theorem ownL_out {w : World} : ∀ {ds : List DV} {vs : List Value} {fp : List Nat} {i : Nat} {d : DV}, OwnL w ds vs fp → ds[i]? = some d → ∃ v fa fd fb, vs[i]? = some v ∧ fp = fa ++ (fd ++ fb) ∧ Own w d v fd ∧ OwnL w (ds.set i .hole) vs (fa ++ fb)
 | [], _, _, _, _, _, hd => by simp at hd
 | x :: xs, _, _, 0, d, h, hd => by
  simp only [List.getElem?_cons_zero, Option.some.injEq] at hd
  subst hd
  simp only [OwnL] at h
  obtain ⟨v, vs', f1, f2, rfl, rfl, h1, h2⟩ := h
  refine ⟨v, [], f1, f2, rfl, rfl, h1, ?_⟩
  simp only [List.set_cons_zero, OwnL, List.nil_append]
  exact ⟨v, vs', [], f2, rfl, rfl, by unfold Own; exact ⟨lay_one _ _ (own_lay (ok := fun _ => True) _ _ _ h1 (fun _ _ => trivial)), rfl⟩, h2⟩
 | x :: xs, _, _, i + 1, d, h, hd => by
  simp only [List.getElem?_cons_succ] at hd
  simp only [OwnL] at h
  obtain ⟨v, vs', f1, f2, rfl, rfl, h1, h2⟩ := h
  obtain ⟨u, fa, fd, fb, g1, rfl, g3, g4⟩ := ownL_out h2 hd
  refine ⟨u, f1 ++ fa, fd, fb, by simpa using g1, by simp, g3, ?_⟩
  simp only [List.set_cons_succ, OwnL]
  exact ⟨v, vs', f1, fa ++ fb, rfl, by simp, h1, g4⟩
theorem ownL_in {w : World} {d : DV} {v : Value} {fd : List Nat} (ho : Own w d v fd) : ∀ {ds : List DV} {vs : List Value} {fp : List Nat} {i : Nat}, OwnL w ds vs fp → ds[i]? = some .hole → vs[i]? = some v → ∃ fa fb, fp = fa ++ fb ∧ OwnL w (ds.set i d) vs (fa ++ (fd ++ fb))
 | [], _, _, _, _, hd, _ => by simp at hd
 | x :: xs, _, _, 0, h, hd, hv => by
  simp only [List.getElem?_cons_zero, Option.some.injEq] at hd
  subst hd
  simp only [OwnL] at h
  obtain ⟨u, vs', f1, f2, rfl, rfl, h1, h2⟩ := h
  simp only [List.getElem?_cons_zero, Option.some.injEq] at hv
  subst hv
  simp only [Own] at h1
  obtain ⟨_, rfl⟩ := h1
  refine ⟨[], f2, rfl, ?_⟩
  simp only [List.set_cons_zero, OwnL, List.nil_append]
  exact ⟨u, vs', fd, f2, rfl, rfl, ho, h2⟩
 | x :: xs, _, _, i + 1, h, hd, hv => by
  simp only [List.getElem?_cons_succ] at hd
  simp only [OwnL] at h
  obtain ⟨u, vs', f1, f2, rfl, rfl, h1, h2⟩ := h
  simp only [List.getElem?_cons_succ] at hv
  obtain ⟨fa, fb, rfl, g⟩ := ownL_in ho h2 hd hv
  refine ⟨f1 ++ fa, fb, by simp, ?_⟩
  simp only [List.set_cons_succ, OwnL]
  exact ⟨u, vs', f1, fa ++ (fd ++ fb), rfl, by simp, h1, g⟩
theorem ownE_row {w : World} {e sz n o : Nat} {cs : List DV} {v : Value} {fp : List Nat} (h : Own w (.sl e sz n cs) v fp) (ho : o < cs.length) : ∃ g cap vs f, v = .slice (some ⟨g, 0, none⟩) n cap ∧ fp = g :: f ∧ OwnL w cs vs f ∧ (∀ j u, vs[j]? = some u → w.cell? ⟨g, j, none⟩ = some u) := by
 simp only [Own] at h
 obtain ⟨vs, f, rfl, h1, h2, h3, h4⟩ := h
 rcases (rowE_open h3).2 with ⟨rfl, rfl⟩ | ⟨g, cap, cur, t, fz, rfl, hg, _, _, _, ht⟩
 ·simp at h2; subst h2; simp at ho
 ·refine ⟨g, cap, vs, f, rfl, by simp [Value.ownBlock], h4, fun j u hu => ?_⟩
  rw [cell_of_row _ g j cur t fz hg]
  rw [← ht, List.getElem?_take] at hu
  split at hu
  ·simpa using hu
  ·cases hu
def dvE (k o : Nat) (d : DV) : CV := bif d.plain then .dv [] d else .nest k o d
section
variable {P : Program} {C : Ctx} {nt : Nat} {L : Lyt} {σ : St} {a : Act} {w : World} {o : Oper} {x y : Operand} {T : TT}
theorem dvE_cv {k off g n c : Nat} {d : DV} {v : Value} {fd : List Nat} (ho : Own w d v fd) (hf : ∀ b ∈ fd, b ∈ L.fp k) (hr : L.rv k = .slice (some ⟨g, 0, none⟩) n c) (hg : g ∈ L.fp k) (hc : w.cell? ⟨g, off, none⟩ = some v) : CVr C L w (dvE k off d) v := by
 unfold dvE
 have hl : Lay (okB C L [k]) w d v := own_lay _ _ _ ho (fun b hb => .inr ⟨k, by simp, hf b hb⟩)
 cases hp : d.plain with
 | true =>
  simp only [cond_true, CVr]
  exact own_lay _ _ _ (lay_plain (w' := w) hp hl) (by simp)
 | false => exact ⟨hl, g, n, c, hr, hg, hc⟩
theorem pu_loadE1 (hT : TTOk P T) {t k off : Nat} {d : DV} {c : KC} {u : Unit} (ho : o.op = .load t x) (ht : look T.on t = some u) (hx : Ev P C nt σ x (.eptr k off)) (hk : lkk σ k = some c) (hd : c.cs[off]? = some d) : Pu P C nt o σ (.one (dvE k off d)) [k] [] := Pu.mk fun L a w hr => by
 have h1 := hx.run L a w hr
 simp only [SVr] at h1
 obtain ⟨g, n, cap, e1, e2⟩ := h1
 have hlt : off < c.cs.length := (List.getElem?_eq_some_iff.1 hd).1
 obtain ⟨g', cap', vs, f, k1, k2, k3, k4⟩ := ownE_row (hr.ks k c hk).1 hlt
 rw [e1] at k1
 simp only [Value.slice.injEq, Option.some.injEq, Addr.mk.injEq, and_true, true_and] at k1
 obtain ⟨rfl, rfl, rfl⟩ := k1
 obtain ⟨v, fa, fd, fb, m1, m2, m3, _⟩ := ownL_out k3 hd
 have hc := k4 off v m1
 have hgm : g ∈ L.fp k := by rw [k2]; simp
 refine ⟨v, by simp only [SVr]; exact dvE_cv m3 (fun b hb => by rw [k2, m2]; simp [hb]) e1 hgm hc, fun w' hw => ?_⟩
 have hc' : w'.cell? ⟨g, off, none⟩ = some v := (World.cell?_of_block (a := ⟨g, off, none⟩) (hw g (cell_lt hc) (.inl (.inr ⟨k, by simp, hgm⟩)))).trans hc
 unfold execOp
 simp only [ho, e2, Instr.loadAt, Instr.sureAddr, Sem.run_bind, Sem.run_pure, Result.andThen_ok]
 rw [run_loadVar_cell (hT.on t u ht) hc']
 rfl
theorem Rel.split (h : Rel P C nt L σ a w) {k k' off e sz n : Nat} {c : KC} {cs : List DV} (hk : lkk σ k = some c) (hd : c.cs[off]? = some (.sl e sz n cs)) (hk' : lkk σ k' = none) :
  ∃ L' v g m cap, L.rv k = .slice (some ⟨g, 0, none⟩) m cap ∧ w.cell? ⟨g, off, none⟩ = some v ∧ L'.rv k = L.rv k ∧ L'.rv k' = v ∧ g ∈ L'.fp k ∧
   Rel P C nt L' ⟨(σ.mut k [] true { c with cs := c.cs.set off .hole }).tm, (σ.mut k [] true { c with cs := c.cs.set off .hole }).bx, (k', some ⟨false, e, sz, n, cs⟩) :: (k, some { c with cs := c.cs.set off .hole }) :: σ.ks⟩ a w := by
 have hlt : off < c.cs.length := (List.getElem?_eq_some_iff.1 hd).1
 have hown := (h.ks k c hk).1
 obtain ⟨g, cap, vs, f, k1, k2, k3, k4⟩ := ownE_row hown hlt
 obtain ⟨v, fa, fd, fb, m1, m2, m3, m4⟩ := ownL_out k3 hd
 have hkk : k ≠ k' := fun e' => by rw [← e', hk] at hk'; cases hk'
 have hgm : g ∈ L.fp k := by rw [k2]; simp
 have hnd := h.kn k c hk
 rw [k2, m2] at hnd
 simp only [List.nodup_cons, List.mem_append, not_or] at hnd
 obtain ⟨nd1, nd2⟩ := hnd
 rw [List.nodup_append] at nd2
 obtain ⟨nd2, nd3, nd4⟩ := nd2
 rw [List.nodup_append] at nd3
 obtain ⟨nd3, nd5, nd6⟩ := nd3
 have hown1 : Own w (.sl c.e c.sz c.n (c.cs.set off .hole)) (L.rv k) (g :: (fa ++ fb)) := by
  unfold Own at hown ⊢
  obtain ⟨vs2, f2, p1, p2, p3, p4, p5⟩ := hown
  have hvs : vs2 = vs := by
   rcases (rowE_open p4).2 with ⟨q1, q2⟩ | ⟨g2, cap2, cur, t2, fz2, q1, q3, q4, q5, q6, q7⟩
   ·rw [k1] at q1; cases q1
   ·rw [k1] at q1
    simp only [Value.slice.injEq, Option.some.injEq, Addr.mk.injEq, and_true, true_and] at q1
    obtain ⟨rfl, rfl⟩ := q1
    apply List.ext_getElem (by rw [ownL_len _ _ _ p5, ownL_len _ _ _ k3])
    intro i i1 i2
    have r1 := k4 i _ (List.getElem?_eq_getElem i2)
    rw [cell_of_row _ g i cur t2 fz2 q3] at r1
    have r3 : i < c.n * c.sz := by rw [← p3, ← ownL_len _ _ _ p5]; exact i1
    have r2 : vs2[i]? = cur[i]? := by rw [← q7, List.getElem?_take, if_pos r3, Array.getElem?_toList]
    rw [List.getElem?_eq_getElem i1] at r2
    rw [← r2] at r1
    exact Option.some.inj r1
  subst hvs
  exact ⟨vs2, fa ++ fb, by rw [k1]; simp [Value.ownBlock], p2, by simpa using p3, p4, m4⟩
 have hrel := h.setkey (k := k) (c := c) (c' := { c with cs := c.cs.set off .hole }) (js := []) (same := true) (v' := L.rv k) (f' := g :: (fa ++ fb)) hk (by simp) (Chg.refl _ _) hown1
  (by
   rw [List.nodup_cons, List.nodup_append]
   refine ⟨fun hm => ?_, nd2, nd5, fun x hx y hy => nd4 x hx y (by simp [hy])⟩
   simp only [List.mem_append] at hm
   rcases hm with hm | hm
   ·exact nd1.1 hm
   ·exact nd1.2.2 hm)
  (fun b hb => .inl (by
   rw [k2, m2]
   simp only [List.mem_cons, List.mem_append] at hb ⊢
   rcases hb with hb | hb | hb
   ·exact .inl hb
   ·exact .inr (.inl hb)
   ·exact .inr (.inr (.inr hb)))) (by simp) (fun _ => rfl) (fun e' => ⟨e', rfl⟩)
 have hfd : ∀ b ∈ fd, b ∈ L.fp k := fun b hb => by rw [k2, m2]; simp [hb]
 have hnew := hrel.newkey (k := k') (c := ⟨false, e, sz, n, cs⟩) (v := v) (f := fd)
  (by
   simp only [lkk, St.mut, List.map_nil, List.nil_append, List.cons_append, look_cons]
   rw [if_neg (fun e' => hkk e'.symm)]
   exact hk') m3 rfl nd3 (fun b hb => h.k1 k c hk b (hfd b hb))
  (fun b hb i x hx e' => by
   have hx' : ∃ y, look σ.bx i = some y := by
    have := look_map (fun q : TypeId × List CV => (q.1, q.2.map (CV.kill [k] []))) σ.bx i
    change look (killB [k] [] σ.bx) i = _ at this
    change look (killB [k] [] σ.bx) i = some x at hx
    rw [this] at hx
    cases hy : look σ.bx i with
    | none => rw [hy] at hx; cases hx
    | some q => exact ⟨q, rfl⟩
   obtain ⟨y, hy⟩ := hx'
   exact h.bk i k y c hy hk (by rw [show L.bb i = b from e']; exact hfd b hb))
  (fun b hb j d' hj => by
   simp only [lkk, St.mut, List.map_nil, List.nil_append, List.cons_append, look_cons] at hj
   by_cases hjk : j = k
   ·subst hjk
    simp only [if_true]
    intro hm
    simp only [List.mem_cons, List.mem_append] at hm
    rcases hm with hm | hm | hm
    ·exact nd1.2.1 (hm ▸ hb)
    ·exact nd4 b hm b (by simp [hb]) rfl
    ·exact nd6 b hb b hm rfl
   ·rw [if_neg hjk] at hj
    simp only [if_neg hjk]
    exact fun hm => h.kk j k d' c hj hk hjk b hm (hfd b hb))
 refine ⟨_, v, g, c.n, cap, k1, k4 off v m1, ?_, ?_, ?_, hnew⟩
 ·simp [hkk]
 ·simp
 ·simp [hkk]
theorem Rel.join (h : Rel P C nt L σ a w) {k k' off g m cap : Nat} {c c' : KC} (hk : lkk σ k = some c) (hk' : lkk σ k' = some c') (hkk : k ≠ k') (ho : c.cs[off]? = some .hole) (hr : L.rv k = .slice (some ⟨g, 0, none⟩) m cap) (hc : w.cell? ⟨g, off, none⟩ = some (L.rv k')) :
  ∃ L', Rel P C nt L' (σ.mut k [k'] true { c with cs := c.cs.set off (.sl c'.e c'.sz c'.n c'.cs) }) a w := by
 have hlt : off < c.cs.length := (List.getElem?_eq_some_iff.1 ho).1
 have hown := (h.ks k c hk).1
 obtain ⟨g', cap', vs, f, k1, k2, k3, k4⟩ := ownE_row hown hlt
 rw [hr] at k1
 simp only [Value.slice.injEq, Option.some.injEq, Addr.mk.injEq, and_true, true_and] at k1
 obtain ⟨rfl, rfl, rfl⟩ := k1
 have hown' := (h.ks k' c' hk').1
 have hv : vs[off]? = some (L.rv k') := by
  have hl : off < vs.length := by rw [ownL_len _ _ _ k3]; exact hlt
  have := k4 off _ (List.getElem?_eq_getElem hl)
  rw [hc] at this
  rw [List.getElem?_eq_getElem hl, ← Option.some.inj this]
 obtain ⟨fa, fb, e1, e2⟩ := ownL_in hown' k3 ho hv
 have hnd := h.kn k c hk
 rw [k2, e1] at hnd
 simp only [List.nodup_cons, List.mem_append, not_or] at hnd
 obtain ⟨nd1, nd2⟩ := hnd
 rw [List.nodup_append] at nd2
 obtain ⟨nd2, nd3, nd4⟩ := nd2
 have hdis : ∀ b ∈ L.fp k', b ∉ L.fp k := fun b hb hm => h.kk k' k c' c hk' hk (fun e' => hkk e'.symm) b hb hm
 have hin : ∀ b, b ∈ fa ∨ b ∈ fb → b ∈ L.fp k := fun b hb => by
  rw [k2, e1]
  rcases hb with hb | hb <;> simp [hb]
 have hset := h.setkey (k := k) (c := c) (c' := { c with cs := c.cs.set off (.sl c'.e c'.sz c'.n c'.cs) }) (js := [k']) (same := true) (v' := L.rv k) (f' := g :: (fa ++ (L.fp k' ++ fb))) hk (by simpa using hkk) (Chg.refl _ _)
  (by
   unfold Own at hown ⊢
   obtain ⟨vs2, f2, p1, p2, p3, p4, p5⟩ := hown
   have hvs : vs2 = vs := by
    rcases (rowE_open p4).2 with ⟨q1, q2⟩ | ⟨g2, cap2, cur, t2, fz2, q1, q3, q4, q5, q6, q7⟩
    ·rw [hr] at q1; cases q1
    ·rw [hr] at q1
     simp only [Value.slice.injEq, Option.some.injEq, Addr.mk.injEq, and_true, true_and] at q1
     obtain ⟨rfl, rfl⟩ := q1
     apply List.ext_getElem (by rw [ownL_len _ _ _ p5, ownL_len _ _ _ k3])
     intro i i1 i2
     have r1 := k4 i _ (List.getElem?_eq_getElem i2)
     rw [cell_of_row _ g i cur t2 fz2 q3] at r1
     have r3 : i < c.n * c.sz := by rw [← p3, ← ownL_len _ _ _ p5]; exact i1
     have r2 : vs2[i]? = cur[i]? := by rw [← q7, List.getElem?_take, if_pos r3, Array.getElem?_toList]
     rw [List.getElem?_eq_getElem i1] at r2
     rw [← r2] at r1
     exact Option.some.inj r1
   subst hvs
   exact ⟨vs2, fa ++ (L.fp k' ++ fb), by rw [hr]; simp [Value.ownBlock], p2, by simpa using p3, p4, e2⟩)
  (by
   rw [List.nodup_cons, List.nodup_append, List.nodup_append]
   refine ⟨fun hm => ?_, nd2, ⟨h.kn k' c' hk', nd3, fun x hx y hy e' => hdis x hx (hin x (.inr (e' ▸ hy)))⟩, fun x hx y hy e' => ?_⟩
   ·simp only [List.mem_append] at hm
    rcases hm with hm | hm | hm
    ·exact nd1.1 hm
    ·exact hdis g hm (by rw [k2]; simp)
    ·exact nd1.2 hm
   ·rcases List.mem_append.1 hy with hy | hy
    ·exact hdis y hy (hin y (.inl (e' ▸ hx)))
    ·exact nd4 x hx y hy e')
  (fun b hb => by
   simp only [List.mem_cons, List.mem_append] at hb
   rcases hb with hb | hb | hb | hb
   ·exact .inl (by rw [k2, hb]; simp)
   ·exact .inl (hin b (.inl hb))
   ·exact .inr (.inl ⟨k', by simp, hb⟩)
   ·exact .inl (hin b (.inr hb)))
  (fun j hj => by simp only [List.mem_singleton] at hj; subst hj; simp [hk']) (fun _ => rfl) (fun e' => ⟨e', rfl⟩)
 exact ⟨_, hset⟩
@[reducible] def St.outs (σ : St) (t k k' off e sz n : Nat) (c : KC) (cs : List DV) : St :=
 ⟨(t, .one (.key k')) :: killT [k] [] σ.tm, killB [k] [] σ.bx, (k', some ⟨false, e, sz, n, cs⟩) :: (k, some { c with cs := c.cs.set off .hole }) :: σ.ks⟩
theorem ef_callN {f : FuncId} {xs : List Operand} {ats : Array TypeId} {us : List SV} {X : SV} {t k k' off e sz n n2 d : Nat} {c : KC} {cs cs2 : List DV} (ho : o.op = .call { callee := .value (.func f), args := xs.toArray, argTypes := ats }) (hd : o.dst = some d) (hn : Nat.blt d nt = true)
  (hc : ∀ (args : Array Value) (w : World), (callFunc f args).run P w = .ok (.enter f args) w) (hf : WFn P f us X [(0, ⟨true, e, sz, n, cs⟩)] [(0, ⟨true, e, sz, n2, cs2⟩)])
  (ht : look σ.tm t = some (.one (.nest k off (.sl e sz n cs)))) (hk : lkk σ k = some c) (hcs : c.cs[off]? = some (.sl e sz n cs)) (hk' : lkk σ k' = none)
  (ha : ArgWs P C nt (σ.outs t k k' off e sz n c cs) [(0, k')] xs us) (hX : X.plain = true) :
  Ef P C nt o σ (fun σ' => σ' = ((((σ.outs t k k' off e sz n c cs).wrote [(0, k', ⟨false, e, sz, n, cs⟩, ⟨false, e, sz, n2, cs2⟩)]).put d X).mut k [k'] true { c with cs := c.cs.set off (.sl e sz n2 cs2) })) := Ef.mk fun L a w hr K Q' hK => by
 have h1 := hr.tm t _ ht
 simp only [SVr, CVr] at h1
 obtain ⟨_, g, m, cap, e1, e2, e3⟩ := h1
 have hkk : k ≠ k' := fun e' => by rw [← e', hk] at hk'; cases hk'
 have hlt : off < c.cs.length := (List.getElem?_eq_some_iff.1 hcs).1
 obtain ⟨L', v, g', m', cap', q1, q2, q3, q4, q5, q6⟩ := hr.split hk hcs hk'
 rw [e1] at q1
 simp only [Value.slice.injEq, Option.some.injEq, Addr.mk.injEq, and_true, true_and] at q1
 obtain ⟨rfl, rfl, rfl⟩ := q1
 rw [e3] at q2
 have hv := Option.some.inj q2
 have hr1 : Rel P C nt L' (σ.outs t k k' off e sz n c cs) a w := q6.also (d := t) (v := .one (.key k')) (by simp only [SVr, CVr]; rw [q4]; exact hv) (by simp [SV.keys, CV.keys, lkk, look_cons]) (by simp [SV.boxes])
 have hlk' : lkk (σ.outs t k k' off e sz n c cs) k' = some ⟨false, e, sz, n, cs⟩ := by simp [lkk, look_cons]
 have hlk : lkk (σ.outs t k k' off e sz n c cs) k = some { c with cs := c.cs.set off .hole } := by simp [lkk, look_cons, hkk]
 refine callW_wp (it := [(0, k', ⟨false, e, sz, n, cs⟩, ⟨false, e, sz, n2, cs2⟩)]) ho hd hn hc hf ha hX ?_ ?_ ?_ hr1 ?_
 ·intro i q hq
  simp only [look_cons] at hq
  split at hq
  ·simp only [Option.some.injEq] at hq; subst hq; exact hlk'
  ·cases hq
 ·intro q hq
  simp only [List.mem_singleton] at hq
  subst hq; rfl
 ·intro i j q r hq hr' _
  simp only [look_cons] at hq hr'
  split at hq <;> split at hr'
  ·rename_i a1 a2; rw [a1, a2]
  ·cases hr'
  ·cases hq
  ·cases hq
 ·intro L2 a' w' hr2 hrv hchg
  simp only [List.flatMap_cons, List.flatMap_nil, List.append_nil] at hchg
  have hgn : g ∉ L'.fp k' := fun hm => hr1.kk k' k _ _ hlk' hlk (fun e' => hkk e'.symm) g hm q5
  have hcell : w'.cell? ⟨g, off, none⟩ = some (L2.rv k') := by
   rw [hrv, q4]
   exact (World.cell?_of_block (a := ⟨g, off, none⟩) (hchg.block g (cell_lt e3) hgn)).trans (hv ▸ e3)
  obtain ⟨L3, hr3⟩ := hr2.join (k := k) (k' := k') (off := off) (g := g) (m := m) (cap := cap) (c := { c with cs := c.cs.set off .hole }) (c' := ⟨false, e, sz, n2, cs2⟩)
   (by simp [lkk, St.put, St.wrote, look_cons, hkk]) (by simp [lkk, St.put, St.wrote, look_cons]) hkk (by simp [hlt]) (by rw [hrv, q3]; exact e1) hcell
  simp only [List.set_set] at hr3
  exact hK L3 _ a' w' rfl hr3
section
variable {Q : Exit → St → Prop} {all : Array Oper} {rest : List Oper} {tm : List (Nat × SV)} {bx : List (Nat × TypeId × List CV)} {ks : List (Nat × Option KC)}
theorem o_callN {f : FuncId} {xs : List Operand} {ats : Array TypeId} {us : List SV} {X : SV} {t k off e sz n n2 d : Nat} {c : KC} {cs cs2 ccs : List DV} (k' : Nat) (hg : o.guard = none) (hd : o.dst = some d) (ho : o.op = .call { callee := .value (.func f), args := xs.toArray, argTypes := ats })
  (hc : ∀ (args : Array Value) (w : World), (callFunc f args).run P w = .ok (.enter f args) w) (hf : WFn P f us X [(0, ⟨true, e, sz, n, cs⟩)] [(0, ⟨true, e, sz, n2, cs2⟩)])
  (ht : look tm t = some (.one (.nest k off (.sl e sz n cs)))) (hk : lkk ⟨tm, bx, ks⟩ k = some c) (hcs : c.cs[off]? = some (.sl e sz n cs)) (hk' : lkk ⟨tm, bx, ks⟩ k' = none)
  (ha : ArgWs P C nt (St.outs ⟨tm, bx, ks⟩ t k k' off e sz n c cs) [(0, k')] xs us) (hX : X.plain = true) (hn : Nat.blt d nt = true) (hcc : c.cs.set off (.sl e sz n2 cs2) = ccs)
  (h : Ops P C nt Q all rest ⟨killT [k, k'] [k'] ((d, X) :: killT [k'] [] ((t, .one (.key k')) :: killT [k] [] tm)), killB [k, k'] [k'] (killB [k'] [] (killB [k] [] bx)), (k, some { c with cs := ccs }) :: (k', none) :: (k', some ⟨false, e, sz, n2, cs2⟩) :: (k', some ⟨false, e, sz, n, cs⟩) :: (k, some { c with cs := c.cs.set off .hole }) :: ks⟩) : Ops P C nt Q all (o :: rest) ⟨tm, bx, ks⟩ :=
 ops_ef1 hg (ef_callN ho hd hn hc hf ht hk hcs hk' ha hX) (by subst hcc; exact h)
def ItOk (σ : St) : List (Nat × Nat × KC × KC) → Prop
 | [] => True
 | q :: l => lkk σ q.2.1 = some q.2.2.1 ∧ ItOk σ l
def nodupB : List Nat → Bool
 | [] => true
 | x :: xs => !(xs.any fun y => Nat.beq x y) && nodupB xs
theorem nodupB_spec : ∀ {xs : List Nat}, nodupB xs = true → xs.Nodup
 | [], _ => List.nodup_nil
 | x :: xs, h => by
  simp only [nodupB, Bool.and_eq_true, Bool.not_eq_true', List.any_eq_false] at h
  refine List.nodup_cons.2 ⟨fun hm => ?_, nodupB_spec h.2⟩
  have := h.1 x hm
  simp at this
def itDist (it : List (Nat × Nat × KC × KC)) : Bool := nodupB (it.map fun q => q.1) && nodupB (it.map fun q => q.2.1)
theorem itOk_mem {σ : St} : ∀ {it : List (Nat × Nat × KC × KC)}, ItOk σ it → ∀ q ∈ it, lkk σ q.2.1 = some q.2.2.1
 | [], _, q, hq => by simp at hq
 | p :: l, ⟨h1, h2⟩, q, hq => by
  rcases List.mem_cons.1 hq with rfl | hq
  ·exact h1
  ·exact itOk_mem h2 q hq
theorem look_of_mem {α : Type} : ∀ {l : List (Nat × α)}, (l.map fun q => q.1).Nodup → ∀ q ∈ l, look l q.1 = some q.2
 | [], _, q, hq => by simp at hq
 | p :: l, h, q, hq => by
  simp only [List.map_cons, List.nodup_cons] at h
  obtain ⟨i, v⟩ := p
  rw [look_cons]
  rcases List.mem_cons.1 hq with rfl | hq
  ·simp
  ·have : q.1 ≠ i := fun e => h.1 (by rw [← e]; exact List.mem_map.2 ⟨q, hq, rfl⟩)
   rw [if_neg this]
   exact look_of_mem h.2 q hq
theorem inj_of_nodup : ∀ {it : List (Nat × Nat × KC × KC)}, (it.map fun q => q.2.1).Nodup → ∀ p ∈ it, ∀ q ∈ it, p.2.1 = q.2.1 → p = q
 | [], _, p, hp, _, _, _ => by simp at hp
 | x :: l, h, p, hp, q, hq, e => by
  simp only [List.map_cons, List.nodup_cons] at h
  rcases List.mem_cons.1 hp with h1 | h1 <;> rcases List.mem_cons.1 hq with h2 | h2
  ·rw [h1, h2]
  ·exact absurd (List.mem_map.2 ⟨q, h2, by rw [← e, h1]⟩ : x.2.1 ∈ l.map fun q => q.2.1) h.1
  ·exact absurd (List.mem_map.2 ⟨p, h1, by rw [e, h2]⟩ : x.2.1 ∈ l.map fun q => q.2.1) h.1
  ·exact inj_of_nodup h.2 p h1 q h2 e
theorem o_callW {f : FuncId} {xs : List Operand} {ats : Array TypeId} {us : List SV} {X : SV} {d : Nat} (it : List (Nat × Nat × KC × KC)) (hg : o.guard = none) (hd : o.dst = some d) (ho : o.op = .call { callee := .value (.func f), args := xs.toArray, argTypes := ats })
  (hc : ∀ (args : Array Value) (w : World), (callFunc f args).run P w = .ok (.enter f args) w) (hf : WFn P f us X (it0 it) (it1 it)) (hi : ItOk ⟨tm, bx, ks⟩ it) (hdi : itDist it = true) (ha : ArgWs P C nt ⟨tm, bx, ks⟩ (itK it) xs us) (hX : X.plain = true) (hn : Nat.blt d nt = true)
  (h : Ops P C nt Q all rest ⟨(d, X) :: killT (it.map fun q => q.2.1) [] tm, killB (it.map fun q => q.2.1) [] bx, (it.map fun q => (q.2.1, some { q.2.2.2 with h := q.2.2.1.h })) ++ ks⟩) : Ops P C nt Q all (o :: rest) ⟨tm, bx, ks⟩ := by
 simp only [itDist, Bool.and_eq_true] at hdi
 replace hdi := And.intro (nodupB_spec hdi.1) (nodupB_spec hdi.2)
 refine ops_ef1 hg (ef_callW (it := it) ho hd hn hc hf ha hX (fun i q hq => itOk_mem hi _ (look_mem hq)) (fun q hq => look_of_mem hdi.1 q hq) (fun i j q r hq hr e => ?_)) h
 have := inj_of_nodup hdi.2 _ (look_mem hq) _ (look_mem hr) e
 exact congrArg Prod.fst this
theorem aw_nil {σ : St} {km : List (Nat × Nat)} : ArgWs P C nt σ km [] [] := rfl
theorem aw_cons {σ : St} {km : List (Nat × Nat)} {x : Operand} {xs : List Operand} {us : List SV} {v u : SV} (h1 : Ev P C nt σ x v) (h2 : ArgW km v u) (h3 : ArgWs P C nt σ km xs us) : ArgWs P C nt σ km (x :: xs) (u :: us) := ⟨v, u, us, rfl, h1, h2, h3⟩
theorem aw_one {km : List (Nat × Nat)} {c c' : CV} (h : ArgWc km c c') : ArgW km (.one c) (.one c') := ⟨c', h, rfl⟩
theorem aw_agg {km : List (Nat × Nat)} {cs cs' : List CV} (h : ArgWcs km cs cs') : ArgW km (.agg cs) (.agg cs') := ⟨cs', h, rfl⟩
theorem awc_nil {km : List (Nat × Nat)} : ArgWcs km [] [] := rfl
theorem awc_cons {km : List (Nat × Nat)} {c u : CV} {cs us : List CV} (h1 : ArgWc km c u) (h2 : ArgWcs km cs us) : ArgWcs km (c :: cs) (u :: us) := ⟨u, us, rfl, h1, h2⟩
theorem awc_key {km : List (Nat × Nat)} {i k : Nat} (h : look km i = some k) : ArgWc km (.key k) (.key i) := ⟨i, h, rfl⟩
theorem awc_dv {km : List (Nat × Nat)} {K : List Nat} {d : DV} (h : d.plain = true) : ArgWc km (.dv K d) (.dv [] d) := ⟨h, rfl⟩
end
/-! ### contents written out at an element -/
def mid (pre B post : List DV) : List DV := pre ++ (B ++ post)
theorem get_mid {pre B post : List DV} {m off j : Nat} {d : DV} (hp : pre.length = m) (ho : off = m + j) (hB : B[j]? = some d) : (mid pre B post)[off]? = some d := by
 unfold mid
 have hj : j < B.length := (List.getElem?_eq_some_iff.1 hB).1
 rw [List.getElem?_append_right (by omega), List.getElem?_append_left (by omega), show off - pre.length = j by omega]
 exact hB
theorem set_mid {pre B B' post : List DV} {m off j : Nat} {d : DV} (hp : pre.length = m) (ho : off = m + j) (hB : B.set j d = B') (hj : j < B.length) : (mid pre B post).set off d = mid pre B' post := by
 unfold mid
 rw [List.set_append_right _ _ (by omega), List.set_append_left _ _ (by omega), show off - pre.length = j by omega, hB]
theorem setR_mid {pre B B' post ds : List DV} {m off j : Nat} (hp : pre.length = m) (ho : off = m + j) (hB : setR j ds B = B') (hj : j + ds.length ≤ B.length) : setR off ds (mid pre B post) = mid pre B' post := by
 subst hB
 subst ho
 subst hp
 unfold setR mid
 rw [List.take_length_add_append, Nat.add_assoc, ← List.drop_drop, List.drop_left, List.take_append_of_le_length (by omega), List.drop_append_of_le_length (by omega)]
 simp
theorem le_mid {pre B post : List DV} {m off j n : Nat} (hp : pre.length = m) (ho : off = m + j) (hj : j + n ≤ B.length) : off + n ≤ (mid pre B post).length := by
 simp only [mid, List.length_append]
 omega
theorem Rel.same (h : Rel P C nt L σ a w) {ks : List (Nat × Option KC)} (e : ∀ i, lkk ⟨σ.tm, σ.bx, ks⟩ i = lkk σ i) : Rel P C nt L ⟨σ.tm, σ.bx, ks⟩ a w where
 df := h.df
 sz := h.sz
 tm := h.tm
 bx := h.bx
 ks := fun k c hc => h.ks k c (by rw [← e]; exact hc)
 b1 := h.b1
 k1 := fun k c hc => h.k1 k c (by rw [← e]; exact hc)
 kn := fun k c hc => h.kn k c (by rw [← e]; exact hc)
 bb := h.bb
 bk := fun i k x c hx hc => h.bk i k x c hx (by rw [← e]; exact hc)
 kk := fun k j c d hc hd => h.kk k j c d (by rw [← e]; exact hc) (by rw [← e]; exact hd)
 lk := fun k hk => by rw [e]; exact h.lk k hk
 lb := h.lb
 s0 := h.s0
 chg := h.chg
theorem ok_kcs {Q : Exit → St → Prop} {c : Code} {tm : List (Nat × SV)} {bx : List (Nat × TypeId × List CV)} {ks : List (Nat × Option KC)} {k : Nat} {kc : KC} {cs' : List DV} (hk : lkk ⟨tm, bx, ks⟩ k = some kc) (e : kc.cs = cs')
  (h : Ok P C nt Q c ⟨tm, bx, (k, some { kc with cs := cs' }) :: ks⟩) : Ok P C nt Q c ⟨tm, bx, ks⟩ := by
 subst e
 refine ok_weak (Weak.mk fun L a w hr => ⟨L, hr.same (ks := (k, some kc) :: ks) fun i => ?_⟩) h
 simp only [lkk, look_cons] at hk ⊢
 split
 ·rename_i e'; rw [e', hk]; rfl
 ·rfl
theorem w1_ok {σ' : St} {i : Nat} {c : KC} (h : lkk σ' i = some c) : ∀ j d, look [(i, c)] j = some d → lkk σ' j = some d := by
 intro j d hj
 simp only [look_cons] at hj
 split at hj
 ·rename_i e; rw [e, h]; exact hj
 ·cases hj
theorem w2_ok {σ' : St} {i i2 : Nat} {c c2 : KC} (h : lkk σ' i = some c) (h2 : lkk σ' i2 = some c2) : ∀ j d, look [(i, c), (i2, c2)] j = some d → lkk σ' j = some d := by
 intro j d hj
 simp only [look_cons] at hj
 split at hj
 ·rename_i e; rw [e, h]; exact hj
 ·split at hj
  ·rename_i e; rw [e, h2]; exact hj
  ·cases hj
end
end Go.Proofs.YtcgmpjedhbhplaaGreat

namespace Go.Proofs.YtcgmpjedhbhplaaGreat
open Go.RowKit
set_option linter.unusedVariables false
set_option linter.unusedSimpArgs false

section
variable {P : Program} {C : Ctx} {nt : Nat} {L : Lyt} {σ : St} {a : Act} {w : World} {o : Oper} {x y : Operand} {T : TT}
theorem pu_lenKn (hT : TTOk P T) {t e' k n : Nat} {c : KC} (ho : o.op = .call { callee := .builtin .len, args := #[x], argTypes := #[t] }) (h : look T.sl t = some e') (hx : Ev P C nt σ x (.one (.key k))) (hk : lkk σ k = some c) (hn : c.n = n) : Pu P C nt o σ (.one (.dv [] (.int .i64 (n : Int)))) [] [] := by
 subst hn
 exact pu_lenK hT ho h hx hk
theorem kmin_le (k : IntKind) : k.min ≤ 0 := by cases k <;> decide
theorem inR_less {k : IntKind} {m z : Int} (h : InR k m) (h0 : 0 ≤ z) (h1 : z ≤ m) : InR k z := ⟨by have := kmin_le k; omega, by have := h.2; omega⟩
theorem pu_remN {t ty : TypeId} {K J : List Nat} {k : IntKind} {m n : Int} (ho : o.op = .binOp .rem t x y ty) (hx : Ev P C nt σ x (.one (.dv K (.int k m)))) (hy : Ev P C nt σ y (.one (.dv J (.int k n)))) (hm : 0 ≤ m) (hn : 0 < n) : Pu P C nt o σ (.one (.dv [] (.int k (m % n)))) [] [] := by
 have e : m.tmod n = m % n := Int.tmod_eq_emod_of_nonneg hm
 have hq : InR k m → InR k (m % n) := fun h1 => inR_less h1 (Int.emod_nonneg m (show n ≠ 0 by omega)) (by
  rcases Int.lt_or_le m n with h | h
  ·rw [Int.emod_eq_of_lt hm h]; omega
  ·have := Int.emod_lt_of_pos m hn; omega)
 exact pu_int ho hx hy fun h1 h2 => ⟨_, fun ok w => by unfold Lay; exact ⟨rfl, hq h1⟩, fun w => by simp [binOp, Op.intDiv, show n ≠ 0 by omega, e]⟩
theorem pu_quoN {t ty : TypeId} {K J : List Nat} {k : IntKind} {m n : Int} (ho : o.op = .binOp .quo t x y ty) (hx : Ev P C nt σ x (.one (.dv K (.int k m)))) (hy : Ev P C nt σ y (.one (.dv J (.int k n)))) (hm : 0 ≤ m) (hn : 0 < n) : Pu P C nt o σ (.one (.dv [] (.int k (m / n)))) [] [] := by
 have h := pu_quo ho hx hy (show n ≠ 0 by omega)
 have e : m.tdiv n = m / n := Int.tdiv_eq_ediv_of_nonneg hm
 rw [e] at h
 refine Pu.mk fun L a w hr => ?_
 have h1 := hx.run L a w hr
 simp only [SVr, CVr, Lay] at h1
 have h2 : InR k (m / n) := inR_less h1.2 (Int.ediv_nonneg hm (show (0 : Int) ≤ n by omega)) (Int.ediv_le_self n hm)
 have := h.run L a w hr
 rwa [wrap_inR h2] at this
theorem wrap_u8 (z : Int) : IntKind.u8.wrap z = ((UInt8.ofNat (IntKind.u8.wrap z).toNat).toNat : Int) := by
 have h := inR_wrap .u8 z
 simp only [InR, IntKind.min, IntKind.max, IntKind.signed, IntKind.bits] at h
 obtain ⟨h1, h2⟩ := h
 simp at h1 h2
 simp only [UInt8.toNat_ofNat']
 have : (IntKind.u8.wrap z).toNat % 2 ^ 8 = (IntKind.u8.wrap z).toNat := Nat.mod_eq_of_lt (by omega)
 omega
theorem pu_convB1 (hT : TTOk P T) {s d e' : Nat} {v : Unit} {K : List Nat} {e : Nat} {z : Int} {b : UInt8} (ho : o.op = .convert s d x) (h : look T.sl s = some e') (he : look T.it e' = some .u8) (hd : look T.st d = some v) (hx : Ev P C nt σ x (.one (.dv K (.sl e 1 1 [.int .u8 z])))) (hz : z = (b.toNat : Int)) :
  Pu P C nt o σ (.one (.dv [] (.str (strOf [b])))) K [] := by
 subst hz
 exact pu_convBS (xs := [b]) hT ho h he hd hx
end
section
variable {P : Program} {C : Ctx} {nt : Nat} {o : Oper} {x y : Operand} {T : TT} {Q : Exit → St → Prop} {all : Array Oper} {rest : List Oper} {tm : List (Nat × SV)} {bx : List (Nat × TypeId × List CV)} {ks : List (Nat × Option KC)}
end
end Go.Proofs.YtcgmpjedhbhplaaGreat

namespace Go.Proofs.YtcgmpjedhbhplaaGreat
open Go.RowKit
set_option linter.unusedVariables false
set_option linter.unusedSimpArgs false

abbrev Vars := List (Nat × Nat × Nat × List CV)
def addT : Vars → List (Nat × SV) → List (Nat × SV)
 | [], tm => tm
 | p :: B, tm => (p.2.1, .box p.2.1 0) :: addT B tm
def addB : Vars → List (Nat × TypeId × List CV) → List (Nat × TypeId × List CV)
 | [], bx => bx
 | p :: B, bx => (p.2.1, p.2.2.1, p.2.2.2) :: addB B bx
@[reducible] def St.adds (σ : St) (B : Vars) : St := ⟨addT B σ.tm, addB B σ.bx, σ.ks⟩
def setAll (listed : Array Bool) : List Nat → Array Bool
 | [] => listed
 | j :: js => (setAll listed js).setIfInBounds j true
theorem setAll_size (listed : Array Bool) : ∀ js, (setAll listed js).size = listed.size
 | [] => rfl
 | j :: js => by rw [setAll, Array.size_setIfInBounds, setAll_size listed js]
theorem setAll_get (listed : Array Bool) (k : Nat) (hk : k < listed.size) : ∀ js, (setAll listed js)[k]? = some (listed[k] || js.contains k)
 | [] => by simp [setAll, Array.getElem?_eq_getElem hk]
 | j :: js => by
  have ih := setAll_get listed k hk js
  have e : setAll listed (j :: js) = (setAll listed js).setIfInBounds j true := rfl
  rw [e, Array.getElem?_setIfInBounds, ih, List.contains_cons, setAll_size]
  by_cases h : j = k
  ·subst h; simp [hk]
  ·have h2 : (k == j) = false := by simpa using fun e => h e.symm
   rw [if_neg h, h2, Bool.false_or]
theorem setAll_ext {listed : Array Bool} {js ks : List Nat} (h : ∀ k, js.contains k = ks.contains k) : setAll listed js = setAll listed ks := by
 apply Array.ext_getElem?
 intro k
 by_cases h1 : k < listed.size
 ·rw [setAll_get listed k h1, setAll_get listed k h1, h]
 ·rw [Array.getElem?_eq_none (by rw [setAll_size]; omega), Array.getElem?_eq_none (by rw [setAll_size]; omega)]
theorem setAll_set {listed : Array Bool} {i : Nat} : ∀ {js : List Nat}, i ∉ js → setAll (listed.setIfInBounds i true) js = (setAll listed js).setIfInBounds i true
 | [], _ => rfl
 | j :: js, h => by
  simp only [List.mem_cons, not_or] at h
  rw [setAll, setAll_set h.2, setAll, Array.setIfInBounds_comm _ _ h.1]
@[reducible] def nos (B : Vars) : List Nat := B.map fun p => p.1
section
variable {σ σ' : St}
theorem look_addT {B : Vars} {tm : List (Nat × SV)} (j : Nat) : look (addT B tm) j = if (B.map fun p => p.2.1).contains j then some (.box j 0) else look tm j := by
 induction B with
 | nil => simp [addT]
 | cons p B ih =>
  simp only [addT, look_cons, List.map_cons, List.contains_cons, ih]
  by_cases h : j = p.2.1
  ·simp [h]
  ·have h2 : (j == p.2.1) = false := by simpa using h
   rw [if_neg h, h2, Bool.false_or]
def lookV : Vars → Nat → Option (TypeId × List CV)
 | [], _ => none
 | p :: B, j => if j = p.2.1 then some (p.2.2.1, p.2.2.2) else lookV B j
theorem look_addB {B : Vars} {bx : List (Nat × TypeId × List CV)} (j : Nat) : look (addB B bx) j = (lookV B j).or (look bx j) := by
 induction B with
 | nil => simp [addB, lookV]
 | cons p B ih =>
  simp only [addB, look_cons, lookV, ih]
  split <;> simp
theorem lookV_none {B : Vars} {j : Nat} (h : ∀ p ∈ B, p.2.1 ≠ j) : lookV B j = none := by
 induction B with
 | nil => rfl
 | cons p B ih =>
  rw [lookV, if_neg (fun e => h p (by simp) e.symm)]
  exact ih fun q hq => h q (by simp [hq])
theorem lookV_mem {B : Vars} (hn : (B.map fun p => p.2.1).Nodup) {p : Nat × Nat × Nat × List CV} (hp : p ∈ B) : lookV B p.2.1 = some (p.2.2.1, p.2.2.2) := by
 induction B with
 | nil => simp at hp
 | cons q B ih =>
  simp only [List.map_cons, List.nodup_cons] at hn
  rw [lookV]
  rcases List.mem_cons.1 hp with rfl | hp
  ·simp
  ·rw [if_neg (fun e => hn.1 (by rw [← e]; exact List.mem_map.2 ⟨p, hp, rfl⟩))]
   exact ih hn.2 hp
variable {P : Program} {C : Ctx} {nt : Nat} {L : Lyt} {a : Act} {w : World}
theorem Rel.sub' (h : Rel P C nt L σ' a w) (h1 : ∀ i v, look σ.tm i = some v → look σ'.tm i = some v) (h2 : ∀ i x, look σ.bx i = some x → look σ'.bx i = some x) (h3 : ∀ k c, lkk σ k = some c → lkk σ' k = some c) (h4 : σ.okB = true) : Rel P C nt L σ a w := by
 simp only [St.okB, Bool.and_eq_true, List.all_eq_true] at h4
 exact {
  df := h.df, sz := h.sz
  tm := fun i v hv => h.tm i v (h1 i v hv)
  bx := fun i t cs hx => h.bx i t cs (h2 i _ hx)
  ks := fun k c hc => h.ks k c (h3 k c hc)
  b1 := fun i x hx => h.b1 i x (h2 i _ hx)
  k1 := fun k c hc => h.k1 k c (h3 k c hc)
  kn := fun k c hc => h.kn k c (h3 k c hc)
  bb := fun i j x y hx hy => h.bb i j x y (h2 i _ hx) (h2 j _ hy)
  bk := fun i k x c hx hc => h.bk i k x c (h2 i _ hx) (h3 k c hc)
  kk := fun k j c d hc hd => h.kk k j c d (h3 k c hc) (h3 j d hd)
  lk := h4.1, lb := h4.2
  s0 := h.s0, chg := h.chg }
structure VOk (P : Program) (all : Array Oper) (nt : Nat) (A : Vars) (σ : St) : Prop where
 op : ∀ p ∈ A, ∃ o, all[p.1]? = some o ∧ o.guard = none ∧ o.dst = some p.2.1 ∧ o.op = .alloc p.2.2.1
 ty : ∀ p ∈ A, ∃ T sz by_, TTOk P T ∧ look T.el p.2.2.1 = some (sz, by_, p.2.2.2)
 lt : ∀ p ∈ A, p.2.1 < nt
 zk : ∀ p ∈ A, p.2.2.2.flatMap CV.keys = []
 bn : ∀ p ∈ A, look σ.bx p.2.1 = none
 tn : ∀ p ∈ A, look σ.tm p.2.1 = none
 nd : (A.map fun p => p.2.1).Nodup
 ni : (nos A).Nodup
 ok : σ.okB = true
theorem VOk.okA {all : Array Oper} {A : Vars} (h : VOk P all nt A σ) {B : Vars} (hB : ∀ p ∈ B, p ∈ A) : (σ.adds B).okB = true := by
 have h0 := h.ok
 simp only [St.okB, Bool.and_eq_true, List.all_eq_true] at h0 ⊢
 have hbx : ∀ b, (look σ.bx b).isSome = true → (look (addB B σ.bx) b).isSome = true := fun b hb => by
  rw [look_addB]; cases lookV B b <;> simp [hb]
 have hin : ∀ {B : Vars} (hB : ∀ p ∈ B, p ∈ A), ∀ p ∈ B, (look (addB B σ.bx) p.2.1).isSome = true := by
  intro B
  induction B with
  | nil => intro _ p hp; simp at hp
  | cons q B ih =>
   intro hB p hp
   simp only [addB, look_cons]
   split
   ·rfl
   ·rcases List.mem_cons.1 hp with rfl | hp
    ·rename_i e; exact absurd rfl e
    ·exact ih (fun r hr => hB r (by simp [hr])) p hp
 constructor
 ·intro k hk
  refine h0.1 k ?_
  simp only [St.tk, List.mem_append] at hk ⊢
  have key : ∀ {B : Vars}, (∀ p ∈ B, p ∈ A) → (k ∈ (addT B σ.tm).flatMap (fun p => p.2.keys) → k ∈ σ.tm.flatMap fun p => p.2.keys) ∧ (k ∈ (addB B σ.bx).flatMap (fun p => p.2.2.flatMap CV.keys) → k ∈ σ.bx.flatMap fun p => p.2.2.flatMap CV.keys) := by
   intro B
   induction B with
   | nil => intro _; exact ⟨id, id⟩
   | cons p B ih =>
    intro hB
    obtain ⟨i1, i2⟩ := ih fun q hq => hB q (by simp [hq])
    refine ⟨fun hm => i1 ?_, fun hm => i2 ?_⟩
    ·simpa [addT, SV.keys] using hm
    ·simpa [addB, h.zk p (hB p (by simp))] using hm
  rcases hk with hk | hk
  ·exact .inl ((key hB).1 hk)
  ·exact .inr ((key hB).2 hk)
 ·intro b hb
  have key : ∀ {B : Vars}, b ∈ (addT B σ.tm).flatMap (fun p => p.2.boxes) → b ∈ σ.tm.flatMap (fun p => p.2.boxes) ∨ ∃ p ∈ B, b = p.2.1 := by
   intro B
   induction B with
   | nil => intro hm; exact .inl hm
   | cons p B ih =>
    intro hm
    simp only [addT, List.flatMap_cons, SV.boxes, List.mem_append, List.mem_singleton] at hm
    rcases hm with hm | hm
    ·exact .inr ⟨p, by simp, hm⟩
    ·rcases ih hm with hm | ⟨q, hq, e⟩
     ·exact .inl hm
     ·exact .inr ⟨q, by simp [hq], e⟩
  rcases key hb with hb | ⟨p, hp, rfl⟩
  ·exact hbx b (h0.2 b hb)
  ·exact hin hB p hp
theorem VOk.tmE {all : Array Oper} {A : Vars} (h : VOk P all nt A σ) {B : Vars} (hB : ∀ p ∈ B, p ∈ A) (i : Nat) (v : SV) (hv : look σ.tm i = some v) : look (σ.adds B).tm i = some v := by
 rw [look_addT, if_neg]
 ·exact hv
 ·simp only [List.contains_iff_mem, List.mem_map, not_exists, not_and]
  intro p hp e
  rw [← e, h.tn p (hB p hp)] at hv
  cases hv
theorem VOk.bxE {all : Array Oper} {A : Vars} (h : VOk P all nt A σ) {B : Vars} (hB : ∀ p ∈ B, p ∈ A) (i : Nat) (x : TypeId × List CV) (hv : look σ.bx i = some x) : look (σ.adds B).bx i = some x := by
 rw [look_addB, lookV_none, Option.none_or]
 ·exact hv
 ·intro p hp e
  rw [← e, h.bn p (hB p hp)] at hv
  cases hv
theorem VOk.drop {all : Array Oper} {A : Vars} (h : VOk P all nt A σ) {B : Vars} (hB : ∀ p ∈ B, p ∈ A) (hr : Rel P C nt L (σ.adds B) a w) : Rel P C nt L σ a w :=
 hr.sub' (h.tmE hB) (h.bxE hB) (fun k c hc => hc) h.ok
/-! ### what holds of a state holds of a greater one -/
structure Ext (P : Program) (C : Ctx) (nt : Nat) (σ σ' : St) : Prop where
 rel : ∀ L a w, Rel P C nt L σ' a w → Rel P C nt L σ a w
 bx : ∀ i x, look σ.bx i = some x → look σ'.bx i = some x
 ks : σ'.ks = σ.ks
theorem VOk.ext {all : Array Oper} {A : Vars} (h : VOk P all nt A σ) {B : Vars} (hB : ∀ p ∈ B, p ∈ A) : Ext P C nt σ (σ.adds B) := ⟨fun _ _ _ hr => h.drop hB hr, h.bxE hB, rfl⟩
theorem Ext.lkk (h : Ext P C nt σ σ') (k : Nat) : lkk σ' k = Go.Proofs.YtcgmpjedhbhplaaGreat.lkk σ k := by simp only [Go.Proofs.YtcgmpjedhbhplaaGreat.lkk, h.ks]
theorem Ext.ev (h : Ext P C nt σ σ') {x : Operand} {v : SV} (hx : Ev P C nt σ x v) : Ev P C nt σ' x v := Ev.mk fun L a w hr => hx.run L a w (h.rel L a w hr)
theorem Ext.pu (h : Ext P C nt σ σ') {o : Oper} {v : SV} {Ks Bs : List Nat} (hx : Pu P C nt o σ v Ks Bs) : Pu P C nt o σ' v Ks Bs := Pu.mk fun L a w hr => hx.run L a w (h.rel L a w hr)
theorem Ext.argC (h : Ext P C nt σ σ') {c u : CV} (hx : ArgC σ c u) : ArgC σ' c u := by
 cases c with
 | key k => simp only [ArgC, h.lkk] at hx ⊢; exact hx
 | dv K d => exact hx
 | nest k o d => exact hx
 | arg i d => exact hx
 | nil => exact hx
 | any => exact hx
theorem Ext.argCs (h : Ext P C nt σ σ') : ∀ {cs us : List CV}, ArgCs σ cs us → ArgCs σ' cs us
 | [], _, hx => hx
 | c :: cs, _, ⟨u, us', e, h1, h2⟩ => ⟨u, us', e, h.argC h1, h.argCs h2⟩
theorem Ext.cloB (h : Ext P C nt σ σ') : ∀ {bs : List Nat} {dss : List (List DV)}, CloB σ bs dss → CloB σ' bs dss
 | [], _, hx => hx
 | b :: bs, _, ⟨ds, dss', t, e, h1, h2⟩ => ⟨ds, dss', t, e, h.bx b _ h1, h.cloB h2⟩
theorem Ext.argS (h : Ext P C nt σ σ') {v u : SV} (hx : ArgS σ v u) : ArgS σ' v u := by
 cases v with
 | one c => obtain ⟨c', h1, e⟩ := hx; exact ⟨c', h.argC h1, e⟩
 | agg cs => obtain ⟨c', h1, e⟩ := hx; exact ⟨c', h.argCs h1, e⟩
 | ref K ds => exact hx
 | fn f caps => exact hx
 | clo f bs => obtain ⟨caps, h1, e⟩ := hx; exact ⟨caps, h.cloB h1, e⟩
 | _ => exact hx
theorem Ext.args (h : Ext P C nt σ σ') : ∀ {xs : List Operand} {us : List SV}, ArgSs P C nt σ xs us → ArgSs P C nt σ' xs us
 | [], _, hx => hx
 | x :: xs, _, ⟨v, u, us', e, h1, h2, h3⟩ => ⟨v, u, us', e, h.ev h1, h.argS h2, h.args h3⟩
end
/-! ### the judgement -/
structure OpsA (P : Program) (C : Ctx) (nt : Nat) (Q : Exit → St → Prop) (all : Array Oper) (oB oK : List Nat) (hd : Nat → Bool) (A : Vars) (listed : Array Bool) (fuel : Nat) (σ : St) : Prop where
 run : ∀ m : Nat → Bool, ∀ wb L a w, Rel P C nt L (σ.adds (A.filter fun p => m p.1)) a w → SW wb w → C.w0.heap.size ≤ wb.heap.size → (∀ i ∈ oB, L.bb i < wb.heap.size) → (∀ k ∈ oK, ∀ b ∈ L.fp k, b < wb.heap.size) →
  wpAnyT P .any all (QQ P C nt Q) (SW wb) hd (fuel + (A.filter fun p => !m p.1).length) (setAll listed (nos (A.filter fun p => m p.1))) a w
section
variable {P : Program} {C : Ctx} {nt : Nat} {Q : Exit → St → Prop} {all : Array Oper} {oB oK : List Nat} {hd' : Nat → Bool} {A : Vars} {listed : Array Bool} {fuel : Nat} {o : Oper} {d : Nat} {v X : SV} {Ks Bs : List Nat} {g : Bool} {σ σ₁ : St}
def subs {α : Type} : List α → List (List α)
 | [] => [[]]
 | x :: xs => (subs xs).map (x :: ·) ++ subs xs
theorem mem_subs {α : Type} (m : α → Bool) : ∀ l : List α, l.filter m ∈ subs l
 | [] => by simp [subs]
 | x :: xs => by
  have ih := mem_subs m xs
  rw [List.filter_cons, subs]
  split
  ·exact List.mem_append.2 (.inl (List.mem_map.2 ⟨_, ih, rfl⟩))
  ·exact List.mem_append.2 (.inr ih)
def readyI (all : Array Oper) (listed : Array Bool) (A : Vars) (i : Nat) : Bool := (subs A).all fun B =>
 (Region.ready .any all (setAll listed (nos B))).contains i && (Region.ready .any all (setAll listed (nos B))).all fun j => j == i || ((nos A).contains j && !(nos B).contains j)
def readyN (all : Array Oper) (listed : Array Bool) (A : Vars) : Bool := (subs A).all fun B =>
 B.length == A.length || (!(Region.ready .any all (setAll listed (nos B))).isEmpty && (Region.ready .any all (setAll listed (nos B))).all fun j => (nos A).contains j && !(nos B).contains j)
def takeA (hd : Nat → Bool) (all : Array Oper) (listed : Array Bool) (A : Vars) (i : Nat) : Bool := (subs A).all fun B => takeB .any all hd (setAll listed (nos B)) i
def takeAX (hd : Nat → Bool) (all : Array Oper) (listed : Array Bool) (A : Vars) (i : Nat) : Bool := (subs A).all fun B => takeXB .any all hd (setAll listed (nos B)) i
theorem vfilt_sub (m : Nat → Bool) : A.filter (fun p => m p.1) ∈ subs A := mem_subs _ A
theorem vfilt_nos {m : Nat → Bool} {j : Nat} (hA : (nos A).contains j = true) (h : (nos (A.filter fun p => m p.1)).contains j = false) : m j = false := by
 simp only [List.contains_iff_mem, List.mem_map] at hA
 obtain ⟨p, hp, rfl⟩ := hA
 cases hm : m p.1 with
 | false => rfl
 | true =>
  have : (nos (A.filter fun p => m p.1)).contains p.1 = true := by
   simp only [List.contains_iff_mem, List.mem_map]
   exact ⟨p, List.mem_filter.2 ⟨hp, hm⟩, rfl⟩
  rw [this] at h; cases h
theorem vfilt_len : ∀ {A : Vars} {m : Nat → Bool} {j : Nat}, (nos A).Nodup → j ∈ nos A → m j = false → (A.filter fun p => !m p.1).length = (A.filter fun p => !(m p.1 || p.1 == j)).length + 1
 | [], _, _, _, h, _ => by simp at h
 | p :: A, m, j, hn, h, hm => by
  simp only [List.map_cons, List.nodup_cons] at hn
  simp only [List.map_cons, List.mem_cons] at h
  by_cases e : p.1 = j
  ·subst e
   have h1 : (A.filter fun q => !m q.1) = A.filter fun q => !(m q.1 || q.1 == p.1) := by
    apply List.filter_congr
    intro q hq
    have : q.1 ≠ p.1 := fun e => hn.1 (by rw [← e]; exact List.mem_map.2 ⟨q, hq, rfl⟩)
    simp [this]
   rw [List.filter_cons, List.filter_cons, hm]
   simp [h1]
  ·have hj : j ∈ nos A := by
    rcases h with h | h
    ·exact absurd h.symm e
    ·exact h
   have ih := vfilt_len hn.2 hj hm
   rw [List.filter_cons, List.filter_cons]
   have e2 : (p.1 == j) = false := by simpa using e
   rw [e2, Bool.or_false]
   split
   ·simp [ih]
   ·exact ih
theorem vfilt_set {m : Nat → Bool} {j : Nat} (hj : j ∈ nos A) : setAll listed (nos (A.filter fun p => m p.1 || p.1 == j)) = (setAll listed (nos (A.filter fun p => m p.1))).setIfInBounds j true := by
 have : (setAll listed (nos (A.filter fun p => m p.1))).setIfInBounds j true = setAll listed (j :: nos (A.filter fun p => m p.1)) := rfl
 rw [this]
 apply setAll_ext
 intro k
 rw [Bool.eq_iff_iff]
 simp only [List.contains_iff_mem, List.mem_map, List.mem_filter, List.mem_cons, Bool.or_eq_true, beq_iff_eq]
 constructor
 ·rintro ⟨p, ⟨hp, h⟩, rfl⟩
  rcases h with h | h
  ·exact .inr ⟨p, ⟨hp, h⟩, rfl⟩
  ·exact .inl h
 ·rintro (rfl | ⟨p, ⟨hp, h⟩, rfl⟩)
  ·obtain ⟨p, hp, rfl⟩ := List.mem_map.1 hj
   exact ⟨p, ⟨hp, .inr rfl⟩, rfl⟩
  ·exact ⟨p, ⟨hp, .inl h⟩, rfl⟩
theorem vfm {m : Nat → Bool} : ∀ p ∈ A.filter (fun p => m p.1), p ∈ A := fun p hp => (List.mem_filter.1 hp).1
theorem lay_one_var (h : VOk P all nt A σ) {m : Nat → Bool} {j : Nat} (hj : j ∈ nos A) (hm : m j = false) {L : Lyt} {a : Act} {w wb : World} (hr : Rel P C nt L (σ.adds (A.filter fun p => m p.1)) a w) (hs : SW wb w) (hB : ∀ i ∈ oB, L.bb i < wb.heap.size) (hK : ∀ k ∈ oK, ∀ b ∈ L.fp k, b < wb.heap.size)
  (hob : (oB.all fun i => (look σ.bx i).isSome) = true) (hok : (oK.all fun k => (lkk σ k).isSome) = true) (K : Act → World → Prop) (Q' : Exit → Act → World → Prop)
  (hk : ∀ L' a' w', Rel P C nt L' (σ.adds (A.filter fun p => m p.1 || p.1 == j)) a' w' → SW wb w' → (∀ i ∈ oB, L'.bb i < wb.heap.size) → (∀ k ∈ oK, ∀ b ∈ L'.fp k, b < wb.heap.size) → K a' w') : ∃ oj, all[j]? = some oj ∧ oj.guard = none ∧ oj.wp P a w K Q' := by
 obtain ⟨p, hp, rfl⟩ := List.mem_map.1 hj
 obtain ⟨oj, h1, h2, h3, h4⟩ := h.op p hp
 obtain ⟨T, sz, by_, hT, ht⟩ := h.ty p hp
 refine ⟨oj, h1, h2, ?_⟩
 have hout : ∀ q ∈ A.filter (fun p => m p.1), q.2.1 ≠ p.2.1 := fun q hq e => by
  obtain ⟨hq1, hq2⟩ := List.mem_filter.1 hq
  have : q = p := by
   have key : ∀ {l : Vars}, (l.map fun p => p.2.1).Nodup → q ∈ l → p ∈ l → q = p := by
    intro l
    induction l with
    | nil => intro _ h; simp at h
    | cons x l ih =>
     intro hn h1 h2
     simp only [List.map_cons, List.nodup_cons] at hn
     rcases List.mem_cons.1 h1 with e1 | e1 <;> rcases List.mem_cons.1 h2 with e2 | e2
     ·rw [e1, e2]
     ·exact absurd (List.mem_map.2 ⟨p, e2, by rw [← e, e1]⟩ : x.2.1 ∈ l.map fun p => p.2.1) hn.1
     ·exact absurd (List.mem_map.2 ⟨q, e1, by rw [e, e2]⟩ : x.2.1 ∈ l.map fun p => p.2.1) hn.1
     ·exact ih hn.2 e1 e2
   exact key h.nd hq1 hp
  subst this
  rw [hm] at hq2; cases hq2
 have hbn : look (σ.adds (A.filter fun p => m p.1)).bx p.2.1 = none := by
  rw [look_addB, lookV_none hout, Option.none_or]; exact h.bn p hp
 have hef := efg_alloc (P := P) (C := C) (nt := nt) (σ := σ.adds (A.filter fun p => m p.1)) hT h4 h3 (by simpa [Nat.blt_eq] using h.lt p hp) ht hbn
 refine hef.run L a w hr K Q' fun L' σ' a' w' e h5 h6 => hk L' a' w' ?_ (hs.chg h6.chg) (fun i hi => ?_) (fun k hk' => ?_)
 ·subst e
  have hmm : ∀ q ∈ A.filter (fun q => m q.1 || q.1 == p.1), q ∈ A.filter (fun q => m q.1) ∨ q = p := fun q hq => by
   obtain ⟨hq1, hq2⟩ := List.mem_filter.1 hq
   simp only [Bool.or_eq_true, beq_iff_eq] at hq2
   rcases hq2 with hq2 | hq2
   ·exact .inl (List.mem_filter.2 ⟨hq1, hq2⟩)
   ·right
    have key : ∀ {l : Vars}, (nos l).Nodup → q ∈ l → p ∈ l → q = p := by
     intro l
     induction l with
     | nil => intro _ h; simp at h
     | cons x l ih =>
      intro hn h1 h2
      simp only [List.map_cons, List.nodup_cons] at hn
      rcases List.mem_cons.1 h1 with e1 | e1 <;> rcases List.mem_cons.1 h2 with e2 | e2
      ·rw [e1, e2]
      ·exact absurd (List.mem_map.2 ⟨p, e2, by rw [← hq2, e1]⟩ : x.1 ∈ nos l) hn.1
      ·exact absurd (List.mem_map.2 ⟨q, e1, by rw [hq2, e2]⟩ : x.1 ∈ nos l) hn.1
      ·exact ih hn.2 e1 e2
    exact key h.ni hq1 hp
  refine h5.sub' (fun i u hu => ?_) (fun i x hx => ?_) (fun k c hc => hc) (h.okA fun p hp => (List.mem_filter.1 hp).1)
  ·simp only [St.put, look_cons]
   rw [look_addT] at hu ⊢
   split at hu
   ·rename_i hc
    simp only [List.contains_iff_mem, List.mem_map] at hc
    obtain ⟨q, hq, rfl⟩ := hc
    rcases hmm q hq with hq | rfl
    ·rw [if_neg (hout q hq), if_pos (by simp only [List.contains_iff_mem, List.mem_map]; exact ⟨q, hq, rfl⟩)]
     exact hu
    ·rw [if_pos rfl]; exact hu
   ·rename_i hc
    split
    ·rename_i e; rw [e, h.tn p hp] at hu; cases hu
    ·split
     ·rename_i h7
      exfalso
      apply hc
      simp only [List.contains_iff_mem, List.mem_map] at h7 ⊢
      obtain ⟨q, hq, e⟩ := h7
      obtain ⟨hq1, hq2⟩ := List.mem_filter.1 hq
      exact ⟨q, List.mem_filter.2 ⟨hq1, by simp [hq2]⟩, e⟩
     ·exact hu
  ·simp only [St.put, look_cons]
   rw [look_addB] at hx ⊢
   have hnd' : ((A.filter fun q => m q.1 || q.1 == p.1).map fun p => p.2.1).Nodup := (List.Sublist.map _ List.filter_sublist).nodup h.nd
   have hnd2 : ((A.filter fun q => m q.1).map fun p => p.2.1).Nodup := (List.Sublist.map _ List.filter_sublist).nodup h.nd
   by_cases hq : ∃ q ∈ A.filter (fun q => m q.1 || q.1 == p.1), q.2.1 = i
   ·obtain ⟨q, hq, rfl⟩ := hq
    rw [lookV_mem hnd' hq, Option.some_or] at hx
    rcases hmm q hq with hq | rfl
    ·rw [if_neg (hout q hq), lookV_mem hnd2 hq, Option.some_or]; exact hx
    ·rw [if_pos rfl]; exact hx
   ·rw [lookV_none (fun q hq' e => hq ⟨q, hq', e⟩), Option.none_or] at hx
    split
    ·rename_i e; rw [e, h.bn p hp] at hx; cases hx
    ·rw [lookV_none (fun q hq' e => hq ⟨q, List.mem_filter.2 ⟨(List.mem_filter.1 hq').1, by simp [(List.mem_filter.1 hq').2]⟩, e⟩), Option.none_or]
     exact hx
 ·obtain ⟨x, hx⟩ := Option.isSome_iff_exists.1 (List.all_eq_true.1 hob i hi)
  rw [h6.box i x (h.bxE vfm i x hx)]; exact hB i hi
 ·obtain ⟨c, hc⟩ := Option.isSome_iff_exists.1 (List.all_eq_true.1 hok k hk')
  rw [h6.key k c hc]; exact hK k hk'
theorem wpOp_inl {ops : Array Oper} {Q' : Exit → Act → World → Prop} {i : Nat} {oi : Oper} {K : Act → World → Prop} {a : Act} {w : World} (hi : ops[i]? = some oi) (hg : oi.guard = none) (h : oi.wp P a w K Q') : wpOp P ops Q' i K a w := by
 unfold wpOp
 simp only [hi]
 have hw : Region.wanted oi (yielded ops a.tmps) = true := by simp [Region.wanted, hg]
 rw [if_pos hw]
 exact .inl h
theorem d_vars0 (A : Vars) (h : OpsA P C nt Q all oB oK hd' A listed fuel σ) : OpsD P C nt Q all oB oK hd' listed (fuel + A.length) σ := ⟨fun wb L a w hr hs hw hB hK => by
 have e1 : A.filter (fun p => (fun _ : Nat => false) p.1) = [] := by rw [List.filter_eq_nil_iff]; simp
 have e2 : A.filter (fun p => !(fun _ : Nat => false) p.1) = A := by rw [List.filter_eq_self]; simp
 have := h.run (fun _ => false) wb L a w (by rw [e1]; exact hr) hs hw hB hK
 rw [e1, e2] at this
 exact this⟩
theorem a_exit (hv : VOk P all nt A σ) (hob : (oB.all fun i => (look σ.bx i).isSome) = true) (hok : (oK.all fun k => (lkk σ k).isSome) = true) (hr0 : readyN all listed A = true) (h : OpsD P C nt Q all oB oK hd' (setAll listed (nos A)) fuel (σ.adds A)) : OpsA P C nt Q all oB oK hd' A listed fuel σ := by
 refine ⟨fun m => ?_⟩
 obtain ⟨n, hn⟩ : ∃ n, n = (A.filter fun p => !m p.1).length := ⟨_, rfl⟩
 induction n generalizing m with
 | zero =>
  intro wb L a w hr hs hw hB hK
  have hall : A.filter (fun p => m p.1) = A := by
   rw [List.filter_eq_self]
   intro p hp
   cases hm : m p.1 with
   | true => rfl
   | false =>
    have : p ∈ A.filter fun p => !m p.1 := List.mem_filter.2 ⟨hp, by simp [hm]⟩
    rw [List.eq_nil_of_length_eq_zero hn.symm] at this
    simp at this
  rw [← hn, hall]
  rw [hall] at hr
  exact h.run wb L a w hr hs hw hB hK
 | succ n ih =>
  intro wb L a w hr hs hw hB hK
  have h1 := List.all_eq_true.1 hr0 _ (vfilt_sub m)
  rw [← hn]
  simp only [Bool.or_eq_true, beq_iff_eq, Bool.and_eq_true, Bool.not_eq_true', List.all_eq_true] at h1
  rcases h1 with h1 | ⟨h1, h2⟩
  ·exfalso
   have : A.filter (fun p => m p.1) = A := List.Sublist.eq_of_length List.filter_sublist h1
   rw [List.filter_eq_self] at this
   have h3 : (A.filter fun p => !m p.1) = [] := by rw [List.filter_eq_nil_iff]; intro p hp; simp [this p hp]
   rw [h3] at hn; simp at hn
  ·refine ⟨fun e => (by rw [e] at h1; simp at h1), fun j hj => ?_⟩
   obtain ⟨g1, g2⟩ := h2 j hj
   have hjA : j ∈ nos A := by simpa using g1
   have hmj := vfilt_nos g1 g2
   have hlen := vfilt_len hv.ni hjA hmj
   obtain ⟨oj, k1, k2, k3⟩ := lay_one_var (Q' := QQ P C nt Q) (K := fun a' w' => (hd' j = true → SW wb w') ∧ wpAnyT P .any all (QQ P C nt Q) (SW wb) hd' (fuel + n) ((setAll listed (nos (A.filter fun p => m p.1))).setIfInBounds j true) a' w') hv hjA hmj hr hs hB hK hob hok
    (fun L' a' w' q1 q2 q3 q4 => ⟨fun _ => q2, by
     have := ih (fun i => m i || i == j) (by omega) wb L' a' w' q1 q2 hw q3 q4
     rw [vfilt_set hjA] at this
     rw [show n = (A.filter fun p => !(m p.1 || p.1 == j)).length by omega]
     exact this⟩)
   exact wpOp_inl k1 k2 k3
theorem a_step (i : Nat) (hi : all[i]? = some o) (hg : o.guard = none) (hv : VOk P all nt A σ) (hiA : (nos A).contains i = false) (hob : (oB.all fun i => (look σ.bx i).isSome) = true) (hok : (oK.all fun k => (lkk σ k).isSome) = true) (hr0 : readyI all listed A i = true)
  (hp : ∀ B : Vars, (∀ p ∈ B, p ∈ A) → EfG P C nt o (σ.adds B) (fun σ' => σ' = σ₁.adds B ∨ ∀ L a w, Rel P C nt L σ' a w → Rel P C nt L (σ₁.adds B) a w)) (h : OpsA P C nt Q all oB oK hd' A (listed.setIfInBounds i true) fuel σ₁) : OpsA P C nt Q all oB oK hd' A listed (fuel + 1) σ := by
 refine ⟨fun m => ?_⟩
 obtain ⟨n, hn⟩ : ∃ n, n = (A.filter fun p => !m p.1).length := ⟨_, rfl⟩
 induction n generalizing m with
 | zero =>
  intro wb L a w hr hs hw hB hK
  have h1 := List.all_eq_true.1 hr0 _ (vfilt_sub m)
  simp only [Bool.and_eq_true, List.all_eq_true, Bool.or_eq_true, beq_iff_eq, Bool.not_eq_true'] at h1
  rw [← hn]
  refine ⟨fun e => (by rw [e] at h1; simp at h1), fun j hj => ?_⟩
  rcases h1.2 j hj with rfl | ⟨g1, g2⟩
  ·refine wpOp_inl hi hg ((hp _ vfm).run L a w hr _ _ fun L' σ' a' w' e h5 h6 => ⟨fun _ => hs.chg h6.chg, ?_⟩)
   have h7 : Rel P C nt L' (σ₁.adds (A.filter fun p => m p.1)) a' w' := by
    rcases e with e | e
    ·rw [← e]; exact h5
    ·exact e _ _ _ h5
   have := h.run m wb L' a' w' h7 (hs.chg h6.chg) hw (fun i hi => by
    obtain ⟨x, hx⟩ := Option.isSome_iff_exists.1 (List.all_eq_true.1 hob i hi)
    rw [h6.box i x (hv.bxE vfm i x hx)]; exact hB i hi) (fun k hk' => by
    obtain ⟨c, hc⟩ := Option.isSome_iff_exists.1 (List.all_eq_true.1 hok k hk')
    rw [h6.key k c hc]; exact hK k hk')
   rw [← hn, setAll_set (fun hm => by
    obtain ⟨p, hp', e⟩ := List.mem_map.1 hm
    have : (nos A).contains j = true := by simp only [List.contains_iff_mem, List.mem_map]; exact ⟨p, vfm p hp', e⟩
    rw [this] at hiA; cases hiA)] at this
   exact this
  ·exfalso
   have hmj := vfilt_nos g1 g2
   obtain ⟨p, hp', rfl⟩ := List.mem_map.1 (by simpa using g1 : j ∈ nos A)
   have : p ∈ A.filter fun p => !m p.1 := List.mem_filter.2 ⟨hp', by simp [hmj]⟩
   rw [List.eq_nil_of_length_eq_zero hn.symm] at this
   simp at this
 | succ n ih =>
  intro wb L a w hr hs hw hB hK
  have h1 := List.all_eq_true.1 hr0 _ (vfilt_sub m)
  simp only [Bool.and_eq_true, List.all_eq_true, Bool.or_eq_true, beq_iff_eq, Bool.not_eq_true'] at h1
  rw [← hn]
  refine ⟨fun e => (by rw [e] at h1; simp at h1), fun j hj => ?_⟩
  rcases h1.2 j hj with rfl | ⟨g1, g2⟩
  ·refine wpOp_inl hi hg ((hp _ vfm).run L a w hr _ _ fun L' σ' a' w' e h5 h6 => ⟨fun _ => hs.chg h6.chg, ?_⟩)
   have h7 : Rel P C nt L' (σ₁.adds (A.filter fun p => m p.1)) a' w' := by
    rcases e with e | e
    ·rw [← e]; exact h5
    ·exact e _ _ _ h5
   have := h.run m wb L' a' w' h7 (hs.chg h6.chg) hw (fun i hi => by
    obtain ⟨x, hx⟩ := Option.isSome_iff_exists.1 (List.all_eq_true.1 hob i hi)
    rw [h6.box i x (hv.bxE vfm i x hx)]; exact hB i hi) (fun k hk' => by
    obtain ⟨c, hc⟩ := Option.isSome_iff_exists.1 (List.all_eq_true.1 hok k hk')
    rw [h6.key k c hc]; exact hK k hk')
   rw [← hn, setAll_set (fun hm => by
    obtain ⟨p, hp', e⟩ := List.mem_map.1 hm
    have : (nos A).contains j = true := by simp only [List.contains_iff_mem, List.mem_map]; exact ⟨p, vfm p hp', e⟩
    rw [this] at hiA; cases hiA)] at this
   rw [show fuel + (n + 1) = fuel + 1 + n by omega] at this
   exact this
  ·have hjA : j ∈ nos A := by simpa using g1
   have hmj := vfilt_nos g1 g2
   have hlen := vfilt_len hv.ni hjA hmj
   obtain ⟨oj, k1, k2, k3⟩ := lay_one_var (Q' := QQ P C nt Q) (K := fun a' w' => (hd' j = true → SW wb w') ∧ wpAnyT P .any all (QQ P C nt Q) (SW wb) hd' (fuel + 1 + n) ((setAll listed (nos (A.filter fun p => m p.1))).setIfInBounds j true) a' w') hv hjA hmj hr hs hB hK hob hok
    (fun L' a' w' q1 q2 q3 q4 => ⟨fun _ => q2, by
     have := ih (fun i => m i || i == j) (by omega) wb L' a' w' q1 q2 hw q3 q4
     rw [vfilt_set hjA] at this
     rw [show n = (A.filter fun p => !(m p.1 || p.1 == j)).length by omega]
     exact this⟩)
   exact wpOp_inl k1 k2 k3
theorem VOk.perm {tm : List (Nat × SV)} {bx : List (Nat × TypeId × List CV)} {ks : List (Nat × Option KC)} (hv : VOk P all nt A ⟨(d, v) :: tm, bx, ks⟩) {B : Vars} (hB : ∀ p ∈ B, p ∈ A) {C : Ctx} {L : Lyt} {a : Act} {w : World} (hr : Rel P C nt L ⟨(d, v) :: addT B tm, addB B bx, ks⟩ a w) : Rel P C nt L (St.adds ⟨(d, v) :: tm, bx, ks⟩ B) a w :=
 hr.sub' (fun i u hu => by
  simp only [look_cons]
  rw [look_addT] at hu ⊢
  split at hu
  ·rename_i hc
   have hne : i ≠ d := by
    rintro rfl
    simp only [List.contains_iff_mem, List.mem_map] at hc
    obtain ⟨q, hq, rfl⟩ := hc
    have := hv.tn q (hB q hq)
    rw [look_cons, if_pos rfl] at this
    cases this
   rw [if_neg hne, if_pos hc]; exact hu
  ·rename_i hc
   simp only [look_cons] at hu
   split at hu
   ·rename_i e; rw [if_pos e]; exact hu
   ·rename_i e; rw [if_neg e, if_neg hc]; exact hu) (fun _ _ h => h) (fun _ _ h => h) (hv.okA hB)
def vokB (all : Array Oper) (nt : Nat) (A : Vars) (tms bxs : List Nat) : Bool :=
 (A.all fun p => (match all[p.1]? with
  | some o => o.guard.isNone && o.dst == some p.2.1 && (match o.op with | .alloc t => t == p.2.2.1 | _ => false)
  | none => false) && Nat.blt p.2.1 nt && !(tms.contains p.2.1) && !(bxs.contains p.2.1)) && nodupB (A.map fun p => p.2.1) && nodupB (nos A)
def VTys (T : TT) : Vars → Prop
 | [] => True
 | p :: A => (∃ sz by_, look T.el p.2.2.1 = some (sz, by_, p.2.2.2)) ∧ p.2.2.2.flatMap CV.keys = [] ∧ VTys T A
theorem VTys.mem {T : TT} : ∀ {A : Vars}, VTys T A → ∀ p ∈ A, (∃ sz by_, look T.el p.2.2.1 = some (sz, by_, p.2.2.2)) ∧ p.2.2.2.flatMap CV.keys = []
 | [], _, p, hp => by simp at hp
 | q :: A, h, p, hp => by
  rcases List.mem_cons.1 hp with rfl | hp
  ·exact ⟨h.1, h.2.1⟩
  ·exact h.2.2.mem p hp
theorem look_out {α : Type} : ∀ {l : List (Nat × α)} {j : Nat}, (l.map fun p => p.1).contains j = false → look l j = none
 | [], _, _ => by simp [look]
 | p :: l, j, h => by
  simp only [List.map_cons, List.contains_cons, Bool.or_eq_false_iff] at h
  obtain ⟨k, x⟩ := p
  rw [look_cons, if_neg (by simpa using h.1)]
  exact look_out h.2
theorem vok {T : TT} (hT : TTOk P T) (ht : VTys T A) (hb : vokB all nt A (σ.tm.map fun p => p.1) (σ.bx.map fun p => p.1) = true) (ho : σ.okB = true) : VOk P all nt A σ := by
 simp only [vokB, Bool.and_eq_true, List.all_eq_true, Bool.not_eq_true'] at hb
 obtain ⟨⟨h1, h2⟩, h3⟩ := hb
 refine ⟨fun p hp => ?_, fun p hp => ?_, fun p hp => by have := (h1 p hp).1.1.2; simpa [Nat.blt_eq] using this, fun p hp => (ht.mem p hp).2, fun p hp => look_out (h1 p hp).2, fun p hp => look_out (h1 p hp).1.2, nodupB_spec h2, nodupB_spec h3, ho⟩
 ·have := (h1 p hp).1.1.1
  split at this
  ·rename_i oj hoj
   simp only [Bool.and_eq_true, beq_iff_eq, Option.isNone_iff_eq_none] at this
   refine ⟨oj, hoj, this.1.1, this.1.2, ?_⟩
   have h4 := this.2
   split at h4
   ·rename_i t e; rw [e]; rw [beq_iff_eq] at h4; rw [h4]
   ·cases h4
  ·cases this
 ·obtain ⟨⟨sz, by_, h⟩, _⟩ := ht.mem p hp
  exact ⟨T, sz, by_, hT, h⟩
/-! the steps, over states that are written out -/
section
variable {tm : List (Nat × SV)} {bx : List (Nat × TypeId × List CV)} {ks : List (Nat × Option KC)}
theorem d_vars {T : TT} {A : Vars} (hT : TTOk P T) (ht : VTys T A) (h : OpsA P C nt Q all oB oK hd' A listed fuel ⟨tm, bx, ks⟩) : OpsD P C nt Q all oB oK hd' listed (fuel + A.length) ⟨tm, bx, ks⟩ := d_vars0 A h
theorem a_exit1 (hv : VOk P all nt A ⟨tm, bx, ks⟩) (hob : (oB.all fun i => (look bx i).isSome) = true) (hok : (oK.all fun k => (lkk ⟨tm, bx, ks⟩ k).isSome) = true) (hr0 : readyN all listed A = true) (h : OpsD P C nt Q all oB oK hd' (setAll listed (nos A)) fuel ⟨addT A tm, addB A bx, ks⟩) : OpsA P C nt Q all oB oK hd' A listed fuel ⟨tm, bx, ks⟩ := a_exit hv hob hok hr0 h
theorem a_take (i : Nat) (hi : all[i]? = some o) (ht : takeA hd' all listed A i = true) (hiA : (nos A).contains i = false) (hg : o.guard = none) (hd : o.dst = some d) (hv : VOk P all nt A ⟨tm, bx, ks⟩) (hv1 : VOk P all nt A ⟨(d, v) :: tm, bx, ks⟩) (hp : Pu P C nt o ⟨tm, bx, ks⟩ v Ks Bs) (h1 : (Ks.all fun k => oK.contains k) = true) (h2 : (Bs.all fun k => oB.contains k) = true) (hn : Nat.blt d nt = true) (hk : svOk ⟨tm, bx, ks⟩ v = true)
  (h : OpsA P C nt Q all oB oK hd' A (listed.setIfInBounds i true) fuel ⟨(d, v) :: tm, bx, ks⟩) : OpsA P C nt Q all oB oK hd' A listed (fuel + 1) ⟨tm, bx, ks⟩ := ⟨fun m wb L a w hr hs hw hB hK => by
 have hx := hv.ext (C := C) (B := A.filter fun p => m p.1) vfm
 obtain ⟨r, h3, h4⟩ := pu_yields hr hs hw hB hK (hx.pu hp) h1 h2
 rw [show fuel + 1 + (A.filter fun p => !m p.1).length = fuel + (A.filter fun p => !m p.1).length + 1 by omega]
 refine T_take i (v := r) hi (List.all_eq_true.1 ht _ (vfilt_sub m)) (fun _ _ _ h => h) hs (.inl ⟨by simp [Region.wanted, hg], h4⟩) ?_
 rw [hd, ← setAll_set (fun hm => by
  obtain ⟨p, hp', e⟩ := List.mem_map.1 hm
  have : (nos A).contains i = true := by simp only [List.contains_iff_mem, List.mem_map]; exact ⟨p, vfm p hp', e⟩
  rw [this] at hiA; cases hiA)]
 refine h.run m wb L _ w (hv1.perm vfm ?_) hs hw hB hK
 refine hr.put (by simpa [Nat.blt_eq] using hn) h3 (svOk_spec hk).1 fun b hb => ?_
 obtain ⟨x, hx'⟩ := Option.isSome_iff_exists.1 ((svOk_spec hk).2 b hb)
 rw [hx.bx b x hx']; rfl⟩
theorem a_takeX (i : Nat) (hi : all[i]? = some o) (ht : takeAX hd' all listed A i = true) (hex : extO o = true) (hiA : (nos A).contains i = false) (hg : o.guard = none) (hd : o.dst = some d) (hv : VOk P all nt A ⟨tm, bx, ks⟩) (hv1 : VOk P all nt A ⟨(d, v) :: tm, bx, ks⟩) (hp : Pu P C nt o ⟨tm, bx, ks⟩ v Ks Bs) (hn : Nat.blt d nt = true) (hk : svOk ⟨tm, bx, ks⟩ v = true)
  (h : OpsA P C nt Q all oB oK hd' A (listed.setIfInBounds i true) fuel ⟨(d, v) :: tm, bx, ks⟩) : OpsA P C nt Q all oB oK hd' A listed (fuel + 1) ⟨tm, bx, ks⟩ := ⟨fun m wb L a w hr hs hw hB hK => by
 have hx := hv.ext (C := C) (B := A.filter fun p => m p.1) vfm
 obtain ⟨r, h3, h4⟩ := (hx.pu hp).run L a w hr
 rw [show fuel + 1 + (A.filter fun p => !m p.1).length = fuel + (A.filter fun p => !m p.1).length + 1 by omega]
 refine T_takeX i (v := r) hi (List.all_eq_true.1 ht _ (vfilt_sub m)) (fun _ _ _ h => h) (.inl ⟨by simp [Region.wanted, hg], fun w' _ => ext_any hex (h4 w fun _ _ _ => rfl) w'⟩) ?_
 rw [hd, ← setAll_set (fun hm => by
  obtain ⟨p, hp', e⟩ := List.mem_map.1 hm
  have : (nos A).contains i = true := by simp only [List.contains_iff_mem, List.mem_map]; exact ⟨p, vfm p hp', e⟩
  rw [this] at hiA; cases hiA)]
 refine h.run m wb L _ w (hv1.perm vfm ?_) hs hw hB hK
 refine hr.put (by simpa [Nat.blt_eq] using hn) h3 (svOk_spec hk).1 fun b hb => ?_
 obtain ⟨x, hx'⟩ := Option.isSome_iff_exists.1 ((svOk_spec hk).2 b hb)
 rw [hx.bx b x hx']; rfl⟩
theorem a_callK (m i : Nat) {f : FuncId} {xs : List Operand} {ats : Array TypeId} {us : List SV} {kk : List (Nat × Option KC)} (hi : all[i]? = some o) (ht : readyI all listed A i = true) (hiA : (nos A).contains i = false) (hg : o.guard = none) (hd : o.dst = some d) (hv : VOk P all nt A ⟨tm, bx, ks⟩) (hv1 : VOk P all nt A ⟨(d, v.sh m) :: tm, bx, shK m kk ++ ks⟩) (ho : o.op = .call { callee := .value (.func f), args := xs.toArray, argTypes := ats })
  (hc : ∀ (args : Array Value) (w : World), (callFunc f args).run P w = .ok (.enter f args) w) (hf : KFn P f us v kk) (ha : ArgSs P C nt ⟨tm, bx, ks⟩ xs us) (hn : Nat.blt d nt = true) (hres : v.retOk = true) (hfree : (kk.all fun q => (lkk ⟨tm, bx, ks⟩ (m + q.1)).isNone) = true)
  (hb : (oB.all fun i => (look bx i).isSome) = true) (hk : (oK.all fun k => (lkk ⟨tm, bx, ks⟩ k).isSome) = true)
  (h : OpsA P C nt Q all oB oK hd' A (listed.setIfInBounds i true) fuel ⟨(d, v.sh m) :: tm, bx, shK m kk ++ ks⟩) : OpsA P C nt Q all oB oK hd' A listed (fuel + 1) ⟨tm, bx, ks⟩ :=
 a_step i hi hg hv hiA hb hk ht (fun B hB => EfG.mk fun L a w hr K Q' hk' =>
  (efg_call (σ := St.adds ⟨tm, bx, ks⟩ B) (ι := Unit) (v := fun _ => v) (kk := fun _ => kk) (p := fun _ => True) m ho hd hn hc hf.ok ((hv.ext hB).args ha) (fun u σ' h => ⟨(), h.1, h.2, trivial⟩) (fun _ => hres) (fun _ => hfree)).run L a w hr K Q' fun L' σ' a' w' h1 h2 h3 => hk' L' σ' a' w' (.inr (by
   obtain ⟨_, _, e⟩ := h1
   subst e
   exact fun L a w hr => hv1.perm hB hr)) h2 h3) h
end
end
end Go.Proofs.YtcgmpjedhbhplaaGreat

namespace Go.Proofs.YtcgmpjedhbhplaaGreat
open Go.RowKit
open Go.Proofs
def TTab : TT where
 sl := [(22, 75), (23, 78), (26, 82), (31, 54), (36, 60), (37, 98), (52, 93), (55, 9), (58, 95), (73, 130), (80, 133), (89, 152), (122, 5), (126, 173)]
 ag := [(7, 4), (13, 2), (24, 4), (25, 4), (27, 1), (28, 1), (32, 1), (33, 1), (38, 4), (39, 4), (53, 5), (54, 5), (59, 3), (60, 3), (74, 3), (75, 3), (77, 2), (78, 2), (81, 5), (82, 5), (87, 3), (88, 3), (90, 1), (91, 1), (92, 7), (93, 7), (94, 4), (95, 4), (98, 2), (125, 3), (127, 1), (128, 1), (129, 4), (130, 4), (132, 7), (133, 7), (151, 2), (152, 2), (173, 2)]
 on := [(2, ()), (3, ()), (4, ()), (5, ()), (9, ()), (12, ()), (21, ()), (22, ()), (23, ()), (26, ()), (31, ()), (36, ()), (37, ()), (52, ()), (55, ()), (58, ()), (73, ()), (80, ()), (89, ()), (120, ()), (122, ()), (126, ()), (146, ()), (148, ())]
 of := [(7000, 0), (7001, 1), (7002, 2), (7003, 3), (13000, 0), (13001, 1), (24000, 0), (24001, 1), (24002, 2), (24003, 3), (25000, 0), (25001, 1), (25002, 2), (25003, 3), (27000, 0), (28000, 0), (32000, 0), (33000, 0), (38000, 0), (38001, 1), (38002, 2), (38003, 3), (39000, 0), (39001, 1), (39002, 2), (39003, 3), (53000, 0), (53001, 1), (53002, 2), (53003, 3), (53004, 4), (54000, 0), (54001, 1), (54002, 2), (54003, 3), (54004, 4), (59000, 0), (59001, 1), (59002, 2), (60000, 0), (60001, 1), (60002, 2), (74000, 0), (74001, 1), (74002, 2), (75000, 0), (75001, 1), (75002, 2), (77000, 0), (77001, 1), (78000, 0), (78001, 1), (81000, 0), (81001, 1), (81002, 2), (81003, 3), (81004, 4), (82000, 0), (82001, 1), (82002, 2), (82003, 3), (82004, 4), (87000, 0), (87001, 1), (87002, 2), (88000, 0), (88001, 1), (88002, 2), (90000, 0), (91000, 0), (92000, 0), (92001, 1), (92002, 2), (92003, 5), (92004, 6), (93000, 0), (93001, 1), (93002, 2), (93003, 5), (93004, 6), (94000, 0), (94001, 3), (95000, 0), (95001, 3), (98000, 0), (98001, 1), (125000, 0), (125001, 1), (125002, 2), (127000, 0), (128000, 0), (129000, 0), (129001, 3), (130000, 0), (130001, 3), (132000, 0), (132001, 1), (132002, 2), (132003, 5), (132004, 6), (133000, 0), (133001, 1), (133002, 2), (133003, 5), (133004, 6), (151000, 0), (151001, 1), (152000, 0), (152001, 1), (173000, 0), (173001, 1)]
 el := [(2, (1, 8, [.dv [] (.int .i64 0)])), (3, (1, 8, [.dv [] (.int .i64 0)])), (4, (1, 1, [.dv [] (.bool false)])), (5, (1, 1, [.dv [] (.int .u8 0)])), (7, (4, 24, [.dv [] (.int .i64 0), .dv [] (.int .i64 0), .dv [] (.bool false), .dv [] (.int .u8 0)])), (9, (1, 16, [.dv [] (.str ByteArray.empty)])), (12, (1, 8, [.dv [] (.int .u64 0)])), (13, (2, 24, [.dv [] (.str ByteArray.empty), .dv [] (.int .u64 0)])), (21, (1, 4, [.dv [] (.int .i32 0)])), (22, (1, 24, [.nil])), (23, (1, 24, [.nil])), (24, (4, 72, [.dv [] (.str ByteArray.empty), .dv [] (.int .i64 0), .nil, .nil])), (25, (4, 72, [.dv [] (.str ByteArray.empty), .dv [] (.int .i64 0), .nil, .nil])), (26, (1, 24, [.nil])), (27, (1, 24, [.nil])), (28, (1, 24, [.nil])), (31, (1, 24, [.nil])), (32, (1, 24, [.nil])), (33, (1, 24, [.nil])), (36, (1, 24, [.nil])), (37, (1, 24, [.nil])), (38, (4, 72, [.dv [] (.str ByteArray.empty), .dv [] (.int .i64 0), .nil, .nil])), (39, (4, 72, [.dv [] (.str ByteArray.empty), .dv [] (.int .i64 0), .nil, .nil])), (52, (1, 24, [.nil])), (53, (5, 72, [.dv [] (.int .i64 0), .nil, .dv [] (.int .i64 0), .dv [] (.int .i64 0), .nil])), (54, (5, 72, [.dv [] (.int .i64 0), .nil, .dv [] (.int .i64 0), .dv [] (.int .i64 0), .nil])), (55, (1, 24, [.nil])), (58, (1, 24, [.nil])), (59, (3, 48, [.dv [] (.str ByteArray.empty), .nil, .dv [] (.int .i64 0)])), (60, (3, 48, [.dv [] (.str ByteArray.empty), .nil, .dv [] (.int .i64 0)])), (73, (1, 24, [.nil])), (74, (3, 48, [.dv [] (.str ByteArray.empty), .nil, .dv [] (.int .i64 0)])), (75, (3, 48, [.dv [] (.str ByteArray.empty), .nil, .dv [] (.int .i64 0)])), (77, (2, 32, [.dv [] (.str ByteArray.empty), .dv [] (.str ByteArray.empty)])), (78, (2, 32, [.dv [] (.str ByteArray.empty), .dv [] (.str ByteArray.empty)])), (80, (1, 24, [.nil])), (81, (5, 72, [.dv [] (.int .i64 0), .nil, .dv [] (.int .i64 0), .dv [] (.int .i64 0), .nil])), (82, (5, 72, [.dv [] (.int .i64 0), .nil, .dv [] (.int .i64 0), .dv [] (.int .i64 0), .nil])), (87, (3, 32, [.dv [] (.int .i64 0), .dv [] (.int .i64 0), .dv [] (.str ByteArray.empty)])), (88, (3, 32, [.dv [] (.int .i64 0), .dv [] (.int .i64 0), .dv [] (.str ByteArray.empty)])), (89, (1, 24, [.nil])), (90, (1, 24, [.nil])), (91, (1, 24, [.nil])), (92, (7, 96, [.dv [] (.int .i64 0), .dv [] (.str ByteArray.empty), .dv [] (.int .i64 0), .dv [] (.int .i64 0), .dv [] (.str ByteArray.empty), .nil, .dv [] (.str ByteArray.empty)])), (93, (7, 96, [.dv [] (.int .i64 0), .dv [] (.str ByteArray.empty), .dv [] (.int .i64 0), .dv [] (.int .i64 0), .dv [] (.str ByteArray.empty), .nil, .dv [] (.str ByteArray.empty)])), (94, (4, 56, [.dv [] (.int .i64 0), .dv [] (.int .i64 0), .dv [] (.str ByteArray.empty), .nil])), (95, (4, 56, [.dv [] (.int .i64 0), .dv [] (.int .i64 0), .dv [] (.str ByteArray.empty), .nil])), (98, (2, 32, [.dv [] (.str ByteArray.empty), .dv [] (.str ByteArray.empty)])), (120, (1, 8, [.dv [] (.int .u64 0)])), (122, (1, 24, [.nil])), (125, (3, 32, [.dv [] (.int .i64 0), .dv [] (.int .i64 0), .dv [] (.str ByteArray.empty)])), (126, (1, 24, [.nil])), (127, (1, 24, [.nil])), (128, (1, 24, [.nil])), (129, (4, 56, [.dv [] (.int .i64 0), .dv [] (.int .i64 0), .dv [] (.str ByteArray.empty), .nil])), (130, (4, 56, [.dv [] (.int .i64 0), .dv [] (.int .i64 0), .dv [] (.str ByteArray.empty), .nil])), (132, (7, 96, [.dv [] (.int .i64 0), .dv [] (.str ByteArray.empty), .dv [] (.int .i64 0), .dv [] (.int .i64 0), .dv [] (.str ByteArray.empty), .nil, .dv [] (.str ByteArray.empty)])), (133, (7, 96, [.dv [] (.int .i64 0), .dv [] (.str ByteArray.empty), .dv [] (.int .i64 0), .dv [] (.int .i64 0), .dv [] (.str ByteArray.empty), .nil, .dv [] (.str ByteArray.empty)])), (146, (1, 4, [.dv [] (.int .u32 0)])), (148, (1, 8, [.dv [] (.int .u64 0)])), (151, (2, 24, [.dv [] (.str ByteArray.empty), .dv [] (.int .i64 0)])), (152, (2, 24, [.dv [] (.str ByteArray.empty), .dv [] (.int .i64 0)])), (173, (2, 24, [.dv [] (.str ByteArray.empty), .dv [] (.int .i64 0)]))]
 st := [(9, ())]
 bo := [(4, ())]
 it := [(2, .i64), (3, .i64), (5, .u8), (12, .u64), (21, .i32), (120, .u64), (146, .u32), (148, .u64)]
def BTab : List (Nat × List (Nat × Nat)) := [(7, [(0, 1), (1, 1), (2, 1), (3, 1)]), (13, [(0, 1), (1, 1)]), (24, [(0, 1), (1, 1), (2, 1), (3, 1)]), (25, [(0, 1), (1, 1), (2, 1), (3, 1)]), (27, [(0, 1)]), (28, [(0, 1)]), (32, [(0, 1)]), (33, [(0, 1)]), (38, [(0, 1), (1, 1), (2, 1), (3, 1)]), (39, [(0, 1), (1, 1), (2, 1), (3, 1)]), (53, [(0, 1), (1, 1), (2, 1), (3, 1), (4, 1)]), (54, [(0, 1), (1, 1), (2, 1), (3, 1), (4, 1)]), (59, [(0, 1), (1, 1), (2, 1)]), (60, [(0, 1), (1, 1), (2, 1)]), (74, [(0, 1), (1, 1), (2, 1)]), (75, [(0, 1), (1, 1), (2, 1)]), (77, [(0, 1), (1, 1)]), (78, [(0, 1), (1, 1)]), (81, [(0, 1), (1, 1), (2, 1), (3, 1), (4, 1)]), (82, [(0, 1), (1, 1), (2, 1), (3, 1), (4, 1)]), (87, [(0, 1), (1, 1), (2, 1)]), (88, [(0, 1), (1, 1), (2, 1)]), (90, [(0, 1)]), (91, [(0, 1)]), (92, [(0, 1), (1, 1), (2, 3), (5, 1), (6, 1)]), (93, [(0, 1), (1, 1), (2, 3), (5, 1), (6, 1)]), (94, [(0, 3), (3, 1)]), (95, [(0, 3), (3, 1)]), (98, [(0, 1), (1, 1)]), (125, [(0, 1), (1, 1), (2, 1)]), (127, [(0, 1)]), (128, [(0, 1)]), (129, [(0, 3), (3, 1)]), (130, [(0, 3), (3, 1)]), (132, [(0, 1), (1, 1), (2, 3), (5, 1), (6, 1)]), (133, [(0, 1), (1, 1), (2, 3), (5, 1), (6, 1)]), (151, [(0, 1), (1, 1)]), (152, [(0, 1), (1, 1)]), (173, [(0, 1), (1, 1)])]

theorem hT : TTOk Tryz.prog TTab := TT.ok (by kernel_rfl)
theorem hB : BOk Tryz.prog BTab := bOk (by kernel_rfl)
@[reducible] def eInt (n : Int) : List DV := [.int .i64 n]
@[reducible] def eStr (s : Str) : List DV := [.str s]
@[reducible] def strsD (bs : List Str) : DV := listD 9 1 eStr bs
@[reducible] def eKey (k : KeyT) : List DV := [.int .i64 k.1, .int .i64 k.2.1, .str k.2.2]
@[reducible] def eField (f : FieldT) : List DV := [.str f.1, .int .i64 f.2]
@[reducible] def fieldsD (r : RecT) : DV := listD 152 2 eField r
@[reducible] def eItem (x : ItemT) : List DV := [.int .i64 x.1.1, .int .i64 x.1.2.1, .str x.1.2.2, fieldsD x.2]
@[reducible] def itemsD (xs : List ItemT) : DV := listD 95 4 eItem xs
@[reducible] def eStore (s : StoreT) : List DV := [.str s.1, itemsD s.2.1, .int .i64 s.2.2]
@[reducible] def storesD (xs : List StoreT) : DV := listD 60 3 eStore xs
@[reducible] def eDef (d : DefT) : List DV := [.str d.1, .str d.2]
@[reducible] def defsD (xs : List DefT) : DV := listD 98 2 eDef xs
@[reducible] def eDb (d : DbT) : List DV := [.str d.1, .int .i64 d.2.1, storesD d.2.2.1, defsD d.2.2.2]
@[reducible] def eOp (o : OpT) : List DV := [.int .i64 o.1, .str o.2.1, .int .i64 o.2.2.1.1, .int .i64 o.2.2.1.2.1, .str o.2.2.1.2.2, fieldsD o.2.2.2.1, .str o.2.2.2.2]
@[reducible] def opsD (xs : List OpT) : DV := listD 93 7 eOp xs
@[reducible] def eTx (t : TxT) : List DV := [.int .i64 t.1, opsD t.2.1, .int .i64 t.2.2.1, .int .i64 t.2.2.2.1, storesD t.2.2.2.2]
@[reducible] def txsD (xs : List TxT) : DV := listD 54 5 eTx xs
end Go.Proofs.YtcgmpjedhbhplaaGreat

namespace Go.Proofs.YtcgmpjedhbhplaaGreat
open Go.RowKit
open Go.Proofs
set_option linter.unusedVariables false
set_option linter.unusedSimpArgs false

theorem toList_loop (s : ByteArray) : ∀ (n i : Nat) (r : List UInt8), s.size - i = n → ByteArray.toList.loop s i r = r.reverse ++ s.data.toList.drop i := by
 intro n
 induction n with
 | zero =>
  intro i r h
  rw [ByteArray.toList.loop, if_neg (by omega), List.drop_eq_nil_of_le (by have : s.data.toList.length = s.size := rfl; omega)]; simp
 | succ n ih =>
  intro i r h
  have hl : s.data.toList.length = s.size := rfl
  have hi : i < s.data.toList.length := by omega
  rw [ByteArray.toList.loop, if_pos (by omega), ih (i + 1) _ (by omega), List.drop_eq_getElem_cons hi]
  have : s.get! i = s.data.toList[i] := by
   rw [ByteArray.get!]
   simp only [Array.getElem_toList]
   exact getElem!_pos s.data i (by simpa using hi)
  rw [this]
  simp
theorem toList_data (s : ByteArray) : s.toList = s.data.toList := by
 rw [ByteArray.toList, toList_loop s _ 0 [] rfl]; simp
end Go.Proofs.YtcgmpjedhbhplaaGreat

namespace Go.Proofs.YtcgmpjedhbhplaaGreat
open Go.RowKit
open Go.Proofs

def hstep (acc v : Int) : Int := (acc * 1000003 + v % 2147483647 + 13) % 2147483647
def hashL (l : List Int) : Int := l.foldl hstep 11
def b2i (n : Nat) (l : List UInt8) : List Int := (n : Int) :: l.map (fun b => (b.toNat : Int))
def checkV (number : Int) (bs : List UInt8) : Int := hashL ([101, number] ++ b2i bs.length bs)
end Go.Proofs.YtcgmpjedhbhplaaGreat

namespace Go.Proofs.YtcgmpjedhbhplaaGreat
open Go.RowKit
open Go.Proofs

def uv (n : Nat) : List UInt8 := if n < 128 then [UInt8.ofNat n] else UInt8.ofNat (n % 128 + 128) :: uv (n / 128)
termination_by n
decreasing_by omega
def appUO (b : List UInt8) (n : Int) : List UInt8 := if 0 ≤ n ∧ n ≤ 1000000000000 then b ++ uv n.toNat else b


end Go.Proofs.YtcgmpjedhbhplaaGreat

namespace Go.Proofs.YtcgmpjedhbhplaaGreat
open Go.RowKit
open Go.Proofs

def appBO (b d : List UInt8) : List UInt8 := appUO b d.length ++ d

end Go.Proofs.YtcgmpjedhbhplaaGreat

namespace Go.Proofs.YtcgmpjedhbhplaaGreat
open Go.RowKit
open Go.Proofs

def logOut (bs : List UInt8) (v : Int) (ds : List UInt8) : List UInt8 := appUO (appBO bs ds) (checkV v ds)
def alBad (bs : List UInt8) (v : Int) (ds : List UInt8) : Prop := v < 0 ∨ 4000 < (logOut bs v ds).length
instance (bs : List UInt8) (v : Int) (ds : List UInt8) : Decidable (alBad bs v ds) := by unfold alBad; infer_instance
end Go.Proofs.YtcgmpjedhbhplaaGreat

namespace Go.Proofs.YtcgmpjedhbhplaaGreat
open Go.RowKit
open Go.Proofs
set_option linter.unusedVariables false
set_option linter.unusedSimpArgs false

section
variable {P : Program}
end
section
variable {P : Program} {C : Ctx} {nt : Nat} {σ : St} {L : Lyt} {a : Act} {w : World} {o : Oper} {x y y2 : Operand} {T : TT}
end
theorem ev_keyv' {P : Program} {C : Ctx} {nt : Nat} {σ : St} {x : Operand} {k : Nat} {c : KC} {d : DV} (h : Ev P C nt σ x (.one (.key k))) (hk : lkk σ k = some c) (hd : DV.sl c.e c.sz c.n c.cs = d) : Ev P C nt σ x (.one (.dv [k] d)) := by subst hd; exact ev_keyv h hk
end Go.Proofs.YtcgmpjedhbhplaaGreat

namespace Go.Proofs.YtcgmpjedhbhplaaGreat
open Go.RowKit
set_option linter.unusedVariables false
set_option linter.unusedSimpArgs false

section
variable {P : Program} {C : Ctx} {nt : Nat} {σ : St} {L : Lyt} {a : Act} {w : World} {o o1 o2 : Oper} {x y : Operand} {T : TT}
theorem weak_swap {tm : List (Nat × SV)} {bx : List (Nat × TypeId × List CV)} {ks : List (Nat × Option KC)} {s k k' : Nat} {c c' : KC} (hs : look tm s = some (.one (.key k))) (hk : lkk ⟨tm, bx, ks⟩ k = some c) (hk' : lkk ⟨tm, bx, ks⟩ k' = some c') (hne : k' ∉ [k]) (hh : c.h = false) :
  Weak P C nt ⟨tm, bx, ks⟩ ⟨(s, .one (.key k')) :: killT [k', k] [k', k] tm, killB [k', k] [k', k] bx, (k', some c) :: (k, none) :: ks⟩ := Weak.mk fun L a w hr => by
 have ho := (hr.ks k c hk).1
 have hsv := hr.tm s _ hs
 simp only [SVr, CVr] at hsv
 have hset := hr.setkey (k := k') (c := c') (c' := c) (js := [k]) (same := false) hk' hne (Chg.refl _ w) ho (hr.kn k c hk) (fun b hb => .inr (.inl ⟨k, by simp, hb⟩)) (by intro i hi'; simp only [List.mem_singleton] at hi'; subst hi'; exact Option.isSome_iff_exists.2 ⟨c, hk⟩) (by simp) (fun h => by rw [hh] at h; cases h)
 exact ⟨_, hset.also (d := s) (v := .one (.key k')) (by simp only [SVr, CVr, if_true]; exact hsv) (by simp [SV.keys, CV.keys, mut_key]) (by simp [SV.boxes])⟩
/-! ### keys in boxes -/
end
end Go.Proofs.YtcgmpjedhbhplaaGreat

namespace Go.Proofs.YtcgmpjedhbhplaaGreat
open Go.RowKit
set_option linter.unusedVariables false
set_option linter.unusedSimpArgs false

def SWX (b : Nat) (wb w : World) : Prop := wb.heap.size ≤ w.heap.size ∧ ∀ k, k < wb.heap.size → k ≠ b → w.heap[k]? = wb.heap[k]?
theorem SWX.refl (b : Nat) (w : World) : SWX b w w := ⟨Nat.le_refl _, fun _ _ _ => rfl⟩
theorem SWX.chg {b : Nat} {wb w w' : World} (h : SWX b wb w) (hc : Chg [b] w w') : SWX b wb w' := ⟨Nat.le_trans h.1 hc.size, fun k hk hn => (hc.block k (Nat.lt_of_lt_of_le hk h.1) (by simpa using hn)).trans (h.2 k hk hn)⟩
section
variable {P : Program} {C : Ctx} {nt : Nat} {Q : Exit → St → Prop} {all : Array Oper} {oB oK : List Nat} {listed : Array Bool} {fuel b : Nat} {tm : List (Nat × SV)} {bx : List (Nat × TypeId × List CV)} {ks : List (Nat × Option KC)} {o : Oper} {d : Nat} {v X : SV} {Ks Bs : List Nat} {g : Bool} {x y : Operand} {T : TT}
theorem d_build1 {oB oK : List Nat} {hd' : Nat → Bool} {tm : List (Nat × SV)} {bx : List (Nat × TypeId × List CV)} {ks : List (Nat × Option KC)} (i : Nat) (hT : TTOk P T) {t e sz by_ d k : Nat} {zc : List CV} {v : SV} {p : Bool × List CV} {ds : List DV} {js : List Nat} (hi : all[i]? = some o) (ht' : (Region.ready .any all listed == [i]) = true) (hg : o.guard = none) (ho : o.op = .buildSlice t 1 #[(0, x)]) (hd : o.dst = some d) (hn : Nat.blt d nt = true) (ht : look T.sl t = some e) (he : look T.el e = some (sz, by_, zc)) (hl0 : zc.length = sz) (hsz : Nat.blt 0 sz = true) (hsm : Nat.ble sz 16777216 = true)
  (hx : Ev P C nt ⟨tm, bx, ks⟩ x v) (hp : v.part = some p) (hkv : svOk ⟨tm, bx, ks⟩ v = true) (how : OwCs ⟨tm, bx, ks⟩ p.2 ds js) (hnj : js.Nodup) (hkj : k ∉ js) (hl : p.2.length = sz) (hk : lkk ⟨tm, bx, ks⟩ k = none) (hnk : k ∉ oK)
  (h : OpsD P C nt Q all oB oK hd' (listed.setIfInBounds i true) fuel ⟨(d, .one (.key k)) :: killT (k :: js) (k :: js) tm, killB (k :: js) (k :: js) bx, (k, some ⟨false, e, sz, 1, ds⟩) :: ((js.map fun j => (j, none)) ++ (k, some ⟨false, e, sz, 0, []⟩) :: ks)⟩) : OpsD P C nt Q all oB oK hd' listed (fuel + 1) ⟨tm, bx, ks⟩ := ⟨fun wb L a w hr hs hw hB hK => by
 refine T_one i hi hg ht' fun K hK' => ?_
 have hpos : 0 < sz := by simpa [Nat.blt_eq] using hsz
 obtain ⟨us, h1, h2, h3⟩ := sv_cells hr hp hkv (hx.run L a w hr)
 have hus : us.length = sz := by rw [cvL_len h2]; exact hl
 obtain ⟨o1, o2, o3⟩ := owCs_own hr how h2
 have hchg : Chg [] w (w.alloc (.cells us.toArray e)) := (Chg.refl [] w).alloc _
 have hr1 := hr.newkey (k := k) (c := ⟨false, e, sz, 0, []⟩) (v := .slice none 0 0) (f := []) hk (own_nil w e sz hpos) rfl (by simp) (by simp) (by simp) (by simp)
 have hlj : ∀ j ∈ js, (lkk { (⟨tm, bx, ks⟩ : St) with ks := (k, some ⟨false, e, sz, 0, []⟩) :: ks } j).isSome = true := fun j hj => by
  have hjk : j ≠ k := fun e' => hkj (by rw [← e']; exact hj)
  have := o2 j hj
  simp only [lkk, look_cons, if_neg hjk] at this ⊢
  exact this
 have hlt : ∀ b ∈ js.flatMap L.fp, b < w.heap.size := ownL_lt _ _ _ o1
 have o1' : OwnL (w.alloc (.cells us.toArray e)) ds us (js.flatMap L.fp) := ownL_keep _ _ _ o1 (fun b hb => hchg.block b (hlt b hb) (by simp))
 have hset := hr1.setkey (k := k) (c := ⟨false, e, sz, 0, []⟩) (c' := ⟨false, e, sz, 1, ds⟩) (js := js) (same := false) (w' := w.alloc (.cells us.toArray e)) (v' := .slice (some ⟨w.heap.size, 0, none⟩) 1 1) (f' := w.heap.size :: js.flatMap L.fp)
  (by simp [lkk, look_cons]) hkj (by simpa using hchg)
  (by
   unfold Own
   refine ⟨us, js.flatMap L.fp, rfl, hpos, by rw [o3, hl, Nat.one_mul], rowE_of (hT.lt e _ he) ⟨by rw [hus, Nat.one_mul], .inr ⟨w.heap.size, 1, us.toArray, rfl, Nat.zero_le _, alloc_last w _, Nat.le_refl _, by simp [maxLen], by simp [hus], by rw [Nat.one_mul, ← hus]; simp⟩⟩, o1'⟩)
  (by
   rw [List.nodup_cons]
   exact ⟨fun hm => absurd (hlt _ hm) (by omega), nodup_flat hr hnj o2⟩)
  (fun b hb => by
   rcases List.mem_cons.1 hb with hb | hb
   ·exact .inr (.inr (by omega))
   ·obtain ⟨j, hj, hb'⟩ := List.mem_flatMap.1 hb
    have hjk : j ≠ k := fun e' => hkj (by rw [← e']; exact hj)
    exact .inr (.inl ⟨j, hj, by simpa [hjk] using hb'⟩)) hlj (by simp) (by simp)
 refine wp_new (v := .slice (some ⟨w.heap.size, 0, none⟩) 1 1) (w' := w.alloc (.cells us.toArray e)) ?_ ?_
 ·unfold execOp
  simp only [ho, List.map_toArray, List.map_cons, List.map_nil, run_build1 (P := P) (w := w) hT ht he hl0 hpos (by simpa [Nat.ble_eq] using hsm) h1 hus, Sem.run_bind, Result.andThen_ok, Sem.run_pure]
 ·rw [hd]
  refine hK' _ _ (fun _ => hs.chg hchg) (h.run wb _ _ _ (hset.put (v := .one (.key k)) (r := .slice (some ⟨w.heap.size, 0, none⟩) 1 1) (by simpa [Nat.blt_eq] using hn) (by simp [SVr, CVr]) (by simp [SV.keys, CV.keys, mut_key]) (by simp [SV.boxes])) (hs.chg hchg) hw hB fun z hz b hb => ?_)
  have hzk : z ≠ k := fun e' => hnk (by rw [← e']; exact hz)
  simp only [if_neg hzk] at hb
  exact hK z hz b hb⟩
end
end Go.Proofs.YtcgmpjedhbhplaaGreat

namespace Go.Proofs.YtcgmpjedhbhplaaGreat
open Go.RowKit
open Go.Proofs
set_option linter.unusedVariables false
set_option linter.unusedSimpArgs false
section
variable {P : Program} {C : Ctx} {nt : Nat} {σ : St} {L : Lyt} {a : Act} {w : World} {o : Oper} {x y : Operand} {T : TT}
def EvParts (P : Program) (C : Ctx) (nt : Nat) (σ : St) (sz : Nat) : Nat → List (Nat × Operand) → List CV → Prop
 | _, [], cs => cs = []
 | i, (j, x) :: ps, cs => ∃ v p cs', j = i ∧ Ev P C nt σ x v ∧ v.part = some p ∧ svOk σ v = true ∧ p.2.length = sz ∧ cs = p.2 ++ cs' ∧ EvParts P C nt σ sz (i + 1) ps cs'
theorem ep_nil {sz i : Nat} : EvParts P C nt σ sz i [] [] := rfl
theorem ep_cons {sz i : Nat} {v : SV} {p : Bool × List CV} {ps : List (Nat × Operand)} {cs' : List CV} (hx : Ev P C nt σ x v) (hp : v.part = some p) (hk : svOk σ v = true) (hl : p.2.length = sz) (h : EvParts P C nt σ sz (i + 1) ps cs') : EvParts P C nt σ sz i ((i, x) :: ps) (p.2 ++ cs') := ⟨v, p, cs', rfl, hx, hp, hk, hl, rfl, h⟩
theorem fill_list (hr : Rel P C nt L σ a w) {sz : Nat} : ∀ {ps : List (Nat × Operand)} {i : Nat} {cs : List CV} {done rest : List Value}, EvParts P C nt σ sz i ps cs → done.length = i * sz → rest.length = ps.length * sz →
  ∃ us, Instr.fill (fun i => some (i * sz, sz)) (done ++ rest).toArray (ps.map fun q => (q.1, a.eval q.2)) = some (done ++ us).toArray ∧ CVL C L w cs us
 | [], i, cs, done, rest, h, hd, hl => by
  simp only [EvParts] at h; subst h
  have : rest = [] := List.eq_nil_of_length_eq_zero (by simpa using hl)
  subst this
  exact ⟨[], rfl, rfl⟩
 | (j, x) :: ps, i, cs, done, rest, ⟨v, p, cs', e, h1, h2, h3, h4, h5, h6⟩, hd, hl => by
  subst e; subst h5
  obtain ⟨xs, k1, k2, k3⟩ := sv_cells hr h2 h3 (h1.run L a w hr)
  have hxl : xs.length = sz := by rw [cvL_len k2]; exact h4
  rw [List.length_cons, Nat.add_mul, Nat.one_mul] at hl
  obtain ⟨us, g1, g2⟩ := fill_list hr (done := done ++ xs) (rest := rest.drop sz) h6 (by rw [List.length_append, hd, hxl, Nat.add_mul, Nat.one_mul]) (by rw [List.length_drop]; omega)
  refine ⟨xs ++ us, ?_, cvL_append k2 g2⟩
  rw [List.map_cons, fill_one (off := j * sz) (sz := sz) rfl k1 hxl (by rw [List.length_append]; omega)]
  have e : setR (j * sz) xs (done ++ rest) = done ++ xs ++ rest.drop sz := by
   unfold setR
   rw [← hd, List.take_left, hxl, List.drop_append]
   simp
  rw [e, g1, List.append_assoc]
theorem efg_buildN (hT : TTOk P T) {t e sz by_ d k n : Nat} {zc cs : List CV} {ds : List DV} {js : List Nat} {ps : List (Nat × Operand)} (ho : o.op = .buildSlice t n ps.toArray) (hd : o.dst = some d) (hn : Nat.blt d nt = true) (ht : look T.sl t = some e) (he : look T.el e = some (sz, by_, zc)) (hl0 : zc.length = sz) (hsz : Nat.blt 0 sz = true) (hsm : Nat.ble (n * sz) 16777216 = true) (hps : ps.length = n) (hn0 : Nat.blt 0 n = true)
  (hx : EvParts P C nt σ sz 0 ps cs) (how : OwCs σ cs ds js) (hnj : js.Nodup) (hkj : k ∉ js) (hcl : cs.length = n * sz) (hk : lkk σ k = none) :
  EfG P C nt o σ (fun σ' => σ' = (St.mut { σ with ks := (k, some ⟨false, e, sz, 0, []⟩) :: σ.ks } k js false ⟨false, e, sz, n, ds⟩).put d (.one (.key k))) := EfG.mk fun L a w hr K Q hK => by
 have hpos : 0 < sz := by simpa [Nat.blt_eq] using hsz
 have hnp : 0 < n := by simpa [Nat.blt_eq] using hn0
 have hsm' : n * sz ≤ 16777216 := by simpa [Nat.ble_eq] using hsm
 obtain ⟨inf, z, g1, g2, g3, g4, g5⟩ := hT.el e sz by_ zc he
 obtain ⟨us, f1, h2⟩ := fill_list hr (sz := sz) (done := []) (rest := ((List.range (n * sz)).map fun j => z.cells[j % z.cells.size]!)) hx (by simp) (by simp [hps])
 have hus : us.length = n * sz := by rw [cvL_len h2]; exact hcl
 obtain ⟨o1, o2, o3⟩ := owCs_own hr how h2
 have hchg : Chg [] w (w.alloc (.cells us.toArray e)) := (Chg.refl [] w).alloc _
 have hr1 := hr.newkey (k := k) (c := ⟨false, e, sz, 0, []⟩) (v := .slice none 0 0) (f := []) hk (own_nil w e sz hpos) rfl (by simp) (by simp) (by simp) (by simp)
 have hlj : ∀ j ∈ js, (lkk { σ with ks := (k, some ⟨false, e, sz, 0, []⟩) :: σ.ks } j).isSome = true := fun j hj => by
  have hjk : j ≠ k := fun e' => hkj (by rw [← e']; exact hj)
  have := o2 j hj
  simp only [lkk, look_cons, if_neg hjk] at this ⊢
  exact this
 have hlt : ∀ b ∈ js.flatMap L.fp, b < w.heap.size := ownL_lt _ _ _ o1
 have o1' : OwnL (w.alloc (.cells us.toArray e)) ds us (js.flatMap L.fp) := ownL_keep _ _ _ o1 (fun b hb => hchg.block b (hlt b hb) (by simp))
 have hset := hr1.setkey (k := k) (c := ⟨false, e, sz, 0, []⟩) (c' := ⟨false, e, sz, n, ds⟩) (js := js) (same := false) (w' := w.alloc (.cells us.toArray e)) (v' := .slice (some ⟨w.heap.size, 0, none⟩) n n) (f' := w.heap.size :: js.flatMap L.fp)
  (by simp [lkk, look_cons]) hkj (by simpa using hchg)
  (by
   unfold Own
   have hnm : n ≤ maxLen := by
    have : n * 1 ≤ n * sz := Nat.mul_le_mul_left _ hpos
    simp only [maxLen]; omega
   refine ⟨us, js.flatMap L.fp, rfl, hpos, by rw [o3, hcl], rowE_of (hT.lt e _ he) ⟨hus, .inr ⟨w.heap.size, n, us.toArray, rfl, Nat.zero_le _, alloc_last w _, Nat.le_refl _, hnm, by simp [hus], by rw [← hus]; simp⟩⟩, o1'⟩)
  (by
   rw [List.nodup_cons]
   exact ⟨fun hm => absurd (hlt _ hm) (by omega), nodup_flat hr hnj o2⟩)
  (fun b hb => by
   rcases List.mem_cons.1 hb with hb | hb
   ·exact .inr (.inr (by omega))
   ·obtain ⟨j, hj, hb'⟩ := List.mem_flatMap.1 hb
    have hjk : j ≠ k := fun e' => hkj (by rw [← e']; exact hj)
    exact .inr (.inl ⟨j, hj, by simpa [hjk] using hb'⟩)) hlj (by simp) (by simp)
 have hrun : (Instr.buildSlice t n (ps.map fun q => (q.1, a.eval q.2)).toArray).run P w = .ok (.slice (some ⟨w.heap.size, 0, none⟩) n n) (w.alloc (.cells us.toArray e)) := by
  refine run_buildSlice w t e n _ us.toArray inf z (hT.sl t e ht) g1 g4 (by rw [g2]; omega) (by rw [g2]; have := Nat.mul_pos hnp hpos; omega) ?_
  rw [g2]
  have e1 : ((Array.range (n * sz)).map fun j => z.cells[j % z.cells.size]!) = (((List.range (n * sz)).map fun j => z.cells[j % z.cells.size]!)).toArray := by
   apply Array.ext'
   simp
  rw [e1]
  simpa using f1
 refine wp_new (v := .slice (some ⟨w.heap.size, 0, none⟩) n n) (w' := w.alloc (.cells us.toArray e)) ?_ ?_
 ·unfold execOp
  simp only [ho, List.map_toArray, hrun, Sem.run_bind, Result.andThen_ok, Sem.run_pure]
 ·rw [hd]
  refine hK _ _ _ _ rfl (hset.put (v := .one (.key k)) (r := .slice (some ⟨w.heap.size, 0, none⟩) n n) (by simpa [Nat.blt_eq] using hn) (by simp [SVr, CVr]) (by simp [SV.keys, CV.keys, mut_key]) (by simp [SV.boxes])) ⟨hchg, fun i c hc => ?_, fun _ _ _ => rfl⟩
  have : i ≠ k := fun e => by rw [e, hk] at hc; cases hc
  simp [this]
end
section
variable {P : Program} {C : Ctx} {nt : Nat} {o : Oper} {x y : Operand} {T : TT} {Q : Exit → St → Prop} {all : Array Oper} {rest : List Oper} {tm : List (Nat × SV)} {bx : List (Nat × TypeId × List CV)} {ks : List (Nat × Option KC)}
end
section
variable {P : Program} {C : Ctx} {nt : Nat} {o : Oper} {x y : Operand} {T : TT} {Q : Exit → St → Prop} {all : Array Oper} {tm : List (Nat × SV)} {bx : List (Nat × TypeId × List CV)} {ks : List (Nat × Option KC)} {oB oK : List Nat} {hd' : Nat → Bool} {listed : Array Bool} {fuel : Nat}
end
end Go.Proofs.YtcgmpjedhbhplaaGreat

namespace Go.Proofs.YtcgmpjedhbhplaaGreat
open Go.RowKit
open Go.Proofs
set_option linter.unusedVariables false
set_option linter.unusedSimpArgs false
section
variable {P : Program} {C : Ctx} {nt : Nat} {Q : Exit → St → Prop} {all : Array Oper} {oB oK : List Nat} {listed : Array Bool} {fuel : Nat} {hd' : Nat → Bool} {tm : List (Nat × SV)} {bx : List (Nat × TypeId × List CV)} {ks : List (Nat × Option KC)} {o : Oper} {d : Nat} {v X : SV} {Ks Bs : List Nat} {g : Bool} {σ : St} {x : Operand} {T : TT}
inductive DSame : DV → DV → Prop where
 | refl (d : DV) : DSame d d
 | sl (e e' sz n : Nat) (cs cs' : List DV) (hl : cs.length = cs'.length) (h : ∀ (i : Nat) d d', cs[i]? = some d → cs'[i]? = some d' → DSame d d') : DSame (.sl e sz n cs) (.sl e' sz n cs')
theorem dsame_lay {ok : Nat → Prop} {w : World} {d d' : DV} (h : DSame d d') : ∀ {v : Value}, Lay ok w d v → Lay ok w d' v := by
 induction h with
 | refl d => exact fun h => h
 | sl e e' sz n cs cs' hl h ih =>
  intro v hv
  simp only [Lay] at hv ⊢
  obtain ⟨A, c, vs, h1, h2, h3, h4, h5, h6, h7⟩ := hv
  refine ⟨A, c, vs, h1, h2, h3, h4, hl ▸ h5, ?_, h7⟩
  clear h5 h7 h1
  induction cs generalizing cs' vs with
  | nil =>
   cases cs' with
   | nil => exact h6
   | cons x xs => simp at hl
  | cons x xs ih2 =>
   cases cs' with
   | nil => simp at hl
   | cons y ys =>
    simp only [LayL] at h6 ⊢
    obtain ⟨v, vs', rfl, k1, k2⟩ := h6
    exact ⟨v, vs', rfl, ih 0 x y rfl rfl k1, ih2 ys (by simpa using hl) (fun i d d' hd hd' => h (i + 1) d d' (by simpa using hd) (by simpa using hd')) (fun i d d' hd hd' => ih (i + 1) d d' (by simpa using hd) (by simpa using hd')) vs' k2⟩
theorem weak_view {d k : Nat} {c : KC} {dd : DV} (hd : look σ.tm d = some (.one (.key k))) (hk : lkk σ k = some c) (hs : DSame (.sl c.e c.sz c.n c.cs) dd) : Weak P C nt σ (σ.put d (.one (.dv [k] dd))) := Weak.mk fun L a w hr => by
 have hv := hr.tm d _ hd
 simp only [SVr, CVr] at hv
 have h1 := dsame_lay hs (own_lay (ok := okB C L [k]) _ _ _ (hr.ks k c hk).1 (fun b hb => .inr ⟨k, by simp, hb⟩))
 exact ⟨_, hr.also (v := .one (.dv [k] dd)) (by simp only [SVr, CVr]; rw [hv]; exact h1) (by simp [SV.keys, CV.keys, hk]) (by simp [SV.boxes])⟩
end
end Go.Proofs.YtcgmpjedhbhplaaGreat

namespace Go.Proofs.YtcgmpjedhbhplaaGreat
open Go.RowKit
open Go.Proofs
set_option linter.unusedVariables false
set_option linter.unusedSimpArgs false
structure OpsN (P : Program) (C : Ctx) (nt : Nat) (Q : Exit → St → Prop) (all : Array Oper) (oB oK nK : List Nat) (hd : Nat → Bool) (listed : Array Bool) (fuel : Nat) (σ : St) : Prop where
 run : ∀ wb L a w, Rel P C nt L σ a w → SW wb w → C.w0.heap.size ≤ wb.heap.size → (∀ i ∈ oB, L.bb i < wb.heap.size) → (∀ k ∈ oK, ∀ b ∈ L.fp k, b < wb.heap.size) → (∀ k ∈ nK, ∀ b ∈ L.fp k, wb.heap.size ≤ b) →
  wpAnyT P .any all (QQ P C nt Q) (SW wb) hd fuel listed a w
structure OpsNJ (P : Program) (C : Ctx) (nt : Nat) (Q : Exit → St → Prop) (all : Array Oper) (oB oK nK : List Nat) (hd : Nat → Bool) (listed : Array Bool) (fuel : Nat) (i : Nat) (σ : St) : Prop where
 run : ∀ wb L a w, Rel P C nt L σ a w → SW wb w → C.w0.heap.size ≤ wb.heap.size → (∀ i ∈ oB, L.bb i < wb.heap.size) → (∀ k ∈ oK, ∀ b ∈ L.fp k, b < wb.heap.size) → (∀ k ∈ nK, ∀ b ∈ L.fp k, wb.heap.size ≤ b) →
  wpOp P all (QQ P C nt Q) i (fun a' w' => (hd i = true → SW wb w') ∧ wpAnyT P .any all (QQ P C nt Q) (SW wb) hd fuel (listed.setIfInBounds i true) a' w') a w
def AllN (P : Program) (C : Ctx) (nt : Nat) (Q : Exit → St → Prop) (all : Array Oper) (oB oK nK : List Nat) (hd : Nat → Bool) (listed : Array Bool) (fuel : Nat) (σ : St) : List Nat → Prop
 | [] => True
 | i :: is => OpsNJ P C nt Q all oB oK nK hd listed fuel i σ ∧ AllN P C nt Q all oB oK nK hd listed fuel σ is
structure EfN (P : Program) (C : Ctx) (nt : Nat) (o : Oper) (σ : St) (k : Nat) (R : St → Prop) : Prop where
 run : ∀ L a w, Rel P C nt L σ a w → ∀ K Q, (∀ L' σ' a' w', R σ' → Rel P C nt L' σ' a' w' → Gr σ L L' w w' → (∀ b ∈ L'.fp k, w.heap.size ≤ b) → K a' w') → o.wp P a w K Q
section
variable {P : Program} {C : Ctx} {nt : Nat} {Q : Exit → St → Prop} {all : Array Oper} {oB oK nK : List Nat} {listed : Array Bool} {fuel : Nat} {hd' : Nat → Bool} {tm : List (Nat × SV)} {bx : List (Nat × TypeId × List CV)} {ks : List (Nat × Option KC)} {o : Oper} {d : Nat} {v X : SV} {Ks Bs : List Nat} {σ : St} {x y : Operand} {T : TT}
theorem n_start (h : OpsN P C nt Q all oB oK [] hd' listed fuel σ) : OpsD P C nt Q all oB oK hd' listed fuel σ := ⟨fun wb L a w hr hs hw hB hK => h.run wb L a w hr hs hw hB hK (by simp)⟩
theorem allN_mem : ∀ {is : List Nat}, AllN P C nt Q all oB oK nK hd' listed fuel σ is → ∀ i ∈ is, OpsNJ P C nt Q all oB oK nK hd' listed fuel i σ
 | [], _, _, hi => by cases hi
 | j :: is, h, i, hi => by
  rcases List.mem_cons.1 hi with rfl | hi
  ·exact h.1
  ·exact allN_mem h.2 i hi
theorem n_split (i : Nat) (is : List Nat) (hr : (Region.ready .any all listed == i :: is) = true) (h : AllN P C nt Q all oB oK nK hd' listed fuel σ (i :: is)) : OpsN P C nt Q all oB oK nK hd' listed (fuel + 1) σ := ⟨fun wb L a w hrel hs hw hB hK hN => by
 have hr' : Region.ready .any all listed = i :: is := by simpa using hr
 refine ⟨fun h0 => (by rw [hr'] at h0; cases h0), fun j hj => ?_⟩
 rw [hr'] at hj
 exact (allN_mem h j hj).run wb L a w hrel hs hw hB hK hN⟩
theorem n_take (i : Nat) (hi : all[i]? = some o) (ht : takeB .any all hd' listed i = true) (hg : o.guard = none) (hd : o.dst = some d) (hp : Pu P C nt o ⟨tm, bx, ks⟩ v Ks Bs) (h1 : (Ks.all fun k => oK.contains k) = true) (h2 : (Bs.all fun k => oB.contains k) = true) (hn : Nat.blt d nt = true) (hk : svOk ⟨tm, bx, ks⟩ v = true)
  (h : OpsN P C nt Q all oB oK nK hd' (listed.setIfInBounds i true) fuel ⟨(d, v) :: tm, bx, ks⟩) : OpsN P C nt Q all oB oK nK hd' listed (fuel + 1) ⟨tm, bx, ks⟩ := ⟨fun wb L a w hr hs hw hB hK hN => by
 obtain ⟨r, h3, h4⟩ := pu_yields hr hs hw hB hK hp h1 h2
 refine T_take i (v := r) hi ht (fun _ _ _ h => h) hs (.inl ⟨by simp [Region.wanted, hg], h4⟩) ?_
 rw [hd]
 exact h.run wb L _ w (hr.put (by simpa [Nat.blt_eq] using hn) h3 (svOk_spec hk).1 (svOk_spec hk).2) hs hw hB hK hN⟩
theorem n_done (ht : (Region.ready .any all listed).isEmpty = true) (h : Q .normal ⟨tm, bx, ks⟩) : OpsN P C nt Q all oB oK nK hd' listed fuel ⟨tm, bx, ks⟩ := ⟨fun _ L _ _ hr _ _ _ _ _ => T_done ht ⟨L, _, hr, h⟩ fuel⟩
theorem nj_of (i : Nat) (hi : all[i]? = some o) (hg : o.guard = none) (h : ∀ wb L a w, Rel P C nt L σ a w → SW wb w → C.w0.heap.size ≤ wb.heap.size → (∀ i ∈ oB, L.bb i < wb.heap.size) → (∀ k ∈ oK, ∀ b ∈ L.fp k, b < wb.heap.size) → (∀ k ∈ nK, ∀ b ∈ L.fp k, wb.heap.size ≤ b) →
   o.wp P a w (fun a' w' => (hd' i = true → SW wb w') ∧ wpAnyT P .any all (QQ P C nt Q) (SW wb) hd' fuel (listed.setIfInBounds i true) a' w') (QQ P C nt Q)) : OpsNJ P C nt Q all oB oK nK hd' listed fuel i σ := ⟨fun wb L a w hr hs hw hB hK hN => by
 unfold wpOp
 simp only [hi]
 have hw' : Region.wanted o (yielded all a.tmps) = true := by simp [Region.wanted, hg]
 rw [if_pos hw']
 exact .inl (h wb L a w hr hs hw hB hK hN)⟩
theorem nj_efg (i : Nat) {R : St → Prop} (hi : all[i]? = some o) (hg : o.guard = none) (hp : EfG P C nt o ⟨tm, bx, ks⟩ R) (hb : (oB.all fun i => (look bx i).isSome) = true) (hk : (oK.all fun k => (lkk ⟨tm, bx, ks⟩ k).isSome) = true) (hn : (nK.all fun k => (lkk ⟨tm, bx, ks⟩ k).isSome) = true)
  (h : ∀ σ', R σ' → OpsN P C nt Q all oB oK nK hd' (listed.setIfInBounds i true) fuel σ') : OpsNJ P C nt Q all oB oK nK hd' listed fuel i ⟨tm, bx, ks⟩ :=
 nj_of i hi hg fun wb L a w hr hs hw hB hK hN => hp.run L a w hr _ _ fun L' σ' a' w' h1 h2 h3 => ⟨fun _ => hs.chg h3.chg, (h σ' h1).run wb L' a' w' h2 (hs.chg h3.chg) hw
  (fun j hj => by
   obtain ⟨x, hx⟩ := Option.isSome_iff_exists.1 (List.all_eq_true.1 hb j hj)
   rw [h3.box j x hx]; exact hB j hj)
  (fun k hk' => by
   obtain ⟨c, hc⟩ := Option.isSome_iff_exists.1 (List.all_eq_true.1 hk k hk')
   rw [h3.key k c hc]; exact hK k hk')
  (fun k hk' => by
   obtain ⟨c, hc⟩ := Option.isSome_iff_exists.1 (List.all_eq_true.1 hn k hk')
   rw [h3.key k c hc]; exact hN k hk')⟩
theorem efn_build0 (hT : TTOk P T) {t e sz by_ d k : Nat} {zc : List CV} (ho : o.op = .buildSlice t 0 #[]) (hd : o.dst = some d) (hn : Nat.blt d nt = true) (ht : look T.sl t = some e) (he : look T.el e = some (sz, by_, zc)) (hsz : Nat.blt 0 sz = true) (hk : lkk σ k = none) :
  EfN P C nt o σ k (fun σ' => σ' = { σ with ks := (k, some ⟨false, e, sz, 0, []⟩) :: σ.ks }.put d (.one (.key k))) := EfN.mk fun L a w hr K Q hK => by
 have hpos : 0 < sz := by simpa [Nat.blt_eq] using hsz
 have hchg : Chg [] w (w.alloc (.cells #[] e)) := (Chg.refl [] w).alloc _
 refine wp_new (v := .slice (some ⟨w.heap.size, 0, none⟩) 0 0) (w' := w.alloc (.cells #[] e)) ?_ ?_
 ·unfold execOp
  simp only [ho, List.map_toArray, List.map_nil, run_build0 (P := P) (w := w) hT ht he, Sem.run_bind, Result.andThen_ok, Sem.run_pure]
 ·have hb := hr.newkey' hchg (c := ⟨false, e, sz, 0, []⟩) (v := .slice (some ⟨w.heap.size, 0, none⟩) 0 0) (f := [w.heap.size]) hk
   (by
    unfold Own
    exact ⟨[], [], rfl, hpos, by simp, rowE_of (hT.lt e _ he) ⟨by simp, .inr ⟨w.heap.size, 0, #[], rfl, Nat.zero_le _, alloc_last w _, Nat.le_refl _, Nat.zero_le _, by simp, by simp⟩⟩, by simp [OwnL]⟩) rfl (by simp) (by simp)
  refine hK { L with fp := fun j => if j = k then [w.heap.size] else L.fp j, rv := fun j => if j = k then .slice (some ⟨w.heap.size, 0, none⟩) 0 0 else L.rv j } _ _ _ rfl (by rw [hd]; exact hb.put (v := .one (.key k)) (r := .slice (some ⟨w.heap.size, 0, none⟩) 0 0) (by simpa [Nat.blt_eq] using hn) (by simp [SVr, CVr]) (by simp [SV.keys, CV.keys, lkk, look_cons]) (by simp [SV.boxes])) ⟨hchg, fun i c hc => ?_, fun _ _ _ => rfl⟩ (by simp)
  have : i ≠ k := fun e => by rw [e, hk] at hc; cases hc
  simp [this]
theorem nj_build0 (i : Nat) (hT : TTOk P T) {t e sz by_ d k : Nat} {zc : List CV} (hi : all[i]? = some o) (hg : o.guard = none) (hd : o.dst = some d) (ho : o.op = .buildSlice t 0 #[]) (hn : Nat.blt d nt = true) (ht : look T.sl t = some e) (he : look T.el e = some (sz, by_, zc)) (hsz : Nat.blt 0 sz = true) (hk : lkk ⟨tm, bx, ks⟩ k = none)
  (hb : (oB.all fun i => (look bx i).isSome) = true) (hk' : (oK.all fun k => (lkk ⟨tm, bx, ks⟩ k).isSome) = true) (hn' : (nK.all fun k => (lkk ⟨tm, bx, ks⟩ k).isSome) = true)
  (h : OpsN P C nt Q all oB oK (k :: nK) hd' (listed.setIfInBounds i true) fuel ⟨(d, .one (.key k)) :: tm, bx, (k, some ⟨false, e, sz, 0, []⟩) :: ks⟩) : OpsNJ P C nt Q all oB oK nK hd' listed fuel i ⟨tm, bx, ks⟩ :=
 nj_of i hi hg fun wb L a w hr hs hw hB hK hN => (efn_build0 hT ho hd hn ht he hsz hk).run L a w hr _ _ fun L' σ' a' w' h1 h2 h3 h4 => ⟨fun _ => hs.chg h3.chg, h.run wb L' a' w' (by rw [h1] at h2; exact h2) (hs.chg h3.chg) hw
  (fun j hj => by
   obtain ⟨x, hx⟩ := Option.isSome_iff_exists.1 (List.all_eq_true.1 hb j hj)
   rw [h3.box j x hx]; exact hB j hj)
  (fun j hj => by
   obtain ⟨c, hc⟩ := Option.isSome_iff_exists.1 (List.all_eq_true.1 hk' j hj)
   rw [h3.key j c hc]; exact hK j hj)
  (fun j hj => by
   rcases List.mem_cons.1 hj with rfl | hj
   ·exact fun b hb' => Nat.le_trans hs.1 (h4 b hb')
   ·obtain ⟨c, hc⟩ := Option.isSome_iff_exists.1 (List.all_eq_true.1 hn' j hj)
    rw [h3.key j c hc]; exact hN j hj)⟩
theorem nj_appV (i : Nat) (hT : TTOk P T) {t e sz by_ d k m : Nat} {zc : List CV} {c : KC} {J : List Nat} {e2 : Nat} {ds cs : List DV} (hi : all[i]? = some o) (hg : o.guard = none) (hd : o.dst = some d) (ho : o.op = .call { callee := .builtin .append, args := #[x, y], argTypes := #[t, t] }) (hnt : Nat.blt d nt = true) (ht : look T.sl t = some e) (he : look T.el e = some (sz, by_, zc)) (hl0 : zc.length = sz)
  (hx : Ev P C nt ⟨tm, bx, ks⟩ x (.one (.key k))) (hk : lkk ⟨tm, bx, ks⟩ k = some c) (hce : c.e = e) (hcs : c.sz = sz) (hy : Ev P C nt ⟨tm, bx, ks⟩ y (.one (.dv J (.sl e2 sz m ds)))) (hp : ds.all DV.plain = true) (hb : (c.n + m) * by_ ≤ 140737488355328) (h63 : c.n + m ≤ 9223372036854775807) {n : Nat} (hn : c.n + m = n) (hcc : c.cs ++ ds = cs)
  (hkn : nK.contains k = true) (hko : oK.contains k = false)
  (h : OpsN P C nt Q all oB oK nK hd' (listed.setIfInBounds i true) fuel ⟨(d, .one (.key k)) :: killT [k] [k] tm, killB [k] [k] bx, (k, some ⟨false, e, sz, n, cs⟩) :: ks⟩) : OpsNJ P C nt Q all oB oK nK hd' listed fuel i ⟨tm, bx, ks⟩ :=
 nj_of i hi hg fun wb L a w hr hs hw hB hK hN => by
  have h1 := hx.run L a w hr
  have h2 := hy.run L a w hr
  simp only [SVr, CVr] at h1 h2
  obtain ⟨A, cap, vs, e1, hrow, hlay⟩ := lay_row h2
  subst hn; subst hcc
  have hkn' : k ∈ nK := by simpa using hkn
  refine app_wpX hT ho hd (by simpa [Nat.blt_eq] using hnt) ht he hl0 hr hk hce hcs h1 e1 (js := []) (by simp) (by simp) hrow (own_plainL hp hlay) (by simp) (by simp) (by simpa [maxLen] using h63) hb (fun L' a' w' hr' hf => ?_)
  have hs' : SW wb w' := ⟨Nat.le_trans hs.1 hf.chg.size, fun b hb' => (hf.chg.block b (Nat.lt_of_lt_of_le hb' hs.1) (fun hm => absurd (hN k hkn' b hm) (by omega))).trans (hs.2 b hb')⟩
  exact ⟨fun _ => hs', h.run wb L' a' w' hr' hs' hw (fun j hj => by rw [hf.bb]; exact hB j hj)
   (fun j hj => by
    have hjk : j ≠ k := fun e => by rw [e] at hj; rw [List.contains_iff_mem.2 hj] at hko; cases hko
    rw [hf.fp j hjk]; exact hK j hj)
   (fun j hj b hb' => by
    by_cases hjk : j = k
    ·subst hjk
     rcases hf.new b hb' with h5 | ⟨q, hq, _⟩ | h5
     ·exact hN j hj b h5
     ·simp at hq
     ·exact Nat.le_trans hs.1 h5
    ·rw [hf.fp j hjk] at hb'; exact hN j hj b hb')⟩
end
section
variable {P : Program} {C : Ctx} {nt : Nat} {σ : St} {o : Oper} {x y : Operand}
end
end Go.Proofs.YtcgmpjedhbhplaaGreat

namespace Go.Proofs.YtcgmpjedhbhplaaGreat
open Go.RowKit
open Go.Proofs
set_option linter.unusedVariables false
set_option linter.unusedSimpArgs false
section
variable {P : Program} {C : Ctx} {nt : Nat} {σ : St} {L : Lyt} {a : Act} {w : World} {o : Oper} {x y u : Operand} {T : TT}
end
/-! ### calls that change a key and hand it back -/
section
variable {P : Program} {C : Ctx} {nt : Nat} {σ : St} {L : Lyt} {a : Act} {w : World} {o : Oper} {x y u : Operand} {T : TT}
section
variable {Q : Exit → St → Prop} {all : Array Oper} {rest : List Oper} {tm : List (Nat × SV)} {bx : List (Nat × TypeId × List CV)} {ks : List (Nat × Option KC)} {d : Nat}
end
end
section
variable {P : Program} {C : Ctx} {nt : Nat} {o : Oper} {x y : Operand} {T : TT} {Q : Exit → St → Prop} {all : Array Oper} {tm : List (Nat × SV)} {bx : List (Nat × TypeId × List CV)} {ks : List (Nat × Option KC)} {oB oK nK : List Nat} {hd' : Nat → Bool} {listed : Array Bool} {fuel : Nat}
theorem nj_buildN (i : Nat) (hT : TTOk P T) {t e sz by_ d k n : Nat} {zc cs : List CV} {ds : List DV} {js : List Nat} {ps : List (Nat × Operand)} (hi : all[i]? = some o) (hg : o.guard = none) (hd : o.dst = some d) (ho : o.op = .buildSlice t n ps.toArray) (hn : Nat.blt d nt = true) (ht : look T.sl t = some e) (he : look T.el e = some (sz, by_, zc)) (hl0 : zc.length = sz) (hsz : Nat.blt 0 sz = true) (hsm : Nat.ble (n * sz) 16777216 = true) (hps : ps.length = n) (hn0 : Nat.blt 0 n = true)
  (hx : EvParts P C nt ⟨tm, bx, ks⟩ sz 0 ps cs) (how : OwCs ⟨tm, bx, ks⟩ cs ds js) (hnj : js.Nodup) (hkj : k ∉ js) (hcl : cs.length = n * sz) (hk : lkk ⟨tm, bx, ks⟩ k = none)
  (hb : (oB.all fun i => (look bx i).isSome) = true) (hk' : (oK.all fun k => (lkk ⟨tm, bx, ks⟩ k).isSome) = true) (hn' : (nK.all fun k => (lkk ⟨tm, bx, ks⟩ k).isSome) = true)
  (h : OpsN P C nt Q all oB oK nK hd' (listed.setIfInBounds i true) fuel ⟨(d, .one (.key k)) :: killT (k :: js) (k :: js) tm, killB (k :: js) (k :: js) bx, (k, some ⟨false, e, sz, n, ds⟩) :: ((js.map fun j => (j, none)) ++ (k, some ⟨false, e, sz, 0, []⟩) :: ks)⟩) : OpsNJ P C nt Q all oB oK nK hd' listed fuel i ⟨tm, bx, ks⟩ :=
 nj_efg i hi hg (efg_buildN hT ho hd hn ht he hl0 hsz hsm hps hn0 hx how hnj hkj hcl hk) hb hk' hn' fun σ' e => by rw [e]; exact h
end
end Go.Proofs.YtcgmpjedhbhplaaGreat

namespace Go.Proofs.YtcgmpjedhbhplaaGreat
open Go.RowKit
open Go.Proofs
open Go.Sort
set_option linter.unusedVariables false
set_option linter.unusedSimpArgs false
def ofB (b : List UInt8) : ByteArray := ⟨b.toArray⟩
def srtS (l : List ByteArray) : List ByteArray := ((l.map fun s => s.data.toList).mergeSort fun x y => decide (x ≤ y)).map ofB
def cmpS (l : List ByteArray) : List ByteArray := (Lib.compact (l.map fun s => s.data.toList)).map ofB
theorem ofB_id (s : ByteArray) : ofB s.data.toList = s := by unfold ofB; rfl
theorem map_ofB (z : List (List UInt8)) : (z.map ofB).map (fun s => s.data.toList) = z := by
 rw [List.map_map]
 have : ((fun s : ByteArray => s.data.toList) ∘ ofB) = id := by funext b; simp [ofB]
 rw [this, List.map_id]
theorem srtS_len (l : List ByteArray) : (srtS l).length = l.length := by simp [srtS, List.length_mergeSort]
theorem srtS_mem {l : List ByteArray} {s : ByteArray} : s ∈ srtS l ↔ s ∈ l := by
 unfold srtS
 rw [List.mem_map]
 constructor
 ·rintro ⟨b, hb, e⟩
  rw [List.mem_mergeSort] at hb
  obtain ⟨t, ht, e2⟩ := List.mem_map.1 hb
  rw [← e, ← e2, ofB_id]; exact ht
 ·intro h
  exact ⟨s.data.toList, List.mem_mergeSort.2 (List.mem_map.2 ⟨s, h, rfl⟩), ofB_id s⟩
theorem cmp_mem {α : Type} [Inhabited α] [DecidableEq α] {z : List α} {x : α} (h : x ∈ Lib.compact z) : x ∈ z := by
 unfold Lib.compact Lib.compactUpTo at h
 obtain ⟨j, hj, e⟩ := List.mem_map.1 h
 have hj2 := List.mem_range.1 (List.mem_filter.1 hj).1
 rw [← e, getElem!_pos z.toArray j (by simpa using hj2)]
 simp
theorem cmpS_mem {l : List ByteArray} {s : ByteArray} (h : s ∈ cmpS l) : s ∈ l := by
 unfold cmpS at h
 obtain ⟨b, hb, e⟩ := List.mem_map.1 h
 obtain ⟨t, ht, e2⟩ := List.mem_map.1 (cmp_mem hb)
 rw [← e, ← e2, ofB_id]; exact ht
structure SortOk (P : Program) (f : FuncId) : Prop where
 run : ∀ (blk off cap : Nat) (ss : List (List UInt8)) (w : World), Holds encStr w blk off ss.toArray → blk < w.heap.size → ss.length < 4611686018427387904 → Calls P f #[.slice (some ⟨blk, off, none⟩) ss.length cap] w fun e w' => e = .returned (.tuple #[]) ∧ ∃ n os, w' = grow (putRow encStr (Sort.ahead w n) blk off (ss.mergeSort fun x y => decide (x ≤ y)).toArray) os
 none : ∀ (p : Option Addr) (cap : Nat) (w : World), Calls P f #[.slice p 0 cap] w fun e w' => e = .returned (.tuple #[]) ∧ w' = w
structure CompOk (P : Program) (f : FuncId) : Prop where
 run : ∀ (blk off cap : Nat) (zs : List (List UInt8)) (w : World), Holds encStr w blk off zs.toArray → zs.length ≤ 9223372036854775807 → zs.length ≤ cap → Calls P f #[.slice (some ⟨blk, off, none⟩) zs.length cap] w fun e w' => e = .returned (.slice (some ⟨blk, off, none⟩) (Lib.compact zs).length cap) ∧ ∃ q, w' = putRow encStr (Sort.ahead w q) blk off (Lib.compact zs ++ List.replicate (zs.length - (Lib.compact zs).length) []).toArray
 none : ∀ (p : Option Addr) (cap : Nat) (w : World), Calls P f #[.slice p 0 cap] w fun e w' => e = .returned (.slice p 0 cap) ∧ w' = w
def strD (l : List ByteArray) : List DV := l.flatMap fun s => [.str s]
theorem strD_len (l : List ByteArray) : (strD l).length = l.length := by
 unfold strD
 induction l with
 | nil => rfl
 | cons s l ih => simp [List.flatMap_cons, ih]
theorem own_strs {w : World} : ∀ {l : List ByteArray} {vs : List Value} {f : List Nat}, OwnL w (strD l) vs f → vs = (l.map fun s => s.data.toList).map encStr ∧ f = [] ∧ ∀ s ∈ l, s.size ≤ 9223372036854775807
 | [], _, _, h => by simp only [strD, List.flatMap_nil, OwnL] at h; obtain ⟨rfl, rfl⟩ := h; simp
 | s :: l, _, _, h => by
  rw [strD, List.flatMap_cons, List.singleton_append, OwnL] at h
  obtain ⟨v, vs', f1, f2, rfl, rfl, h1, h2⟩ := h
  obtain ⟨rfl, rfl, h3⟩ := own_strs (l := l) h2
  simp only [Own] at h1
  obtain ⟨rfl, h4, rfl⟩ := h1
  refine ⟨?_, rfl, fun t ht => ?_⟩
  ·simp only [List.map_cons]
  ·rcases List.mem_cons.1 ht with e | ht
   ·rw [e]; exact h4
   ·exact h3 t ht
theorem own_strs_mk {w : World} : ∀ {l : List ByteArray}, (∀ s ∈ l, s.size ≤ 9223372036854775807) → OwnL w (strD l) ((l.map fun s => s.data.toList).map encStr) []
 | [], _ => by simp [strD, OwnL]
 | s :: l, h => by
  rw [strD, List.flatMap_cons, List.singleton_append, OwnL]
  exact ⟨.string s, _, [], [], rfl, rfl, by unfold Own; exact ⟨rfl, h s (by simp), rfl⟩, own_strs_mk (fun t ht => h t (by simp [ht]))⟩
section
variable {P : Program} {C : Ctx} {nt : Nat} {σ : St} {L : Lyt} {a : Act} {w : World} {o : Oper} {x y : Operand}
theorem ef_sort {f k d : Nat} {ats : Array TypeId} {c : KC} {l : List ByteArray} (hf : SortOk P f) (ho : o.op = .call { callee := .value (.func f), args := #[x], argTypes := ats }) (hc : ∀ (args : Array Value) (w : World), (callFunc f args).run P w = .ok (.enter f args) w) (hd : o.dst = some d) (hnt : Nat.blt d nt = true)
  (hx : Ev P C nt σ x (.one (.key k))) (hk : lkk σ k = some c) (he : Nat.blt c.e 1000000 = true) (hsz : c.sz = 1) (hn : c.n = l.length) (hcs : c.cs = strD l) (hl : l.length < 4611686018427387904) :
  Ef P C nt o σ (fun σ' => σ' = (σ.mut k [] true ⟨false, c.e, 1, l.length, strD (srtS l)⟩).put d .any) := Ef.mk fun L a w hr K Q hK => by
 have hd' : d < nt := by simpa [Nat.blt_eq] using hnt
 have e1 := hx.run L a w hr
 simp only [SVr, CVr] at e1
 have ho1 := (hr.ks k c hk).1
 have hkn := hr.kn k c hk
 rw [hsz, hn, hcs] at ho1
 simp only [Own] at ho1
 obtain ⟨vs, f1, q1, q2, q3, q4, q5⟩ := ho1
 obtain ⟨rfl, rfl, hz⟩ := own_strs q5
 have he' : c.e < 1000000 := by simpa [Nat.blt_eq] using he
 have hrow := q4.1 he'
 rw [List.append_nil] at q1
 refine wp_callGo (xs := [x]) ho hc ?_
 simp only [List.map_cons, List.map_nil, e1]
 have hz' : ∀ s ∈ srtS l, s.size ≤ 9223372036854775807 := fun s hs => hz s (srtS_mem.1 hs)
 by_cases hnil : L.rv k = .slice none 0 0
 ·have hl0 : l = [] := by
   have := hrow.1
   rcases hrow.2 with ⟨_, h0⟩ | ⟨g, cap, cur, h1, _⟩
   ·exact List.length_eq_zero_iff.1 h0
   ·rw [hnil] at h1; cases h1
  subst hl0
  rw [hnil]
  refine (hf.none none 0 w).mono ?_
  rintro e w' ⟨rfl, rfl⟩
  refine ⟨_, rfl, ?_⟩
  rw [hd]
  have e0 : (⟨false, c.e, 1, ([] : List ByteArray).length, strD (srtS [])⟩ : KC) = ⟨false, c.e, 1, 0, strD []⟩ := by simp [srtS]
  refine hK _ ((σ.mut k [] true ⟨false, c.e, 1, 0, strD []⟩).put d .any) _ _ (by rw [e0]) (Rel.put (hr.setkey (k := k) (c := c) (c' := ⟨false, c.e, 1, 0, strD []⟩) (js := []) (same := true) (v' := L.rv k) (f' := L.fp k) hk (by simp) (Chg.refl _ _) ?_ hkn (fun b hb => .inl hb) (by simp) (fun _ => rfl) (by simp)) hd' trivial (by simp [SV.keys]) (by simp [SV.boxes]))
  have := (hr.ks k c hk).1
  rw [hsz, hn, hcs] at this
  exact this
 ·obtain ⟨g, cap, hv, _, hg, h1, h2, h3, hH⟩ := Lib.holds_of_ownsRow hrow hnil
  rw [hv]
  have hl2 : (l.map fun s => s.data.toList).length < 4611686018427387904 := by simpa using hl
  have := hf.run g 0 cap (l.map fun s => s.data.toList) w hH hg hl2
  rw [List.length_map] at this
  refine this.mono ?_
  rintro e w' ⟨rfl, n, os, rfl⟩
  refine ⟨_, rfl, ?_⟩
  rw [hd]
  have hfp : L.fp k = [g] := by rw [q1, hv]; rfl
  have hlen : ((l.map fun s => s.data.toList).mergeSort fun x y => decide (x ≤ y)).length = (l.map fun s => s.data.toList).length := List.length_mergeSort _
  obtain ⟨cur, hb, hcur⟩ : ∃ cur, w.heap[g]? = some (.cells cur c.e (0, 0)) ∧ cur.size = cap * 1 := by
   rcases hrow.2 with ⟨h0, _⟩ | ⟨g', cap', cur, h0, _, hb, _, _, hcur, _⟩
   ·exact absurd h0 hnil
   ·rw [hv] at h0
    injection h0 with a1 a2 a3
    injection a1 with a1
    injection a1 with a1
    subst a1; subst a3
    exact ⟨cur, hb, hcur⟩
  have hown := ownsRow_sorted (n := n) (os := os) (base := 0) hlen (Nat.zero_le g) hb (by simpa using h1) h2 hcur
  rw [List.length_map] at hown
  obtain ⟨gb1, gb2, gb3, gb4, gb5⟩ := grownBy_sorted (w := w) (g := g) (n := n) (os := os) ((l.map fun s => s.data.toList).mergeSort fun x y => decide (x ≤ y)).toArray
  refine hK _ _ _ _ rfl (Rel.put (hr.setkey (k := k) (c := c) (c' := ⟨false, c.e, 1, l.length, strD (srtS l)⟩) (js := []) (same := true) (v' := L.rv k) (f' := L.fp k) hk (by simp) ⟨gb1, gb2, gb3, gb4, fun i hi hne => gb5 i hi (fun e => hne (by rw [hfp]; injection e with e; simp [e]))⟩ ?_ hkn (fun b hb => .inl hb) (by simp) (fun _ => rfl) (by simp)) hd' trivial (by simp [SV.keys]) (by simp [SV.boxes]))
  have hsl := srtS_len l
  simp only [Own]
  refine ⟨((srtS l).map fun s => s.data.toList).map encStr, [], by rw [q1, List.append_nil], by decide, by rw [strD_len, hsl, Nat.mul_one], rowE_of he' ?_, own_strs_mk hz'⟩
  rw [hv]
  have e2 : (srtS l).map (fun s => s.data.toList) = (l.map fun s => s.data.toList).mergeSort fun x y => decide (x ≤ y) := map_ofB _
  rw [e2]
  exact hown
theorem ef_compact {f k d : Nat} {ats : Array TypeId} {c : KC} {l : List ByteArray} (hf : CompOk P f) (ho : o.op = .call { callee := .value (.func f), args := #[x], argTypes := ats }) (hc : ∀ (args : Array Value) (w : World), (callFunc f args).run P w = .ok (.enter f args) w) (hd : o.dst = some d) (hnt : Nat.blt d nt = true)
  (hx : Ev P C nt σ x (.one (.key k))) (hk : lkk σ k = some c) (he : Nat.blt c.e 1000000 = true) (hsz : c.sz = 1) (hn : c.n = l.length) (hcs : c.cs = strD l) (hl : l.length < 4611686018427387904) :
  Ef P C nt o σ (fun σ' => σ' = (σ.mut k [] false ⟨false, c.e, 1, (cmpS l).length, strD (cmpS l)⟩).put d (.one (.key k))) := Ef.mk fun L a w hr K Q hK => by
 have hd' : d < nt := by simpa [Nat.blt_eq] using hnt
 have e1 := hx.run L a w hr
 simp only [SVr, CVr] at e1
 have ho1 := (hr.ks k c hk).1
 have hkn := hr.kn k c hk
 rw [hsz, hn, hcs] at ho1
 simp only [Own] at ho1
 obtain ⟨vs, f1, q1, q2, q3, q4, q5⟩ := ho1
 obtain ⟨rfl, rfl, hz⟩ := own_strs q5
 have he' : c.e < 1000000 := by simpa [Nat.blt_eq] using he
 have hrow := q4.1 he'
 rw [List.append_nil] at q1
 refine wp_callGo (xs := [x]) ho hc ?_
 simp only [List.map_cons, List.map_nil, e1]
 have hz' : ∀ s ∈ cmpS l, s.size ≤ 9223372036854775807 := fun s hs => hz s (cmpS_mem hs)
 have fin : ∀ {w' : World} {v' : Value} {f' : List Nat}, Chg (L.fp k) w w' → Own w' (.sl c.e 1 (cmpS l).length (strD (cmpS l))) v' f' → f' = L.fp k → K (a.put o.dst v') w' := fun {w' v' f'} h1 h2 h3 => by
  subst h3
  have hset := hr.setkey (k := k) (c := c) (c' := ⟨false, c.e, 1, (cmpS l).length, strD (cmpS l)⟩) (js := []) (same := false) (v' := v') (f' := L.fp k) hk (by simp) h1 h2 hkn (fun b hb => .inl hb) (by simp) (fun e => by cases e) (by simp)
  rw [hd]
  refine hK _ _ _ _ rfl (hset.put hd' (v := .one (.key k)) ?_ ?_ (by simp [SV.boxes]))
  ·simp [SVr, CVr]
  ·intro j hj
   simp only [SV.keys, CV.keys, List.mem_singleton] at hj
   subst hj
   simp [lkk, St.mut, look_cons]
 by_cases hnil : L.rv k = .slice none 0 0
 ·have hl0 : l = [] := by
   rcases hrow.2 with ⟨_, h0⟩ | ⟨g, cap, cur, h1, _⟩
   ·exact List.length_eq_zero_iff.1 h0
   ·rw [hnil] at h1; cases h1
  subst hl0
  rw [hnil]
  refine (hf.none none 0 w).mono ?_
  rintro e w' ⟨rfl, rfl⟩
  refine ⟨_, rfl, fin (Chg.refl _ _) (v' := .slice none 0 0) (f' := L.fp k) ?_ rfl⟩
  have := (hr.ks k c hk).1
  rw [hsz, hn, hcs, hnil] at this
  exact this
 ·obtain ⟨g, cap, hv, _, hg, h1, h2, h3, hH⟩ := Lib.holds_of_ownsRow hrow hnil
  rw [hv]
  have hl2 : (l.map fun s => s.data.toList).length ≤ 9223372036854775807 := by rw [List.length_map]; omega
  have := hf.run g 0 cap (l.map fun s => s.data.toList) w hH hl2 (by rw [List.length_map]; exact h1)
  rw [List.length_map] at this
  refine this.mono ?_
  rintro e w' ⟨rfl, q, rfl⟩
  have hfp : L.fp k = [g] := by rw [q1, hv]; rfl
  have hcl := Lib.compact_length_le (l.map fun s => s.data.toList)
  rw [List.length_map] at hcl
  have hcl2 : (cmpS l).length = (Lib.compact (l.map fun s => s.data.toList)).length := by simp [cmpS]
  have hrow' := hrow
  rw [hv] at hrow'
  have hown := Lib.ownsRow_putRow (q := q) (k := (Lib.compact (l.map fun s => s.data.toList)).length) (ys := Lib.compact (l.map fun s => s.data.toList) ++ List.replicate (l.length - (Lib.compact (l.map fun s => s.data.toList)).length) []) hrow' (by simp; omega) hcl
  rw [List.take_left] at hown
  refine ⟨_, rfl, fin ⟨rfl, rfl, rfl, by simp [putRow, mapBlock, Sort.ahead], fun i hi hne => ?_⟩ ?_ rfl⟩
  ·have : g ≠ i := fun e => hne (by rw [hfp, e]; simp)
   simp [putRow, mapBlock, Sort.ahead, Array.getElem?_modify, this]
  ·simp only [Own]
   refine ⟨((cmpS l).map fun s => s.data.toList).map encStr, [], by rw [hfp]; rfl, by decide, by rw [strD_len, Nat.mul_one], rowE_of he' ?_, own_strs_mk hz'⟩
   rw [show (cmpS l).map (fun s => s.data.toList) = Lib.compact (l.map fun s => s.data.toList) from map_ofB _, hcl2]
   exact hown
end
section
variable {P : Program} {C : Ctx} {nt : Nat} {o : Oper} {x : Operand} {Q : Exit → St → Prop} {all : Array Oper} {rest : List Oper} {tm : List (Nat × SV)} {bx : List (Nat × TypeId × List CV)} {ks : List (Nat × Option KC)}
theorem o_sort {f k d : Nat} {ats : Array TypeId} {c : KC} {l : List ByteArray} {n : Nat} {cs : List DV} (hg : o.guard = none) (hd : o.dst = some d) (ho : o.op = .call { callee := .value (.func f), args := #[x], argTypes := ats }) (hnt : Nat.blt d nt = true) (hc : ∀ (args : Array Value) (w : World), (callFunc f args).run P w = .ok (.enter f args) w) (hf : SortOk P f)
  (hx : Ev P C nt ⟨tm, bx, ks⟩ x (.one (.key k))) (hk : lkk ⟨tm, bx, ks⟩ k = some c) (he : Nat.blt c.e 1000000 = true) (hsz : c.sz = 1) (hn : c.n = l.length) (hcs : c.cs = strD l) (hl : l.length < 4611686018427387904) (hn2 : l.length = n) (hcs2 : strD (srtS l) = cs)
  (h : Ops P C nt Q all rest ⟨(d, .any) :: killT [k] [] tm, killB [k] [] bx, (k, some ⟨false, c.e, 1, n, cs⟩) :: ks⟩) : Ops P C nt Q all (o :: rest) ⟨tm, bx, ks⟩ := by
 subst hn2; subst hcs2
 exact ops_ef1 hg (ef_sort hf ho hc hd hnt hx hk he hsz hn hcs hl) h
theorem o_compact {f k d : Nat} {ats : Array TypeId} {c : KC} {l : List ByteArray} {n : Nat} {cs : List DV} (hg : o.guard = none) (hd : o.dst = some d) (ho : o.op = .call { callee := .value (.func f), args := #[x], argTypes := ats }) (hnt : Nat.blt d nt = true) (hc : ∀ (args : Array Value) (w : World), (callFunc f args).run P w = .ok (.enter f args) w) (hf : CompOk P f)
  (hx : Ev P C nt ⟨tm, bx, ks⟩ x (.one (.key k))) (hk : lkk ⟨tm, bx, ks⟩ k = some c) (he : Nat.blt c.e 1000000 = true) (hsz : c.sz = 1) (hn : c.n = l.length) (hcs : c.cs = strD l) (hl : l.length < 4611686018427387904) (hn2 : (cmpS l).length = n) (hcs2 : strD (cmpS l) = cs)
  (h : Ops P C nt Q all rest ⟨(d, .one (.key k)) :: killT [k] [k] tm, killB [k] [k] bx, (k, some ⟨false, c.e, 1, n, cs⟩) :: ks⟩) : Ops P C nt Q all (o :: rest) ⟨tm, bx, ks⟩ := by
 subst hn2; subst hcs2
 exact ops_ef1 hg (ef_compact hf ho hc hd hnt hx hk he hsz hn hcs hl) h
end
end Go.Proofs.YtcgmpjedhbhplaaGreat

namespace Go.Proofs.YtcgmpjedhbhplaaGreat
open Go.RowKit
open Go.Proofs
open Go.Shelf
def laysSort_ren : Go.Shelf.Ren := ⟨fun | 190 => 51 | 125 => 73 | 258 => 72 | 128 => 94 | 129 => 95 | 302 => 85 | 303 => 86 | 304 => 87 | 305 => 88 | 306 => 89 | 307 => 90 | 308 => 91 | 309 => 92 | 310 => 93 | 333 => 102 | 329 => 103 | 330 => 104 | 334 => 105 | 335 => 106 | 336 => 107 | 344 => 112 | n => n, fun | 31 => 55 | 9 => 9 | 3 => 3 | 46 => 120 | 0 => 0 | 51 => 146 | 53 => 148 | 4 => 4 | 183 => 138 | 182 => 137 | 131 => 143 | 5 => 5 | 218 => 157 | 222 => 161 | 228 => 168 | 229 => 169 | n => n, fun | n => n⟩
theorem laysSort : Go.Proofs.Lays.n190 Tryz.prog laysSort_ren := {
 mixed := by kernel_rfl
 f125 := Tryz.func73.trans (congrArg some (by kernel_rfl))
 f128 := Tryz.func94.trans (congrArg some (by kernel_rfl))
 f129 := Tryz.func95.trans (congrArg some (by kernel_rfl))
 f190 := Tryz.func51.trans (congrArg some (by kernel_rfl))
 f258 := Tryz.func72.trans (congrArg some (by kernel_rfl))
 f302 := Tryz.func85.trans (congrArg some (by kernel_rfl))
 f303 := Tryz.func86.trans (congrArg some (by kernel_rfl))
 f304 := Tryz.func87.trans (congrArg some (by kernel_rfl))
 f305 := Tryz.func88.trans (congrArg some (by kernel_rfl))
 f306 := Tryz.func89.trans (congrArg some (by kernel_rfl))
 f307 := Tryz.func90.trans (congrArg some (by kernel_rfl))
 f308 := Tryz.func91.trans (congrArg some (by kernel_rfl))
 f309 := Tryz.func92.trans (congrArg some (by kernel_rfl))
 f310 := Tryz.func93.trans (congrArg some (by kernel_rfl))
 f329 := Tryz.func103.trans (congrArg some (by kernel_rfl))
 f330 := Tryz.func104.trans (congrArg some (by kernel_rfl))
 f333 := Tryz.func102.trans (congrArg some (by kernel_rfl))
 f334 := Tryz.func105.trans (congrArg some (by kernel_rfl))
 f335 := Tryz.func106.trans (congrArg some (by kernel_rfl))
 f336 := Tryz.func107.trans (congrArg some (by kernel_rfl))
 f344 := Tryz.func112.trans (congrArg some (by kernel_rfl))
 t0 := Tryz.underlying0
 a0 := Tryz.isAgg0
 z0 := Tryz.sizeOf0
 v0 := Tryz.zeroValue0
 t3 := Tryz.underlying3
 a3 := Tryz.isAgg3
 z3 := Tryz.sizeOf3
 v3 := Tryz.zeroValue3
 t4 := Tryz.underlying4
 a4 := Tryz.isAgg4
 z4 := Tryz.sizeOf4
 v4 := Tryz.zeroValue4
 t5 := Tryz.underlying5
 a5 := Tryz.isAgg5
 z5 := Tryz.sizeOf5
 v5 := Tryz.zeroValue5
 t9 := Tryz.underlying9
 a9 := Tryz.isAgg9
 z9 := Tryz.sizeOf9
 v9 := Tryz.zeroValue9
 t31 := Tryz.underlying55
 a31 := Tryz.isAgg55
 z31 := Tryz.sizeOf55
 v31 := Tryz.zeroValue55
 t46 := Tryz.underlying120
 a46 := Tryz.isAgg120
 z46 := Tryz.sizeOf120
 v46 := Tryz.zeroValue120
 t51 := Tryz.underlying146
 a51 := Tryz.isAgg146
 z51 := Tryz.sizeOf146
 v51 := Tryz.zeroValue146
 t53 := Tryz.underlying148
 a53 := Tryz.isAgg148
 z53 := Tryz.sizeOf148
 v53 := Tryz.zeroValue148
 t131 := Tryz.underlying143
 a131 := Tryz.isAgg143
 z131 := Tryz.sizeOf143
 v131 := Tryz.zeroValue143
 t182 := Tryz.underlying137
 a182 := Tryz.isAgg137
 z182 := Tryz.sizeOf137
 v182 := Tryz.zeroValue137
 t183 := Tryz.underlying138
 a183 := Tryz.isAgg138
 z183 := Tryz.sizeOf138
 v183 := Tryz.zeroValue138
 t218 := Tryz.underlying157
 a218 := Tryz.isAgg157
 z218 := Tryz.sizeOf157
 v218 := Tryz.zeroValue157
 t222 := Tryz.underlying161
 a222 := Tryz.isAgg161
 z222 := Tryz.sizeOf161
 v222 := Tryz.zeroValue161
 t228 := Tryz.underlying168
 a228 := Tryz.isAgg168
 z228 := Tryz.sizeOf168
 v228 := Tryz.zeroValue168
 t229 := Tryz.underlying169
 a229 := Tryz.isAgg169
 z229 := Tryz.sizeOf169
 v229 := Tryz.zeroValue169 }
def laysCompact_ren : Go.Shelf.Ren := ⟨fun | 194 => 52 | n => n, fun | 31 => 55 | 9 => 9 | 3 => 3 | 4 => 4 | 0 => 0 | n => n, fun | n => n⟩
theorem laysCompact : Go.Proofs.Lays.n194 Tryz.prog laysCompact_ren := {
 mixed := by kernel_rfl
 f194 := Tryz.func52.trans (congrArg some (by kernel_rfl))
 t0 := Tryz.underlying0
 a0 := Tryz.isAgg0
 z0 := Tryz.sizeOf0
 v0 := Tryz.zeroValue0
 t3 := Tryz.underlying3
 a3 := Tryz.isAgg3
 z3 := Tryz.sizeOf3
 v3 := Tryz.zeroValue3
 t4 := Tryz.underlying4
 a4 := Tryz.isAgg4
 z4 := Tryz.sizeOf4
 v4 := Tryz.zeroValue4
 t9 := Tryz.underlying9
 a9 := Tryz.isAgg9
 z9 := Tryz.sizeOf9
 v9 := Tryz.zeroValue9
 t31 := Tryz.underlying55
 a31 := Tryz.isAgg55
 z31 := Tryz.sizeOf55
 v31 := Tryz.zeroValue55 }
theorem sortOk : SortOk Tryz.prog 51 := ⟨fun blk off cap ss w h1 h2 h3 => Any.slices_Sort_string laysSort blk off cap ss w h1 h2 h3, fun p cap w => Any.slices_Sort_string_none laysSort p cap w⟩
theorem compOk : CompOk Tryz.prog 52 := ⟨fun blk off cap zs w h1 h2 h3 => Any.slices_Compact_string laysCompact blk off cap zs w h1 h2 h3, fun p cap w => Any.slices_Compact_string_empty laysCompact p cap w⟩
end Go.Proofs.YtcgmpjedhbhplaaGreat

namespace Go.Proofs.YtcgmpjedhbhplaaGreat
open Go.RowKit
set_option linter.unusedVariables false
section
variable {P : Program} {C : Ctx} {nt : Nat} {o : Oper} {x y : Operand} {T : TT} {Q : Exit → St → Prop} {N : St → Prop} {all : Array Oper} {rest : List Oper} {σ : St} {tm : List (Nat × SV)} {bx : List (Nat × TypeId × List CV)} {ks : List (Nat × Option KC)} {d t : Nat} {v : SV} {ty : TypeId} {ps : String} {af : Array Edge}
theorem yA (e : o = { dst := some d, op := .move (.tmp t), type := ty, pos := ps, after := af, guard := none }) (hl : look tm t = some v) (hk : (Nat.blt d nt && svOk ⟨tm, bx, ks⟩ v) = true) (h : Ops P C nt Q all rest ⟨(d, v) :: tm, bx, ks⟩) : Ops P C nt Q all (o :: rest) ⟨tm, bx, ks⟩ := o_pure (by rw [e]) (by rw [e]) (pu_move (.inl (by rw [e])) (ev_tmp hl)) (Bool.and_eq_true_iff.1 hk).1 (Bool.and_eq_true_iff.1 hk).2 h
theorem yB (e : o = { dst := some d, op := .assign (.tmp t), type := ty, pos := ps, after := af, guard := none }) (hl : look tm t = some v) (hk : (Nat.blt d nt && svOk ⟨tm, bx, ks⟩ v) = true) (h : Ops P C nt Q all rest ⟨(d, v) :: tm, bx, ks⟩) : Ops P C nt Q all (o :: rest) ⟨tm, bx, ks⟩ := o_pure (by rw [e]) (by rw [e]) (pu_move (.inr (by rw [e])) (ev_tmp hl)) (Bool.and_eq_true_iff.1 hk).1 (Bool.and_eq_true_iff.1 hk).2 h
theorem yC {s f off b i : Nat} (hT : TTOk P T) (e : o = { dst := some d, op := .fieldAddr s (.tmp t) f, type := ty, pos := ps, after := af, guard := none }) (h1 : look T.of (1000 * s + f) = some off) (hf : Nat.blt f 1000 = true) (hl : look tm t = some (.box b i)) (hk : (Nat.blt d nt && svOk ⟨tm, bx, ks⟩ (.box b (i + off))) = true) (h : Ops P C nt Q all rest ⟨(d, .box b (i + off)) :: tm, bx, ks⟩) : Ops P C nt Q all (o :: rest) ⟨tm, bx, ks⟩ := o_pure (by rw [e]) (by rw [e]) (pu_fieldBox hT (by rw [e]) h1 hf (ev_tmp hl)) (Bool.and_eq_true_iff.1 hk).1 (Bool.and_eq_true_iff.1 hk).2 h
theorem yD {s n b i t' : Nat} {cs : List CV} (hT : TTOk P T) (e : o = { dst := some d, op := .load s (.tmp t), type := ty, pos := ps, after := af, guard := none }) (h1 : look T.ag s = some n) (hl : look tm t = some (.box b i)) (hb : look bx b = some (t', cs)) (h2 : Nat.ble (i + n) cs.length = true) (hk : (Nat.blt d nt && svOk ⟨tm, bx, ks⟩ (.agg (sub i n cs))) = true) (h : Ops P C nt Q all rest ⟨(d, .agg (sub i n cs)) :: tm, bx, ks⟩) : Ops P C nt Q all (o :: rest) ⟨tm, bx, ks⟩ := o_pure (by rw [e]) (by rw [e]) (pu_loadBoxA hT (by rw [e]) h1 (ev_tmp hl) hb h2) (Bool.and_eq_true_iff.1 hk).1 (Bool.and_eq_true_iff.1 hk).2 h
theorem yE {s b i t' : Nat} {cs : List CV} {c : CV} {u : Unit} (hT : TTOk P T) (e : o = { dst := some d, op := .load s (.tmp t), type := ty, pos := ps, after := af, guard := none }) (h1 : look T.on s = some u) (hl : look tm t = some (.box b i)) (hb : look bx b = some (t', cs)) (h2 : cs[i]? = some c) (hk : (Nat.blt d nt && svOk ⟨tm, bx, ks⟩ (.one c)) = true) (h : Ops P C nt Q all rest ⟨(d, .one c) :: tm, bx, ks⟩) : Ops P C nt Q all (o :: rest) ⟨tm, bx, ks⟩ := o_pure (by rw [e]) (by rw [e]) (pu_loadBox1 hT (by rw [e]) h1 (ev_tmp hl) hb h2) (Bool.and_eq_true_iff.1 hk).1 (Bool.and_eq_true_iff.1 hk).2 h
theorem yG {k : IntKind} {n : Int} (e : o = { dst := some d, op := .assign (.const (.int k n)), type := ty, pos := ps, after := af, guard := none }) (h1 : (decide (k.min ≤ n) && decide (n ≤ k.max)) = true) (hk : (Nat.blt d nt && svOk ⟨tm, bx, ks⟩ (.one (.dv [] (.int k n)))) = true) (h : Ops P C nt Q all rest ⟨(d, .one (.dv [] (.int k n))) :: tm, bx, ks⟩) : Ops P C nt Q all (o :: rest) ⟨tm, bx, ks⟩ := o_pure (by rw [e]) (by rw [e]) (pu_move (.inr (by rw [e])) (ev_int (inR_lit h1))) (Bool.and_eq_true_iff.1 hk).1 (Bool.and_eq_true_iff.1 hk).2 h
theorem yH {b : Bool} (e : o = { dst := some d, op := .assign (.const (.bool b)), type := ty, pos := ps, after := af, guard := none }) (hk : (Nat.blt d nt && svOk ⟨tm, bx, ks⟩ (.one (.dv [] (.bool b)))) = true) (h : Ops P C nt Q all rest ⟨(d, .one (.dv [] (.bool b))) :: tm, bx, ks⟩) : Ops P C nt Q all (o :: rest) ⟨tm, bx, ks⟩ := o_pure (by rw [e]) (by rw [e]) (pu_move (.inr (by rw [e])) ev_bool) (Bool.and_eq_true_iff.1 hk).1 (Bool.and_eq_true_iff.1 hk).2 h
theorem yR {id : Nat} {l : List Oper} {c : Code} (h : Ops P C nt (thenQ (Ok P C nt Q c) Q) l.toArray l σ) : Ok P C nt Q (.seq (.region id l.toArray false) c) σ := ok_seq (ok_region h)
theorem yN (h : N σ) : Ops P C nt (thenQ N Q) all [] σ := ops_nil (then_n h)
theorem yO {Ks Bs : List Nat} (hg : o.guard = none) (hd : o.dst = some d) (hp : Pu P C nt o ⟨tm, bx, ks⟩ v Ks Bs) (hk : (Nat.blt d nt && svOk ⟨tm, bx, ks⟩ v) = true) (h : Ops P C nt Q all rest ⟨(d, v) :: tm, bx, ks⟩) : Ops P C nt Q all (o :: rest) ⟨tm, bx, ks⟩ := o_pure hg hd hp (Bool.and_eq_true_iff.1 hk).1 (Bool.and_eq_true_iff.1 hk).2 h
theorem yS {s b i t' t2 sz by_ : Nat} {zc cs : List CV} {p : Bool × List CV} (hT : TTOk P T) (e : o = { dst := none, op := .store s (.tmp t) (.tmp t2), type := ty, pos := ps, after := af, guard := none }) (ht : look T.el s = some (sz, by_, zc)) (hx : look tm t = some (.box b i)) (hy : look tm t2 = some v) (hp : v.part = some p)
  (hb : look bx b = some (t', cs)) (hl : p.2.length = sz) (hk : (svOk ⟨tm, bx, ks⟩ v && (Nat.ble (i + sz) cs.length && (cs.flatMap CV.keys).all (fun k => (lkk ⟨tm, bx, ks⟩ k).isSome))) = true) (h : Ops P C nt Q all rest ⟨tm, (b, t', setR i p.2 cs) :: bx, ks⟩) : Ops P C nt Q all (o :: rest) ⟨tm, bx, ks⟩ := by
 simp only [Bool.and_eq_true] at hk
 exact o_store hT (by rw [e]) (by rw [e]) (by rw [e]) ht (ev_tmp hx) (ev_tmp hy) hp hk.1 hb hl hk.2.1 hk.2.2 h
theorem yF {c : Code} {cs : List CV} {K : List Nat} {dd : DV} (t i : Nat) (hl : look σ.tm t = some (.agg cs)) (hi : cs[i]? = some (.dv K dd)) (h : Fact dd → Ok P C nt Q c σ) : Ok P C nt Q c σ := ok_factA (x := .tmp t) i (ev_tmp hl) hi h
theorem yX {s : TypeId} {p : Bool × List CV} (e : o = { dst := some d, op := .box s (.tmp t), type := ty, pos := ps, after := af, guard := none }) (hl : look tm t = some v) (hp : v.part = some p) (hk : svOk ⟨tm, bx, ks⟩ v = true) (hn : Nat.blt d nt = true) (hi : look bx d = none)
  (h : Ops P C nt Q all rest ⟨(d, .box d 0) :: tm, (d, s, p.2) :: bx, ks⟩) : Ops P C nt Q all (o :: rest) ⟨tm, bx, ks⟩ := o_box (by rw [e]) (by rw [e]) (by rw [e]) (ev_tmp hl) hp hk hn hi h
theorem kk : (∀ (α β : Type) (f : α → β) (a : α) (l : List α), (a :: l).map f = f a :: l.map f) ∧ (∀ (α β : Type) (f : α → β), ([] : List α).map f = []) ∧ (∀ (p : Nat → Bool) (a : Nat) (l : List Nat), (a :: l).any p = (p a || l.any p)) ∧ (∀ p : Nat → Bool, ([] : List Nat).any p = false) ∧ (∀ (a b : Nat) (l : List Nat), (a :: l).contains b = (b == a || l.contains b)) ∧ (∀ b : Nat, ([] : List Nat).contains b = false) ∧
  (∀ (α : Type) (l : List α), [] ++ l = l) ∧ (∀ (α : Type) (a : α) (l m : List α), a :: l ++ m = a :: (l ++ m)) ∧ (∀ b, (b || false) = b) ∧ (∀ b, (false || b) = b) ∧ (∀ b, (b || true) = true) ∧ (∀ b, (true || b) = true) ∧ (∀ (α : Type) (a b : α), (bif true then a else b) = a) ∧ (∀ (α : Type) (a b : α), (bif false then a else b) = b) := by
 refine ⟨fun _ _ _ _ _ => rfl, fun _ _ _ => rfl, fun _ _ _ => rfl, fun _ => rfl, fun a b l => List.contains_cons, fun _ => rfl, fun _ _ => rfl, fun _ _ _ _ => rfl, ?_, ?_, ?_, ?_, fun _ _ _ => rfl, fun _ _ _ => rfl⟩ <;> (intro b; cases b <;> rfl)
theorem yQ {c c' : Code} {K : List Nat} {b : Bool} (hl : look σ.tm t = some (.one (.dv K (.bool b)))) (h1 : b = true → Ok P C nt Q c σ) (h2 : b = false → Ok P C nt Q c' σ) : Ok P C nt Q (.cond (.tmp t) c c') σ := ok_cond (ev_tmp hl) h1 h2
theorem yP {ty' s : TypeId} {K : List Nat} {m n : Int} (e : o = { dst := some d, op := .binOp .add s (.tmp t) (.const (.int .i64 n)) ty', type := ty, pos := ps, after := af, guard := none }) (hl : look tm t = some (.one (.dv K (.int .i64 m)))) (hi : (decide (IntKind.i64.min ≤ n) && decide (n ≤ IntKind.i64.max)) = true) (h1 : -9223372036854775808 ≤ m + n) (h2 : m + n ≤ 9223372036854775807) (hk : (Nat.blt d nt && svOk ⟨tm, bx, ks⟩ (.one (.dv [] (.int .i64 (m + n))))) = true) (h : Ops P C nt Q all rest ⟨(d, .one (.dv [] (.int .i64 (m + n)))) :: tm, bx, ks⟩) : Ops P C nt Q all (o :: rest) ⟨tm, bx, ks⟩ := o_pure (by rw [e]) (by rw [e]) (pu_addR (by rw [e]) (ev_tmp hl) (ev_int (inR_lit hi)) (inR64 h1 h2)) (Bool.and_eq_true_iff.1 hk).1 (Bool.and_eq_true_iff.1 hk).2 h
end
end Go.Proofs.YtcgmpjedhbhplaaGreat

namespace Go.Proofs.YtcgmpjedhbhplaaGreat
open Go.RowKit
set_option linter.unusedVariables false
set_option linter.unusedSimpArgs false
section
variable {P : Program} {C : Ctx} {nt : Nat} {σ : St} {o : Oper} {x y : Operand} {T : TT} {L : Lyt} {a : Act} {w : World}
theorem pu_nilE {k i : Nat} (ho : o.op = .nilCheck x) (hx : Ev P C nt σ x (.eptr k i)) : Pu P C nt o σ (.eptr k i) [] [] := Pu.mk fun L a w hr => by
 have h1 := hx.run L a w hr
 simp only [SVr] at h1
 obtain ⟨g, n, c, h2, e⟩ := h1
 refine ⟨_, by simp only [SVr]; exact ⟨g, n, c, h2, rfl⟩, fun w' _ => ?_⟩
 unfold execOp
 simp only [ho, e, Sem.run_pure]
end
end Go.Proofs.YtcgmpjedhbhplaaGreat

namespace Go.Proofs.YtcgmpjedhbhplaaGreat
open Go.RowKit
open Go.Proofs
set_option linter.unusedVariables false
set_option linter.unusedSimpArgs false
section
variable {P : Program} {C : Ctx} {nt : Nat} {Q : Exit → St → Prop} {all : Array Oper} {oB oK : List Nat} {hd' : Nat → Bool} {listed : Array Bool} {fuel b : Nat} {tm : List (Nat × SV)} {bx : List (Nat × TypeId × List CV)} {ks : List (Nat × Option KC)} {o : Oper} {d : Nat} {v X : SV} {Ks Bs : List Nat} {g : Bool} {x y : Operand} {T : TT}
def SWL (Bs : List Nat) (wb w : World) : Prop := wb.heap.size ≤ w.heap.size ∧ ∀ k, k < wb.heap.size → k ∉ Bs → w.heap[k]? = wb.heap[k]?
theorem SWL.refl (Bs : List Nat) (w : World) : SWL Bs w w := ⟨Nat.le_refl _, fun _ _ _ => rfl⟩
theorem SWL.chg {Bs cs : List Nat} {wb w w' : World} (h : SWL Bs wb w) (hc : Chg cs w w') (hs : ∀ x ∈ cs, x ∈ Bs) : SWL Bs wb w' := ⟨Nat.le_trans h.1 hc.size, fun k hk hn => (hc.block k (Nat.lt_of_lt_of_le hk h.1) (fun hm => hn (hs k hm))).trans (h.2 k hk hn)⟩
section
variable {bs : List Nat}
theorem efg_pure (hd : o.dst = some d) (hn : Nat.blt d nt = true) (hp : Pu P C nt o ⟨tm, bx, ks⟩ v Ks Bs) (hk : svOk ⟨tm, bx, ks⟩ v = true) : EfG P C nt o ⟨tm, bx, ks⟩ (fun σ' => σ' = ⟨(d, v) :: tm, bx, ks⟩) := EfG.mk fun L a w hr K Q' hK => by
 obtain ⟨r, h1, h2⟩ := hp.run L a w hr
 unfold Oper.wp
 rw [h2 w (fun _ _ _ => rfl)]
 simp only [Oper.upon]
 rw [hd]
 exact hK L _ _ _ rfl (hr.put (by simpa [Nat.blt_eq] using hn) h1 (svOk_spec hk).1 (svOk_spec hk).2) ⟨Chg.refl [] w, fun _ _ _ => rfl, fun _ _ _ => rfl⟩
end
end
section
variable {P : Program} {C : Ctx} {nt : Nat} {σ : St} {o : Oper} {x y : Operand}
theorem weak_then {σ' σ'' : St} (h1 : Weak P C nt σ σ') (h2 : Weak P C nt σ' σ'') : Weak P C nt σ σ'' := Weak.mk fun L a w hr => by
 obtain ⟨L', h⟩ := h1.run L a w hr
 exact h2.run L' a w h
end
end Go.Proofs.YtcgmpjedhbhplaaGreat

namespace Go.Proofs.YtcgmpjedhbhplaaGreat
open Go.RowKit
set_option linter.unusedVariables false
set_option linter.unusedSimpArgs false
section
variable {P : Program} {C : Ctx} {nt : Nat} {Q : Exit → St → Prop} {all : Array Oper} {rest : List Oper} {tm : List (Nat × SV)} {bx : List (Nat × TypeId × List CV)} {ks : List (Nat × Option KC)}
end
section
variable {P : Program} {C : Ctx} {nt : Nat} {σ : St}
end
/-! ### regions that draw their order and append to a nested cell of a key -/
section
variable {P : Program} {C : Ctx} {nt : Nat} {σ : St} {L : Lyt} {a : Act} {w : World} {o : Oper} {x y : Operand} {T : TT}
theorem Rel.splitX (h : Rel P C nt L σ a w) {k k' off e sz n : Nat} {c : KC} {cs : List DV} (hk : lkk σ k = some c) (hd : c.cs[off]? = some (.sl e sz n cs)) (hk' : lkk σ k' = none) :
  ∃ L' v g m cap, L.rv k = .slice (some ⟨g, 0, none⟩) m cap ∧ w.cell? ⟨g, off, none⟩ = some v ∧ L'.rv k = L.rv k ∧ L'.rv k' = v ∧ g ∈ L'.fp k ∧
   (L'.bb = L.bb ∧ (∀ i, i ≠ k → i ≠ k' → L'.fp i = L.fp i) ∧ (∀ b ∈ L'.fp k, b ∈ L.fp k) ∧ (∀ b ∈ L'.fp k', b ∈ L.fp k)) ∧ Rel P C nt L' ⟨(σ.mut k [] true { c with cs := c.cs.set off .hole }).tm, (σ.mut k [] true { c with cs := c.cs.set off .hole }).bx, (k', some ⟨false, e, sz, n, cs⟩) :: (k, some { c with cs := c.cs.set off .hole }) :: σ.ks⟩ a w := by
 have hlt : off < c.cs.length := (List.getElem?_eq_some_iff.1 hd).1
 have hown := (h.ks k c hk).1
 obtain ⟨g, cap, vs, f, k1, k2, k3, k4⟩ := ownE_row hown hlt
 obtain ⟨v, fa, fd, fb, m1, m2, m3, m4⟩ := ownL_out k3 hd
 have hkk : k ≠ k' := fun e' => by rw [← e', hk] at hk'; cases hk'
 have hgm : g ∈ L.fp k := by rw [k2]; simp
 have hnd := h.kn k c hk
 rw [k2, m2] at hnd
 simp only [List.nodup_cons, List.mem_append, not_or] at hnd
 obtain ⟨nd1, nd2⟩ := hnd
 rw [List.nodup_append] at nd2
 obtain ⟨nd2, nd3, nd4⟩ := nd2
 rw [List.nodup_append] at nd3
 obtain ⟨nd3, nd5, nd6⟩ := nd3
 have hown1 : Own w (.sl c.e c.sz c.n (c.cs.set off .hole)) (L.rv k) (g :: (fa ++ fb)) := by
  unfold Own at hown ⊢
  obtain ⟨vs2, f2, p1, p2, p3, p4, p5⟩ := hown
  have hvs : vs2 = vs := by
   rcases (rowE_open p4).2 with ⟨q1, q2⟩ | ⟨g2, cap2, cur, t2, fz2, q1, q3, q4, q5, q6, q7⟩
   ·rw [k1] at q1; cases q1
   ·rw [k1] at q1
    simp only [Value.slice.injEq, Option.some.injEq, Addr.mk.injEq, and_true, true_and] at q1
    obtain ⟨rfl, rfl⟩ := q1
    apply List.ext_getElem (by rw [ownL_len _ _ _ p5, ownL_len _ _ _ k3])
    intro i i1 i2
    have r1 := k4 i _ (List.getElem?_eq_getElem i2)
    rw [cell_of_row _ g i cur t2 fz2 q3] at r1
    have r3 : i < c.n * c.sz := by rw [← p3, ← ownL_len _ _ _ p5]; exact i1
    have r2 : vs2[i]? = cur[i]? := by rw [← q7, List.getElem?_take, if_pos r3, Array.getElem?_toList]
    rw [List.getElem?_eq_getElem i1] at r2
    rw [← r2] at r1
    exact Option.some.inj r1
  subst hvs
  exact ⟨vs2, fa ++ fb, by rw [k1]; simp [Value.ownBlock], p2, by simpa using p3, p4, m4⟩
 have hrel := h.setkey (k := k) (c := c) (c' := { c with cs := c.cs.set off .hole }) (js := []) (same := true) (v' := L.rv k) (f' := g :: (fa ++ fb)) hk (by simp) (Chg.refl _ _) hown1
  (by
   rw [List.nodup_cons, List.nodup_append]
   refine ⟨fun hm => ?_, nd2, nd5, fun x hx y hy => nd4 x hx y (by simp [hy])⟩
   simp only [List.mem_append] at hm
   rcases hm with hm | hm
   ·exact nd1.1 hm
   ·exact nd1.2.2 hm)
  (fun b hb => .inl (by
   rw [k2, m2]
   simp only [List.mem_cons, List.mem_append] at hb ⊢
   rcases hb with hb | hb | hb
   ·exact .inl hb
   ·exact .inr (.inl hb)
   ·exact .inr (.inr (.inr hb)))) (by simp) (fun _ => rfl) (fun e' => ⟨e', rfl⟩)
 have hfd : ∀ b ∈ fd, b ∈ L.fp k := fun b hb => by rw [k2, m2]; simp [hb]
 have hnew := hrel.newkey (k := k') (c := ⟨false, e, sz, n, cs⟩) (v := v) (f := fd)
  (by
   simp only [lkk, St.mut, List.map_nil, List.nil_append, List.cons_append, look_cons]
   rw [if_neg (fun e' => hkk e'.symm)]
   exact hk') m3 rfl nd3 (fun b hb => h.k1 k c hk b (hfd b hb))
  (fun b hb i x hx e' => by
   have hx' : ∃ y, look σ.bx i = some y := by
    have := look_map (fun q : TypeId × List CV => (q.1, q.2.map (CV.kill [k] []))) σ.bx i
    change look (killB [k] [] σ.bx) i = _ at this
    change look (killB [k] [] σ.bx) i = some x at hx
    rw [this] at hx
    cases hy : look σ.bx i with
    | none => rw [hy] at hx; cases hx
    | some q => exact ⟨q, rfl⟩
   obtain ⟨y, hy⟩ := hx'
   exact h.bk i k y c hy hk (by rw [show L.bb i = b from e']; exact hfd b hb))
  (fun b hb j d' hj => by
   simp only [lkk, St.mut, List.map_nil, List.nil_append, List.cons_append, look_cons] at hj
   by_cases hjk : j = k
   ·subst hjk
    simp only [if_true]
    intro hm
    simp only [List.mem_cons, List.mem_append] at hm
    rcases hm with hm | hm | hm
    ·exact nd1.2.1 (hm ▸ hb)
    ·exact nd4 b hm b (by simp [hb]) rfl
    ·exact nd6 b hb b hm rfl
   ·rw [if_neg hjk] at hj
    simp only [if_neg hjk]
    exact fun hm => h.kk j k d' c hj hk hjk b hm (hfd b hb))
 refine ⟨_, v, g, c.n, cap, k1, k4 off v m1, ?_, ?_, ?_, ?_, hnew⟩
 ·simp [hkk]
 ·simp
 ·simp [hkk]
 refine ⟨rfl, fun i h1 h2 => ?_, fun b hb => ?_, fun b hb => ?_⟩
 ·simp [h1, h2]
 ·simp only [if_neg hkk, if_true] at hb
  rw [k2, m2]
  simp only [List.mem_cons, List.mem_append] at hb ⊢
  rcases hb with hb | hb | hb
  ·exact .inl hb
  ·exact .inr (.inl hb)
  ·exact .inr (.inr (.inr hb))
 ·simp only [if_true] at hb
  exact hfd b hb

theorem app_wpK (hT : TTOk P T) {t e sz by_ d k j : Nat} {zc : List CV} {c c2 : KC} (ho : o.op = .call { callee := .builtin .append, args := #[x, y], argTypes := #[t, t] }) (hd : o.dst = some d) (hnt : Nat.blt d nt = true) (ht : look T.sl t = some e) (he : look T.el e = some (sz, by_, zc)) (hl0 : zc.length = sz)
  (hx : Ev P C nt σ x (.one (.key k))) (hk : lkk σ k = some c) (hce : c.e = e) (hcs : c.sz = sz) (hy : Ev P C nt σ y (.one (.key j))) (hj : lkk σ j = some c2) (hcs2 : c2.sz = sz) (hkj : k ∉ [j]) (hb : (c.n + c2.n) * by_ ≤ 140737488355328) (h63 : c.n + c2.n ≤ 9223372036854775807)
  {L : Lyt} {a : Act} {w : World} {K : Act → World → Prop} {Q : Exit → Act → World → Prop} (hr : Rel P C nt L σ a w) (hK : ∀ L' a' w', Rel P C nt L' ((σ.mut k [j] false ⟨false, e, sz, c.n + c2.n, c.cs ++ c2.cs⟩).put d (.one (.key k))) a' w' → AppF L L' w w' k [j] → K a' w') : o.wp P a w K Q := by
 have h1 := hx.run L a w hr
 have h2 := hy.run L a w hr
 simp only [SVr, CVr] at h1 h2
 have hown := (hr.ks j c2 hj).1
 have hlay := own_lay (ok := fun _ => True) _ _ _ hown (fun _ _ => trivial)
 rw [hcs2] at hlay
 simp only [Own] at hown
 obtain ⟨vs, f, e3, h5, h6, h7, h8⟩ := hown
 obtain ⟨A, cap, vs', e1, hrow, hlay'⟩ := lay_row hlay
 have hvs : vs' = vs := by
  have h7' := rowE_open h7
  rcases h7'.2 with ⟨g1, g2⟩ | ⟨g, cap2, cur, t', fz', g1, g2, g3, g4, g5, g6⟩
  ·have l1 : vs.length = 0 := by rw [h7'.1, g2]; simp
   have l2 : vs'.length = 0 := by rw [hrow.1, g2]; simp
   rw [List.eq_nil_of_length_eq_zero l1, List.eq_nil_of_length_eq_zero l2]
  ·rw [e1] at g1
   simp only [Value.slice.injEq, true_and] at g1
   obtain ⟨rfl, rfl⟩ := g1
   rcases Nat.eq_zero_or_pos c2.n with h0 | h0
   ·have l1 : vs.length = 0 := by rw [h7'.1, h0]; simp
    have l2 : vs'.length = 0 := by rw [hrow.1, h0]; simp
    rw [List.eq_nil_of_length_eq_zero l1, List.eq_nil_of_length_eq_zero l2]
   ·obtain ⟨b, off, k1, k2⟩ := hrow.2 h0
    simp only [Option.some.injEq, Addr.mk.injEq, and_true] at k1
    obtain ⟨rfl, rfl⟩ := k1
    apply List.ext_getElem (by rw [hrow.1, h7'.1, hcs2])
    intro i i1 i2
    have q1 := k2 i _ (List.getElem?_eq_getElem i1)
    rw [Nat.zero_add, cell_of_row w _ i cur t' fz' g2] at q1
    have q3 : i < c2.n * c2.sz := by rw [← h7'.1]; exact i2
    have q2 : vs[i]? = cur[i]? := by rw [← g6, List.getElem?_take, if_pos q3, Array.getElem?_toList]
    rw [List.getElem?_eq_getElem i2] at q2
    rw [← q2] at q1
    exact (Option.some.inj q1).symm
 subst hvs
 have hnf : f.Nodup := by
  have := hr.kn j c2 hj
  rw [e3] at this
  exact (List.nodup_append.1 this).2.1
 exact app_wpX hT ho hd (by simpa [Nat.blt_eq] using hnt) ht he hl0 hr hk hce hcs h1 (by rw [h2]; exact e1) hkj (by simp [hj]) hrow h8 (fun b hb' => ⟨j, by simp, by rw [e3]; simp [hb']⟩) hnf (by simpa [maxLen] using h63) hb hK
end
structure OpsK (P : Program) (C : Ctx) (nt : Nat) (Q : Exit → St → Prop) (all : Array Oper) (oB oK : List Nat) (k0 : Nat) (hd' : Nat → Bool) (listed : Array Bool) (fuel : Nat) (σ : St) : Prop where
 run : ∀ Bs wb L a w, Rel P C nt L σ a w → SWL Bs wb w → C.w0.heap.size ≤ wb.heap.size → (∀ i ∈ oB, L.bb i < wb.heap.size ∧ L.bb i ∉ Bs) → (∀ k ∈ oK, ∀ b ∈ L.fp k, b < wb.heap.size ∧ b ∉ Bs) → (∀ b ∈ L.fp k0, b ∈ Bs) → (∀ b ∈ Bs, fresh C b) → wpAnyT P .any all (QQ P C nt Q) (SWL Bs wb) hd' fuel listed a w
structure OpsKJ (P : Program) (C : Ctx) (nt : Nat) (Q : Exit → St → Prop) (all : Array Oper) (oB oK : List Nat) (k0 : Nat) (hd' : Nat → Bool) (listed : Array Bool) (fuel : Nat) (i : Nat) (σ : St) : Prop where
 run : ∀ Bs wb L a w, Rel P C nt L σ a w → SWL Bs wb w → C.w0.heap.size ≤ wb.heap.size → (∀ i ∈ oB, L.bb i < wb.heap.size ∧ L.bb i ∉ Bs) → (∀ k ∈ oK, ∀ b ∈ L.fp k, b < wb.heap.size ∧ b ∉ Bs) → (∀ b ∈ L.fp k0, b ∈ Bs) → (∀ b ∈ Bs, fresh C b) →
  wpOp P all (QQ P C nt Q) i (fun a' w' => (hd' i = true → SWL Bs wb w') ∧ wpAnyT P .any all (QQ P C nt Q) (SWL Bs wb) hd' fuel (listed.setIfInBounds i true) a' w') a w
def AllKJ (P : Program) (C : Ctx) (nt : Nat) (Q : Exit → St → Prop) (all : Array Oper) (oB oK : List Nat) (k0 : Nat) (hd' : Nat → Bool) (listed : Array Bool) (fuel : Nat) (σ : St) : List Nat → Prop
 | [] => True
 | i :: is => OpsKJ P C nt Q all oB oK k0 hd' listed fuel i σ ∧ AllKJ P C nt Q all oB oK k0 hd' listed fuel σ is
section
variable {P : Program} {C : Ctx} {nt : Nat} {Q : Exit → St → Prop} {all : Array Oper} {oB oK : List Nat} {k0 : Nat} {listed : Array Bool} {fuel : Nat} {hd' : Nat → Bool} {tm : List (Nat × SV)} {bx : List (Nat × TypeId × List CV)} {ks : List (Nat × Option KC)} {o : Oper} {d : Nat} {v X : SV} {Ks Bs0 : List Nat} {x y : Operand} {T : TT}
theorem allKJ_mem {σ : St} : ∀ {is : List Nat}, AllKJ P C nt Q all oB oK k0 hd' listed fuel σ is → ∀ i ∈ is, OpsKJ P C nt Q all oB oK k0 hd' listed fuel i σ
 | [], _, _, hi => by cases hi
 | j :: is, h, i, hi => by
  rcases List.mem_cons.1 hi with rfl | hi
  ·exact h.1
  ·exact allKJ_mem h.2 i hi
theorem ok_regionK (k0 : Nat) (hs : List Nat) {id : Nat} {l : List Oper} (hm : P.follows .mixedOrders = true) (hb : (oB.all fun i => (look bx i).isSome) = true) (hk : (oK.all fun k => (lkk ⟨tm, bx, ks⟩ k).isSome && !(Nat.beq k k0)) = true) (h0 : (lkk ⟨tm, bx, ks⟩ k0).isSome = true)
  (h : OpsK P C nt Q l.toArray oB oK k0 (fun i => hs.contains i) (Array.replicate l.length false) l.length ⟨tm, bx, ks⟩) : Ok P C nt Q (.region id l.toArray true) ⟨tm, bx, ks⟩ := Ok.mk fun L a w hr => by
 have hr' := rel_drew hr
 obtain ⟨c0, hc0⟩ := Option.isSome_iff_exists.1 h0
 refine T_begin (SWL (L.fp k0) w.drew) (fun i => hs.contains i) hm ?_
 have := h.run (L.fp k0) w.drew L a w.drew hr' (SWL.refl _ _) hr'.chg.size (fun i hi => ?_) (fun k hk' b hb' => ?_) (fun b hb' => hb') (fun b hb' => hr.k1 k0 c0 hc0 b hb')
 ·simpa using this
 ·obtain ⟨x, hx⟩ := Option.isSome_iff_exists.1 (List.all_eq_true.1 hb i hi)
  exact ⟨hr'.bx_lt hx, hr.bk i k0 x c0 hx hc0⟩
 ·have h1 := List.all_eq_true.1 hk k hk'
  simp only [Bool.and_eq_true, Bool.not_eq_true'] at h1
  obtain ⟨c, hc⟩ := Option.isSome_iff_exists.1 h1.1
  have hne : k ≠ k0 := fun e => by rw [e] at h1; simp at h1
  exact ⟨hr'.k_lt hc b hb', hr.kk k k0 c c0 hc hc0 hne b hb'⟩
theorem k_take (i : Nat) (hi : all[i]? = some o) (ht : takeB .any all hd' listed i = true) (hg : o.guard = none) (hd : o.dst = some d) (hp : Pu P C nt o ⟨tm, bx, ks⟩ v Ks Bs0) (h1 : (Ks.all fun k => oK.contains k) = true) (h2 : (Bs0.all fun k => oB.contains k) = true) (hn : Nat.blt d nt = true) (hk : svOk ⟨tm, bx, ks⟩ v = true)
  (h : OpsK P C nt Q all oB oK k0 hd' (listed.setIfInBounds i true) fuel ⟨(d, v) :: tm, bx, ks⟩) : OpsK P C nt Q all oB oK k0 hd' listed (fuel + 1) ⟨tm, bx, ks⟩ := ⟨fun Bs wb L a w hr hs hw hB hK h0 hF => by
 obtain ⟨r, q3, q4⟩ := hp.run L a w hr
 have hy : ∀ w', SWL Bs wb w' → (execOp a.eval o).run P w' = .ok (.value r) w' := fun w' hs' => q4 w' fun z _ hu => by
  have hz : z < wb.heap.size ∧ z ∉ Bs := by
   rcases hu with (⟨h5, h6⟩ | ⟨k, hk, hb⟩) | ⟨i, hi, rfl⟩
   ·refine ⟨by omega, fun hb => ?_⟩
    rcases hF z hb with g | g
    ·omega
    ·exact h6 g
   ·exact hK k (List.contains_iff_mem.1 (List.all_eq_true.1 h1 k hk)) z hb
   ·exact hB i (List.contains_iff_mem.1 (List.all_eq_true.1 h2 i hi))
  rw [hs'.2 z hz.1 hz.2, hs.2 z hz.1 hz.2]
 refine T_take i (v := r) hi ht (fun _ _ _ h => h) hs (.inl ⟨by simp [Region.wanted, hg], hy⟩) ?_
 rw [hd]
 exact h.run Bs wb L _ w (hr.put (by simpa [Nat.blt_eq] using hn) q3 (svOk_spec hk).1 (svOk_spec hk).2) hs hw hB hK h0 hF⟩
theorem k_split {σ : St} (i : Nat) (is : List Nat) (hr : (Region.ready .any all listed == i :: is) = true) (h : AllKJ P C nt Q all oB oK k0 hd' listed fuel σ (i :: is)) : OpsK P C nt Q all oB oK k0 hd' listed (fuel + 1) σ := ⟨fun Bs wb L a w hrel hs hw hB hK h0 hF => by
 have hr' : Region.ready .any all listed = i :: is := by simpa using hr
 refine ⟨fun h0 => (by rw [hr'] at h0; cases h0), fun j hj => ?_⟩
 rw [hr'] at hj
 exact (allKJ_mem h j hj).run Bs wb L a w hrel hs hw hB hK h0 hF⟩
theorem kj_of (i : Nat) {σ : St} (hi : all[i]? = some o) (hg : o.guard = none) (h : ∀ Bs wb L a w, Rel P C nt L σ a w → SWL Bs wb w → C.w0.heap.size ≤ wb.heap.size → (∀ i ∈ oB, L.bb i < wb.heap.size ∧ L.bb i ∉ Bs) → (∀ k ∈ oK, ∀ b ∈ L.fp k, b < wb.heap.size ∧ b ∉ Bs) → (∀ b ∈ L.fp k0, b ∈ Bs) → (∀ b ∈ Bs, fresh C b) →
   o.wp P a w (fun a' w' => (hd' i = true → SWL Bs wb w') ∧ wpAnyT P .any all (QQ P C nt Q) (SWL Bs wb) hd' fuel (listed.setIfInBounds i true) a' w') (QQ P C nt Q)) : OpsKJ P C nt Q all oB oK k0 hd' listed fuel i σ := ⟨fun Bs wb L a w hr hs hw hB hK h0 hF => by
 unfold wpOp
 simp only [hi]
 have hw' : Region.wanted o (yielded all a.tmps) = true := by simp [Region.wanted, hg]
 rw [if_pos hw']
 exact .inl (h Bs wb L a w hr hs hw hB hK h0 hF)⟩
theorem kj_efg (i : Nat) {R : St → Prop} (hi : all[i]? = some o) (hg : o.guard = none) (hp : EfG P C nt o ⟨tm, bx, ks⟩ R) (hb : (oB.all fun i => (look bx i).isSome) = true) (hk : (oK.all fun k => (lkk ⟨tm, bx, ks⟩ k).isSome) = true) (hk0 : (lkk ⟨tm, bx, ks⟩ k0).isSome = true)
  (h : ∀ σ', R σ' → OpsK P C nt Q all oB oK k0 hd' (listed.setIfInBounds i true) fuel σ') : OpsKJ P C nt Q all oB oK k0 hd' listed fuel i ⟨tm, bx, ks⟩ :=
 kj_of i hi hg fun Bs wb L a w hr hs hw hB hK h0 hF => hp.run L a w hr _ _ fun L' σ' a' w' h1 h2 h3 => by
  have hs' := hs.chg h3.chg (by simp)
  refine ⟨fun _ => hs', (h σ' h1).run Bs wb L' a' w' h2 hs' hw (fun j hj => ?_) (fun k hk' b' hb' => ?_) (fun b' hb' => ?_) hF⟩
  ·obtain ⟨x, hx⟩ := Option.isSome_iff_exists.1 (List.all_eq_true.1 hb j hj)
   rw [h3.box j x hx]; exact hB j hj
  ·obtain ⟨c, hc⟩ := Option.isSome_iff_exists.1 (List.all_eq_true.1 hk k hk')
   rw [h3.key k c hc] at hb'; exact hK k hk' b' hb'
  ·obtain ⟨c, hc⟩ := Option.isSome_iff_exists.1 hk0
   rw [h3.key k0 c hc] at hb'; exact h0 b' hb'
theorem kj_pure (i : Nat) (hi : all[i]? = some o) (hg : o.guard = none) (hd : o.dst = some d) (hp : Pu P C nt o ⟨tm, bx, ks⟩ v Ks Bs0) (hn : Nat.blt d nt = true) (hk : svOk ⟨tm, bx, ks⟩ v = true) (hb : (oB.all fun i => (look bx i).isSome) = true) (hk' : (oK.all fun k => (lkk ⟨tm, bx, ks⟩ k).isSome) = true) (hk0 : (lkk ⟨tm, bx, ks⟩ k0).isSome = true)
  (h : OpsK P C nt Q all oB oK k0 hd' (listed.setIfInBounds i true) fuel ⟨(d, v) :: tm, bx, ks⟩) : OpsKJ P C nt Q all oB oK k0 hd' listed fuel i ⟨tm, bx, ks⟩ :=
 kj_efg i hi hg (efg_pure hd hn hp hk) hb hk' hk0 fun σ' e => by rw [e]; exact h
theorem kj_callK (m i : Nat) {f : FuncId} {xs : List Operand} {ats : Array TypeId} {us : List SV} {kk : List (Nat × Option KC)} (hi : all[i]? = some o) (hg : o.guard = none) (hd : o.dst = some d) (ho : o.op = .call { callee := .value (.func f), args := xs.toArray, argTypes := ats })
  (hc : ∀ (args : Array Value) (w : World), (callFunc f args).run P w = .ok (.enter f args) w) (hf : KFn P f us v kk) (ha : ArgSs P C nt ⟨tm, bx, ks⟩ xs us) (hn : Nat.blt d nt = true) (hres : v.retOk = true) (hfree : (kk.all fun q => (lkk ⟨tm, bx, ks⟩ (m + q.1)).isNone) = true)
  (hb : (oB.all fun i => (look bx i).isSome) = true) (hk : (oK.all fun k => (lkk ⟨tm, bx, ks⟩ k).isSome) = true) (hk0 : (lkk ⟨tm, bx, ks⟩ k0).isSome = true)
  (h : OpsK P C nt Q all oB oK k0 hd' (listed.setIfInBounds i true) fuel ⟨(d, v.sh m) :: tm, bx, shK m kk ++ ks⟩) : OpsKJ P C nt Q all oB oK k0 hd' listed fuel i ⟨tm, bx, ks⟩ :=
 kj_efg i hi hg (efg_call (ι := Unit) (v := fun _ => v) (kk := fun _ => kk) (p := fun _ => True) m ho hd hn hc hf.ok ha (fun u σ' h => ⟨(), h.1, h.2, trivial⟩) (fun _ => hres) (fun _ => hfree)) hb hk hk0 fun σ' ⟨_, _, e⟩ => by rw [e]; exact h
theorem kj_buildN (i : Nat) (hT : TTOk P T) {t e sz by_ d k n : Nat} {zc cs : List CV} {ds : List DV} {js : List Nat} {ps : List (Nat × Operand)} (hi : all[i]? = some o) (hg : o.guard = none) (hd : o.dst = some d) (ho : o.op = .buildSlice t n ps.toArray) (hn : Nat.blt d nt = true) (ht : look T.sl t = some e) (he : look T.el e = some (sz, by_, zc)) (hl0 : zc.length = sz) (hsz : Nat.blt 0 sz = true) (hsm : Nat.ble (n * sz) 16777216 = true) (hps : ps.length = n) (hn0 : Nat.blt 0 n = true)
  (hx : EvParts P C nt ⟨tm, bx, ks⟩ sz 0 ps cs) (how : OwCs ⟨tm, bx, ks⟩ cs ds js) (hnj : js.Nodup) (hkj : k ∉ js) (hcl : cs.length = n * sz) (hk : lkk ⟨tm, bx, ks⟩ k = none)
  (hb : (oB.all fun i => (look bx i).isSome) = true) (hk' : (oK.all fun k => (lkk ⟨tm, bx, ks⟩ k).isSome) = true) (hk0 : (lkk ⟨tm, bx, ks⟩ k0).isSome = true)
  (h : OpsK P C nt Q all oB oK k0 hd' (listed.setIfInBounds i true) fuel ⟨(d, .one (.key k)) :: killT (k :: js) (k :: js) tm, killB (k :: js) (k :: js) bx, (k, some ⟨false, e, sz, n, ds⟩) :: ((js.map fun j => (j, none)) ++ (k, some ⟨false, e, sz, 0, []⟩) :: ks)⟩) : OpsKJ P C nt Q all oB oK k0 hd' listed fuel i ⟨tm, bx, ks⟩ :=
 kj_efg i hi hg (efg_buildN hT ho hd hn ht he hl0 hsz hsm hps hn0 hx how hnj hkj hcl hk) hb hk' hk0 fun σ' e => by rw [e]; exact h
theorem kj_appN (k' i : Nat) (hT : TTOk P T) {t tt e sz by_ d j off n n2 : Nat} {zc : List CV} {c c2 : KC} {cs ccs cs2 : List DV} (hi : all[i]? = some o) (hg : o.guard = none) (hd : o.dst = some d) (ho : o.op = .call { callee := .builtin .append, args := #[.tmp t, y], argTypes := #[tt, tt] }) (hnt : Nat.blt d nt = true) (ht : look T.sl tt = some e) (he : look T.el e = some (sz, by_, zc)) (hl0 : zc.length = sz)
  (hx : look tm t = some (.one (.nest k0 off (.sl e sz n cs)))) (hk : lkk ⟨tm, bx, ks⟩ k0 = some c) (hcs : c.cs[off]? = some (.sl e sz n cs)) (hk' : lkk ⟨tm, bx, ks⟩ k' = none) (hcc : c.cs.set off .hole = ccs)
  (hy : Ev P C nt (St.outs ⟨tm, bx, ks⟩ t k0 k' off e sz n c cs) y (.one (.key j))) (hj : lkk ⟨tm, bx, ks⟩ j = some c2) (hcs2 : c2.sz = sz) (hj0 : Nat.beq j k0 = false) (hb : (n + c2.n) * by_ ≤ 140737488355328) (h63 : n + c2.n ≤ 9223372036854775807) (hn2 : n + c2.n = n2) (hcs3 : cs ++ c2.cs = cs2)
  (hbb : (oB.all fun i => (look bx i).isSome) = true) (hkk : (oK.all fun k => (lkk ⟨tm, bx, ks⟩ k).isSome && (!(Nat.beq k k0) && !(Nat.beq k j))) = true)
  (h : OpsK P C nt Q all oB oK k0 hd' (listed.setIfInBounds i true) fuel ⟨(d, .one (.key k')) :: killT [k', j] [k', j] ((t, .one (.key k')) :: killT [k0] [] tm), killB [k', j] [k', j] (killB [k0] [] bx), (k', some ⟨false, e, sz, n2, cs2⟩) :: (j, none) :: (k', some ⟨false, e, sz, n, cs⟩) :: (k0, some { c with cs := ccs }) :: ks⟩) : OpsKJ P C nt Q all oB oK k0 hd' listed fuel i ⟨tm, bx, ks⟩ := by
 subst hcc; subst hn2; subst hcs3
 refine kj_of i hi hg fun Bs wb L a w hr hs hw hB hK h0 hF => ?_
 have h1 := hr.tm t _ hx
 simp only [SVr, CVr] at h1
 obtain ⟨_, g, m, cap, e1, e2, e3⟩ := h1
 obtain ⟨L', v, g', m', cap', q1, q2, q3, q4, q5, ⟨s1, s2, s3, s4⟩, q6⟩ := hr.splitX hk hcs hk'
 rw [e1] at q1
 simp only [Value.slice.injEq, Option.some.injEq, Addr.mk.injEq, and_true, true_and] at q1
 obtain ⟨rfl, rfl, rfl⟩ := q1
 rw [e3] at q2
 have hv := Option.some.inj q2
 have hne : j ≠ k0 := fun e => by rw [e] at hj0; simp at hj0
 have hjk' : j ≠ k' := fun e => by rw [e, hk'] at hj; cases hj
 have hk0' : k0 ≠ k' := fun e => by rw [← e, hk] at hk'; cases hk'
 have hr1 : Rel P C nt L' (St.outs ⟨tm, bx, ks⟩ t k0 k' off e sz n c cs) a w := q6.also (d := t) (v := .one (.key k')) (by simp only [SVr, CVr]; rw [q4]; exact hv) (by simp [SV.keys, CV.keys, lkk, look_cons]) (by simp [SV.boxes])
 have hlk' : lkk (St.outs ⟨tm, bx, ks⟩ t k0 k' off e sz n c cs) k' = some ⟨false, e, sz, n, cs⟩ := by simp [lkk, look_cons]
 have hlj : lkk (St.outs ⟨tm, bx, ks⟩ t k0 k' off e sz n c cs) j = some c2 := by
  have : lkk ⟨tm, bx, ks⟩ j = some c2 := hj
  simp only [lkk, look_cons, if_neg hjk', if_neg hne] at this ⊢
  exact this
 refine app_wpK hT ho hd hnt ht he hl0 (ev_tmp (by simp [look_cons])) hlk' rfl rfl hy hlj hcs2 (by simpa using hjk'.symm) hb h63 hr1 (fun L2 a' w' hr2 hf => ?_)
 have hsub : ∀ b ∈ L'.fp k', b ∈ Bs := fun b hb' => h0 b (s4 b hb')
 have hs' := hs.chg hf.chg hsub
 refine ⟨fun _ => hs', h.run Bs wb L2 a' w' hr2 hs' hw (fun z hz => ?_) (fun z hz b hb' => ?_) (fun b hb' => ?_) hF⟩
 ·rw [hf.bb, s1]; exact hB z hz
 ·have h5 := List.all_eq_true.1 hkk z hz
  simp only [Bool.and_eq_true, Bool.not_eq_true'] at h5
  have z1 : z ≠ k0 := fun e => by rw [e] at h5; simp at h5
  obtain ⟨c5, hc5⟩ := Option.isSome_iff_exists.1 h5.1
  have z2 : z ≠ k' := fun e => by rw [e, hk'] at hc5; cases hc5
  rw [hf.fp z z2, s2 z z1 z2] at hb'
  exact hK z hz b hb'
 ·rw [hf.fp k0 hk0'] at hb'
  exact h0 b (s3 b hb')
theorem k_chain (is : List Nat) (hm : (is.all fun i => (all[i]?).isSome) = true) (hf : Nat.ble is.length fuel = true) (hc : chainB .any all hd' is listed = true) (h : Ops P C nt Q all (is.filterMap fun i => all[i]?) ⟨tm, bx, ks⟩) : OpsK P C nt Q all oB oK k0 hd' listed fuel ⟨tm, bx, ks⟩ := ⟨fun _ wb L a w hr _ _ _ _ _ _ =>
 T_chain is _ listed fuel a w (chain_map hm) (by simpa [Nat.ble_eq] using hf) hc (h.run L a w hr)⟩
end
end Go.Proofs.YtcgmpjedhbhplaaGreat

namespace Go.Proofs.YtcgmpjedhbhplaaGreat
open Go.RowKit
open Go.Proofs
set_option linter.unusedVariables false
section
variable {C : Ctx} {nt : Nat} {x y : Operand} {σ : St} {ty0 : TypeId} {ps : String} {af : Array Edge} {dd : Option Tmp} {gg : Option (Nat × Bool)}
theorem qA {v : SV} (hx : Ev Tryz.prog C nt σ x v) : Pu Tryz.prog C nt ⟨dd, .move x, ty0, ps, af, gg⟩ σ v [] [] := pu_move (.inl rfl) hx
theorem qB {v : SV} (hx : Ev Tryz.prog C nt σ x v) : Pu Tryz.prog C nt ⟨dd, .assign x, ty0, ps, af, gg⟩ σ v [] [] := pu_move (.inr rfl) hx
theorem qC {s f off b i : Nat} (hx : Ev Tryz.prog C nt σ x (.box b i)) (h : look TTab.of (1000 * s + f) = some off) (hf : Nat.blt f 1000 = true) : Pu Tryz.prog C nt ⟨dd, .fieldAddr s x f, ty0, ps, af, gg⟩ σ (.box b (i + off)) [] [] := pu_fieldBox hT rfl h hf hx
theorem qC2 {s f off : Nat} {K : List Nat} {ds : List DV} (hx : Ev Tryz.prog C nt σ x (.ref K ds)) (h : look TTab.of (1000 * s + f) = some off) (hf : Nat.blt f 1000 = true) : Pu Tryz.prog C nt ⟨dd, .fieldAddr s x f, ty0, ps, af, gg⟩ σ (.ref K (ds.drop off)) [] [] := pu_fieldRef hT rfl h hf hx
theorem qC3 {s f off k i : Nat} (hx : Ev Tryz.prog C nt σ x (.eptr k i)) (h : look TTab.of (1000 * s + f) = some off) (hf : Nat.blt f 1000 = true) : Pu Tryz.prog C nt ⟨dd, .fieldAddr s x f, ty0, ps, af, gg⟩ σ (.eptr k (i + off)) [] [] := pu_fieldE hT rfl h hf hx
theorem qD {t n b i t' : Nat} {cs : List CV} (ht : look TTab.ag t = some n) (hx : Ev Tryz.prog C nt σ x (.box b i)) (hb : look σ.bx b = some (t', cs)) (hl : Nat.ble (i + n) cs.length = true) : Pu Tryz.prog C nt ⟨dd, .load t x, ty0, ps, af, gg⟩ σ (.agg (sub i n cs)) [] [b] := pu_loadBoxA hT rfl ht hx hb hl
theorem qD2 {t b i t' : Nat} {cs : List CV} {c : CV} {u : Unit} (ht : look TTab.on t = some u) (hx : Ev Tryz.prog C nt σ x (.box b i)) (hb : look σ.bx b = some (t', cs)) (hl : cs[i]? = some c) : Pu Tryz.prog C nt ⟨dd, .load t x, ty0, ps, af, gg⟩ σ (.one c) [] [b] := pu_loadBox1 hT rfl ht hx hb hl
theorem qD3 {t n : Nat} {K : List Nat} {ds : List DV} (ht : look TTab.ag t = some n) (hx : Ev Tryz.prog C nt σ x (.ref K ds)) (hl : Nat.ble n ds.length = true) : Pu Tryz.prog C nt ⟨dd, .load t x, ty0, ps, af, gg⟩ σ (.agg ((ds.take n).map (dvK K))) K [] := pu_loadRefA hT rfl ht hx hl
theorem qD4 {t : Nat} {K : List Nat} {dv : DV} {ds : List DV} {u : Unit} (ht : look TTab.on t = some u) (hx : Ev Tryz.prog C nt σ x (.ref K ds)) (hd : ds[0]? = some dv) : Pu Tryz.prog C nt ⟨dd, .load t x, ty0, ps, af, gg⟩ σ (.one (dvK K dv)) K [] := pu_loadRef1 hT rfl ht hx hd
theorem qE {i : Nat} {ts : List (Bool × List CV)} {c : CV} (hx : Ev Tryz.prog C nt σ x (.tup ts)) (h : ts[i]? = some (false, [c])) : Pu Tryz.prog C nt ⟨dd, .extract x i, ty0, ps, af, gg⟩ σ (.one c) [] [] := pu_extract1 rfl hx h
theorem qE2 {i : Nat} {ts : List (Bool × List CV)} {cs : List CV} (hx : Ev Tryz.prog C nt σ x (.tup ts)) (h : ts[i]? = some (true, cs)) : Pu Tryz.prog C nt ⟨dd, .extract x i, ty0, ps, af, gg⟩ σ (.agg cs) [] [] := pu_extractA rfl hx h
theorem qN {t : TypeId} {K : List Nat} {b : Bool} (hx : Ev Tryz.prog C nt σ x (.one (.dv K (.bool b)))) : Pu Tryz.prog C nt ⟨dd, .unOp .not t x, ty0, ps, af, gg⟩ σ (.one (.dv [] (.bool (!b)))) [] [] := pu_not rfl hx
theorem qG {c : Operand} {K J : List Nat} {b b2 : Bool} (hc : Ev Tryz.prog C nt σ c (.one (.dv K (.bool b)))) (hy : b = true → Ev Tryz.prog C nt σ y (.one (.dv J (.bool b2)))) : Pu Tryz.prog C nt ⟨dd, .pick c y (.const (.bool false)), ty0, ps, af, gg⟩ σ (.one (.dv [] (.bool (b && b2)))) [] [] := pu_and rfl hc hy
theorem qH {c : Operand} {K J : List Nat} {b b2 : Bool} (hc : Ev Tryz.prog C nt σ c (.one (.dv K (.bool b)))) (hy : b = false → Ev Tryz.prog C nt σ y (.one (.dv J (.bool b2)))) : Pu Tryz.prog C nt ⟨dd, .pick c (.const (.bool true)) y, ty0, ps, af, gg⟩ σ (.one (.dv [] (.bool (b || b2)))) [] [] := pu_or rfl hc hy
theorem qIlss {t ty : TypeId} {K J : List Nat} {k : IntKind} {m n : Int} (hx : Ev Tryz.prog C nt σ x (.one (.dv K (.int k m)))) (hy : Ev Tryz.prog C nt σ y (.one (.dv J (.int k n)))) : Pu Tryz.prog C nt ⟨dd, .binOp .lss t x y ty, ty0, ps, af, gg⟩ σ (.one (.dv [] (.bool (decide (m < n))))) [] [] := pu_lss rfl hx hy
theorem qIleq {t ty : TypeId} {K J : List Nat} {k : IntKind} {m n : Int} (hx : Ev Tryz.prog C nt σ x (.one (.dv K (.int k m)))) (hy : Ev Tryz.prog C nt σ y (.one (.dv J (.int k n)))) : Pu Tryz.prog C nt ⟨dd, .binOp .leq t x y ty, ty0, ps, af, gg⟩ σ (.one (.dv [] (.bool (decide (m ≤ n))))) [] [] := pu_leq rfl hx hy
theorem qIgtr {t ty : TypeId} {K J : List Nat} {k : IntKind} {m n : Int} (hx : Ev Tryz.prog C nt σ x (.one (.dv K (.int k m)))) (hy : Ev Tryz.prog C nt σ y (.one (.dv J (.int k n)))) : Pu Tryz.prog C nt ⟨dd, .binOp .gtr t x y ty, ty0, ps, af, gg⟩ σ (.one (.dv [] (.bool (decide (n < m))))) [] [] := pu_gtr rfl hx hy
theorem qIgeq {t ty : TypeId} {K J : List Nat} {k : IntKind} {m n : Int} (hx : Ev Tryz.prog C nt σ x (.one (.dv K (.int k m)))) (hy : Ev Tryz.prog C nt σ y (.one (.dv J (.int k n)))) : Pu Tryz.prog C nt ⟨dd, .binOp .geq t x y ty, ty0, ps, af, gg⟩ σ (.one (.dv [] (.bool (decide (n ≤ m))))) [] [] := pu_geq rfl hx hy
theorem qIeql {t ty : TypeId} {K J : List Nat} {k : IntKind} {m n : Int} (hx : Ev Tryz.prog C nt σ x (.one (.dv K (.int k m)))) (hy : Ev Tryz.prog C nt σ y (.one (.dv J (.int k n)))) : Pu Tryz.prog C nt ⟨dd, .binOp .eql t x y ty, ty0, ps, af, gg⟩ σ (.one (.dv [] (.bool (decide (m = n))))) [] [] := pu_eql rfl hx hy
theorem qIneq {t ty : TypeId} {K J : List Nat} {k : IntKind} {m n : Int} (hx : Ev Tryz.prog C nt σ x (.one (.dv K (.int k m)))) (hy : Ev Tryz.prog C nt σ y (.one (.dv J (.int k n)))) : Pu Tryz.prog C nt ⟨dd, .binOp .neq t x y ty, ty0, ps, af, gg⟩ σ (.one (.dv [] (.bool (!decide (m = n))))) [] [] := pu_neq rfl hx hy
theorem qSeql {t ty : TypeId} {K J : List Nat} {m n : ByteArray} (hx : Ev Tryz.prog C nt σ x (.one (.dv K (.str m)))) (hy : Ev Tryz.prog C nt σ y (.one (.dv J (.str n)))) : Pu Tryz.prog C nt ⟨dd, .binOp .eql t x y ty, ty0, ps, af, gg⟩ σ (.one (.dv [] (.bool (sEq m n)))) [] [] := pu_seq rfl hx hy
theorem qSneq {t ty : TypeId} {K J : List Nat} {m n : ByteArray} (hx : Ev Tryz.prog C nt σ x (.one (.dv K (.str m)))) (hy : Ev Tryz.prog C nt σ y (.one (.dv J (.str n)))) : Pu Tryz.prog C nt ⟨dd, .binOp .neq t x y ty, ty0, ps, af, gg⟩ σ (.one (.dv [] (.bool (!sEq m n)))) [] [] := pu_sne rfl hx hy
theorem qSlss {t ty : TypeId} {K J : List Nat} {m n : ByteArray} (hx : Ev Tryz.prog C nt σ x (.one (.dv K (.str m)))) (hy : Ev Tryz.prog C nt σ y (.one (.dv J (.str n)))) : Pu Tryz.prog C nt ⟨dd, .binOp .lss t x y ty, ty0, ps, af, gg⟩ σ (.one (.dv [] (.bool (sLt m n)))) [] [] := pu_slt rfl hx hy
theorem qSleq {t ty : TypeId} {K J : List Nat} {m n : ByteArray} (hx : Ev Tryz.prog C nt σ x (.one (.dv K (.str m)))) (hy : Ev Tryz.prog C nt σ y (.one (.dv J (.str n)))) : Pu Tryz.prog C nt ⟨dd, .binOp .leq t x y ty, ty0, ps, af, gg⟩ σ (.one (.dv [] (.bool (sLt m n || sEq m n)))) [] [] := pu_sle rfl hx hy
theorem qSgtr {t ty : TypeId} {K J : List Nat} {m n : ByteArray} (hx : Ev Tryz.prog C nt σ x (.one (.dv K (.str m)))) (hy : Ev Tryz.prog C nt σ y (.one (.dv J (.str n)))) : Pu Tryz.prog C nt ⟨dd, .binOp .gtr t x y ty, ty0, ps, af, gg⟩ σ (.one (.dv [] (.bool (!(sLt m n || sEq m n))))) [] [] := pu_sgt rfl hx hy
theorem qSgeq {t ty : TypeId} {K J : List Nat} {m n : ByteArray} (hx : Ev Tryz.prog C nt σ x (.one (.dv K (.str m)))) (hy : Ev Tryz.prog C nt σ y (.one (.dv J (.str n)))) : Pu Tryz.prog C nt ⟨dd, .binOp .geq t x y ty, ty0, ps, af, gg⟩ σ (.one (.dv [] (.bool (!sLt m n)))) [] [] := pu_sge rfl hx hy
theorem qIadd {t ty : TypeId} {K J : List Nat} {m n : Int} (hx : Ev Tryz.prog C nt σ x (.one (.dv K (.int .i64 m)))) (hy : Ev Tryz.prog C nt σ y (.one (.dv J (.int .i64 n)))) (h1 : -9223372036854775808 ≤ m + n) (h2 : m + n ≤ 9223372036854775807) : Pu Tryz.prog C nt ⟨dd, .binOp .add t x y ty, ty0, ps, af, gg⟩ σ (.one (.dv [] (.int .i64 (m + n)))) [] [] := pu_addR rfl hx hy (inR64 h1 h2)
theorem qIsub {t ty : TypeId} {K J : List Nat} {m n : Int} (hx : Ev Tryz.prog C nt σ x (.one (.dv K (.int .i64 m)))) (hy : Ev Tryz.prog C nt σ y (.one (.dv J (.int .i64 n)))) (h1 : -9223372036854775808 ≤ m - n) (h2 : m - n ≤ 9223372036854775807) : Pu Tryz.prog C nt ⟨dd, .binOp .sub t x y ty, ty0, ps, af, gg⟩ σ (.one (.dv [] (.int .i64 (m - n)))) [] [] := pu_subR rfl hx hy (inR64 h1 h2)
theorem qL {t e' e sz n : Nat} {K : List Nat} {cs : List DV} (hx : Ev Tryz.prog C nt σ x (.one (.dv K (.sl e sz n cs)))) (h : look TTab.sl t = some e') : Pu Tryz.prog C nt ⟨dd, .call { callee := .builtin .len, args := #[x], argTypes := #[t] }, ty0, ps, af, gg⟩ σ (.one (.dv [] (.int .i64 (n : Int)))) [] [] := pu_lenV hT rfl h hx
theorem qL2 {t : Nat} {u : Unit} {s : ByteArray} {K : List Nat} (hx : Ev Tryz.prog C nt σ x (.one (.dv K (.str s)))) (h : look TTab.st t = some u) : Pu Tryz.prog C nt ⟨dd, .call { callee := .builtin .len, args := #[x], argTypes := #[t] }, ty0, ps, af, gg⟩ σ (.one (.dv [] (.int .i64 (s.size : Int)))) [] [] := pu_lenS hT rfl h hx
theorem qL3 {t e' : Nat} (hx : Ev Tryz.prog C nt σ x (.one .nil)) (h : look TTab.sl t = some e') : Pu Tryz.prog C nt ⟨dd, .call { callee := .builtin .len, args := #[x], argTypes := #[t] }, ty0, ps, af, gg⟩ σ (.one (.dv [] (.int .i64 0))) [] [] := pu_lenN hT rfl h hx
end
section
variable {P : Program} {C : Ctx} {nt : Nat} {o : Oper} {x y : Operand} {T : TT} {Q : Exit → St → Prop} {N : St → Prop} {all : Array Oper} {rest : List Oper} {σ : St} {tm : List (Nat × SV)} {bx : List (Nat × TypeId × List CV)} {ks : List (Nat × Option KC)} {d t : Nat} {v X : SV} {ty : TypeId} {ps : String} {af : Array Edge} {Ks Bs oB oK : List Nat} {g : Bool} {listed : Array Bool} {fuel : Nat} {hd' : Nat → Bool}
theorem zp (hp : Pu P C nt o σ v Ks Bs := by
  first
  | (apply qA; (first | exact ev_tmp rfl | exact ev_int (inR_lit rfl) | exact ev_bool | exact ev_str (str_lit rfl) | exact ev_nil | exact ev_func))
  | (apply qB; (first | exact ev_tmp rfl | exact ev_int (inR_lit rfl) | exact ev_bool | exact ev_str (str_lit rfl) | exact ev_nil | exact ev_func))
  | (apply qC; (first | exact ev_tmp rfl | exact ev_int (inR_lit rfl) | exact ev_bool | exact ev_str (str_lit rfl) | exact ev_nil | exact ev_func); exact rfl; exact rfl)
  | (apply qC2; (first | exact ev_tmp rfl | exact ev_int (inR_lit rfl) | exact ev_bool | exact ev_str (str_lit rfl) | exact ev_nil | exact ev_func); exact rfl; exact rfl)
  | (apply qC3; (first | exact ev_tmp rfl | exact ev_int (inR_lit rfl) | exact ev_bool | exact ev_str (str_lit rfl) | exact ev_nil | exact ev_func); exact rfl; exact rfl)
  | (apply qD; exact rfl; (first | exact ev_tmp rfl | exact ev_int (inR_lit rfl) | exact ev_bool | exact ev_str (str_lit rfl) | exact ev_nil | exact ev_func); exact rfl; exact rfl)
  | (apply qD2; exact rfl; (first | exact ev_tmp rfl | exact ev_int (inR_lit rfl) | exact ev_bool | exact ev_str (str_lit rfl) | exact ev_nil | exact ev_func); exact rfl; exact rfl)
  | (apply qD3; exact rfl; (first | exact ev_tmp rfl | exact ev_int (inR_lit rfl) | exact ev_bool | exact ev_str (str_lit rfl) | exact ev_nil | exact ev_func); exact rfl)
  | (apply qD4; exact rfl; (first | exact ev_tmp rfl | exact ev_int (inR_lit rfl) | exact ev_bool | exact ev_str (str_lit rfl) | exact ev_nil | exact ev_func); exact rfl)
  | (apply qE; (first | exact ev_tmp rfl | exact ev_int (inR_lit rfl) | exact ev_bool | exact ev_str (str_lit rfl) | exact ev_nil | exact ev_func); exact rfl)
  | (apply qE2; (first | exact ev_tmp rfl | exact ev_int (inR_lit rfl) | exact ev_bool | exact ev_str (str_lit rfl) | exact ev_nil | exact ev_func); exact rfl)
  | (apply qN; (first | exact ev_tmp rfl | exact ev_int (inR_lit rfl) | exact ev_bool | exact ev_str (str_lit rfl) | exact ev_nil | exact ev_func))
  | (apply qG; (first | exact ev_tmp rfl | exact ev_int (inR_lit rfl) | exact ev_bool | exact ev_str (str_lit rfl) | exact ev_nil | exact ev_func); (intro hb; first | (refine ev_opt rfl ?_; first | exact beq_t hb | exact beq_f hb) | exact ev_tmp rfl | exact ev_int (inR_lit rfl) | exact ev_bool | exact ev_str (str_lit rfl) | exact ev_nil | exact ev_func))
  | (apply qH; (first | exact ev_tmp rfl | exact ev_int (inR_lit rfl) | exact ev_bool | exact ev_str (str_lit rfl) | exact ev_nil | exact ev_func); (intro hb; first | (refine ev_opt rfl ?_; first | exact beq_t hb | exact beq_f hb) | exact ev_tmp rfl | exact ev_int (inR_lit rfl) | exact ev_bool | exact ev_str (str_lit rfl) | exact ev_nil | exact ev_func))
  | (apply qIlss; (first | exact ev_tmp rfl | exact ev_int (inR_lit rfl) | exact ev_bool | exact ev_str (str_lit rfl) | exact ev_nil | exact ev_func); (first | exact ev_tmp rfl | exact ev_int (inR_lit rfl) | exact ev_bool | exact ev_str (str_lit rfl) | exact ev_nil | exact ev_func))
  | (apply qIleq; (first | exact ev_tmp rfl | exact ev_int (inR_lit rfl) | exact ev_bool | exact ev_str (str_lit rfl) | exact ev_nil | exact ev_func); (first | exact ev_tmp rfl | exact ev_int (inR_lit rfl) | exact ev_bool | exact ev_str (str_lit rfl) | exact ev_nil | exact ev_func))
  | (apply qIgtr; (first | exact ev_tmp rfl | exact ev_int (inR_lit rfl) | exact ev_bool | exact ev_str (str_lit rfl) | exact ev_nil | exact ev_func); (first | exact ev_tmp rfl | exact ev_int (inR_lit rfl) | exact ev_bool | exact ev_str (str_lit rfl) | exact ev_nil | exact ev_func))
  | (apply qIgeq; (first | exact ev_tmp rfl | exact ev_int (inR_lit rfl) | exact ev_bool | exact ev_str (str_lit rfl) | exact ev_nil | exact ev_func); (first | exact ev_tmp rfl | exact ev_int (inR_lit rfl) | exact ev_bool | exact ev_str (str_lit rfl) | exact ev_nil | exact ev_func))
  | (apply qIeql; (first | exact ev_tmp rfl | exact ev_int (inR_lit rfl) | exact ev_bool | exact ev_str (str_lit rfl) | exact ev_nil | exact ev_func); (first | exact ev_tmp rfl | exact ev_int (inR_lit rfl) | exact ev_bool | exact ev_str (str_lit rfl) | exact ev_nil | exact ev_func))
  | (apply qIneq; (first | exact ev_tmp rfl | exact ev_int (inR_lit rfl) | exact ev_bool | exact ev_str (str_lit rfl) | exact ev_nil | exact ev_func); (first | exact ev_tmp rfl | exact ev_int (inR_lit rfl) | exact ev_bool | exact ev_str (str_lit rfl) | exact ev_nil | exact ev_func))
  | (apply qSeql; (first | exact ev_tmp rfl | exact ev_int (inR_lit rfl) | exact ev_bool | exact ev_str (str_lit rfl) | exact ev_nil | exact ev_func); (first | exact ev_tmp rfl | exact ev_int (inR_lit rfl) | exact ev_bool | exact ev_str (str_lit rfl) | exact ev_nil | exact ev_func))
  | (apply qSneq; (first | exact ev_tmp rfl | exact ev_int (inR_lit rfl) | exact ev_bool | exact ev_str (str_lit rfl) | exact ev_nil | exact ev_func); (first | exact ev_tmp rfl | exact ev_int (inR_lit rfl) | exact ev_bool | exact ev_str (str_lit rfl) | exact ev_nil | exact ev_func))
  | (apply qSlss; (first | exact ev_tmp rfl | exact ev_int (inR_lit rfl) | exact ev_bool | exact ev_str (str_lit rfl) | exact ev_nil | exact ev_func); (first | exact ev_tmp rfl | exact ev_int (inR_lit rfl) | exact ev_bool | exact ev_str (str_lit rfl) | exact ev_nil | exact ev_func))
  | (apply qSleq; (first | exact ev_tmp rfl | exact ev_int (inR_lit rfl) | exact ev_bool | exact ev_str (str_lit rfl) | exact ev_nil | exact ev_func); (first | exact ev_tmp rfl | exact ev_int (inR_lit rfl) | exact ev_bool | exact ev_str (str_lit rfl) | exact ev_nil | exact ev_func))
  | (apply qSgtr; (first | exact ev_tmp rfl | exact ev_int (inR_lit rfl) | exact ev_bool | exact ev_str (str_lit rfl) | exact ev_nil | exact ev_func); (first | exact ev_tmp rfl | exact ev_int (inR_lit rfl) | exact ev_bool | exact ev_str (str_lit rfl) | exact ev_nil | exact ev_func))
  | (apply qSgeq; (first | exact ev_tmp rfl | exact ev_int (inR_lit rfl) | exact ev_bool | exact ev_str (str_lit rfl) | exact ev_nil | exact ev_func); (first | exact ev_tmp rfl | exact ev_int (inR_lit rfl) | exact ev_bool | exact ev_str (str_lit rfl) | exact ev_nil | exact ev_func))
  | (apply qIadd; (first | exact ev_tmp rfl | exact ev_int (inR_lit rfl) | exact ev_bool | exact ev_str (str_lit rfl) | exact ev_nil | exact ev_func); (first | exact ev_tmp rfl | exact ev_int (inR_lit rfl) | exact ev_bool | exact ev_str (str_lit rfl) | exact ev_nil | exact ev_func); omega; omega)
  | (apply qIsub; (first | exact ev_tmp rfl | exact ev_int (inR_lit rfl) | exact ev_bool | exact ev_str (str_lit rfl) | exact ev_nil | exact ev_func); (first | exact ev_tmp rfl | exact ev_int (inR_lit rfl) | exact ev_bool | exact ev_str (str_lit rfl) | exact ev_nil | exact ev_func); omega; omega)
  | (apply qL; (first | exact ev_tmp rfl | exact ev_int (inR_lit rfl) | exact ev_bool | exact ev_str (str_lit rfl) | exact ev_nil | exact ev_func); exact rfl)
  | (apply qL2; (first | exact ev_tmp rfl | exact ev_int (inR_lit rfl) | exact ev_bool | exact ev_str (str_lit rfl) | exact ev_nil | exact ev_func); exact rfl)
  | (apply qL3; (first | exact ev_tmp rfl | exact ev_int (inR_lit rfl) | exact ev_bool | exact ev_str (str_lit rfl) | exact ev_nil | exact ev_func); exact rfl)
  | exact pu_indexD hT rfl rfl rfl (by first | exact ev_tmp rfl | exact ev_int (inR_lit rfl) | exact ev_bool | exact ev_str (str_lit rfl) | exact ev_nil | exact ev_func) (by first | exact ev_tmp rfl | exact ev_int (inR_lit rfl) | exact ev_bool | exact ev_str (str_lit rfl) | exact ev_nil | exact ev_func) (fun _ => rfl) (by omega) (by omega)
  | exact pu_indexS hT rfl rfl (by first | exact ev_tmp rfl | exact ev_int (inR_lit rfl) | exact ev_bool | exact ev_str (str_lit rfl) | exact ev_nil | exact ev_func) (by first | exact ev_tmp rfl | exact ev_int (inR_lit rfl) | exact ev_bool | exact ev_str (str_lit rfl) | exact ev_nil | exact ev_func) (by omega) (by omega)) : Pu P C nt o σ v Ks Bs := hp
theorem zq {g : Bool} (hg : g = true) (hp : Pu P C nt o σ v Ks Bs := by
  first
  | (apply qA; (first | (refine ev_opt rfl ?_; first | exact hg | exact and_l hg | exact and_l (and_l hg) | exact and_l (and_l (and_l hg))) | exact ev_tmp rfl | exact ev_int (inR_lit rfl) | exact ev_bool | exact ev_str (str_lit rfl) | exact ev_nil | exact ev_func))
  | (apply qB; (first | (refine ev_opt rfl ?_; first | exact hg | exact and_l hg | exact and_l (and_l hg) | exact and_l (and_l (and_l hg))) | exact ev_tmp rfl | exact ev_int (inR_lit rfl) | exact ev_bool | exact ev_str (str_lit rfl) | exact ev_nil | exact ev_func))
  | (apply qC; (first | (refine ev_opt rfl ?_; first | exact hg | exact and_l hg | exact and_l (and_l hg) | exact and_l (and_l (and_l hg))) | exact ev_tmp rfl | exact ev_int (inR_lit rfl) | exact ev_bool | exact ev_str (str_lit rfl) | exact ev_nil | exact ev_func); exact rfl; exact rfl)
  | (apply qC2; (first | (refine ev_opt rfl ?_; first | exact hg | exact and_l hg | exact and_l (and_l hg) | exact and_l (and_l (and_l hg))) | exact ev_tmp rfl | exact ev_int (inR_lit rfl) | exact ev_bool | exact ev_str (str_lit rfl) | exact ev_nil | exact ev_func); exact rfl; exact rfl)
  | (apply qC3; (first | (refine ev_opt rfl ?_; first | exact hg | exact and_l hg | exact and_l (and_l hg) | exact and_l (and_l (and_l hg))) | exact ev_tmp rfl | exact ev_int (inR_lit rfl) | exact ev_bool | exact ev_str (str_lit rfl) | exact ev_nil | exact ev_func); exact rfl; exact rfl)
  | (apply qD; exact rfl; (first | (refine ev_opt rfl ?_; first | exact hg | exact and_l hg | exact and_l (and_l hg) | exact and_l (and_l (and_l hg))) | exact ev_tmp rfl | exact ev_int (inR_lit rfl) | exact ev_bool | exact ev_str (str_lit rfl) | exact ev_nil | exact ev_func); exact rfl; exact rfl)
  | (apply qD2; exact rfl; (first | (refine ev_opt rfl ?_; first | exact hg | exact and_l hg | exact and_l (and_l hg) | exact and_l (and_l (and_l hg))) | exact ev_tmp rfl | exact ev_int (inR_lit rfl) | exact ev_bool | exact ev_str (str_lit rfl) | exact ev_nil | exact ev_func); exact rfl; exact rfl)
  | (apply qD3; exact rfl; (first | (refine ev_opt rfl ?_; first | exact hg | exact and_l hg | exact and_l (and_l hg) | exact and_l (and_l (and_l hg))) | exact ev_tmp rfl | exact ev_int (inR_lit rfl) | exact ev_bool | exact ev_str (str_lit rfl) | exact ev_nil | exact ev_func); exact rfl)
  | (apply qD4; exact rfl; (first | (refine ev_opt rfl ?_; first | exact hg | exact and_l hg | exact and_l (and_l hg) | exact and_l (and_l (and_l hg))) | exact ev_tmp rfl | exact ev_int (inR_lit rfl) | exact ev_bool | exact ev_str (str_lit rfl) | exact ev_nil | exact ev_func); exact rfl)
  | (apply qE; (first | (refine ev_opt rfl ?_; first | exact hg | exact and_l hg | exact and_l (and_l hg) | exact and_l (and_l (and_l hg))) | exact ev_tmp rfl | exact ev_int (inR_lit rfl) | exact ev_bool | exact ev_str (str_lit rfl) | exact ev_nil | exact ev_func); exact rfl)
  | (apply qE2; (first | (refine ev_opt rfl ?_; first | exact hg | exact and_l hg | exact and_l (and_l hg) | exact and_l (and_l (and_l hg))) | exact ev_tmp rfl | exact ev_int (inR_lit rfl) | exact ev_bool | exact ev_str (str_lit rfl) | exact ev_nil | exact ev_func); exact rfl)
  | (apply qN; (first | (refine ev_opt rfl ?_; first | exact hg | exact and_l hg | exact and_l (and_l hg) | exact and_l (and_l (and_l hg))) | exact ev_tmp rfl | exact ev_int (inR_lit rfl) | exact ev_bool | exact ev_str (str_lit rfl) | exact ev_nil | exact ev_func))
  | (apply qG; (first | (refine ev_opt rfl ?_; first | exact hg | exact and_l hg | exact and_l (and_l hg) | exact and_l (and_l (and_l hg))) | exact ev_tmp rfl | exact ev_int (inR_lit rfl) | exact ev_bool | exact ev_str (str_lit rfl) | exact ev_nil | exact ev_func); (intro hb; first | (refine ev_opt rfl ?_; first | exact beq_t hb | exact beq_f hb | exact and_mk hg (beq_t hb) | exact and_mk hg (beq_f hb) | exact and_mk (and_l hg) (beq_t hb) | exact and_mk (and_l hg) (beq_f hb) | exact hg | exact and_l hg) | exact ev_tmp rfl | exact ev_int (inR_lit rfl) | exact ev_bool | exact ev_str (str_lit rfl) | exact ev_nil | exact ev_func))
  | (apply qH; (first | (refine ev_opt rfl ?_; first | exact hg | exact and_l hg | exact and_l (and_l hg) | exact and_l (and_l (and_l hg))) | exact ev_tmp rfl | exact ev_int (inR_lit rfl) | exact ev_bool | exact ev_str (str_lit rfl) | exact ev_nil | exact ev_func); (intro hb; first | (refine ev_opt rfl ?_; first | exact beq_t hb | exact beq_f hb | exact and_mk hg (beq_t hb) | exact and_mk hg (beq_f hb) | exact and_mk (and_l hg) (beq_t hb) | exact and_mk (and_l hg) (beq_f hb) | exact hg | exact and_l hg) | exact ev_tmp rfl | exact ev_int (inR_lit rfl) | exact ev_bool | exact ev_str (str_lit rfl) | exact ev_nil | exact ev_func))
  | (apply qIlss; (first | (refine ev_opt rfl ?_; first | exact hg | exact and_l hg | exact and_l (and_l hg) | exact and_l (and_l (and_l hg))) | exact ev_tmp rfl | exact ev_int (inR_lit rfl) | exact ev_bool | exact ev_str (str_lit rfl) | exact ev_nil | exact ev_func); (first | (refine ev_opt rfl ?_; first | exact hg | exact and_l hg | exact and_l (and_l hg) | exact and_l (and_l (and_l hg))) | exact ev_tmp rfl | exact ev_int (inR_lit rfl) | exact ev_bool | exact ev_str (str_lit rfl) | exact ev_nil | exact ev_func))
  | (apply qIleq; (first | (refine ev_opt rfl ?_; first | exact hg | exact and_l hg | exact and_l (and_l hg) | exact and_l (and_l (and_l hg))) | exact ev_tmp rfl | exact ev_int (inR_lit rfl) | exact ev_bool | exact ev_str (str_lit rfl) | exact ev_nil | exact ev_func); (first | (refine ev_opt rfl ?_; first | exact hg | exact and_l hg | exact and_l (and_l hg) | exact and_l (and_l (and_l hg))) | exact ev_tmp rfl | exact ev_int (inR_lit rfl) | exact ev_bool | exact ev_str (str_lit rfl) | exact ev_nil | exact ev_func))
  | (apply qIgtr; (first | (refine ev_opt rfl ?_; first | exact hg | exact and_l hg | exact and_l (and_l hg) | exact and_l (and_l (and_l hg))) | exact ev_tmp rfl | exact ev_int (inR_lit rfl) | exact ev_bool | exact ev_str (str_lit rfl) | exact ev_nil | exact ev_func); (first | (refine ev_opt rfl ?_; first | exact hg | exact and_l hg | exact and_l (and_l hg) | exact and_l (and_l (and_l hg))) | exact ev_tmp rfl | exact ev_int (inR_lit rfl) | exact ev_bool | exact ev_str (str_lit rfl) | exact ev_nil | exact ev_func))
  | (apply qIgeq; (first | (refine ev_opt rfl ?_; first | exact hg | exact and_l hg | exact and_l (and_l hg) | exact and_l (and_l (and_l hg))) | exact ev_tmp rfl | exact ev_int (inR_lit rfl) | exact ev_bool | exact ev_str (str_lit rfl) | exact ev_nil | exact ev_func); (first | (refine ev_opt rfl ?_; first | exact hg | exact and_l hg | exact and_l (and_l hg) | exact and_l (and_l (and_l hg))) | exact ev_tmp rfl | exact ev_int (inR_lit rfl) | exact ev_bool | exact ev_str (str_lit rfl) | exact ev_nil | exact ev_func))
  | (apply qIeql; (first | (refine ev_opt rfl ?_; first | exact hg | exact and_l hg | exact and_l (and_l hg) | exact and_l (and_l (and_l hg))) | exact ev_tmp rfl | exact ev_int (inR_lit rfl) | exact ev_bool | exact ev_str (str_lit rfl) | exact ev_nil | exact ev_func); (first | (refine ev_opt rfl ?_; first | exact hg | exact and_l hg | exact and_l (and_l hg) | exact and_l (and_l (and_l hg))) | exact ev_tmp rfl | exact ev_int (inR_lit rfl) | exact ev_bool | exact ev_str (str_lit rfl) | exact ev_nil | exact ev_func))
  | (apply qIneq; (first | (refine ev_opt rfl ?_; first | exact hg | exact and_l hg | exact and_l (and_l hg) | exact and_l (and_l (and_l hg))) | exact ev_tmp rfl | exact ev_int (inR_lit rfl) | exact ev_bool | exact ev_str (str_lit rfl) | exact ev_nil | exact ev_func); (first | (refine ev_opt rfl ?_; first | exact hg | exact and_l hg | exact and_l (and_l hg) | exact and_l (and_l (and_l hg))) | exact ev_tmp rfl | exact ev_int (inR_lit rfl) | exact ev_bool | exact ev_str (str_lit rfl) | exact ev_nil | exact ev_func))
  | (apply qSeql; (first | (refine ev_opt rfl ?_; first | exact hg | exact and_l hg | exact and_l (and_l hg) | exact and_l (and_l (and_l hg))) | exact ev_tmp rfl | exact ev_int (inR_lit rfl) | exact ev_bool | exact ev_str (str_lit rfl) | exact ev_nil | exact ev_func); (first | (refine ev_opt rfl ?_; first | exact hg | exact and_l hg | exact and_l (and_l hg) | exact and_l (and_l (and_l hg))) | exact ev_tmp rfl | exact ev_int (inR_lit rfl) | exact ev_bool | exact ev_str (str_lit rfl) | exact ev_nil | exact ev_func))
  | (apply qSneq; (first | (refine ev_opt rfl ?_; first | exact hg | exact and_l hg | exact and_l (and_l hg) | exact and_l (and_l (and_l hg))) | exact ev_tmp rfl | exact ev_int (inR_lit rfl) | exact ev_bool | exact ev_str (str_lit rfl) | exact ev_nil | exact ev_func); (first | (refine ev_opt rfl ?_; first | exact hg | exact and_l hg | exact and_l (and_l hg) | exact and_l (and_l (and_l hg))) | exact ev_tmp rfl | exact ev_int (inR_lit rfl) | exact ev_bool | exact ev_str (str_lit rfl) | exact ev_nil | exact ev_func))
  | (apply qSlss; (first | (refine ev_opt rfl ?_; first | exact hg | exact and_l hg | exact and_l (and_l hg) | exact and_l (and_l (and_l hg))) | exact ev_tmp rfl | exact ev_int (inR_lit rfl) | exact ev_bool | exact ev_str (str_lit rfl) | exact ev_nil | exact ev_func); (first | (refine ev_opt rfl ?_; first | exact hg | exact and_l hg | exact and_l (and_l hg) | exact and_l (and_l (and_l hg))) | exact ev_tmp rfl | exact ev_int (inR_lit rfl) | exact ev_bool | exact ev_str (str_lit rfl) | exact ev_nil | exact ev_func))
  | (apply qSleq; (first | (refine ev_opt rfl ?_; first | exact hg | exact and_l hg | exact and_l (and_l hg) | exact and_l (and_l (and_l hg))) | exact ev_tmp rfl | exact ev_int (inR_lit rfl) | exact ev_bool | exact ev_str (str_lit rfl) | exact ev_nil | exact ev_func); (first | (refine ev_opt rfl ?_; first | exact hg | exact and_l hg | exact and_l (and_l hg) | exact and_l (and_l (and_l hg))) | exact ev_tmp rfl | exact ev_int (inR_lit rfl) | exact ev_bool | exact ev_str (str_lit rfl) | exact ev_nil | exact ev_func))
  | (apply qSgtr; (first | (refine ev_opt rfl ?_; first | exact hg | exact and_l hg | exact and_l (and_l hg) | exact and_l (and_l (and_l hg))) | exact ev_tmp rfl | exact ev_int (inR_lit rfl) | exact ev_bool | exact ev_str (str_lit rfl) | exact ev_nil | exact ev_func); (first | (refine ev_opt rfl ?_; first | exact hg | exact and_l hg | exact and_l (and_l hg) | exact and_l (and_l (and_l hg))) | exact ev_tmp rfl | exact ev_int (inR_lit rfl) | exact ev_bool | exact ev_str (str_lit rfl) | exact ev_nil | exact ev_func))
  | (apply qSgeq; (first | (refine ev_opt rfl ?_; first | exact hg | exact and_l hg | exact and_l (and_l hg) | exact and_l (and_l (and_l hg))) | exact ev_tmp rfl | exact ev_int (inR_lit rfl) | exact ev_bool | exact ev_str (str_lit rfl) | exact ev_nil | exact ev_func); (first | (refine ev_opt rfl ?_; first | exact hg | exact and_l hg | exact and_l (and_l hg) | exact and_l (and_l (and_l hg))) | exact ev_tmp rfl | exact ev_int (inR_lit rfl) | exact ev_bool | exact ev_str (str_lit rfl) | exact ev_nil | exact ev_func))
  | (apply qIadd; (first | (refine ev_opt rfl ?_; first | exact hg | exact and_l hg | exact and_l (and_l hg) | exact and_l (and_l (and_l hg))) | exact ev_tmp rfl | exact ev_int (inR_lit rfl) | exact ev_bool | exact ev_str (str_lit rfl) | exact ev_nil | exact ev_func); (first | (refine ev_opt rfl ?_; first | exact hg | exact and_l hg | exact and_l (and_l hg) | exact and_l (and_l (and_l hg))) | exact ev_tmp rfl | exact ev_int (inR_lit rfl) | exact ev_bool | exact ev_str (str_lit rfl) | exact ev_nil | exact ev_func); omega; omega)
  | (apply qIsub; (first | (refine ev_opt rfl ?_; first | exact hg | exact and_l hg | exact and_l (and_l hg) | exact and_l (and_l (and_l hg))) | exact ev_tmp rfl | exact ev_int (inR_lit rfl) | exact ev_bool | exact ev_str (str_lit rfl) | exact ev_nil | exact ev_func); (first | (refine ev_opt rfl ?_; first | exact hg | exact and_l hg | exact and_l (and_l hg) | exact and_l (and_l (and_l hg))) | exact ev_tmp rfl | exact ev_int (inR_lit rfl) | exact ev_bool | exact ev_str (str_lit rfl) | exact ev_nil | exact ev_func); omega; omega)
  | (apply qL; (first | (refine ev_opt rfl ?_; first | exact hg | exact and_l hg | exact and_l (and_l hg) | exact and_l (and_l (and_l hg))) | exact ev_tmp rfl | exact ev_int (inR_lit rfl) | exact ev_bool | exact ev_str (str_lit rfl) | exact ev_nil | exact ev_func); exact rfl)
  | (apply qL2; (first | (refine ev_opt rfl ?_; first | exact hg | exact and_l hg | exact and_l (and_l hg) | exact and_l (and_l (and_l hg))) | exact ev_tmp rfl | exact ev_int (inR_lit rfl) | exact ev_bool | exact ev_str (str_lit rfl) | exact ev_nil | exact ev_func); exact rfl)
  | (apply qL3; (first | (refine ev_opt rfl ?_; first | exact hg | exact and_l hg | exact and_l (and_l hg) | exact and_l (and_l (and_l hg))) | exact ev_tmp rfl | exact ev_int (inR_lit rfl) | exact ev_bool | exact ev_str (str_lit rfl) | exact ev_nil | exact ev_func); exact rfl)
  | exact pu_indexD hT rfl rfl rfl (by first | (refine ev_opt rfl ?_; first | exact hg | exact and_l hg | exact and_l (and_l hg) | exact and_l (and_l (and_l hg))) | exact ev_tmp rfl | exact ev_int (inR_lit rfl) | exact ev_bool | exact ev_str (str_lit rfl) | exact ev_nil | exact ev_func) (by first | (refine ev_opt rfl ?_; first | exact hg | exact and_l hg | exact and_l (and_l hg) | exact and_l (and_l (and_l hg))) | exact ev_tmp rfl | exact ev_int (inR_lit rfl) | exact ev_bool | exact ev_str (str_lit rfl) | exact ev_nil | exact ev_func) (fun _ => rfl) (by first | omega | (simp only [Bool.and_eq_true, Bool.or_eq_true, Bool.or_eq_false_iff, Bool.and_eq_false_iff, Bool.not_eq_true', Bool.not_eq_false', beq_iff_eq, decide_eq_true_eq, decide_eq_false_iff_not] at hg; omega) | (have hh := of_decide_eq_true (beq_tt hg); omega) | (have hh := of_decide_eq_true (beq_tt (and_r hg)); omega)) (by first | omega | (simp only [Bool.and_eq_true, Bool.or_eq_true, Bool.or_eq_false_iff, Bool.and_eq_false_iff, Bool.not_eq_true', Bool.not_eq_false', beq_iff_eq, decide_eq_true_eq, decide_eq_false_iff_not] at hg; omega) | (have hh := of_decide_eq_true (beq_tt hg); omega) | (have hh := of_decide_eq_true (beq_tt (and_r hg)); omega))
  | exact pu_indexS hT rfl rfl (by first | (refine ev_opt rfl ?_; first | exact hg | exact and_l hg | exact and_l (and_l hg) | exact and_l (and_l (and_l hg))) | exact ev_tmp rfl | exact ev_int (inR_lit rfl) | exact ev_bool | exact ev_str (str_lit rfl) | exact ev_nil | exact ev_func) (by first | (refine ev_opt rfl ?_; first | exact hg | exact and_l hg | exact and_l (and_l hg) | exact and_l (and_l (and_l hg))) | exact ev_tmp rfl | exact ev_int (inR_lit rfl) | exact ev_bool | exact ev_str (str_lit rfl) | exact ev_nil | exact ev_func) (by first | omega | (simp only [Bool.and_eq_true, Bool.or_eq_true, Bool.or_eq_false_iff, Bool.and_eq_false_iff, Bool.not_eq_true', Bool.not_eq_false', beq_iff_eq, decide_eq_true_eq, decide_eq_false_iff_not] at hg; omega) | (have hh := of_decide_eq_true (beq_tt hg); omega) | (have hh := of_decide_eq_true (beq_tt (and_r hg)); omega)) (by first | omega | (simp only [Bool.and_eq_true, Bool.or_eq_true, Bool.or_eq_false_iff, Bool.and_eq_false_iff, Bool.not_eq_true', Bool.not_eq_false', beq_iff_eq, decide_eq_true_eq, decide_eq_false_iff_not] at hg; omega) | (have hh := of_decide_eq_true (beq_tt hg); omega) | (have hh := of_decide_eq_true (beq_tt (and_r hg)); omega))) : Pu P C nt o σ v Ks Bs := hp
theorem zr {xs : List Operand} {us : List SV} (ha : ArgSs P C nt σ xs us := by repeat' (first | exact as_nil | refine as_cons (by first | exact ev_tmp rfl | exact ev_int (inR_lit rfl) | exact ev_bool | exact ev_str (str_lit rfl) | exact ev_nil | exact ev_func) ?_ ?_ | exact ag_one ac_dv | exact ag_one (ac_key' rfl rfl) | exact ag_one (ac_nil' rfl rfl) | exact ag_one ac_nest | exact ag_one ac_arg | refine ag_agg ?_ | exact ag_nil | refine ag_cons ?_ ?_ | exact ac_dv | exact ac_key' rfl rfl | exact ac_nil' rfl rfl | exact ac_nest | exact ac_arg)) : ArgSs P C nt σ xs us := ha
theorem zO (h : Ops P C nt Q all rest ⟨(d, v) :: tm, bx, ks⟩) (hg : o.guard = none := by exact rfl) (hd : o.dst = some d := by exact rfl) (hp : Pu P C nt o ⟨tm, bx, ks⟩ v Ks Bs := by
  exact zp) (hk : (Nat.blt d nt && svOk ⟨tm, bx, ks⟩ v) = true := by exact rfl) : Ops P C nt Q all (o :: rest) ⟨tm, bx, ks⟩ := yO hg hd hp hk h
theorem zG (h : Ops P C nt Q all rest ⟨(d, .opt g v) :: tm, bx, ks⟩) (hd : o.dst = some d := by exact rfl) (hG : Gd P C nt ⟨tm, bx, ks⟩ all o g := by first | exact gd_bool rfl rfl rfl rfl rfl | exact gd_opt rfl rfl rfl rfl rfl) (hp : g = true → Pu P C nt o ⟨tm, bx, ks⟩ v Ks Bs := by
  intro hg
  exact zq hg) (hk : (Nat.blt d nt && svOk ⟨tm, bx, ks⟩ v) = true := by exact rfl) : Ops P C nt Q all (o :: rest) ⟨tm, bx, ks⟩ := o_pureG hG hd hp (Bool.and_eq_true_iff.1 hk).1 (Bool.and_eq_true_iff.1 hk).2 h
theorem zD (i : Nat) (h : OpsD P C nt Q all oB oK hd' (listed.setIfInBounds i true) fuel ⟨(d, v) :: tm, bx, ks⟩) (hi : all[i]? = some o := by exact rfl) (hg : o.guard = none := by exact rfl) (hd : o.dst = some d := by exact rfl) (hp : Pu P C nt o ⟨tm, bx, ks⟩ v Ks Bs := by
  exact zp) (hk : (Nat.blt d nt && svOk ⟨tm, bx, ks⟩ v) = true := by exact rfl) (h1 : (Ks.all fun k => oK.contains k) = true := by exact rfl) (h2 : (Bs.all fun k => oB.contains k) = true := by exact rfl) (ht : takeB .any all hd' listed i = true := by kernel_rfl) : OpsD P C nt Q all oB oK hd' listed (fuel + 1) ⟨tm, bx, ks⟩ := d_take i hi ht hg hd hp h1 h2 (Bool.and_eq_true_iff.1 hk).1 (Bool.and_eq_true_iff.1 hk).2 h
theorem zDG (i : Nat) (h : OpsD P C nt Q all oB oK hd' (listed.setIfInBounds i true) fuel ⟨(d, .opt g v) :: tm, bx, ks⟩) (hi : all[i]? = some o := by exact rfl) (hd : o.dst = some d := by exact rfl) (hG : Gd P C nt ⟨tm, bx, ks⟩ all o g := by first | exact gd_bool rfl rfl rfl rfl rfl | exact gd_opt rfl rfl rfl rfl rfl) (hp : g = true → Pu P C nt o ⟨tm, bx, ks⟩ v Ks Bs := by
  intro hg
  exact zq hg) (hk : (Nat.blt d nt && svOk ⟨tm, bx, ks⟩ v) = true := by exact rfl) (h1 : (Ks.all fun k => oK.contains k) = true := by exact rfl) (h2 : (Bs.all fun k => oB.contains k) = true := by exact rfl) (ht : takeB .any all hd' listed i = true := by kernel_rfl) : OpsD P C nt Q all oB oK hd' listed (fuel + 1) ⟨tm, bx, ks⟩ := d_takeG i hi ht hG hd hp h1 h2 (Bool.and_eq_true_iff.1 hk).1 (Bool.and_eq_true_iff.1 hk).2 h
theorem zDX (i : Nat) (h : OpsD P C nt Q all oB oK hd' (listed.setIfInBounds i true) fuel ⟨(d, v) :: tm, bx, ks⟩) (hi : all[i]? = some o := by exact rfl) (hg : o.guard = none := by exact rfl) (hd : o.dst = some d := by exact rfl) (hp : Pu P C nt o ⟨tm, bx, ks⟩ v Ks Bs := by
  exact zp) (hk : (Nat.blt d nt && svOk ⟨tm, bx, ks⟩ v) = true := by exact rfl) (hx : extO o = true := by exact rfl) (ht : takeXB .any all hd' listed i = true := by kernel_rfl) : OpsD P C nt Q all oB oK hd' listed (fuel + 1) ⟨tm, bx, ks⟩ := d_takeX i hi ht hx hg hd hp (Bool.and_eq_true_iff.1 hk).1 (Bool.and_eq_true_iff.1 hk).2 h
theorem zN {nK : List Nat} (i : Nat) (h : OpsN P C nt Q all oB oK nK hd' (listed.setIfInBounds i true) fuel ⟨(d, v) :: tm, bx, ks⟩) (hi : all[i]? = some o := by exact rfl) (hg : o.guard = none := by exact rfl) (hd : o.dst = some d := by exact rfl) (hp : Pu P C nt o ⟨tm, bx, ks⟩ v Ks Bs := by
  exact zp) (hk : (Nat.blt d nt && svOk ⟨tm, bx, ks⟩ v) = true := by exact rfl) (h1 : (Ks.all fun k => oK.contains k) = true := by exact rfl) (h2 : (Bs.all fun k => oB.contains k) = true := by exact rfl) (ht : takeB .any all hd' listed i = true := by kernel_rfl) : OpsN P C nt Q all oB oK nK hd' listed (fuel + 1) ⟨tm, bx, ks⟩ := n_take i hi ht hg hd hp h1 h2 (Bool.and_eq_true_iff.1 hk).1 (Bool.and_eq_true_iff.1 hk).2 h
theorem zC {f : FuncId} {xs : List Operand} {ats : Array TypeId} {us : List SV} (hc : ∀ (args : Array Value) (w : World), (callFunc f args).run P w = .ok (.enter f args) w) (h : Ops P C nt Q all rest ⟨(d, X) :: tm, bx, ks⟩) (hg : o.guard = none := by exact rfl) (hd : o.dst = some d := by exact rfl) (ho : o.op = .call { callee := .value (.func f), args := xs.toArray, argTypes := ats } := by exact rfl)
  (ha : ArgSs P C nt ⟨tm, bx, ks⟩ xs us := by exact zr) (hf : PFn P f us X) (hp : X.plain = true := by exact rfl) (hn : Nat.blt d nt = true := by exact rfl) : Ops P C nt Q all (o :: rest) ⟨tm, bx, ks⟩ := o_call hg hd ho hc hf ha hp hn h
theorem zK {f : FuncId} {xs : List Operand} {ats : Array TypeId} {us : List SV} {kk : List (Nat × Option KC)} (m : Nat) (hc : ∀ (args : Array Value) (w : World), (callFunc f args).run P w = .ok (.enter f args) w) (h : Ops P C nt Q all rest ⟨(d, v.sh m) :: tm, bx, shK m kk ++ ks⟩) (hg : o.guard = none := by exact rfl) (hd : o.dst = some d := by exact rfl) (ho : o.op = .call { callee := .value (.func f), args := xs.toArray, argTypes := ats } := by exact rfl)
  (ha : ArgSs P C nt ⟨tm, bx, ks⟩ xs us := by exact zr) (hf : KFn P f us v kk) (hn : Nat.blt d nt = true := by exact rfl) (hres : v.retOk = true := by exact rfl) (hfree : (kk.all fun q => (lkk ⟨tm, bx, ks⟩ (m + q.1)).isNone) = true := by exact rfl) : Ops P C nt Q all (o :: rest) ⟨tm, bx, ks⟩ := o_callK m hg hd ho hc hf ha hn hres hfree h
theorem z {p q : Prop} (h : q) (s : q → p := by
  first
  | with_reducible exact yN
  | with_reducible exact yR
  | with_reducible exact ok_seq
  | with_reducible exact then_n
  | with_reducible exact ok_ret
  | with_reducible exact then_r
  | with_reducible exact ok_skip
  | with_reducible exact ok_block
  | with_reducible exact then_e
  | with_reducible exact ok_exit
  | with_reducible exact blk_r
  | with_reducible exact blk_n
  | (with_reducible refine fun h => blk_e ?_ h) <;> exact rfl
  | (with_reducible refine fun h => blk_o ?_ h) <;> exact rfl
  | exact fun h => yA rfl rfl rfl h
  | exact fun h => yX rfl rfl rfl rfl rfl rfl h
  | exact fun h => o_alloc hT rfl rfl rfl rfl rfl rfl h
  | exact fun h => yS hT rfl rfl rfl rfl rfl rfl rfl rfl h
  | exact fun h => zO h
  | exact fun h => zG h
  | exact yN
  | exact fun h => fin1 (res_tmp rfl) (eqB h)
  | exact fun h => fin1 (res_tmp rfl) (eqI h)
  | exact fun h => fin1 (res_tmp rfl) (eqS h)
  | exact fun h => fin1n (res_tmp rfl) (eqB h)
  | exact fun h => fin1n (res_tmp rfl) (eqI h)
  | exact fun h => fin1n (res_tmp rfl) (eqS h)) : p := s h
end
end Go.Proofs.YtcgmpjedhbhplaaGreat

