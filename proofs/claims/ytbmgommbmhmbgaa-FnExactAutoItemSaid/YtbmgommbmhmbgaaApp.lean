/-
  The rules of the abstract logic for append, and for slices and structs that are written out.
-/
import Derived.Test.YtbmgommbmhmbgaaSli
import Derived.Great.BuildSlice
namespace Go.Proofs.Ytbmgommbmhmbgaa
open Go.RowKit
set_option linter.unusedVariables false
set_option linter.unusedSimpArgs false

section
variable {P : Program} {C : Ctx} {nt : Nat} {σ : St} {L : Lyt} {a : Act} {w : World} {o : Oper} {x y : Operand} {T : TT}
theorem mut_key {k : Nat} {js : List Nat} {c' : KC} {same : Bool} : lkk (σ.mut k js same c') k = some c' := by
  simp only [lkk, St.mut, List.cons_append, look_cons, if_true]; rfl
/-- behind an append to key k -/
theorem app_fin {d k m : Nat} {c : KC} {js : List Nat} {us : List Value} {ds : List DV} {f2 : List Nat} {K : Act → World → Prop} {A' : Option Addr} {c' : Nat} {w' : World} {vs : List Value} {f : List Nat}
    (hd : o.dst = some d) (hnt : d < nt) (hr : Rel P C nt L σ a w) (hk : lkk σ k = some c) (hE' : c.e < 1000000) (hkj : k ∉ js) (hj : ∀ j ∈ js, (lkk σ j).isSome = true) (hm' : ds.length = m * c.sz) (ho2 : OwnL w ds us f2) (hf2 : ∀ b ∈ f2, ∃ j ∈ js, b ∈ L.fp j) (hn2 : f2.Nodup)
    (e3 : L.fp k = (L.rv k).ownBlock.toList ++ f) (h5 : 0 < c.sz) (h6 : c.cs.length = c.n * c.sz) (h8 : OwnL w c.cs vs f)
    (h9 : w'.ownsRow 0 c.e c.sz (.slice A' (c.n + m) c') (c.n + m) (vs ++ us)) (hchg : Chg (L.rv k).ownBlock.toList w w') (hblk : (L.rv k).ownBlock = (Value.slice A' (c.n + m) c').ownBlock ∨ (Value.slice A' (c.n + m) c').ownBlock = some w.heap.size)
    (hK : ∀ L' a' w', Rel P C nt L' ((σ.mut k js false ⟨false, c.e, c.sz, c.n + m, c.cs ++ ds⟩).put d (.one (.key k))) a' w' → K a' w') : K (a.put o.dst (.slice A' (c.n + m) c')) w' := by
  have hkn := hr.kn k c hk
  rw [e3] at hkn
  obtain ⟨n1, n2, n3⟩ := List.nodup_append.1 hkn
  have hdis : ∀ b ∈ f2, b ∉ L.fp k := fun b hb' hm => by
    obtain ⟨j, hj', hb''⟩ := hf2 b hb'
    obtain ⟨q, hq⟩ := Option.isSome_iff_exists.1 (hj j hj')
    exact hr.kk j k q c hq hk (fun e => hkj (by rw [← e]; exact hj')) b hb'' hm
  have hlt1 : ∀ b ∈ f, b < w.heap.size := ownL_lt _ _ _ h8
  have hlt2 : ∀ b ∈ f2, b < w.heap.size := ownL_lt _ _ _ ho2
  have k1 : OwnL w' c.cs vs f := ownL_keep _ _ _ h8 (fun b hb' => hchg.block b (hlt1 b hb') (fun hm => n3 b hm b hb' rfl))
  have k2 : OwnL w' ds us f2 := ownL_keep _ _ _ ho2 (fun b hb' => hchg.block b (hlt2 b hb') (fun hm => hdis b hb' (by rw [e3]; simp [hm])))
  have hown' : Own w' (.sl c.e c.sz (c.n + m) (c.cs ++ ds)) (.slice A' (c.n + m) c') ((Value.slice A' (c.n + m) c').ownBlock.toList ++ (f ++ f2)) := by
    unfold Own
    exact ⟨vs ++ us, f ++ f2, rfl, h5, by rw [List.length_append, h6, hm', Nat.add_mul], rowE_of hE' h9, ownL_append _ _ _ _ _ _ k1 k2⟩
  have hnod : (f ++ f2).Nodup := List.nodup_append.2 ⟨n2, hn2, fun x hx' y hy' e' => hdis y hy' (by rw [e3, ← e']; simp [hx'])⟩
  have hset := hr.setkey (k := k) (c := c) (c' := ⟨false, c.e, c.sz, c.n + m, c.cs ++ ds⟩) (js := js) (same := false) hk hkj (hchg.mono (fun b hb' => by rw [e3]; simp [hb'])) hown'
    (by
      rcases hblk with hb' | hb'
      · rw [← hb']
        refine List.nodup_append.2 ⟨n1, hnod, fun x hx' y hy' e' => ?_⟩
        subst e'
        rcases List.mem_append.1 hy' with hy' | hy'
        · exact n3 x hx' x hy' rfl
        · exact hdis x hy' (by rw [e3]; simp [hx'])
      · rw [hb']
        refine List.nodup_append.2 ⟨by simp, hnod, fun x hx' y hy' e' => ?_⟩
        subst e'
        simp only [Option.toList_some, List.mem_singleton] at hx'
        subst hx'
        rcases List.mem_append.1 hy' with hy' | hy'
        · exact absurd (hlt1 _ hy') (by omega)
        · exact absurd (hlt2 _ hy') (by omega))
    (fun b hb' => by
      rcases List.mem_append.1 hb' with hb' | hb'
      · rcases hblk with hbl | hbl
        · rw [← hbl] at hb'; exact .inl (by rw [e3]; simp [hb'])
        · rw [hbl] at hb'
          simp only [Option.toList_some, List.mem_singleton] at hb'
          exact .inr (.inr (by omega))
      · rcases List.mem_append.1 hb' with hb' | hb'
        · exact .inl (by rw [e3]; simp [hb'])
        · obtain ⟨j, hj', hb''⟩ := hf2 b hb'
          exact .inr (.inl ⟨j, hj', hb''⟩)) hj (by simp) (by simp)
  refine hK { L with fp := fun i => if i = k then (Value.slice A' (c.n + m) c').ownBlock.toList ++ (f ++ f2) else L.fp i, rv := fun i => if i = k then .slice A' (c.n + m) c' else L.rv i } _ _ ?_
  rw [hd]
  exact hset.put (v := .one (.key k)) (r := .slice A' (c.n + m) c') hnt (by simp [SVr, CVr]) (by simp [SV.keys, CV.keys, mut_key]) (by simp [SV.boxes])
/-- append to key k, at any source -/
theorem app_wp (hT : TTOk P T) {t e sz by_ d k m cap : Nat} {zc : List CV} {c : KC} {js : List Nat} {A : Option Addr} {us : List Value} {ds : List DV} {f2 : List Nat} {K : Act → World → Prop} {Q : Exit → Act → World → Prop}
    (ho : o.op = .call { callee := .builtin .append, args := #[x, y], argTypes := #[t, t] }) (hd : o.dst = some d) (hnt : d < nt) (ht : look T.sl t = some e) (he : look T.el e = some (sz, by_, zc)) (hl0 : zc.length = sz)
    (hr : Rel P C nt L σ a w) (hk : lkk σ k = some c) (hce : c.e = e) (hcs : c.sz = sz) (hx : a.eval x = L.rv k) (hy : a.eval y = .slice A m cap) (hkj : k ∉ js) (hj : ∀ j ∈ js, (lkk σ j).isSome = true)
    (hsrc : RowRd w A m sz us) (ho2 : OwnL w ds us f2) (hf2 : ∀ b ∈ f2, ∃ j ∈ js, b ∈ L.fp j) (hn2 : f2.Nodup) (h63 : c.n + m ≤ maxLen) (hb : (c.n + m) * by_ ≤ 140737488355328)
    (hK : ∀ L' a' w', Rel P C nt L' ((σ.mut k js false ⟨false, e, sz, c.n + m, c.cs ++ ds⟩).put d (.one (.key k))) a' w' → K a' w') : o.wp P a w K Q := by
  subst hce; subst hcs
  obtain ⟨inf, z, g1, g2, g3, g4, g5⟩ := hT.el c.e c.sz by_ zc he
  have hown := (hr.ks k c hk).1
  simp only [Own] at hown
  obtain ⟨vs, f, e3, h5, h6, h7, h8⟩ := hown
  have hE' : c.e < 1000000 := hT.lt _ _ he
  have h7 := h7.1 hE'
  have hm' : ds.length = m * c.sz := by rw [← ownL_len _ _ _ ho2, hsrc.1]
  have hone : ∀ u ∈ us, u.oneCell' = true := layL_one (ok := fun _ => True) _ _ (ownL_lay _ _ _ ho2 (fun _ _ => trivial))
  have hzs : z.cells.size = c.sz := by
    have := zL_len g5
    simp only [Array.length_toList] at this
    rw [this, hl0]
  refine wp_app w x y t ho c.e z c.sz by_ (hT.sl t c.e ht) (by rw [g1]; simp [g2, g3, g4]) hzs h5 (L.rv k) c.n vs hx h7 A m cap us hy hsrc hone h63 hb ?_
  intro A' c' w' h9 hchg hblk
  exact app_fin hd hnt hr hk hE' hkj hj hm' ho2 hf2 hn2 e3 h5 h6 h8 h9 hchg hblk hK
theorem own_plainL {ok : Nat → Prop} {w w' : World} : ∀ {ds : List DV} {vs : List Value}, ds.all DV.plain = true → LayL ok w ds vs → OwnL w' ds vs []
  | [], _, _, h => by simp only [LayL] at h; subst h; simp [OwnL]
  | d :: ds, _, hp, h => by
    simp only [List.all_cons, Bool.and_eq_true] at hp
    simp only [LayL] at h
    obtain ⟨v, vs', rfl, h1, h2⟩ := h
    simp only [OwnL]
    exact ⟨v, vs', [], [], rfl, rfl, lay_plain hp.1 h1, own_plainL hp.2 h2⟩
theorem lay_row {ok : Nat → Prop} {w : World} {e sz n : Nat} {cs : List DV} {v : Value} (h : Lay ok w (.sl e sz n cs) v) : ∃ A c vs, v = .slice A n c ∧ RowRd w A n sz vs ∧ LayL ok w cs vs := by
  simp only [Lay] at h
  obtain ⟨A, c, vs, e1, h2, h3, h4, h5, h6, h7⟩ := h
  refine ⟨A, c, vs, e1, ⟨by rw [layL_len _ _ h6, h5], fun hn => ?_⟩, h6⟩
  obtain ⟨b, off, k1, _, k3⟩ := h7 hn
  exact ⟨b, off, k1, k3⟩
theorem plain_flat {α : Type} {enc : α → List DV} (h : ∀ x, (enc x).all DV.plain = true) : ∀ xs : List α, (xs.flatMap enc).all DV.plain = true
  | [] => rfl
  | x :: xs => by rw [List.flatMap_cons, List.all_append, h, plain_flat h xs]; rfl
/-- plain cells that are read, onto a key -/
theorem ef_appV (hT : TTOk P T) {t e sz by_ d k m : Nat} {zc : List CV} {c : KC} {J : List Nat} {e2 : Nat} {ds : List DV} (ho : o.op = .call { callee := .builtin .append, args := #[x, y], argTypes := #[t, t] }) (hd : o.dst = some d) (hnt : Nat.blt d nt = true) (ht : look T.sl t = some e) (he : look T.el e = some (sz, by_, zc)) (hl0 : zc.length = sz)
    (hx : Ev P C nt σ x (.one (.key k))) (hk : lkk σ k = some c) (hce : c.e = e) (hcs : c.sz = sz) (hy : Ev P C nt σ y (.one (.dv J (.sl e2 sz m ds)))) (hp : ds.all DV.plain = true) (hb : (c.n + m) * by_ ≤ 140737488355328) (h63 : c.n + m ≤ 9223372036854775807) :
    Ef P C nt o σ (fun σ' => σ' = (σ.mut k [] false ⟨false, e, sz, c.n + m, c.cs ++ ds⟩).put d (.one (.key k))) := Ef.mk fun L a w hr K Q hK => by
  have h1 := hx.run L a w hr
  have h2 := hy.run L a w hr
  simp only [SVr, CVr] at h1 h2
  obtain ⟨A, cap, vs, e1, hrow, hlay⟩ := lay_row h2
  exact app_wp hT ho hd (by simpa [Nat.blt_eq] using hnt) ht he hl0 hr hk hce hcs h1 e1 (by simp) (by simp) hrow (own_plainL hp hlay) (by simp) (by simp) (by simpa [maxLen] using h63) hb (fun L' a' w' h => hK L' _ _ _ rfl h)
/-- a key's cells, handed over to another key -/
theorem ef_appK (hT : TTOk P T) {t e sz by_ d k j : Nat} {zc : List CV} {c c2 : KC} (ho : o.op = .call { callee := .builtin .append, args := #[x, y], argTypes := #[t, t] }) (hd : o.dst = some d) (hnt : Nat.blt d nt = true) (ht : look T.sl t = some e) (he : look T.el e = some (sz, by_, zc)) (hl0 : zc.length = sz)
    (hx : Ev P C nt σ x (.one (.key k))) (hk : lkk σ k = some c) (hce : c.e = e) (hcs : c.sz = sz) (hy : Ev P C nt σ y (.one (.key j))) (hj : lkk σ j = some c2) (hcs2 : c2.sz = sz) (hkj : k ∉ [j]) (hb : (c.n + c2.n) * by_ ≤ 140737488355328) (h63 : c.n + c2.n ≤ 9223372036854775807) :
    Ef P C nt o σ (fun σ' => σ' = (σ.mut k [j] false ⟨false, e, sz, c.n + c2.n, c.cs ++ c2.cs⟩).put d (.one (.key k))) := Ef.mk fun L a w hr K Q hK => by
  have h1 := hx.run L a w hr
  have h2 := hy.run L a w hr
  simp only [SVr, CVr] at h1 h2
  have hown := (hr.ks j c2 hj).1
  have hlay := own_lay (ok := fun _ => True) _ _ _ hown (fun _ _ => trivial)
  rw [hcs2] at hlay
  simp only [Own] at hown
  obtain ⟨vs, f, e3, h5, h6, h7, h8⟩ := hown
  obtain ⟨A, cap, vs', e1, hrow, hlay'⟩ := lay_row hlay
  have hvs : vs' = vs := by
    have h7' := rowE_open h7
    rcases h7'.2 with ⟨g1, g2⟩ | ⟨g, cap2, cur, t', fz', g1, g2, g3, g4, g5, g6⟩
    · have l1 : vs.length = 0 := by rw [h7'.1, g2]; simp
      have l2 : vs'.length = 0 := by rw [hrow.1, g2]; simp
      rw [List.eq_nil_of_length_eq_zero l1, List.eq_nil_of_length_eq_zero l2]
    · rw [e1] at g1
      simp only [Value.slice.injEq, true_and] at g1
      obtain ⟨rfl, rfl⟩ := g1
      rcases Nat.eq_zero_or_pos c2.n with h0 | h0
      · have l1 : vs.length = 0 := by rw [h7'.1, h0]; simp
        have l2 : vs'.length = 0 := by rw [hrow.1, h0]; simp
        rw [List.eq_nil_of_length_eq_zero l1, List.eq_nil_of_length_eq_zero l2]
      · obtain ⟨b, off, k1, k2⟩ := hrow.2 h0
        simp only [Option.some.injEq, Addr.mk.injEq, and_true] at k1
        obtain ⟨rfl, rfl⟩ := k1
        apply List.ext_getElem (by rw [hrow.1, h7'.1, hcs2])
        intro i i1 i2
        have q1 := k2 i _ (List.getElem?_eq_getElem i1)
        rw [Nat.zero_add, cell_of_row w _ i cur t' fz' g2] at q1
        have q3 : i < c2.n * c2.sz := by rw [← h7'.1]; exact i2
        have q2 : vs[i]? = cur[i]? := by rw [← g6, List.getElem?_take, if_pos q3, Array.getElem?_toList]
        rw [List.getElem?_eq_getElem i2] at q2
        rw [← q2] at q1
        exact (Option.some.inj q1).symm
  subst hvs
  have hnf : f.Nodup := by
    have := hr.kn j c2 hj
    rw [e3] at this
    exact (List.nodup_append.1 this).2.1
  exact app_wp hT ho hd (by simpa [Nat.blt_eq] using hnt) ht he hl0 hr hk hce hcs h1 (by rw [h2]; exact e1) hkj (by simp [hj]) hrow h8 (fun b hb' => ⟨j, by simp, by rw [e3]; simp [hb']⟩) hnf (by simpa [maxLen] using h63) hb (fun L' a' w' h => hK L' _ _ _ rfl h)
/-- more is said of a slot -/
theorem Rel.also (h : Rel P C nt L σ a w) {d : Nat} {v : SV} (hv : SVr P C L w v (a.tmps.getD d undef)) (hk : ∀ k ∈ v.keys, (lkk σ k).isSome = true) (hb : ∀ b ∈ v.boxes, (look σ.bx b).isSome = true) : Rel P C nt L (σ.put d v) a w :=
  { h with
    tm := fun i u hu => by
      simp only [St.put, look_cons] at hu
      split at hu
      · rename_i e
        simp only [Option.some.injEq] at hu
        rw [e, ← hu]; exact hv
      · exact h.tm i u hu
    bx := h.bx
    ks := h.ks
    b1 := h.b1
    k1 := h.k1
    kn := h.kn
    bb := h.bb
    bk := h.bk
    kk := h.kk
    lk := fun k hk' => by
      simp only [St.tk, St.put, List.flatMap_cons, List.append_assoc, List.mem_append] at hk'
      rcases hk' with hk' | hk'
      · exact hk k hk'
      · exact h.lk k (by simp only [St.tk, List.mem_append]; exact hk')
    lb := fun b hb' => by
      simp only [St.tb, St.put, List.flatMap_cons, List.mem_append] at hb'
      rcases hb' with hb' | hb'
      · exact hb b hb'
      · exact h.lb b hb' }
/-- more is said of a box -/
theorem Rel.alsoB (h : Rel P C nt L σ a w) {b t : Nat} {cs cs' : List CV} (hb : look σ.bx b = some (t, cs)) (hv : ∀ vs, CVL C L w cs vs → CVL C L w cs' vs) (hk : ∀ k ∈ cs'.flatMap CV.keys, (lkk σ k).isSome = true) : Rel P C nt L ⟨σ.tm, (b, t, cs') :: σ.bx, σ.ks⟩ a w :=
  have hx : ∀ i x, look ((b, t, cs') :: σ.bx) i = some x → ∃ y, look σ.bx i = some y := fun i x hx => by
    simp only [look_cons] at hx
    split at hx
    · rename_i e; exact ⟨_, by rw [e]; exact hb⟩
    · exact ⟨_, hx⟩
  { h with
    tm := h.tm
    bx := fun i t' cs'' hx => by
      simp only [look_cons] at hx
      split at hx
      · rename_i e
        simp only [Option.some.injEq, Prod.mk.injEq] at hx
        obtain ⟨rfl, rfl⟩ := hx
        obtain ⟨vs, h1, h2⟩ := h.bx b _ _ hb
        exact ⟨vs, by rw [e]; exact h1, hv vs h2⟩
      · exact h.bx i t' cs'' hx
    ks := h.ks
    b1 := fun i x h' => by obtain ⟨y, hy⟩ := hx i x h'; exact h.b1 i y hy
    k1 := h.k1
    kn := h.kn
    bb := fun i j x y h1 h2 => by
      obtain ⟨x', h1'⟩ := hx i x h1
      obtain ⟨y', h2'⟩ := hx j y h2
      exact h.bb i j x' y' h1' h2'
    bk := fun i k x c h' hc => by obtain ⟨y, hy⟩ := hx i x h'; exact h.bk i k y c hy hc
    kk := h.kk
    lk := fun k hm => by
      simp only [St.tk, List.flatMap_cons, List.mem_append] at hm
      rcases hm with hm | hm | hm
      · exact h.lk k (by simp only [St.tk, List.mem_append]; exact .inl hm)
      · exact hk k hm
      · exact h.lk k (by simp only [St.tk, List.mem_append]; exact .inr hm)
    lb := fun b' hm => by
      have := h.lb b' hm
      simp only [look_cons]
      split
      · rfl
      · exact this }
theorem cvL_set {L : Lyt} {w : World} {c' : CV} : ∀ {cs : List CV} {vs : List Value} {i : Nat} {c : CV}, cs[i]? = some c → (∀ v, CVr C L w c v → CVr C L w c' v) → CVL C L w cs vs → CVL C L w (cs.set i c') vs
  | [], _, i, _, h, _, _ => by simp at h
  | x :: xs, _, 0, c, h, hc, ⟨v, vs', e, h1, h2⟩ => by
    simp only [List.getElem?_cons_zero, Option.some.injEq] at h
    subst h
    exact ⟨v, vs', e, hc v h1, h2⟩
  | x :: xs, _, i + 1, c, h, hc, ⟨v, vs', e, h1, h2⟩ => ⟨v, vs', e, h1, cvL_set (by simpa using h) hc h2⟩
/-- nil in a box, taken as a key -/
theorem weak_nilB (k : Nat) {b i t e sz : Nat} {cs : List CV} (hb : look σ.bx b = some (t, cs)) (hi : cs[i]? = some .nil) (hk : lkk σ k = none) (hsz : Nat.blt 0 sz = true) (hl : ((cs.set i (.key k)).flatMap CV.keys).all (fun j => Nat.beq j k || (lkk σ j).isSome) = true) :
    Weak P C nt σ ⟨σ.tm, (b, t, cs.set i (.key k)) :: σ.bx, (k, some ⟨false, e, sz, 0, []⟩) :: σ.ks⟩ := Weak.mk fun L a w hr => by
  have hpos : 0 < sz := by simpa [Nat.blt_eq] using hsz
  have h1 := hr.newkey (k := k) (c := ⟨false, e, sz, 0, []⟩) (v := .slice none 0 0) (f := []) hk (own_nil w e sz hpos) rfl (by simp) (by simp) (by simp) (by simp)
  refine ⟨_, h1.alsoB (b := b) hb (fun vs hv => cvL_set hi (fun v hv => ?_) hv) (fun j hj => ?_)⟩
  · simp only [CVr] at hv ⊢
    rw [hv]; simp
  · have := List.all_eq_true.1 hl j hj
    simp only [Bool.or_eq_true] at this
    simp only [lkk, look_cons]
    split
    · rfl
    · rename_i e'
      rcases this with this | this
      · exact absurd (Nat.eq_of_beq_eq_true this) e'
      · exact this
/-- nil, taken as a key -/
theorem weak_nil {d k e sz : Nat} (hd : look σ.tm d = some (.one .nil)) (hk : lkk σ k = none) (hsz : Nat.blt 0 sz = true) : Weak P C nt σ ({ σ with ks := (k, some ⟨false, e, sz, 0, []⟩) :: σ.ks }.put d (.one (.key k))) := Weak.mk fun L a w hr => by
  have hpos : 0 < sz := by simpa [Nat.blt_eq] using hsz
  have hv := hr.tm d _ hd
  simp only [SVr, CVr] at hv
  have h1 := hr.newkey (k := k) (c := ⟨false, e, sz, 0, []⟩) (v := .slice none 0 0) (f := []) hk (own_nil w e sz hpos) rfl (by simp) (by simp) (by simp) (by simp)
  exact ⟨_, h1.also (v := .one (.key k)) (by simp only [SVr, CVr, if_true]; exact hv) (by simp [SV.keys, CV.keys, lkk, look_cons]) (by simp [SV.boxes])⟩
/-! ### slices and structs that are written out -/
theorem alloc_last (w : World) (o : Obj) : (w.alloc o).heap[w.heap.size]? = some o := heap_alloc_new w o
theorem foldl_set (off : Nat) : ∀ (us : List Value) (k : Nat) (cs : List Value), off + k + us.length ≤ cs.length → (us.zipIdx k).foldl (fun (acc : Array Value) (p : Value × Nat) => acc.setIfInBounds (off + p.2) p.1) cs.toArray = (setR (off + k) us cs).toArray
  | [], k, cs, _ => by simp [setR]
  | u :: us, k, cs, h => by
    simp only [List.length_cons] at h
    rw [List.zipIdx_cons, List.foldl_cons]
    have e : (cs.toArray.setIfInBounds (off + k) u) = (cs.set (off + k) u).toArray := by simp
    simp only [e]
    rw [foldl_set off us (k + 1) _ (by simp; omega)]
    congr 1
    have hlt : off + k < cs.length := by omega
    unfold setR
    rw [List.set_eq_take_append_cons_drop, if_pos hlt]
    have h1 : (cs.take (off + k)).length = off + k := by simp; omega
    have e1 : (cs.take (off + k) ++ u :: cs.drop (off + k + 1)).take (off + (k + 1)) = cs.take (off + k) ++ [u] := by
      rw [show off + (k + 1) = (cs.take (off + k)).length + 1 by omega, List.take_length_add_append]
      simp
    have e2 : (cs.take (off + k) ++ u :: cs.drop (off + k + 1)).drop (off + (k + 1) + us.length) = cs.drop (off + k + (us.length + 1)) := by
      rw [show off + (k + 1) + us.length = (cs.take (off + k)).length + (1 + us.length) by omega, ← List.drop_drop, List.drop_left, ← List.drop_drop]
      simp only [List.drop_succ_cons, List.drop_zero, List.drop_drop]
      congr 1; omega
    rw [e1, e2]
    simp
theorem fill_one {place : Nat → Option (Nat × Nat)} {i off sz : Nat} {v : Value} {us cs : List Value} {rest : List (Nat × Value)} (hp : place i = some (off, sz)) (hv : v.cells = us.toArray) (hl : us.length = sz) (hb : off + sz ≤ cs.length) :
    Instr.fill place cs.toArray ((i, v) :: rest) = Instr.fill place (setR off us cs).toArray rest := by
  have h2 := foldl_set off us 0 cs (by omega)
  simp only [Nat.add_zero] at h2
  have e2 : (us.toArray.zipIdx.foldl (fun (acc : Array Value) (p : Value × Nat) => acc.setIfInBounds (off + p.2) p.1) cs.toArray) = (setR off us cs).toArray := by
    rw [← h2]; simp
  conv => lhs; unfold Instr.fill
  simp only [hp, hv, List.size_toArray, hl, ne_eq, not_true_eq_false, decide_false, Bool.false_or, gt_iff_lt, decide_eq_true_eq, Bool.or_eq_true]
  rw [if_neg (by omega)]
  exact congrArg (fun z => Instr.fill place z rest) e2
theorem run_build1 {t e sz by_ : Nat} {zc : List CV} (hT : TTOk P T) (ht : look T.sl t = some e) (he : look T.el e = some (sz, by_, zc)) (hl0 : zc.length = sz) (hpos : 0 < sz) (hsm : sz ≤ 16777216) {v : Value} {us : List Value} (hv : v.cells = us.toArray) (hl : us.length = sz) :
    (Instr.buildSlice t 1 #[(0, v)]).run P w = .ok (.slice (some ⟨w.heap.size, 0, none⟩) 1 1) (w.alloc (.cells us.toArray e)) := by
  obtain ⟨inf, z, g1, g2, g3, g4, g5⟩ := hT.el e sz by_ zc he
  refine run_buildSlice w t e 1 _ us.toArray inf z (hT.sl t e ht) g1 g4 (by rw [g2]; omega) (by rw [g2]; omega) ?_
  rw [g2]
  have : ((Array.range (1 * sz)).map fun j => z.cells[j % z.cells.size]!) = (((List.range sz).map fun j => z.cells[j % z.cells.size]!)).toArray := by
    rw [Nat.one_mul]
    apply Array.ext'
    simp
  rw [this, fill_one (off := 0) (sz := sz) (by simp) hv hl (by simp)]
  have h2 : setR 0 us ((List.range sz).map fun j => z.cells[j % z.cells.size]!) = us := by
    unfold setR
    simp [hl]
  rw [h2]
  rfl
theorem run_build0 {t e sz by_ : Nat} {zc : List CV} (hT : TTOk P T) (ht : look T.sl t = some e) (he : look T.el e = some (sz, by_, zc)) :
    (Instr.buildSlice t 0 #[]).run P w = .ok (.slice (some ⟨w.heap.size, 0, none⟩) 0 0) (w.alloc (.cells #[] e)) := by
  obtain ⟨inf, z, g1, g2, g3, g4, g5⟩ := hT.el e sz by_ zc he
  have h0 : (Array.range 0) = #[] := rfl
  simp [Instr.buildSlice, run_underlying (hT.sl t e ht), sizeOf, typeInfo, g1, Instr.fill, newRow, h0]
theorem efg_build0 (hT : TTOk P T) {t e sz by_ d k : Nat} {zc : List CV} (ho : o.op = .buildSlice t 0 #[]) (hd : o.dst = some d) (hn : Nat.blt d nt = true) (ht : look T.sl t = some e) (he : look T.el e = some (sz, by_, zc)) (hsz : Nat.blt 0 sz = true) (hk : lkk σ k = none) :
    EfG P C nt o σ (fun σ' => σ' = { σ with ks := (k, some ⟨false, e, sz, 0, []⟩) :: σ.ks }.put d (.one (.key k))) := EfG.mk fun L a w hr K Q hK => by
  have hpos : 0 < sz := by simpa [Nat.blt_eq] using hsz
  have hchg : Chg [] w (w.alloc (.cells #[] e)) := (Chg.refl [] w).alloc _
  refine wp_new (v := .slice (some ⟨w.heap.size, 0, none⟩) 0 0) (w' := w.alloc (.cells #[] e)) ?_ ?_
  · unfold execOp
    simp only [ho, List.map_toArray, List.map_nil, run_build0 (P := P) (w := w) hT ht he, Sem.run_bind, Result.andThen_ok, Sem.run_pure]
  · have hb := hr.newkey' hchg (c := ⟨false, e, sz, 0, []⟩) (v := .slice (some ⟨w.heap.size, 0, none⟩) 0 0) (f := [w.heap.size]) hk
      (by
        unfold Own
        exact ⟨[], [], rfl, hpos, by simp, rowE_of (hT.lt e _ he) ⟨by simp, .inr ⟨w.heap.size, 0, #[], rfl, Nat.zero_le _, alloc_last w _, Nat.le_refl _, Nat.zero_le _, by simp, by simp⟩⟩, by simp [OwnL]⟩) rfl (by simp) (by simp)
    refine hK { L with fp := fun j => if j = k then [w.heap.size] else L.fp j, rv := fun j => if j = k then .slice (some ⟨w.heap.size, 0, none⟩) 0 0 else L.rv j } _ _ _ rfl (by rw [hd]; exact hb.put (v := .one (.key k)) (r := .slice (some ⟨w.heap.size, 0, none⟩) 0 0) (by simpa [Nat.blt_eq] using hn) (by simp [SVr, CVr]) (by simp [SV.keys, CV.keys, lkk, look_cons]) (by simp [SV.boxes])) ⟨hchg, fun i c hc => ?_, fun _ _ _ => rfl⟩
    have : i ≠ k := fun e => by rw [e, hk] at hc; cases hc
    simp [this]
theorem ef_build1 (hT : TTOk P T) {t e sz by_ d k : Nat} {zc : List CV} {v : SV} {p : Bool × List CV} {ds : List DV} {js : List Nat} (ho : o.op = .buildSlice t 1 #[(0, x)]) (hd : o.dst = some d) (hn : Nat.blt d nt = true) (ht : look T.sl t = some e) (he : look T.el e = some (sz, by_, zc)) (hl0 : zc.length = sz) (hsz : Nat.blt 0 sz = true) (hsm : Nat.ble sz 16777216 = true)
    (hx : Ev P C nt σ x v) (hp : v.part = some p) (hkv : svOk σ v = true) (how : OwCs σ p.2 ds js) (hnj : js.Nodup) (hkj : k ∉ js) (hl : p.2.length = sz) (hk : lkk σ k = none) :
    Ef P C nt o σ (fun σ' => σ' = (St.mut { σ with ks := (k, some ⟨false, e, sz, 0, []⟩) :: σ.ks } k js false ⟨false, e, sz, 1, ds⟩).put d (.one (.key k))) := Ef.mk fun L a w hr K Q hK => by
  have hpos : 0 < sz := by simpa [Nat.blt_eq] using hsz
  obtain ⟨us, h1, h2, h3⟩ := sv_cells hr hp hkv (hx.run L a w hr)
  have hus : us.length = sz := by rw [cvL_len h2]; exact hl
  obtain ⟨o1, o2, o3⟩ := owCs_own hr how h2
  have hchg : Chg [] w (w.alloc (.cells us.toArray e)) := (Chg.refl [] w).alloc _
  have hr1 := hr.newkey (k := k) (c := ⟨false, e, sz, 0, []⟩) (v := .slice none 0 0) (f := []) hk (own_nil w e sz hpos) rfl (by simp) (by simp) (by simp) (by simp)
  have hlj : ∀ j ∈ js, (lkk { σ with ks := (k, some ⟨false, e, sz, 0, []⟩) :: σ.ks } j).isSome = true := fun j hj => by
    have hjk : j ≠ k := fun e' => hkj (by rw [← e']; exact hj)
    have := o2 j hj
    simp only [lkk, look_cons, if_neg hjk] at this ⊢
    exact this
  have hlt : ∀ b ∈ js.flatMap L.fp, b < w.heap.size := ownL_lt _ _ _ o1
  have o1' : OwnL (w.alloc (.cells us.toArray e)) ds us (js.flatMap L.fp) := ownL_keep _ _ _ o1 (fun b hb => hchg.block b (hlt b hb) (by simp))
  have hset := hr1.setkey (k := k) (c := ⟨false, e, sz, 0, []⟩) (c' := ⟨false, e, sz, 1, ds⟩) (js := js) (same := false) (w' := w.alloc (.cells us.toArray e)) (v' := .slice (some ⟨w.heap.size, 0, none⟩) 1 1) (f' := w.heap.size :: js.flatMap L.fp)
    (by simp [lkk, look_cons]) hkj (by simpa using hchg)
    (by
      unfold Own
      refine ⟨us, js.flatMap L.fp, rfl, hpos, by rw [o3, hl, Nat.one_mul], rowE_of (hT.lt e _ he) ⟨by rw [hus, Nat.one_mul], .inr ⟨w.heap.size, 1, us.toArray, rfl, Nat.zero_le _, alloc_last w _, Nat.le_refl _, by simp [maxLen], by simp [hus], by rw [Nat.one_mul, ← hus]; simp⟩⟩, o1'⟩)
    (by
      rw [List.nodup_cons]
      exact ⟨fun hm => absurd (hlt _ hm) (by omega), nodup_flat hr hnj o2⟩)
    (fun b hb => by
      rcases List.mem_cons.1 hb with hb | hb
      · exact .inr (.inr (by omega))
      · obtain ⟨j, hj, hb'⟩ := List.mem_flatMap.1 hb
        have hjk : j ≠ k := fun e' => hkj (by rw [← e']; exact hj)
        exact .inr (.inl ⟨j, hj, by simpa [hjk] using hb'⟩)) hlj (by simp) (by simp)
  refine wp_new (v := .slice (some ⟨w.heap.size, 0, none⟩) 1 1) (w' := w.alloc (.cells us.toArray e)) ?_ ?_
  · unfold execOp
    simp only [ho, List.map_toArray, List.map_cons, List.map_nil, run_build1 (P := P) (w := w) hT ht he hl0 hpos (by simpa [Nat.ble_eq] using hsm) h1 hus, Sem.run_bind, Result.andThen_ok, Sem.run_pure]
  · rw [hd]
    exact hK _ _ _ _ rfl (hset.put (v := .one (.key k)) (r := .slice (some ⟨w.heap.size, 0, none⟩) 1 1) (by simpa [Nat.blt_eq] using hn) (by simp [SVr, CVr]) (by simp [SV.keys, CV.keys, mut_key]) (by simp [SV.boxes]))
/-! over states that are written out -/
section
variable {Q : Exit → St → Prop} {all : Array Oper} {rest : List Oper} {tm : List (Nat × SV)} {bx : List (Nat × TypeId × List CV)} {ks : List (Nat × Option KC)}
theorem o_appV (hT : TTOk P T) {t e sz by_ d k m : Nat} {zc : List CV} {c : KC} {J : List Nat} {e2 : Nat} {ds cs : List DV} (hg : o.guard = none) (hd : o.dst = some d) (ho : o.op = .call { callee := .builtin .append, args := #[x, y], argTypes := #[t, t] }) (hnt : Nat.blt d nt = true) (ht : look T.sl t = some e) (he : look T.el e = some (sz, by_, zc)) (hl0 : zc.length = sz)
    (hx : Ev P C nt ⟨tm, bx, ks⟩ x (.one (.key k))) (hk : lkk ⟨tm, bx, ks⟩ k = some c) (hce : c.e = e) (hcs : c.sz = sz) (hy : Ev P C nt ⟨tm, bx, ks⟩ y (.one (.dv J (.sl e2 sz m ds)))) (hp : ds.all DV.plain = true) (hb : (c.n + m) * by_ ≤ 140737488355328) (h63 : c.n + m ≤ 9223372036854775807) {n : Nat} (hn : c.n + m = n) (hcc : c.cs ++ ds = cs)
    (h : Ops P C nt Q all rest ⟨(d, .one (.key k)) :: killT [k] [k] tm, killB [k] [k] bx, (k, some ⟨false, e, sz, n, cs⟩) :: ks⟩) : Ops P C nt Q all (o :: rest) ⟨tm, bx, ks⟩ :=
  ops_ef1 hg (ef_appV hT ho hd hnt ht he hl0 hx hk hce hcs hy hp hb h63) (by subst hn; subst hcc; exact h)
theorem o_appK (hT : TTOk P T) {t e sz by_ d k j : Nat} {zc : List CV} {c c2 : KC} {cs : List DV} (hg : o.guard = none) (hd : o.dst = some d) (ho : o.op = .call { callee := .builtin .append, args := #[x, y], argTypes := #[t, t] }) (hnt : Nat.blt d nt = true) (ht : look T.sl t = some e) (he : look T.el e = some (sz, by_, zc)) (hl0 : zc.length = sz)
    (hx : Ev P C nt ⟨tm, bx, ks⟩ x (.one (.key k))) (hk : lkk ⟨tm, bx, ks⟩ k = some c) (hce : c.e = e) (hcs : c.sz = sz) (hy : Ev P C nt ⟨tm, bx, ks⟩ y (.one (.key j))) (hj : lkk ⟨tm, bx, ks⟩ j = some c2) (hcs2 : c2.sz = sz) (hkj : k ∉ [j]) (hb : (c.n + c2.n) * by_ ≤ 140737488355328) (h63 : c.n + c2.n ≤ 9223372036854775807) {n : Nat} (hn : c.n + c2.n = n) (hcc : c.cs ++ c2.cs = cs)
    (h : Ops P C nt Q all rest ⟨(d, .one (.key k)) :: killT [k, j] [k, j] tm, killB [k, j] [k, j] bx, (k, some ⟨false, e, sz, n, cs⟩) :: (j, none) :: ks⟩) : Ops P C nt Q all (o :: rest) ⟨tm, bx, ks⟩ :=
  ops_ef1 hg (ef_appK hT ho hd hnt ht he hl0 hx hk hce hcs hy hj hcs2 hkj hb h63) (by subst hn; subst hcc; exact h)
theorem o_build0 (hT : TTOk P T) {t e sz by_ d k : Nat} {zc : List CV} (hg : o.guard = none) (hd : o.dst = some d) (ho : o.op = .buildSlice t 0 #[]) (hn : Nat.blt d nt = true) (ht : look T.sl t = some e) (he : look T.el e = some (sz, by_, zc)) (hsz : Nat.blt 0 sz = true) (hk : lkk ⟨tm, bx, ks⟩ k = none)
    (h : Ops P C nt Q all rest ⟨(d, .one (.key k)) :: tm, bx, (k, some ⟨false, e, sz, 0, []⟩) :: ks⟩) : Ops P C nt Q all (o :: rest) ⟨tm, bx, ks⟩ := ops_ef1 hg (efg_build0 hT ho hd hn ht he hsz hk).ef h
theorem o_build1 (hT : TTOk P T) {t e sz by_ d k : Nat} {zc : List CV} {v : SV} {p : Bool × List CV} {ds : List DV} {js : List Nat} (hg : o.guard = none) (hd : o.dst = some d) (ho : o.op = .buildSlice t 1 #[(0, x)]) (hn : Nat.blt d nt = true) (ht : look T.sl t = some e) (he : look T.el e = some (sz, by_, zc)) (hl0 : zc.length = sz) (hsz : Nat.blt 0 sz = true) (hsm : Nat.ble sz 16777216 = true)
    (hx : Ev P C nt ⟨tm, bx, ks⟩ x v) (hp : v.part = some p) (hkv : svOk ⟨tm, bx, ks⟩ v = true) (how : OwCs ⟨tm, bx, ks⟩ p.2 ds js) (hnj : js.Nodup) (hkj : k ∉ js) (hl : p.2.length = sz) (hk : lkk ⟨tm, bx, ks⟩ k = none)
    (h : Ops P C nt Q all rest ⟨(d, .one (.key k)) :: killT (k :: js) (k :: js) tm, killB (k :: js) (k :: js) bx, (k, some ⟨false, e, sz, 1, ds⟩) :: ((js.map fun j => (j, none)) ++ (k, some ⟨false, e, sz, 0, []⟩) :: ks)⟩) : Ops P C nt Q all (o :: rest) ⟨tm, bx, ks⟩ :=
  ops_ef1 hg (ef_build1 hT ho hd hn ht he hl0 hsz hsm hx hp hkv how hnj hkj hl hk) h
end
end
end Go.Proofs.Ytbmgommbmhmbgaa
