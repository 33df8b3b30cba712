/-
  The rules of the abstract logic for regions that draw their order and hold variables that are laid at any time.
-/
import Derived.Test.YtbmgommbmhmbgaaStr
namespace Go.Proofs.Ytbmgommbmhmbgaa
open Go.RowKit
set_option linter.unusedVariables false
set_option linter.unusedSimpArgs false

/-- variables to be laid: the operation's number, its slot, the type, its zero cells -/
abbrev Vars := List (Nat × Nat × Nat × List CV)
def addT : Vars → List (Nat × SV) → List (Nat × SV)
  | [], tm => tm
  | p :: B, tm => (p.2.1, .box p.2.1 0) :: addT B tm
def addB : Vars → List (Nat × TypeId × List CV) → List (Nat × TypeId × List CV)
  | [], bx => bx
  | p :: B, bx => (p.2.1, p.2.2.1, p.2.2.2) :: addB B bx
@[reducible] def St.adds (σ : St) (B : Vars) : St := ⟨addT B σ.tm, addB B σ.bx, σ.ks⟩
def setAll (listed : Array Bool) : List Nat → Array Bool
  | [] => listed
  | j :: js => (setAll listed js).setIfInBounds j true
theorem setAll_size (listed : Array Bool) : ∀ js, (setAll listed js).size = listed.size
  | [] => rfl
  | j :: js => by rw [setAll, Array.size_setIfInBounds, setAll_size listed js]
theorem setAll_get (listed : Array Bool) (k : Nat) (hk : k < listed.size) : ∀ js, (setAll listed js)[k]? = some (listed[k] || js.contains k)
  | [] => by simp [setAll, Array.getElem?_eq_getElem hk]
  | j :: js => by
    have ih := setAll_get listed k hk js
    have e : setAll listed (j :: js) = (setAll listed js).setIfInBounds j true := rfl
    rw [e, Array.getElem?_setIfInBounds, ih, List.contains_cons, setAll_size]
    by_cases h : j = k
    · subst h; simp [hk]
    · have h2 : (k == j) = false := by simpa using fun e => h e.symm
      rw [if_neg h, h2, Bool.false_or]
theorem setAll_ext {listed : Array Bool} {js ks : List Nat} (h : ∀ k, js.contains k = ks.contains k) : setAll listed js = setAll listed ks := by
  apply Array.ext_getElem?
  intro k
  by_cases h1 : k < listed.size
  · rw [setAll_get listed k h1, setAll_get listed k h1, h]
  · rw [Array.getElem?_eq_none (by rw [setAll_size]; omega), Array.getElem?_eq_none (by rw [setAll_size]; omega)]
theorem setAll_set {listed : Array Bool} {i : Nat} : ∀ {js : List Nat}, i ∉ js → setAll (listed.setIfInBounds i true) js = (setAll listed js).setIfInBounds i true
  | [], _ => rfl
  | j :: js, h => by
    simp only [List.mem_cons, not_or] at h
    rw [setAll, setAll_set h.2, setAll, Array.setIfInBounds_comm _ _ h.1]
@[reducible] def nos (B : Vars) : List Nat := B.map fun p => p.1
section
variable {σ σ' : St}
theorem look_addT {B : Vars} {tm : List (Nat × SV)} (j : Nat) : look (addT B tm) j = if (B.map fun p => p.2.1).contains j then some (.box j 0) else look tm j := by
  induction B with
  | nil => simp [addT]
  | cons p B ih =>
    simp only [addT, look_cons, List.map_cons, List.contains_cons, ih]
    by_cases h : j = p.2.1
    · simp [h]
    · have h2 : (j == p.2.1) = false := by simpa using h
      rw [if_neg h, h2, Bool.false_or]
def lookV : Vars → Nat → Option (TypeId × List CV)
  | [], _ => none
  | p :: B, j => if j = p.2.1 then some (p.2.2.1, p.2.2.2) else lookV B j
theorem look_addB {B : Vars} {bx : List (Nat × TypeId × List CV)} (j : Nat) : look (addB B bx) j = (lookV B j).or (look bx j) := by
  induction B with
  | nil => simp [addB, lookV]
  | cons p B ih =>
    simp only [addB, look_cons, lookV, ih]
    split <;> simp
theorem lookV_none {B : Vars} {j : Nat} (h : ∀ p ∈ B, p.2.1 ≠ j) : lookV B j = none := by
  induction B with
  | nil => rfl
  | cons p B ih =>
    rw [lookV, if_neg (fun e => h p (by simp) e.symm)]
    exact ih fun q hq => h q (by simp [hq])
theorem lookV_mem {B : Vars} (hn : (B.map fun p => p.2.1).Nodup) {p : Nat × Nat × Nat × List CV} (hp : p ∈ B) : lookV B p.2.1 = some (p.2.2.1, p.2.2.2) := by
  induction B with
  | nil => simp at hp
  | cons q B ih =>
    simp only [List.map_cons, List.nodup_cons] at hn
    rw [lookV]
    rcases List.mem_cons.1 hp with rfl | hp
    · simp
    · rw [if_neg (fun e => hn.1 (by rw [← e]; exact List.mem_map.2 ⟨p, hp, rfl⟩))]
      exact ih hn.2 hp
variable {P : Program} {C : Ctx} {nt : Nat} {L : Lyt} {a : Act} {w : World}
theorem Rel.sub' (h : Rel P C nt L σ' a w) (h1 : ∀ i v, look σ.tm i = some v → look σ'.tm i = some v) (h2 : ∀ i x, look σ.bx i = some x → look σ'.bx i = some x) (h3 : ∀ k c, lkk σ k = some c → lkk σ' k = some c) (h4 : σ.okB = true) : Rel P C nt L σ a w := by
  simp only [St.okB, Bool.and_eq_true, List.all_eq_true] at h4
  exact {
    df := h.df, sz := h.sz
    tm := fun i v hv => h.tm i v (h1 i v hv)
    bx := fun i t cs hx => h.bx i t cs (h2 i _ hx)
    ks := fun k c hc => h.ks k c (h3 k c hc)
    b1 := fun i x hx => h.b1 i x (h2 i _ hx)
    k1 := fun k c hc => h.k1 k c (h3 k c hc)
    kn := fun k c hc => h.kn k c (h3 k c hc)
    bb := fun i j x y hx hy => h.bb i j x y (h2 i _ hx) (h2 j _ hy)
    bk := fun i k x c hx hc => h.bk i k x c (h2 i _ hx) (h3 k c hc)
    kk := fun k j c d hc hd => h.kk k j c d (h3 k c hc) (h3 j d hd)
    lk := h4.1, lb := h4.2
    s0 := h.s0, chg := h.chg }
/-- what is asked of the variables, beside a state -/
structure VOk (P : Program) (all : Array Oper) (nt : Nat) (A : Vars) (σ : St) : Prop where
  op : ∀ p ∈ A, ∃ o, all[p.1]? = some o ∧ o.guard = none ∧ o.dst = some p.2.1 ∧ o.op = .alloc p.2.2.1
  ty : ∀ p ∈ A, ∃ T sz by_, TTOk P T ∧ look T.el p.2.2.1 = some (sz, by_, p.2.2.2)
  lt : ∀ p ∈ A, p.2.1 < nt
  zk : ∀ p ∈ A, p.2.2.2.flatMap CV.keys = []
  bn : ∀ p ∈ A, look σ.bx p.2.1 = none
  tn : ∀ p ∈ A, look σ.tm p.2.1 = none
  nd : (A.map fun p => p.2.1).Nodup
  ni : (nos A).Nodup
  ok : σ.okB = true
theorem VOk.okA {all : Array Oper} {A : Vars} (h : VOk P all nt A σ) {B : Vars} (hB : ∀ p ∈ B, p ∈ A) : (σ.adds B).okB = true := by
  have h0 := h.ok
  simp only [St.okB, Bool.and_eq_true, List.all_eq_true] at h0 ⊢
  have hbx : ∀ b, (look σ.bx b).isSome = true → (look (addB B σ.bx) b).isSome = true := fun b hb => by
    rw [look_addB]; cases lookV B b <;> simp [hb]
  have hin : ∀ {B : Vars} (hB : ∀ p ∈ B, p ∈ A), ∀ p ∈ B, (look (addB B σ.bx) p.2.1).isSome = true := by
    intro B
    induction B with
    | nil => intro _ p hp; simp at hp
    | cons q B ih =>
      intro hB p hp
      simp only [addB, look_cons]
      split
      · rfl
      · rcases List.mem_cons.1 hp with rfl | hp
        · rename_i e; exact absurd rfl e
        · exact ih (fun r hr => hB r (by simp [hr])) p hp
  constructor
  · intro k hk
    refine h0.1 k ?_
    simp only [St.tk, List.mem_append] at hk ⊢
    have key : ∀ {B : Vars}, (∀ p ∈ B, p ∈ A) → (k ∈ (addT B σ.tm).flatMap (fun p => p.2.keys) → k ∈ σ.tm.flatMap fun p => p.2.keys) ∧ (k ∈ (addB B σ.bx).flatMap (fun p => p.2.2.flatMap CV.keys) → k ∈ σ.bx.flatMap fun p => p.2.2.flatMap CV.keys) := by
      intro B
      induction B with
      | nil => intro _; exact ⟨id, id⟩
      | cons p B ih =>
        intro hB
        obtain ⟨i1, i2⟩ := ih fun q hq => hB q (by simp [hq])
        refine ⟨fun hm => i1 ?_, fun hm => i2 ?_⟩
        · simpa [addT, SV.keys] using hm
        · simpa [addB, h.zk p (hB p (by simp))] using hm
    rcases hk with hk | hk
    · exact .inl ((key hB).1 hk)
    · exact .inr ((key hB).2 hk)
  · intro b hb
    have key : ∀ {B : Vars}, b ∈ (addT B σ.tm).flatMap (fun p => p.2.boxes) → b ∈ σ.tm.flatMap (fun p => p.2.boxes) ∨ ∃ p ∈ B, b = p.2.1 := by
      intro B
      induction B with
      | nil => intro hm; exact .inl hm
      | cons p B ih =>
        intro hm
        simp only [addT, List.flatMap_cons, SV.boxes, List.mem_append, List.mem_singleton] at hm
        rcases hm with hm | hm
        · exact .inr ⟨p, by simp, hm⟩
        · rcases ih hm with hm | ⟨q, hq, e⟩
          · exact .inl hm
          · exact .inr ⟨q, by simp [hq], e⟩
    rcases key hb with hb | ⟨p, hp, rfl⟩
    · exact hbx b (h0.2 b hb)
    · exact hin hB p hp
theorem VOk.tmE {all : Array Oper} {A : Vars} (h : VOk P all nt A σ) {B : Vars} (hB : ∀ p ∈ B, p ∈ A) (i : Nat) (v : SV) (hv : look σ.tm i = some v) : look (σ.adds B).tm i = some v := by
  rw [look_addT, if_neg]
  · exact hv
  · simp only [List.contains_iff_mem, List.mem_map, not_exists, not_and]
    intro p hp e
    rw [← e, h.tn p (hB p hp)] at hv
    cases hv
theorem VOk.bxE {all : Array Oper} {A : Vars} (h : VOk P all nt A σ) {B : Vars} (hB : ∀ p ∈ B, p ∈ A) (i : Nat) (x : TypeId × List CV) (hv : look σ.bx i = some x) : look (σ.adds B).bx i = some x := by
  rw [look_addB, lookV_none, Option.none_or]
  · exact hv
  · intro p hp e
    rw [← e, h.bn p (hB p hp)] at hv
    cases hv
theorem VOk.drop {all : Array Oper} {A : Vars} (h : VOk P all nt A σ) {B : Vars} (hB : ∀ p ∈ B, p ∈ A) (hr : Rel P C nt L (σ.adds B) a w) : Rel P C nt L σ a w :=
  hr.sub' (h.tmE hB) (h.bxE hB) (fun k c hc => hc) h.ok
/-! ### what holds of a state holds of a greater one -/
structure Ext (P : Program) (C : Ctx) (nt : Nat) (σ σ' : St) : Prop where
  rel : ∀ L a w, Rel P C nt L σ' a w → Rel P C nt L σ a w
  bx : ∀ i x, look σ.bx i = some x → look σ'.bx i = some x
  ks : σ'.ks = σ.ks
theorem VOk.ext {all : Array Oper} {A : Vars} (h : VOk P all nt A σ) {B : Vars} (hB : ∀ p ∈ B, p ∈ A) : Ext P C nt σ (σ.adds B) := ⟨fun _ _ _ hr => h.drop hB hr, h.bxE hB, rfl⟩
theorem Ext.lkk (h : Ext P C nt σ σ') (k : Nat) : lkk σ' k = Go.Proofs.Ytbmgommbmhmbgaa.lkk σ k := by simp only [Go.Proofs.Ytbmgommbmhmbgaa.lkk, h.ks]
theorem Ext.ev (h : Ext P C nt σ σ') {x : Operand} {v : SV} (hx : Ev P C nt σ x v) : Ev P C nt σ' x v := Ev.mk fun L a w hr => hx.run L a w (h.rel L a w hr)
theorem Ext.pu (h : Ext P C nt σ σ') {o : Oper} {v : SV} {Ks Bs : List Nat} (hx : Pu P C nt o σ v Ks Bs) : Pu P C nt o σ' v Ks Bs := Pu.mk fun L a w hr => hx.run L a w (h.rel L a w hr)
theorem Ext.gd (h : Ext P C nt σ σ') {all : Array Oper} {o : Oper} {g : Bool} (hx : Gd P C nt σ all o g) : Gd P C nt σ' all o g := Gd.mk fun L a w hr => hx.run L a w (h.rel L a w hr)
theorem Ext.argC (h : Ext P C nt σ σ') {c u : CV} (hx : ArgC σ c u) : ArgC σ' c u := by
  cases c with
  | key k => simp only [ArgC, h.lkk] at hx ⊢; exact hx
  | dv K d => exact hx
  | nest k o d => exact hx
  | nil => exact hx
  | any => exact hx
theorem Ext.argCs (h : Ext P C nt σ σ') : ∀ {cs us : List CV}, ArgCs σ cs us → ArgCs σ' cs us
  | [], _, hx => hx
  | c :: cs, _, ⟨u, us', e, h1, h2⟩ => ⟨u, us', e, h.argC h1, h.argCs h2⟩
theorem Ext.cloB (h : Ext P C nt σ σ') : ∀ {bs : List Nat} {dss : List (List DV)}, CloB σ bs dss → CloB σ' bs dss
  | [], _, hx => hx
  | b :: bs, _, ⟨ds, dss', t, e, h1, h2⟩ => ⟨ds, dss', t, e, h.bx b _ h1, h.cloB h2⟩
theorem Ext.argS (h : Ext P C nt σ σ') {v u : SV} (hx : ArgS σ v u) : ArgS σ' v u := by
  cases v with
  | one c => obtain ⟨c', h1, e⟩ := hx; exact ⟨c', h.argC h1, e⟩
  | agg cs => obtain ⟨c', h1, e⟩ := hx; exact ⟨c', h.argCs h1, e⟩
  | ref K ds => exact hx
  | fn f caps => exact hx
  | clo f bs => obtain ⟨caps, h1, e⟩ := hx; exact ⟨caps, h.cloB h1, e⟩
  | _ => exact hx
theorem Ext.args (h : Ext P C nt σ σ') : ∀ {xs : List Operand} {us : List SV}, ArgSs P C nt σ xs us → ArgSs P C nt σ' xs us
  | [], _, hx => hx
  | x :: xs, _, ⟨v, u, us', e, h1, h2, h3⟩ => ⟨v, u, us', e, h.ev h1, h.argS h2, h.args h3⟩
end
/-! ### the judgement -/
structure OpsA (P : Program) (C : Ctx) (nt : Nat) (Q : Exit → St → Prop) (all : Array Oper) (oB oK : List Nat) (hd : Nat → Bool) (A : Vars) (listed : Array Bool) (fuel : Nat) (σ : St) : Prop where
  run : ∀ m : Nat → Bool, ∀ wb L a w, Rel P C nt L (σ.adds (A.filter fun p => m p.1)) a w → SW wb w → C.w0.heap.size ≤ wb.heap.size → (∀ i ∈ oB, L.bb i < wb.heap.size) → (∀ k ∈ oK, ∀ b ∈ L.fp k, b < wb.heap.size) →
    wpAnyT P .any all (QQ P C nt Q) (SW wb) hd (fuel + (A.filter fun p => !m p.1).length) (setAll listed (nos (A.filter fun p => m p.1))) a w
section
variable {P : Program} {C : Ctx} {nt : Nat} {Q : Exit → St → Prop} {all : Array Oper} {oB oK : List Nat} {hd' : Nat → Bool} {A : Vars} {listed : Array Bool} {fuel : Nat} {o : Oper} {d : Nat} {v X : SV} {Ks Bs : List Nat} {g : Bool} {σ σ₁ : St}
def subs {α : Type} : List α → List (List α)
  | [] => [[]]
  | x :: xs => (subs xs).map (x :: ·) ++ subs xs
theorem mem_subs {α : Type} (m : α → Bool) : ∀ l : List α, l.filter m ∈ subs l
  | [] => by simp [subs]
  | x :: xs => by
    have ih := mem_subs m xs
    rw [List.filter_cons, subs]
    split
    · exact List.mem_append.2 (.inl (List.mem_map.2 ⟨_, ih, rfl⟩))
    · exact List.mem_append.2 (.inr ih)
/-- whatever of the variables has been laid: beside the rest of them only i may come up -/
def readyI (all : Array Oper) (listed : Array Bool) (A : Vars) (i : Nat) : Bool := (subs A).all fun B =>
  (Region.ready .any all (setAll listed (nos B))).contains i && (Region.ready .any all (setAll listed (nos B))).all fun j => j == i || ((nos A).contains j && !(nos B).contains j)
def readyN (all : Array Oper) (listed : Array Bool) (A : Vars) : Bool := (subs A).all fun B =>
  B.length == A.length || (!(Region.ready .any all (setAll listed (nos B))).isEmpty && (Region.ready .any all (setAll listed (nos B))).all fun j => (nos A).contains j && !(nos B).contains j)
def takeA (hd : Nat → Bool) (all : Array Oper) (listed : Array Bool) (A : Vars) (i : Nat) : Bool := (subs A).all fun B => takeB .any all hd (setAll listed (nos B)) i
def takeAX (hd : Nat → Bool) (all : Array Oper) (listed : Array Bool) (A : Vars) (i : Nat) : Bool := (subs A).all fun B => takeXB .any all hd (setAll listed (nos B)) i
theorem vfilt_sub (m : Nat → Bool) : A.filter (fun p => m p.1) ∈ subs A := mem_subs _ A
theorem vfilt_nos {m : Nat → Bool} {j : Nat} (hA : (nos A).contains j = true) (h : (nos (A.filter fun p => m p.1)).contains j = false) : m j = false := by
  simp only [List.contains_iff_mem, List.mem_map] at hA
  obtain ⟨p, hp, rfl⟩ := hA
  cases hm : m p.1 with
  | false => rfl
  | true =>
    have : (nos (A.filter fun p => m p.1)).contains p.1 = true := by
      simp only [List.contains_iff_mem, List.mem_map]
      exact ⟨p, List.mem_filter.2 ⟨hp, hm⟩, rfl⟩
    rw [this] at h; cases h
theorem vfilt_len : ∀ {A : Vars} {m : Nat → Bool} {j : Nat}, (nos A).Nodup → j ∈ nos A → m j = false → (A.filter fun p => !m p.1).length = (A.filter fun p => !(m p.1 || p.1 == j)).length + 1
  | [], _, _, _, h, _ => by simp at h
  | p :: A, m, j, hn, h, hm => by
    simp only [List.map_cons, List.nodup_cons] at hn
    simp only [List.map_cons, List.mem_cons] at h
    by_cases e : p.1 = j
    · subst e
      have h1 : (A.filter fun q => !m q.1) = A.filter fun q => !(m q.1 || q.1 == p.1) := by
        apply List.filter_congr
        intro q hq
        have : q.1 ≠ p.1 := fun e => hn.1 (by rw [← e]; exact List.mem_map.2 ⟨q, hq, rfl⟩)
        simp [this]
      rw [List.filter_cons, List.filter_cons, hm]
      simp [h1]
    · have hj : j ∈ nos A := by
        rcases h with h | h
        · exact absurd h.symm e
        · exact h
      have ih := vfilt_len hn.2 hj hm
      rw [List.filter_cons, List.filter_cons]
      have e2 : (p.1 == j) = false := by simpa using e
      rw [e2, Bool.or_false]
      split
      · simp [ih]
      · exact ih
theorem vfilt_set {m : Nat → Bool} {j : Nat} (hj : j ∈ nos A) : setAll listed (nos (A.filter fun p => m p.1 || p.1 == j)) = (setAll listed (nos (A.filter fun p => m p.1))).setIfInBounds j true := by
  have : (setAll listed (nos (A.filter fun p => m p.1))).setIfInBounds j true = setAll listed (j :: nos (A.filter fun p => m p.1)) := rfl
  rw [this]
  apply setAll_ext
  intro k
  rw [Bool.eq_iff_iff]
  simp only [List.contains_iff_mem, List.mem_map, List.mem_filter, List.mem_cons, Bool.or_eq_true, beq_iff_eq]
  constructor
  · rintro ⟨p, ⟨hp, h⟩, rfl⟩
    rcases h with h | h
    · exact .inr ⟨p, ⟨hp, h⟩, rfl⟩
    · exact .inl h
  · rintro (rfl | ⟨p, ⟨hp, h⟩, rfl⟩)
    · obtain ⟨p, hp, rfl⟩ := List.mem_map.1 hj
      exact ⟨p, ⟨hp, .inr rfl⟩, rfl⟩
    · exact ⟨p, ⟨hp, .inl h⟩, rfl⟩
theorem vfm {m : Nat → Bool} : ∀ p ∈ A.filter (fun p => m p.1), p ∈ A := fun p hp => (List.mem_filter.1 hp).1
/-- one of the variables is laid -/
theorem lay_one_var (h : VOk P all nt A σ) {m : Nat → Bool} {j : Nat} (hj : j ∈ nos A) (hm : m j = false) {L : Lyt} {a : Act} {w wb : World} (hr : Rel P C nt L (σ.adds (A.filter fun p => m p.1)) a w) (hs : SW wb w) (hB : ∀ i ∈ oB, L.bb i < wb.heap.size) (hK : ∀ k ∈ oK, ∀ b ∈ L.fp k, b < wb.heap.size)
    (hob : (oB.all fun i => (look σ.bx i).isSome) = true) (hok : (oK.all fun k => (lkk σ k).isSome) = true) (K : Act → World → Prop) (Q' : Exit → Act → World → Prop)
    (hk : ∀ L' a' w', Rel P C nt L' (σ.adds (A.filter fun p => m p.1 || p.1 == j)) a' w' → SW wb w' → (∀ i ∈ oB, L'.bb i < wb.heap.size) → (∀ k ∈ oK, ∀ b ∈ L'.fp k, b < wb.heap.size) → K a' w') : ∃ oj, all[j]? = some oj ∧ oj.guard = none ∧ oj.wp P a w K Q' := by
  obtain ⟨p, hp, rfl⟩ := List.mem_map.1 hj
  obtain ⟨oj, h1, h2, h3, h4⟩ := h.op p hp
  obtain ⟨T, sz, by_, hT, ht⟩ := h.ty p hp
  refine ⟨oj, h1, h2, ?_⟩
  have hout : ∀ q ∈ A.filter (fun p => m p.1), q.2.1 ≠ p.2.1 := fun q hq e => by
    obtain ⟨hq1, hq2⟩ := List.mem_filter.1 hq
    have : q = p := by
      have key : ∀ {l : Vars}, (l.map fun p => p.2.1).Nodup → q ∈ l → p ∈ l → q = p := by
        intro l
        induction l with
        | nil => intro _ h; simp at h
        | cons x l ih =>
          intro hn h1 h2
          simp only [List.map_cons, List.nodup_cons] at hn
          rcases List.mem_cons.1 h1 with e1 | e1 <;> rcases List.mem_cons.1 h2 with e2 | e2
          · rw [e1, e2]
          · exact absurd (List.mem_map.2 ⟨p, e2, by rw [← e, e1]⟩ : x.2.1 ∈ l.map fun p => p.2.1) hn.1
          · exact absurd (List.mem_map.2 ⟨q, e1, by rw [e, e2]⟩ : x.2.1 ∈ l.map fun p => p.2.1) hn.1
          · exact ih hn.2 e1 e2
      exact key h.nd hq1 hp
    subst this
    rw [hm] at hq2; cases hq2
  have hbn : look (σ.adds (A.filter fun p => m p.1)).bx p.2.1 = none := by
    rw [look_addB, lookV_none hout, Option.none_or]; exact h.bn p hp
  have hef := efg_alloc (P := P) (C := C) (nt := nt) (σ := σ.adds (A.filter fun p => m p.1)) hT h4 h3 (by simpa [Nat.blt_eq] using h.lt p hp) ht hbn
  refine hef.run L a w hr K Q' fun L' σ' a' w' e h5 h6 => hk L' a' w' ?_ (hs.chg h6.chg) (fun i hi => ?_) (fun k hk' => ?_)
  · subst e
    have hmm : ∀ q ∈ A.filter (fun q => m q.1 || q.1 == p.1), q ∈ A.filter (fun q => m q.1) ∨ q = p := fun q hq => by
      obtain ⟨hq1, hq2⟩ := List.mem_filter.1 hq
      simp only [Bool.or_eq_true, beq_iff_eq] at hq2
      rcases hq2 with hq2 | hq2
      · exact .inl (List.mem_filter.2 ⟨hq1, hq2⟩)
      · right
        have key : ∀ {l : Vars}, (nos l).Nodup → q ∈ l → p ∈ l → q = p := by
          intro l
          induction l with
          | nil => intro _ h; simp at h
          | cons x l ih =>
            intro hn h1 h2
            simp only [List.map_cons, List.nodup_cons] at hn
            rcases List.mem_cons.1 h1 with e1 | e1 <;> rcases List.mem_cons.1 h2 with e2 | e2
            · rw [e1, e2]
            · exact absurd (List.mem_map.2 ⟨p, e2, by rw [← hq2, e1]⟩ : x.1 ∈ nos l) hn.1
            · exact absurd (List.mem_map.2 ⟨q, e1, by rw [hq2, e2]⟩ : x.1 ∈ nos l) hn.1
            · exact ih hn.2 e1 e2
        exact key h.ni hq1 hp
    refine h5.sub' (fun i u hu => ?_) (fun i x hx => ?_) (fun k c hc => hc) (h.okA fun p hp => (List.mem_filter.1 hp).1)
    · simp only [St.put, look_cons]
      rw [look_addT] at hu ⊢
      split at hu
      · rename_i hc
        simp only [List.contains_iff_mem, List.mem_map] at hc
        obtain ⟨q, hq, rfl⟩ := hc
        rcases hmm q hq with hq | rfl
        · rw [if_neg (hout q hq), if_pos (by simp only [List.contains_iff_mem, List.mem_map]; exact ⟨q, hq, rfl⟩)]
          exact hu
        · rw [if_pos rfl]; exact hu
      · rename_i hc
        split
        · rename_i e; rw [e, h.tn p hp] at hu; cases hu
        · split
          · rename_i h7
            exfalso
            apply hc
            simp only [List.contains_iff_mem, List.mem_map] at h7 ⊢
            obtain ⟨q, hq, e⟩ := h7
            obtain ⟨hq1, hq2⟩ := List.mem_filter.1 hq
            exact ⟨q, List.mem_filter.2 ⟨hq1, by simp [hq2]⟩, e⟩
          · exact hu
    · simp only [St.put, look_cons]
      rw [look_addB] at hx ⊢
      have hnd' : ((A.filter fun q => m q.1 || q.1 == p.1).map fun p => p.2.1).Nodup := (List.Sublist.map _ List.filter_sublist).nodup h.nd
      have hnd2 : ((A.filter fun q => m q.1).map fun p => p.2.1).Nodup := (List.Sublist.map _ List.filter_sublist).nodup h.nd
      by_cases hq : ∃ q ∈ A.filter (fun q => m q.1 || q.1 == p.1), q.2.1 = i
      · obtain ⟨q, hq, rfl⟩ := hq
        rw [lookV_mem hnd' hq, Option.some_or] at hx
        rcases hmm q hq with hq | rfl
        · rw [if_neg (hout q hq), lookV_mem hnd2 hq, Option.some_or]; exact hx
        · rw [if_pos rfl]; exact hx
      · rw [lookV_none (fun q hq' e => hq ⟨q, hq', e⟩), Option.none_or] at hx
        split
        · rename_i e; rw [e, h.bn p hp] at hx; cases hx
        · rw [lookV_none (fun q hq' e => hq ⟨q, List.mem_filter.2 ⟨(List.mem_filter.1 hq').1, by simp [(List.mem_filter.1 hq').2]⟩, e⟩), Option.none_or]
          exact hx
  · obtain ⟨x, hx⟩ := Option.isSome_iff_exists.1 (List.all_eq_true.1 hob i hi)
    rw [h6.box i x (h.bxE vfm i x hx)]; exact hB i hi
  · obtain ⟨c, hc⟩ := Option.isSome_iff_exists.1 (List.all_eq_true.1 hok k hk')
    rw [h6.key k c hc]; exact hK k hk'
theorem wpOp_inl {ops : Array Oper} {Q' : Exit → Act → World → Prop} {i : Nat} {oi : Oper} {K : Act → World → Prop} {a : Act} {w : World} (hi : ops[i]? = some oi) (hg : oi.guard = none) (h : oi.wp P a w K Q') : wpOp P ops Q' i K a w := by
  unfold wpOp
  simp only [hi]
  have hw : Region.wanted oi (yielded ops a.tmps) = true := by simp [Region.wanted, hg]
  rw [if_pos hw]
  exact .inl h
theorem alloc_head {p : Nat} {oj : Oper} (h : all[p]? = some oj) (hh : hdF all p = true ∨ True) : True := trivial
/-- the beginning -/
theorem d_vars0 (A : Vars) (h : OpsA P C nt Q all oB oK hd' A listed fuel σ) : OpsD P C nt Q all oB oK hd' listed (fuel + A.length) σ := ⟨fun wb L a w hr hs hw hB hK => by
  have e1 : A.filter (fun p => (fun _ : Nat => false) p.1) = [] := by rw [List.filter_eq_nil_iff]; simp
  have e2 : A.filter (fun p => !(fun _ : Nat => false) p.1) = A := by rw [List.filter_eq_self]; simp
  have := h.run (fun _ => false) wb L a w (by rw [e1]; exact hr) hs hw hB hK
  rw [e1, e2] at this
  exact this⟩
/-- the end: the rest of the variables is laid -/
theorem a_exit (hv : VOk P all nt A σ) (hob : (oB.all fun i => (look σ.bx i).isSome) = true) (hok : (oK.all fun k => (lkk σ k).isSome) = true) (hr0 : readyN all listed A = true) (h : OpsD P C nt Q all oB oK hd' (setAll listed (nos A)) fuel (σ.adds A)) : OpsA P C nt Q all oB oK hd' A listed fuel σ := by
  refine ⟨fun m => ?_⟩
  obtain ⟨n, hn⟩ : ∃ n, n = (A.filter fun p => !m p.1).length := ⟨_, rfl⟩
  induction n generalizing m with
  | zero =>
    intro wb L a w hr hs hw hB hK
    have hall : A.filter (fun p => m p.1) = A := by
      rw [List.filter_eq_self]
      intro p hp
      cases hm : m p.1 with
      | true => rfl
      | false =>
        have : p ∈ A.filter fun p => !m p.1 := List.mem_filter.2 ⟨hp, by simp [hm]⟩
        rw [List.eq_nil_of_length_eq_zero hn.symm] at this
        simp at this
    rw [← hn, hall]
    rw [hall] at hr
    exact h.run wb L a w hr hs hw hB hK
  | succ n ih =>
    intro wb L a w hr hs hw hB hK
    have h1 := List.all_eq_true.1 hr0 _ (vfilt_sub m)
    rw [← hn]
    simp only [Bool.or_eq_true, beq_iff_eq, Bool.and_eq_true, Bool.not_eq_true', List.all_eq_true] at h1
    rcases h1 with h1 | ⟨h1, h2⟩
    · exfalso
      have : A.filter (fun p => m p.1) = A := List.Sublist.eq_of_length List.filter_sublist h1
      rw [List.filter_eq_self] at this
      have h3 : (A.filter fun p => !m p.1) = [] := by rw [List.filter_eq_nil_iff]; intro p hp; simp [this p hp]
      rw [h3] at hn; simp at hn
    · refine ⟨fun e => (by rw [e] at h1; simp at h1), fun j hj => ?_⟩
      obtain ⟨g1, g2⟩ := h2 j hj
      have hjA : j ∈ nos A := by simpa using g1
      have hmj := vfilt_nos g1 g2
      have hlen := vfilt_len hv.ni hjA hmj
      obtain ⟨oj, k1, k2, k3⟩ := lay_one_var (Q' := QQ P C nt Q) (K := fun a' w' => (hd' j = true → SW wb w') ∧ wpAnyT P .any all (QQ P C nt Q) (SW wb) hd' (fuel + n) ((setAll listed (nos (A.filter fun p => m p.1))).setIfInBounds j true) a' w') hv hjA hmj hr hs hB hK hob hok
        (fun L' a' w' q1 q2 q3 q4 => ⟨fun _ => q2, by
          have := ih (fun i => m i || i == j) (by omega) wb L' a' w' q1 q2 hw q3 q4
          rw [vfilt_set hjA] at this
          rw [show n = (A.filter fun p => !(m p.1 || p.1 == j)).length by omega]
          exact this⟩)
      exact wpOp_inl k1 k2 k3
/-- a step of one operation, whatever of the variables has been laid -/
theorem a_step (i : Nat) (hi : all[i]? = some o) (hg : o.guard = none) (hv : VOk P all nt A σ) (hiA : (nos A).contains i = false) (hob : (oB.all fun i => (look σ.bx i).isSome) = true) (hok : (oK.all fun k => (lkk σ k).isSome) = true) (hr0 : readyI all listed A i = true)
    (hp : ∀ B : Vars, (∀ p ∈ B, p ∈ A) → EfG P C nt o (σ.adds B) (fun σ' => σ' = σ₁.adds B ∨ ∀ L a w, Rel P C nt L σ' a w → Rel P C nt L (σ₁.adds B) a w)) (h : OpsA P C nt Q all oB oK hd' A (listed.setIfInBounds i true) fuel σ₁) : OpsA P C nt Q all oB oK hd' A listed (fuel + 1) σ := by
  refine ⟨fun m => ?_⟩
  obtain ⟨n, hn⟩ : ∃ n, n = (A.filter fun p => !m p.1).length := ⟨_, rfl⟩
  induction n generalizing m with
  | zero =>
    intro wb L a w hr hs hw hB hK
    have h1 := List.all_eq_true.1 hr0 _ (vfilt_sub m)
    simp only [Bool.and_eq_true, List.all_eq_true, Bool.or_eq_true, beq_iff_eq, Bool.not_eq_true'] at h1
    rw [← hn]
    refine ⟨fun e => (by rw [e] at h1; simp at h1), fun j hj => ?_⟩
    rcases h1.2 j hj with rfl | ⟨g1, g2⟩
    · refine wpOp_inl hi hg ((hp _ vfm).run L a w hr _ _ fun L' σ' a' w' e h5 h6 => ⟨fun _ => hs.chg h6.chg, ?_⟩)
      have h7 : Rel P C nt L' (σ₁.adds (A.filter fun p => m p.1)) a' w' := by
        rcases e with e | e
        · rw [← e]; exact h5
        · exact e _ _ _ h5
      have := h.run m wb L' a' w' h7 (hs.chg h6.chg) hw (fun i hi => by
        obtain ⟨x, hx⟩ := Option.isSome_iff_exists.1 (List.all_eq_true.1 hob i hi)
        rw [h6.box i x (hv.bxE vfm i x hx)]; exact hB i hi) (fun k hk' => by
        obtain ⟨c, hc⟩ := Option.isSome_iff_exists.1 (List.all_eq_true.1 hok k hk')
        rw [h6.key k c hc]; exact hK k hk')
      rw [← hn, setAll_set (fun hm => by
        obtain ⟨p, hp', e⟩ := List.mem_map.1 hm
        have : (nos A).contains j = true := by simp only [List.contains_iff_mem, List.mem_map]; exact ⟨p, vfm p hp', e⟩
        rw [this] at hiA; cases hiA)] at this
      exact this
    · exfalso
      have hmj := vfilt_nos g1 g2
      obtain ⟨p, hp', rfl⟩ := List.mem_map.1 (by simpa using g1 : j ∈ nos A)
      have : p ∈ A.filter fun p => !m p.1 := List.mem_filter.2 ⟨hp', by simp [hmj]⟩
      rw [List.eq_nil_of_length_eq_zero hn.symm] at this
      simp at this
  | succ n ih =>
    intro wb L a w hr hs hw hB hK
    have h1 := List.all_eq_true.1 hr0 _ (vfilt_sub m)
    simp only [Bool.and_eq_true, List.all_eq_true, Bool.or_eq_true, beq_iff_eq, Bool.not_eq_true'] at h1
    rw [← hn]
    refine ⟨fun e => (by rw [e] at h1; simp at h1), fun j hj => ?_⟩
    rcases h1.2 j hj with rfl | ⟨g1, g2⟩
    · refine wpOp_inl hi hg ((hp _ vfm).run L a w hr _ _ fun L' σ' a' w' e h5 h6 => ⟨fun _ => hs.chg h6.chg, ?_⟩)
      have h7 : Rel P C nt L' (σ₁.adds (A.filter fun p => m p.1)) a' w' := by
        rcases e with e | e
        · rw [← e]; exact h5
        · exact e _ _ _ h5
      have := h.run m wb L' a' w' h7 (hs.chg h6.chg) hw (fun i hi => by
        obtain ⟨x, hx⟩ := Option.isSome_iff_exists.1 (List.all_eq_true.1 hob i hi)
        rw [h6.box i x (hv.bxE vfm i x hx)]; exact hB i hi) (fun k hk' => by
        obtain ⟨c, hc⟩ := Option.isSome_iff_exists.1 (List.all_eq_true.1 hok k hk')
        rw [h6.key k c hc]; exact hK k hk')
      rw [← hn, setAll_set (fun hm => by
        obtain ⟨p, hp', e⟩ := List.mem_map.1 hm
        have : (nos A).contains j = true := by simp only [List.contains_iff_mem, List.mem_map]; exact ⟨p, vfm p hp', e⟩
        rw [this] at hiA; cases hiA)] at this
      rw [show fuel + (n + 1) = fuel + 1 + n by omega] at this
      exact this
    · have hjA : j ∈ nos A := by simpa using g1
      have hmj := vfilt_nos g1 g2
      have hlen := vfilt_len hv.ni hjA hmj
      obtain ⟨oj, k1, k2, k3⟩ := lay_one_var (Q' := QQ P C nt Q) (K := fun a' w' => (hd' j = true → SW wb w') ∧ wpAnyT P .any all (QQ P C nt Q) (SW wb) hd' (fuel + 1 + n) ((setAll listed (nos (A.filter fun p => m p.1))).setIfInBounds j true) a' w') hv hjA hmj hr hs hB hK hob hok
        (fun L' a' w' q1 q2 q3 q4 => ⟨fun _ => q2, by
          have := ih (fun i => m i || i == j) (by omega) wb L' a' w' q1 q2 hw q3 q4
          rw [vfilt_set hjA] at this
          rw [show n = (A.filter fun p => !(m p.1 || p.1 == j)).length by omega]
          exact this⟩)
      exact wpOp_inl k1 k2 k3
theorem VOk.perm {tm : List (Nat × SV)} {bx : List (Nat × TypeId × List CV)} {ks : List (Nat × Option KC)} (hv : VOk P all nt A ⟨(d, v) :: tm, bx, ks⟩) {B : Vars} (hB : ∀ p ∈ B, p ∈ A) {C : Ctx} {L : Lyt} {a : Act} {w : World} (hr : Rel P C nt L ⟨(d, v) :: addT B tm, addB B bx, ks⟩ a w) : Rel P C nt L (St.adds ⟨(d, v) :: tm, bx, ks⟩ B) a w :=
  hr.sub' (fun i u hu => by
    simp only [look_cons]
    rw [look_addT] at hu ⊢
    split at hu
    · rename_i hc
      have hne : i ≠ d := by
        rintro rfl
        simp only [List.contains_iff_mem, List.mem_map] at hc
        obtain ⟨q, hq, rfl⟩ := hc
        have := hv.tn q (hB q hq)
        rw [look_cons, if_pos rfl] at this
        cases this
      rw [if_neg hne, if_pos hc]; exact hu
    · rename_i hc
      simp only [look_cons] at hu
      split at hu
      · rename_i e; rw [if_pos e]; exact hu
      · rename_i e; rw [if_neg e, if_neg hc]; exact hu) (fun _ _ h => h) (fun _ _ h => h) (hv.okA hB)
def vokB (all : Array Oper) (nt : Nat) (A : Vars) (tms bxs : List Nat) : Bool :=
  (A.all fun p => (match all[p.1]? with
    | some o => o.guard.isNone && o.dst == some p.2.1 && (match o.op with | .alloc t => t == p.2.2.1 | _ => false)
    | none => false) && Nat.blt p.2.1 nt && !(tms.contains p.2.1) && !(bxs.contains p.2.1)) && nodupB (A.map fun p => p.2.1) && nodupB (nos A)
def VTys (T : TT) : Vars → Prop
  | [] => True
  | p :: A => (∃ sz by_, look T.el p.2.2.1 = some (sz, by_, p.2.2.2)) ∧ p.2.2.2.flatMap CV.keys = [] ∧ VTys T A
theorem VTys.mem {T : TT} : ∀ {A : Vars}, VTys T A → ∀ p ∈ A, (∃ sz by_, look T.el p.2.2.1 = some (sz, by_, p.2.2.2)) ∧ p.2.2.2.flatMap CV.keys = []
  | [], _, p, hp => by simp at hp
  | q :: A, h, p, hp => by
    rcases List.mem_cons.1 hp with rfl | hp
    · exact ⟨h.1, h.2.1⟩
    · exact h.2.2.mem p hp
theorem look_out {α : Type} : ∀ {l : List (Nat × α)} {j : Nat}, (l.map fun p => p.1).contains j = false → look l j = none
  | [], _, _ => by simp [look]
  | p :: l, j, h => by
    simp only [List.map_cons, List.contains_cons, Bool.or_eq_false_iff] at h
    obtain ⟨k, x⟩ := p
    rw [look_cons, if_neg (by simpa using h.1)]
    exact look_out h.2
theorem vok {T : TT} (hT : TTOk P T) (ht : VTys T A) (hb : vokB all nt A (σ.tm.map fun p => p.1) (σ.bx.map fun p => p.1) = true) (ho : σ.okB = true) : VOk P all nt A σ := by
  simp only [vokB, Bool.and_eq_true, List.all_eq_true, Bool.not_eq_true'] at hb
  obtain ⟨⟨h1, h2⟩, h3⟩ := hb
  refine ⟨fun p hp => ?_, fun p hp => ?_, fun p hp => by have := (h1 p hp).1.1.2; simpa [Nat.blt_eq] using this, fun p hp => (ht.mem p hp).2, fun p hp => look_out (h1 p hp).2, fun p hp => look_out (h1 p hp).1.2, nodupB_spec h2, nodupB_spec h3, ho⟩
  · have := (h1 p hp).1.1.1
    split at this
    · rename_i oj hoj
      simp only [Bool.and_eq_true, beq_iff_eq, Option.isNone_iff_eq_none] at this
      refine ⟨oj, hoj, this.1.1, this.1.2, ?_⟩
      have h4 := this.2
      split at h4
      · rename_i t e; rw [e]; rw [beq_iff_eq] at h4; rw [h4]
      · cases h4
    · cases this
  · obtain ⟨⟨sz, by_, h⟩, _⟩ := ht.mem p hp
    exact ⟨T, sz, by_, hT, h⟩
/-! the steps, over states that are written out -/
section
variable {tm : List (Nat × SV)} {bx : List (Nat × TypeId × List CV)} {ks : List (Nat × Option KC)}
theorem d_vars {T : TT} {A : Vars} (hT : TTOk P T) (ht : VTys T A) (h : OpsA P C nt Q all oB oK hd' A listed fuel ⟨tm, bx, ks⟩) : OpsD P C nt Q all oB oK hd' listed (fuel + A.length) ⟨tm, bx, ks⟩ := d_vars0 A h
theorem a_exit1 (hv : VOk P all nt A ⟨tm, bx, ks⟩) (hob : (oB.all fun i => (look bx i).isSome) = true) (hok : (oK.all fun k => (lkk ⟨tm, bx, ks⟩ k).isSome) = true) (hr0 : readyN all listed A = true) (h : OpsD P C nt Q all oB oK hd' (setAll listed (nos A)) fuel ⟨addT A tm, addB A bx, ks⟩) : OpsA P C nt Q all oB oK hd' A listed fuel ⟨tm, bx, ks⟩ := a_exit hv hob hok hr0 h
theorem a_take (i : Nat) (hi : all[i]? = some o) (ht : takeA hd' all listed A i = true) (hiA : (nos A).contains i = false) (hg : o.guard = none) (hd : o.dst = some d) (hv : VOk P all nt A ⟨tm, bx, ks⟩) (hv1 : VOk P all nt A ⟨(d, v) :: tm, bx, ks⟩) (hp : Pu P C nt o ⟨tm, bx, ks⟩ v Ks Bs) (h1 : (Ks.all fun k => oK.contains k) = true) (h2 : (Bs.all fun k => oB.contains k) = true) (hn : Nat.blt d nt = true) (hk : svOk ⟨tm, bx, ks⟩ v = true)
    (h : OpsA P C nt Q all oB oK hd' A (listed.setIfInBounds i true) fuel ⟨(d, v) :: tm, bx, ks⟩) : OpsA P C nt Q all oB oK hd' A listed (fuel + 1) ⟨tm, bx, ks⟩ := ⟨fun m wb L a w hr hs hw hB hK => by
  have hx := hv.ext (C := C) (B := A.filter fun p => m p.1) vfm
  obtain ⟨r, h3, h4⟩ := pu_yields hr hs hw hB hK (hx.pu hp) h1 h2
  rw [show fuel + 1 + (A.filter fun p => !m p.1).length = fuel + (A.filter fun p => !m p.1).length + 1 by omega]
  refine T_take i (v := r) hi (List.all_eq_true.1 ht _ (vfilt_sub m)) (fun _ _ _ h => h) hs (.inl ⟨by simp [Region.wanted, hg], h4⟩) ?_
  rw [hd, ← setAll_set (fun hm => by
    obtain ⟨p, hp', e⟩ := List.mem_map.1 hm
    have : (nos A).contains i = true := by simp only [List.contains_iff_mem, List.mem_map]; exact ⟨p, vfm p hp', e⟩
    rw [this] at hiA; cases hiA)]
  refine h.run m wb L _ w (hv1.perm vfm ?_) hs hw hB hK
  refine hr.put (by simpa [Nat.blt_eq] using hn) h3 (svOk_spec hk).1 fun b hb => ?_
  obtain ⟨x, hx'⟩ := Option.isSome_iff_exists.1 ((svOk_spec hk).2 b hb)
  rw [hx.bx b x hx']; rfl⟩
theorem a_takeX (i : Nat) (hi : all[i]? = some o) (ht : takeAX hd' all listed A i = true) (hex : extO o = true) (hiA : (nos A).contains i = false) (hg : o.guard = none) (hd : o.dst = some d) (hv : VOk P all nt A ⟨tm, bx, ks⟩) (hv1 : VOk P all nt A ⟨(d, v) :: tm, bx, ks⟩) (hp : Pu P C nt o ⟨tm, bx, ks⟩ v Ks Bs) (hn : Nat.blt d nt = true) (hk : svOk ⟨tm, bx, ks⟩ v = true)
    (h : OpsA P C nt Q all oB oK hd' A (listed.setIfInBounds i true) fuel ⟨(d, v) :: tm, bx, ks⟩) : OpsA P C nt Q all oB oK hd' A listed (fuel + 1) ⟨tm, bx, ks⟩ := ⟨fun m wb L a w hr hs hw hB hK => by
  have hx := hv.ext (C := C) (B := A.filter fun p => m p.1) vfm
  obtain ⟨r, h3, h4⟩ := (hx.pu hp).run L a w hr
  rw [show fuel + 1 + (A.filter fun p => !m p.1).length = fuel + (A.filter fun p => !m p.1).length + 1 by omega]
  refine T_takeX i (v := r) hi (List.all_eq_true.1 ht _ (vfilt_sub m)) (fun _ _ _ h => h) (.inl ⟨by simp [Region.wanted, hg], fun w' _ => ext_any hex (h4 w fun _ _ _ => rfl) w'⟩) ?_
  rw [hd, ← setAll_set (fun hm => by
    obtain ⟨p, hp', e⟩ := List.mem_map.1 hm
    have : (nos A).contains i = true := by simp only [List.contains_iff_mem, List.mem_map]; exact ⟨p, vfm p hp', e⟩
    rw [this] at hiA; cases hiA)]
  refine h.run m wb L _ w (hv1.perm vfm ?_) hs hw hB hK
  refine hr.put (by simpa [Nat.blt_eq] using hn) h3 (svOk_spec hk).1 fun b hb => ?_
  obtain ⟨x, hx'⟩ := Option.isSome_iff_exists.1 ((svOk_spec hk).2 b hb)
  rw [hx.bx b x hx']; rfl⟩
theorem a_callK (m i : Nat) {f : FuncId} {xs : List Operand} {ats : Array TypeId} {us : List SV} {kk : List (Nat × Option KC)} (hi : all[i]? = some o) (ht : readyI all listed A i = true) (hiA : (nos A).contains i = false) (hg : o.guard = none) (hd : o.dst = some d) (hv : VOk P all nt A ⟨tm, bx, ks⟩) (hv1 : VOk P all nt A ⟨(d, v.sh m) :: tm, bx, shK m kk ++ ks⟩) (ho : o.op = .call { callee := .value (.func f), args := xs.toArray, argTypes := ats })
    (hc : ∀ (args : Array Value) (w : World), (callFunc f args).run P w = .ok (.enter f args) w) (hf : KFn P f us v kk) (ha : ArgSs P C nt ⟨tm, bx, ks⟩ xs us) (hn : Nat.blt d nt = true) (hres : v.retOk = true) (hfree : (kk.all fun q => (lkk ⟨tm, bx, ks⟩ (m + q.1)).isNone) = true)
    (hb : (oB.all fun i => (look bx i).isSome) = true) (hk : (oK.all fun k => (lkk ⟨tm, bx, ks⟩ k).isSome) = true)
    (h : OpsA P C nt Q all oB oK hd' A (listed.setIfInBounds i true) fuel ⟨(d, v.sh m) :: tm, bx, shK m kk ++ ks⟩) : OpsA P C nt Q all oB oK hd' A listed (fuel + 1) ⟨tm, bx, ks⟩ :=
  a_step i hi hg hv hiA hb hk ht (fun B hB => EfG.mk fun L a w hr K Q' hk' =>
    (efg_call (σ := St.adds ⟨tm, bx, ks⟩ B) (ι := Unit) (v := fun _ => v) (kk := fun _ => kk) (p := fun _ => True) m ho hd hn hc hf.ok ((hv.ext hB).args ha) (fun u σ' h => ⟨(), h.1, h.2, trivial⟩) (fun _ => hres) (fun _ => hfree)).run L a w hr K Q' fun L' σ' a' w' h1 h2 h3 => hk' L' σ' a' w' (.inr (by
      obtain ⟨_, _, e⟩ := h1
      subst e
      exact fun L a w hr => hv1.perm hB hr)) h2 h3) h
theorem a_call (i : Nat) {f : FuncId} {xs : List Operand} {ats : Array TypeId} {us : List SV} (hi : all[i]? = some o) (ht : readyI all listed A i = true) (hiA : (nos A).contains i = false) (hg : o.guard = none) (hd : o.dst = some d) (hv : VOk P all nt A ⟨tm, bx, ks⟩) (hv1 : VOk P all nt A ⟨(d, X) :: tm, bx, ks⟩) (ho : o.op = .call { callee := .value (.func f), args := xs.toArray, argTypes := ats })
    (hc : ∀ (args : Array Value) (w : World), (callFunc f args).run P w = .ok (.enter f args) w) (hf : PFn P f us X) (ha : ArgSs P C nt ⟨tm, bx, ks⟩ xs us) (hp : X.plain = true) (hn : Nat.blt d nt = true)
    (hb : (oB.all fun i => (look bx i).isSome) = true) (hk : (oK.all fun k => (lkk ⟨tm, bx, ks⟩ k).isSome) = true)
    (h : OpsA P C nt Q all oB oK hd' A (listed.setIfInBounds i true) fuel ⟨(d, X) :: tm, bx, ks⟩) : OpsA P C nt Q all oB oK hd' A listed (fuel + 1) ⟨tm, bx, ks⟩ :=
  a_step i hi hg hv hiA hb hk ht (fun B hB => EfG.mk fun L a w hr K Q' hk' =>
    ((pc_p ho hc hf hp ((hv.ext hB).args ha)).efg (σ := St.adds ⟨tm, bx, ks⟩ B) hd hn).run L a w hr K Q' fun L' σ' a' w' h1 h2 h3 => hk' L' σ' a' w' (.inr (by
      obtain ⟨u, hu, e⟩ := h1
      subst e
      subst hu
      exact fun L a w hr => hv1.perm hB hr)) h2 h3) h
end
end
end Go.Proofs.Ytbmgommbmhmbgaa
