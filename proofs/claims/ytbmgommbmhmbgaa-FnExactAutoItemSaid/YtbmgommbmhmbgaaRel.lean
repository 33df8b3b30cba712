/-
  Abstract states of a call, and what they say of its frame and of memory (Rel): boxes (struct variables), keys (slices that the call owns), views.
-/
import Derived.Test.YtbmgommbmhmbgaaDat
import Derived.Test.YtbmgommbmhmbgaaRegion
namespace Go.Proofs.Ytbmgommbmhmbgaa
open Go.RowKit
set_option linter.unusedVariables false

/-- a cell: a view of data that reads arguments and the keys K; the root of key k; a nested cell of key k at offset o, as a view; nil; whatever -/
inductive CV where
  | dv (K : List Nat) (d : DV)
  | key (k : Nat)
  | nest (k o : Nat) (d : DV)
  | nil
  | any
/-- what a slot holds -/
inductive SV where
  | one (c : CV)
  | agg (cs : List CV)
  | tup (ts : List (Bool × List CV))
  | box (b off : Nat)
  | ref (K : List Nat) (cs : List DV)
  | eptr (k o : Nat)
  | fn (f : FuncId) (caps : List (List DV))
  | clo (f : FuncId) (caps : List Nat)
  | opt (g : Bool) (v : SV)
  | any
/-- the entry's world; the blocks that may be written; the keys' values at the entry -/
structure Ctx where
  w0 : World
  S0 : List Nat
  rv0 : Nat → Value
structure Lyt where
  bb : Nat → Nat
  fp : Nat → List Nat
  rv : Nat → Value
/-- a key's content; h: its value is the one that it had at the entry -/
structure KC where
  h : Bool
  e : TypeId
  sz : Nat
  n : Nat
  cs : List DV
structure St where
  tm : List (Nat × SV)
  bx : List (Nat × TypeId × List CV)
  ks : List (Nat × Option KC)

def look {α : Type} : List (Nat × α) → Nat → Option α
  | [], _ => none
  | (k, v) :: l, i => bif Nat.beq i k then some v else look l i
theorem look_cons {α : Type} (k : Nat) (v : α) (l : List (Nat × α)) (i : Nat) : look ((k, v) :: l) i = if i = k then some v else look l i := by
  simp only [look]
  by_cases h : i = k
  · subst h; simp
  · have : Nat.beq i k = false := by
      cases hb : Nat.beq i k with
      | false => rfl
      | true => exact absurd (Nat.eq_of_beq_eq_true hb) h
    simp [this, h]
theorem look_map {α β : Type} (f : α → β) (l : List (Nat × α)) (i : Nat) : look (l.map fun p => (p.1, f p.2)) i = (look l i).map f := by
  induction l with
  | nil => rfl
  | cons p l ih =>
    obtain ⟨k, v⟩ := p
    rw [List.map_cons, look_cons, look_cons]
    split <;> simp [ih]
def lkk (σ : St) (k : Nat) : Option KC := (look σ.ks k).join
def St.put (σ : St) (d : Nat) (v : SV) : St := { σ with tm := (d, v) :: σ.tm }

def okB (C : Ctx) (L : Lyt) (K : List Nat) (b : Nat) : Prop := (b < C.w0.heap.size ∧ b ∉ C.S0) ∨ ∃ k ∈ K, b ∈ L.fp k

section
variable (P : Program) (C : Ctx) (L : Lyt) (w : World)
def CVr : CV → Value → Prop
  | .dv K d, v => Lay (okB C L K) w d v
  | .key k, v => v = L.rv k
  | .nest k o d, v => Lay (okB C L [k]) w d v ∧ ∃ g n c, L.rv k = .slice (some ⟨g, 0, none⟩) n c ∧ g ∈ L.fp k ∧ w.cell? ⟨g, o, none⟩ = some v
  | .nil, v => v = .slice none 0 0
  | .any, v => v.oneCell' = true
def CVL : List CV → List Value → Prop
  | [], vs => vs = []
  | c :: cs, vs => ∃ v vs', vs = v :: vs' ∧ CVr C L w c v ∧ CVL cs vs'
def TVL : List (Bool × List CV) → List Value → Prop
  | [], vs => vs = []
  | (g, cs) :: ts, vs => ∃ us v vs', vs = v :: vs' ∧ CVL C L w cs us ∧ (if g then v = .agg us.toArray else us = [v]) ∧ TVL ts vs'
/-- a pointer to data that is read -/
def RefV (ds : List DV) (r : Value) : Prop := ∃ b off vs, r = .pointer (some ⟨b, off, none⟩) ∧ (vs ≠ [] → okB C L [] b) ∧ LayL (okB C L []) w ds vs ∧ ∀ j u, vs[j]? = some u → w.cell? ⟨b, off + j, none⟩ = some u
def RefL : List (List DV) → List Value → Prop
  | [], vs => vs = []
  | ds :: dss, vs => ∃ v vs', vs = v :: vs' ∧ RefV C L w ds v ∧ RefL dss vs'
end
def SVr (_P : Program) (C : Ctx) (L : Lyt) (w : World) : SV → Value → Prop
  | .one c, r => CVr C L w c r
  | .agg cs, r => ∃ vs, r = .agg vs.toArray ∧ CVL C L w cs vs
  | .tup ts, r => ∃ rs, r = .tuple rs.toArray ∧ TVL C L w ts rs
  | .box b off, r => r = .pointer (some ⟨L.bb b, off, none⟩)
  | .ref K cs, r => ∃ b off vs, r = .pointer (some ⟨b, off, none⟩) ∧ (vs ≠ [] → okB C L K b) ∧ LayL (okB C L K) w cs vs ∧ ∀ j u, vs[j]? = some u → w.cell? ⟨b, off + j, none⟩ = some u
  | .eptr k o, r => ∃ g n c, L.rv k = .slice (some ⟨g, 0, none⟩) n c ∧ r = .pointer (some ⟨g, o, none⟩)
  | .fn f caps, r => ∃ vs, r = .func (.func f) #[] vs.toArray ∧ RefL C L w caps vs
  | .clo f caps, r => r = .func (.func f) #[] (caps.map fun b => Value.pointer (some ⟨L.bb b, 0, none⟩)).toArray
  | .opt g v, r => (g = true → SVr _P C L w v r) ∧ (g = false → r = undef)
  | .any, _ => True
def CV.keys : CV → List Nat
  | .dv K _ => K
  | .key k => [k]
  | .nest k _ _ => [k]
  | _ => []
def SV.keys : SV → List Nat
  | .one c => c.keys
  | .agg cs => cs.flatMap CV.keys
  | .tup ts => ts.flatMap fun t => t.2.flatMap CV.keys
  | .ref K _ => K
  | .eptr k _ => [k]
  | .opt _ v => v.keys
  | _ => []
def SV.boxes : SV → List Nat
  | .box b _ => [b]
  | .clo _ caps => caps
  | .opt _ v => v.boxes
  | _ => []
/-- what a change keeps of the keys ks -/
structure Keeps2 (C : Ctx) (L L' : Lyt) (w w' : World) (ks : List Nat) : Prop where
  key : ∀ k ∈ ks, L'.fp k = L.fp k ∧ L'.rv k = L.rv k ∧ ∀ b ∈ L.fp k, b < w.heap.size → w'.heap[b]? = w.heap[b]?
  old : ∀ b, b < C.w0.heap.size → b ∉ C.S0 → w'.heap[b]? = w.heap[b]?
section
variable {P : Program} {C : Ctx} {L L' : Lyt} {w w' : World}
theorem Keeps2.sub {ks js : List Nat} (h : Keeps2 C L L' w w' ks) (hs : ∀ k ∈ js, k ∈ ks) : Keeps2 C L L' w w' js := ⟨fun k hk => h.key k (hs k hk), h.old⟩
theorem Keeps2.ok {ks : List Nat} (h : Keeps2 C L L' w w' ks) : ∀ b, b < w.heap.size → okB C L ks b → okB C L' ks b ∧ w'.heap[b]? = w.heap[b]? := by
  intro b hlt hb
  rcases hb with ⟨h1, h2⟩ | ⟨k, hk, hb⟩
  · exact ⟨.inl ⟨h1, h2⟩, h.old b h1 h2⟩
  · obtain ⟨e1, _, e3⟩ := h.key k hk
    exact ⟨.inr ⟨k, hk, by rw [e1]; exact hb⟩, e3 b hb hlt⟩
theorem cv_conv {c : CV} {v : Value} (h : Keeps2 C L L' w w' c.keys) (hc : CVr C L w c v) : CVr C L' w' c v := by
  cases c with
  | dv K d => exact lay_conv h.ok d v hc
  | key k => simp only [CVr] at hc ⊢; rw [hc, (h.key k (by simp [CV.keys])).2.1]
  | nest k o d =>
    obtain ⟨h1, g, n, c, h2, h3, h4⟩ := hc
    obtain ⟨e1, e2, e3⟩ := h.key k (by simp [CV.keys])
    refine ⟨lay_conv h.ok d v h1, g, n, c, by rw [e2]; exact h2, by rw [e1]; exact h3, ?_⟩
    exact (World.cell?_of_block (a := ⟨g, o, none⟩) (e3 g h3 (cell_lt h4))).trans h4
  | nil => exact hc
  | any => exact hc
theorem cvL_conv : ∀ {cs : List CV} {vs : List Value}, Keeps2 C L L' w w' (cs.flatMap CV.keys) → CVL C L w cs vs → CVL C L' w' cs vs
  | [], _, _, hc => hc
  | c :: cs, _, h, ⟨v, vs', e, h1, h2⟩ => ⟨v, vs', e, cv_conv (h.sub (by intro k hk; simp only [List.flatMap_cons, List.mem_append]; exact .inl hk)) h1, cvL_conv (h.sub (by intro k hk; simp only [List.flatMap_cons, List.mem_append]; exact .inr hk)) h2⟩
theorem tvL_conv : ∀ {ts : List (Bool × List CV)} {vs : List Value}, Keeps2 C L L' w w' (ts.flatMap fun t => t.2.flatMap CV.keys) → TVL C L w ts vs → TVL C L' w' ts vs
  | [], _, _, hc => hc
  | (g, cs) :: ts, _, h, ⟨us, v, vs', e, h1, h2, h3⟩ => ⟨us, v, vs', e, cvL_conv (h.sub (by intro k hk; simp only [List.flatMap_cons, List.mem_append]; exact .inl hk)) h1, h2, tvL_conv (h.sub (by intro k hk; simp only [List.flatMap_cons, List.mem_append]; exact .inr hk)) h3⟩
theorem refV_conv {ds : List DV} {r : Value} (h : Keeps2 C L L' w w' []) (hs : RefV C L w ds r) : RefV C L' w' ds r := by
  obtain ⟨b, off, vs, e, h1, h2, h3⟩ := hs
  by_cases hv : vs = []
  · subst hv
    exact ⟨b, off, [], e, fun h => absurd rfl h, layL_conv h.ok _ _ h2, by simp⟩
  · have hpos : 0 < vs.length := List.length_pos_iff.2 hv
    have hlt : b < w.heap.size := cell_lt (h3 0 _ (List.getElem?_eq_getElem hpos))
    obtain ⟨k1, k2⟩ := h.ok b hlt (h1 hv)
    exact ⟨b, off, vs, e, fun _ => k1, layL_conv h.ok _ _ h2, fun j u hu => (World.cell?_of_block (a := ⟨b, off + j, none⟩) k2).trans (h3 j u hu)⟩
theorem refL_conv : ∀ {dss : List (List DV)} {vs : List Value}, Keeps2 C L L' w w' [] → RefL C L w dss vs → RefL C L' w' dss vs
  | [], _, _, hs => hs
  | ds :: dss, _, h, ⟨v, vs', e, h1, h2⟩ => ⟨v, vs', e, refV_conv h h1, refL_conv h h2⟩
theorem sv_conv : ∀ {s : SV} {r : Value}, Keeps2 C L L' w w' s.keys → (∀ b ∈ s.boxes, L'.bb b = L.bb b) → SVr P C L w s r → SVr P C L' w' s r
  | .one c, r, h, _, hs => by simp only [SVr] at hs ⊢; exact cv_conv h hs
  | .agg cs, r, h, _, hs => by simp only [SVr] at hs ⊢; obtain ⟨vs, e, h1⟩ := hs; exact ⟨vs, e, cvL_conv h h1⟩
  | .tup ts, r, h, _, hs => by simp only [SVr] at hs ⊢; obtain ⟨vs, e, h1⟩ := hs; exact ⟨vs, e, tvL_conv h h1⟩
  | .box b off, r, _, hb, hs => by simp only [SVr] at hs ⊢; rw [hb b (by simp [SV.boxes])]; exact hs
  | .ref K cs, r, h, _, hs => by
    simp only [SVr] at hs ⊢
    obtain ⟨b, off, vs, e, h1, h2, h3⟩ := hs
    by_cases hv : vs = []
    · subst hv
      exact ⟨b, off, [], e, fun h => absurd rfl h, layL_conv h.ok _ _ h2, by simp⟩
    · have hpos : 0 < vs.length := List.length_pos_iff.2 hv
      have hlt : b < w.heap.size := cell_lt (h3 0 _ (List.getElem?_eq_getElem hpos))
      obtain ⟨k1, k2⟩ := h.ok b hlt (h1 hv)
      exact ⟨b, off, vs, e, fun _ => k1, layL_conv h.ok _ _ h2, fun j u hu => (World.cell?_of_block (a := ⟨b, off + j, none⟩) k2).trans (h3 j u hu)⟩
  | .eptr k o, r, h, _, hs => by
    simp only [SVr] at hs ⊢
    obtain ⟨g, n, c, h1, h2⟩ := hs
    exact ⟨g, n, c, by rw [(h.key k (by simp [SV.keys])).2.1]; exact h1, h2⟩
  | .fn f caps, r, h, _, hs => by simp only [SVr] at hs ⊢; obtain ⟨vs, e, h1⟩ := hs; exact ⟨vs, e, refL_conv h h1⟩
  | .clo f caps, r, _, hb, hs => by
    simp only [SVr] at hs ⊢
    rw [hs]
    congr 2
    exact List.map_congr_left fun b hm => by rw [hb b (by simpa [SV.boxes] using hm)]
  | .opt g v, r, h, hb, hs => by simp only [SVr] at hs ⊢; exact ⟨fun hg => sv_conv h hb (hs.1 hg), hs.2⟩
  | .any, _, _, _, _ => by simp only [SVr]
theorem cvL_len : ∀ {cs : List CV} {vs : List Value}, CVL C L w cs vs → vs.length = cs.length
  | [], _, h => by simp only [CVL] at h; simp [h]
  | c :: cs, _, ⟨v, vs', e, _, h2⟩ => by rw [e]; simp [cvL_len h2]
theorem cv_one {c : CV} {v : Value} (hk : ∀ k ∈ c.keys, (L.rv k).oneCell' = true) (h : CVr C L w c v) : v.oneCell' = true := by
  cases c with
  | dv K d => exact lay_one _ _ h
  | key k => simp only [CVr] at h; rw [h]; exact hk k (by simp [CV.keys])
  | nest k o d => exact lay_one _ _ h.1
  | nil => simp only [CVr] at h; rw [h]; rfl
  | any => exact h
end

/-- the keys and the boxes that are spoken of -/
def St.tk (σ : St) : List Nat := (σ.tm.flatMap fun p => p.2.keys) ++ (σ.bx.flatMap fun p => p.2.2.flatMap CV.keys)
def St.tb (σ : St) : List Nat := σ.tm.flatMap fun p => p.2.boxes
def fresh (C : Ctx) (b : Nat) : Prop := C.w0.heap.size ≤ b ∨ b ∈ C.S0
/-- the abstract state tells of frame and memory -/
structure Rel (P : Program) (C : Ctx) (nt : Nat) (L : Lyt) (σ : St) (a : Act) (w : World) : Prop where
  df : a.defers = []
  sz : a.tmps.size = nt
  tm : ∀ i v, look σ.tm i = some v → SVr P C L w v (a.tmps.getD i undef)
  bx : ∀ i t cs, look σ.bx i = some (t, cs) → ∃ vs, w.heap[L.bb i]? = some (.cells vs.toArray t (0, 0)) ∧ CVL C L w cs vs
  ks : ∀ k c, lkk σ k = some c → Own w (.sl c.e c.sz c.n c.cs) (L.rv k) (L.fp k) ∧ (c.h = true → L.rv k = C.rv0 k)
  b1 : ∀ i x, look σ.bx i = some x → fresh C (L.bb i)
  k1 : ∀ k c, lkk σ k = some c → ∀ b ∈ L.fp k, fresh C b
  kn : ∀ k c, lkk σ k = some c → (L.fp k).Nodup
  bb : ∀ i j x y, look σ.bx i = some x → look σ.bx j = some y → i ≠ j → L.bb i ≠ L.bb j
  bk : ∀ i k x c, look σ.bx i = some x → lkk σ k = some c → L.bb i ∉ L.fp k
  kk : ∀ k j c d, lkk σ k = some c → lkk σ j = some d → k ≠ j → ∀ b ∈ L.fp k, b ∉ L.fp j
  lk : ∀ k ∈ σ.tk, (lkk σ k).isSome = true
  lb : ∀ b ∈ σ.tb, (look σ.bx b).isSome = true
  s0 : ∀ b ∈ C.S0, b < C.w0.heap.size
  chg : Chg C.S0 C.w0 w

section
variable {P : Program} {C : Ctx} {nt : Nat} {L : Lyt} {σ : St} {a : Act} {w : World}
theorem Rel.put (h : Rel P C nt L σ a w) {d : Nat} (hd : d < nt) {v : SV} {r : Value} (hv : SVr P C L w v r) (hk : ∀ k ∈ v.keys, (lkk σ k).isSome = true) (hb : ∀ b ∈ v.boxes, (look σ.bx b).isSome = true) : Rel P C nt L (σ.put d v) (a.put (some d) r) w where
  df := h.df
  sz := by simp [Act.put, h.sz]
  tm := fun i u hu => by
    simp only [St.put, look_cons] at hu
    simp only [Act.put]
    split at hu
    · rename_i e; subst e
      simp only [Option.some.injEq] at hu; subst hu
      simp [Array.getD, h.sz, hd]
      exact hv
    · rename_i e
      have h1 := h.tm i u hu
      rw [show (a.tmps.setIfInBounds d r).getD i undef = a.tmps.getD i undef by
        rw [Array.getD_eq_getD_getElem?, Array.getD_eq_getD_getElem?, Array.getElem?_setIfInBounds_ne (fun e' => e e'.symm)]]
      exact h1
  bx := h.bx
  ks := h.ks
  b1 := h.b1
  k1 := h.k1
  kn := h.kn
  bb := h.bb
  bk := h.bk
  kk := h.kk
  lk := fun k hm => by
    simp only [St.tk, St.put, List.flatMap_cons, List.append_assoc, List.mem_append] at hm
    rcases hm with hm | hm | hm
    · exact hk k hm
    · exact h.lk k (by simp only [St.tk, List.mem_append]; exact .inl hm)
    · exact h.lk k (by simp only [St.tk, List.mem_append]; exact .inr hm)
  lb := fun b hm => by
    simp only [St.tb, St.put, List.flatMap_cons, List.mem_append] at hm
    rcases hm with hm | hm
    · exact hb b hm
    · exact h.lb b hm
  s0 := h.s0
  chg := h.chg
theorem look_mem {α : Type} {l : List (Nat × α)} {i : Nat} {v : α} (h : look l i = some v) : (i, v) ∈ l := by
  induction l with
  | nil => cases h
  | cons p l ih =>
    obtain ⟨k, u⟩ := p
    rw [look_cons] at h
    split at h
    · rename_i e; subst e; simp only [Option.some.injEq] at h; subst h; simp
    · exact List.mem_cons_of_mem _ (ih h)
theorem tk_tm {i : Nat} {v : SV} (h : look σ.tm i = some v) : ∀ k ∈ v.keys, k ∈ σ.tk := fun k hk => by
  simp only [St.tk, List.mem_append, List.mem_flatMap]
  exact .inl ⟨_, look_mem h, hk⟩
theorem tk_bx {i : Nat} {t : TypeId} {cs : List CV} (h : look σ.bx i = some (t, cs)) : ∀ k ∈ cs.flatMap CV.keys, k ∈ σ.tk := fun k hk => by
  simp only [St.tk, List.mem_append, List.mem_flatMap]
  exact .inr ⟨_, look_mem h, by simpa only [List.mem_flatMap] using hk⟩
theorem tb_tm {i : Nat} {v : SV} (h : look σ.tm i = some v) : ∀ b ∈ v.boxes, b ∈ σ.tb := fun b hb => by
  simp only [St.tb, List.mem_flatMap]
  exact ⟨_, look_mem h, hb⟩
theorem heap_lt {w : World} {b : Nat} {o : Obj} (h : w.heap[b]? = some o) : b < w.heap.size := (Array.getElem?_eq_some_iff.1 h).1
theorem Rel.bx_lt (h : Rel P C nt L σ a w) {i : Nat} {x : TypeId × List CV} (hx : look σ.bx i = some x) : L.bb i < w.heap.size := by
  obtain ⟨vs, hv, _⟩ := h.bx i x.1 x.2 hx
  exact heap_lt hv
theorem Rel.k_lt (h : Rel P C nt L σ a w) {k : Nat} {c : KC} (hc : lkk σ k = some c) : ∀ b ∈ L.fp k, b < w.heap.size := own_lt' _ _ _ (h.ks k c hc).1
/-- memory grows; all that was there stays -/
theorem Rel.grow (h : Rel P C nt L σ a w) {w' : World} (hc : Chg [] w w') : Rel P C nt L σ a w' := by
  have hK : ∀ ks, Keeps2 C L L w w' ks := fun ks => ⟨fun k _ => ⟨rfl, rfl, fun b _ hb => hc.block b hb (by simp)⟩, fun b hb _ => hc.block b (Nat.lt_of_lt_of_le hb h.chg.size) (by simp)⟩
  exact {
    df := h.df, sz := h.sz
    tm := fun i v hv => sv_conv (hK _) (fun _ _ => rfl) (h.tm i v hv)
    bx := fun i t cs hx => by
      obtain ⟨vs, h1, h2⟩ := h.bx i t cs hx
      exact ⟨vs, (hc.block _ (heap_lt h1) (by simp)).trans h1, cvL_conv (hK _) h2⟩
    ks := fun k c hk => ⟨own_keep _ _ _ (h.ks k c hk).1 (fun b hb => hc.block b (h.k_lt hk b hb) (by simp)), (h.ks k c hk).2⟩
    b1 := h.b1, k1 := h.k1, kn := h.kn, bb := h.bb, bk := h.bk, kk := h.kk, lk := h.lk, lb := h.lb, s0 := h.s0
    chg := h.chg.andThen hc (by simp) }
/-- a new box -/
theorem Rel.newbox (h : Rel P C nt L σ a w) {i : Nat} {t : TypeId} {cs : List CV} {vs : List Value} (hi : look σ.bx i = none) (hv : CVL C L w cs vs) (hk : ∀ k ∈ cs.flatMap CV.keys, (lkk σ k).isSome = true) :
    Rel P C nt { L with bb := fun j => if j = i then w.heap.size else L.bb j } { σ with bx := (i, t, cs) :: σ.bx } a (w.alloc (.cells vs.toArray t)) := by
  have hg := h.grow ((Chg.refl [] w).alloc (.cells vs.toArray t))
  have hne : ∀ j x, look σ.bx j = some x → j ≠ i := fun j x hj e => by rw [e, hi] at hj; cases hj
  have hK : ∀ ks, Keeps2 C L { L with bb := fun j => if j = i then w.heap.size else L.bb j } (w.alloc (.cells vs.toArray t)) (w.alloc (.cells vs.toArray t)) ks := fun ks => ⟨fun k _ => ⟨rfl, rfl, fun b _ hb => rfl⟩, fun b hb _ => rfl⟩
  exact {
    df := h.df, sz := h.sz
    tm := fun j v hv => sv_conv (hK _) (fun b hb => by
      have h1 := h.lb b (tb_tm hv b hb)
      obtain ⟨x, hx⟩ := Option.isSome_iff_exists.1 h1
      simp [hne b x hx]) (hg.tm j v hv)
    bx := fun j t' cs' hx => by
      simp only [look_cons] at hx
      split at hx
      · rename_i e
        simp only [Option.some.injEq, Prod.mk.injEq] at hx
        obtain ⟨rfl, rfl⟩ := hx
        subst e
        refine ⟨vs, by simpa using heap_alloc_new w (.cells vs.toArray t), cvL_conv (L := L) ⟨fun k _ => ⟨rfl, rfl, fun b _ hb => Below.heap_alloc w _ b hb⟩, fun b hb _ => Below.heap_alloc w _ b (Nat.lt_of_lt_of_le hb h.chg.size)⟩ hv⟩
      · rename_i e
        obtain ⟨us, h1, h2⟩ := hg.bx j t' cs' hx
        exact ⟨us, by simpa [e] using h1, cvL_conv (hK _) h2⟩
    ks := hg.ks
    b1 := fun j x hx => by
      simp only [look_cons] at hx
      split at hx
      · rename_i e; simp only [e, if_true]; exact .inl h.chg.size
      · rename_i e; simp only [e, if_false]; exact h.b1 j x hx
    k1 := h.k1, kn := h.kn
    bb := fun j l x y hx hy hjl => by
      simp only [look_cons] at hx hy
      split at hx <;> split at hy
      · rename_i e1 e2; exact absurd (e1.trans e2.symm) hjl
      · rename_i e1 e2; simp only [e1, e2, if_true, if_false]; have := h.bx_lt hy; omega
      · rename_i e1 e2; simp only [e1, e2, if_true, if_false]; have := h.bx_lt hx; omega
      · rename_i e1 e2; simp only [e1, e2, if_false]; exact h.bb j l x y hx hy hjl
    bk := fun j k x c hx hc => by
      simp only [look_cons] at hx
      split at hx
      · rename_i e
        simp only [e, if_true]
        intro hm
        have := h.k_lt hc _ hm
        omega
      · rename_i e; simp only [e, if_false]; exact h.bk j k x c hx hc
    kk := h.kk
    lk := fun k hm => by
      simp only [St.tk, List.flatMap_cons, List.mem_append] at hm
      rcases hm with hm | hm | hm
      · exact h.lk k (by simp only [St.tk, List.mem_append]; exact .inl hm)
      · exact hk k hm
      · exact h.lk k (by simp only [St.tk, List.mem_append]; exact .inr hm)
    lb := fun b hm => by
      have h1 := h.lb b hm
      simp only [look_cons]
      split
      · rfl
      · exact h1
    s0 := h.s0
    chg := hg.chg }
/-- a new key -/
theorem Rel.newkey (h : Rel P C nt L σ a w) {k : Nat} {c : KC} {v : Value} {f : List Nat} (hk : lkk σ k = none) (ho : Own w (.sl c.e c.sz c.n c.cs) v f) (hh : c.h = false) (hn : f.Nodup) (hf : ∀ b ∈ f, fresh C b)
    (h1 : ∀ b ∈ f, ∀ i x, look σ.bx i = some x → L.bb i ≠ b) (h2 : ∀ b ∈ f, ∀ j d, lkk σ j = some d → b ∉ L.fp j) :
    Rel P C nt { L with fp := fun j => if j = k then f else L.fp j, rv := fun j => if j = k then v else L.rv j } { σ with ks := (k, some c) :: σ.ks } a w := by
  have hl : ∀ j, lkk { σ with ks := (k, some c) :: σ.ks } j = if j = k then some c else lkk σ j := fun j => by
    simp only [lkk, look_cons]; split <;> rfl
  have hne : ∀ j, (lkk σ j).isSome = true → j ≠ k := fun j hj e => by rw [e, hk] at hj; cases hj
  have hK : ∀ ks, (∀ j ∈ ks, (lkk σ j).isSome = true) → Keeps2 C L { L with fp := fun j => if j = k then f else L.fp j, rv := fun j => if j = k then v else L.rv j } w w ks := fun ks hs =>
    ⟨fun j hj => ⟨by simp [hne j (hs j hj)], by simp [hne j (hs j hj)], fun b _ hb => rfl⟩, fun b hb _ => rfl⟩
  exact {
    df := h.df, sz := h.sz
    tm := fun j u hu => sv_conv (hK _ (fun l hl => h.lk l (tk_tm hu l hl))) (fun b hb => rfl) (h.tm j u hu)
    bx := fun j t cs hx => by
      obtain ⟨us, h3, h4⟩ := h.bx j t cs hx
      exact ⟨us, h3, cvL_conv (hK _ (fun l hl => h.lk l (tk_bx hx l hl))) h4⟩
    ks := fun j d hd => by
      rw [hl] at hd
      split at hd
      · rename_i e
        simp only [Option.some.injEq] at hd; subst hd
        simp only [e, if_true]
        exact ⟨ho, fun hc => by rw [hh] at hc; cases hc⟩
      · rename_i e; simp only [e, if_false]; exact h.ks j d hd
    b1 := h.b1
    k1 := fun j d hd => by
      rw [hl] at hd
      split at hd
      · rename_i e; simp only [e, if_true]; exact hf
      · rename_i e; simp only [e, if_false]; exact h.k1 j d hd
    kn := fun j d hd => by
      rw [hl] at hd
      split at hd
      · rename_i e; simp only [e, if_true]; exact hn
      · rename_i e; simp only [e, if_false]; exact h.kn j d hd
    bb := h.bb
    bk := fun i j x d hx hd => by
      rw [hl] at hd
      split at hd
      · rename_i e; simp only [e, if_true]; exact fun hm => h1 _ hm i x hx rfl
      · rename_i e; simp only [e, if_false]; exact h.bk i j x d hx hd
    kk := fun i j x y hx hy hij => by
      rw [hl] at hx hy
      split at hx <;> split at hy
      · rename_i e1 e2; exact absurd (e1.trans e2.symm) hij
      · rename_i e1 e2; simp only [e1, e2, if_true, if_false]; exact fun b hb => h2 b hb j y hy
      · rename_i e1 e2; simp only [e1, e2, if_true, if_false]; exact fun b hb hb' => h2 b hb' i x hx hb
      · rename_i e1 e2; simp only [e1, e2, if_false]; exact h.kk i j x y hx hy hij
    lk := fun j hj => by
      rw [hl]
      split
      · rfl
      · exact h.lk j hj
    lb := h.lb
    s0 := h.s0
    chg := h.chg }
/-- a new key, all of whose blocks are younger than all else -/
theorem Rel.newkey' {w' : World} (h : Rel P C nt L σ a w) (hc : Chg [] w w') {k : Nat} {c : KC} {v : Value} {f : List Nat} (hk : lkk σ k = none) (ho : Own w' (.sl c.e c.sz c.n c.cs) v f) (hh : c.h = false) (hn : f.Nodup) (hf : ∀ b ∈ f, w.heap.size ≤ b) :
    Rel P C nt { L with fp := fun j => if j = k then f else L.fp j, rv := fun j => if j = k then v else L.rv j } { σ with ks := (k, some c) :: σ.ks } a w' :=
  (h.grow hc).newkey hk ho hh hn (fun b hb => .inl (Nat.le_trans h.chg.size (hf b hb)))
    (fun b hb i x hx e => by have := h.bx_lt hx; have := hf b hb; omega)
    (fun b hb j d hd hm => by have := h.k_lt hd b hm; have := hf b hb; omega)
/-- a box is written -/
theorem Rel.setbox (h : Rel P C nt L σ a w) {i : Nat} {t : TypeId} {cs : List CV} {vs : List Value} {w' : World} {x : List CV} (hi : look σ.bx i = some (t, x)) (hc : Chg [L.bb i] w w')
    (hw : w'.heap[L.bb i]? = some (.cells vs.toArray t (0, 0))) (hv : CVL C L w cs vs) (hk : ∀ k ∈ cs.flatMap CV.keys, (lkk σ k).isSome = true) :
    Rel P C nt L { σ with bx := (i, t, cs) :: σ.bx } a w' := by
  have hK : ∀ ks, (∀ j ∈ ks, (lkk σ j).isSome = true) → Keeps2 C L L w w' ks := fun ks hs =>
    ⟨fun j hj => ⟨rfl, rfl, fun b hb hlt => hc.block b hlt (by
      obtain ⟨d, hd⟩ := Option.isSome_iff_exists.1 (hs j hj)
      have := h.bk i j _ d hi hd
      simp only [List.mem_singleton]
      rintro rfl
      exact this hb)⟩, fun b hb hs0 => hc.block b (Nat.lt_of_lt_of_le hb h.chg.size) (by
      have := h.b1 i _ hi
      simp only [List.mem_singleton]
      rintro rfl
      rcases this with h1 | h1
      · omega
      · exact hs0 h1)⟩
  exact {
    df := h.df, sz := h.sz
    tm := fun j u hu => sv_conv (hK _ (fun l hl => h.lk l (tk_tm (σ := σ) hu l hl))) (fun b hb => rfl) (h.tm j u hu)
    bx := fun j t' cs' hx => by
      simp only [look_cons] at hx
      split at hx
      · rename_i e
        simp only [Option.some.injEq, Prod.mk.injEq] at hx
        obtain ⟨rfl, rfl⟩ := hx
        subst e
        exact ⟨vs, hw, cvL_conv (hK _ hk) hv⟩
      · rename_i e
        obtain ⟨us, h3, h4⟩ := h.bx j t' cs' hx
        exact ⟨us, (hc.block _ (heap_lt h3) (by simpa using h.bb j i _ _ hx hi e)).trans h3, cvL_conv (hK _ (fun l hl => h.lk l (tk_bx hx l hl))) h4⟩
    ks := fun j d hd => ⟨own_keep _ _ _ (h.ks j d hd).1 (fun b hb => (hK [j] (by intro l hl; simp only [List.mem_singleton] at hl; subst hl; exact Option.isSome_iff_exists.2 ⟨d, hd⟩)).key j (by simp) |>.2.2 b hb (h.k_lt hd b hb)), (h.ks j d hd).2⟩
    b1 := fun j x' hx => by
      simp only [look_cons] at hx
      split at hx
      · rename_i e; rw [e]; exact h.b1 i _ hi
      · exact h.b1 j _ hx
    k1 := h.k1, kn := h.kn
    bb := fun j l x' y' hx hy hjl => by
      have hh : ∀ j x', look ((i, t, cs) :: σ.bx) j = some x' → ∃ z, look σ.bx j = some z := fun j x' hx => by
        simp only [look_cons] at hx
        split at hx
        · rename_i e; exact ⟨_, by rw [e]; exact hi⟩
        · exact ⟨_, hx⟩
      obtain ⟨z1, hz1⟩ := hh j x' hx
      obtain ⟨z2, hz2⟩ := hh l y' hy
      exact h.bb j l z1 z2 hz1 hz2 hjl
    bk := fun j k x' c hx hcc => by
      simp only [look_cons] at hx
      split at hx
      · rename_i e; rw [e]; exact h.bk i k _ c hi hcc
      · exact h.bk j k _ c hx hcc
    kk := h.kk
    lk := fun k hm => by
      simp only [St.tk, List.flatMap_cons, List.mem_append] at hm
      rcases hm with hm | hm | hm
      · exact h.lk k (by simp only [St.tk, List.mem_append]; exact .inl hm)
      · exact hk k hm
      · exact h.lk k (by simp only [St.tk, List.mem_append]; exact .inr hm)
    lb := fun b hm => by
      have h1 := h.lb b hm
      simp only [look_cons]
      split
      · rfl
      · exact h1
    s0 := h.s0
    chg := h.chg.andThen hc (fun x hx => by
      simp only [List.mem_singleton] at hx
      subst hx
      exact (h.b1 i _ hi).symm) }
/-- the entries of one list stand in another -/
def SubL {α : Type} : List (Nat × α) → List (Nat × α) → Prop
  | [], _ => True
  | (i, v) :: l', l => look l i = some v ∧ SubL l' l
theorem SubL.look {α : Type} : ∀ {l' l : List (Nat × α)}, SubL l' l → ∀ i v, look l' i = some v → look l i = some v
  | [], _, _, i, v, h => by cases h
  | (k, u) :: l', l, ⟨h1, h2⟩, i, v, h => by
    rw [look_cons] at h
    split at h
    · rename_i e; simp only [Option.some.injEq] at h; subst h; rw [e]; exact h1
    · exact SubL.look h2 i v h
/-- what is spoken of is there -/
def St.okB (σ : St) : Bool := (σ.tk.all fun k => (lkk σ k).isSome) && (σ.tb.all fun b => (look σ.bx b).isSome)
theorem Rel.weak (h : Rel P C nt L σ a w) {σ' : St} (h1 : SubL σ'.tm σ.tm) (h2 : SubL σ'.bx σ.bx) (h3 : SubL σ'.ks σ.ks) (h4 : σ'.okB = true) : Rel P C nt L σ' a w := by
  simp only [St.okB, Bool.and_eq_true, List.all_eq_true] at h4
  have hl : ∀ k c, lkk σ' k = some c → lkk σ k = some c := fun k c hc => by
    simp only [lkk] at hc ⊢
    cases hx : look σ'.ks k with
    | none => rw [hx] at hc; cases hc
    | some x => rw [hx] at hc; rw [h3.look k x hx]; exact hc
  exact {
    df := h.df, sz := h.sz
    tm := fun i v hv => h.tm i v (h1.look i v hv)
    bx := fun i t cs hx => h.bx i t cs (h2.look i _ hx)
    ks := fun k c hc => h.ks k c (hl k c hc)
    b1 := fun i x hx => h.b1 i x (h2.look i _ hx)
    k1 := fun k c hc => h.k1 k c (hl k c hc)
    kn := fun k c hc => h.kn k c (hl k c hc)
    bb := fun i j x y hx hy => h.bb i j x y (h2.look i _ hx) (h2.look j _ hy)
    bk := fun i k x c hx hc => h.bk i k x c (h2.look i _ hx) (hl k c hc)
    kk := fun k j c d hc hd => h.kk k j c d (hl k c hc) (hl j d hd)
    lk := h4.1, lb := h4.2
    s0 := h.s0, chg := h.chg }
end
end Go.Proofs.Ytbmgommbmhmbgaa
