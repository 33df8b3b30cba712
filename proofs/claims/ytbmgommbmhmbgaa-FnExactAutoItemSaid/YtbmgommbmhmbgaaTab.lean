/-
  A table of the types that the program's code names, held against the program.
-/
import Derived.Test.YtbmgommbmhmbgaaCall
namespace Go.Proofs.Ytbmgommbmhmbgaa
open Go.RowKit

/-- slices: their elements' types; structs and arrays: their cells; types of one cell; offsets of fields (1000 s + f); cells, bytes and zero cells; strings; bools -/
structure TT where
  sl : List (Nat × Nat)
  ag : List (Nat × Nat)
  on : List (Nat × Unit)
  of : List (Nat × Nat)
  el : List (Nat × (Nat × Nat × List CV))
  st : List (Nat × Unit)
  bo : List (Nat × Unit)
  it : List (Nat × IntKind)
def zB : Value → CV → Bool
  | .int k n, .dv [] (.int k' n') => decide (k = k') && decide (n = n') && decide (k.min ≤ n ∧ n ≤ k.max)
  | .bool b, .dv [] (.bool b') => b == b'
  | .string s, .dv [] (.str s') => decide (s = s') && decide (s.size ≤ 9223372036854775807)
  | .slice none 0 0, .nil => true
  | _, _ => false
def zL : List Value → List CV → Bool
  | [], [] => true
  | v :: vs, c :: cs => zB v c && zL vs cs
  | _, _ => false
theorem zB_cv {C : Ctx} {L : Lyt} {w : World} {v : Value} {c : CV} (h : zB v c = true) : CVr C L w c v ∧ c.keys = [] ∧ v.oneCell' = true := by
  unfold zB at h
  split at h
  · simp only [Bool.and_eq_true, decide_eq_true_eq] at h
    obtain ⟨⟨rfl, rfl⟩, h⟩ := h
    exact ⟨by unfold CVr Lay; exact ⟨rfl, h⟩, rfl, rfl⟩
  · simp only [beq_iff_eq] at h
    subst h
    exact ⟨by simp only [CVr, Lay], rfl, rfl⟩
  · simp only [Bool.and_eq_true, decide_eq_true_eq] at h
    obtain ⟨rfl, h⟩ := h
    exact ⟨by unfold CVr Lay; exact ⟨rfl, h⟩, rfl, rfl⟩
  · exact ⟨by simp only [CVr], rfl, rfl⟩
  · cases h
theorem zL_cv {C : Ctx} {L : Lyt} {w : World} : ∀ {vs : List Value} {cs : List CV}, zL vs cs = true → CVL C L w cs vs ∧ cs.flatMap CV.keys = [] ∧ ∀ u ∈ vs, u.oneCell' = true
  | [], [], _ => ⟨rfl, rfl, by simp⟩
  | [], _ :: _, h => by cases h
  | _ :: _, [], h => by cases h
  | v :: vs, c :: cs, h => by
    simp only [zL, Bool.and_eq_true] at h
    obtain ⟨h1, h2, h3⟩ := zB_cv (C := C) (L := L) (w := w) h.1
    obtain ⟨k1, k2, k3⟩ := zL_cv (C := C) (L := L) (w := w) h.2
    refine ⟨⟨v, vs, rfl, h1, k1⟩, by simp [h2, k2], fun u hu => ?_⟩
    rcases List.mem_cons.1 hu with rfl | hu
    · exact h3
    · exact k3 u hu
def TT.check (T : TT) (P : Program) : Bool :=
  (T.sl.all fun p => match P.underlying p.1 with | some (.slice e) => e == p.2 | _ => false) &&
  (T.ag.all fun p => match P.underlying p.1, P.info? p.1 with | some d, some i => aggB d && i.size == p.2 | _, _ => false) &&
  (T.on.all fun p => match P.underlying p.1 with | some d => !aggB d | _ => false) &&
  (T.of.all fun p => match P.underlying (p.1 / 1000) with
    | some (.struct fs) => (match fs[p.1 % 1000]? with | some fd => fd.offset == p.2 && (match P.info? fd.type with | some i => i.size != 0 | none => false) | none => false)
    | _ => false) &&
  (T.el.all fun p => match P.info? p.1 with | some i => i.size == p.2.1 && i.bytes == p.2.2.1 && (match i.zero with | some z => zL z.cells.toList p.2.2.2 | none => false) | none => false) &&
  (T.st.all fun p => match P.underlying p.1 with | some .string => true | _ => false) &&
  (T.bo.all fun p => match P.underlying p.1 with | some .bool => true | _ => false) &&
  (T.it.all fun p => match P.underlying p.1 with | some (.int k) => decide (k = p.2) | _ => false) &&
  (T.el.all fun p => Nat.blt p.1 1000000)
structure TTOk (P : Program) (T : TT) : Prop where
  sl : ∀ t e, look T.sl t = some e → P.underlying t = some (.slice e)
  ag : ∀ t n, look T.ag t = some n → AggT P t n
  on : ∀ t u, look T.on t = some u → ∃ d, P.underlying t = some d ∧ aggB d = false
  of : ∀ s f o, look T.of (1000 * s + f) = some o → f < 1000 → ∃ fs fd i, P.underlying s = some (.struct fs) ∧ fs[f]? = some fd ∧ fd.offset = o ∧ P.info? fd.type = some i ∧ i.size ≠ 0
  el : ∀ t sz by_ cs, look T.el t = some (sz, by_, cs) → ∃ i z, P.info? t = some i ∧ i.size = sz ∧ i.bytes = by_ ∧ i.zero = some z ∧ zL z.cells.toList cs = true
  st : ∀ t u, look T.st t = some u → P.underlying t = some .string
  bo : ∀ t u, look T.bo t = some u → P.underlying t = some .bool
  it : ∀ t k, look T.it t = some k → P.underlying t = some (.int k)
  lt : ∀ t x, look T.el t = some x → t < 1000000
theorem TT.ok {P : Program} {T : TT} (h : T.check P = true) : TTOk P T := by
  simp only [TT.check, Bool.and_eq_true, List.all_eq_true] at h
  obtain ⟨⟨⟨⟨⟨⟨⟨⟨h1, h2⟩, h3⟩, h4⟩, h5⟩, h6⟩, h7⟩, h8⟩, h9⟩ := h
  refine ⟨fun t e hl => ?_, fun t n hl => ?_, fun t u hl => ?_, fun s f o hl hf => ?_, fun t sz by_ cs hl => ?_, fun t u hl => ?_, fun t u hl => ?_, fun t k hl => ?_, fun t x hl => by have := h9 _ (look_mem hl); simpa [Nat.blt_eq] using this⟩
  · have := h1 _ (look_mem hl)
    dsimp only at this
    split at this
    · rename_i e' he; rw [he]; simp only [beq_iff_eq] at this; rw [this]
    · cases this
  · have := h2 _ (look_mem hl)
    dsimp only at this
    split at this
    · rename_i d i hd hi
      simp only [Bool.and_eq_true, beq_iff_eq] at this
      exact ⟨⟨d, hd, this.1⟩, by simp [hi, this.2]⟩
    · cases this
  · have := h3 _ (look_mem hl)
    dsimp only at this
    split at this
    · rename_i d hd; exact ⟨d, hd, by simpa using this⟩
    · cases this
  · have := h4 _ (look_mem hl)
    dsimp only at this
    rw [show (1000 * s + f) / 1000 = s by omega, show (1000 * s + f) % 1000 = f by omega] at this
    split at this
    · rename_i fs hfs
      split at this
      · rename_i fd hfd
        simp only [Bool.and_eq_true, beq_iff_eq] at this
        obtain ⟨g1, g2⟩ := this
        split at g2
        · rename_i i hi; exact ⟨fs, fd, i, hfs, hfd, g1, hi, by simpa using g2⟩
        · cases g2
      · cases this
    · cases this
  · have := h5 _ (look_mem hl)
    dsimp only at this
    split at this
    · rename_i i hi
      simp only [Bool.and_eq_true, beq_iff_eq] at this
      obtain ⟨⟨g1, g2⟩, g3⟩ := this
      split at g3
      · rename_i z hz; exact ⟨i, z, hi, g1, g2, hz, g3⟩
      · cases g3
    · cases this
  · have := h6 _ (look_mem hl)
    dsimp only at this
    split at this
    · assumption
    · cases this
  · have := h7 _ (look_mem hl)
    dsimp only at this
    split at this
    · assumption
    · cases this
  · have := h8 _ (look_mem hl)
    dsimp only at this
    split at this
    · rename_i k' hk; rw [hk]; simp only [decide_eq_true_eq] at this; rw [this]
    · cases this
end Go.Proofs.Ytbmgommbmhmbgaa
