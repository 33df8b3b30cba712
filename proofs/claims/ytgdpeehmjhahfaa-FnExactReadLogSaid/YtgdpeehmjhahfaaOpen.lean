/-
  From the row's reading of an argument to a codec's: what came in as data of a type reads as a term of the codec.
-/
import Derived.Test.YtgdpeehmjhahfaaLaws
import Derived.ProofKit
import Derived.OpenShut
import Derived.Deep.Slices
namespace Go.Proofs.Ytgdpeehmjhahfaa
open Go.RowKit Go.ChangeShapes Go.WideShapes Go.Deep

/-- whatever reads as data of type t reads as a term of the codec -/
def Opens {α : Type} (P : Program) (C : Cod α) (t : TypeId) : Prop :=
  ∀ {H : Type} (enc : TypeId × Value → H) (W : World) (base : Nat) (spare : Nat → Bool) (held : Bool) (fuel : Nat) (cs : List Value) (y : DataW H × List MemPlace),
    DataW.trod enc P W base spare held fuel t cs = some y → ∃ x, C.Rd W W.heap.size x cs

theorem opens_int {P : Program} {t : TypeId} (ht : P.underlying t = some (.int .i64)) : Opens P intC t := by
  intro H enc W base spare held fuel cs y h
  obtain ⟨n, rfl, _, hw⟩ := DataW.trod_int ht h
  have hb : -9223372036854775808 ≤ n ∧ n ≤ 9223372036854775807 := by simpa [Lit.wf, IntKind.min, IntKind.max, IntKind.signed, IntKind.bits] using hw
  exact ⟨n, rfl, hb⟩
theorem opens_byte {P : Program} {t : TypeId} (ht : P.underlying t = some (.int .u8)) : Opens P byteC t := by
  intro H enc W base spare held fuel cs y h
  obtain ⟨n, rfl, _, hw⟩ := DataW.trod_int ht h
  have hb : 0 ≤ n ∧ n ≤ 255 := by simpa [Lit.wf, IntKind.min, IntKind.max, IntKind.signed, IntKind.bits] using hw
  refine ⟨UInt8.ofNat n.toNat, ?_⟩
  have e : ((UInt8.ofNat n.toNat).toNat : Int) = n := by
    rw [UInt8.toNat_ofNat']
    have : n.toNat % 2 ^ 8 = n.toNat := Nat.mod_eq_of_lt (by omega)
    rw [this]; omega
  show [Value.int .u8 n] = [Value.int .u8 _]
  rw [e]
theorem opens_str {P : Program} {t : TypeId} (ht : P.underlying t = some .string) : Opens P strC t := by
  intro H enc W base spare held fuel cs y h
  obtain ⟨s, rfl, _, hs⟩ := DataW.trod_string ht h
  exact ⟨s, rfl, by simpa [maxLen] using hs⟩

theorem all_append {α : Type} {r : α → List Value → Prop} : ∀ (xs ys : List α) (c1 c2 : List Value), AllR r xs c1 → AllR r ys c2 → AllR r (xs ++ ys) (c1 ++ c2)
  | [], _, _, _, h1, h2 => by rw [show _ = _ from h1]; exact h2
  | x :: xs, ys, _, c2, ⟨a1, a2, e, h1, h2⟩, hy => ⟨a1, a2 ++ c2, by rw [e, List.append_assoc], h1, all_append xs ys a2 c2 h2 hy⟩
theorem all_points {α : Type} {r : α → List Value → Prop} {size : Nat} {f : Nat → Option Value} (hr : ∀ x c, r x c → c.length = size) : ∀ n : Nat,
    (∀ i, i < n → ∃ x ci, r x ci ∧ ∀ j, j < size → f (i * size + j) = ci[j]?) → ∃ xs cells, xs.length = n ∧ AllR r xs cells ∧ ∀ j u, cells[j]? = some u → f j = some u
  | 0, _ => ⟨[], [], rfl, rfl, by simp⟩
  | n + 1, h => by
    obtain ⟨xs, cells, h1, h2, h3⟩ := all_points hr n (fun i hi => h i (by omega))
    obtain ⟨x, ci, g1, g2⟩ := h n (by omega)
    have hl := AllR.len hr _ _ h2
    have hci := hr _ _ g1
    refine ⟨xs ++ [x], cells ++ ci, by simp [h1], all_append _ _ _ _ h2 ⟨ci, [], by simp, g1, rfl⟩, fun j u hu => ?_⟩
    rcases Nat.lt_or_ge j cells.length with hj | hj
    · rw [List.getElem?_append_left hj] at hu; exact h3 j u hu
    · rw [List.getElem?_append_right hj] at hu
      have hjs : j - cells.length < size := by rw [← hci]; exact (List.getElem?_eq_some_iff.1 hu).1
      have := g2 (j - cells.length) hjs
      rw [show n * size + (j - cells.length) = j by rw [hl, h1] at *; omega] at this
      rw [this, hu]

theorem opens_slice {α : Type} {P : Program} {C : Cod α} {t e e' : TypeId} (ht : P.underlying t = some (.slice e)) (hc : P.cellsOf e = C.size) (he : Opens P C e) : Opens P (sliceC e' C) t := by
  intro H enc W base spare held fuel cs y h
  rcases open_slice ht h with ⟨rfl, _⟩ | ⟨a, len, cap, m, n, D, Pl, rfl, _, hl, hm, hmm, _, hi⟩
  · exact ⟨[], none, 0, [], rfl, Nat.le_refl _, by simp [maxLen], rfl, fun h => by simp at h⟩
  · have hlm : len ≤ m := by rw [hmm]; split <;> omega
    obtain ⟨xs, cells, h1, h2, h3⟩ := all_points (r := C.Rd W W.heap.size) (size := C.size) (f := fun j => W.cell? (a.add j)) (fun _ _ hr => C.rd_len hr) len (fun i hil => by
      obtain ⟨cs', hc1, hc2⟩ := hi i (by omega)
      obtain ⟨x, hx⟩ := he enc W base spare held n cs' _ hc2
      obtain ⟨_, hcl, hat⟩ := World.cells?_some hc1
      refine ⟨x, cs', hx, fun j hj => ?_⟩
      have := hat j (by rw [hc]; exact hj)
      rw [← Go.Deep.add_add, hc] at *
      exact this)
    refine ⟨xs, some a, cap, cells, by rw [h1], by omega, hm, h2, fun hp => ?_⟩
    have hcl : 0 < cells.length := by
      rw [AllR.len (n := C.size) (fun _ _ hr => C.rd_len hr) _ _ h2]
      exact Nat.mul_pos hp C.pos
    have h0 := h3 0 _ (List.getElem?_eq_getElem hcl)
    have ha0 : a.add 0 = a := by simp [Addr.add]
    simp only [ha0] at h0
    have hsp : a.spot = none := by
      cases hs : a.spot with
      | none => rfl
      | some s =>
        unfold World.cell? at h0
        split at h0
        · simp [hs] at h0
        · cases h0
    obtain ⟨b, off, sp⟩ := a
    simp only at hsp
    subst hsp
    refine ⟨b, off, rfl, World.block_lt_of_cell? W _ h0, fun j u hu => ?_⟩
    have := h3 j u hu
    simp only [add_row] at this
    exact this

/-- a struct of two parts, the second from an offset on -/
theorem opens_at {α : Type} {P : Program} {C : Cod α} {t : TypeId} (he : Opens P C t) : Opens P C t := he
end Go.Proofs.Ytgdpeehmjhahfaa
