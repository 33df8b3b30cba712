/-
  copyBytes, and words for slices of bytes: as rows, their heads.
-/
import Derived.Test.YtgdpeehmjhahfaaBytes
namespace Go.Proofs.Ytgdpeehmjhahfaa
open Go.RowKit
open Go.Proofs
theorem own_new {α : Type} {e : TypeId} {C : Cod α} {w : World} {k : Nat} (hk : k = w.heap.size) : (sliceC e C).Own (w.alloc (.cells #[] e)) [] [.slice (some ⟨k, 0, none⟩) 0 0] [k] :=
  ⟨_, [], [], rfl, rfl, own_empty (heap_alloc_eq hk), rfl, rfl⟩

/-- a reading slice of bytes, as a row and as owned cells -/
theorem bytes_row {w : World} {bs : List UInt8} {A : Option Addr} {n c : Nat} (h : bytesC.Rd w w.heap.size bs [.slice A n c]) :
    n = bs.length ∧ n ≤ c ∧ c ≤ maxLen ∧ RowRd w A n 1 (bs.map byteV) ∧ (0 < n → ∃ b off, A = some ⟨b, off, none⟩ ∧ b < w.heap.size) := by
  obtain ⟨h1, h2, h3, cells, h4, h5, h6⟩ := rd_row h
  have : ∀ (bs : List UInt8) cells, AllR (byteC.Rd w w.heap.size) bs cells → cells = bs.map byteV := by
    intro bs
    induction bs with
    | nil => intro cells h; exact h
    | cons b bs ih => intro cells h; obtain ⟨c1, c2, e, g1, g2⟩ := h; rw [e, ih _ g2]; rw [show c1 = [.int .u8 (b.toNat : Int)] from g1]; rfl
  rw [this _ _ h4] at h5
  exact ⟨h1, h2, h3, h5, h6⟩

set_option maxHeartbeats 400000 in
theorem impl_copyBytes (w : World) (bs : List UInt8) (A : Option Addr) (n c : Nat) (hr : bytesC.Rd w w.heap.size bs [.slice A n c]) (hsz : n ≤ 1073741824) :
    Calls Try.prog 28 #[.slice A n c] w (RetV bytesC bs w) := by
  obtain ⟨hl, _, _, hrow, hlt⟩ := bytes_row hr
  have HL := Lib.hid hl
  clear hl hr
  go_enter Try.func28, Try.ntmps28
  go_wp2_with (first | (at_builtin; refine wpList_push byteC _ rfl _ _ _ rfl 5 _ 1 Try.underlying22 infoByte rfl _ 0 0 rfl [] [w.heap.size] (own_new (by simp)) A n c rfl bs [] (bs.map byteV) (hrow.chg hlt (Nat.le_refl _) ((Chg.refl _ _).alloc _)) (all_bytes _) HL.out (by simp) (by simp only [maxLen]; omega) (by omega) ?hk))
  case hk =>
    intro A' c' w1 fp hown hnd hfp hchg
    have H1 := Lib.hid hown
    have H2 := Lib.hid (((Chg.refl [] w).alloc _).andThen hchg (by simp))
    have H3 := Lib.hid hfp
    clear hown hchg hfp
    go_wp2
    go_ret
    exact ⟨A', n, c', fp, rfl, H1.out, ⟨hnd, fun b hb => by have h := H3.out b hb; (try simp at h); omega⟩, H2.out⟩

/-- the head of a slice that reads -/
theorem all_take {α : Type} {r : α → List Value → Prop} {n : Nat} (h : ∀ x c, r x c → c.length = n) : ∀ (xs : List α) (cs : List Value) (j : Nat), AllR r xs cs → AllR r (xs.take j) (cs.take (j * n))
  | [], cs, j, hc => by simp [AllR] at hc; simp [hc, AllR]
  | x :: xs, _, 0, _ => by simp [AllR]
  | x :: xs, _, j + 1, ⟨c1, c2, e, h1, h2⟩ => by
    refine ⟨c1, c2.take (j * n), ?_, h1, all_take h xs c2 j h2⟩
    have hl := h _ _ h1
    rw [e, List.take_append, hl, List.take_of_length_le (by rw [hl, Nat.add_mul]; omega)]
    congr 2
    rw [Nat.add_mul]; omega
theorem rd_take {α : Type} {e : TypeId} {C : Cod α} {w : World} {B : Nat} {xs : List α} {A : Option Addr} {n c : Nat} (h : (sliceC e C).Rd w B xs [.slice A n c]) (j : Nat) (hj : j ≤ n) :
    (sliceC e C).Rd w B (xs.take j) [.slice A j c] := by
  obtain ⟨A', c', cells, e1, h2, h3, h4, h5⟩ := h
  simp only [List.cons.injEq, Value.slice.injEq, and_true] at e1
  obtain ⟨rfl, rfl, rfl⟩ := e1
  have hl : (xs.take j).length = j := by simp; omega
  refine ⟨A, c, cells.take (j * C.size), by rw [hl], by omega, h3, all_take (fun _ _ hr => C.rd_len hr) _ _ j h4, fun hp => ?_⟩
  obtain ⟨b, off, e1, e2, e3⟩ := h5 (by omega)
  refine ⟨b, off, e1, e2, fun i u hu => e3 i u ?_⟩
  rw [List.getElem?_take] at hu
  split at hu
  · exact hu
  · cases hu

end Go.Proofs.Ytgdpeehmjhahfaa
