/-
  Words for the statements' walks: blocks between two numbers; a comparison of one with itself.
-/
import Derived.Test.YtgdpeehmjhahfaaBytes
namespace Go.Proofs.Ytgdpeehmjhahfaa
open Go.RowKit
open Go.Proofs
/-- blocks between two numbers, none twice -/
def Seg (lo hi : Nat) (fp : List Nat) : Prop := fp.Nodup ∧ ∀ b ∈ fp, lo ≤ b ∧ b < hi
theorem seg_of {α : Type} {C : Cod α} {w w' : World} {x : α} {cs : List Value} {fp : List Nat} (hf : Fresh w.heap.size fp) (ho : C.Own w' x cs fp) : Seg w.heap.size w'.heap.size fp :=
  ⟨hf.1, fun b hb => ⟨hf.2 b hb, C.own_lt ho b hb⟩⟩
theorem seg_off {lo hi lo' hi' : Nat} {fp fp' : List Nat} (h : Seg lo hi fp) (h' : Seg lo' hi' fp') (hd : hi ≤ lo' ∨ hi' ≤ lo) : ∀ b ∈ fp, b ∉ fp' := by
  intro b hb hb'
  have h1 := h.2 b hb
  have h2 := h'.2 b hb'
  omega
theorem seg_new {lo hi : Nat} {fp : List Nat} (h : Seg lo hi fp) {n : Nat} (hn : n ≤ lo) : ∀ b ∈ fp, b ∈ ([] : List Nat) ∨ n ≤ b := fun b hb => .inr (by have := h.2 b hb; omega)

theorem laws_eqByteS_same (w : World) (xs : List UInt8) (A : Option Addr) (n c : Nat) (B : Option Addr) (m d : Nat) (hx : bytesC.Rd w w.heap.size xs [.slice A n c]) (hy : bytesC.Rd w w.heap.size xs [.slice B m d])
    (hn : n ≤ 1073741824) (hm : m ≤ 1073741824) :
    Calls Try.prog 10 #[.slice A n c, .slice B m d] w (Ret (.bool true) w) := by
  have h := laws_eqByteS w xs xs A n c B m d hx hy hn hm
  rw [decide_eq_true rfl] at h
  exact h

end Go.Proofs.Ytgdpeehmjhahfaa
