/-
  strings.Compare, taken over into the abstract logic.
-/
import Derived.Test.YtbmgommbmhmbgaaBr
import Derived.Test.YtbmgommbmhmbgaaTyp
import Derived.WalkKit
import Derived.Lib.Strings
import Derived.Lib.Slices
import Derived.Lib.Walk
import Derived.Lib.Bytealg
namespace Go.Proofs.Ytbmgommbmhmbgaa
open Go.RowKit
open Go.Proofs
set_option linter.unusedVariables false
set_option linter.unusedSimpArgs false

set_option maxHeartbeats 1000000 in
set_option maxRecDepth 100000 in
theorem w_CompareString (a b : ByteArray) (w : World) :
    Calls Try.prog 104 #[.string a, .string b] w fun e w' => e = .returned (.int .i64 (Lib.compareBytes a.data.toList b.data.toList)) ∧ w' = w := by
  go_enter Try.func104, Try.ntmps104
  go_wp2
  rw [run_callFunc_extern Try.func107 (by kernel_rfl) (by kernel_rfl) (by kernel_rfl) (e := Extern.BytealgCompare.compare) (by kernel_rfl), Lib.run_compareString]
  simp only [Result.andThen]
  rw [Oper.upon_value]
  go_wp2
  go_ret
  exact ⟨rfl, rfl⟩
set_option maxHeartbeats 1000000 in
theorem w_Compare (a b : ByteArray) (w : World) :
    Calls Try.prog 88 #[.string a, .string b] w fun e w' => e = .returned (.int .i64 (Lib.compareBytes a.data.toList b.data.toList)) ∧ w' = w := by
  go_enter Try.func88, Try.ntmps88
  go_wp2_with (go_at_call 104; refine (w_CompareString _ _ _).mono ?_; rintro e w' ⟨rfl, rfl⟩)
  go_ret
  exact ⟨rfl, rfl⟩
/-- the sign of a comparison -/
def sgnS (a b : Str) : Int := if sLt a b then -1 else if sLt b a then 1 else 0
theorem sgn_list : ∀ x y : List UInt8, Lib.compareBytes x y = if Op.bytesLess x y then -1 else if Op.bytesLess y x then 1 else 0
  | [], [] => rfl
  | [], _ :: _ => rfl
  | _ :: _, [] => rfl
  | a :: x, b :: y => by
    have ih := sgn_list x y
    have e1 : ∀ a b : UInt8, (a < b) ↔ a.toNat < b.toNat := fun _ _ => Iff.rfl
    simp only [Lib.compareBytes, Op.bytesLess]
    rcases Nat.lt_trichotomy a.toNat b.toNat with h | h | h
    · simp [(e1 a b).2 h]
    · have e : a = b := UInt8.toNat_inj.1 h
      subst e
      have : ¬ a < a := by rw [e1]; omega
      simp [this, ih]
    · have h2 : ¬ a < b := by rw [e1]; omega
      have h3 : ¬ a = b := by rintro rfl; omega
      have h4 : ¬ b = a := fun e => h3 e.symm
      simp [(e1 b a).2 h, h2, h3]
theorem toList_loop (s : ByteArray) : ∀ (n i : Nat) (r : List UInt8), s.size - i = n → ByteArray.toList.loop s i r = r.reverse ++ s.data.toList.drop i := by
  intro n
  induction n with
  | zero =>
    intro i r h
    rw [ByteArray.toList.loop, if_neg (by omega), List.drop_eq_nil_of_le (by have : s.data.toList.length = s.size := rfl; omega)]; simp
  | succ n ih =>
    intro i r h
    have hl : s.data.toList.length = s.size := rfl
    have hi : i < s.data.toList.length := by omega
    rw [ByteArray.toList.loop, if_pos (by omega), ih (i + 1) _ (by omega), List.drop_eq_getElem_cons hi]
    have : s.get! i = s.data.toList[i] := by
      rw [ByteArray.get!]
      simp only [Array.getElem_toList]
      exact getElem!_pos s.data i (by simpa using hi)
    rw [this]
    simp
theorem toList_data (s : ByteArray) : s.toList = s.data.toList := by
  rw [ByteArray.toList, toList_loop s _ 0 [] rfl]; simp
theorem sgn_str (a b : ByteArray) : Lib.compareBytes a.data.toList b.data.toList = sgnS a b := by
  rw [sgn_list, sgnS, sLt, sLt, toList_data, toList_data]
theorem ok_strings_Compare {x y : Str} : PFn Try.prog 88 [.one (.dv [] (.str x)), .one (.dv [] (.str y))] (.one (.dv [] (.int .i64 (sgnS x y)))) := by
  refine pfn_ret (v := .int .i64 (sgnS x y)) rfl (fun C L w => ?_) (fun w vals hl h => ?_)
  · simp only [SVr, CVr, Lay]
    refine ⟨trivial, ?_⟩
    unfold sgnS
    split
    · exact ⟨by decide, by decide⟩
    · split <;> exact ⟨by decide, by decide⟩
  · obtain ⟨C, L, h⟩ := h
    obtain ⟨u, h1, h2⟩ := h 0 _ rfl
    obtain ⟨v, h3, h4⟩ := h 1 _ rfl
    simp only [SVr, CVr, Lay] at h2 h4
    obtain ⟨rfl, _⟩ := h2
    obtain ⟨rfl, _⟩ := h4
    obtain rfl : vals = [.string x, .string y] := by
      match vals, hl with
      | [a, b], _ => simp at h1 h3; rw [h1, h3]
    refine (w_Compare x y w).mono ?_
    rintro e w' ⟨rfl, rfl⟩
    exact ⟨by rw [sgn_str], Chg.refl _ _⟩
end Go.Proofs.Ytbmgommbmhmbgaa
