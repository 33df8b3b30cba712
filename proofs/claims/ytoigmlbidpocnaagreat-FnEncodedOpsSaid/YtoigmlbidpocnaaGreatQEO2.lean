/-
  Contracts of the program's functions for the statements EncodedOps, by the rules of the logic. Conditions: none but those in the theorems.
-/
import Derived.Test.YtoigmlbidpocnaaGreatQEO1
set_option maxHeartbeats 4000000
set_option maxRecDepth 100000
namespace Go.Proofs.YtoigmlbidpocnaaGreat
open Go.RowKit
open Go.Proofs
set_option linter.unusedVariables false
set_option linter.unusedSimpArgs false

theorem uvL_pos (n : Nat) : 0 < (uvL n).length := by
 by_cases h : n < 128
 ·rw [uvL_lt h]; simp
 ·rw [uvL_ge h]; simp
theorem rf_small (f k acc n : Nat) (r : List UInt8) (h : n < 128) (hz : 0 < k → 0 < n) (hm : acc + n * 2 ^ (7 * k) ≤ 1000000000000) :
  rdF (f + 1) k acc (UInt8.ofNat n :: r) = some (acc + n * 2 ^ (7 * k), k + 1) := by
 have h1 : (UInt8.ofNat n).toNat = n := by simp; omega
 have h2 : n % 128 = n := Nat.mod_eq_of_lt h
 unfold rdF
 rw [h1, h2, if_pos h, if_neg (by omega)]
theorem rf_big (f k acc n : Nat) (r : List UInt8) : rdF (f + 1) k acc (UInt8.ofNat (n % 128 + 128) :: r) = rdF f (k + 1) (acc + (n % 128) * 2 ^ (7 * k)) r := by
 have h1 : (UInt8.ofNat (n % 128 + 128)).toNat = n % 128 + 128 := by simp; omega
 conv => lhs; unfold rdF
 rw [h1, if_neg (by omega), show (n % 128 + 128) % 128 = n % 128 by omega]
theorem splitP (n k : Nat) : n * 2 ^ (7 * k) = (n % 128) * 2 ^ (7 * k) + (n / 128) * 2 ^ (7 * (k + 1)) := by
 rw [show 7 * (k + 1) = 7 + 7 * k by omega, Nat.pow_add, ← Nat.mul_assoc, ← Nat.add_mul]
 congr 1
 omega
theorem rf_uv : ∀ (f k acc n : Nat) (r : List UInt8), (uvL n).length ≤ f → (0 < k → 0 < n) → acc + n * 2 ^ (7 * k) ≤ 1000000000000 →
  rdF f k acc (uvL n ++ r) = some (acc + n * 2 ^ (7 * k), k + (uvL n).length)
 | 0, k, acc, n, r, h, _, _ => by have := uvL_pos n; omega
 | f + 1, k, acc, n, r, h, hz, hm => by
  by_cases h1 : n < 128
  ·rw [uvL_lt h1, List.singleton_append, rf_small f k acc n r h1 hz hm]; rfl
  ·rw [uvL_ge h1] at h ⊢
   rw [List.cons_append, rf_big, rf_uv f (k + 1) _ (n / 128) r (by simpa using h) (by omega) (by rw [Nat.add_assoc, ← splitP]; exact hm), Nat.add_assoc, ← splitP]
   simp only [List.length_cons, Option.some.injEq, Prod.mk.injEq, true_and]
   omega
theorem uvL_six {n : Nat} (hn : n ≤ 1000000000000) : (uvL n).length ≤ 6 := uvL_len 5 n (by omega)
theorem rU_uv {b : List UInt8} {p n : Nat} {r : List UInt8} (h : b.drop p = uvL n ++ r) (hn : n ≤ 1000000000000) : rdU b (p : Int) = some (n, (uvL n).length) ∧ b.drop (p + (uvL n).length) = r ∧ p + (uvL n).length ≤ b.length := by
 have h0 := uvL_pos n
 have hl : (b.drop p).length = (uvL n).length + r.length := by rw [h, List.length_append]
 rw [List.length_drop] at hl
 refine ⟨?_, ?_, by omega⟩
 ·unfold rdU
  rw [if_pos (by omega), Int.toNat_natCast, h, rf_uv 6 0 0 n r (uvL_six hn) (by omega) (by simpa using hn)]
  simp
 ·rw [← List.drop_drop, h, List.drop_left]
theorem rf_canon : ∀ (f k acc : Nat) (l : List UInt8) (v m : Nat), rdF f k acc l = some (v, m) → ∃ n r, v = acc + n * 2 ^ (7 * k) ∧ l = uvL n ++ r ∧ m = k + (uvL n).length ∧ (0 < k → 0 < n)
 | 0, _, _, _, _, _, h => by simp [rdF] at h
 | _ + 1, _, _, [], _, _, h => by simp [rdF] at h
 | f + 1, k, acc, x :: r, v, m, h => by
  unfold rdF at h
  split at h
  ·rename_i hx
   split at h
   ·cases h
   ·rename_i h2
    simp only [Option.some.injEq, Prod.mk.injEq] at h
    have e1 : x.toNat % 128 = x.toNat := Nat.mod_eq_of_lt hx
    refine ⟨x.toNat, r, by rw [← h.1, e1], ?_, ?_, by omega⟩
    ·rw [uvL_lt hx]; simp
    ·rw [uvL_lt hx, ← h.2]; rfl
  ·rename_i hx
   obtain ⟨n, s, h1, h2, h3, h4⟩ := rf_canon f (k + 1) _ r v m h
   have hxl := x.toNat_lt
   have hn := h4 (by omega)
   have e1 : (x.toNat % 128 + n * 128) % 128 = x.toNat % 128 := by omega
   have e2 : (x.toNat % 128 + n * 128) / 128 = n := by omega
   have e3 : ¬ x.toNat % 128 + n * 128 < 128 := by omega
   refine ⟨x.toNat % 128 + n * 128, s, ?_, ?_, ?_, by omega⟩
   ·rw [h1, splitP (x.toNat % 128 + n * 128) k, e1, e2, Nat.add_assoc]
   ·rw [uvL_ge e3, e1, e2, List.cons_append, ← h2]
    congr 1
    have : x.toNat % 128 + 128 = x.toNat := by omega
    rw [this]; simp
   ·rw [uvL_ge e3, e2, h3, List.length_cons]; omega
theorem rU_canon {b : List UInt8} {off : Int} {v k : Nat} (h : rdU b off = some (v, k)) : ∃ p : Nat, off = (p : Int) ∧ b.drop p = uvL v ++ b.drop (p + k) ∧ p + k ≤ b.length ∧ v ≤ 1000000000000 ∧ k = (uvL v).length := by
 obtain ⟨o, p, h1, h2, h3, h4, h5⟩ := rdU_some h
 unfold rdU at h
 split at h
 ·obtain ⟨n, r, g1, g2, g3, _⟩ := rf_canon _ _ _ _ _ _ h
  have e : v = n := by simpa using g1
  subst e
  have e2 : k = (uvL v).length := by omega
  rw [h1, Int.toNat_natCast] at g2
  refine ⟨o, h1, ?_, by omega, h5, e2⟩
  rw [← List.drop_drop, g2, e2, List.drop_left]
 ·cases h
theorem rB_uv {b : List UInt8} {p : Nat} {d r : List UInt8} {m : Int} (h : b.drop p = uvL d.length ++ d ++ r) (hd : d.length ≤ 1000000000000) (hm : (d.length : Int) ≤ m) : rdB b (p : Int) m = some (d, p + (uvL d.length).length + d.length) ∧ b.drop (p + (uvL d.length).length + d.length) = r ∧ p + (uvL d.length).length + d.length ≤ b.length := by
 rw [List.append_assoc] at h
 obtain ⟨h1, h2, h3⟩ := rU_uv h hd
 have hl : (b.drop (p + (uvL d.length).length)).length = d.length + r.length := by rw [h2, List.length_append]
 rw [List.length_drop] at hl
 refine ⟨?_, ?_, by omega⟩
 ·unfold rdB
  rw [h1]
  simp only [Int.toNat_natCast]
  rw [if_pos ⟨hm, by omega⟩, h2, List.take_left]
 ·rw [← List.drop_drop, h2, List.drop_left]
theorem rB_canon {b : List UInt8} {off m : Int} {d : List UInt8} {q : Nat} (h : rdB b off m = some (d, q)) : ∃ p : Nat, off = (p : Int) ∧ b.drop p = uvL d.length ++ (d ++ b.drop q) ∧ q ≤ b.length ∧ (d.length : Int) ≤ m ∧ d.length ≤ 1000000000000 ∧ p < q := by
 unfold rdB at h
 split at h
 ·cases h
 ·rename_i v k hu
  obtain ⟨p, h1, h2, h3, h4, h5⟩ := rU_canon hu
  split at h
  ·rename_i hc
   subst h1
   simp only [Option.some.injEq, Prod.mk.injEq, Int.toNat_natCast] at h hc
   obtain ⟨rfl, rfl⟩ := h
   have hl : ((b.drop (p + k)).take v).length = v := by rw [List.length_take, List.length_drop]; omega
   refine ⟨p, rfl, ?_, by omega, by omega, by omega, by have := uvL_pos v; omega⟩
   rw [hl, h2, ← List.drop_drop (i := v), List.take_append_drop]
  ·cases h
theorem strOf_data (s : Str) : strOf s.data.toList = s := by simp [strOf]
theorem eqL_bytes (x y : List UInt8) : eqL eqByteB x y = decide (x = y) := by
 by_cases h : x = y
 ·subst h
  rw [decide_eq_true rfl]
  refine eqL_yes (k := x.length) rfl ?_ rfl
  rw [List.all_eq_true]
  intro i _
  simp [eqByteB]
 ·rw [decide_eq_false h]
  cases he : eqL eqByteB x y with
  | false => rfl
  | true =>
   exfalso
   apply h
   simp only [eqL, Bool.and_eq_true, decide_eq_true_eq, List.all_eq_true] at he
   have hl : x.length = y.length := by omega
   apply List.ext_getElem hl
   intro i h1 h2
   have := he.2 i (List.mem_range.2 h1)
   rw [getD_at h1, getD_at h2] at this
   simp only [eqByteB, decide_eq_true_eq] at this
   exact UInt8.toNat_inj.1 (by omega)

end Go.Proofs.YtoigmlbidpocnaaGreat

namespace Go.Proofs.YtoigmlbidpocnaaGreat
open Go.RowKit
open Go.Proofs
set_option linter.unusedVariables false
set_option linter.unusedSimpArgs false

def num6 (l : List UInt8) : Nat := l.foldl (fun n x => n * 256 + x.toNat) 0
theorem num6_snoc (l : List UInt8) (x : UInt8) : num6 (l ++ [x]) = num6 l * 256 + x.toNat := by simp [num6]
theorem take_snocB {l : List UInt8} {k : Nat} (h : k < l.length) : l.take (k + 1) = l.take k ++ [l.getD (k : Int).toNat default] := by
 rw [List.take_add_one, List.getElem?_eq_getElem h, getD_at h]; rfl
theorem num6_step {l : List UInt8} {k : Nat} (h : k < l.length) : num6 (l.take (k + 1)) = num6 (l.take k) * 256 + (l.getD (k : Int).toNat default).toNat := by rw [take_snocB h, num6_snoc]
theorem num6_lt (l : List UInt8) : num6 l < 256 ^ l.length := by
 have key : ∀ (n : Nat) (l : List UInt8), l.length = n → num6 l < 256 ^ n := by
  intro n
  induction n with
  | zero => intro l h; have : l = [] := List.eq_nil_of_length_eq_zero h; subst this; simp [num6]
  | succ n ih =>
   intro l h
   have h1 := ih (l.take n) (by rw [List.length_take]; omega)
   have e : l = l.take n ++ [l.getD (n : Int).toNat default] := by rw [← take_snocB (by omega), List.take_of_length_le (by omega)]
   rw [e, num6_snoc, Nat.pow_succ]
   have := (l.getD (n : Int).toNat default).toNat_lt
   omega
 exact key _ l rfl
theorem be6_num6 {l : List UInt8} (h : l.length = 6) : be6 (num6 l) = l := by
 match l, h with
 | [a, b, c, d, e, f], _ =>
  have ha := a.toNat_lt; have hb := b.toNat_lt; have hc := c.toNat_lt; have hd := d.toNat_lt; have he := e.toNat_lt; have hf := f.toNat_lt
  have e1 : num6 [a, b, c, d, e, f] = ((((a.toNat * 256 + b.toNat) * 256 + c.toNat) * 256 + d.toNat) * 256 + e.toNat) * 256 + f.toNat := by simp [num6]
  rw [e1]
  have r : List.range 6 = [0, 1, 2, 3, 4, 5] := rfl
  unfold be6
  rw [r]
  simp only [List.map_cons, List.map_nil, List.cons.injEq, and_true]
  refine ⟨?_, ?_, ?_, ?_, ?_, ?_⟩ <;> apply UInt8.toNat_inj.1 <;> simp <;> omega
def kOf (b : List UInt8) : KeyT := if ((b.getD 0 default).toNat : Int) = 2 then (2, 0, strOf (b.drop 1)) else (((b.getD 0 default).toNat : Int), (num6 ((b.drop 1).take 6) : Int) - 1000000000000, strOf ((b.drop 1).drop 6))
def decK (b : List UInt8) : KeyT × Bool :=
 if b.length = 0 then ((0, 0, ByteArray.empty), false)
 else if ¬ ((b.getD 0 default).toNat : Int) = 2 ∧ b.length < 7 then ((0, 0, ByteArray.empty), false)
 else if isKey (kOf b) = true then (kOf b, true) else ((0, 0, ByteArray.empty), false)
theorem hd_tl {b : List UInt8} (h : b.length ≠ 0) : b.getD 0 default :: b.drop 1 = b := by
 match b, h with
 | x :: xs, _ => rfl
theorem of_byte (x : UInt8) : UInt8.ofNat ((x.toNat : Int)).toNat = x := by rw [Int.toNat_natCast]; simp
theorem encK_kOf {b : List UInt8} (h : b.length ≠ 0) (h7 : ((b.getD 0 default).toNat : Int) = 2 ∨ 7 ≤ b.length) : (encK (kOf b) = b) ↔ isKey (kOf b) = true := by
 constructor
 ·intro e
  cases hk : isKey (kOf b) with
  | true => rfl
  | false => rw [encK_bad hk] at e; rw [← e] at h; simp at h
 ·intro hk
  by_cases h2 : ((b.getD 0 default).toNat : Int) = 2
  ·have e : kOf b = (((b.getD 0 default).toNat : Int), 0, strOf (b.drop 1)) := by rw [kOf, if_pos h2, h2]
   rw [e] at hk ⊢
   rw [encK_txt hk h2]
   simp only [of_byte, strOf_list]
   exact hd_tl h
  ·have e : kOf b = (((b.getD 0 default).toNat : Int), (num6 ((b.drop 1).take 6) : Int) - 1000000000000, strOf ((b.drop 1).drop 6)) := by rw [kOf, if_neg h2]
   have h7' : 7 ≤ b.length := h7.resolve_left h2
   have hl : ((b.drop 1).take 6).length = 6 := by rw [List.length_take, List.length_drop]; omega
   rw [e] at hk ⊢
   rw [encK_num (j := 6) hk h2 (Nat.le_refl _)]
   have e2 : keyN (((b.getD 0 default).toNat : Int), (num6 ((b.drop 1).take 6) : Int) - 1000000000000, strOf ((b.drop 1).drop 6)) = num6 ((b.drop 1).take 6) := by
    show ((num6 ((b.drop 1).take 6) : Int) - 1000000000000 + 1000000000000).toNat = _
    omega
   rw [e2, be6_num6 hl, List.take_of_length_le (l := (b.drop 1).take 6) (i := 6) (by rw [hl]; exact Nat.le_refl _)]
   simp only [of_byte, strOf_list]
   rw [List.cons_append, List.take_append_drop]
   exact hd_tl h
theorem kOf_txt {b : List UInt8} (h : ((b.getD 0 default).toNat : Int) = 2) : (((b.getD (0 : Int).toNat default).toNat : Int), (0 : Int), strOf (b.drop 1)) = kOf b := by
 rw [kOf, if_pos h]
 show ((((b.getD 0 default).toNat : Int)), _, _) = _
 rw [h]
theorem kOf_num {b r : List UInt8} {acc : Nat} (h : ¬ ((b.getD 0 default).toNat : Int) = 2) (hf : acc = num6 ((b.drop (1 : Int).toNat).take (6 : Int).toNat)) (hr : r = (b.drop 1).drop 6) : (((b.getD (0 : Int).toNat default).toNat : Int), (acc : Int) - 1000000000000, strOf r) = kOf b := by
 subst hf; subst hr
 rw [kOf, if_neg h]; rfl
theorem decK_nil {b : List UInt8} (h : b.length = 0) : decK b = ((0, 0, ByteArray.empty), false) := by rw [decK, if_pos h]
theorem decK_short {b : List UInt8} (h : ¬ ((b.getD 0 default).toNat : Int) = 2) (h7 : b.length < 7) : decK b = ((0, 0, ByteArray.empty), false) := by
 unfold decK
 split
 ·rfl
 ·rw [if_pos ⟨h, h7⟩]
theorem decK_ok {b : List UInt8} {k : KeyT} (h : b.length ≠ 0) (h7 : ((b.getD 0 default).toNat : Int) = 2 ∨ 7 ≤ b.length) (hk : k = kOf b) (hi : isKey k = true) : decK b = (k, true) := by
 subst hk
 rw [decK, if_neg h, if_neg (by omega), if_pos hi]
theorem decK_bad {b : List UInt8} {k : KeyT} (h : b.length ≠ 0) (h7 : ((b.getD 0 default).toNat : Int) = 2 ∨ 7 ≤ b.length) (hk : k = kOf b) (hi : isKey k = false) : decK b = ((0, 0, ByteArray.empty), false) := by
 subst hk
 rw [decK, if_neg h, if_neg (by omega), if_neg (by rw [hi]; simp)]
theorem eq_isKey {b : List UInt8} {k : KeyT} {c : Bool} (h : b.length ≠ 0) (h7 : ((b.getD 0 default).toNat : Int) = 2 ∨ 7 ≤ b.length) (hk : k = kOf b) (hc : (!eqL eqByteB (encK k) b) = c) : isKey k = !c := by
 subst hk
 rw [eqL_bytes] at hc
 have := encK_kOf h h7
 cases hi : isKey (kOf b) with
 | true => rw [hi] at this; rw [← hc, decide_eq_true (this.2 rfl)]; rfl
 | false => rw [hi] at this; rw [← hc, decide_eq_false (fun e => absurd (this.1 e) (by simp))]; rfl
theorem wrapB (x : UInt8) : IntKind.i64.wrap ((x.toNat : Nat) : Int) = ((x.toNat : Nat) : Int) := by
 have := x.toNat_lt
 rw [IntKind.wrap_i64]; omega
theorem num_le {l : List UInt8} {k : Nat} (h : k < 6) : num6 (l.take k) < 1099511627776 := by
 have h1 := num6_lt (l.take k)
 have h2 : 256 ^ (l.take k).length ≤ 256 ^ 5 := Nat.pow_le_pow_right (by omega) (by rw [List.length_take]; omega)
 omega
theorem shl8 {a : Nat} (h : a < 1099511627776) : IntKind.i64.wrap ((a : Int) * ((2 ^ (8 : Int).toNat : Nat) : Int)) = (a : Int) * 256 := by
 rw [show ((2 ^ (8 : Int).toNat : Nat) : Int) = 256 from rfl, IntKind.wrap_i64]; omega

theorem ok_impl_DecodeKey {b : List UInt8} (hb : b.length ≤ 16777216) : PFn Tryz.prog 26 [.one (.dv [] (bytesD (b)))] (.tup [(true, [(.dv [] (.int .i64 ((decK b).1.1))), (.dv [] (.int .i64 ((decK b).1.2.1))), (.dv [] (.str ((decK b).1.2.2)))]), (false, [(.dv [] (.bool ((decK b).2)))])]) := by
 refine ⟨fn_intro Tryz.func26 rfl Tryz.ntmps26 Tryz.results26 rfl (fun C => ?_)⟩
 refine ok_fact (x := .tmp 0) (ev_tmp rfl) fun f0 => ?_
 iterate 10 refine z ?_
 refine yQ rfl (fun c1 => ?_) fun c1 => ?_
 ·skip
  have d1 := of_decide_eq_true c1
  refine z ?_
  refine yO rfl rfl (pu_build hT hB rfl rfl rfl bp_nil) rfl ?_
  iterate 5 refine z ?_
  refine fin2 (res_cell hT rfl rfl rfl rfl) (res_tmp rfl) rfl rfl ?_
  rw [decK_nil (by omega)]
  rfl
 ·skip
  have d1 := of_decide_eq_false c1
  have hne : b.length ≠ 0 := by omega
  have hdl : (b.drop (1 : Int).toNat).length = b.length - 1 := List.length_drop ..
  iterate 6 refine z ?_
  refine yO rfl rfl (pu_eqI (pu_convI hT rfl rfl rfl (ev_tmp rfl)) (wrapB _)) rfl ?_
  refine yO rfl rfl (pu_build hT hB rfl rfl rfl (bp_cons (ev_tmp rfl) rfl rfl rfl rfl rfl bp_nil)) rfl ?_
  iterate 5 refine z ?_
  refine yO rfl rfl (pu_sliceL hT rfl rfl rfl (ev_tmp rfl) (ev_int (inR_lit rfl)) (fun _ => rfl) (by omega) (by omega)) rfl ?_
  iterate 8 refine z ?_
  refine yQ rfl (fun c2 => ?_) fun c2 => ?_
  ·skip
   have d2 := nd_t c2
   iterate 6 refine z ?_
   refine yQ rfl (fun c3 => ?_) fun c3 => ?_
   ·skip
    have d3 := of_decide_eq_true c3
    refine z ?_
    refine yO rfl rfl (pu_build hT hB rfl rfl rfl bp_nil) rfl ?_
    iterate 6 refine z ?_
    refine fin2 (res_cell hT rfl rfl rfl rfl) (res_tmp rfl) rfl rfl ?_
    rw [decK_short (show ¬ ((b.getD 0 default).toNat : Int) = 2 from d2) (by omega)]
    rfl
   ·skip
    have d3 := of_decide_eq_false c3
    have hxl : ((b.drop (1 : Int).toNat).take (6 : Int).toNat).length = 6 := by rw [List.length_take]; show min 6 (b.drop 1).length = 6; rw [List.length_drop]; omega
    iterate 8 refine z ?_
    refine yO rfl rfl (pu_sliceH hT rfl rfl rfl (ev_tmp rfl) (ev_int (inR_lit rfl)) (fun _ => rfl) (by omega) (by omega)) rfl ?_
    iterate 4 refine z ?_
    refine ok_loop (ι := Nat × Nat) (fun zz => ⟨[(0, .one (.dv [] (bytesD (b)))), (2, .box 2 0), (3, .one (.dv [] (.bool (false)))), (4, .box 4 0), (5, .one (.dv [] (bytesD (((b)).drop ((1 : Int)).toNat)))), (6, .one (.dv [] (.int .i64 ((zz.2 : Int))))), (28, .one (.dv [] (bytesD (((((b)).drop ((1 : Int)).toNat)).take ((6 : Int)).toNat)))), (29, .one (.dv [] (.int .i64 ((((((((b)).drop ((1 : Int)).toNat)).take ((6 : Int)).toNat)).length : Int))))), (30, .one (.dv [] (.int .i64 ((zz.1 : Int)))))], [(2, 29, [(.dv [] (.int .i64 (0))), (.dv [] (.int .i64 (0))), (.dv [] (.str (ByteArray.empty)))]), (4, 29, [(.dv [] (.int .i64 (((b.getD (0 : Int).toNat default).toNat : Int)))), (.dv [] (.int .i64 (0))), (.dv [] (.str (ByteArray.empty)))])], []⟩) (fun zz => zz.1 ≤ 6 ∧ zz.2 = num6 (((b.drop (1 : Int).toNat).take (6 : Int).toNat).take zz.1)) (fun zz => 6 - zz.1) ((0, 0)) ?_ (weak_sub ⟨rfl, rfl, rfl, rfl, rfl, rfl, rfl, rfl, rfl, trivial⟩ ⟨rfl, rfl, trivial⟩ trivial rfl) (fun zz hx => ?_)
    ·exact ⟨Nat.zero_le _, rfl⟩
    obtain ⟨k, acc⟩ := zz
    replace hx : k ≤ 6 ∧ acc = num6 (((b.drop (1 : Int).toNat).take (6 : Int).toNat).take k) := hx
    obtain ⟨hk, ha⟩ := hx
    show Ok _ _ _ _ _ (⟨[(0, .one (.dv [] (bytesD (b)))), (2, .box 2 0), (3, .one (.dv [] (.bool (false)))), (4, .box 4 0), (5, .one (.dv [] (bytesD (((b)).drop ((1 : Int)).toNat)))), (6, .one (.dv [] (.int .i64 ((acc : Int))))), (28, .one (.dv [] (bytesD (((((b)).drop ((1 : Int)).toNat)).take ((6 : Int)).toNat)))), (29, .one (.dv [] (.int .i64 ((((((((b)).drop ((1 : Int)).toNat)).take ((6 : Int)).toNat)).length : Int))))), (30, .one (.dv [] (.int .i64 ((k : Int)))))], [(2, 29, [(.dv [] (.int .i64 (0))), (.dv [] (.int .i64 (0))), (.dv [] (.str (ByteArray.empty)))]), (4, 29, [(.dv [] (.int .i64 (((b.getD (0 : Int).toNat default).toNat : Int)))), (.dv [] (.int .i64 (0))), (.dv [] (.str (ByteArray.empty)))])], []⟩ : St)
    iterate 3 refine z ?_
    refine ok_seq ?_
    refine yQ rfl (fun c4 => ?_) fun c4 => ?_
    ·skip
     have d4 := of_decide_eq_true c4
     have hk6 : k < 6 := by omega
     have hac : acc < 1099511627776 := by rw [ha]; exact num_le hk6
     have hst := num6_step (l := ((b.drop (1 : Int).toNat).take (6 : Int).toNat)) (k := k) (by omega)
     rw [← ha] at hst
     have hxb := (((b.drop (1 : Int).toNat).take (6 : Int).toNat).getD (k : Int).toNat default).toNat_lt
     iterate 9 refine z ?_
     refine ok_region ?_
     refine z ?_
     refine yO rfl rfl (pu_eqI (pu_shlW rfl (ev_tmp rfl) (ev_int (inR_lit rfl)) (by omega) (by show _ ≤ 64; omega)) (shl8 hac)) rfl ?_
     refine z ?_
     refine yO rfl rfl (pu_eqI (pu_convI hT rfl rfl rfl (ev_tmp rfl)) (wrapB _)) rfl ?_
     iterate 2 refine z ?_
     refine ops_nil ?_
     iterate 2 refine z ?_
     refine ok_region ?_
     iterate 3 refine z ?_
     refine ⟨(k + 1, num6 (((b.drop (1 : Int).toNat).take (6 : Int).toNat).take (k + 1))), ?_, ?_, weak_sub ⟨rfl, rfl, rfl, rfl, rfl, (eqSlotI (by omega)), rfl, rfl, rfl, trivial⟩ ⟨rfl, rfl, trivial⟩ trivial rfl⟩
     ·exact ⟨by dsimp only; omega, rfl⟩
     ·dsimp only; omega
    ·skip
     have d4 := of_decide_eq_false c4
     have hke : k = 6 := by omega
     have hfin : acc = num6 ((b.drop (1 : Int).toNat).take (6 : Int).toNat) := by rw [ha, List.take_of_length_le (by omega)]
     have hfb := num6_lt ((b.drop (1 : Int).toNat).take (6 : Int).toNat)
     rw [hxl, ← hfin] at hfb
     iterate 11 refine z ?_
     refine ok_region ?_
     refine z ?_
     refine yO rfl rfl (pu_sliceL hT rfl rfl rfl (ev_tmp rfl) (ev_int (inR_lit rfl)) (fun _ => rfl) (by omega) (by omega)) rfl ?_
     iterate 4 refine z ?_
     refine yO rfl rfl (pu_convBS hT rfl rfl rfl rfl (ev_tmp rfl)) rfl ?_
     iterate 6 refine z ?_
     refine zK 49000 Tryz.call17 ?_ (hf := ok_impl_EncodeKey (k := (((b.getD (0 : Int).toNat default).toNat : Int), (acc : Int) - 1000000000000, strOf ((b.drop 1).drop 6))))
     refine z ?_
     refine o_call rfl rfl rfl Tryz.call28 (ok_impl_EqualBytes (x := encK ((((b.getD (0 : Int).toNat default).toNat : Int), (((acc : Int)) - (1000000000000), strOf ((((((b)).drop ((1 : Int)).toNat)).drop ((6 : Int)).toNat)))))) (y := b) ) (as_cons (ev_tmp rfl) (ag_one (ac_key' rfl rfl)) (as_cons (ev_tmp rfl) (ag_one ac_dv) as_nil)) rfl rfl ?_
     iterate 2 refine z ?_
     refine yQ rfl (fun c5 => ?_) fun c5 => ?_
     ·skip
      refine z ?_
      refine yO rfl rfl (pu_build hT hB rfl rfl rfl bp_nil) rfl ?_
      iterate 5 refine z ?_
      refine fin2 (res_cell hT rfl rfl rfl rfl) (res_tmp rfl) rfl rfl ?_
      rw [decK_bad (k := (((b.getD (0 : Int).toNat default).toNat : Int), (acc : Int) - 1000000000000, strOf ((b.drop 1).drop 6))) hne (.inr (by omega)) (kOf_num d2 hfin (by first | rfl | (rw [List.drop_drop]; rfl) | (rw [List.drop_drop]))) (eq_isKey hne (.inr (by omega)) (kOf_num d2 hfin (by first | rfl | (rw [List.drop_drop]; rfl) | (rw [List.drop_drop]))) c5)]
      rfl
     ·skip
      iterate 8 refine z ?_
      refine fin2 (res_cell hT rfl rfl rfl rfl) (res_tmp rfl) rfl rfl ?_
      rw [decK_ok (k := (((b.getD (0 : Int).toNat default).toNat : Int), (acc : Int) - 1000000000000, strOf ((b.drop 1).drop 6))) hne (.inr (by omega)) (kOf_num d2 hfin (by first | rfl | (rw [List.drop_drop]; rfl) | (rw [List.drop_drop]))) (eq_isKey hne (.inr (by omega)) (kOf_num d2 hfin (by first | rfl | (rw [List.drop_drop]; rfl) | (rw [List.drop_drop]))) c5)]
      rfl
  ·skip
   have d2 := nd_f c2
   iterate 4 refine z ?_
   refine yO rfl rfl (pu_convBS hT rfl rfl rfl rfl (ev_tmp rfl)) rfl ?_
   iterate 6 refine z ?_
   refine zK 50000 Tryz.call17 ?_ (hf := ok_impl_EncodeKey (k := (((b.getD (0 : Int).toNat default).toNat : Int), (0 : Int), strOf (b.drop 1))))
   refine z ?_
   refine o_call rfl rfl rfl Tryz.call28 (ok_impl_EqualBytes (x := encK ((((b.getD (0 : Int).toNat default).toNat : Int), (0, strOf ((((b)).drop ((1 : Int)).toNat)))))) (y := b) ) (as_cons (ev_tmp rfl) (ag_one (ac_key' rfl rfl)) (as_cons (ev_tmp rfl) (ag_one ac_dv) as_nil)) rfl rfl ?_
   iterate 2 refine z ?_
   refine yQ rfl (fun c6 => ?_) fun c6 => ?_
   ·skip
    refine z ?_
    refine yO rfl rfl (pu_build hT hB rfl rfl rfl bp_nil) rfl ?_
    iterate 5 refine z ?_
    refine fin2 (res_cell hT rfl rfl rfl rfl) (res_tmp rfl) rfl rfl ?_
    have d2' : ((b.getD 0 default).toNat : Int) = 2 := by
     have h8 := c2
     rw [Bool.not_eq_false'] at h8
     exact of_decide_eq_true h8
    rw [decK_bad (k := (((b.getD (0 : Int).toNat default).toNat : Int), (0 : Int), strOf (b.drop 1))) hne (.inl d2') (kOf_txt d2') (eq_isKey hne (.inl d2') (kOf_txt d2') c6)]
    rfl
   ·skip
    iterate 8 refine z ?_
    refine fin2 (res_cell hT rfl rfl rfl rfl) (res_tmp rfl) rfl rfl ?_
    have d2' : ((b.getD 0 default).toNat : Int) = 2 := by
     have h8 := c2
     rw [Bool.not_eq_false'] at h8
     exact of_decide_eq_true h8
    rw [decK_ok (k := (((b.getD (0 : Int).toNat default).toNat : Int), (0 : Int), strOf (b.drop 1))) hne (.inl d2') (kOf_txt d2') (eq_isKey hne (.inl d2') (kOf_txt d2') c6)]
    rfl
end Go.Proofs.YtoigmlbidpocnaaGreat

namespace Go.Proofs.YtoigmlbidpocnaaGreat
open Go.RowKit
open Go.Proofs
set_option linter.unusedVariables false
set_option linter.unusedSimpArgs false

def rdFs (b : List UInt8) : Nat → Int → RecT → Option (RecT × Int)
 | 0, p, r => some (r, p)
 | n + 1, p, r => if (!(rdB b p 8).isSome || !uvK b (rbP (rdB b p 8))) = true then none else rdFs b n (uvP b (rbP (rdB b p 8))) (r ++ [(strOf (headB (rdB b p 8)), uvV b (rbP (rdB b p 8)))])
def l5R (b : List UInt8) (at0 : Int) : RecT × Int × Bool := if (!uvK b at0 || decide (6 < uvV b at0)) = true then ([], 0, false) else match rdFs b (uvV b at0).toNat (uvP b at0) [] with
 | none => ([], 0, false)
 | some (r, p) => (r, p, isRec r)
def decR (b : List UInt8) : RecT × Bool := if (!(l5R b 0).2.2 || !decide ((l5R b 0).2.1 = (b.length : Int))) = true then ([], false) else ((l5R b 0).1, true)
section
variable {b : List UInt8} {at0 p : Int} {r : RecT} {k n : Nat}
theorem fs_go (hk : k < n) (hc : (!(rdB b p 8).isSome || !uvK b (rbP (rdB b p 8))) = false) : rdFs b (n - k) p r = rdFs b (n - (k + 1)) (uvP b (rbP (rdB b p 8))) (r ++ [(strOf (headB (rdB b p 8)), uvV b (rbP (rdB b p 8)))]) := by
 rw [show n - k = (n - (k + 1)) + 1 by omega, rdFs, if_neg (by rw [hc]; simp)]
theorem fs_no (hk : k < n) (hc : (!(rdB b p 8).isSome || !uvK b (rbP (rdB b p 8))) = true) : rdFs b (n - k) p r = none := by
 rw [show n - k = (n - (k + 1)) + 1 by omega, rdFs, if_pos hc]
theorem fs_end (hk : ¬ k < n) : rdFs b (n - k) p r = some (r, p) := by rw [show n - k = 0 by omega, rdFs]
theorem l5_bad (h : (!uvK b at0 || decide (6 < uvV b at0)) = true) : l5R b at0 = ([], 0, false) := by rw [l5R, if_pos h]
theorem l5_none (h : (!uvK b at0 || decide (6 < uvV b at0)) = false) (h2 : rdFs b (uvV b at0).toNat (uvP b at0) [] = none) : l5R b at0 = ([], 0, false) := by rw [l5R, if_neg (by rw [h]; simp), h2]
theorem l5_some (h : (!uvK b at0 || decide (6 < uvV b at0)) = false) (h2 : rdFs b (uvV b at0).toNat (uvP b at0) [] = some (r, p)) : l5R b at0 = (r, p, isRec r) := by rw [l5R, if_neg (by rw [h]; simp), h2]
end
def encF (f : FieldT) : List UInt8 := uvL f.1.data.toList.length ++ (f.1.data.toList ++ uvL f.2.toNat)
def inF (f : FieldT) : Prop := 0 ≤ f.2 ∧ f.2 ≤ 1000000000000 ∧ f.1.data.toList.length ≤ 1000000000000
theorem uvK_canon {b : List UInt8} {off : Int} (h : uvK b off = true) : ∃ (q v k : Nat), rdU b off = some (v, k) ∧ off = (q : Int) ∧ uvV b off = (v : Int) ∧ uvP b off = ((q + k : Nat) : Int) ∧ b.drop q = uvL v ++ b.drop (q + k) ∧ q + k ≤ b.length ∧ v ≤ 1000000000000 := by
 unfold uvK at h
 obtain ⟨⟨v, k⟩, hr⟩ := Option.isSome_iff_exists.1 h
 obtain ⟨q, h1, h2, h3, h4, _⟩ := rU_canon hr
 refine ⟨q, v, k, hr, h1, ?_, ?_, h2, h3, h4⟩
 ·unfold uvV; rw [hr]
 ·unfold uvP; rw [hr, h1]; simp
theorem rb_canon {b : List UInt8} {off m : Int} (h : (rdB b off m).isSome = true) : ∃ (p q : Nat) (d : List UInt8), rdB b off m = some (d, q) ∧ off = (p : Int) ∧ b.drop p = uvL d.length ++ (d ++ b.drop q) ∧ q ≤ b.length ∧ (d.length : Int) ≤ m ∧ d.length ≤ 1000000000000 := by
 obtain ⟨⟨d, q⟩, hr⟩ := Option.isSome_iff_exists.1 h
 obtain ⟨p, h1, h2, h3, h4, h5, _⟩ := rB_canon hr
 exact ⟨p, q, d, hr, h1, h2, h3, h4, h5⟩
theorem fs_canon {b : List UInt8} : ∀ (n : Nat) (q : Nat) (r r' : RecT) (p' : Int), q ≤ b.length → rdFs b n (q : Int) r = some (r', p') → ∃ (s : RecT) (q' : Nat), r' = r ++ s ∧ s.length = n ∧ p' = (q' : Int) ∧ b.drop q = s.flatMap encF ++ b.drop q' ∧ q' ≤ b.length ∧ ∀ f ∈ s, inF f
 | 0, q, r, r', p', hq, h => by
  simp only [rdFs, Option.some.injEq, Prod.mk.injEq] at h
  exact ⟨[], q, by simp [h.1], rfl, h.2.symm, by simp, hq, by simp⟩
 | n + 1, q, r, r', p', hq, h => by
  rw [rdFs] at h
  split at h
  ·cases h
  ·rename_i hc
   simp only [Bool.or_eq_true, Bool.not_eq_true', not_or, Bool.not_eq_false] at hc
   obtain ⟨q0, q1, d, e1, e2, e3, e4, e5, e6⟩ := rb_canon hc.1
   have e0 : q0 = q := by omega
   subst e0
   rw [e1] at hc h
   simp only [rbP, headB] at hc h
   obtain ⟨q2, v, k, g1, g2, g3, g4, g5, g6, g7⟩ := uvK_canon hc.2
   have g0 : q2 = q1 := by omega
   subst g0
   rw [g3, g4] at h
   obtain ⟨s, q', s1, s2, s3, s4, s5, s6⟩ := fs_canon n (q2 + k) _ r' p' g6 h
   refine ⟨(strOf d, (v : Int)) :: s, q', by rw [s1]; simp, by simp [s2], s3, ?_, s5, ?_⟩
   ·rw [e3, g5, s4, List.flatMap_cons]
    simp only [encF, strOf_list, Int.toNat_natCast, List.append_assoc]
   ·intro f hf
    rcases List.mem_cons.1 hf with rfl | hf
    ·exact ⟨by simp, by simp only; omega, by simp only [strOf_list]; exact e6⟩
    ·exact s6 f hf
theorem encRN_flat {r : RecT} (hr : ∀ f ∈ r, inF f) (hl : r.length ≤ 1000000000000) : ∀ k, k ≤ r.length → encRN r k = uvL r.length ++ (r.take k).flatMap encF
 | 0, _ => by rw [encRN, appU_in (by omega)]; simp
 | k + 1, h => by
  have hk : k < r.length := by omega
  have hm : r.getD (k : Int).toNat default ∈ r := by rw [getD_at hk]; exact List.getElem_mem hk
  obtain ⟨h1, h2, h3⟩ := hr _ hm
  rw [encRN, encRN_flat hr hl k (by omega), appU_in (n := ((r.getD (k : Int).toNat default).1.data.toList.length : Int)) (by omega), appU_in ⟨h1, h2⟩]
  rw [List.take_add_one, List.getElem?_eq_getElem hk, ← getD_at hk]
  simp only [Option.toList_some, List.flatMap_append, List.flatMap_cons, List.flatMap_nil, List.append_nil, encF, List.append_assoc, Int.toNat_natCast]
theorem rec_iff {b : List UInt8} {r : RecT} {p : Int} (h : (!uvK b 0 || decide (6 < uvV b 0)) = false) (h2 : rdFs b (uvV b 0).toNat (uvP b 0) [] = some (r, p)) : (encR r = b) ↔ (isRec r = true ∧ p = (b.length : Int)) := by
 simp only [Bool.or_eq_false_iff, Bool.not_eq_false', decide_eq_false_iff_not] at h
 obtain ⟨q, v, k, g1, g2, g3, g4, g5, g6, g7⟩ := uvK_canon h.1
 obtain rfl : q = 0 := by omega
 rw [g3, g4] at h2
 rw [g3] at h
 obtain ⟨s, q', s1, s2, s3, s4, s5, s6⟩ := fs_canon _ _ _ _ _ g6 h2
 rw [List.nil_append] at s1
 subst s1
 have s2' : r.length = v := by rw [s2]; omega
 have e : b = encRN r r.length ++ b.drop q' := by
  rw [encRN_flat s6 (by omega) r.length (Nat.le_refl _), List.take_length, s2', List.append_assoc, ← s4, ← g5]; rfl
 have hne : b ≠ [] := by
  intro hb
  have := uvL_pos v
  rw [hb] at g5
  have h9 := congrArg List.length g5
  simp only [List.drop_nil, List.length_append, List.length_nil] at h9
  omega
 constructor
 ·intro h3
  cases hr : isRec r with
  | false => rw [encR_bad hr] at h3; exact absurd h3.symm hne
  | true =>
   rw [encR_ok hr rfl] at h3
   refine ⟨rfl, ?_⟩
   have h9 := congrArg List.length e
   rw [h3, List.length_append, List.length_drop] at h9
   omega
 ·rintro ⟨hr, hp⟩
  have hq : b.drop q' = [] := List.drop_eq_nil_of_le (by omega)
  rw [encR_ok hr rfl]
  rw [hq, List.append_nil] at e
  exact e.symm
theorem decR_bad {b : List UInt8} (h : (!uvK b 0 || decide (6 < uvV b 0)) = true) : decR b = ([], false) := by rw [decR, l5_bad h]; rfl
theorem decR_none {b : List UInt8} (h : (!uvK b 0 || decide (6 < uvV b 0)) = false) (h2 : rdFs b (uvV b 0).toNat (uvP b 0) [] = none) : decR b = ([], false) := by rw [decR, l5_none h h2]; rfl
theorem decR_no {b : List UInt8} {r : RecT} {p : Int} (h : (!uvK b 0 || decide (6 < uvV b 0)) = false) (h2 : rdFs b (uvV b 0).toNat (uvP b 0) [] = some (r, p)) (h3 : (!eqL eqByteB (encR r) b) = true) : decR b = ([], false) := by
 rw [eqL_bytes, Bool.not_eq_true', decide_eq_false_iff_not, rec_iff h h2] at h3
 rw [decR, l5_some h h2, if_pos]
 simp only [Bool.or_eq_true, Bool.not_eq_true', decide_eq_false_iff_not]
 cases hr : isRec r with
 | false => exact .inl rfl
 | true => exact .inr (fun e => h3 ⟨hr, e⟩)
theorem decR_yes {b : List UInt8} {r : RecT} {p : Int} (h : (!uvK b 0 || decide (6 < uvV b 0)) = false) (h2 : rdFs b (uvV b 0).toNat (uvP b 0) [] = some (r, p)) (h3 : (!eqL eqByteB (encR r) b) = false) : decR b = (r, true) := by
 rw [eqL_bytes, Bool.not_eq_false', decide_eq_true_eq, rec_iff h h2] at h3
 rw [decR, l5_some h h2, if_neg]
 simp only [Bool.or_eq_true, Bool.not_eq_true', decide_eq_false_iff_not, not_or]
 exact ⟨by rw [h3.1]; simp, fun e => e h3.2⟩

theorem ok_impl_DecodeRecord {b : List UInt8} (hb : b.length ≤ 16777216) : KFn Tryz.prog 27 [.one (.dv [] (bytesD (b)))] (.tup [(true, [(.key 9001)]), (false, [(.dv [] (.bool ((decR b).2)))])]) [(9001, some (kcOf false (fieldsD ((decR b).1))))] := by
 refine ⟨fn_intro Tryz.func27 rfl Tryz.ntmps27 Tryz.results27 rfl (fun C => ?_)⟩
 refine ok_fact (x := .tmp 0) (ev_tmp rfl) fun f0 => ?_
 iterate 6 refine z ?_
 refine zC Tryz.call24 ?_ (hf := ok_impl_ReadUvarint (b := b) (off := 0) (by omega))
 iterate 17 refine z ?_
 refine yQ rfl (fun c1 => ?_) fun c1 => ?_
 ·skip
  refine z ?_
  refine yO rfl rfl (pu_build hT hB rfl rfl rfl bp_nil) rfl ?_
  iterate 3 refine z ?_
  rw [decR_bad c1]
  refine ok_weak (weak_nilB 9001 (b := 2) (i := 0) (e := 77) (sz := 2) rfl rfl rfl rfl rfl) ?_
  refine ok_weak (σ' := ⟨[(2, .box 2 0), (3, .one (.dv [] (.bool (false))))], [(2, 32, [(.key 9001)])], [(9001, some (kcOf false (fieldsD ([]))))]⟩) (weak_sub ⟨rfl, rfl, trivial⟩ ⟨rfl, trivial⟩ ⟨rfl, trivial⟩ rfl) ?_
  iterate 2 refine z ?_
  refine fin2 (res_cell hT rfl rfl rfl rfl) (res_tmp rfl) rfl rfl ?_
  first | exact ⟨rfl, rfl⟩ | skip
 ·skip
  have hub := uv_bds b 0
  have hn6 : uvV b 0 ≤ 6 := by have h8 := c1; simp only [Bool.or_eq_false_iff, decide_eq_false_iff_not] at h8; omega
  iterate 3 refine z ?_
  refine yO rfl rfl (pu_build hT hB rfl rfl rfl bp_nil) rfl ?_
  iterate 3 refine z ?_
  refine ok_seq ?_
  refine ok_seq ?_
  refine ok_weak (weak_nilB 9001 (b := 7) (i := 0) (e := 77) (sz := 2) rfl rfl rfl rfl rfl) ?_
  simp only [killT, killB, SV.kill, CV.kill, kk, Nat.reduceBEq]
  refine ok_region ?_
  iterate 3 refine z ?_
  refine ok_loop (ι := Nat × Int × RecT) (fun zz => ⟨[(0, .one (.dv [] (bytesD (b)))), (2, .box 2 0), (4, .one (.dv [] (.int .i64 (uvV (b) (0))))), (5, .one (.dv [] (.int .i64 (zz.2.1)))), (7, .box 7 0), (8, .one (.dv [] (.int .i64 ((zz.1 : Int)))))], [(2, 32, [.nil]), (7, 32, [(.key 9001)])], [(9001, some (kcOf false (.sl 77 2 (zz.2.2.length) (zz.2.2.flatMap eField))))]⟩) (fun zz => zz.1 ≤ (uvV b 0).toNat ∧ rdFs b (uvV b 0).toNat (uvP b 0) [] = rdFs b ((uvV b 0).toNat - zz.1) zz.2.1 zz.2.2 ∧ zz.2.2.length = zz.1) (fun zz => (uvV b 0).toNat - zz.1) ((0, uvP b 0, [])) ?_ (weak_sub ⟨rfl, rfl, rfl, rfl, rfl, rfl, trivial⟩ ⟨rfl, rfl, trivial⟩ ⟨rfl, trivial⟩ rfl) (fun zz hx => ?_)
  ·exact ⟨Nat.zero_le _, rfl, rfl⟩
  obtain ⟨k, p, r⟩ := zz
  replace hx : k ≤ (uvV b 0).toNat ∧ rdFs b (uvV b 0).toNat (uvP b 0) [] = rdFs b ((uvV b 0).toNat - k) p r ∧ r.length = k := hx
  obtain ⟨hk, hi, hl⟩ := hx
  show Ok _ _ _ _ _ (⟨[(0, .one (.dv [] (bytesD (b)))), (2, .box 2 0), (4, .one (.dv [] (.int .i64 (uvV (b) (0))))), (5, .one (.dv [] (.int .i64 (p)))), (7, .box 7 0), (8, .one (.dv [] (.int .i64 ((k : Int)))))], [(2, 32, [.nil]), (7, 32, [(.key 9001)])], [(9001, some (kcOf false (.sl 77 2 (r.length) (r.flatMap eField))))]⟩ : St)
  iterate 6 refine z ?_
  refine yQ rfl (fun c2 => ?_) fun c2 => ?_
  ·skip
   have d2 := of_decide_eq_true c2
   have hk2 : k < (uvV b 0).toNat := by omega
   iterate 7 refine z ?_
   refine zK 700 Tryz.call25 ?_ (hf := ok_impl_ReadBytes (b := b) (off := p) (m := 8) (by omega))
   iterate 11 refine z ?_
   refine zC Tryz.call24 ?_ (hf := ok_impl_ReadUvarint (b := b) (off := rbP (rdB b p 8)) (by omega))
   iterate 17 refine z ?_
   refine yQ rfl (fun c3 => ?_) fun c3 => ?_
   ·skip
    refine ok_seq ?_
    refine ok_weak (σ' := ⟨[(0, .one (.dv [] (bytesD (b)))), (2, .box 2 0)], [(2, 32, [.nil])], []⟩) (weak_sub ⟨rfl, rfl, trivial⟩ ⟨rfl, trivial⟩ trivial rfl) ?_
    refine ok_region ?_
    refine yO rfl rfl (pu_build hT hB rfl rfl rfl bp_nil) rfl ?_
    iterate 3 refine z ?_
    rw [decR_none c1 (hi.trans (fs_no hk2 c3))]
    refine ok_weak (weak_nilB 9001 (b := 2) (i := 0) (e := 77) (sz := 2) rfl rfl rfl rfl rfl) ?_
    refine ok_weak (σ' := ⟨[(2, .box 2 0), (3, .one (.dv [] (.bool (false))))], [(2, 32, [(.key 9001)])], [(9001, some (kcOf false (fieldsD ([]))))]⟩) (weak_sub ⟨rfl, rfl, trivial⟩ ⟨rfl, trivial⟩ ⟨rfl, trivial⟩ rfl) ?_
    iterate 7 refine z ?_
    refine fin2 (res_cell hT rfl rfl rfl rfl) (res_tmp rfl) rfl rfl ?_
    first | exact ⟨rfl, rfl⟩ | skip
   ·skip
    have hc3 := c3
    iterate 6 refine z ?_
    refine yO rfl rfl (pu_convBS (K := [700]) (e := 5) (xs := (headB (rdB (b) (p) (8)))) hT rfl rfl rfl rfl (ev_keyv (k := 700) (c := kcOf false (bytesD (headB (rdB (b) (p) (8))))) (ev_tmp rfl) rfl)) rfl ?_
    refine z ?_
    refine yO rfl rfl (pu_build hT hB rfl rfl rfl (bp_cons (ev_tmp rfl) rfl rfl rfl rfl rfl (bp_cons (ev_tmp rfl) rfl rfl rfl rfl rfl bp_nil))) rfl ?_
    refine o_build1 (k := 61) (js := []) hT rfl rfl rfl rfl rfl rfl rfl rfl rfl (ev_tmp rfl) rfl rfl (ow_cons' (ow_dv rfl) (ow_cons' (ow_dv rfl) ow_nil rfl) rfl) (by decide) (by decide) rfl rfl ?_
    simp only [killT, killB, SV.kill, CV.kill, kk, Nat.reduceBEq]
    refine o_appK (k := 9001) (j := 61) (cs := (r ++ [(strOf (headB (rdB b p 8)), uvV b (rbP (rdB b p 8)))]).flatMap eField) (n := (r ++ [(strOf (headB (rdB b p 8)), uvV b (rbP (rdB b p 8)))]).length) hT rfl rfl rfl rfl rfl rfl rfl (ev_tmp rfl) rfl rfl rfl (ev_tmp rfl) rfl rfl (by decide) (by dsimp only [kcOf, KC.old]; omega) (by dsimp only [kcOf, KC.old]; omega) (by rw [List.length_append]; rfl) (by rw [List.flatMap_append]; rfl) ?_
    simp only [killT, killB, SV.kill, CV.kill, kk, Nat.reduceBEq]
    iterate 3 refine z ?_
    refine ok_region ?_
    iterate 2 refine z ?_
    refine ops_nil ?_
    iterate 2 refine z ?_
    refine ok_region ?_
    iterate 4 refine z ?_
    refine ⟨(k + 1, uvP b (rbP (rdB b p 8)), (r ++ [(strOf (headB (rdB b p 8)), uvV b (rbP (rdB b p 8)))])), ?_, ?_, weak_sub ⟨rfl, rfl, rfl, rfl, rfl, rfl, trivial⟩ ⟨rfl, rfl, trivial⟩ ⟨rfl, trivial⟩ rfl⟩
    ·exact ⟨by dsimp only; omega, hi.trans (fs_go hk2 hc3), by show (r ++ _).length = k + 1; rw [List.length_append, hl]; rfl⟩
    ·dsimp only; omega
  ·skip
   have d2 := of_decide_eq_false c2
   have hfe := hi.trans (fs_end (by omega))
   iterate 8 refine z ?_
   refine o_callK 300 rfl rfl rfl Tryz.call18 (ok_impl_EncodeRecord (r := r)) (as_cons (ev_tmp rfl) (ag_agg (ag_cons (ac_key' rfl rfl) ag_nil)) as_nil) rfl rfl rfl ?_
   refine z ?_
   refine o_call rfl rfl rfl Tryz.call28 (ok_impl_EqualBytes (x := encR (r)) (y := b) ) (as_cons (ev_tmp rfl) (ag_one (ac_key' rfl rfl)) (as_cons (ev_tmp rfl) (ag_one ac_dv) as_nil)) rfl rfl ?_
   iterate 2 refine z ?_
   refine yQ rfl (fun c4 => ?_) fun c4 => ?_
   ·skip
    refine ok_seq ?_
    refine ok_weak (σ' := ⟨[(0, .one (.dv [] (bytesD (b)))), (2, .box 2 0)], [(2, 32, [.nil])], []⟩) (weak_sub ⟨rfl, rfl, trivial⟩ ⟨rfl, trivial⟩ trivial rfl) ?_
    refine ok_region ?_
    refine yO rfl rfl (pu_build hT hB rfl rfl rfl bp_nil) rfl ?_
    iterate 3 refine z ?_
    rw [decR_no c1 hfe c4]
    refine ok_weak (weak_nilB 9001 (b := 2) (i := 0) (e := 77) (sz := 2) rfl rfl rfl rfl rfl) ?_
    refine ok_weak (σ' := ⟨[(2, .box 2 0), (3, .one (.dv [] (.bool (false))))], [(2, 32, [(.key 9001)])], [(9001, some (kcOf false (fieldsD ([]))))]⟩) (weak_sub ⟨rfl, rfl, trivial⟩ ⟨rfl, trivial⟩ ⟨rfl, trivial⟩ rfl) ?_
    iterate 2 refine z ?_
    refine fin2 (res_cell hT rfl rfl rfl rfl) (res_tmp rfl) rfl rfl ?_
    first | exact ⟨rfl, rfl⟩ | skip
   ·skip
    iterate 7 refine z ?_
    rw [decR_yes c1 hfe c4]
    refine ok_weak (σ' := ⟨[(2, .box 2 0), (3, .one (.dv [] (.bool (true))))], [(2, 32, [(.key 9001)])], [(9001, some (kcOf false (fieldsD (r))))]⟩) (weak_sub ⟨rfl, rfl, trivial⟩ ⟨rfl, trivial⟩ ⟨rfl, trivial⟩ rfl) ?_
    refine z ?_
    refine fin2 (res_cell hT rfl rfl rfl rfl) (res_tmp rfl) rfl rfl ?_
    first | exact ⟨rfl, rfl⟩ | skip
end Go.Proofs.YtoigmlbidpocnaaGreat

namespace Go.Proofs.YtoigmlbidpocnaaGreat
open Go.RowKit
open Go.Proofs
set_option linter.unusedVariables false
set_option linter.unusedSimpArgs false

section
variable (b : List UInt8) (l1 l2 l3 l4 p : Int)
@[reducible] def ox1 : Option (List UInt8 × Nat) := rdB b (uvP b p) l1
@[reducible] def ox2 : Option (List UInt8 × Nat) := rdB b (rbP (ox1 b l1 p)) l2
@[reducible] def ox3 : Option (List UInt8 × Nat) := rdB b (rbP (ox2 b l1 l2 p)) l3
@[reducible] def ox4 : Option (List UInt8 × Nat) := rdB b (rbP (ox3 b l1 l2 l3 p)) l4
def opBad : Bool := (((!uvK b p || !(ox1 b l1 p).isSome) || !(ox2 b l1 l2 p).isSome) || !(ox3 b l1 l2 l3 p).isSome) || !(ox4 b l1 l2 l3 l4 p).isSome
@[reducible] def opVal : OpT := (uvV b p, strOf (headB (ox1 b l1 p)), (decK (headB (ox2 b l1 l2 p))).1, (decR (headB (ox3 b l1 l2 l3 p))).1, strOf (headB (ox4 b l1 l2 l3 l4 p)))
end
def rdOs (b : List UInt8) (l1 l2 l3 l4 : Int) : Nat → Int → List OpT → Option (List OpT)
 | 0, _, l => some l
 | n + 1, p, l => if opBad b l1 l2 l3 l4 p = true then none else rdOs b l1 l2 l3 l4 n (rbP (ox4 b l1 l2 l3 l4 p)) (l ++ [opVal b l1 l2 l3 l4 p])
def decOL (b : List UInt8) (l1 l2 l3 l4 : Int) : List OpT × Bool := if (!uvK b 0 || decide (6 < uvV b 0)) = true then ([], false) else match rdOs b l1 l2 l3 l4 (uvV b 0).toNat (uvP b 0) [] with
 | none => ([], false)
 | some l => if encO l = b then (l, true) else ([], false)
def decO (b : List UInt8) : List OpT × Bool := decOL b 100 100 200 100
section
variable {b : List UInt8} {l1 l2 l3 l4 p : Int} {k n : Nat} {l : List OpT}
theorem os_go (hk : k < n) (hc : opBad b l1 l2 l3 l4 p = false) : rdOs b l1 l2 l3 l4 (n - k) p l = rdOs b l1 l2 l3 l4 (n - (k + 1)) (rbP (ox4 b l1 l2 l3 l4 p)) (l ++ [opVal b l1 l2 l3 l4 p]) := by
 rw [show n - k = (n - (k + 1)) + 1 by omega, rdOs, if_neg (by rw [hc]; simp)]
theorem os_no (hk : k < n) (hc : opBad b l1 l2 l3 l4 p = true) : rdOs b l1 l2 l3 l4 (n - k) p l = none := by
 rw [show n - k = (n - (k + 1)) + 1 by omega, rdOs, if_pos hc]
theorem os_end (hk : ¬ k < n) : rdOs b l1 l2 l3 l4 (n - k) p l = some l := by rw [show n - k = 0 by omega, rdOs]
theorem decO_bad (h : (!uvK b 0 || decide (6 < uvV b 0)) = true) : decOL b l1 l2 l3 l4 = ([], false) := by rw [decOL, if_pos h]
theorem decO_none (h : (!uvK b 0 || decide (6 < uvV b 0)) = false) (h2 : rdOs b l1 l2 l3 l4 (uvV b 0).toNat (uvP b 0) [] = none) : decOL b l1 l2 l3 l4 = ([], false) := by rw [decOL, if_neg (by rw [h]; simp), h2]
theorem decO_no (h : (!uvK b 0 || decide (6 < uvV b 0)) = false) (h2 : rdOs b l1 l2 l3 l4 (uvV b 0).toNat (uvP b 0) [] = some l) (h3 : (!eqL eqByteB (encO l) b) = true) : decOL b l1 l2 l3 l4 = ([], false) := by
 rw [eqL_bytes, Bool.not_eq_true', decide_eq_false_iff_not] at h3
 rw [decOL, if_neg (by rw [h]; simp), h2]
 simp only
 rw [if_neg h3]
theorem decO_yes (h : (!uvK b 0 || decide (6 < uvV b 0)) = false) (h2 : rdOs b l1 l2 l3 l4 (uvV b 0).toNat (uvP b 0) [] = some l) (h3 : (!eqL eqByteB (encO l) b) = false) : decOL b l1 l2 l3 l4 = (l, true) := by
 rw [eqL_bytes, Bool.not_eq_false', decide_eq_true_eq] at h3
 rw [decOL, if_neg (by rw [h]; simp), h2]
 simp only
 rw [if_pos h3]
end
def encP (o : OpT) : List UInt8 := uvL o.1.toNat ++ (uvL o.2.1.data.toList.length ++ o.2.1.data.toList ++ (uvL (encK o.2.2.1).length ++ encK o.2.2.1 ++ (uvL (encR o.2.2.2.1).length ++ encR o.2.2.2.1 ++ (uvL o.2.2.2.2.data.toList.length ++ o.2.2.2.2.data.toList))))
def normO (o : OpT) : OpT := (o.1, o.2.1, (decK (encK o.2.2.1)).1, o.2.2.2.1, o.2.2.2.2)
theorem op_parts {o : OpT} (h : isOpB o = true) : o.2.1.data.toList.length ≤ 8 ∧ (encK o.2.2.1).length ≤ 19 ∧ (encR o.2.2.2.1).length ≤ 126 ∧ o.2.2.2.2.data.toList.length ≤ 8 ∧ 1 ≤ o.1 ∧ o.1 ≤ 6 ∧ isRec o.2.2.2.1 = true := by
 have h1 := op_rng h
 have h2 := encK_len o.2.2.1
 have h3 := encR_len o.2.2.2.1
 simp only [isOpB, Bool.and_eq_true, decide_eq_true_eq] at h
 exact ⟨h1.1, h2, h3, h1.2, h.1.1.1.1.1, h.1.1.1.1.2, h.1.2⟩
theorem opPart_enc {B : List UInt8} {o : OpT} (h : isOpB o = true) : opPart B o 4 = B ++ encP o := by
 obtain ⟨h1, h2, h3, h4, h5, h6, _⟩ := op_parts h
 have e : ∀ (X : List UInt8) (Y : List UInt8), Y.length ≤ 1000 → appB X Y = X ++ (uvL Y.length ++ Y) := fun X Y hY => by rw [appB, appU_in (by omega), Int.toNat_natCast, List.append_assoc]
 have p0 : (partsO o).getD ((0 : Nat) : Int).toNat default = o.2.1.data.toList := rfl
 have p1 : (partsO o).getD ((1 : Nat) : Int).toNat default = encK o.2.2.1 := rfl
 have p2 : (partsO o).getD ((2 : Nat) : Int).toNat default = encR o.2.2.2.1 := rfl
 have p3 : (partsO o).getD ((3 : Nat) : Int).toNat default = o.2.2.2.2.data.toList := rfl
 rw [opPart, opPart, opPart, opPart, opPart, p0, p1, p2, p3, e _ _ (by omega), e _ _ (by omega), e _ _ (by omega), e _ _ (by omega), appU_in (by omega)]
 simp only [encP, List.append_assoc]
theorem encON_enc {l : List OpT} (h : areB l = true) : ∀ k, k ≤ l.length → encON l k = uvL l.length ++ (l.take k).flatMap encP
 | 0, _ => by
  have := are_len h
  rw [encON, appU_in (by omega)]; simp
 | k + 1, hk => by
  have hk2 : k < l.length := by omega
  rw [encON, encON_enc h k (by omega), opPart_enc (are_op h hk2), List.take_add_one, List.getElem?_eq_getElem hk2, ← getD_at hk2]
  simp only [Option.toList_some, List.flatMap_append, List.flatMap_cons, List.flatMap_nil, List.append_nil, List.append_assoc]
theorem uvK_some {b : List UInt8} {off : Int} {v k : Nat} (h : rdU b off = some (v, k)) : uvK b off = true ∧ uvV b off = (v : Int) ∧ uvP b off = off + (k : Int) := by
 unfold uvK uvV uvP
 rw [h]
 exact ⟨rfl, rfl, rfl⟩
theorem fs_enc {b : List UInt8} : ∀ (s : RecT) (q : Nat) (r : RecT) (rest : List UInt8), (∀ f ∈ s, inF f ∧ f.1.data.toList.length ≤ 8) → q ≤ b.length → b.drop q = s.flatMap encF ++ rest → ∃ q' : Nat, rdFs b s.length (q : Int) r = some (r ++ s, (q' : Int)) ∧ b.drop q' = rest ∧ q' ≤ b.length
 | [], q, r, rest, _, hq, h => ⟨q, by simp [rdFs], by simpa using h, hq⟩
 | f :: s, q, r, rest, hs, hq, h => by
  obtain ⟨⟨f1, f2, f3⟩, f4⟩ := hs f (by simp)
  rw [List.flatMap_cons] at h
  have h' : b.drop q = uvL f.1.data.toList.length ++ f.1.data.toList ++ (uvL f.2.toNat ++ (s.flatMap encF ++ rest)) := by rw [h, encF]; simp only [List.append_assoc]
  obtain ⟨g1, g2, g3⟩ := rB_uv (m := 8) h' (by omega) (by omega)
  obtain ⟨k1, k2, k3⟩ := rU_uv g2 (by omega)
  obtain ⟨u1, u2, u3⟩ := uvK_some k1
  obtain ⟨q', r1, r2, r3⟩ := fs_enc s _ (r ++ [f]) rest (fun g hg => hs g (by simp [hg])) k3 k2
  refine ⟨q', ?_, r2, r3⟩
  have eP : rbP (rdB b (q : Int) 8) = ((q + (uvL f.1.data.toList.length).length + f.1.data.toList.length : Nat) : Int) := by rw [g1]; rfl
  have eH : headB (rdB b (q : Int) 8) = f.1.data.toList := by rw [g1]; rfl
  rw [List.length_cons, rdFs, eP, eH, u1, u2, u3, if_neg (by rw [g1]; simp), strOf_data, show ((f.2.toNat : Nat) : Int) = f.2 by omega]
  have : ((q + (uvL f.1.data.toList.length).length + f.1.data.toList.length : Nat) : Int) + ((uvL f.2.toNat).length : Int) = ((q + (uvL f.1.data.toList.length).length + f.1.data.toList.length + (uvL f.2.toNat).length : Nat) : Int) := by omega
  rw [this, r1]
  simp
theorem decR_encR {r : RecT} (h : isRec r = true) : decR (encR r) = (r, true) := by
 have hl : r.length ≤ 6 := by
  have h0 := h
  simp only [isRec, Bool.and_eq_true, decide_eq_true_eq] at h0; omega
 have hf : ∀ f ∈ r, inF f ∧ f.1.data.toList.length ≤ 8 := fun f hm => by
  obtain ⟨i, hi, rfl⟩ := List.mem_iff_getElem.1 hm
  have h1 := rec_fld h hi
  rw [getD_at hi] at h1
  have h2 := (name_size h1.1).2
  have h3 : r[i].1.data.toList.length ≤ 8 := h2
  exact ⟨⟨h1.2.1, by omega, by omega⟩, h3⟩
 have e : encR r = uvL r.length ++ r.flatMap encF := by
  rw [encR_ok h rfl, encRN_flat (fun f hm => (hf f hm).1) (by omega) r.length (Nat.le_refl _), List.take_length]
 obtain ⟨b, hb⟩ : ∃ b, b = encR r := ⟨_, rfl⟩
 rw [← hb]
 rw [← hb] at e
 have e0 : b.drop 0 = uvL r.length ++ r.flatMap encF := by rw [e]; rfl
 obtain ⟨k1, k2, k3⟩ := rU_uv e0 (by omega)
 obtain ⟨u1, u2, u3⟩ := uvK_some k1
 have e2 : b.drop (0 + (uvL r.length).length) = r.flatMap encF ++ [] := by rw [k2, List.append_nil]
 obtain ⟨q', r1, r2, r3⟩ := fs_enc r _ [] [] hf k3 e2
 have hc : (!uvK b 0 || decide (6 < uvV b 0)) = false := by
  have u1' : uvK b 0 = true := u1
  have u2' : uvV b 0 = (r.length : Int) := u2
  rw [u1', u2', decide_eq_false (by omega)]; rfl
 have h2 : rdFs b (uvV b 0).toNat (uvP b 0) [] = some (r, (q' : Int)) := by
  have u2' : uvV b 0 = (r.length : Int) := u2
  have u3' : uvP b 0 = ((0 + (uvL r.length).length : Nat) : Int) := by rw [show uvP b 0 = ((0 : Nat) : Int) + ((uvL r.length).length : Int) from u3]; omega
  rw [u2', u3', Int.toNat_natCast, r1, List.nil_append]
 have hq : q' = b.length := by
  have := congrArg List.length r2
  rw [List.length_drop, List.length_nil] at this; omega
 rw [decR, l5_some hc h2, if_neg]
 simp only [Bool.or_eq_true, Bool.not_eq_true', decide_eq_false_iff_not, not_or]
 exact ⟨by rw [h]; simp, fun e => e (by omega)⟩
theorem op_read {b : List UInt8} {q : Nat} {o : OpT} {rest : List UInt8} {l1 l2 l3 l4 : Int} (ho : isOpB o = true) (h : b.drop q = encP o ++ rest) (m1 : ∀ n : Nat, n ≤ 19 → n ≤ b.length → (n : Int) ≤ l1 ∧ (n : Int) ≤ l2 ∧ (n : Int) ≤ l4) (m3 : ∀ n : Nat, n ≤ 126 → n ≤ b.length → (n : Int) ≤ l3) :
  opBad b l1 l2 l3 l4 (q : Int) = false ∧ opVal b l1 l2 l3 l4 (q : Int) = normO o ∧ ∃ q' : Nat, rbP (ox4 b l1 l2 l3 l4 (q : Int)) = (q' : Int) ∧ b.drop q' = rest ∧ q' ≤ b.length := by
 obtain ⟨h1, h2, h3, h4, h5, h6, h7⟩ := op_parts ho
 rw [encP] at h
 simp only [List.append_assoc] at h
 obtain ⟨k1, k2, k3⟩ := rU_uv h (by omega)
 obtain ⟨u1, u2, u3⟩ := uvK_some k1
 have d2 := k2
 rw [← List.append_assoc] at d2
 have n1 : o.2.1.data.toList.length ≤ b.length := by have := congrArg List.length k2; simp only [List.length_drop, List.length_append] at this; omega
 obtain ⟨a1, a2, a3⟩ := rB_uv (m := l1) d2 (by omega) (m1 _ (by omega) n1).1
 have d3 := a2
 rw [← List.append_assoc] at d3
 have n2 : (encK o.2.2.1).length ≤ b.length := by have := congrArg List.length a2; simp only [List.length_drop, List.length_append] at this; omega
 obtain ⟨b1, b2, b3⟩ := rB_uv (m := l2) d3 (by omega) (m1 _ (by omega) n2).2.1
 have d4 := b2
 rw [← List.append_assoc] at d4
 have n3 : (encR o.2.2.2.1).length ≤ b.length := by have := congrArg List.length b2; simp only [List.length_drop, List.length_append] at this; omega
 obtain ⟨c1, c2, c3⟩ := rB_uv (m := l3) d4 (by omega) (m3 _ (by omega) n3)
 have d5 := c2
 rw [← List.append_assoc] at d5
 have n4 : o.2.2.2.2.data.toList.length ≤ b.length := by have := congrArg List.length c2; simp only [List.length_drop, List.length_append] at this; omega
 obtain ⟨e1, e2, e3⟩ := rB_uv (m := l4) d5 (by omega) (m1 _ (by omega) n4).2.2
 have x1 : ox1 b l1 (q : Int) = rdB b ((q + (uvL o.1.toNat).length : Nat) : Int) l1 := by
  show rdB b (uvP b (q : Int)) l1 = _
  rw [u3, show (q : Int) + ((uvL o.1.toNat).length : Int) = ((q + (uvL o.1.toNat).length : Nat) : Int) by omega]
 rw [a1] at x1
 have x2 : ox2 b l1 l2 (q : Int) = rdB b (rbP (ox1 b l1 (q : Int))) l2 := rfl
 rw [x1, show ∀ (d : List UInt8) (n : Nat), rbP (some (d, n)) = (n : Int) from fun _ _ => rfl, b1] at x2
 have x3 : ox3 b l1 l2 l3 (q : Int) = rdB b (rbP (ox2 b l1 l2 (q : Int))) l3 := rfl
 rw [x2, show ∀ (d : List UInt8) (n : Nat), rbP (some (d, n)) = (n : Int) from fun _ _ => rfl, c1] at x3
 have x4 : ox4 b l1 l2 l3 l4 (q : Int) = rdB b (rbP (ox3 b l1 l2 l3 (q : Int))) l4 := rfl
 rw [x3, show ∀ (d : List UInt8) (n : Nat), rbP (some (d, n)) = (n : Int) from fun _ _ => rfl, e1] at x4
 refine ⟨?_, ?_, ⟨_, ?_, e2, e3⟩⟩
 ·unfold opBad
  rw [x1, x2, x3, x4, u1]; rfl
 ·unfold opVal
  rw [x1, x2, x3, x4, u2]
  simp only [headB, strOf_data, decR_encR h7, normO]
  rw [show ((o.1.toNat : Nat) : Int) = o.1 by omega]
 ·rw [x4]; rfl
theorem os_enc {b : List UInt8} {l1 l2 l3 l4 : Int} (m1 : ∀ n : Nat, n ≤ 19 → n ≤ b.length → (n : Int) ≤ l1 ∧ (n : Int) ≤ l2 ∧ (n : Int) ≤ l4) (m3 : ∀ n : Nat, n ≤ 126 → n ≤ b.length → (n : Int) ≤ l3) : ∀ (s : List OpT) (q : Nat) (l : List OpT), (∀ o ∈ s, isOpB o = true) → b.drop q = s.flatMap encP → rdOs b l1 l2 l3 l4 s.length (q : Int) l = some (l ++ s.map normO)
 | [], q, l, _, _ => by simp [rdOs]
 | o :: s, q, l, hs, h => by
  rw [List.flatMap_cons] at h
  obtain ⟨g1, g2, q', g3, g4, _⟩ := op_read (hs o (by simp)) h m1 m3
  rw [List.length_cons, rdOs, g1, g2, g3, if_neg (by simp), os_enc m1 m3 s q' _ (fun x hx => hs x (by simp [hx])) g4]
  simp
theorem num6_be6 {n : Nat} (h : n < 281474976710656) : num6 (be6 n) = n := by
 have r : List.range 6 = [0, 1, 2, 3, 4, 5] := rfl
 unfold be6
 rw [r]
 simp [num6]
 omega
theorem decK_encK {k : KeyT} (h : isKey k = true) : decK (encK k) = (k, true) := by
 have hr := key_rng h
 have hb0 : (((encK k).getD 0 default).toNat : Int) = k.1 := by
  rw [encK, if_pos h]
  simp only [List.cons_append, List.getD_cons_zero]
  rw [show (UInt8.ofNat k.1.toNat).toNat = k.1.toNat % 256 by simp]
  omega
 have hne : (encK k).length ≠ 0 := by rw [encK, if_pos h]; simp
 have h7 : (((encK k).getD 0 default).toNat : Int) = 2 ∨ 7 ≤ (encK k).length := by
  rw [hb0]
  by_cases h2 : k.1 = 2
  ·exact .inl h2
  ·right
   rw [encK, if_pos h, if_neg h2]
   simp only [List.length_append, List.length_cons, be6_len]; omega
 have hk : k = kOf (encK k) := by
  rw [kOf]
  by_cases h2 : k.1 = 2
  ·rw [if_pos (by rw [hb0, h2])]
   have e : encK k = UInt8.ofNat k.1.toNat :: k.2.2.data.toList := by rw [encK, if_pos h, if_pos h2]; rfl
   have h0 : k.2.1 = 0 := by
    have h9 := h
    simp only [isKey, Bool.and_eq_true, h2] at h9
    have h10 := h9.1.2
    simpa using h10
   rw [e, List.drop_succ_cons, List.drop_zero, strOf_data]
   obtain ⟨a, b, c⟩ := k
   simp only at h2 h0 ⊢
   rw [h2, h0]
  ·rw [if_neg (by rw [hb0]; exact h2), hb0]
   have e : (encK k).drop 1 = be6 (keyN k) ++ k.2.2.data.toList := by rw [encK, if_pos h, if_neg h2]; rfl
   rw [e, List.take_left' (be6_len _), List.drop_left' (be6_len _), strOf_data, num6_be6 (by unfold keyN; omega)]
   have : ((keyN k : Nat) : Int) - 1000000000000 = k.2.1 := by unfold keyN; omega
   rw [this]
 exact decK_ok hne h7 hk h
theorem normO_enc {o : OpT} : encP (normO o) = encP o ∧ (isOpB o = true → isOpB (normO o) = true) := by
 cases hi : isKey o.2.2.1 with
 | false =>
  have e : decK (encK o.2.2.1) = ((0, 0, ByteArray.empty), false) := by rw [encK_bad hi]; exact decK_nil rfl
  refine ⟨?_, fun h => ?_⟩
  ·simp only [encP, normO, e, encK_bad hi]
   rw [encK_bad (by decide)]
  ·simp only [isOpB, normO, Bool.and_eq_true, Bool.or_eq_true, hi] at h ⊢
   refine ⟨⟨⟨h.1.1.1, ?_⟩, h.1.2⟩, h.2⟩
   rcases h.1.1.2 with h1 | h1
   ·exact .inl h1
   ·cases h1
 | true =>
  have e : normO o = o := by rw [normO, decK_encK hi]
  rw [e]
  exact ⟨rfl, fun h => h⟩
theorem norm_areB {l : List OpT} (h : areB l = true) : areB (l.map normO) = true := by
 simp only [areB, Bool.and_eq_true, List.all_eq_true, decide_eq_true_eq] at h ⊢
 refine ⟨fun x hx => ?_, by rw [List.length_map]; exact h.2⟩
 obtain ⟨o, ho, rfl⟩ := List.mem_map.1 hx
 exact normO_enc.2 (h.1 o ho)
theorem norm_encO {l : List OpT} (h : areB l = true) : encO (l.map normO) = encO l := by
 rw [encO_ok (norm_areB h) rfl, encO_ok h rfl, encON_enc (norm_areB h) _ (Nat.le_refl _), encON_enc h _ (Nat.le_refl _), List.take_length, List.take_length, List.length_map]
 congr 1
 induction l with
 | nil => rfl
 | cons o l ih =>
  rw [List.map_cons, List.flatMap_cons, List.flatMap_cons, normO_enc.1, ih]
  simp only [areB, Bool.and_eq_true, List.all_eq_true, decide_eq_true_eq, List.length_cons] at h ⊢
  exact ⟨fun x hx => h.1 x (by simp [hx]), by omega⟩
theorem decO_enc {l : List OpT} (h : areB l = true) {l1 l2 l3 l4 : Int} (m1 : ∀ n : Nat, n ≤ 19 → n ≤ (encO l).length → (n : Int) ≤ l1 ∧ (n : Int) ≤ l2 ∧ (n : Int) ≤ l4) (m3 : ∀ n : Nat, n ≤ 126 → n ≤ (encO l).length → (n : Int) ≤ l3) : decOL (encO l) l1 l2 l3 l4 = (l.map normO, true) := by
 have hl := are_len h
 have e : encO l = uvL l.length ++ l.flatMap encP := by rw [encO_ok h rfl, encON_enc h _ (Nat.le_refl _), List.take_length]
 obtain ⟨b, hb⟩ : ∃ b, b = encO l := ⟨_, rfl⟩
 have hn := norm_encO h
 rw [← hb] at m1 m3 e hn ⊢
 have e0 : b.drop 0 = uvL l.length ++ l.flatMap encP := by rw [e]; rfl
 obtain ⟨k1, k2, k3⟩ := rU_uv e0 (by omega)
 obtain ⟨u1, u2, u3⟩ := uvK_some k1
 have u1' : uvK b 0 = true := u1
 have u2' : uvV b 0 = (l.length : Int) := u2
 have u3' : uvP b 0 = ((0 + (uvL l.length).length : Nat) : Int) := by rw [show uvP b 0 = ((0 : Nat) : Int) + ((uvL l.length).length : Int) from u3]; omega
 have ho : ∀ o ∈ l, isOpB o = true := fun o ho => by
  simp only [areB, Bool.and_eq_true, List.all_eq_true] at h
  exact h.1 o ho
 have r1 := os_enc m1 m3 l _ [] ho k2
 rw [decOL, if_neg (by rw [u1', u2', decide_eq_false (by omega)]; simp), u2', u3', Int.toNat_natCast, r1]
 simp only [List.nil_append]
 rw [if_pos hn]
theorem decO_true {b : List UInt8} {l1 l2 l3 l4 : Int} {l : List OpT} (h : decOL b l1 l2 l3 l4 = (l, true)) : areB l = true ∧ encO l = b := by
 unfold decOL at h
 split at h
 ·cases h
 ·rename_i hc
  split at h
  ·cases h
  ·rename_i l' h2
   split at h
   ·rename_i h3
    simp only [Prod.mk.injEq, and_true] at h
    subst h
    refine ⟨?_, h3⟩
    cases ha : areB l' with
    | true => rfl
    | false =>
     rw [encO_bad ha] at h3
     subst h3
     exfalso
     apply hc
     have : uvK [] 0 = false := rfl
     rw [this]; rfl
   ·cases h
theorem decO_cases (b : List UInt8) (l1 l2 l3 l4 : Int) : decOL b l1 l2 l3 l4 = ([], false) ∨ ∃ l, decOL b l1 l2 l3 l4 = (l, true) := by
 unfold decOL
 split
 ·exact .inl rfl
 ·split
  ·exact .inl rfl
  ·split
   ·exact .inr ⟨_, rfl⟩
   ·exact .inl rfl
theorem decO_small {l : List OpT} (h : areB l = true) : decO (encO l) = (l.map normO, true) := decO_enc h (fun n h1 _ => by omega) (fun n h1 _ => by omega)
theorem decO_big {l : List OpT} (h : areB l = true) : decOL (encO l) ((encO l).length : Int) ((encO l).length : Int) ((encO l).length : Int) ((encO l).length : Int) = (l.map normO, true) := decO_enc h (fun n _ h1 => by omega) (fun n _ h1 => by omega)
theorem decO_eq (b : List UInt8) : decOL b (b.length : Int) (b.length : Int) (b.length : Int) (b.length : Int) = decO b := by
 rcases decO_cases b (b.length : Int) (b.length : Int) (b.length : Int) (b.length : Int) with h1 | ⟨l, h1⟩
 ·rcases decO_cases b 100 100 200 100 with h2 | ⟨l, h2⟩
  ·rw [h1, decO, h2]
  ·obtain ⟨h3, h4⟩ := decO_true h2
   subst h4
   rw [decO_big h3] at h1; simp at h1
 ·obtain ⟨h3, h4⟩ := decO_true h1
  subst h4
  rw [decO_big h3, decO_small h3]
end Go.Proofs.YtoigmlbidpocnaaGreat

namespace Go.Proofs.YtoigmlbidpocnaaGreat
open Go.RowKit
open Go.Proofs
set_option linter.unusedVariables false
set_option linter.unusedSimpArgs false
theorem ok_impl_DecodeOps {b : List UInt8} (hb : b.length ≤ 16777216) : KFn Tryz.prog 9 [.one (.dv [] (bytesD (b)))] (.tup [(false, [(.key 95000)]), (false, [(.dv [] (.bool ((decO b).2)))])]) [(95000, some (kcOf false (opsD ((decO b).1))))] := by
 refine ⟨fn_intro Tryz.func9 rfl Tryz.ntmps9 Tryz.results9 rfl (fun C => ?_)⟩
 rw [← decO_eq]
 refine ok_fact (x := .tmp 0) (ev_tmp rfl) fun f0 => ?_
 iterate 6 refine z ?_
 refine zC Tryz.call24 ?_ (hf := ok_impl_ReadUvarint (b := b) (off := 0) (by omega))
 iterate 17 refine z ?_
 refine yQ rfl (fun c1 => ?_) fun c1 => ?_
 ·skip
  refine z ?_
  refine o_build0 (k := 95000) hT rfl rfl rfl rfl rfl rfl rfl rfl ?_
  iterate 3 refine z ?_
  rw [decO_bad c1]
  refine ok_weak (σ' := ⟨[(2, .one (.key 95000)), (3, .one (.dv [] (.bool (false))))], [], [(95000, some (kcOf false (opsD ([]))))]⟩) (weak_sub ⟨rfl, rfl, trivial⟩ trivial ⟨rfl, trivial⟩ rfl) ?_
  iterate 2 refine z ?_
  refine fin2 (res_tmp rfl) (res_tmp rfl) rfl rfl ?_
  first | exact ⟨rfl, rfl⟩ | skip
 ·skip
  have hub := uv_bds b 0
  have hn6 : uvV b 0 ≤ 6 := by have h8 := c1; simp only [Bool.or_eq_false_iff, decide_eq_false_iff_not] at h8; omega
  iterate 3 refine z ?_
  refine o_build0 (k := 95000) hT rfl rfl rfl rfl rfl rfl rfl rfl ?_
  iterate 7 refine z ?_
  refine ok_loop (ι := Nat × Int × List OpT) (fun zz => ⟨[(0, .one (.dv [] (bytesD (b)))), (4, .one (.dv [] (.int .i64 (uvV (b) (0))))), (5, .one (.dv [] (.int .i64 (zz.2.1)))), (7, .one (.key 95000)), (8, .one (.dv [] (.int .i64 ((zz.1 : Int)))))], [], [(95000, some (kcOf false (.sl 34 7 (zz.2.2.length) (zz.2.2.flatMap eOp))))]⟩) (fun zz => zz.1 ≤ (uvV b 0).toNat ∧ rdOs b (((b).length : Int)) (((b).length : Int)) (((b).length : Int)) (((b).length : Int)) (uvV b 0).toNat (uvP b 0) [] = rdOs b (((b).length : Int)) (((b).length : Int)) (((b).length : Int)) (((b).length : Int)) ((uvV b 0).toNat - zz.1) zz.2.1 zz.2.2 ∧ zz.2.2.length = zz.1) (fun zz => (uvV b 0).toNat - zz.1) ((0, uvP b 0, [])) ?_ (weak_sub ⟨rfl, rfl, rfl, rfl, rfl, trivial⟩ trivial ⟨rfl, trivial⟩ rfl) (fun zz hx => ?_)
  ·exact ⟨Nat.zero_le _, rfl, rfl⟩
  obtain ⟨k, p, l⟩ := zz
  replace hx : k ≤ (uvV b 0).toNat ∧ rdOs b (((b).length : Int)) (((b).length : Int)) (((b).length : Int)) (((b).length : Int)) (uvV b 0).toNat (uvP b 0) [] = rdOs b (((b).length : Int)) (((b).length : Int)) (((b).length : Int)) (((b).length : Int)) ((uvV b 0).toNat - k) p l ∧ l.length = k := hx
  obtain ⟨hk, hi, hl⟩ := hx
  show Ok _ _ _ _ _ (⟨[(0, .one (.dv [] (bytesD (b)))), (4, .one (.dv [] (.int .i64 (uvV (b) (0))))), (5, .one (.dv [] (.int .i64 (p)))), (7, .one (.key 95000)), (8, .one (.dv [] (.int .i64 ((k : Int)))))], [], [(95000, some (kcOf false (.sl 34 7 (l.length) (l.flatMap eOp))))]⟩ : St)
  iterate 6 refine z ?_
  refine yQ rfl (fun c2 => ?_) fun c2 => ?_
  ·skip
   have d2 := of_decide_eq_true c2
   have hk2 : k < (uvV b 0).toNat := by omega
   iterate 5 refine z ?_
   refine yO rfl rfl (pu_build hT hB rfl rfl rfl bp_nil) rfl ?_
   iterate 6 refine z ?_
   refine zC Tryz.call24 ?_ (hf := ok_impl_ReadUvarint (b := b) (off := p) (by omega))
   iterate 10 refine z ?_
   refine yO rfl rfl (pu_buildZ (len := 4) (e := 22) hT rfl rfl (by kernel_rfl) (by kernel_rfl)) rfl ?_
   iterate 8 refine z ?_
   refine ok_rounds 5 ?_
   refine rnd_step ?_
   iterate 3 refine z ?_
   refine ok_seq ?_
   refine yQ rfl (fun c3 => ?_) fun c3 => ?_
   ·skip
    have d3 := of_decide_eq_true c3
    iterate 11 refine z ?_
    refine yQ rfl (fun c4 => ?_) fun c4 => ?_
    ·skip
     refine ok_region ?_
     iterate 5 refine z ?_
     refine zK 51000 Tryz.call25 ?_ (hf := ok_impl_ReadBytes (b := b) (off := uvP (b) (p)) (m := (((b)).length : Int)) (by omega))
     iterate 4 refine z ?_
     refine yO rfl rfl (pu_indexB (len := 4) (e := 22) (sz := 1) rfl (by kernel_rfl) (by kernel_rfl) rfl (ev_tmp rfl) (ev_tmp rfl) (by decide) (by decide)) rfl ?_
     iterate 3 refine z ?_
     refine ops_nil ?_
     iterate 2 refine z ?_
     refine ok_region ?_
     refine yO rfl rfl (pu_eqI (n := 1) (pu_addR rfl (ev_tmp rfl) (ev_int (inR_lit rfl)) (inR64 (by omega) (by omega))) (by decide)) rfl ?_
     iterate 2 refine z ?_
     refine rnd_step ?_
     iterate 3 refine z ?_
     refine ok_seq ?_
     refine yQ rfl (fun c5 => ?_) fun c5 => ?_
     ·skip
      have d5 := of_decide_eq_true c5
      iterate 11 refine z ?_
      refine yQ rfl (fun c6 => ?_) fun c6 => ?_
      ·skip
       refine ok_region ?_
       iterate 5 refine z ?_
       refine zK 52000 Tryz.call25 ?_ (hf := ok_impl_ReadBytes (b := b) (off := rbP (rdB (b) (uvP (b) (p)) ((((b)).length : Int)))) (m := (((b)).length : Int)) (by omega))
       iterate 4 refine z ?_
       refine yO rfl rfl (pu_indexB (len := 4) (e := 22) (sz := 1) rfl (by kernel_rfl) (by kernel_rfl) rfl (ev_tmp rfl) (ev_tmp rfl) (by decide) (by decide)) rfl ?_
       iterate 3 refine z ?_
       refine ops_nil ?_
       iterate 2 refine z ?_
       refine ok_region ?_
       refine yO rfl rfl (pu_eqI (n := 2) (pu_addR rfl (ev_tmp rfl) (ev_int (inR_lit rfl)) (inR64 (by omega) (by omega))) (by decide)) rfl ?_
       iterate 2 refine z ?_
       refine rnd_step ?_
       iterate 3 refine z ?_
       refine ok_seq ?_
       refine yQ rfl (fun c7 => ?_) fun c7 => ?_
       ·skip
        have d7 := of_decide_eq_true c7
        iterate 11 refine z ?_
        refine yQ rfl (fun c8 => ?_) fun c8 => ?_
        ·skip
         refine ok_region ?_
         iterate 5 refine z ?_
         refine zK 53000 Tryz.call25 ?_ (hf := ok_impl_ReadBytes (b := b) (off := rbP (rdB (b) (rbP (rdB (b) (uvP (b) (p)) ((((b)).length : Int)))) ((((b)).length : Int)))) (m := (((b)).length : Int)) (by omega))
         iterate 4 refine z ?_
         refine yO rfl rfl (pu_indexB (len := 4) (e := 22) (sz := 1) rfl (by kernel_rfl) (by kernel_rfl) rfl (ev_tmp rfl) (ev_tmp rfl) (by decide) (by decide)) rfl ?_
         iterate 3 refine z ?_
         refine ops_nil ?_
         iterate 2 refine z ?_
         refine ok_region ?_
         refine yO rfl rfl (pu_eqI (n := 3) (pu_addR rfl (ev_tmp rfl) (ev_int (inR_lit rfl)) (inR64 (by omega) (by omega))) (by decide)) rfl ?_
         iterate 2 refine z ?_
         refine rnd_step ?_
         iterate 3 refine z ?_
         refine ok_seq ?_
         refine yQ rfl (fun c9 => ?_) fun c9 => ?_
         ·skip
          have d9 := of_decide_eq_true c9
          iterate 11 refine z ?_
          refine yQ rfl (fun c10 => ?_) fun c10 => ?_
          ·skip
           refine ok_region ?_
           iterate 5 refine z ?_
           refine zK 54000 Tryz.call25 ?_ (hf := ok_impl_ReadBytes (b := b) (off := rbP (rdB (b) (rbP (rdB (b) (rbP (rdB (b) (uvP (b) (p)) ((((b)).length : Int)))) ((((b)).length : Int)))) ((((b)).length : Int)))) (m := (((b)).length : Int)) (by omega))
           iterate 4 refine z ?_
           refine yO rfl rfl (pu_indexB (len := 4) (e := 22) (sz := 1) rfl (by kernel_rfl) (by kernel_rfl) rfl (ev_tmp rfl) (ev_tmp rfl) (by decide) (by decide)) rfl ?_
           iterate 3 refine z ?_
           refine ops_nil ?_
           iterate 2 refine z ?_
           refine ok_region ?_
           refine yO rfl rfl (pu_eqI (n := 4) (pu_addR rfl (ev_tmp rfl) (ev_int (inR_lit rfl)) (inR64 (by omega) (by omega))) (by decide)) rfl ?_
           iterate 2 refine z ?_
           refine rnd_step ?_
           iterate 3 refine z ?_
           refine ok_seq ?_
           refine yQ rfl (fun c11 => ?_) fun c11 => ?_
           ·exact absurd c11 (by decide)
           ·skip
            have d11 := of_decide_eq_false c11
            iterate 10 refine z ?_
            refine yQ rfl (fun c12 => ?_) fun c12 => ?_
            ·skip
             refine ok_seq ?_
             refine ok_weak (σ' := ⟨[(0, .one (.dv [] (bytesD (b))))], [], []⟩) (weak_sub ⟨rfl, trivial⟩ trivial trivial rfl) ?_
             refine ok_region ?_
             refine o_build0 (k := 95000) hT rfl rfl rfl rfl rfl rfl rfl rfl ?_
             iterate 3 refine z ?_
             rw [decO_none c1 (hi.trans (os_no hk2 (by simp only [opBad]; simp [*])))]
             refine ok_weak (σ' := ⟨[(2, .one (.key 95000)), (3, .one (.dv [] (.bool (false))))], [], [(95000, some (kcOf false (opsD ([]))))]⟩) (weak_sub ⟨rfl, rfl, trivial⟩ trivial ⟨rfl, trivial⟩ rfl) ?_
             iterate 7 refine z ?_
             refine fin2 (res_tmp rfl) (res_tmp rfl) rfl rfl ?_
             first | exact ⟨rfl, rfl⟩ | skip
            ·skip
             iterate 3 refine z ?_
             refine yO rfl rfl (pu_indexB (len := 4) (e := 22) (sz := 1) rfl (by kernel_rfl) (by kernel_rfl) rfl (ev_tmp rfl) (ev_int (inR_lit rfl)) (by decide) (by decide)) rfl ?_
             refine z ?_
             refine yO rfl rfl (pu_convBS (K := [51000]) (e := 5) (xs := (headB (rdB (b) (uvP (b) (p)) ((((b)).length : Int))))) hT rfl rfl rfl rfl (ev_keyv (k := 51000) (c := kcOf false (bytesD (headB (rdB (b) (uvP (b) (p)) ((((b)).length : Int)))))) (ev_tmp rfl) rfl)) rfl ?_
             iterate 4 refine z ?_
             refine yO rfl rfl (pu_indexB (len := 4) (e := 22) (sz := 1) rfl (by kernel_rfl) (by kernel_rfl) rfl (ev_tmp rfl) (ev_int (inR_lit rfl)) (by decide) (by decide)) rfl ?_
             refine z ?_
             refine o_call rfl rfl rfl Tryz.call26 (ok_impl_DecodeKey (b := headB (ox2 b (((b).length : Int)) (((b).length : Int)) p)) (by have := (rb_bds b (rbP (ox1 b (((b).length : Int)) p)) ((b).length : Int)).2.2; exact Nat.le_trans this (by omega))) (as_cons (ev_tmp rfl) (ag_one (ac_key' rfl rfl)) as_nil) rfl rfl ?_
             iterate 7 refine z ?_
             refine yO rfl rfl (pu_indexB (len := 4) (e := 22) (sz := 1) rfl (by kernel_rfl) (by kernel_rfl) rfl (ev_tmp rfl) (ev_int (inR_lit rfl)) (by decide) (by decide)) rfl ?_
             refine z ?_
             refine o_callK 74000 rfl rfl rfl Tryz.call27 (ok_impl_DecodeRecord (b := headB (ox3 b (((b).length : Int)) (((b).length : Int)) (((b).length : Int)) p)) (by have := (rb_bds b (rbP (ox2 b (((b).length : Int)) (((b).length : Int)) p)) ((b).length : Int)).2.2; exact Nat.le_trans this (by omega))) (as_cons (ev_tmp rfl) (ag_one (ac_key' rfl rfl)) as_nil) rfl rfl rfl ?_
             iterate 7 refine z ?_
             refine yO rfl rfl (pu_indexB (len := 4) (e := 22) (sz := 1) rfl (by kernel_rfl) (by kernel_rfl) rfl (ev_tmp rfl) (ev_int (inR_lit rfl)) (by decide) (by decide)) rfl ?_
             refine z ?_
             refine yO rfl rfl (pu_convBS (K := [54000]) (e := 5) (xs := (headB (rdB (b) (rbP (rdB (b) (rbP (rdB (b) (rbP (rdB (b) (uvP (b) (p)) ((((b)).length : Int)))) ((((b)).length : Int)))) ((((b)).length : Int)))) ((((b)).length : Int))))) hT rfl rfl rfl rfl (ev_keyv (k := 54000) (c := kcOf false (bytesD (headB (rdB (b) (rbP (rdB (b) (rbP (rdB (b) (rbP (rdB (b) (uvP (b) (p)) ((((b)).length : Int)))) ((((b)).length : Int)))) ((((b)).length : Int)))) ((((b)).length : Int)))))) (ev_tmp rfl) rfl)) rfl ?_
             iterate 3 refine z ?_
             refine ok_region ?_
             iterate 2 refine z ?_
             refine o_build1 (k := 84) (js := [83001]) hT rfl rfl rfl rfl rfl rfl rfl rfl rfl (ev_tmp rfl) rfl rfl (ow_cons' (ow_dv rfl) (ow_cons' (ow_dv rfl) (ow_cons' (ow_dv rfl) (ow_cons' (ow_dv rfl) (ow_cons' (ow_dv rfl) (ow_cons' (ow_key rfl) (ow_cons' (ow_dv rfl) ow_nil rfl) rfl) rfl) rfl) rfl) rfl) rfl) (by decide) (by decide) rfl rfl ?_
             simp only [killT, killB, SV.kill, CV.kill, kk, Nat.reduceBEq]
             refine o_appK (k := 95000) (j := 84) (cs := (l ++ [(opVal b (((b).length : Int)) (((b).length : Int)) (((b).length : Int)) (((b).length : Int)) p)]).flatMap eOp) (n := (l ++ [(opVal b (((b).length : Int)) (((b).length : Int)) (((b).length : Int)) (((b).length : Int)) p)]).length) hT rfl rfl rfl rfl rfl rfl rfl (ev_tmp rfl) rfl rfl rfl (ev_tmp rfl) rfl rfl (by decide) (by dsimp only [kcOf, KC.old]; omega) (by dsimp only [kcOf, KC.old]; omega) (by rw [List.length_append]; rfl) (by rw [List.flatMap_append]; rfl) ?_
             simp only [killT, killB, SV.kill, CV.kill, kk, Nat.reduceBEq]
             refine z ?_
             refine ops_nil ?_
             iterate 2 refine z ?_
             refine ok_region ?_
             iterate 4 refine z ?_
             refine ⟨(k + 1, rbP (ox4 b (((b).length : Int)) (((b).length : Int)) (((b).length : Int)) (((b).length : Int)) p), l ++ [(opVal b (((b).length : Int)) (((b).length : Int)) (((b).length : Int)) (((b).length : Int)) p)]), ?_, ?_, weak_sub ⟨rfl, rfl, rfl, rfl, rfl, trivial⟩ trivial ⟨rfl, trivial⟩ rfl⟩
             ·exact ⟨by dsimp only; omega, hi.trans (os_go hk2 (by simp only [opBad]; simp [*])), by show (l ++ _).length = k + 1; rw [List.length_append, hl]; rfl⟩
             ·dsimp only; omega
          ·skip
           iterate 3 refine z ?_
           refine ok_region ?_
           refine yO rfl rfl (pu_eqI (n := 4) (pu_addR rfl (ev_tmp rfl) (ev_int (inR_lit rfl)) (inR64 (by omega) (by omega))) (by decide)) rfl ?_
           iterate 2 refine z ?_
           refine rnd_step ?_
           iterate 3 refine z ?_
           refine ok_seq ?_
           refine yQ rfl (fun c13 => ?_) fun c13 => ?_
           ·exact absurd c13 (by decide)
           ·skip
            have d13 := of_decide_eq_false c13
            iterate 10 refine z ?_
            refine yQ rfl (fun c14 => ?_) fun c14 => ?_
            ·skip
             refine ok_seq ?_
             refine ok_weak (σ' := ⟨[(0, .one (.dv [] (bytesD (b))))], [], []⟩) (weak_sub ⟨rfl, trivial⟩ trivial trivial rfl) ?_
             refine ok_region ?_
             refine o_build0 (k := 95000) hT rfl rfl rfl rfl rfl rfl rfl rfl ?_
             iterate 3 refine z ?_
             rw [decO_none c1 (hi.trans (os_no hk2 (by simp only [opBad]; simp [*])))]
             refine ok_weak (σ' := ⟨[(2, .one (.key 95000)), (3, .one (.dv [] (.bool (false))))], [], [(95000, some (kcOf false (opsD ([]))))]⟩) (weak_sub ⟨rfl, rfl, trivial⟩ trivial ⟨rfl, trivial⟩ rfl) ?_
             iterate 7 refine z ?_
             refine fin2 (res_tmp rfl) (res_tmp rfl) rfl rfl ?_
             first | exact ⟨rfl, rfl⟩ | skip
            ·rw [c10] at c14; exact absurd c14 (by decide)
         ·exact absurd c9 (by decide)
        ·skip
         iterate 3 refine z ?_
         refine ok_region ?_
         refine yO rfl rfl (pu_eqI (n := 3) (pu_addR rfl (ev_tmp rfl) (ev_int (inR_lit rfl)) (inR64 (by omega) (by omega))) (by decide)) rfl ?_
         iterate 2 refine z ?_
         refine rnd_step ?_
         iterate 3 refine z ?_
         refine ok_seq ?_
         refine yQ rfl (fun c15 => ?_) fun c15 => ?_
         ·skip
          have d15 := of_decide_eq_true c15
          iterate 11 refine z ?_
          refine yQ rfl (fun c16 => ?_) fun c16 => ?_
          ·exact absurd (c8.symm.trans c16) (by decide)
          ·skip
           iterate 3 refine z ?_
           refine ok_region ?_
           refine yO rfl rfl (pu_eqI (n := 4) (pu_addR rfl (ev_tmp rfl) (ev_int (inR_lit rfl)) (inR64 (by omega) (by omega))) (by decide)) rfl ?_
           iterate 2 refine z ?_
           refine rnd_step ?_
           iterate 3 refine z ?_
           refine ok_seq ?_
           refine yQ rfl (fun c17 => ?_) fun c17 => ?_
           ·exact absurd c17 (by decide)
           ·skip
            have d17 := of_decide_eq_false c17
            iterate 10 refine z ?_
            refine yQ rfl (fun c18 => ?_) fun c18 => ?_
            ·skip
             refine ok_seq ?_
             refine ok_weak (σ' := ⟨[(0, .one (.dv [] (bytesD (b))))], [], []⟩) (weak_sub ⟨rfl, trivial⟩ trivial trivial rfl) ?_
             refine ok_region ?_
             refine o_build0 (k := 95000) hT rfl rfl rfl rfl rfl rfl rfl rfl ?_
             iterate 3 refine z ?_
             rw [decO_none c1 (hi.trans (os_no hk2 (by simp only [opBad]; simp [*])))]
             refine ok_weak (σ' := ⟨[(2, .one (.key 95000)), (3, .one (.dv [] (.bool (false))))], [], [(95000, some (kcOf false (opsD ([]))))]⟩) (weak_sub ⟨rfl, rfl, trivial⟩ trivial ⟨rfl, trivial⟩ rfl) ?_
             iterate 7 refine z ?_
             refine fin2 (res_tmp rfl) (res_tmp rfl) rfl rfl ?_
             first | exact ⟨rfl, rfl⟩ | skip
            ·rw [c8] at c18; exact absurd c18 (by decide)
         ·exact absurd c15 (by decide)
       ·exact absurd c7 (by decide)
      ·skip
       iterate 3 refine z ?_
       refine ok_region ?_
       refine yO rfl rfl (pu_eqI (n := 2) (pu_addR rfl (ev_tmp rfl) (ev_int (inR_lit rfl)) (inR64 (by omega) (by omega))) (by decide)) rfl ?_
       iterate 2 refine z ?_
       refine rnd_step ?_
       iterate 3 refine z ?_
       refine ok_seq ?_
       refine yQ rfl (fun c19 => ?_) fun c19 => ?_
       ·skip
        have d19 := of_decide_eq_true c19
        iterate 11 refine z ?_
        refine yQ rfl (fun c20 => ?_) fun c20 => ?_
        ·exact absurd (c6.symm.trans c20) (by decide)
        ·skip
         iterate 3 refine z ?_
         refine ok_region ?_
         refine yO rfl rfl (pu_eqI (n := 3) (pu_addR rfl (ev_tmp rfl) (ev_int (inR_lit rfl)) (inR64 (by omega) (by omega))) (by decide)) rfl ?_
         iterate 2 refine z ?_
         refine rnd_step ?_
         iterate 3 refine z ?_
         refine ok_seq ?_
         refine yQ rfl (fun c21 => ?_) fun c21 => ?_
         ·skip
          have d21 := of_decide_eq_true c21
          iterate 11 refine z ?_
          refine yQ rfl (fun c22 => ?_) fun c22 => ?_
          ·exact absurd (c6.symm.trans c22) (by decide)
          ·skip
           iterate 3 refine z ?_
           refine ok_region ?_
           refine yO rfl rfl (pu_eqI (n := 4) (pu_addR rfl (ev_tmp rfl) (ev_int (inR_lit rfl)) (inR64 (by omega) (by omega))) (by decide)) rfl ?_
           iterate 2 refine z ?_
           refine rnd_step ?_
           iterate 3 refine z ?_
           refine ok_seq ?_
           refine yQ rfl (fun c23 => ?_) fun c23 => ?_
           ·exact absurd c23 (by decide)
           ·skip
            have d23 := of_decide_eq_false c23
            iterate 10 refine z ?_
            refine yQ rfl (fun c24 => ?_) fun c24 => ?_
            ·skip
             refine ok_seq ?_
             refine ok_weak (σ' := ⟨[(0, .one (.dv [] (bytesD (b))))], [], []⟩) (weak_sub ⟨rfl, trivial⟩ trivial trivial rfl) ?_
             refine ok_region ?_
             refine o_build0 (k := 95000) hT rfl rfl rfl rfl rfl rfl rfl rfl ?_
             iterate 3 refine z ?_
             rw [decO_none c1 (hi.trans (os_no hk2 (by simp only [opBad]; simp [*])))]
             refine ok_weak (σ' := ⟨[(2, .one (.key 95000)), (3, .one (.dv [] (.bool (false))))], [], [(95000, some (kcOf false (opsD ([]))))]⟩) (weak_sub ⟨rfl, rfl, trivial⟩ trivial ⟨rfl, trivial⟩ rfl) ?_
             iterate 7 refine z ?_
             refine fin2 (res_tmp rfl) (res_tmp rfl) rfl rfl ?_
             first | exact ⟨rfl, rfl⟩ | skip
            ·rw [c6] at c24; exact absurd c24 (by decide)
         ·exact absurd c21 (by decide)
       ·exact absurd c19 (by decide)
     ·exact absurd c5 (by decide)
    ·skip
     iterate 3 refine z ?_
     refine ok_region ?_
     refine yO rfl rfl (pu_eqI (n := 1) (pu_addR rfl (ev_tmp rfl) (ev_int (inR_lit rfl)) (inR64 (by omega) (by omega))) (by decide)) rfl ?_
     iterate 2 refine z ?_
     refine rnd_step ?_
     iterate 3 refine z ?_
     refine ok_seq ?_
     refine yQ rfl (fun c25 => ?_) fun c25 => ?_
     ·skip
      have d25 := of_decide_eq_true c25
      iterate 11 refine z ?_
      refine yQ rfl (fun c26 => ?_) fun c26 => ?_
      ·exact absurd (c4.symm.trans c26) (by decide)
      ·skip
       iterate 3 refine z ?_
       refine ok_region ?_
       refine yO rfl rfl (pu_eqI (n := 2) (pu_addR rfl (ev_tmp rfl) (ev_int (inR_lit rfl)) (inR64 (by omega) (by omega))) (by decide)) rfl ?_
       iterate 2 refine z ?_
       refine rnd_step ?_
       iterate 3 refine z ?_
       refine ok_seq ?_
       refine yQ rfl (fun c27 => ?_) fun c27 => ?_
       ·skip
        have d27 := of_decide_eq_true c27
        iterate 11 refine z ?_
        refine yQ rfl (fun c28 => ?_) fun c28 => ?_
        ·exact absurd (c4.symm.trans c28) (by decide)
        ·skip
         iterate 3 refine z ?_
         refine ok_region ?_
         refine yO rfl rfl (pu_eqI (n := 3) (pu_addR rfl (ev_tmp rfl) (ev_int (inR_lit rfl)) (inR64 (by omega) (by omega))) (by decide)) rfl ?_
         iterate 2 refine z ?_
         refine rnd_step ?_
         iterate 3 refine z ?_
         refine ok_seq ?_
         refine yQ rfl (fun c29 => ?_) fun c29 => ?_
         ·skip
          have d29 := of_decide_eq_true c29
          iterate 11 refine z ?_
          refine yQ rfl (fun c30 => ?_) fun c30 => ?_
          ·exact absurd (c4.symm.trans c30) (by decide)
          ·skip
           iterate 3 refine z ?_
           refine ok_region ?_
           refine yO rfl rfl (pu_eqI (n := 4) (pu_addR rfl (ev_tmp rfl) (ev_int (inR_lit rfl)) (inR64 (by omega) (by omega))) (by decide)) rfl ?_
           iterate 2 refine z ?_
           refine rnd_step ?_
           iterate 3 refine z ?_
           refine ok_seq ?_
           refine yQ rfl (fun c31 => ?_) fun c31 => ?_
           ·exact absurd c31 (by decide)
           ·skip
            have d31 := of_decide_eq_false c31
            iterate 10 refine z ?_
            refine yQ rfl (fun c32 => ?_) fun c32 => ?_
            ·skip
             refine ok_seq ?_
             refine ok_weak (σ' := ⟨[(0, .one (.dv [] (bytesD (b))))], [], []⟩) (weak_sub ⟨rfl, trivial⟩ trivial trivial rfl) ?_
             refine ok_region ?_
             refine o_build0 (k := 95000) hT rfl rfl rfl rfl rfl rfl rfl rfl ?_
             iterate 3 refine z ?_
             rw [decO_none c1 (hi.trans (os_no hk2 (by simp only [opBad]; simp [*])))]
             refine ok_weak (σ' := ⟨[(2, .one (.key 95000)), (3, .one (.dv [] (.bool (false))))], [], [(95000, some (kcOf false (opsD ([]))))]⟩) (weak_sub ⟨rfl, rfl, trivial⟩ trivial ⟨rfl, trivial⟩ rfl) ?_
             iterate 7 refine z ?_
             refine fin2 (res_tmp rfl) (res_tmp rfl) rfl rfl ?_
             first | exact ⟨rfl, rfl⟩ | skip
            ·rw [c4] at c32; exact absurd c32 (by decide)
         ·exact absurd c29 (by decide)
       ·exact absurd c27 (by decide)
     ·exact absurd c25 (by decide)
   ·exact absurd c3 (by decide)
  ·skip
   have d2 := of_decide_eq_false c2
   have hfe := hi.trans (os_end (by omega))
   iterate 8 refine z ?_
   refine o_callK 87000 rfl rfl rfl Tryz.call6 (ok_impl_EncodeOps (l := l)) (as_cons (ev_tmp rfl) (ag_one (ac_key' rfl rfl)) as_nil) rfl rfl rfl ?_
   refine z ?_
   refine o_call rfl rfl rfl Tryz.call28 (ok_impl_EqualBytes (x := encO (l)) (y := b) ) (as_cons (ev_tmp rfl) (ag_one (ac_key' rfl rfl)) (as_cons (ev_tmp rfl) (ag_one ac_dv) as_nil)) rfl rfl ?_
   iterate 2 refine z ?_
   refine yQ rfl (fun c33 => ?_) fun c33 => ?_
   ·skip
    refine ok_seq ?_
    refine ok_weak (σ' := ⟨[(0, .one (.dv [] (bytesD (b))))], [], []⟩) (weak_sub ⟨rfl, trivial⟩ trivial trivial rfl) ?_
    refine ok_region ?_
    refine o_build0 (k := 95000) hT rfl rfl rfl rfl rfl rfl rfl rfl ?_
    iterate 3 refine z ?_
    rw [decO_no c1 hfe (by assumption)]
    refine ok_weak (σ' := ⟨[(2, .one (.key 95000)), (3, .one (.dv [] (.bool (false))))], [], [(95000, some (kcOf false (opsD ([]))))]⟩) (weak_sub ⟨rfl, rfl, trivial⟩ trivial ⟨rfl, trivial⟩ rfl) ?_
    iterate 2 refine z ?_
    refine fin2 (res_tmp rfl) (res_tmp rfl) rfl rfl ?_
    first | exact ⟨rfl, rfl⟩ | skip
   ·skip
    iterate 7 refine z ?_
    rw [decO_yes c1 hfe (by assumption)]
    refine ok_weak (σ' := ⟨[(2, .one (.key 95000)), (3, .one (.dv [] (.bool (true))))], [], [(95000, some (kcOf false (opsD (l))))]⟩) (weak_sub ⟨rfl, rfl, trivial⟩ trivial ⟨rfl, trivial⟩ rfl) ?_
    refine z ?_
    refine fin2 (res_tmp rfl) (res_tmp rfl) rfl rfl ?_
    first | exact ⟨rfl, rfl⟩ | skip
end Go.Proofs.YtoigmlbidpocnaaGreat

namespace Go.Proofs.YtoigmlbidpocnaaGreat
open Go.RowKit
open Go.Proofs
set_option linter.unusedVariables false
set_option linter.unusedSimpArgs false
def posN (n : Str) : List StoreT → Nat
 | [] => 0
 | s :: l => if sLt s.1 n then posN n l + 1 else 0
def insS (l : List StoreT) (j : Nat) (s : StoreT) : List StoreT := l.take j ++ s :: l.drop j
@[reducible] def idxU (d : DbT) (x : DefT) : Int := findI (eqDefB x) d.2.2.2 0
def notN (n : Str) (y : DefT) : Bool := !sEq y.1 n
def notS (n : Str) (s : StoreT) : Bool := !sEq s.1 n
def upI (d : DbT) (u : UpgT) : DbT × Bool :=
 if u.1 = 1 then ((d.1, d.2.1, insS d.2.2.1 (posN u.2.1 d.2.2.1) (u.2.1, [], 0), d.2.2.2), decide (fndS d u.2.1 < 0))
 else if u.1 = 2 then ((d.1, d.2.1, (if 0 ≤ fndS d u.2.1 then d.2.2.1.eraseIdx (fndS d u.2.1).toNat else d.2.2.1), d.2.2.2.filter (notN u.2.1)), decide (0 ≤ fndS d u.2.1))
 else if u.1 = 3 then ((d.1, d.2.1, d.2.2.1, d.2.2.2 ++ [u.2]), decide (idxU d u.2 < 0))
 else if u.1 = 4 then ((d.1, d.2.1, d.2.2.1, (if 0 ≤ idxU d u.2 then d.2.2.2.eraseIdx (idxU d u.2).toNat else d.2.2.2)), decide (0 ≤ idxU d u.2))
 else (d, false)
def upA (d : DbT) (u : UpgT) : DbT × Bool := if (!isDb d || !(upI d u).2 || !isDb (upI d u).1) = true then (d, false) else ((upI d u).1, true)
def dropD (d : DbT) (n : Str) : DbT := (d.1, d.2.1, d.2.2.1.filter (notS n), d.2.2.2.filter (notN n))
theorem posN_step {n : Str} {l : List StoreT} {j : Nat} (hp : posN n l = j + posN n (l.drop j)) (h3 : j < l.length) (h2 : sLt (l.getD (j : Int).toNat default).1 n = true) : posN n l = (j + 1) + posN n (l.drop (j + 1)) := by
 have e : l.drop j = l.getD (j : Int).toNat default :: l.drop (j + 1) := by rw [List.drop_eq_getElem_cons h3]; simp [List.getD, List.getElem?_eq_getElem h3]
 rw [hp, e, posN, if_pos h2]
 omega
theorem posN_stop {n : Str} {l : List StoreT} {j : Nat} (hp : posN n l = j + posN n (l.drop j)) (hj : j ≤ l.length) (h2 : (decide ((j : Int) < (l.length : Int)) && sLt (l.getD (j : Int).toNat default).1 n) = false) : posN n l = j := by
 rcases Nat.lt_or_ge j l.length with h3 | h3
 ·rw [decide_eq_true (by omega : (j : Int) < (l.length : Int)), Bool.true_and] at h2
  have e : l.drop j = l.getD (j : Int).toNat default :: l.drop (j + 1) := by rw [List.drop_eq_getElem_cons h3]; simp [List.getD, List.getElem?_eq_getElem h3]
  rw [hp, e, posN, if_neg (by rw [h2]; simp)]; omega
 ·rw [hp, List.drop_eq_nil_of_le h3, posN]; omega
theorem insS_len {l : List StoreT} {j : Nat} {s : StoreT} (h : j ≤ l.length) : (insS l j s).length = l.length + 1 := by
 rw [insS, List.length_append, List.length_cons, List.length_take, List.length_drop]; omega
def srtN : List StoreT → Prop
 | [] => True
 | y :: ys => (∀ z ∈ ys, sLt y.1 z.1 = true) ∧ srtN ys
theorem srtN_of : ∀ (l : List StoreT), (∀ i, i + 1 < l.length → sLt (l.getD i default).1 (l.getD (i + 1) default).1 = true) → srtN l
 | [], _ => trivial
 | [y], _ => ⟨by simp, trivial⟩
 | y :: z :: l, h => by
  have ih := srtN_of (z :: l) (fun i hi => by have := h (i + 1) (by simp only [List.length_cons] at hi ⊢; omega); simpa using this)
  have h0 : sLt y.1 z.1 = true := by simpa using h 0 (by simp)
  refine ⟨fun u hu => ?_, ih⟩
  rcases List.mem_cons.1 hu with rfl | hu
  ·exact h0
  ·exact bl_trans _ _ _ h0 (ih.1 u hu)
theorem db_srt {d : DbT} (h : isDb d = true) : srtN d.2.2.1 := by
 refine srtN_of _ (fun i hi => ?_)
 rw [isDb, Bool.and_eq_true, Bool.and_eq_true] at h
 have h1 := h.2.1
 rw [dbSt, List.all_eq_true] at h1
 have h2 := h1 (i + 1) (List.mem_range.2 hi)
 rw [← stBadS_eq] at h2
 simp only [stBadS, Bool.not_eq_true', Bool.or_eq_false_iff] at h2
 have h3 := h2.2
 rw [decide_eq_true (by omega : (0 : Int) < ((i + 1 : Nat) : Int)), Bool.true_and, show (((i + 1 : Nat) : Int) - 1).toNat = i by omega, Int.toNat_natCast] at h3
 simpa using h3
theorem notS_has (n : Str) (s : StoreT) : notS n s = !hasName n s := rfl
theorem filtS_all {n : Str} {l : List StoreT} (h : ∀ z ∈ l, sEq z.1 n = false) : l.filter (notS n) = l := by
 rw [List.filter_eq_self]
 intro y hy
 rw [notS, h y hy]; rfl
theorem srt_filt {n : Str} : ∀ (l : List StoreT) (i : Int), 0 ≤ i → srtN l → i ≤ findI (hasName n) l i → l.filter (notS n) = l.eraseIdx (findI (hasName n) l i - i).toNat
 | [], i, hi, _, h => by rw [findI] at h; omega
 | y :: ys, i, hi, hs, h => by
  by_cases hp : hasName n y = true
  ·rw [findI, if_pos hp, show (i - i).toNat = 0 by omega, List.eraseIdx_cons_zero, List.filter_cons_of_neg (by rw [notS_has, hp]; simp)]
   refine filtS_all (fun z hz => ?_)
   have h1 := hs.1 z hz
   cases h2 : sEq z.1 n with
   | false => rfl
   | true =>
    have e1 : z.1.toList = n.toList := by simpa [sEq] using h2
    have e2 : y.1.toList = n.toList := by simpa [hasName, sEq] using hp
    rw [sLt, e1, e2, bl_irr] at h1; cases h1
  ·rw [findI, if_neg hp] at h ⊢
   have h1 : i + 1 ≤ findI (hasName n) ys (i + 1) := by
    rcases findI_cases (p := hasName n) (d := default) ys (i + 1) (by omega) with ⟨h2, _⟩ | ⟨m, _, h2, _, _⟩ <;> omega
   have ih := srt_filt ys (i + 1) (by omega) hs.2 h1
   rw [show (findI (hasName n) ys (i + 1) - i).toNat = (findI (hasName n) ys (i + 1) - (i + 1)).toNat + 1 by omega, List.eraseIdx_cons_succ, List.filter_cons_of_pos (by rw [notS_has]; simpa using hp), ih]
theorem drop_eq {d : DbT} {n : Str} (h : isDb d = true) (hk : 0 ≤ fndS d n) : d.2.2.1.filter (notS n) = d.2.2.1.eraseIdx (fndS d n).toNat := by
 have := srt_filt (n := n) d.2.2.1 0 (by omega) (db_srt h) hk
 rw [this, Int.sub_zero]
section
variable {d : DbT} {u : UpgT}
theorem upA_bad (h : isDb d = false) : upA d u = (d, false) := by rw [upA, if_pos (by rw [h]; rfl)]
theorem upA_no (h : (upI d u).2 = false) : upA d u = (d, false) := by rw [upA, if_pos (by rw [h]; simp)]
theorem upA_out {o : DbT} (e : isDb d = true → (upI d u).1 = o) (h : (!isDb d || !isDb o) = true) : upA d u = (d, false) := by
 cases hd : isDb d with
 | false => exact upA_bad hd
 | true =>
  rw [hd] at h
  rw [upA, if_pos (by rw [e hd]; simp only [Bool.not_true, Bool.false_or] at h; rw [h]; simp)]
theorem upA_yes {o : DbT} (e : isDb d = true → (upI d u).1 = o) (e2 : (upI d u).2 = true) (h : (!isDb d || !isDb o) = false) : upA d u = (o, true) := by
 simp only [Bool.or_eq_false_iff, Bool.not_eq_false'] at h
 rw [upA, if_neg (by rw [e h.1, h.1, e2, h.2]; simp), e h.1]
theorem isDb_un0 {x : DefT} (h : fndS d x.1 < 0) : isDb (d.1, d.2.1, d.2.2.1, d.2.2.2 ++ [x]) = false := by
 refine isDb_un (k := d.2.2.2.length) (by simp) ?_
 have e : (d.2.2.2 ++ [x]).getD ((d.2.2.2.length : Nat) : Int).toNat default = x := by simp [List.getD]
 unfold unBad
 simp only [e]
 rw [decide_eq_true (show fndS (d.1, d.2.1, d.2.2.1, d.2.2.2 ++ [x]) x.1 < 0 from h)]
 rfl
theorem upA_un0 (h1 : u.1 = 3) (h : fndS d u.2.1 < 0) : upA d u = (d, false) := by
 have e : (upI d u).1 = (d.1, d.2.1, d.2.2.1, d.2.2.2 ++ [u.2]) := by unfold upI; rw [if_neg (by omega), if_neg (by omega), if_pos h1]
 rw [upA, if_pos (by rw [e, isDb_un0 h]; simp)]
theorem upI_1 (h1 : u.1 = 1) : upI d u = ((d.1, d.2.1, insS d.2.2.1 (posN u.2.1 d.2.2.1) (u.2.1, [], 0), d.2.2.2), decide (fndS d u.2.1 < 0)) := by unfold upI; rw [if_pos h1]
theorem upI_2 (h1 : u.1 = 2) (h : 0 ≤ fndS d u.2.1) : upI d u = ((d.1, d.2.1, d.2.2.1.eraseIdx (fndS d u.2.1).toNat, d.2.2.2.filter (notN u.2.1)), decide (0 ≤ fndS d u.2.1)) := by unfold upI; rw [if_neg (by omega), if_pos h1, if_pos h]
theorem upI_2n (h1 : u.1 = 2) (h : ¬ 0 ≤ fndS d u.2.1) : upI d u = ((d.1, d.2.1, d.2.2.1, d.2.2.2.filter (notN u.2.1)), decide (0 ≤ fndS d u.2.1)) := by unfold upI; rw [if_neg (by omega), if_pos h1, if_neg h]
theorem upI_3 (h1 : u.1 = 3) : upI d u = ((d.1, d.2.1, d.2.2.1, d.2.2.2 ++ [u.2]), decide (idxU d u.2 < 0)) := by unfold upI; rw [if_neg (by omega), if_neg (by omega), if_pos h1]
theorem upI_4 (h1 : u.1 = 4) (h : 0 ≤ idxU d u.2) : upI d u = ((d.1, d.2.1, d.2.2.1, d.2.2.2.eraseIdx (idxU d u.2).toNat), decide (0 ≤ idxU d u.2)) := by unfold upI; rw [if_neg (by omega), if_neg (by omega), if_neg (by omega), if_pos h1, if_pos h]
theorem upI_4n (h1 : u.1 = 4) (h : ¬ 0 ≤ idxU d u.2) : upI d u = (d, decide (0 ≤ idxU d u.2)) := by unfold upI; rw [if_neg (by omega), if_neg (by omega), if_neg (by omega), if_pos h1, if_neg h]
theorem upI_0 (h1 : u.1 ≠ 1) (h2 : u.1 ≠ 2) (h3 : u.1 ≠ 3) (h4 : u.1 ≠ 4) : upI d u = (d, false) := by unfold upI; rw [if_neg h1, if_neg h2, if_neg h3, if_neg h4]
theorem upA_def (h1 : ¬ (u.1 = 1 ∧ fndS d u.2.1 < 0)) (h2 : ¬ (u.1 = 2 ∧ 0 ≤ fndS d u.2.1)) (h3 : ¬ (u.1 = 3 ∧ 0 ≤ fndS d u.2.1 ∧ idxU d u.2 < 0)) (h4 : ¬ (u.1 = 4 ∧ 0 ≤ idxU d u.2)) : upA d u = (d, false) := by
 by_cases e1 : u.1 = 1
 ·exact upA_no (by rw [upI_1 e1]; exact decide_eq_false (fun h => h1 ⟨e1, h⟩))
 by_cases e2 : u.1 = 2
 ·have h : ¬ 0 ≤ fndS d u.2.1 := fun h => h2 ⟨e2, h⟩
  exact upA_no (by rw [upI_2n e2 h]; exact decide_eq_false h)
 by_cases e3 : u.1 = 3
 ·by_cases h : fndS d u.2.1 < 0
  ·exact upA_un0 e3 h
  ·exact upA_no (by rw [upI_3 e3]; exact decide_eq_false (fun h' => h3 ⟨e3, by omega, h'⟩))
 by_cases e4 : u.1 = 4
 ·have h : ¬ 0 ≤ idxU d u.2 := fun h => h4 ⟨e4, h⟩
  exact upA_no (by rw [upI_4n e4 h]; exact decide_eq_false h)
 exact upA_no (by rw [upI_0 e1 e2 e3 e4])
theorem dropD_eq (h1 : u.1 = 2) (h : 0 ≤ fndS d u.2.1) (hd : isDb d = true) : (upI d u).1 = dropD d u.2.1 := by rw [upI_2 h1 h, dropD, drop_eq hd h]
end

end Go.Proofs.YtoigmlbidpocnaaGreat

namespace Go.Proofs.YtoigmlbidpocnaaGreat
open Go.RowKit
open Go.Proofs
set_option linter.unusedVariables false
set_option linter.unusedSimpArgs false

section
variable {α : Type} {enc : α → List DV} {sz : Nat} {x : List α} {i j : Int}
theorem er_len (h0 : 0 ≤ i) (hlt : i < (x.length : Int)) : x.length - 1 = (x.eraseIdx i.toNat).length := by rw [List.length_eraseIdx_of_lt (by omega)]
theorem er_fl (hs : ∀ y, (enc y).length = sz) (h0 : 0 ≤ i) (hlt : i < (x.length : Int)) : ((x.eraseIdx i.toNat).flatMap enc).length = (x.length - 1) * sz := by rw [fl_len hs, ← er_len h0 hlt]
theorem er_app (hs : ∀ y, (enc y).length = sz) (h0 : 0 ≤ i) (hj : j = i + 1) (hlt : i < (x.length : Int)) : (x.flatMap enc).take (i.toNat * sz) ++ ((x.flatMap enc).drop (j.toNat * sz) ++ List.replicate ((j.toNat - i.toNat) * sz) .hole) = (x.eraseIdx i.toNat).flatMap enc ++ List.replicate sz .hole := by
 have e1 : j.toNat = i.toNat + 1 := by omega
 rw [e1, (take_flat hs i.toNat x).1, (take_flat hs (i.toNat + 1) x).2, show (i.toNat + 1 - i.toNat) * sz = sz by rw [show i.toNat + 1 - i.toNat = 1 by omega, Nat.one_mul], List.eraseIdx_eq_take_drop_succ, List.flatMap_append, List.append_assoc]
theorem er_cut {m : Nat} (hm : m = x.length - 1) (hs : ∀ y, (enc y).length = sz) (h0 : 0 ≤ i) (hlt : i < (x.length : Int)) : ((x.eraseIdx i.toNat).flatMap enc ++ List.replicate sz DV.hole).take (m * sz) = (x.eraseIdx i.toNat).flatMap enc := by
 subst hm
 exact List.take_left' (er_fl hs h0 hlt)
variable [Inhabited α] {q : α → Bool}
end
end Go.Proofs.YtoigmlbidpocnaaGreat

namespace Go.Proofs.YtoigmlbidpocnaaGreat
open Go.RowKit
open Go.Proofs
set_option linter.unusedVariables false
set_option linter.unusedSimpArgs false

theorem sub_loS {o : List StoreT} {j : Nat} : ([] : List DV) ++ sub (0 * 3) ((((j : Nat) : Int).toNat - 0) * 3) (o.flatMap eStore) = (o.take j).flatMap eStore := by
 obtain ⟨h1, h2⟩ := take_flat (enc := eStore) (sz := 3) (fun _ => rfl) j o
 rw [Int.toNat_natCast, Nat.sub_zero, Nat.zero_mul, sub, List.drop_zero, List.nil_append, h1]
theorem holed_loS {o : List StoreT} {j : Nat} : holed (o.flatMap eStore) (0 * 3) ((((j : Nat) : Int).toNat - 0) * 3) = List.replicate (j * 3) .hole ++ (o.drop j).flatMap eStore := by
 obtain ⟨h1, h2⟩ := take_flat (enc := eStore) (sz := 3) (fun _ => rfl) j o
 rw [Int.toNat_natCast, Nat.sub_zero, Nat.zero_mul, holed, List.drop_zero, h2]; rfl
theorem sub_hiS {o : List StoreT} {j : Nat} {el : StoreT} (hj : j ≤ o.length) : (o.take j ++ [el]).flatMap eStore ++ sub (((j : Nat) : Int).toNat * 3) ((o.length - ((j : Nat) : Int).toNat) * 3) (List.replicate (j * 3) .hole ++ (o.drop j).flatMap eStore) = (insS o j el).flatMap eStore := by
 have hl : ((o.drop j).flatMap eStore).length = (o.length - j) * 3 := by rw [fl_len (sz := 3) (fun _ => rfl), List.length_drop]
 have e : (List.replicate (j * 3) DV.hole ++ (o.drop j).flatMap eStore).drop (j * 3) = (o.drop j).flatMap eStore := by
  have h := List.drop_left (l₁ := List.replicate (j * 3) DV.hole) (l₂ := (o.drop j).flatMap eStore)
  rwa [List.length_replicate] at h
 rw [Int.toNat_natCast, sub, e, List.take_of_length_le (l := (o.drop j).flatMap eStore) (by rw [hl]; exact Nat.le_refl _), insS, List.flatMap_append, List.flatMap_append, List.flatMap_cons, List.flatMap_cons, List.flatMap_nil, List.append_nil, List.append_assoc]
section
variable {α : Type} [Inhabited α] {enc : α → List DV} {p : α → Bool} {xs : List α} {k : Nat}
theorem fltG (hk : k < xs.length) : (xs.take (k + 1)).filter p = (xs.take k).filter p ++ (if p (xs.getD (k : Int).toNat default) then [xs.getD (k : Int).toNat default] else []) := by
 rw [List.take_add_one, List.getElem?_eq_getElem hk, List.filter_append, getD_at hk]
 congr 1
 simp [List.filter]
 split <;> rename_i h <;> simp [h]
theorem fltG_yes (hk : k < xs.length) (h : p (xs.getD (k : Int).toNat default) = true) : ((xs.take k).filter p).flatMap enc ++ enc (xs.getD (k : Int).toNat default) = ((xs.take (k + 1)).filter p).flatMap enc ∧ ((xs.take k).filter p).length + 1 = ((xs.take (k + 1)).filter p).length := by
 rw [fltG hk, if_pos h, List.flatMap_append, List.flatMap_cons, List.flatMap_nil, List.append_nil, List.length_append]
 exact ⟨rfl, rfl⟩
theorem fltG_no (hk : k < xs.length) (h : p (xs.getD (k : Int).toNat default) = false) : (xs.take k).filter p = (xs.take (k + 1)).filter p := by
 rw [fltG hk, if_neg (by rw [h]; simp), List.append_nil]
end
theorem ok_spec_l8Index {d : DbT} {u : UpgT}  : PFn Tryz.prog 98 [.agg [(.dv [] (.str (d.1))), (.dv [] (.int .i64 (d.2.1))), (.dv [] (storesD (d.2.2.1))), (.dv [] (defsD (d.2.2.2)))], .agg [(.dv [] (.int .i64 (u.1))), (.dv [] (.str (u.2.1))), (.dv [] (.str (u.2.2)))]] (.one (.dv [] (.int .i64 (findI (eqDefB u.2) d.2.2.2 0)))) := by
 refine ⟨fn_intro Tryz.func98 rfl Tryz.ntmps98 Tryz.results98 rfl (fun C => ?_)⟩
 refine yF 0 0 rfl rfl fun f0_0 => ?_
 refine yF 0 1 rfl rfl fun f0_1 => ?_
 refine yF 0 2 rfl rfl fun f0_2 => ?_
 refine yF 0 3 rfl rfl fun f0_3 => ?_
 refine yF 1 0 rfl rfl fun f1_0 => ?_
 refine yF 1 1 rfl rfl fun f1_1 => ?_
 refine yF 1 2 rfl rfl fun f1_2 => ?_
 iterate 10 refine z ?_
 refine ok_loop (ι := Nat) (fun zz => ⟨[(2, .box 2 0), (3, .box 3 0), (5, .one (.dv [] (.int .i64 ((zz : Int)))))], [(2, 73, [(.dv [] (.str (d.1))), (.dv [] (.int .i64 (d.2.1))), (.dv [] (storesD (d.2.2.1))), (.dv [] (defsD (d.2.2.2)))]), (3, 126, [(.dv [] (.int .i64 (u.1))), (.dv [] (.str (u.2.1))), (.dv [] (.str (u.2.2)))])], []⟩) (fun zz => zz ≤ d.2.2.2.length ∧ (d.2.2.2.take zz).any (eqDefB u.2) = false) (fun zz => d.2.2.2.length - zz) (0) ?_ (weak_sub ⟨rfl, rfl, rfl, trivial⟩ ⟨rfl, rfl, trivial⟩ trivial rfl) (fun zz hx => ?_)
 ·exact ⟨Nat.zero_le _, rfl⟩
 obtain ⟨k, rfl⟩ : ∃ v, v = zz := ⟨_, rfl⟩
 replace hx : k ≤ d.2.2.2.length ∧ (d.2.2.2.take k).any (eqDefB u.2) = false := hx
 obtain ⟨hk, hall⟩ := hx
 show Ok _ _ _ _ _ (⟨[(2, .box 2 0), (3, .box 3 0), (5, .one (.dv [] (.int .i64 ((k : Int)))))], [(2, 73, [(.dv [] (.str (d.1))), (.dv [] (.int .i64 (d.2.1))), (.dv [] (storesD (d.2.2.1))), (.dv [] (defsD (d.2.2.2)))]), (3, 126, [(.dv [] (.int .i64 (u.1))), (.dv [] (.str (u.2.1))), (.dv [] (.str (u.2.2)))])], []⟩ : St)
 iterate 8 refine z ?_
 refine yQ rfl (fun c1 => ?_) fun c1 => ?_
 ·skip
  have d1 := of_decide_eq_true c1
  iterate 4 refine z ?_
  refine ok_seq ?_
  refine ok_regionD (oB := [2, 3]) (oK := []) (by kernel_rfl) rfl rfl ?_
  refine zD 0 ?_
  refine zD 1 ?_
  refine zD 2 ?_
  refine zD 3 ?_
  refine zD 4 ?_
  refine zD 5 ?_
  refine zD 6 ?_
  refine zD 7 ?_
  refine zD 8 ?_
  refine zD 9 ?_
  refine zDG 10 ?_
  refine zDG 11 ?_
  refine zDG 12 ?_
  refine zDG 13 ?_
  refine zDG 14 ?_
  refine zDG 15 ?_
  refine zDG 16 ?_
  refine zDG 17 ?_
  refine zDG 18 ?_
  refine zD 19 ?_
  refine d_done (by kernel_rfl) ?_
  refine z ?_
  refine yQ rfl (fun c2 => ?_) fun c2 => ?_
  ·skip
   iterate 11 refine z ?_
   exact (findI_at (p := eqDefB u.2) (d := default) hall (by omega) (by rw [eqDef_comm]; exact c2)).symm
  ·skip
   iterate 3 refine z ?_
   refine ok_region ?_
   iterate 4 refine z ?_
   refine ⟨k + 1, ?_, ?_, weak_sub ⟨rfl, rfl, rfl, trivial⟩ ⟨rfl, rfl, trivial⟩ trivial rfl⟩
   ·exact ⟨by omega, any_stepI (d := default) hall (by omega) (by rw [eqDef_comm]; exact c2)⟩
   ·omega
 ·skip
  have d1 := of_decide_eq_false c1
  iterate 10 refine z ?_
  exact (findI_none (p := eqDefB u.2) hall (by omega)).symm
theorem ok_spec_l8Drop {d : DbT} {n : Str} (hb : wDatabase d ≤ 549755813888) : KFn Tryz.prog 99 [.agg [(.dv [] (.str (d.1))), (.dv [] (.int .i64 (d.2.1))), (.dv [] (storesD (d.2.2.1))), (.dv [] (defsD (d.2.2.2)))], .one (.dv [] (.str (n)))] (.agg [(.dv [] (.str ((dropD d n).1))), (.dv [] (.int .i64 ((dropD d n).2.1))), (.key 31), (.key 900)]) [(31, some (kcOf false (storesD ((dropD d n).2.2.1)))), (900, some (kcOf false (defsD ((dropD d n).2.2.2))))] := by
 refine ⟨fn_intro Tryz.func99 rfl Tryz.ntmps99 Tryz.results99 rfl (fun C => ?_)⟩
 have hw4 : wDatabase d = d.1.size + wList wStore d.2.2.1 + wList wIndexDef d.2.2.2 := rfl
 have hw5 : wList wStore d.2.2.1 = d.2.2.1.length + wSum wStore d.2.2.1 := rfl
 have hw6 : wList wIndexDef d.2.2.2 = d.2.2.2.length + wSum wIndexDef d.2.2.2 := rfl
 refine yF 0 0 rfl rfl fun f0_0 => ?_
 refine yF 0 1 rfl rfl fun f0_1 => ?_
 refine yF 0 2 rfl rfl fun f0_2 => ?_
 refine yF 0 3 rfl rfl fun f0_3 => ?_
 refine ok_fact (x := .tmp 1) (ev_tmp rfl) fun f1 => ?_
 iterate 9 refine z ?_
 refine yO rfl rfl (pu_build hT hB rfl rfl rfl (bp_cons (ev_tmp rfl) rfl rfl rfl rfl rfl (bp_cons (ev_tmp rfl) rfl rfl rfl rfl rfl bp_nil))) rfl ?_
 iterate 3 refine z ?_
 refine ok_seq ?_
 refine ok_seq ?_
 refine ok_weak (weak_nilB 31 (b := 5) (i := 2) (e := 110) (sz := 3) rfl rfl rfl rfl rfl) ?_
 simp only [killT, killB, SV.kill, CV.kill, kk, Nat.reduceBEq]
 refine ok_weak (weak_nilB 900 (b := 5) (i := 3) (e := 113) (sz := 2) rfl rfl rfl rfl rfl) ?_
 simp only [killT, killB, SV.kill, CV.kill, kk, Nat.reduceBEq]
 refine ok_region ?_
 iterate 3 refine z ?_
 refine ok_loop (ι := Nat) (fun zz => ⟨[(1, .one (.dv [] (.str (n)))), (2, .box 2 0), (4, .box 4 0), (5, .box 5 0), (6, .one (.dv [] (.int .i64 ((zz : Int)))))], [(2, 73, [(.dv [] (.str (d.1))), (.dv [] (.int .i64 (d.2.1))), (.dv [] (storesD (d.2.2.1))), (.dv [] (defsD (d.2.2.2)))]), (4, 73, [(.dv [] (.str (ByteArray.empty))), (.dv [] (.int .i64 (0))), .nil, .nil]), (5, 73, [(.dv [] (.str (d.1))), (.dv [] (.int .i64 (d.2.1))), (.key 31), (.key 900)])], [(31, some (kcOf false (.sl 110 3 (((d.2.2.1.take zz).filter (notS n)).length) (((d.2.2.1.take zz).filter (notS n)).flatMap eStore)))), (900, some (kcOf false (.sl 113 2 (0) ([]))))]⟩) (fun zz => zz ≤ d.2.2.1.length) (fun zz => d.2.2.1.length - zz) (0) ?_ (weak_sub ⟨rfl, rfl, rfl, rfl, rfl, trivial⟩ ⟨rfl, rfl, rfl, trivial⟩ ⟨rfl, rfl, trivial⟩ rfl) (fun zz hx => ?_)
 ·exact Nat.zero_le _
 obtain ⟨k, rfl⟩ : ∃ v, v = zz := ⟨_, rfl⟩
 replace hx : k ≤ d.2.2.1.length := hx
 have hw := fun h => wSum_succ wStore d.2.2.1 k h
 show Ok _ _ _ _ _ (⟨[(1, .one (.dv [] (.str (n)))), (2, .box 2 0), (4, .box 4 0), (5, .box 5 0), (6, .one (.dv [] (.int .i64 ((k : Int)))))], [(2, 73, [(.dv [] (.str (d.1))), (.dv [] (.int .i64 (d.2.1))), (.dv [] (storesD (d.2.2.1))), (.dv [] (defsD (d.2.2.2)))]), (4, 73, [(.dv [] (.str (ByteArray.empty))), (.dv [] (.int .i64 (0))), .nil, .nil]), (5, 73, [(.dv [] (.str (d.1))), (.dv [] (.int .i64 (d.2.1))), (.key 31), (.key 900)])], [(31, some (kcOf false (.sl 110 3 (((d.2.2.1.take k).filter (notS n)).length) (((d.2.2.1.take k).filter (notS n)).flatMap eStore)))), (900, some (kcOf false (.sl 113 2 (0) ([]))))]⟩ : St)
 iterate 8 refine z ?_
 refine yQ rfl (fun c1 => ?_) fun c1 => ?_
 ·skip
  have d1 := of_decide_eq_true c1
  have hk2 : k < d.2.2.1.length := by omega
  obtain ⟨hw1, hw2⟩ := hw hk2
  iterate 14 refine z ?_
  refine yQ rfl (fun c2 => ?_) fun c2 => ?_
  ·skip
   refine ok_regionH [0, 1, 2, 3, 4, 5, 6, 7, 8] (oB := [2, 4, 5]) (oK := [31, 900]) (by kernel_rfl) rfl rfl ?_
   refine zD 0 ?_
   refine zD 1 ?_
   refine zD 2 ?_
   refine zD 3 ?_
   refine zD 4 ?_
   refine zD 5 ?_
   refine zD 6 ?_
   refine d_callK 35000 7 rfl (by kernel_rfl) rfl rfl rfl Tryz.call102 (ok_spec_l6Copy (x := (d.2.2.1.getD (k : Int).toNat default)) (by omega)) (as_cons (ev_tmp rfl) (ag_agg (ag_cons ac_dv (ag_cons ac_dv (ag_cons ac_dv ag_nil)))) as_nil) rfl rfl rfl rfl rfl ?_
   refine d_build1 (k := 36) (js := [35030]) 8 hT rfl (by kernel_rfl) rfl rfl rfl rfl rfl rfl rfl rfl rfl (ev_tmp rfl) rfl rfl (ow_cons' (ow_dv rfl) (ow_cons' (ow_key rfl) (ow_cons' (ow_dv rfl) ow_nil rfl) rfl) rfl) (by decide) (by decide) rfl rfl (by decide) ?_
   simp only [killT, killB, SV.kill, CV.kill, kk, Nat.reduceBEq]
   refine d_chain [9, 10, 11] rfl rfl (by kernel_rfl) ?_
   refine o_appK (k := 31) (j := 36) (cs := ((d.2.2.1.take (k + 1)).filter (notS n)).flatMap eStore) (n := ((d.2.2.1.take (k + 1)).filter (notS n)).length) hT rfl rfl rfl rfl rfl rfl rfl (ev_tmp rfl) rfl rfl rfl (ev_tmp rfl) rfl rfl (by decide) (by have := List.length_filter_le (notS n) (d.2.2.1.take k); rw [List.length_take] at this; dsimp only [kcOf, KC.old]; omega) (by have := List.length_filter_le (notS n) (d.2.2.1.take k); rw [List.length_take] at this; dsimp only [kcOf, KC.old]; omega) ((fltG_yes (enc := eStore) hk2 c2).2) ((fltG_yes (enc := eStore) hk2 c2).1) ?_
   simp only [killT, killB, SV.kill, CV.kill, kk, Nat.reduceBEq]
   iterate 2 refine z ?_
   refine ops_nil ?_
   iterate 2 refine z ?_
   refine ok_region ?_
   iterate 4 refine z ?_
   refine ⟨k + 1, ?_, ?_, weak_sub ⟨rfl, rfl, rfl, rfl, rfl, trivial⟩ ⟨rfl, rfl, rfl, trivial⟩ ⟨rfl, rfl, trivial⟩ rfl⟩
   ·omega
   ·omega
  ·skip
   iterate 3 refine z ?_
   refine ok_region ?_
   iterate 4 refine z ?_
   refine ⟨k + 1, ?_, ?_, weak_sub ⟨rfl, rfl, rfl, rfl, rfl, trivial⟩ ⟨rfl, rfl, rfl, trivial⟩ ⟨(congrArg (fun l : List (StoreT) => some (some (KC.mk false 110 3 l.length (l.flatMap eStore)))) (fltG_no (p := notS n) hk2 c2)), rfl, trivial⟩ rfl⟩
   ·omega
   ·omega
 ·skip
  have d1 := of_decide_eq_false c1
  have hfin : d.2.2.1.take k = d.2.2.1 := List.take_of_length_le (by omega)
  iterate 10 refine z ?_
  refine ok_loop (ι := Nat) (fun zz => ⟨[(1, .one (.dv [] (.str (n)))), (2, .box 2 0), (4, .box 4 0), (5, .box 5 0), (7, .one (.dv [] (.int .i64 ((zz : Int)))))], [(2, 73, [(.dv [] (.str (d.1))), (.dv [] (.int .i64 (d.2.1))), (.dv [] (storesD (d.2.2.1))), (.dv [] (defsD (d.2.2.2)))]), (4, 73, [(.dv [] (.str (ByteArray.empty))), (.dv [] (.int .i64 (0))), .nil, .nil]), (5, 73, [(.dv [] (.str (d.1))), (.dv [] (.int .i64 (d.2.1))), (.key 31), (.key 900)])], [(900, some (kcOf false (.sl 113 2 (((d.2.2.2.take zz).filter (notN n)).length) (((d.2.2.2.take zz).filter (notN n)).flatMap eDef)))), (31, some (kcOf false (.sl 110 3 (((d.2.2.1.take k).filter (notS n)).length) (((d.2.2.1.take k).filter (notS n)).flatMap eStore))))]⟩) (fun zz => zz ≤ d.2.2.2.length) (fun zz => d.2.2.2.length - zz) (0) ?_ (weak_sub ⟨rfl, rfl, rfl, rfl, rfl, trivial⟩ ⟨rfl, rfl, rfl, trivial⟩ ⟨rfl, rfl, trivial⟩ rfl) (fun zz hx => ?_)
  ·exact Nat.zero_le _
  obtain ⟨k2, rfl⟩ : ∃ v, v = zz := ⟨_, rfl⟩
  replace hx : k2 ≤ d.2.2.2.length := hx
  have hw := fun h => wSum_succ wIndexDef d.2.2.2 k2 h
  show Ok _ _ _ _ _ (⟨[(1, .one (.dv [] (.str (n)))), (2, .box 2 0), (4, .box 4 0), (5, .box 5 0), (7, .one (.dv [] (.int .i64 ((k2 : Int)))))], [(2, 73, [(.dv [] (.str (d.1))), (.dv [] (.int .i64 (d.2.1))), (.dv [] (storesD (d.2.2.1))), (.dv [] (defsD (d.2.2.2)))]), (4, 73, [(.dv [] (.str (ByteArray.empty))), (.dv [] (.int .i64 (0))), .nil, .nil]), (5, 73, [(.dv [] (.str (d.1))), (.dv [] (.int .i64 (d.2.1))), (.key 31), (.key 900)])], [(900, some (kcOf false (.sl 113 2 (((d.2.2.2.take k2).filter (notN n)).length) (((d.2.2.2.take k2).filter (notN n)).flatMap eDef)))), (31, some (kcOf false (.sl 110 3 (((d.2.2.1.take k).filter (notS n)).length) (((d.2.2.1.take k).filter (notS n)).flatMap eStore))))]⟩ : St)
  iterate 8 refine z ?_
  refine yQ rfl (fun c3 => ?_) fun c3 => ?_
  ·skip
   have d3 := of_decide_eq_true c3
   have hk2 : k2 < d.2.2.2.length := by omega
   iterate 14 refine z ?_
   refine yQ rfl (fun c4 => ?_) fun c4 => ?_
   ·skip
    refine ok_regionH [0, 1, 2, 3, 4, 5, 6, 7] (oB := [2, 4, 5]) (oK := [31, 900]) (by kernel_rfl) rfl rfl ?_
    refine zD 0 ?_
    refine zD 1 ?_
    refine zD 2 ?_
    refine zD 3 ?_
    refine zD 4 ?_
    refine zD 5 ?_
    refine zD 6 ?_
    refine d_build1 (k := 61) (js := []) 7 hT rfl (by kernel_rfl) rfl rfl rfl rfl rfl rfl rfl rfl rfl (ev_tmp rfl) rfl rfl (ow_cons' (ow_dv rfl) (ow_cons' (ow_dv rfl) ow_nil rfl) rfl) (by decide) (by decide) rfl rfl (by decide) ?_
    simp only [killT, killB, SV.kill, CV.kill, kk, Nat.reduceBEq]
    refine d_chain [8, 9, 10] rfl rfl (by kernel_rfl) ?_
    refine o_appK (k := 900) (j := 61) (cs := ((d.2.2.2.take (k2 + 1)).filter (notN n)).flatMap eDef) (n := ((d.2.2.2.take (k2 + 1)).filter (notN n)).length) hT rfl rfl rfl rfl rfl rfl rfl (ev_tmp rfl) rfl rfl rfl (ev_tmp rfl) rfl rfl (by decide) (by have := List.length_filter_le (notN n) (d.2.2.2.take k2); rw [List.length_take] at this; dsimp only [kcOf, KC.old]; omega) (by have := List.length_filter_le (notN n) (d.2.2.2.take k2); rw [List.length_take] at this; dsimp only [kcOf, KC.old]; omega) ((fltG_yes (enc := eDef) hk2 c4).2) ((fltG_yes (enc := eDef) hk2 c4).1) ?_
    simp only [killT, killB, SV.kill, CV.kill, kk, Nat.reduceBEq]
    iterate 2 refine z ?_
    refine ops_nil ?_
    iterate 2 refine z ?_
    refine ok_region ?_
    iterate 4 refine z ?_
    refine ⟨k2 + 1, ?_, ?_, weak_sub ⟨rfl, rfl, rfl, rfl, rfl, trivial⟩ ⟨rfl, rfl, rfl, trivial⟩ ⟨rfl, rfl, trivial⟩ rfl⟩
    ·omega
    ·omega
   ·skip
    iterate 3 refine z ?_
    refine ok_region ?_
    iterate 4 refine z ?_
    refine ⟨k2 + 1, ?_, ?_, weak_sub ⟨rfl, rfl, rfl, rfl, rfl, trivial⟩ ⟨rfl, rfl, rfl, trivial⟩ ⟨(congrArg (fun l : List (DefT) => some (some (KC.mk false 113 2 l.length (l.flatMap eDef)))) (fltG_no (p := notN n) hk2 c4)), rfl, trivial⟩ rfl⟩
    ·omega
    ·omega
  ·skip
   have d3 := of_decide_eq_false c3
   iterate 9 refine z ?_
   refine ok_weak (σ' := ⟨[(4, .box 4 0)], [(4, 73, [(.dv [] (.str ((dropD d n).1))), (.dv [] (.int .i64 ((dropD d n).2.1))), (.key 31), (.key 900)])], [(31, some (kcOf false (storesD ((dropD d n).2.2.1)))), (900, some (kcOf false (defsD ((dropD d n).2.2.2))))]⟩) (weak_sub ⟨rfl, trivial⟩ ⟨rfl, trivial⟩ ⟨(congrArg (fun l : List (StoreT) => some (some (KC.mk false 110 3 (l.filter (notS n)).length ((l.filter (notS n)).flatMap eStore)))) hfin), (congrArg (fun l : List (DefT) => some (some (KC.mk false 113 2 (l.filter (notN n)).length ((l.filter (notN n)).flatMap eDef)))) (List.take_of_length_le (by omega))), trivial⟩ rfl) ?_
   refine z ?_
   refine fin1 (res_cell hT rfl rfl rfl rfl) ?_
   exact ⟨rfl, rfl⟩
theorem ok_spec_ApplyUpgrade {d : DbT} {u : UpgT} (hb : wDatabase d ≤ 549755813888) : KFn Tryz.prog 89 [.agg [(.dv [] (.str (d.1))), (.dv [] (.int .i64 (d.2.1))), (.dv [] (storesD (d.2.2.1))), (.dv [] (defsD (d.2.2.2)))], .agg [(.dv [] (.int .i64 (u.1))), (.dv [] (.str (u.2.1))), (.dv [] (.str (u.2.2)))]] (.tup [(true, [(.dv [] (.str ((upA d u).1.1))), (.dv [] (.int .i64 ((upA d u).1.2.1))), (.key 90031), (.key 90900)]), (false, [(.dv [] (.bool ((upA d u).2)))])]) [(90031, some (kcOf false (storesD ((upA d u).1.2.2.1)))), (90900, some (kcOf false (defsD ((upA d u).1.2.2.2))))] := by
 refine ⟨fn_intro Tryz.func89 rfl Tryz.ntmps89 Tryz.results89 rfl (fun C => ?_)⟩
 have hw4 : wDatabase d = d.1.size + wList wStore d.2.2.1 + wList wIndexDef d.2.2.2 := rfl
 have hw5 : wList wStore d.2.2.1 = d.2.2.1.length + wSum wStore d.2.2.1 := rfl
 have hw6 : wList wIndexDef d.2.2.2 = d.2.2.2.length + wSum wIndexDef d.2.2.2 := rfl
 obtain ⟨m, hm⟩ : ∃ m, m = d.2.2.2.length - 1 := ⟨_, rfl⟩
 refine yF 0 0 rfl rfl fun f0_0 => ?_
 refine yF 0 1 rfl rfl fun f0_1 => ?_
 refine yF 0 2 rfl rfl fun f0_2 => ?_
 refine yF 0 3 rfl rfl fun f0_3 => ?_
 refine yF 1 0 rfl rfl fun f1_0 => ?_
 refine yF 1 1 rfl rfl fun f1_1 => ?_
 refine yF 1 2 rfl rfl fun f1_2 => ?_
 iterate 8 refine z ?_
 refine zK 90000 Tryz.call96 ?_ (hf := ok_spec_l8Copy (x := d) (by omega))
 iterate 7 refine z ?_
 refine zC Tryz.call97 ?_ (hf := ok_spec_FindStore (x := d) (n := u.2.1))
 iterate 5 refine z ?_
 refine zC Tryz.call98 ?_ (hf := ok_spec_l8Index (d := d) (u := u))
 iterate 14 refine z ?_
 refine yQ rfl (fun c1 => ?_) fun c1 => ?_
 ·skip
  have hk1 : u.1 = 1 ∧ (findI (hasName u.2.1) d.2.2.1 0) < 0 := by simpa only [Bool.and_eq_true, decide_eq_true_eq, and_assoc] using c1
  iterate 5 refine z ?_
  refine ok_loop (ι := Nat) (fun zz => ⟨[(2, .box 2 0), (3, .box 3 0), (4, .box 4 0), (5, .one (.dv [] (.bool (false)))), (6, .box 6 0), (9, .one (.dv [] (.int .i64 ((zz : Int)))))], [(2, 73, [(.dv [] (.str (d.1))), (.dv [] (.int .i64 (d.2.1))), (.dv [] (storesD (d.2.2.1))), (.dv [] (defsD (d.2.2.2)))]), (3, 126, [(.dv [] (.int .i64 (u.1))), (.dv [] (.str (u.2.1))), (.dv [] (.str (u.2.2)))]), (4, 73, [(.dv [] (.str (ByteArray.empty))), (.dv [] (.int .i64 (0))), .nil, .nil]), (6, 73, [(.dv [] (.str ((d).1))), (.dv [] (.int .i64 ((d).2.1))), (.key 90031), (.key 90900)])], [(90031, some (kcOf false (.sl 110 3 (d.2.2.1.length) (d.2.2.1.flatMap eStore)))), (90900, some (kcOf false (.sl 113 2 (d.2.2.2.length) (d.2.2.2.flatMap eDef))))]⟩) (fun zz => zz ≤ d.2.2.1.length ∧ posN u.2.1 d.2.2.1 = zz + posN u.2.1 (d.2.2.1.drop zz)) (fun zz => d.2.2.1.length - zz) (0) ?_ (weak_sub ⟨rfl, rfl, rfl, rfl, rfl, rfl, trivial⟩ ⟨rfl, rfl, rfl, rfl, trivial⟩ ⟨rfl, rfl, trivial⟩ rfl) (fun zz hx => ?_)
  ·exact ⟨Nat.zero_le _, by simp⟩
  obtain ⟨j, rfl⟩ : ∃ v, v = zz := ⟨_, rfl⟩
  replace hx : j ≤ d.2.2.1.length ∧ posN u.2.1 d.2.2.1 = j + posN u.2.1 (d.2.2.1.drop j) := hx
  obtain ⟨hj, hp⟩ := hx
  show Ok _ _ _ _ _ (⟨[(2, .box 2 0), (3, .box 3 0), (4, .box 4 0), (5, .one (.dv [] (.bool (false)))), (6, .box 6 0), (9, .one (.dv [] (.int .i64 ((j : Int)))))], [(2, 73, [(.dv [] (.str (d.1))), (.dv [] (.int .i64 (d.2.1))), (.dv [] (storesD (d.2.2.1))), (.dv [] (defsD (d.2.2.2)))]), (3, 126, [(.dv [] (.int .i64 (u.1))), (.dv [] (.str (u.2.1))), (.dv [] (.str (u.2.2)))]), (4, 73, [(.dv [] (.str (ByteArray.empty))), (.dv [] (.int .i64 (0))), .nil, .nil]), (6, 73, [(.dv [] (.str ((d).1))), (.dv [] (.int .i64 ((d).2.1))), (.key 90031), (.key 90900)])], [(90031, some (kcOf false (.sl 110 3 (d.2.2.1.length) (d.2.2.1.flatMap eStore)))), (90900, some (kcOf false (.sl 113 2 (d.2.2.2.length) (d.2.2.2.flatMap eDef))))]⟩ : St)
  refine ok_seq ?_
  refine ok_seq ?_
  refine ok_regionD (oB := [2, 3, 4, 6]) (oK := [90031, 90900]) (by kernel_rfl) rfl rfl ?_
  refine zD 0 ?_
  refine zD 1 ?_
  refine zD 2 ?_
  refine zD 3 ?_
  refine zD 4 ?_
  refine zD 5 ?_
  refine zDG 6 ?_
  refine zDG 7 ?_
  refine zDG 8 ?_
  refine zDG 9 ?_
  refine zDG 10 ?_
  refine zDG 11 ?_
  refine zDG 12 ?_
  refine zDG 13 ?_
  refine zDG 14 ?_
  refine zD 15 ?_
  refine d_done (by kernel_rfl) ?_
  refine z ?_
  refine yQ rfl (fun c2 => ?_) fun c2 => ?_
  ·skip
   have hj2 : j < d.2.2.1.length := by have h8 := c2; rw [Bool.and_eq_true, decide_eq_true_eq] at h8; omega
   have hst := posN_step hp hj2 (by have h8 := c2; rw [Bool.and_eq_true] at h8; exact h8.2)
   iterate 3 refine z ?_
   refine ok_region ?_
   iterate 3 refine z ?_
   refine ops_nil ?_
   iterate 2 refine z ?_
   refine ⟨j + 1, ?_, ?_, weak_sub ⟨rfl, rfl, rfl, rfl, rfl, rfl, trivial⟩ ⟨rfl, rfl, rfl, rfl, trivial⟩ ⟨rfl, rfl, trivial⟩ rfl⟩
   ·exact ⟨by omega, hst⟩
   ·omega
  ·skip
   have hpos := posN_stop hp hj c2
   iterate 6 refine z ?_
   refine o_build0 (k := 47) hT rfl rfl rfl rfl rfl rfl rfl rfl ?_
   iterate 3 refine z ?_
   refine o_appSubB (b8 := 6) (i8 := 2) (k := 47) (j := 90031) (s := 49) (n := (d.2.2.1.take j).length) (cs := (d.2.2.1.take j).flatMap eStore) (c2s := List.replicate (j * 3) .hole ++ (d.2.2.1.drop j).flatMap eStore) hT rfl rfl rfl (sl_h hT rfl rfl rfl (ev_tmp rfl) rfl (ev_tmp rfl) (by omega) (by dsimp only [kcOf]; omega)) rfl rfl rfl rfl rfl rfl rfl (ev_tmp rfl) rfl rfl rfl rfl rfl rfl (by decide) rfl rfl ⟨rfl, rfl⟩ (by omega) (by dsimp only [kcOf]; omega) (by dsimp only [kcOf]; omega) (by dsimp only [kcOf]; omega) (by rw [List.length_take, Nat.min_eq_left (by omega)]; simp) (sub_loS) (holed_loS) rfl rfl rfl ?_
   simp only [killT, killB, SV.kill, CV.kill, kk, Nat.reduceBEq]
   iterate 6 refine z ?_
   refine yO rfl rfl (pu_build hT hB rfl rfl rfl (bp_cons (ev_tmp rfl) rfl rfl rfl rfl rfl bp_nil)) rfl ?_
   refine o_build1 (k := 57) (js := []) hT rfl rfl rfl rfl rfl rfl rfl rfl rfl (ev_tmp rfl) rfl rfl (ow_cons' (ow_dv rfl) (ow_cons' (ow_nilc (e := 128) (sz := 4) rfl) (ow_cons' (ow_dv rfl) ow_nil rfl) rfl) rfl) (by decide) (by decide) rfl rfl ?_
   simp only [killT, killB, SV.kill, CV.kill, kk, Nat.reduceBEq]
   refine o_appK (k := 47) (j := 57) (cs := (d.2.2.1.take j ++ [(u.2.1, ([] : List ItemT), (0 : Int))]).flatMap eStore) (n := (d.2.2.1.take j ++ [(u.2.1, ([] : List ItemT), (0 : Int))]).length) hT rfl rfl rfl rfl rfl rfl rfl (ev_tmp rfl) rfl rfl rfl (ev_tmp rfl) rfl rfl (by decide) (by dsimp only [kcOf]; simp only [List.length_take]; omega) (by dsimp only [kcOf]; simp only [List.length_take]; omega) (by simp) (by rw [List.flatMap_append]; rfl) ?_
   simp only [killT, killB, SV.kill, CV.kill, kk, Nat.reduceBEq]
   iterate 2 refine z ?_
   refine ok_region ?_
   iterate 4 refine z ?_
   refine o_appSub (k := 47) (j := 90031) (s := 61) (n := (insS d.2.2.1 j (u.2.1, ([] : List ItemT), (0 : Int))).length) (cs := (insS d.2.2.1 j (u.2.1, ([] : List ItemT), (0 : Int))).flatMap eStore) (c2s := _) hT rfl rfl rfl (sl_l hT rfl rfl rfl (ev_tmp rfl) rfl (ev_tmp rfl) (by omega) (by dsimp only [kcOf]; omega)) rfl rfl rfl rfl rfl rfl rfl (ev_tmp rfl) rfl rfl rfl rfl rfl rfl (by decide) rfl rfl ⟨rfl, rfl⟩ (by dsimp only [kcOf]; omega) (by dsimp only [kcOf]; omega) (by dsimp only [kcOf]; simp only [List.length_append, List.length_take, List.length_singleton]; omega) (by dsimp only [kcOf]; simp only [List.length_append, List.length_take, List.length_singleton]; omega) (by rw [insS_len hj]; simp; omega) (sub_hiS hj) (rfl) ?_
   simp only [killT, killB, SV.kill, CV.kill, kk, Nat.reduceBEq]
   iterate 2 refine z ?_
   refine ops_nil ?_
   iterate 2 refine z ?_
   refine ok_seq ?_
   refine ok_seq ?_
   refine ok_weak (weak_swapB (b := 6) (i := 2) (k := 47) (k' := 90031) rfl rfl rfl rfl (by decide) rfl rfl) ?_
   simp only [killT, killB, SV.kill, CV.kill, kk, Nat.reduceBEq]
   refine ok_weak (weak_eq (k := 90900) (c' := kcOf false (defsD (d.2.2.2))) rfl (rfl) rfl) ?_
   refine ok_region ?_
   refine z ?_
   refine zC Tryz.call100 ?_ (hf := ok_spec_IsDatabase (x := d))
   iterate 3 refine z ?_
   refine o_callG (gd_bool rfl rfl rfl rfl rfl) rfl rfl Tryz.call100 (ok_spec_IsDatabase (x := (d.1, d.2.1, (insS d.2.2.1 j (u.2.1, ([] : List ItemT), (0 : Int))), d.2.2.2))) (fun hg => (as_cons (ev_opt rfl hg) (ag_agg (ag_cons ac_dv (ag_cons ac_dv (ag_cons (ac_key' rfl rfl) (ag_cons (ac_key' rfl rfl) ag_nil))))) as_nil)) rfl rfl ?_
   iterate 3 refine z ?_
   refine yQ rfl (fun c3 => ?_) fun c3 => ?_
   ·skip
    refine ok_seq ?_
    refine ok_weak (σ' := ⟨[(2, .box 2 0), (3, .box 3 0), (4, .box 4 0), (5, .one (.dv [] (.bool (false))))], [(2, 73, [(.dv [] (.str (d.1))), (.dv [] (.int .i64 (d.2.1))), (.dv [] (storesD (d.2.2.1))), (.dv [] (defsD (d.2.2.2)))]), (3, 126, [(.dv [] (.int .i64 (u.1))), (.dv [] (.str (u.2.1))), (.dv [] (.str (u.2.2)))]), (4, 73, [(.dv [] (.str (ByteArray.empty))), (.dv [] (.int .i64 (0))), .nil, .nil])], []⟩) (weak_sub ⟨rfl, rfl, rfl, rfl, trivial⟩ ⟨rfl, rfl, rfl, trivial⟩ trivial rfl) ?_
    refine ok_region ?_
    refine z ?_
    refine zK 90000 Tryz.call96 ?_ (hf := ok_spec_l8Copy (x := d) (by omega))
    iterate 3 refine z ?_
    rw [upA_out (o := (d.1, d.2.1, (insS d.2.2.1 j (u.2.1, ([] : List ItemT), (0 : Int))), d.2.2.2)) (fun _ => by rw [upI_1 hk1.1, hpos]) c3]
    refine ok_weak (σ' := ⟨[(4, .box 4 0), (5, .one (.dv [] (.bool (false))))], [(4, 73, [(.dv [] (.str ((d).1))), (.dv [] (.int .i64 ((d).2.1))), (.key 90031), (.key 90900)])], [(90031, some (kcOf false (storesD (d.2.2.1)))), (90900, some (kcOf false (defsD (d.2.2.2))))]⟩) (weak_sub ⟨rfl, rfl, trivial⟩ ⟨rfl, trivial⟩ ⟨rfl, rfl, trivial⟩ rfl) ?_
    iterate 2 refine z ?_
    refine fin2 (res_cell hT rfl rfl rfl rfl) (res_tmp rfl) rfl rfl ?_
    first | exact ⟨rfl, rfl⟩ | skip
   ·skip
    iterate 7 refine z ?_
    rw [upA_yes (o := (d.1, d.2.1, (insS d.2.2.1 j (u.2.1, ([] : List ItemT), (0 : Int))), d.2.2.2)) (fun _ => by rw [upI_1 hk1.1, hpos]) (by rw [upI_1 hk1.1]; exact decide_eq_true hk1.2) c3]
    refine ok_weak (σ' := ⟨[(4, .box 4 0), (5, .one (.dv [] (.bool (true))))], [(4, 73, [(.dv [] (.str ((d).1))), (.dv [] (.int .i64 ((d).2.1))), (.key 90031), (.key 90900)])], [(90031, some (kcOf false (storesD ((insS d.2.2.1 j (u.2.1, ([] : List ItemT), (0 : Int))))))), (90900, some (kcOf false (defsD (d.2.2.2))))]⟩) (weak_sub ⟨rfl, rfl, trivial⟩ ⟨rfl, trivial⟩ ⟨rfl, rfl, trivial⟩ rfl) ?_
    refine z ?_
    refine fin2 (res_cell hT rfl rfl rfl rfl) (res_tmp rfl) rfl rfl ?_
    first | exact ⟨rfl, rfl⟩ | skip
 ·skip
  have hn1 : ¬ (u.1 = 1 ∧ (findI (hasName u.2.1) d.2.2.1 0) < 0) := fun h => by
   have h8 := c1
   rw [show (decide (u.1 = 1) && decide ((findI (hasName u.2.1) d.2.2.1 0) < 0)) = true by simp only [Bool.and_eq_true, decide_eq_true_eq, and_assoc]; exact h] at h8
   cases h8
  iterate 10 refine z ?_
  refine yQ rfl (fun c4 => ?_) fun c4 => ?_
  ·skip
   have hk1 : u.1 = 2 ∧ 0 ≤ (findI (hasName u.2.1) d.2.2.1 0) := by simpa only [Bool.and_eq_true, decide_eq_true_eq, and_assoc] using c4
   have hlt : (findI (hasName u.2.1) d.2.2.1 0) < (d.2.2.1.length : Int) := fndS_lt d u.2.1
   refine ok_region ?_
   iterate 3 refine z ?_
   refine zK 91000 Tryz.call99 ?_ (hf := ok_spec_l8Drop (d := d) (n := u.2.1) (by omega))
   refine z ?_
   refine ops_nil ?_
   iterate 2 refine z ?_
   refine ok_seq ?_
   refine ok_seq ?_
   refine ok_weak (weak_swapB (b := 6) (i := 2) (k := 91031) (k' := 90031) rfl rfl rfl rfl (by simp) rfl rfl) ?_
   simp only [killT, killB, SV.kill, CV.kill, kk, Nat.reduceBEq]
   refine ok_weak (weak_swapB (b := 6) (i := 3) (k := 91900) (k' := 90900) rfl rfl rfl rfl (by simp) rfl rfl) ?_
   simp only [killT, killB, SV.kill, CV.kill, kk, Nat.reduceBEq]
   refine ok_region ?_
   refine z ?_
   refine zC Tryz.call100 ?_ (hf := ok_spec_IsDatabase (x := d))
   iterate 3 refine z ?_
   refine o_callG (gd_bool rfl rfl rfl rfl rfl) rfl rfl Tryz.call100 (ok_spec_IsDatabase (x := (dropD d u.2.1))) (fun hg => (as_cons (ev_opt rfl hg) (ag_agg (ag_cons ac_dv (ag_cons ac_dv (ag_cons (ac_key' rfl rfl) (ag_cons (ac_key' rfl rfl) ag_nil))))) as_nil)) rfl rfl ?_
   iterate 3 refine z ?_
   refine yQ rfl (fun c5 => ?_) fun c5 => ?_
   ·skip
    refine ok_seq ?_
    refine ok_weak (σ' := ⟨[(2, .box 2 0), (3, .box 3 0), (4, .box 4 0), (5, .one (.dv [] (.bool (false))))], [(2, 73, [(.dv [] (.str (d.1))), (.dv [] (.int .i64 (d.2.1))), (.dv [] (storesD (d.2.2.1))), (.dv [] (defsD (d.2.2.2)))]), (3, 126, [(.dv [] (.int .i64 (u.1))), (.dv [] (.str (u.2.1))), (.dv [] (.str (u.2.2)))]), (4, 73, [(.dv [] (.str (ByteArray.empty))), (.dv [] (.int .i64 (0))), .nil, .nil])], []⟩) (weak_sub ⟨rfl, rfl, rfl, rfl, trivial⟩ ⟨rfl, rfl, rfl, trivial⟩ trivial rfl) ?_
    refine ok_region ?_
    refine z ?_
    refine zK 90000 Tryz.call96 ?_ (hf := ok_spec_l8Copy (x := d) (by omega))
    iterate 3 refine z ?_
    rw [upA_out (o := (dropD d u.2.1)) (fun hd => dropD_eq hk1.1 hk1.2 hd) c5]
    refine ok_weak (σ' := ⟨[(4, .box 4 0), (5, .one (.dv [] (.bool (false))))], [(4, 73, [(.dv [] (.str ((d).1))), (.dv [] (.int .i64 ((d).2.1))), (.key 90031), (.key 90900)])], [(90031, some (kcOf false (storesD (d.2.2.1)))), (90900, some (kcOf false (defsD (d.2.2.2))))]⟩) (weak_sub ⟨rfl, rfl, trivial⟩ ⟨rfl, trivial⟩ ⟨rfl, rfl, trivial⟩ rfl) ?_
    iterate 2 refine z ?_
    refine fin2 (res_cell hT rfl rfl rfl rfl) (res_tmp rfl) rfl rfl ?_
    first | exact ⟨rfl, rfl⟩ | skip
   ·skip
    iterate 7 refine z ?_
    rw [upA_yes (o := (dropD d u.2.1)) (fun hd => dropD_eq hk1.1 hk1.2 hd) (by rw [upI_2 hk1.1 hk1.2]; exact decide_eq_true hk1.2) c5]
    refine ok_weak (σ' := ⟨[(4, .box 4 0), (5, .one (.dv [] (.bool (true))))], [(4, 73, [(.dv [] (.str ((dropD (d) (u.2.1)).1))), (.dv [] (.int .i64 ((dropD (d) (u.2.1)).2.1))), (.key 90031), (.key 90900)])], [(90031, some (kcOf false (storesD (d.2.2.1.filter (notS u.2.1))))), (90900, some (kcOf false (defsD (d.2.2.2.filter (notN u.2.1)))))]⟩) (weak_sub ⟨rfl, rfl, trivial⟩ ⟨rfl, trivial⟩ ⟨rfl, rfl, trivial⟩ rfl) ?_
    refine z ?_
    refine fin2 (res_cell hT rfl rfl rfl rfl) (res_tmp rfl) rfl rfl ?_
    first | exact ⟨rfl, rfl⟩ | skip
  ·skip
   have hn4 : ¬ (u.1 = 2 ∧ 0 ≤ (findI (hasName u.2.1) d.2.2.1 0)) := fun h => by
    have h8 := c4
    rw [show (decide (u.1 = 2) && decide (0 ≤ (findI (hasName u.2.1) d.2.2.1 0))) = true by simp only [Bool.and_eq_true, decide_eq_true_eq, and_assoc]; exact h] at h8
    cases h8
   iterate 14 refine z ?_
   refine yQ rfl (fun c6 => ?_) fun c6 => ?_
   ·skip
    have hk1 : u.1 = 3 ∧ 0 ≤ (findI (hasName u.2.1) d.2.2.1 0) ∧ (findI (eqDefB u.2) d.2.2.2 0) < 0 := by simpa only [Bool.and_eq_true, decide_eq_true_eq, and_assoc] using c6
    refine ok_region ?_
    iterate 6 refine z ?_
    refine yO rfl rfl (pu_build hT hB rfl rfl rfl (bp_cons (ev_tmp rfl) rfl rfl rfl rfl rfl (bp_cons (ev_tmp rfl) rfl rfl rfl rfl rfl bp_nil))) rfl ?_
    refine o_build1 (k := 97) (js := []) hT rfl rfl rfl rfl rfl rfl rfl rfl rfl (ev_tmp rfl) rfl rfl (ow_cons' (ow_dv rfl) (ow_cons' (ow_dv rfl) ow_nil rfl) rfl) (by decide) (by decide) rfl rfl ?_
    simp only [killT, killB, SV.kill, CV.kill, kk, Nat.reduceBEq]
    refine o_appK (k := 90900) (j := 97) (cs := (d.2.2.2 ++ [u.2]).flatMap eDef) (n := (d.2.2.2 ++ [u.2]).length) hT rfl rfl rfl rfl rfl rfl rfl (ev_tmp rfl) rfl rfl rfl (ev_tmp rfl) rfl rfl (by decide) (by dsimp only [kcOf, KC.old]; omega) (by dsimp only [kcOf, KC.old]; omega) (by rw [List.length_append]; rfl) (by rw [List.flatMap_append]; rfl) ?_
    simp only [killT, killB, SV.kill, CV.kill, kk, Nat.reduceBEq]
    iterate 2 refine z ?_
    refine ops_nil ?_
    iterate 2 refine z ?_
    refine ok_seq ?_
    refine ok_seq ?_
    refine ok_weak (weak_eq (k := 90900) (c' := kcOf false (defsD (d.2.2.2 ++ [u.2]))) rfl (rfl) rfl) ?_
    refine ok_region ?_
    refine z ?_
    refine zC Tryz.call100 ?_ (hf := ok_spec_IsDatabase (x := d))
    iterate 3 refine z ?_
    refine o_callG (gd_bool rfl rfl rfl rfl rfl) rfl rfl Tryz.call100 (ok_spec_IsDatabase (x := (d.1, d.2.1, d.2.2.1, (d.2.2.2 ++ [u.2])))) (fun hg => (as_cons (ev_opt rfl hg) (ag_agg (ag_cons ac_dv (ag_cons ac_dv (ag_cons (ac_key' rfl rfl) (ag_cons (ac_key' rfl rfl) ag_nil))))) as_nil)) rfl rfl ?_
    iterate 3 refine z ?_
    refine yQ rfl (fun c7 => ?_) fun c7 => ?_
    ·skip
     refine ok_seq ?_
     refine ok_weak (σ' := ⟨[(2, .box 2 0), (3, .box 3 0), (4, .box 4 0), (5, .one (.dv [] (.bool (false))))], [(2, 73, [(.dv [] (.str (d.1))), (.dv [] (.int .i64 (d.2.1))), (.dv [] (storesD (d.2.2.1))), (.dv [] (defsD (d.2.2.2)))]), (3, 126, [(.dv [] (.int .i64 (u.1))), (.dv [] (.str (u.2.1))), (.dv [] (.str (u.2.2)))]), (4, 73, [(.dv [] (.str (ByteArray.empty))), (.dv [] (.int .i64 (0))), .nil, .nil])], []⟩) (weak_sub ⟨rfl, rfl, rfl, rfl, trivial⟩ ⟨rfl, rfl, rfl, trivial⟩ trivial rfl) ?_
     refine ok_region ?_
     refine z ?_
     refine zK 90000 Tryz.call96 ?_ (hf := ok_spec_l8Copy (x := d) (by omega))
     iterate 3 refine z ?_
     rw [upA_out (o := (d.1, d.2.1, d.2.2.1, (d.2.2.2 ++ [u.2]))) (fun _ => by rw [upI_3 hk1.1]) c7]
     refine ok_weak (σ' := ⟨[(4, .box 4 0), (5, .one (.dv [] (.bool (false))))], [(4, 73, [(.dv [] (.str ((d).1))), (.dv [] (.int .i64 ((d).2.1))), (.key 90031), (.key 90900)])], [(90031, some (kcOf false (storesD (d.2.2.1)))), (90900, some (kcOf false (defsD (d.2.2.2))))]⟩) (weak_sub ⟨rfl, rfl, trivial⟩ ⟨rfl, trivial⟩ ⟨rfl, rfl, trivial⟩ rfl) ?_
     iterate 2 refine z ?_
     refine fin2 (res_cell hT rfl rfl rfl rfl) (res_tmp rfl) rfl rfl ?_
     first | exact ⟨rfl, rfl⟩ | skip
    ·skip
     iterate 7 refine z ?_
     rw [upA_yes (o := (d.1, d.2.1, d.2.2.1, (d.2.2.2 ++ [u.2]))) (fun _ => by rw [upI_3 hk1.1]) (by rw [upI_3 hk1.1]; exact decide_eq_true hk1.2.2) c7]
     refine ok_weak (σ' := ⟨[(4, .box 4 0), (5, .one (.dv [] (.bool (true))))], [(4, 73, [(.dv [] (.str ((d).1))), (.dv [] (.int .i64 ((d).2.1))), (.key 90031), (.key 90900)])], [(90031, some (kcOf false (storesD (d.2.2.1)))), (90900, some (kcOf false (defsD ((d.2.2.2 ++ [u.2])))))]⟩) (weak_sub ⟨rfl, rfl, trivial⟩ ⟨rfl, trivial⟩ ⟨rfl, rfl, trivial⟩ rfl) ?_
     refine z ?_
     refine fin2 (res_cell hT rfl rfl rfl rfl) (res_tmp rfl) rfl rfl ?_
     first | exact ⟨rfl, rfl⟩ | skip
   ·skip
    have hn6 : ¬ (u.1 = 3 ∧ 0 ≤ (findI (hasName u.2.1) d.2.2.1 0) ∧ (findI (eqDefB u.2) d.2.2.2 0) < 0) := fun h => by
     have h8 := c6
     rw [show (decide (u.1 = 3) && decide (0 ≤ (findI (hasName u.2.1) d.2.2.1 0)) && decide ((findI (eqDefB u.2) d.2.2.2 0) < 0)) = true by simp only [Bool.and_eq_true, decide_eq_true_eq, and_assoc]; exact h] at h8
     cases h8
    iterate 10 refine z ?_
    refine yQ rfl (fun c8 => ?_) fun c8 => ?_
    ·skip
     have hk1 : u.1 = 4 ∧ 0 ≤ (findI (eqDefB u.2) d.2.2.2 0) := by simpa only [Bool.and_eq_true, decide_eq_true_eq, and_assoc] using c8
     have hlt2 : (findI (eqDefB u.2) d.2.2.2 0) < (d.2.2.2.length : Int) := by rcases findI_lt (p := eqDefB u.2) d.2.2.2 0 (by omega) with h | h <;> omega
     refine ok_regionD (oB := [2, 3, 4, 6]) (oK := [90031, 90900]) (by kernel_rfl) rfl rfl ?_
     refine zD 0 ?_
     refine zD 1 ?_
     refine zD 2 ?_
     refine d_take 3 rfl (by kernel_rfl) rfl rfl (pu_kslH (j := 90900) (n := (((d).2.2.2)).length) (hi := (findI (eqDefB (u).2) (d).2.2.2 0).toNat) (sz := 2) (z := findI (eqDefB (u).2) (d).2.2.2 0) hT rfl rfl rfl (ev_tmp rfl) rfl (ev_tmp rfl) rfl rfl (by omega) (by omega)) rfl rfl rfl rfl ?_
     refine zD 4 ?_
     refine zD 5 ?_
     refine zD 6 ?_
     refine zD 7 ?_
     refine d_take 8 rfl (by kernel_rfl) rfl rfl (pu_kslL (j := 90900) (n := (((d).2.2.2)).length) (lo := ((findI (eqDefB (u).2) (d).2.2.2 0) + (1)).toNat) (sz := 2) (z := (findI (eqDefB (u).2) (d).2.2.2 0) + (1)) hT rfl rfl rfl (ev_tmp rfl) rfl (ev_tmp rfl) rfl rfl (by omega) (by omega)) rfl rfl rfl rfl ?_
     refine d_chain [9, 10, 11] rfl rfl (by kernel_rfl) ?_
     refine o_appKK (k := 90900) (m := m) (cs := (d.2.2.2.eraseIdx (findI (eqDefB u.2) d.2.2.2 0).toNat).flatMap eDef ++ List.replicate 2 DV.hole) hT rfl rfl rfl rfl rfl rfl (ev_tmp rfl) (ev_tmp rfl) rfl rfl rfl rfl (by omega) (by first | omega | (dsimp only [kcOf, KC.old]; omega)) (by first | omega | (dsimp only [kcOf, KC.old]; omega)) (er_app (sz := 2) (fun _ => rfl) hk1.2 rfl hlt2) ?_
     simp only [killT, killB, SV.kill, CV.kill, kk, Nat.reduceBEq]
     refine ops_weak (weak_cut (s := 117) (k := 90900) (m := m) (sz := 2) (cs := (d.2.2.2.eraseIdx (findI (eqDefB u.2) d.2.2.2 0).toNat).flatMap eDef) rfl rfl rfl rfl (by first | omega | (dsimp only [kcOf, KC.old]; omega) | (show m ≤ d.2.2.2.length; omega)) (er_cut hm (sz := 2) (fun _ => rfl) hk1.2 hlt2)) ?_
     simp only [killT, killB, SV.kill, CV.kill, kk, Nat.reduceBEq]
     iterate 2 refine z ?_
     refine ops_nil ?_
     iterate 2 refine z ?_
     refine ok_seq ?_
     refine ok_seq ?_
     refine ok_weak (weak_eq (k := 90900) (c' := kcOf false (defsD (d.2.2.2.eraseIdx (findI (eqDefB u.2) d.2.2.2 0).toNat))) rfl (congrArg (fun n => KC.mk false 113 2 n ((d.2.2.2.eraseIdx (findI (eqDefB u.2) d.2.2.2 0).toNat).flatMap eDef)) (hm.trans (er_len hk1.2 hlt2))) rfl) ?_
     refine ok_region ?_
     refine z ?_
     refine zC Tryz.call100 ?_ (hf := ok_spec_IsDatabase (x := d))
     iterate 3 refine z ?_
     refine o_callG (gd_bool rfl rfl rfl rfl rfl) rfl rfl Tryz.call100 (ok_spec_IsDatabase (x := (d.1, d.2.1, d.2.2.1, (d.2.2.2.eraseIdx (findI (eqDefB u.2) d.2.2.2 0).toNat)))) (fun hg => (as_cons (ev_opt rfl hg) (ag_agg (ag_cons ac_dv (ag_cons ac_dv (ag_cons (ac_key' rfl rfl) (ag_cons (ac_key' rfl rfl) ag_nil))))) as_nil)) rfl rfl ?_
     iterate 3 refine z ?_
     refine yQ rfl (fun c9 => ?_) fun c9 => ?_
     ·skip
      refine ok_seq ?_
      refine ok_weak (σ' := ⟨[(2, .box 2 0), (3, .box 3 0), (4, .box 4 0), (5, .one (.dv [] (.bool (false))))], [(2, 73, [(.dv [] (.str (d.1))), (.dv [] (.int .i64 (d.2.1))), (.dv [] (storesD (d.2.2.1))), (.dv [] (defsD (d.2.2.2)))]), (3, 126, [(.dv [] (.int .i64 (u.1))), (.dv [] (.str (u.2.1))), (.dv [] (.str (u.2.2)))]), (4, 73, [(.dv [] (.str (ByteArray.empty))), (.dv [] (.int .i64 (0))), .nil, .nil])], []⟩) (weak_sub ⟨rfl, rfl, rfl, rfl, trivial⟩ ⟨rfl, rfl, rfl, trivial⟩ trivial rfl) ?_
      refine ok_region ?_
      refine z ?_
      refine zK 90000 Tryz.call96 ?_ (hf := ok_spec_l8Copy (x := d) (by omega))
      iterate 3 refine z ?_
      rw [upA_out (o := (d.1, d.2.1, d.2.2.1, (d.2.2.2.eraseIdx (findI (eqDefB u.2) d.2.2.2 0).toNat))) (fun _ => by rw [upI_4 hk1.1 hk1.2]) c9]
      refine ok_weak (σ' := ⟨[(4, .box 4 0), (5, .one (.dv [] (.bool (false))))], [(4, 73, [(.dv [] (.str ((d).1))), (.dv [] (.int .i64 ((d).2.1))), (.key 90031), (.key 90900)])], [(90031, some (kcOf false (storesD (d.2.2.1)))), (90900, some (kcOf false (defsD (d.2.2.2))))]⟩) (weak_sub ⟨rfl, rfl, trivial⟩ ⟨rfl, trivial⟩ ⟨rfl, rfl, trivial⟩ rfl) ?_
      iterate 2 refine z ?_
      refine fin2 (res_cell hT rfl rfl rfl rfl) (res_tmp rfl) rfl rfl ?_
      first | exact ⟨rfl, rfl⟩ | skip
     ·skip
      iterate 7 refine z ?_
      rw [upA_yes (o := (d.1, d.2.1, d.2.2.1, (d.2.2.2.eraseIdx (findI (eqDefB u.2) d.2.2.2 0).toNat))) (fun _ => by rw [upI_4 hk1.1 hk1.2]) (by rw [upI_4 hk1.1 hk1.2]; exact decide_eq_true hk1.2) c9]
      refine ok_weak (σ' := ⟨[(4, .box 4 0), (5, .one (.dv [] (.bool (true))))], [(4, 73, [(.dv [] (.str ((d).1))), (.dv [] (.int .i64 ((d).2.1))), (.key 90031), (.key 90900)])], [(90031, some (kcOf false (storesD (d.2.2.1)))), (90900, some (kcOf false (defsD ((d.2.2.2.eraseIdx (findI (eqDefB u.2) d.2.2.2 0).toNat)))))]⟩) (weak_sub ⟨rfl, rfl, trivial⟩ ⟨rfl, trivial⟩ ⟨rfl, rfl, trivial⟩ rfl) ?_
      refine z ?_
      refine fin2 (res_cell hT rfl rfl rfl rfl) (res_tmp rfl) rfl rfl ?_
      first | exact ⟨rfl, rfl⟩ | skip
    ·skip
     have hn8 : ¬ (u.1 = 4 ∧ 0 ≤ (findI (eqDefB u.2) d.2.2.2 0)) := fun h => by
      have h8 := c8
      rw [show (decide (u.1 = 4) && decide (0 ≤ (findI (eqDefB u.2) d.2.2.2 0))) = true by simp only [Bool.and_eq_true, decide_eq_true_eq, and_assoc]; exact h] at h8
      cases h8
     iterate 5 refine z ?_
     rw [upA_def hn1 hn4 hn6 hn8]
     refine ok_weak (σ' := ⟨[(4, .box 4 0), (5, .one (.dv [] (.bool (false))))], [(4, 73, [(.dv [] (.str ((d).1))), (.dv [] (.int .i64 ((d).2.1))), (.key 90031), (.key 90900)])], [(90031, some (kcOf false (storesD (d.2.2.1)))), (90900, some (kcOf false (defsD (d.2.2.2))))]⟩) (weak_sub ⟨rfl, rfl, trivial⟩ ⟨rfl, trivial⟩ ⟨rfl, rfl, trivial⟩ rfl) ?_
     iterate 3 refine z ?_
     refine fin2 (res_cell hT rfl rfl rfl rfl) (res_tmp rfl) rfl rfl ?_
     first | exact ⟨rfl, rfl⟩ | skip
end Go.Proofs.YtoigmlbidpocnaaGreat

namespace Go.Proofs.YtoigmlbidpocnaaGreat
open Go.RowKit
open Go.Proofs
set_option linter.unusedVariables false
set_option linter.unusedSimpArgs false

theorem kEq_eq {a b : KeyT} (h : kEq a b = true) : a = b := by
 simp only [kEq, sEq, Bool.and_eq_true, decide_eq_true_eq, beq_iff_eq] at h
 exact Prod.ext h.1 (Prod.ext h.2.1 (by
  have := h.2.2
  rw [toList_data, toList_data] at this
  exact ByteArray.ext (Array.toList_inj.1 this)))
theorem setI_keys {l : List ItemT} {i : Nat} {r : RecT} : (setI l i r).map Prod.fst = l.map Prod.fst := by
 apply List.ext_getElem?
 intro j
 rw [setI, List.getElem?_map, List.getElem?_set, List.getElem?_map]
 by_cases h : i = j
 ·subst h
  by_cases h2 : i < l.length
  ·simp [h2, List.getD]
  ·simp [h2]
 ·simp [h]
theorem put_cases {x : StoreT} {k : KeyT} {r : RecT} (h : (putN x k r).2 = true) : isSto x = true ∧ isKey k = true ∧ isRec r = true ∧
  ((0 ≤ fndK x k ∧ putN x k r = ((x.1, setI x.2.1 (fndK x k).toNat r, x.2.2), true)) ∨ (fndK x k < 0 ∧ x.2.1.length < 16 ∧ putN x k r = ((x.1, insI x.2.1 (posK k x.2.1) (k, r), autoP x k), true))) := by
 unfold putN at h ⊢
 split at h
 ·cases h
 ·rename_i h1
  have h1' : isSto x = true ∧ isKey k = true ∧ isRec r = true := by
   revert h1; cases isSto x <;> cases isKey k <;> cases isRec r <;> simp
  refine ⟨h1'.1, h1'.2.1, h1'.2.2, ?_⟩
  rw [if_neg h1]
  split at h
  ·rename_i h2
   exact .inl ⟨h2, by rw [if_pos h2]⟩
  ·rename_i h2
   split at h
   ·cases h
   ·rename_i h3
    exact .inr ⟨by omega, by omega, by rw [if_neg h2, if_neg h3]⟩
theorem put_sto {x : StoreT} {k : KeyT} {r : RecT} (h : (putN x k r).2 = true) : isSto (putN x k r).1 = true := by
 obtain ⟨hs, hk, hr, ⟨h1, h2⟩ | ⟨h1, h3, h2⟩⟩ := put_cases h
 ·rw [h2]; dsimp only
  have h4 := fndK_lt h1
  rw [sto_set hs (by omega), hr]
 ·rw [h2]; dsimp only
  rw [sto_ins hs hk h1 (auto_ok hs), hr]; simpa using h3
theorem putN_sto {x : StoreT} {k : KeyT} {r : RecT} (h : isSto x = true) : isSto (putN x k r).1 = true := by
 cases h2 : (putN x k r).2 with
 | true => exact put_sto h2
 | false => rw [putN_f h2]; exact h
theorem putN_name (x : StoreT) (k : KeyT) (r : RecT) : (putN x k r).1.1 = x.1 := by
 cases h2 : (putN x k r).2 with
 | true => obtain ⟨_, _, _, ⟨_, h⟩ | ⟨_, _, h⟩⟩ := put_cases h2 <;> rw [h]
 | false => rw [putN_f h2]
theorem put_auto {x : StoreT} {k : KeyT} {r : RecT} : x.2.2 ≤ (putN x k r).1.2.2 := by
 cases h2 : (putN x k r).2 with
 | true =>
  obtain ⟨_, _, _, ⟨_, h⟩ | ⟨_, _, h⟩⟩ := put_cases h2 <;> rw [h]
  ·exact Int.le_refl _
  ·dsimp only
   unfold autoP
   split
   ·rename_i h3
    simp only [Bool.and_eq_true, decide_eq_true_eq] at h3
    omega
   ·omega
 | false => rw [putN_f h2]; exact Int.le_refl _
end Go.Proofs.YtoigmlbidpocnaaGreat

namespace Go.Proofs.YtoigmlbidpocnaaGreat
open Go.RowKit
open Go.Proofs
set_option linter.unusedVariables false
set_option linter.unusedSimpArgs false

theorem sgnI_neg {a b : Int} : sgnI a b < 0 ↔ a < b := by unfold sgnI; split <;> (try split) <;> omega
theorem sgnS_neg {a b : Str} : sgnS a b < 0 ↔ sLt a b = true := by
 unfold sgnS
 split
 ·rename_i h; simp [h]
 ·rename_i h; split <;> simp [h]
theorem cmp_lt {a b : KeyT} (h : cmpK a b < 0) : isKey a = true ∧ isKey b = true ∧ (a.1 < b.1 ∨ (a.1 = b.1 ∧ (a.2.1 < b.2.1 ∨ (a.2.1 = b.2.1 ∧ sLt a.2.2 b.2.2 = true)))) := by
 by_cases hk : (!isKey a || !isKey b) = true
 ·rw [cmpK_bad hk] at h; omega
 ·have hk : (!isKey a || !isKey b) = false := by simpa using hk
  obtain ⟨ha, hb⟩ := not_or_f hk
  refine ⟨ha, hb, ?_⟩
  by_cases h1 : a.1 = b.1
  ·by_cases h2 : a.2.1 = b.2.1
   ·rw [cmpK_text hk h1 h2, sgnS_neg] at h; exact .inr ⟨h1, .inr ⟨h2, h⟩⟩
   ·rw [cmpK_num hk h1 h2, sgnI_neg] at h; exact .inr ⟨h1, .inl h⟩
  ·rw [cmpK_kind hk h1, sgnI_neg] at h; exact .inl h
theorem lt_cmp {a b : KeyT} (ha : isKey a = true) (hb : isKey b = true) (h : a.1 < b.1 ∨ (a.1 = b.1 ∧ (a.2.1 < b.2.1 ∨ (a.2.1 = b.2.1 ∧ sLt a.2.2 b.2.2 = true)))) : cmpK a b < 0 := by
 have hk : (!isKey a || !isKey b) = false := by rw [ha, hb]; rfl
 rcases h with h | ⟨h1, h | ⟨h2, h⟩⟩
 ·rw [cmpK_kind hk (by omega), sgnI_neg]; exact h
 ·rw [cmpK_num hk h1 (by omega), sgnI_neg]; exact h
 ·rw [cmpK_text hk h1 h2, sgnS_neg]; exact h
theorem cmp_trans {a b c : KeyT} (h1 : cmpK a b < 0) (h2 : cmpK b c < 0) : cmpK a c < 0 := by
 obtain ⟨ha, hb, k1⟩ := cmp_lt h1
 obtain ⟨_, hc, k2⟩ := cmp_lt h2
 refine lt_cmp ha hc ?_
 rcases k1 with k1 | ⟨e1, k1 | ⟨e2, k1⟩⟩ <;> rcases k2 with k2 | ⟨f1, k2 | ⟨f2, k2⟩⟩
 ·exact .inl (by omega)
 ·exact .inl (by omega)
 ·exact .inl (by omega)
 ·exact .inl (by omega)
 ·exact .inr ⟨by omega, .inl (by omega)⟩
 ·exact .inr ⟨by omega, .inl (by omega)⟩
 ·exact .inl (by omega)
 ·exact .inr ⟨by omega, .inl (by omega)⟩
 ·exact .inr ⟨by omega, .inr ⟨by omega, (bl_trans _ _ _ k1 k2)⟩⟩
abbrev Srt (l : List ItemT) : Prop := l.Pairwise fun a b => cmpK a.1 b.1 < 0
theorem okL_srt : ∀ (l : List ItemT) (p : Option KeyT), okL p l = true → Srt l ∧ (∀ q, p = some q → ∀ y ∈ l, cmpK q y.1 < 0) ∧ ∀ y ∈ l, isKey y.1 = true
 | [], _, _ => ⟨List.Pairwise.nil, by simp, by simp⟩
 | x :: l, p, h => by
  simp only [okL, Bool.and_eq_true] at h
  obtain ⟨i1, i2, i3⟩ := okL_srt l (some x.1) (by first | exact h.2 | exact h.1.2)
  have hx : relP p x.1 = true := by first | exact h.1.2 | exact h.1.1.2 | exact h.2.1 | grind
  have hkx : isKey x.1 = true := by first | exact h.1.1.1 | exact h.1.1 | grind
  refine ⟨List.pairwise_cons.2 ⟨i2 _ rfl, i1⟩, ?_, ?_⟩
  ·rintro q rfl y hy
   have hq : cmpK q x.1 < 0 := by simpa [relP] using hx
   rcases List.mem_cons.1 hy with rfl | hy
   ·exact hq
   ·exact cmp_trans hq (i2 _ rfl y hy)
  ·intro y hy
   rcases List.mem_cons.1 hy with rfl | hy
   ·exact hkx
   ·exact i3 y hy
theorem sto_srt {s : StoreT} (h : isSto s = true) : Srt s.2.1 ∧ (∀ y ∈ s.2.1, isKey y.1 = true) ∧ s.2.1.length ≤ 16 := by
 rw [isSto_eq] at h
 simp only [Bool.and_eq_true, decide_eq_true_eq] at h
 obtain ⟨h1, _, h3⟩ := okL_srt _ _ h.1
 exact ⟨h1, h3, by omega⟩
/-! ### walks of a cursor -/
end Go.Proofs.YtoigmlbidpocnaaGreat

namespace Go.Proofs.YtoigmlbidpocnaaGreat
open Go.RowKit
open Go.Proofs
set_option linter.unusedVariables false
set_option linter.unusedSimpArgs false

theorem sEq_iff {a b : Str} : sEq a b = true ↔ a = b := by
 unfold sEq
 rw [beq_iff_eq]
 constructor
 ·intro h
  rw [toList_data, toList_data] at h
  exact ByteArray.ext (Array.toList_inj.1 h)
 ·intro h; rw [h]
theorem fnd_any (d : DbT) (n : Str) : decide (0 ≤ fndS d n) = d.2.2.1.any (hasName n) := findI_any _
theorem upA_ok {d : DbT} {u : UpgT} (h : (upA d u).2 = true) : isDb d = true ∧ (upI d u).2 = true ∧ isDb (upI d u).1 = true ∧ upA d u = ((upI d u).1, true) := by
 unfold upA at h ⊢
 split at h
 ·cases h
 ·rename_i h1
  rw [if_neg h1]
  simp only [Bool.or_eq_true, Bool.not_eq_true', not_or, Bool.not_eq_false] at h1
  exact ⟨h1.1.1, h1.1.2, h1.2, rfl⟩
theorem upA_f {d : DbT} {u : UpgT} (h : (upA d u).2 = false) : (upA d u).1 = d := by
 unfold upA at h ⊢
 split
 ·rfl
 ·rename_i h1; rw [if_neg h1] at h; cases h
theorem db_un {d : DbT} (h : isDb d = true) {x : DefT} (hx : x ∈ d.2.2.2) : 0 ≤ fndS d x.1 := by
 obtain ⟨i, hi, rfl⟩ := List.mem_iff_getElem.1 hx
 rw [isDb, Bool.and_eq_true, Bool.and_eq_true] at h
 have h1 := h.2.2
 rw [dbUn, List.all_eq_true] at h1
 have h2 := h1 i (List.mem_range.2 hi)
 unfold unBad at h2
 rw [Int.toNat_natCast, List.getD_eq_getElem?_getD, List.getElem?_eq_getElem hi] at h2
 simp only [Option.getD_some, Bool.not_eq_true', Bool.or_eq_false_iff, decide_eq_false_iff_not] at h2
 have := h2.1.1.1
 omega
theorem upA_db {d : DbT} {u : UpgT} (h : (upA d u).2 = true) : isDb (upA d u).1 = true := by
 obtain ⟨_, _, h2, h3⟩ := upA_ok h
 rw [h3]; exact h2
/-! ### upgrades -/
end Go.Proofs.YtoigmlbidpocnaaGreat

namespace Go.Proofs.YtoigmlbidpocnaaGreat
open Go.RowKit
open Go.Proofs
set_option linter.unusedVariables false
set_option linter.unusedSimpArgs false

theorem rem_rng {a n : Int} (ha : 0 ≤ a) (hn : 0 < n) : 0 ≤ a % n ∧ a % n < n := ⟨Int.emod_nonneg a (by omega), Int.emod_lt_of_pos a hn⟩
theorem getD_memI {l : List Int} {x : Int} (h0 : 0 ≤ x) (h1 : x < (l.length : Int)) : l.getD x.toNat default ∈ l := by
 rw [List.getD_eq_getElem?_getD, List.getElem?_eq_getElem (by omega)]; exact List.getElem_mem _
theorem getD_memS {l : List Str} {x : Int} (h0 : 0 ≤ x) (h1 : x < (l.length : Int)) : l.getD x.toNat default ∈ l := by
 rw [List.getD_eq_getElem?_getD, List.getElem?_eq_getElem (by omega)]; exact List.getElem_mem _

theorem ok_spec_l1New {code : List UInt8} (hc : code.length ≤ 1048576) : NFn Tryz.prog 29 80 (bytesD (code)) (fun zz : Int × Int => 0 ≤ zz.1) (fun zz : Int × Int => [.dv [] (.int .i64 (zz.1)), .dv [] (.int .i64 (zz.2))]) := by
 refine ⟨fn_intro Tryz.func29 rfl Tryz.ntmps29 Tryz.results29 rfl (fun C => ?_)⟩
 refine z ?_
 refine yO rfl rfl (pu_move (.inr rfl) ev_any) rfl ?_
 iterate 3 refine z ?_
 refine yO rfl rfl (pu_lenV hT rfl rfl (ev_argv (ev_tmp rfl))) rfl ?_
 iterate 8 refine z ?_
 refine ok_loop (ι := Int × Int) (fun zz => ⟨[(0, .one (.arg 0 (bytesD (code)))), (2, .one .any), (3, .one (.dv [] (.int .i64 (zz.1)))), (4, .one (.dv [] (.int .i64 (zz.2))))], [], []⟩) (fun zz => 0 ≤ zz.2) (fun zz => (code.length - zz.2).toNat) ((193017 + (code.length : Int), 0)) ?_ (weak_sub ⟨rfl, rfl, rfl, rfl, trivial⟩ trivial trivial rfl) (fun zz hx => ?_)
 ·exact Int.le_refl _
 obtain ⟨h, i⟩ := zz
 replace hx : 0 ≤ i := hx
 show Ok _ _ _ _ _ (⟨[(0, .one (.arg 0 (bytesD (code)))), (2, .one .any), (3, .one (.dv [] (.int .i64 (h)))), (4, .one (.dv [] (.int .i64 (i))))], [], []⟩ : St)
 iterate 4 refine z ?_
 refine yO rfl rfl (pu_lenV hT rfl rfl (ev_argv (ev_tmp rfl))) rfl ?_
 iterate 6 refine z ?_
 refine yQ rfl (fun c1 => ?_) fun c1 => ?_
 ·skip
  simp only [Bool.and_eq_true, decide_eq_true_eq] at c1
  iterate 4 refine z ?_
  refine ok_region ?_
  refine z ?_
  refine yO rfl rfl (pu_mul rfl (ev_tmp rfl) (ev_int (inR_lit rfl))) rfl ?_
  iterate 2 refine z ?_
  refine yO rfl rfl (pu_indexD hT rfl rfl rfl (ev_argv (ev_tmp rfl)) (ev_tmp rfl) (fun _ => rfl) (by omega) (by omega)) rfl ?_
  refine z ?_
  refine yO rfl rfl (pu_convI hT rfl rfl rfl (ev_tmp rfl)) rfl ?_
  refine yO rfl rfl (pu_add rfl (ev_tmp rfl) (ev_tmp rfl)) rfl ?_
  refine yO rfl rfl (pu_add rfl (ev_tmp rfl) (ev_int (inR_lit rfl))) rfl ?_
  refine yO rfl rfl (pu_andZ rfl (ev_tmp rfl) (ev_int (inR_lit rfl))) rfl ?_
  refine z ?_
  refine ops_nil ?_
  generalize bits .and .i64 (IntKind.i64.wrap ((IntKind.i64.wrap ((IntKind.i64.wrap ((h) * (137))) + (IntKind.i64.wrap ((((((code)).getD (i).toNat default)).toNat : Int))))) + (11))) (1073741823) = z27
  iterate 2 refine z ?_
  refine ok_region ?_
  iterate 4 refine z ?_
  refine ⟨(z27, i + 1), ?_, ?_, weak_sub ⟨rfl, rfl, rfl, rfl, trivial⟩ trivial trivial rfl⟩
  ·show 0 ≤ i + 1; omega
  ·dsimp only; omega
 ·skip
  iterate 8 refine z ?_
  refine yO rfl rfl (pu_build hT hB rfl rfl rfl (bp_cons (ev_tmp rfl) rfl rfl rfl rfl rfl (bp_cons (ev_tmp rfl) rfl rfl rfl rfl rfl bp_nil))) rfl ?_
  iterate 4 refine z ?_
  refine fin1 (res_tmp rfl) ⟨(0, h), 31, ?_, rfl, rfl⟩
  exact Int.le_refl _
theorem ok_spec_l1Byte {code : List UInt8} {i h : Int} (hc : code.length ≤ 1048576) (hi : 0 ≤ i) : BFn Tryz.prog 59 [] 80 (bytesD (code)) [.dv [] (.int .i64 (i)), .dv [] (.int .i64 (h))] (fun zz : Int × Int × Int => 0 ≤ zz.1 ∧ zz.1 ≤ 255 ∧ 0 ≤ zz.2.1) (fun zz : Int × Int × Int => .one (.dv [] (.int .i64 (zz.1)))) (fun zz : Int × Int × Int => []) (fun zz : Int × Int × Int => [.dv [] (.int .i64 (zz.2.1)), .dv [] (.int .i64 (zz.2.2))]) := by
 refine ⟨fn_introS Tryz.func59 rfl Tryz.ntmps59 Tryz.results59 rfl (fun C => ?_)⟩
 iterate 4 refine z ?_
 refine yO rfl rfl (pu_move (.inl rfl) (ev_abox (ev_tmp rfl))) rfl ?_
 refine yO rfl rfl (pu_move (.inl rfl) (ev_abox (ev_tmp rfl))) rfl ?_
 refine yO rfl rfl (pu_nilB rfl (ev_tmp rfl)) rfl ?_
 iterate 2 refine z ?_
 refine yO rfl rfl (pu_mul rfl (ev_tmp rfl) (ev_int (inR_lit rfl))) rfl ?_
 refine yO rfl rfl (pu_add rfl (ev_tmp rfl) (ev_int (inR_lit rfl))) rfl ?_
 refine yO rfl rfl (pu_nilB rfl (ev_tmp rfl)) rfl ?_
 iterate 2 refine z ?_
 refine ops_nil ?_
 generalize IntKind.i64.wrap ((IntKind.i64.wrap ((h) * (6364136223846793005))) + (1442695040888963407)) = z10
 refine z ?_
 refine ok_seq ?_
 refine ok_regionD (oB := [0]) (oK := []) (by kernel_rfl) rfl rfl ?_
 refine d_take 0 rfl (by kernel_rfl) rfl rfl (pu_move (.inl rfl) (ev_abox (ev_tmp rfl))) rfl rfl rfl rfl ?_
 refine d_take 1 rfl (by kernel_rfl) rfl rfl (pu_nilB rfl (ev_tmp rfl)) rfl rfl rfl rfl ?_
 refine zD 2 ?_
 refine zD 3 ?_
 refine d_take 4 rfl (by kernel_rfl) rfl rfl (pu_shrZ rfl (ev_tmp rfl) (ev_int (inR_lit rfl)) (by omega) (by decide)) rfl rfl rfl rfl ?_
 refine d_take 5 rfl (by kernel_rfl) rfl rfl (pu_move (.inl rfl) (ev_abox (ev_tmp rfl))) rfl rfl rfl rfl ?_
 refine d_take 6 rfl (by kernel_rfl) rfl rfl (pu_nilB rfl (ev_tmp rfl)) rfl rfl rfl rfl ?_
 refine zD 7 ?_
 refine zD 8 ?_
 refine d_take 9 rfl (by kernel_rfl) rfl rfl (pu_shrZ rfl (ev_tmp rfl) (ev_int (inR_lit rfl)) (by omega) (by decide)) rfl rfl rfl rfl ?_
 refine d_take 10 rfl (by kernel_rfl) rfl rfl (pu_xorZ rfl (ev_tmp rfl) (ev_tmp rfl)) rfl rfl rfl rfl ?_
 refine d_take 11 rfl (by kernel_rfl) rfl rfl (pu_andZ rfl (ev_tmp rfl) (ev_int (inR_lit rfl))) rfl rfl rfl rfl ?_
 refine zD 12 ?_
 refine d_done (by kernel_rfl) ?_
 have q24 := and255_rng (bits .xor .i64 ((z10) / (2 ^ (33 : Int).toNat : Nat)) ((z10) / (2 ^ (47 : Int).toNat : Nat)))
 generalize bits .and .i64 (bits .xor .i64 ((z10) / (2 ^ (33 : Int).toNat : Nat)) ((z10) / (2 ^ (47 : Int).toNat : Nat))) (255) = z24 at *
 refine z ?_
 refine ok_seq ?_
 refine ok_seq ?_
 refine ok_regionD (oB := [0]) (oK := []) (by kernel_rfl) rfl rfl ?_
 refine d_take 0 rfl (by kernel_rfl) rfl rfl (pu_move (.inl rfl) (ev_abox (ev_tmp rfl))) rfl rfl rfl rfl ?_
 refine d_take 1 rfl (by kernel_rfl) rfl rfl (pu_nilB rfl (ev_tmp rfl)) rfl rfl rfl rfl ?_
 refine zD 2 ?_
 refine zD 3 ?_
 refine d_take 4 rfl (by kernel_rfl) rfl rfl (pu_move (.inl rfl) (ev_abox (ev_tmp rfl))) rfl rfl rfl rfl ?_
 refine d_take 5 rfl (by kernel_rfl) rfl rfl (pu_nilB rfl (ev_tmp rfl)) rfl rfl rfl rfl ?_
 refine zD 6 ?_
 refine zD 7 ?_
 refine d_take 8 rfl (by kernel_rfl) rfl rfl (pu_lenV hT rfl rfl (ev_argv (ev_tmp rfl))) rfl rfl rfl rfl ?_
 refine zD 9 ?_
 refine d_done (by kernel_rfl) ?_
 refine z ?_
 refine yQ rfl (fun c1 => ?_) fun c1 => ?_
 ·skip
  have d1 := of_decide_eq_true c1
  refine ok_seq ?_
  refine ok_regionD (oB := [0]) (oK := []) (by kernel_rfl) rfl rfl ?_
  refine zD 0 ?_
  refine d_take 1 rfl (by kernel_rfl) rfl rfl (pu_move (.inl rfl) (ev_abox (ev_tmp rfl))) rfl rfl rfl rfl ?_
  refine d_take 2 rfl (by kernel_rfl) rfl rfl (pu_nilB rfl (ev_tmp rfl)) rfl rfl rfl rfl ?_
  refine zD 3 ?_
  refine zD 4 ?_
  refine d_take 5 rfl (by kernel_rfl) rfl rfl (pu_move (.inl rfl) (ev_abox (ev_tmp rfl))) rfl rfl rfl rfl ?_
  refine d_take 6 rfl (by kernel_rfl) rfl rfl (pu_nilB rfl (ev_tmp rfl)) rfl rfl rfl rfl ?_
  refine zD 7 ?_
  refine zD 8 ?_
  refine d_take 9 rfl (by kernel_rfl) rfl rfl (pu_indexD hT rfl rfl rfl (ev_argv (ev_tmp rfl)) (ev_tmp rfl) (fun _ => rfl) (by omega) (by omega)) rfl rfl rfl rfl ?_
  refine zD 10 ?_
  refine d_take 11 rfl (by kernel_rfl) rfl rfl (pu_convI hT rfl rfl rfl (ev_tmp rfl)) rfl rfl rfl rfl ?_
  refine d_take 12 rfl (by kernel_rfl) rfl rfl (pu_add rfl (ev_tmp rfl) (ev_tmp rfl)) rfl rfl rfl rfl ?_
  refine d_take 13 rfl (by kernel_rfl) rfl rfl (pu_andZ rfl (ev_tmp rfl) (ev_int (inR_lit rfl))) rfl rfl rfl rfl ?_
  refine zD 14 ?_
  refine d_done (by kernel_rfl) ?_
  have q48 : 0 ≤ bits .and .i64 (IntKind.i64.wrap ((z24) + (IntKind.i64.wrap ((((((code)).getD (i).toNat default)).toNat : Int))))) (255) ∧ _ := and255_rng _
  generalize bits .and .i64 (IntKind.i64.wrap ((z24) + (IntKind.i64.wrap ((((((code)).getD (i).toNat default)).toNat : Int))))) (255) = z48 at *
  refine z ?_
  refine ok_region ?_
  refine yO rfl rfl (pu_move (.inl rfl) (ev_abox (ev_tmp rfl))) rfl ?_
  refine yO rfl rfl (pu_move (.inl rfl) (ev_abox (ev_tmp rfl))) rfl ?_
  refine yO rfl rfl (pu_nilB rfl (ev_tmp rfl)) rfl ?_
  iterate 3 refine z ?_
  refine yO rfl rfl (pu_nilB rfl (ev_tmp rfl)) rfl ?_
  iterate 7 refine z ?_
  refine ok_weak (σ' := ⟨[(2, .one (.dv [] (.int .i64 (z48)))), (0, .abox 0)], [(0, 80, [(.arg 900001 (bytesD (code))), (.dv [] (.int .i64 ((i) + (1)))), (.dv [] (.int .i64 (z10)))])], []⟩) (weak_sub ⟨rfl, rfl, trivial⟩ ⟨rfl, trivial⟩ trivial rfl) ?_
  refine z ?_
  refine fin1 (res_tmp rfl) ⟨((z48), (i) + (1), z10), ?_, rfl, rfl, rfl, rfl⟩
  try dsimp only
  omega
 ·skip
  have d1 := of_decide_eq_false c1
  iterate 6 refine z ?_
  refine ok_weak (σ' := ⟨[(2, .one (.dv [] (.int .i64 (z24)))), (0, .abox 0)], [(0, 80, [(.arg 900001 (bytesD (code))), (.dv [] (.int .i64 (i))), (.dv [] (.int .i64 (z10)))])], []⟩) (weak_sub ⟨rfl, rfl, trivial⟩ ⟨rfl, trivial⟩ trivial rfl) ?_
  refine z ?_
  refine fin1 (res_tmp rfl) ⟨((z24), i, z10), ?_, rfl, rfl, rfl, rfl⟩
  try dsimp only
  omega
theorem ok_spec_l1Below {code : List UInt8} {i h : Int} {n : Int} (hc : code.length ≤ 1048576) (hi : 0 ≤ i)  : BFn Tryz.prog 49 [.one (.dv [] (.int .i64 (n)))] 80 (bytesD (code)) [.dv [] (.int .i64 (i)), .dv [] (.int .i64 (h))] (fun zz : Int × Int × Int => 0 ≤ zz.1 ∧ (0 < n → zz.1 < n) ∧ 0 ≤ zz.2.1) (fun zz : Int × Int × Int => .one (.dv [] (.int .i64 (zz.1)))) (fun zz : Int × Int × Int => []) (fun zz : Int × Int × Int => [.dv [] (.int .i64 (zz.2.1)), .dv [] (.int .i64 (zz.2.2))]) := by
 refine ⟨fn_introS Tryz.func49 rfl Tryz.ntmps49 Tryz.results49 rfl (fun C => ?_)⟩
 refine ok_fact (x := .tmp 1) (ev_tmp rfl) fun f1 => ?_
 iterate 8 refine z ?_
 refine yQ rfl (fun c1 => ?_) fun c1 => ?_
 ·skip
  have d1 := of_decide_eq_true c1
  iterate 3 refine z ?_
  refine ok_weak (σ' := ⟨[(4, .one (.dv [] (.int .i64 (0)))), (0, .abox 0)], [(0, 80, [(.arg 900001 (bytesD (code))), (.dv [] (.int .i64 (i))), (.dv [] (.int .i64 (h)))])], []⟩) (weak_sub ⟨rfl, rfl, trivial⟩ ⟨rfl, trivial⟩ trivial rfl) ?_
  iterate 2 refine z ?_
  refine fin1 (res_tmp rfl) ⟨((0), i, h), ?_, rfl, rfl, rfl, rfl⟩
  try dsimp only
  exact ⟨by omega, by omega, hi⟩
 ·skip
  have d1 := of_decide_eq_false c1
  iterate 7 refine z ?_
  refine yQ rfl (fun c2 => ?_) fun c2 => ?_
  ·skip
   have d2 := of_decide_eq_true c2
   refine z ?_
   refine yO rfl rfl (pu_move (.inl rfl) (ev_abox (ev_tmp rfl))) rfl ?_
   refine o_callB 13000 rfl rfl rfl Tryz.call59 (ok_spec_l1Byte (code := code) (i := i) (h := h) (by omega) (by omega)) (ev_tmp rfl) rfl ac_arg rfl (fun _ => rfl) ad_nil rfl (fun _ => rfl) (fun _ => rfl) (fun zz hz13 => ?_)
   obtain ⟨e13, i13, h13⟩ := zz
   replace hz13 : 0 ≤ e13 ∧ e13 ≤ 255 ∧ 0 ≤ i13 := hz13
   refine z ?_
   refine yO rfl rfl (pu_remN rfl (ev_tmp rfl) (ev_tmp rfl) (by omega) (by omega)) rfl ?_
   iterate 2 refine z ?_
   refine ok_weak (σ' := ⟨[(4, .one (.dv [] (.int .i64 ((e13) % (n))))), (0, .abox 0)], [(0, 80, [(.arg 900001 (bytesD (code))), (.dv [] (.int .i64 (i13))), (.dv [] (.int .i64 (h13)))])], []⟩) (weak_sub ⟨rfl, rfl, trivial⟩ ⟨rfl, trivial⟩ trivial rfl) ?_
   iterate 2 refine z ?_
   refine fin1 (res_tmp rfl) ⟨(((e13) % (n)), i13, h13), ?_, rfl, rfl, rfl, rfl⟩
   try dsimp only
   have := rem_rng (a := e13) (n := n) (by omega) (by omega)
   exact ⟨this.1, fun _ => this.2, by omega⟩
  ·skip
   have d2 := of_decide_eq_false c2
   iterate 3 refine z ?_
   refine yO rfl rfl (pu_move (.inl rfl) (ev_abox (ev_tmp rfl))) rfl ?_
   refine o_callB 17000 rfl rfl rfl Tryz.call59 (ok_spec_l1Byte (code := code) (i := i) (h := h) (by omega) (by omega)) (ev_tmp rfl) rfl ac_arg rfl (fun _ => rfl) ad_nil rfl (fun _ => rfl) (fun _ => rfl) (fun zz hz17 => ?_)
   obtain ⟨e17, i17, h17⟩ := zz
   replace hz17 : 0 ≤ e17 ∧ e17 ≤ 255 ∧ 0 ≤ i17 := hz17
   iterate 3 refine z ?_
   refine yO rfl rfl (pu_move (.inl rfl) (ev_abox (ev_tmp rfl))) rfl ?_
   refine o_callB 19000 rfl rfl rfl Tryz.call59 (ok_spec_l1Byte (code := code) (i := i17) (h := h17) (by omega) (by omega)) (ev_tmp rfl) rfl ac_arg rfl (fun _ => rfl) ad_nil rfl (fun _ => rfl) (fun _ => rfl) (fun zz hz19 => ?_)
   obtain ⟨e19, i19, h19⟩ := zz
   replace hz19 : 0 ≤ e19 ∧ e19 ≤ 255 ∧ 0 ≤ i19 := hz19
   iterate 3 refine z ?_
   refine yO rfl rfl (pu_move (.inl rfl) (ev_abox (ev_tmp rfl))) rfl ?_
   refine o_callB 21000 rfl rfl rfl Tryz.call59 (ok_spec_l1Byte (code := code) (i := i19) (h := h19) (by omega) (by omega)) (ev_tmp rfl) rfl ac_arg rfl (fun _ => rfl) ad_nil rfl (fun _ => rfl) (fun _ => rfl) (fun zz hz21 => ?_)
   obtain ⟨e21, i21, h21⟩ := zz
   replace hz21 : 0 ≤ e21 ∧ e21 ≤ 255 ∧ 0 ≤ i21 := hz21
   iterate 4 refine z ?_
   refine yO rfl rfl (pu_mulR rfl (ev_tmp rfl) (ev_int (inR_lit rfl)) (inR64 (by omega) (by omega))) rfl ?_
   refine z ?_
   refine yO rfl rfl (pu_mulR rfl (ev_tmp rfl) (ev_int (inR_lit rfl)) (inR64 (by omega) (by omega))) rfl ?_
   iterate 4 refine z ?_
   refine yO rfl rfl (pu_remN rfl (ev_tmp rfl) (ev_tmp rfl) (by omega) (by omega)) rfl ?_
   iterate 2 refine z ?_
   refine ok_weak (σ' := ⟨[(4, .one (.dv [] (.int .i64 (((((e17) * (65536)) + ((e19) * (256))) + (e21)) % (n))))), (0, .abox 0)], [(0, 80, [(.arg 900001 (bytesD (code))), (.dv [] (.int .i64 (i21))), (.dv [] (.int .i64 (h21)))])], []⟩) (weak_sub ⟨rfl, rfl, trivial⟩ ⟨rfl, trivial⟩ trivial rfl) ?_
   refine z ?_
   refine fin1 (res_tmp rfl) ⟨((((((e17) * (65536)) + ((e19) * (256))) + (e21)) % (n)), i21, h21), ?_, rfl, rfl, rfl, rfl⟩
   try dsimp only
   have := rem_rng (a := e17 * 65536 + e19 * 256 + e21) (n := n) (by omega) (by omega)
   exact ⟨this.1, fun _ => this.2, by omega⟩
theorem ok_spec_l1Once {code : List UInt8} {i h : Int} {n : Int} (hc : code.length ≤ 1048576) (hi : 0 ≤ i)  : BFn Tryz.prog 32 [.one (.dv [] (.int .i64 (n)))] 80 (bytesD (code)) [.dv [] (.int .i64 (i)), .dv [] (.int .i64 (h))] (fun zz : Bool × Int × Int => 0 ≤ zz.2.1) (fun zz : Bool × Int × Int => .one (.dv [] (.bool (zz.1)))) (fun zz : Bool × Int × Int => []) (fun zz : Bool × Int × Int => [.dv [] (.int .i64 (zz.2.1)), .dv [] (.int .i64 (zz.2.2))]) := by
 refine ⟨fn_introS Tryz.func32 rfl Tryz.ntmps32 Tryz.results32 rfl (fun C => ?_)⟩
 refine ok_fact (x := .tmp 1) (ev_tmp rfl) fun f1 => ?_
 iterate 4 refine z ?_
 refine yO rfl rfl (pu_move (.inl rfl) (ev_abox (ev_tmp rfl))) rfl ?_
 refine z ?_
 refine o_callB 7000 rfl rfl rfl Tryz.call49 (ok_spec_l1Below (code := code) (i := i) (h := h) (n := n) (by omega) (by omega) ) (ev_tmp rfl) rfl ac_arg rfl (fun _ => rfl) (ad_cons (ev_tmp rfl) (ag_one ac_dv) rfl ad_nil) rfl (fun _ => rfl) (fun _ => rfl) (fun zz hz7 => ?_)
 obtain ⟨e7, i7, h7⟩ := zz
 replace hz7 : 0 ≤ e7 ∧ (0 < (n) → e7 < (n)) ∧ 0 ≤ i7 := hz7
 iterate 3 refine z ?_
 refine ok_weak (σ' := ⟨[(4, .one (.dv [] (.bool (decide ((e7) = (0)))))), (0, .abox 0)], [(0, 80, [(.arg 900001 (bytesD (code))), (.dv [] (.int .i64 (i7))), (.dv [] (.int .i64 (h7)))])], []⟩) (weak_sub ⟨rfl, rfl, trivial⟩ ⟨rfl, trivial⟩ trivial rfl) ?_
 refine z ?_
 refine fin1 (res_tmp rfl) ⟨((decide ((e7) = (0))), i7, h7), ?_, rfl, rfl, rfl, rfl⟩
 try dsimp only
 omega
theorem ok_spec_l1Int {code : List UInt8} {i h : Int} {l : List Int} (hc : code.length ≤ 1048576) (hi : 0 ≤ i) (hl : 0 < l.length) : BFn Tryz.prog 51 [.one (.dv [] (intsD (l)))] 80 (bytesD (code)) [.dv [] (.int .i64 (i)), .dv [] (.int .i64 (h))] (fun zz : Int × Int × Int => zz.1 ∈ l ∧ 0 ≤ zz.2.1) (fun zz : Int × Int × Int => .one (.dv [] (.int .i64 (zz.1)))) (fun zz : Int × Int × Int => []) (fun zz : Int × Int × Int => [.dv [] (.int .i64 (zz.2.1)), .dv [] (.int .i64 (zz.2.2))]) := by
 refine ⟨fn_introS Tryz.func51 rfl Tryz.ntmps51 Tryz.results51 rfl (fun C => ?_)⟩
 refine ok_fact (x := .tmp 1) (ev_tmp rfl) fun f1 => ?_
 iterate 5 refine z ?_
 refine yO rfl rfl (pu_move (.inl rfl) (ev_abox (ev_tmp rfl))) rfl ?_
 iterate 2 refine z ?_
 refine o_callB 9000 rfl rfl rfl Tryz.call49 (ok_spec_l1Below (code := code) (i := i) (h := h) (n := (((l)).length : Int)) (by omega) (by omega) ) (ev_tmp rfl) rfl ac_arg rfl (fun _ => rfl) (ad_cons (ev_tmp rfl) (ag_one ac_dv) rfl ad_nil) rfl (fun _ => rfl) (fun _ => rfl) (fun zz hz9 => ?_)
 obtain ⟨e9, i9, h9⟩ := zz
 replace hz9 : 0 ≤ e9 ∧ (0 < ((((l)).length : Int)) → e9 < ((((l)).length : Int))) ∧ 0 ≤ i9 := hz9
 have hl := hz9.2.1 (by omega)
 iterate 4 refine z ?_
 refine ok_weak (σ' := ⟨[(4, .one (.dv [] (.int .i64 ((((l)).getD (e9).toNat default))))), (0, .abox 0)], [(0, 80, [(.arg 900001 (bytesD (code))), (.dv [] (.int .i64 (i9))), (.dv [] (.int .i64 (h9)))])], []⟩) (weak_sub ⟨rfl, rfl, trivial⟩ ⟨rfl, trivial⟩ trivial rfl) ?_
 refine z ?_
 refine fin1 (res_tmp rfl) ⟨(((((l)).getD (e9).toNat default)), i9, h9), ?_, rfl, rfl, rfl, rfl⟩
 try dsimp only
 exact ⟨getD_memI (by omega) (by omega), by omega⟩
theorem ok_spec_l1Str {code : List UInt8} {i h : Int} {l : List Str} (hc : code.length ≤ 1048576) (hi : 0 ≤ i) (hl : 0 < l.length) : BFn Tryz.prog 60 [.one (.dv [] (strsD (l)))] 80 (bytesD (code)) [.dv [] (.int .i64 (i)), .dv [] (.int .i64 (h))] (fun zz : Str × Int × Int => zz.1 ∈ l ∧ 0 ≤ zz.2.1) (fun zz : Str × Int × Int => .one (.dv [] (.str (zz.1)))) (fun zz : Str × Int × Int => []) (fun zz : Str × Int × Int => [.dv [] (.int .i64 (zz.2.1)), .dv [] (.int .i64 (zz.2.2))]) := by
 refine ⟨fn_introS Tryz.func60 rfl Tryz.ntmps60 Tryz.results60 rfl (fun C => ?_)⟩
 refine ok_fact (x := .tmp 1) (ev_tmp rfl) fun f1 => ?_
 iterate 5 refine z ?_
 refine yO rfl rfl (pu_move (.inl rfl) (ev_abox (ev_tmp rfl))) rfl ?_
 iterate 2 refine z ?_
 refine o_callB 9000 rfl rfl rfl Tryz.call49 (ok_spec_l1Below (code := code) (i := i) (h := h) (n := (((l)).length : Int)) (by omega) (by omega) ) (ev_tmp rfl) rfl ac_arg rfl (fun _ => rfl) (ad_cons (ev_tmp rfl) (ag_one ac_dv) rfl ad_nil) rfl (fun _ => rfl) (fun _ => rfl) (fun zz hz9 => ?_)
 obtain ⟨e9, i9, h9⟩ := zz
 replace hz9 : 0 ≤ e9 ∧ (0 < ((((l)).length : Int)) → e9 < ((((l)).length : Int))) ∧ 0 ≤ i9 := hz9
 have hl := hz9.2.1 (by omega)
 iterate 4 refine z ?_
 refine ok_weak (σ' := ⟨[(4, .one (.dv [] (.str ((((l)).getD (e9).toNat default))))), (0, .abox 0)], [(0, 80, [(.arg 900001 (bytesD (code))), (.dv [] (.int .i64 (i9))), (.dv [] (.int .i64 (h9)))])], []⟩) (weak_sub ⟨rfl, rfl, trivial⟩ ⟨rfl, trivial⟩ trivial rfl) ?_
 refine z ?_
 refine fin1 (res_tmp rfl) ⟨(((((l)).getD (e9).toNat default)), i9, h9), ?_, rfl, rfl, rfl, rfl⟩
 try dsimp only
 exact ⟨getD_memS (by omega) (by omega), by omega⟩
end Go.Proofs.YtoigmlbidpocnaaGreat

namespace Go.Proofs.YtoigmlbidpocnaaGreat
open Go.RowKit
open Go.Proofs
set_option linter.unusedVariables false
set_option linter.unusedSimpArgs false

def smallK (k : KeyT) : Prop := k.2.1 ≤ 256 ∨ 1000000 < k.2.1
theorem kText_of {l : List Str} (h : l.all kText = true) {s : Str} (hs : s ∈ l) : kText s = true := List.all_eq_true.1 h s hs
theorem name_of {l : List Str} (h : l.all isName = true) {s : Str} (hs : s ∈ l) : isName s = true := List.all_eq_true.1 h s hs
theorem size_of {l : List Str} (n : Nat) (h : l.all (fun s => decide (s.size ≤ n)) = true) {s : Str} (hs : s ∈ l) : s.size ≤ n := by simpa using List.all_eq_true.1 h s hs
theorem rng_of {l : List Int} (a b : Int) (h : l.all (fun x => decide (a ≤ x) && decide (x ≤ b)) = true) {x : Int} (hx : x ∈ l) : a ≤ x ∧ x ≤ b := by simpa using List.all_eq_true.1 h x hx
theorem key_num {n : Int} (h : -1000000000000 ≤ n ∧ n ≤ 1000000000000) : isKey (1, n, ByteArray.empty) = true := by
 have ht : kText ByteArray.empty = true := by decide +kernel
 have he : sEq ByteArray.empty ByteArray.empty = true := by decide +kernel
 have he2 : (ByteArray.mk #[] : ByteArray) = ByteArray.empty := rfl
 simp [isKey, ht, h.1, h.2, he, he2]
theorem key_txt {s : Str} (h : kText s = true) : isKey (2, 0, s) = true := by simp [isKey, h]
theorem key_pair {n : Int} {s : Str} (h : -1000000000000 ≤ n ∧ n ≤ 1000000000000) (hs : kText s = true) : isKey (3, n, s) = true := by simp [isKey, hs, h.1, h.2]
theorem key_size {k : KeyT} (h : isKey k = true) : k.2.2.size ≤ 12 := (key_rng h).2.2
theorem setF_rec {r : RecT} {n : Str} {v : Int} (h : isRec r = true) : isRec (setF r n v).1 = true := by
 unfold setF
 split
 ·exact h
 ·rename_i h1
  simp only [Bool.or_eq_true, Bool.not_eq_true', not_or, Bool.not_eq_false] at h1
  exact h1.2
theorem rec_wt {r : RecT} (h : isRec r = true) : wRecord r ≤ 54 := by
 have h10 := rec_len h
 have h11 : wSum wField r ≤ 8 * r.length := by
  have key : ∀ r : RecT, (∀ f ∈ r, f.1.size ≤ 8) → wSum wField r ≤ 8 * r.length := by
   intro r
   induction r with
   | nil => intro _; simp [wSum]
   | cons f r ih =>
    intro hf
    have k1 := ih (fun g hg => hf g (by simp [hg]))
    have k2 := hf f (by simp)
    have k3 : wField f = f.1.size := rfl
    simp only [wSum, List.map_cons, List.sum_cons, List.length_cons] at *
    omega
  refine key _ (fun f hf => ?_)
  obtain ⟨j, hj, rfl⟩ := List.mem_iff_getElem.1 hf
  have := (name_size (rec_fld h hj).1).2
  rwa [getD_at hj] at this
 have h13 : wRecord r = r.length + wSum wField r := rfl
 omega

theorem ok_spec_l4Number {code : List UInt8} {i h : Int} (hc : code.length ≤ 1048576) (hi : 0 ≤ i) : BFn Tryz.prog 104 [] 80 (bytesD (code)) [.dv [] (.int .i64 (i)), .dv [] (.int .i64 (h))] (fun zz : Int × Int × Int => (-1000000000000 ≤ zz.1 ∧ zz.1 ≤ 1000000000000) ∧ (zz.1 ≤ 256 ∨ 1000000 < zz.1) ∧ 0 ≤ zz.2.1) (fun zz : Int × Int × Int => .one (.dv [] (.int .i64 (zz.1)))) (fun zz : Int × Int × Int => []) (fun zz : Int × Int × Int => [.dv [] (.int .i64 (zz.2.1)), .dv [] (.int .i64 (zz.2.2))]) := by
 refine ⟨fn_introS Tryz.func104 rfl Tryz.ntmps104 Tryz.results104 rfl (fun C => ?_)⟩
 iterate 4 refine z ?_
 refine yO rfl rfl (pu_move (.inl rfl) (ev_abox (ev_tmp rfl))) rfl ?_
 refine yO rfl rfl (pu_move (.inl rfl) (ev_abox (ev_tmp rfl))) rfl ?_
 refine o_callB 5000 rfl rfl rfl Tryz.call49 (ok_spec_l1Below (code := code) (i := i) (h := h) (n := 9) (by omega) (by omega) ) (ev_tmp rfl) rfl ac_arg rfl (fun _ => rfl) (ad_cons (ev_int (inR_lit rfl)) (ag_one ac_dv) rfl ad_nil) rfl (fun _ => rfl) (fun _ => rfl) (fun zz hz5 => ?_)
 obtain ⟨e5, i5, h5⟩ := zz
 replace hz5 : 0 ≤ e5 ∧ (0 < (9 : Int) → e5 < (9 : Int)) ∧ 0 ≤ i5 := hz5
 refine o_buildN (k := 6) (js := []) hT rfl rfl rfl rfl rfl rfl rfl rfl rfl rfl rfl (ep_cons (ev_int (inR_lit rfl)) rfl rfl rfl (ep_cons (ev_int (inR_lit rfl)) rfl rfl rfl (ep_cons (ev_int (inR_lit rfl)) rfl rfl rfl (ep_cons (ev_int (inR_lit rfl)) rfl rfl rfl (ep_cons (ev_int (inR_lit rfl)) rfl rfl rfl (ep_cons (ev_int (inR_lit rfl)) rfl rfl rfl (ep_cons (ev_int (inR_lit rfl)) rfl rfl rfl (ep_cons (ev_int (inR_lit rfl)) rfl rfl rfl (ep_cons (ev_tmp rfl) rfl rfl rfl ep_nil))))))))) (ow_cons' (ow_dv rfl) (ow_cons' (ow_dv rfl) (ow_cons' (ow_dv rfl) (ow_cons' (ow_dv rfl) (ow_cons' (ow_dv rfl) (ow_cons' (ow_dv rfl) (ow_cons' (ow_dv rfl) (ow_cons' (ow_dv rfl) (ow_cons' (ow_dv rfl) ow_nil rfl) rfl) rfl) rfl) rfl) rfl) rfl) rfl) rfl) (by decide) (by decide) rfl rfl ?_
 simp only [killT, killB, SV.kill, CV.kill, kk, Nat.reduceBEq]
 refine o_callB 7000 rfl rfl rfl Tryz.call51 (ok_spec_l1Int (code := code) (i := i5) (h := h5) (l := [0, 1, 2, -1, 255, 256, -1000000000000, 1000000000000, e5]) (by omega) (by omega) (by exact Nat.succ_pos _)) (ev_tmp rfl) rfl ac_arg rfl (fun _ => rfl) (ad_cons (ev_tmp rfl) (ag_one (ac_key' rfl rfl)) rfl ad_nil) rfl (fun _ => rfl) (fun _ => rfl) (fun zz hz7 => ?_)
 obtain ⟨e7, i7, h7⟩ := zz
 replace hz7 : e7 ∈ ([0, 1, 2, -1, 255, 256, -1000000000000, 1000000000000, e5]) ∧ 0 ≤ i7 := hz7
 iterate 2 refine z ?_
 refine ok_weak (σ' := ⟨[(2, .one (.dv [] (.int .i64 (e7)))), (0, .abox 0)], [(0, 80, [(.arg 900001 (bytesD (code))), (.dv [] (.int .i64 (i7))), (.dv [] (.int .i64 (h7)))])], []⟩) (weak_sub ⟨rfl, rfl, trivial⟩ ⟨rfl, trivial⟩ trivial rfl) ?_
 refine z ?_
 refine fin1 (res_tmp rfl) ⟨((e7), i7, h7), ?_, rfl, rfl, rfl, rfl⟩
 try dsimp only
 refine ⟨?_, ?_, by omega⟩
 all_goals have h9 := hz5.2.1 (by omega)
 all_goals have h8 := hz7.1
 all_goals simp only [List.mem_cons, List.not_mem_nil, or_false] at h8
 all_goals omega
theorem ok_spec_l4Key {code : List UInt8} {i h : Int} (hc : code.length ≤ 1048576) (hi : 0 ≤ i) : BFn Tryz.prog 92 [] 80 (bytesD (code)) [.dv [] (.int .i64 (i)), .dv [] (.int .i64 (h))] (fun zz : KeyT × Int × Int => isKey zz.1 = true ∧ smallK zz.1 ∧ 0 ≤ zz.2.1) (fun zz : KeyT × Int × Int => .agg [(.dv [] (.int .i64 (zz.1.1))), (.dv [] (.int .i64 (zz.1.2.1))), (.dv [] (.str (zz.1.2.2)))]) (fun zz : KeyT × Int × Int => []) (fun zz : KeyT × Int × Int => [.dv [] (.int .i64 (zz.2.1)), .dv [] (.int .i64 (zz.2.2))]) := by
 refine ⟨fn_introS Tryz.func92 rfl Tryz.ntmps92 Tryz.results92 rfl (fun C => ?_)⟩
 iterate 4 refine z ?_
 refine yO rfl rfl (pu_move (.inl rfl) (ev_abox (ev_tmp rfl))) rfl ?_
 refine o_buildN (k := 5) (js := []) hT rfl rfl rfl rfl rfl rfl rfl rfl rfl rfl rfl (ep_cons (ev_str (str_lit rfl)) rfl rfl rfl (ep_cons (ev_str (str_lit rfl)) rfl rfl rfl (ep_cons (ev_str (str_lit rfl)) rfl rfl rfl (ep_cons (ev_str (str_lit rfl)) rfl rfl rfl (ep_cons (ev_str (str_lit rfl)) rfl rfl rfl (ep_cons (ev_str (str_lit rfl)) rfl rfl rfl ep_nil)))))) (ow_cons' (ow_dv rfl) (ow_cons' (ow_dv rfl) (ow_cons' (ow_dv rfl) (ow_cons' (ow_dv rfl) (ow_cons' (ow_dv rfl) (ow_cons' (ow_dv rfl) ow_nil rfl) rfl) rfl) rfl) rfl) rfl) (by decide) (by decide) rfl rfl ?_
 simp only [killT, killB, SV.kill, CV.kill, kk, Nat.reduceBEq]
 refine o_callB 6000 rfl rfl rfl Tryz.call60 (ok_spec_l1Str (code := code) (i := i) (h := h) (l := [ByteArray.mk #[], ByteArray.mk #[97], ByteArray.mk #[97, 98], ByteArray.mk #[98], ByteArray.mk #[122, 57], ByteArray.mk #[97, 98, 99, 100, 101, 102, 103, 104, 105, 106, 107, 108]]) (by omega) (by omega) (by exact Nat.succ_pos _)) (ev_tmp rfl) rfl ac_arg rfl (fun _ => rfl) (ad_cons (ev_tmp rfl) (ag_one (ac_key' rfl rfl)) rfl ad_nil) rfl (fun _ => rfl) (fun _ => rfl) (fun zz hz6 => ?_)
 obtain ⟨e6, i6, h6⟩ := zz
 replace hz6 : e6 ∈ ([ByteArray.mk #[], ByteArray.mk #[97], ByteArray.mk #[97, 98], ByteArray.mk #[98], ByteArray.mk #[122, 57], ByteArray.mk #[97, 98, 99, 100, 101, 102, 103, 104, 105, 106, 107, 108]]) ∧ 0 ≤ i6 := hz6
 iterate 4 refine z ?_
 refine yO rfl rfl (pu_move (.inl rfl) (ev_abox (ev_tmp rfl))) rfl ?_
 refine o_callB 8000 rfl rfl rfl Tryz.call49 (ok_spec_l1Below (code := code) (i := i6) (h := h6) (n := 3) (by omega) (by omega) ) (ev_tmp rfl) rfl ac_arg rfl (fun _ => rfl) (ad_cons (ev_int (inR_lit rfl)) (ag_one ac_dv) rfl ad_nil) rfl (fun _ => rfl) (fun _ => rfl) (fun zz hz8 => ?_)
 obtain ⟨e8, i8, h8⟩ := zz
 replace hz8 : 0 ≤ e8 ∧ (0 < (3 : Int) → e8 < (3 : Int)) ∧ 0 ≤ i8 := hz8
 iterate 6 refine z ?_
 refine yQ rfl (fun c1 => ?_) fun c1 => ?_
 ·skip
  have d1 := of_decide_eq_true c1
  iterate 2 refine z ?_
  refine yO rfl rfl (pu_build hT hB rfl rfl rfl (bp_cons (ev_int (inR_lit rfl)) rfl rfl rfl rfl rfl (bp_cons (ev_tmp rfl) rfl rfl rfl rfl rfl bp_nil))) rfl ?_
  iterate 2 refine z ?_
  refine ok_weak (σ' := ⟨[(2, .box 2 0), (0, .abox 0)], [(2, 29, [(.dv [] (.int .i64 (2))), (.dv [] (.int .i64 (0))), (.dv [] (.str (e6)))]), (0, 80, [(.arg 900001 (bytesD (code))), (.dv [] (.int .i64 (i8))), (.dv [] (.int .i64 (h8)))])], []⟩) (weak_sub ⟨rfl, rfl, trivial⟩ ⟨rfl, rfl, trivial⟩ trivial rfl) ?_
  iterate 3 refine z ?_
  refine fin1 (res_cell hT rfl rfl rfl rfl) ⟨(((2), ((0), (e6))), i8, h8), ?_, rfl, rfl, rfl, rfl⟩
  try dsimp only
  exact ⟨key_txt (kText_of (l := [ByteArray.mk #[], ByteArray.mk #[97], ByteArray.mk #[97, 98], ByteArray.mk #[98], ByteArray.mk #[122, 57], ByteArray.mk #[97, 98, 99, 100, 101, 102, 103, 104, 105, 106, 107, 108]]) (by decide +kernel) hz6.1), .inl (by dsimp only; omega), by omega⟩
 ·skip
  have d1 := of_decide_eq_false c1
  iterate 4 refine z ?_
  refine yQ rfl (fun c2 => ?_) fun c2 => ?_
  ·skip
   have d2 := of_decide_eq_true c2
   refine z ?_
   refine yO rfl rfl (pu_move (.inl rfl) (ev_abox (ev_tmp rfl))) rfl ?_
   refine o_callB 16000 rfl rfl rfl Tryz.call104 (ok_spec_l4Number (code := code) (i := i8) (h := h8) (by omega) (by omega)) (ev_tmp rfl) rfl ac_arg rfl (fun _ => rfl) ad_nil rfl (fun _ => rfl) (fun _ => rfl) (fun zz hz16 => ?_)
   obtain ⟨e16, i16, h16⟩ := zz
   replace hz16 : (-1000000000000 ≤ e16 ∧ e16 ≤ 1000000000000) ∧ (e16 ≤ 256 ∨ 1000000 < e16) ∧ 0 ≤ i16 := hz16
   refine z ?_
   refine yO rfl rfl (pu_build hT hB rfl rfl rfl (bp_cons (ev_int (inR_lit rfl)) rfl rfl rfl rfl rfl (bp_cons (ev_tmp rfl) rfl rfl rfl rfl rfl (bp_cons (ev_tmp rfl) rfl rfl rfl rfl rfl bp_nil)))) rfl ?_
   iterate 2 refine z ?_
   refine ok_weak (σ' := ⟨[(2, .box 2 0), (0, .abox 0)], [(2, 29, [(.dv [] (.int .i64 (3))), (.dv [] (.int .i64 (e16))), (.dv [] (.str (e6)))]), (0, 80, [(.arg 900001 (bytesD (code))), (.dv [] (.int .i64 (i16))), (.dv [] (.int .i64 (h16)))])], []⟩) (weak_sub ⟨rfl, rfl, trivial⟩ ⟨rfl, rfl, trivial⟩ trivial rfl) ?_
   iterate 3 refine z ?_
   refine fin1 (res_cell hT rfl rfl rfl rfl) ⟨(((3), ((e16), (e6))), i16, h16), ?_, rfl, rfl, rfl, rfl⟩
   try dsimp only
   exact ⟨key_pair hz16.1 (kText_of (l := [ByteArray.mk #[], ByteArray.mk #[97], ByteArray.mk #[97, 98], ByteArray.mk #[98], ByteArray.mk #[122, 57], ByteArray.mk #[97, 98, 99, 100, 101, 102, 103, 104, 105, 106, 107, 108]]) (by decide +kernel) hz6.1), hz16.2.1, by omega⟩
  ·skip
   have d2 := of_decide_eq_false c2
   iterate 4 refine z ?_
   refine yO rfl rfl (pu_move (.inl rfl) (ev_abox (ev_tmp rfl))) rfl ?_
   refine o_callB 20000 rfl rfl rfl Tryz.call104 (ok_spec_l4Number (code := code) (i := i8) (h := h8) (by omega) (by omega)) (ev_tmp rfl) rfl ac_arg rfl (fun _ => rfl) ad_nil rfl (fun _ => rfl) (fun _ => rfl) (fun zz hz20 => ?_)
   obtain ⟨e20, i20, h20⟩ := zz
   replace hz20 : (-1000000000000 ≤ e20 ∧ e20 ≤ 1000000000000) ∧ (e20 ≤ 256 ∨ 1000000 < e20) ∧ 0 ≤ i20 := hz20
   refine yO rfl rfl (pu_build hT hB rfl rfl rfl (bp_cons (ev_int (inR_lit rfl)) rfl rfl rfl rfl rfl (bp_cons (ev_tmp rfl) rfl rfl rfl rfl rfl bp_nil))) rfl ?_
   iterate 2 refine z ?_
   refine ok_weak (σ' := ⟨[(2, .box 2 0), (0, .abox 0)], [(2, 29, [(.dv [] (.int .i64 (1))), (.dv [] (.int .i64 (e20))), (.dv [] (.str (ByteArray.empty)))]), (0, 80, [(.arg 900001 (bytesD (code))), (.dv [] (.int .i64 (i20))), (.dv [] (.int .i64 (h20)))])], []⟩) (weak_sub ⟨rfl, rfl, trivial⟩ ⟨rfl, rfl, trivial⟩ trivial rfl) ?_
   refine z ?_
   refine fin1 (res_cell hT rfl rfl rfl rfl) ⟨(((1), ((e20), (ByteArray.empty))), i20, h20), ?_, rfl, rfl, rfl, rfl⟩
   try dsimp only
   exact ⟨key_num hz20.1, hz20.2.1, by omega⟩
theorem ok_spec_l4Small {code : List UInt8} {i h : Int} (hc : code.length ≤ 1048576) (hi : 0 ≤ i) : BFn Tryz.prog 61 [] 80 (bytesD (code)) [.dv [] (.int .i64 (i)), .dv [] (.int .i64 (h))] (fun zz : KeyT × Int × Int => isKey zz.1 = true ∧ smallK zz.1 ∧ 0 ≤ zz.2.1) (fun zz : KeyT × Int × Int => .agg [(.dv [] (.int .i64 (zz.1.1))), (.dv [] (.int .i64 (zz.1.2.1))), (.dv [] (.str (zz.1.2.2)))]) (fun zz : KeyT × Int × Int => []) (fun zz : KeyT × Int × Int => [.dv [] (.int .i64 (zz.2.1)), .dv [] (.int .i64 (zz.2.2))]) := by
 refine ⟨fn_introS Tryz.func61 rfl Tryz.ntmps61 Tryz.results61 rfl (fun C => ?_)⟩
 iterate 4 refine z ?_
 refine yO rfl rfl (pu_move (.inl rfl) (ev_abox (ev_tmp rfl))) rfl ?_
 refine o_callB 4000 rfl rfl rfl Tryz.call49 (ok_spec_l1Below (code := code) (i := i) (h := h) (n := 6) (by omega) (by omega) ) (ev_tmp rfl) rfl ac_arg rfl (fun _ => rfl) (ad_cons (ev_int (inR_lit rfl)) (ag_one ac_dv) rfl ad_nil) rfl (fun _ => rfl) (fun _ => rfl) (fun zz hz4 => ?_)
 obtain ⟨e4, i4, h4⟩ := zz
 replace hz4 : 0 ≤ e4 ∧ (0 < (6 : Int) → e4 < (6 : Int)) ∧ 0 ≤ i4 := hz4
 refine yO rfl rfl (pu_build hT hB rfl rfl rfl (bp_cons (ev_int (inR_lit rfl)) rfl rfl rfl rfl rfl (bp_cons (ev_tmp rfl) rfl rfl rfl rfl rfl bp_nil))) rfl ?_
 iterate 2 refine z ?_
 refine ok_weak (σ' := ⟨[(2, .box 2 0), (0, .abox 0)], [(2, 29, [(.dv [] (.int .i64 (1))), (.dv [] (.int .i64 (e4))), (.dv [] (.str (ByteArray.empty)))]), (0, 80, [(.arg 900001 (bytesD (code))), (.dv [] (.int .i64 (i4))), (.dv [] (.int .i64 (h4)))])], []⟩) (weak_sub ⟨rfl, rfl, trivial⟩ ⟨rfl, rfl, trivial⟩ trivial rfl) ?_
 refine z ?_
 refine fin1 (res_cell hT rfl rfl rfl rfl) ⟨(((1), ((e4), (ByteArray.empty))), i4, h4), ?_, rfl, rfl, rfl, rfl⟩
 try dsimp only
 have h9 := hz4.2.1 (by omega)
 exact ⟨key_num (by omega), .inl (by dsimp only; omega), by omega⟩
theorem ok_spec_l4Any {code : List UInt8} {i h : Int} (hc : code.length ≤ 1048576) (hi : 0 ≤ i) : BFn Tryz.prog 78 [] 80 (bytesD (code)) [.dv [] (.int .i64 (i)), .dv [] (.int .i64 (h))] (fun zz : KeyT × Int × Int => zz.1.2.2.size ≤ 13 ∧ 0 ≤ zz.2.1) (fun zz : KeyT × Int × Int => .agg [(.dv [] (.int .i64 (zz.1.1))), (.dv [] (.int .i64 (zz.1.2.1))), (.dv [] (.str (zz.1.2.2)))]) (fun zz : KeyT × Int × Int => []) (fun zz : KeyT × Int × Int => [.dv [] (.int .i64 (zz.2.1)), .dv [] (.int .i64 (zz.2.2))]) := by
 refine ⟨fn_introS Tryz.func78 rfl Tryz.ntmps78 Tryz.results78 rfl (fun C => ?_)⟩
 iterate 4 refine z ?_
 refine yO rfl rfl (pu_move (.inl rfl) (ev_abox (ev_tmp rfl))) rfl ?_
 refine o_callB 5000 rfl rfl rfl Tryz.call92 (ok_spec_l4Key (code := code) (i := i) (h := h) (by omega) (by omega)) (ev_tmp rfl) rfl ac_arg rfl (fun _ => rfl) ad_nil rfl (fun _ => rfl) (fun _ => rfl) (fun zz hz5 => ?_)
 obtain ⟨e5, i5, h5⟩ := zz
 replace hz5 : isKey e5 = true ∧ smallK e5 ∧ 0 ≤ i5 := hz5
 have hks := key_size hz5.1
 iterate 5 refine z ?_
 refine yO rfl rfl (pu_move (.inl rfl) (ev_abox (ev_tmp rfl))) rfl ?_
 refine o_callB 7000 rfl rfl rfl Tryz.call49 (ok_spec_l1Below (code := code) (i := i5) (h := h5) (n := 10) (by omega) (by omega) ) (ev_tmp rfl) rfl ac_arg rfl (fun _ => rfl) (ad_cons (ev_int (inR_lit rfl)) (ag_one ac_dv) rfl ad_nil) rfl (fun _ => rfl) (fun _ => rfl) (fun zz hz7 => ?_)
 obtain ⟨e7, i7, h7⟩ := zz
 replace hz7 : 0 ≤ e7 ∧ (0 < (10 : Int) → e7 < (10 : Int)) ∧ 0 ≤ i7 := hz7
 iterate 6 refine z ?_
 refine yQ rfl (fun c1 => ?_) fun c1 => ?_
 ·skip
  have d1 := of_decide_eq_true c1
  refine ok_region ?_
  refine yO rfl rfl (pu_move (.inl rfl) (ev_abox (ev_tmp rfl))) rfl ?_
  refine o_callB 11000 rfl rfl rfl Tryz.call49 (ok_spec_l1Below (code := code) (i := i7) (h := h7) (n := 5) (by omega) (by omega) ) (ev_tmp rfl) rfl ac_arg rfl (fun _ => rfl) (ad_cons (ev_int (inR_lit rfl)) (ag_one ac_dv) rfl ad_nil) rfl (fun _ => rfl) (fun _ => rfl) (fun zz hz11 => ?_)
  obtain ⟨e11, i11, h11⟩ := zz
  replace hz11 : 0 ≤ e11 ∧ (0 < (5 : Int) → e11 < (5 : Int)) ∧ 0 ≤ i11 := hz11
  iterate 2 refine z ?_
  refine ops_nil ?_
  iterate 6 refine z ?_
  refine ok_weak (σ' := ⟨[(2, .box 2 0), (0, .abox 0)], [(2, 29, [(.dv [] (.int .i64 (e11))), (.dv [] (.int .i64 (e5.2.1))), (.dv [] (.str (e5.2.2)))]), (0, 80, [(.arg 900001 (bytesD (code))), (.dv [] (.int .i64 (i11))), (.dv [] (.int .i64 (h11)))])], []⟩) (weak_sub ⟨rfl, rfl, trivial⟩ ⟨rfl, rfl, trivial⟩ trivial rfl) ?_
  refine z ?_
  refine fin1 (res_cell hT rfl rfl rfl rfl) ⟨(((e11), ((e5.2.1), (e5.2.2))), i11, h11), ?_, rfl, rfl, rfl, rfl⟩
  try dsimp only
  exact ⟨by omega, by omega⟩
 ·skip
  have d1 := of_decide_eq_false c1
  iterate 4 refine z ?_
  refine yQ rfl (fun c2 => ?_) fun c2 => ?_
  ·skip
   have d2 := of_decide_eq_true c2
   refine ok_region ?_
   refine yO rfl rfl (pu_move (.inl rfl) (ev_abox (ev_tmp rfl))) rfl ?_
   refine o_buildN (k := 16) (js := []) hT rfl rfl rfl rfl rfl rfl rfl rfl rfl rfl rfl (ep_cons (ev_int (inR_lit rfl)) rfl rfl rfl (ep_cons (ev_int (inR_lit rfl)) rfl rfl rfl (ep_cons (ev_int (inR_lit rfl)) rfl rfl rfl ep_nil))) (ow_cons' (ow_dv rfl) (ow_cons' (ow_dv rfl) (ow_cons' (ow_dv rfl) ow_nil rfl) rfl) rfl) (by decide) (by decide) rfl rfl ?_
   simp only [killT, killB, SV.kill, CV.kill, kk, Nat.reduceBEq]
   refine o_callB 17000 rfl rfl rfl Tryz.call51 (ok_spec_l1Int (code := code) (i := i7) (h := h7) (l := [-1000000000001, 1000000000001, 5]) (by omega) (by omega) (by exact Nat.succ_pos _)) (ev_tmp rfl) rfl ac_arg rfl (fun _ => rfl) (ad_cons (ev_tmp rfl) (ag_one (ac_key' rfl rfl)) rfl ad_nil) rfl (fun _ => rfl) (fun _ => rfl) (fun zz hz17 => ?_)
   obtain ⟨e17, i17, h17⟩ := zz
   replace hz17 : e17 ∈ ([-1000000000001, 1000000000001, 5]) ∧ 0 ≤ i17 := hz17
   iterate 2 refine z ?_
   refine ops_nil ?_
   iterate 6 refine z ?_
   refine ok_weak (σ' := ⟨[(2, .box 2 0), (0, .abox 0)], [(2, 29, [(.dv [] (.int .i64 (e5.1))), (.dv [] (.int .i64 (e17))), (.dv [] (.str (e5.2.2)))]), (0, 80, [(.arg 900001 (bytesD (code))), (.dv [] (.int .i64 (i17))), (.dv [] (.int .i64 (h17)))])], []⟩) (weak_sub ⟨rfl, rfl, trivial⟩ ⟨rfl, rfl, trivial⟩ trivial rfl) ?_
   refine z ?_
   refine fin1 (res_cell hT rfl rfl rfl rfl) ⟨(((e5.1), ((e17), (e5.2.2))), i17, h17), ?_, rfl, rfl, rfl, rfl⟩
   try dsimp only
   exact ⟨by omega, by omega⟩
  ·skip
   have d2 := of_decide_eq_false c2
   iterate 4 refine z ?_
   refine yQ rfl (fun c3 => ?_) fun c3 => ?_
   ·skip
    have d3 := of_decide_eq_true c3
    refine ok_region ?_
    refine yO rfl rfl (pu_move (.inl rfl) (ev_abox (ev_tmp rfl))) rfl ?_
    refine o_buildN (k := 22) (js := []) hT rfl rfl rfl rfl rfl rfl rfl rfl rfl rfl rfl (ep_cons (ev_str (str_lit rfl)) rfl rfl rfl (ep_cons (ev_str (str_lit rfl)) rfl rfl rfl (ep_cons (ev_str (str_lit rfl)) rfl rfl rfl (ep_cons (ev_str (str_lit rfl)) rfl rfl rfl ep_nil)))) (ow_cons' (ow_dv rfl) (ow_cons' (ow_dv rfl) (ow_cons' (ow_dv rfl) (ow_cons' (ow_dv rfl) ow_nil rfl) rfl) rfl) rfl) (by decide) (by decide) rfl rfl ?_
    simp only [killT, killB, SV.kill, CV.kill, kk, Nat.reduceBEq]
    refine o_callB 23000 rfl rfl rfl Tryz.call60 (ok_spec_l1Str (code := code) (i := i7) (h := h7) (l := [ByteArray.mk #[65], ByteArray.mk #[97, 32, 98], ByteArray.mk #[97, 98, 99, 100, 101, 102, 103, 104, 105, 106, 107, 108, 109], ByteArray.mk #[120, 39]]) (by omega) (by omega) (by exact Nat.succ_pos _)) (ev_tmp rfl) rfl ac_arg rfl (fun _ => rfl) (ad_cons (ev_tmp rfl) (ag_one (ac_key' rfl rfl)) rfl ad_nil) rfl (fun _ => rfl) (fun _ => rfl) (fun zz hz23 => ?_)
    obtain ⟨e23, i23, h23⟩ := zz
    replace hz23 : e23 ∈ ([ByteArray.mk #[65], ByteArray.mk #[97, 32, 98], ByteArray.mk #[97, 98, 99, 100, 101, 102, 103, 104, 105, 106, 107, 108, 109], ByteArray.mk #[120, 39]]) ∧ 0 ≤ i23 := hz23
    iterate 2 refine z ?_
    refine ops_nil ?_
    iterate 6 refine z ?_
    refine ok_weak (σ' := ⟨[(2, .box 2 0), (0, .abox 0)], [(2, 29, [(.dv [] (.int .i64 (e5.1))), (.dv [] (.int .i64 (e5.2.1))), (.dv [] (.str (e23)))]), (0, 80, [(.arg 900001 (bytesD (code))), (.dv [] (.int .i64 (i23))), (.dv [] (.int .i64 (h23)))])], []⟩) (weak_sub ⟨rfl, rfl, trivial⟩ ⟨rfl, rfl, trivial⟩ trivial rfl) ?_
    refine z ?_
    refine fin1 (res_cell hT rfl rfl rfl rfl) ⟨(((e5.1), ((e5.2.1), (e23))), i23, h23), ?_, rfl, rfl, rfl, rfl⟩
    try dsimp only
    exact ⟨size_of 13 (by decide +kernel) hz23.1, by omega⟩
   ·skip
    have d3 := of_decide_eq_false c3
    iterate 7 refine z ?_
    refine ok_weak (σ' := ⟨[(2, .box 2 0), (0, .abox 0)], [(2, 29, [(.dv [] (.int .i64 (e5.1))), (.dv [] (.int .i64 (e5.2.1))), (.dv [] (.str (e5.2.2)))]), (0, 80, [(.arg 900001 (bytesD (code))), (.dv [] (.int .i64 (i7))), (.dv [] (.int .i64 (h7)))])], []⟩) (weak_sub ⟨rfl, rfl, trivial⟩ ⟨rfl, rfl, trivial⟩ trivial rfl) ?_
    refine z ?_
    refine fin1 (res_cell hT rfl rfl rfl rfl) ⟨(((e5.1), ((e5.2.1), (e5.2.2))), i7, h7), ?_, rfl, rfl, rfl, rfl⟩
    try dsimp only
    exact ⟨by omega, by omega⟩
theorem ok_spec_l5Name {code : List UInt8} {i h : Int} (hc : code.length ≤ 1048576) (hi : 0 ≤ i) : BFn Tryz.prog 63 [] 80 (bytesD (code)) [.dv [] (.int .i64 (i)), .dv [] (.int .i64 (h))] (fun zz : Str × Int × Int => isName zz.1 = true ∧ 0 ≤ zz.2.1) (fun zz : Str × Int × Int => .one (.dv [] (.str (zz.1)))) (fun zz : Str × Int × Int => []) (fun zz : Str × Int × Int => [.dv [] (.int .i64 (zz.2.1)), .dv [] (.int .i64 (zz.2.2))]) := by
 refine ⟨fn_introS Tryz.func63 rfl Tryz.ntmps63 Tryz.results63 rfl (fun C => ?_)⟩
 iterate 4 refine z ?_
 refine yO rfl rfl (pu_move (.inl rfl) (ev_abox (ev_tmp rfl))) rfl ?_
 refine o_buildN (k := 4) (js := []) hT rfl rfl rfl rfl rfl rfl rfl rfl rfl rfl rfl (ep_cons (ev_str (str_lit rfl)) rfl rfl rfl (ep_cons (ev_str (str_lit rfl)) rfl rfl rfl (ep_cons (ev_str (str_lit rfl)) rfl rfl rfl (ep_cons (ev_str (str_lit rfl)) rfl rfl rfl (ep_cons (ev_str (str_lit rfl)) rfl rfl rfl ep_nil))))) (ow_cons' (ow_dv rfl) (ow_cons' (ow_dv rfl) (ow_cons' (ow_dv rfl) (ow_cons' (ow_dv rfl) (ow_cons' (ow_dv rfl) ow_nil rfl) rfl) rfl) rfl) rfl) (by decide) (by decide) rfl rfl ?_
 simp only [killT, killB, SV.kill, CV.kill, kk, Nat.reduceBEq]
 refine o_callB 5000 rfl rfl rfl Tryz.call60 (ok_spec_l1Str (code := code) (i := i) (h := h) (l := [ByteArray.mk #[97], ByteArray.mk #[98], ByteArray.mk #[99], ByteArray.mk #[100, 111, 110, 101], ByteArray.mk #[116, 105, 116, 108, 101]]) (by omega) (by omega) (by exact Nat.succ_pos _)) (ev_tmp rfl) rfl ac_arg rfl (fun _ => rfl) (ad_cons (ev_tmp rfl) (ag_one (ac_key' rfl rfl)) rfl ad_nil) rfl (fun _ => rfl) (fun _ => rfl) (fun zz hz5 => ?_)
 obtain ⟨e5, i5, h5⟩ := zz
 replace hz5 : e5 ∈ ([ByteArray.mk #[97], ByteArray.mk #[98], ByteArray.mk #[99], ByteArray.mk #[100, 111, 110, 101], ByteArray.mk #[116, 105, 116, 108, 101]]) ∧ 0 ≤ i5 := hz5
 iterate 2 refine z ?_
 refine ok_weak (σ' := ⟨[(2, .one (.dv [] (.str (e5)))), (0, .abox 0)], [(0, 80, [(.arg 900001 (bytesD (code))), (.dv [] (.int .i64 (i5))), (.dv [] (.int .i64 (h5)))])], []⟩) (weak_sub ⟨rfl, rfl, trivial⟩ ⟨rfl, trivial⟩ trivial rfl) ?_
 refine z ?_
 refine fin1 (res_tmp rfl) ⟨((e5), i5, h5), ?_, rfl, rfl, rfl, rfl⟩
 try dsimp only
 exact ⟨name_of (l := [ByteArray.mk #[97], ByteArray.mk #[98], ByteArray.mk #[99], ByteArray.mk #[100, 111, 110, 101], ByteArray.mk #[116, 105, 116, 108, 101]]) (by decide +kernel) hz5.1, by omega⟩
theorem ok_spec_l5Record {code : List UInt8} {i h : Int} (hc : code.length ≤ 1048576) (hi : 0 ≤ i) : BFn Tryz.prog 62 [] 80 (bytesD (code)) [.dv [] (.int .i64 (i)), .dv [] (.int .i64 (h))] (fun zz : RecT × Int × Int => isRec zz.1 = true ∧ 0 ≤ zz.2.1) (fun zz : RecT × Int × Int => .agg [(.key 9001)]) (fun zz : RecT × Int × Int => [(9001, some (kcOf false (fieldsD (zz.1))))]) (fun zz : RecT × Int × Int => [.dv [] (.int .i64 (zz.2.1)), .dv [] (.int .i64 (zz.2.2))]) := by
 refine ⟨fn_introS Tryz.func62 rfl Tryz.ntmps62 Tryz.results62 rfl (fun C => ?_)⟩
 iterate 4 refine z ?_
 refine yO rfl rfl (pu_build hT hB rfl rfl rfl bp_nil) rfl ?_
 iterate 3 refine z ?_
 refine ok_seq ?_
 refine ok_seq ?_
 refine ok_weak (weak_nilB 9001 (b := 3) (i := 0) (e := 77) (sz := 2) rfl rfl rfl rfl rfl) ?_
 simp only [killT, killB, SV.kill, CV.kill, kk, Nat.reduceBEq]
 refine ok_region ?_
 refine yO rfl rfl (pu_move (.inl rfl) (ev_abox (ev_tmp rfl))) rfl ?_
 refine o_callB 7000 rfl rfl rfl Tryz.call49 (ok_spec_l1Below (code := code) (i := i) (h := h) (n := 4) (by omega) (by omega) ) (ev_tmp rfl) rfl ac_arg rfl (fun _ => rfl) (ad_cons (ev_int (inR_lit rfl)) (ag_one ac_dv) rfl ad_nil) rfl (fun _ => rfl) (fun _ => rfl) (fun zz hz7 => ?_)
 obtain ⟨e7, i7, h7⟩ := zz
 replace hz7 : 0 ≤ e7 ∧ (0 < (4 : Int) → e7 < (4 : Int)) ∧ 0 ≤ i7 := hz7
 iterate 3 refine z ?_
 refine ok_loop (ι := Int × RecT × Int × Int) (fun zz => ⟨[(0, .abox 0), (2, .box 2 0), (3, .box 3 0), (4, .one (.dv [] (.int .i64 (zz.1))))], [(0, 80, [(.arg 900001 (bytesD (code))), (.dv [] (.int .i64 (zz.2.2.1))), (.dv [] (.int .i64 (zz.2.2.2)))]), (2, 32, [.nil]), (3, 32, [(.key 9001)])], [(9001, some (kcOf false (.sl 77 2 (zz.2.1.length) (zz.2.1.flatMap eField))))]⟩) (fun zz => isRec zz.2.1 = true ∧ 0 ≤ zz.2.2.1 ∧ zz.1 ≤ 9) (fun zz => zz.1.toNat) ((e7, [], i7, h7)) ?_ (weak_sub ⟨rfl, rfl, rfl, rfl, trivial⟩ ⟨rfl, rfl, rfl, trivial⟩ ⟨rfl, trivial⟩ rfl) (fun zz hx => ?_)
 ·exact ⟨rfl, by dsimp only; omega, by dsimp only; omega⟩
 obtain ⟨n, r, ci, ch⟩ := zz
 replace hx : isRec r = true ∧ 0 ≤ ci ∧ n ≤ 9 := hx
 obtain ⟨hr, hci, hn9⟩ := hx
 show Ok _ _ _ _ _ (⟨[(0, .abox 0), (2, .box 2 0), (3, .box 3 0), (4, .one (.dv [] (.int .i64 (n))))], [(0, 80, [(.arg 900001 (bytesD (code))), (.dv [] (.int .i64 (ci))), (.dv [] (.int .i64 (ch)))]), (2, 32, [.nil]), (3, 32, [(.key 9001)])], [(9001, some (kcOf false (.sl 77 2 (r.length) (r.flatMap eField))))]⟩ : St)
 iterate 5 refine z ?_
 refine yQ rfl (fun c1 => ?_) fun c1 => ?_
 ·skip
  have d1 := of_decide_eq_true c1
  iterate 4 refine z ?_
  refine ok_regionL [0] [0, 1, 2, 3, 4, 5, 6] (oB := [2, 3]) (oK := [9001]) (by kernel_rfl) rfl rfl ?_
  refine l_take 0 rfl (by kernel_rfl) rfl rfl (pu_loadBoxA hT rfl rfl (ev_tmp rfl) rfl rfl) rfl rfl rfl rfl rfl ?_
  refine l_take 1 rfl (by kernel_rfl) rfl rfl (pu_move (.inl rfl) (ev_abox (ev_tmp rfl))) rfl rfl rfl rfl rfl ?_
  refine l_take 3 rfl (by kernel_rfl) rfl rfl (pu_move (.inl rfl) (ev_abox (ev_tmp rfl))) rfl rfl rfl rfl rfl ?_
  refine l_split 2 [] (by kernel_rfl) ⟨?_, trivial⟩
  refine y_callB 15000 2 rfl rfl rfl rfl rfl Tryz.call63 (ok_spec_l5Name (code := code) (i := ci) (h := ch) (by omega) (by omega)) (ev_tmp rfl) rfl ac_arg rfl (fun _ => rfl) ad_nil rfl (fun _ => rfl) (fun _ => rfl) rfl (fun zz hz15 => ?_)
  obtain ⟨e15, i15, h15⟩ := zz
  replace hz15 : isName e15 = true ∧ 0 ≤ i15 := hz15
  refine l_split 4 [] (by kernel_rfl) ⟨?_, trivial⟩
  refine y_callB 17000 4 rfl rfl rfl rfl rfl Tryz.call49 (ok_spec_l1Below (code := code) (i := i15) (h := h15) (n := 5) (by omega) (by omega) ) (ev_tmp rfl) rfl ac_arg rfl (fun _ => rfl) (ad_cons (ev_int (inR_lit rfl)) (ag_one ac_dv) rfl ad_nil) rfl (fun _ => rfl) (fun _ => rfl) rfl (fun zz hz17 => ?_)
  obtain ⟨e17, i17, h17⟩ := zz
  replace hz17 : 0 ≤ e17 ∧ (0 < (5 : Int) → e17 < (5 : Int)) ∧ 0 ≤ i17 := hz17
  refine l_split 5 [] (by kernel_rfl) ⟨?_, trivial⟩
  refine y_callK 500 5 rfl rfl rfl rfl Tryz.call81 (ok_spec_SetField (r := r) (n := e15) (v := e17) (by have := rec_len hr; omega)) (as_cons (ev_tmp rfl) (ag_agg (ag_cons (ac_key' rfl rfl) ag_nil)) (as_cons (ev_tmp rfl) (ag_one ac_dv) (as_cons (ev_tmp rfl) (ag_one ac_dv) as_nil))) rfl rfl rfl rfl rfl rfl ?_
  refine l_take 6 rfl (by kernel_rfl) rfl rfl (pu_move (.inl rfl) (ev_tmp rfl)) rfl rfl rfl rfl rfl ?_
  refine l_takeX 7 rfl (by kernel_rfl) rfl rfl rfl (pu_extractA rfl (ev_tmp rfl) rfl) rfl rfl ?_
  refine l_takeX 8 rfl (by kernel_rfl) rfl rfl rfl (pu_extract1 rfl (ev_tmp rfl) rfl) rfl rfl ?_
  refine l_chain [9] rfl rfl (by kernel_rfl) ?_
  refine z ?_
  refine ops_nil ?_
  iterate 2 refine z ?_
  refine ok_region ?_
  iterate 4 refine z ?_
  refine ⟨(n - 1, (setF r e15 e17).1, i17, h17), ?_, ?_, weak_then (weak_swapB (b := 3) (i := 0) (k := 9501) (k' := 9001) rfl rfl rfl rfl (by simp) rfl rfl) (weak_sub ⟨rfl, rfl, rfl, rfl, trivial⟩ ⟨rfl, rfl, rfl, trivial⟩ ⟨rfl, trivial⟩ rfl)⟩
  ·exact ⟨setF_rec hr, by dsimp only; omega, by dsimp only; omega⟩
  ·dsimp only; omega
 ·skip
  have d1 := of_decide_eq_false c1
  iterate 9 refine z ?_
  refine ok_weak (σ' := ⟨[(2, .box 2 0), (0, .abox 0)], [(2, 32, [(.key 9001)]), (0, 80, [(.arg 900001 (bytesD (code))), (.dv [] (.int .i64 (ci))), (.dv [] (.int .i64 (ch)))])], [(9001, some (kcOf false (.sl 77 2 (r.length) (r.flatMap eField))))]⟩) (weak_sub ⟨rfl, rfl, trivial⟩ ⟨rfl, rfl, trivial⟩ ⟨rfl, trivial⟩ rfl) ?_
  refine z ?_
  refine fin1 (res_cell hT rfl rfl rfl rfl) ⟨((r), ci, ch), ?_, rfl, rfl, rfl, rfl⟩
  try dsimp only
  exact ⟨hr, by omega⟩
end Go.Proofs.YtoigmlbidpocnaaGreat

namespace Go.Proofs.YtoigmlbidpocnaaGreat
open Go.RowKit
open Go.Proofs
set_option linter.unusedVariables false
set_option linter.unusedSimpArgs false

def autoI (s : StoreT) : Prop := ∀ y ∈ s.2.1, y.1.1 = 1 → y.1.2.1 ≤ 1000000 → y.1.2.1 ≤ s.2.2
theorem mem_insI {l : List ItemT} {j : Nat} {y z : ItemT} (h : z ∈ insI l j y) : z = y ∨ z ∈ l := by
 unfold insI at h
 simp only [List.mem_append, List.mem_singleton] at h
 rcases h with (h | h) | h
 ·exact .inr (List.mem_of_mem_take h)
 ·exact .inl h
 ·exact .inr (List.mem_of_mem_drop h)
theorem autoI_put {s : StoreT} {k : KeyT} {r : RecT} (h : autoI s) : autoI (putN s k r).1 := by
 cases h2 : (putN s k r).2 with
 | false => rw [putN_f h2]; exact h
 | true =>
  obtain ⟨_, _, _, ⟨h3, e⟩ | ⟨h3, _, e⟩⟩ := put_cases h2
  ·rw [e]
   intro y hy h4 h5
   dsimp only at hy ⊢
   have hm : y.1 ∈ (setI s.2.1 (fndK s k).toNat r).map Prod.fst := List.mem_map_of_mem hy
   rw [setI_keys] at hm
   obtain ⟨z, hz, hzy⟩ := List.mem_map.1 hm
   have := h z hz (by rw [hzy]; exact h4) (by rw [hzy]; exact h5)
   rw [hzy] at this; exact this
  ·rw [e]
   intro y hy h4 h5
   dsimp only at hy ⊢
   have ha : s.2.2 ≤ autoP s k := by
    have := put_auto (x := s) (k := k) (r := r)
    rw [e] at this; exact this
   rcases mem_insI hy with rfl | hy
   ·unfold autoP
    dsimp only at h4 h5 ⊢
    split
    ·exact Int.le_refl _
    ·rename_i hh
     simp only [Bool.and_eq_true, decide_eq_true_eq] at hh
     omega
   ·have := h y hy h4 h5
    omega
theorem auto_small {s : StoreT} {k : KeyT} {r : RecT} (h : s.2.2 ≤ 256) (hk : smallK k) : (putN s k r).1.2.2 ≤ 256 := by
 cases h2 : (putN s k r).2 with
 | false => rw [putN_f h2]; exact h
 | true =>
  obtain ⟨_, _, _, ⟨h3, e⟩ | ⟨h3, _, e⟩⟩ := put_cases h2
  ·rw [e]; exact h
  ·rw [e]
   dsimp only
   unfold autoP
   split
   ·rename_i hh
    simp only [Bool.and_eq_true, decide_eq_true_eq] at hh
    unfold smallK at hk
    omega
   ·exact h
theorem auto_step {s : StoreT} (hs : isSto s = true) (ha : autoI s) (hl : s.2.1.length < 16) (h : s.2.2 ≤ 284 + (s.2.1.length : Int)) :
  (autoN s []).2.2 = true ∧ isSto (autoN s []).1 = true ∧ autoI (autoN s []).1 ∧ (autoN s []).1.2.1.length = s.2.1.length + 1 ∧ (autoN s []).1.2.2 = s.2.2 + 1 := by
 have h0 := hs
 rw [isSto_eq] at h0
 simp only [Bool.and_eq_true, decide_eq_true_eq] at h0
 have hlo := h0.2.2.1
 have hk : isKey (keyA s) = true := key_num (by omega)
 have hf : fndK s (keyA s) < 0 := by
  rcases Int.lt_or_le (fndK s (keyA s)) 0 with hq | hq
  ·exact hq
  ·have h1 := fndK_lt hq
   rcases findI_cases (p := fun y : ItemT => kEq y.1 (keyA s)) (d := default) s.2.1 0 (by omega) with ⟨h2, _⟩ | ⟨m, h2, h3, _, h5⟩
   ·unfold fndK at hq; omega
   ·have hm : s.2.1.getD m default ∈ s.2.1 := by rw [List.getD_eq_getElem?_getD, List.getElem?_eq_getElem h2]; exact List.getElem_mem h2
    have e := kEq_eq h5
    have e1 : (s.2.1.getD m default).1.1 = 1 := by rw [e]; rfl
    have e2 : (s.2.1.getD m default).1.2.1 = s.2.2 + 1 := by rw [e]; rfl
    have := ha _ hm e1 (by omega)
    omega
 have hput : putN s (keyA s) [] = ((s.1, insI s.2.1 (posK (keyA s) s.2.1) (keyA s, []), autoP s (keyA s)), true) := by
  unfold putN
  have hr : isRec [] = true := rfl
  rw [if_neg (by rw [hs, hk, hr]; simp), if_neg (by omega), if_neg (by omega)]
 have hadd : addN s (keyA s) [] = putN s (keyA s) [] := if_neg (by omega)
 have hauto : autoN s [] = ((putN s (keyA s) []).1, keyA s, true) := by
  unfold autoN
  rw [if_neg (by omega), hadd, if_pos (by rw [hput])]
 rw [hauto]
 refine ⟨rfl, putN_sto hs, autoI_put ha, ?_, ?_⟩
 ·rw [hput]; exact insI_len
 ·rw [hput]
  show autoP s (keyA s) = _
  unfold autoP
  rw [if_pos (by
   simp only [Bool.and_eq_true, decide_eq_true_eq]
   exact ⟨rfl, Int.le_refl _, by show s.2.2 + 1 ≤ 1000000; omega⟩)]
  rfl
theorem sto_w2 {s : StoreT} (h : isSto s = true) : wStore s ≤ 1200 := by
 have h0 := h
 simp only [isSto, Bool.and_eq_true, List.all_eq_true, decide_eq_true_eq] at h
 obtain ⟨h1, ⟨h2, h3⟩, h4⟩ := h
 have h5 := name_size h2
 have h6 : ∀ x ∈ s.2.1, wItem x ≤ 70 := fun x hx => by
  obtain ⟨i, hi, rfl⟩ := List.mem_iff_getElem.1 hx
  have h7 := h1 i (List.mem_range.2 hi)
  unfold stoBad at h7
  rw [getD_at hi] at h7
  simp only [Bool.not_or, Bool.not_not, Bool.and_eq_true] at h7
  have h8 := (key_rng h7.1.1).2.2
  have h9 := rec_wt h7.1.2
  have h12 : wItem s.2.1[i] = s.2.1[i].1.2.2.size + wRecord s.2.1[i].2 := rfl
  omega
 have h7 : wSum wItem s.2.1 ≤ 70 * s.2.1.length := by
  have key : ∀ l : List ItemT, (∀ x ∈ l, wItem x ≤ 70) → wSum wItem l ≤ 70 * l.length := by
   intro l
   induction l with
   | nil => intro _; simp [wSum]
   | cons x l ih =>
    intro hx
    have k1 := ih (fun g hg => hx g (by simp [hg]))
    have k2 := hx x (by simp)
    simp only [wSum, List.map_cons, List.sum_cons, List.length_cons] at *
    omega
  exact key _ h6
 have h8 : wStore s = s.1.size + (s.2.1.length + wSum wItem s.2.1) := rfl
 omega
theorem rec_app_w (r : RecT) (f : FieldT) : wRecord (r ++ [f]) = wRecord r + 1 + f.1.size := by
 have h1 : wRecord (r ++ [f]) = (r ++ [f]).length + wSum wField (r ++ [f]) := rfl
 have h2 : wRecord r = r.length + wSum wField r := rfl
 have h3 : wSum wField [f] = f.1.size := by simp [wSum, wField]
 rw [h1, h2, wSum_app, List.length_append, h3, List.length_singleton]; omega
theorem sto_app_w (s : StoreT) (x : ItemT) : wStore (s.1, s.2.1 ++ [x], s.2.2) = wStore s + 1 + x.1.2.2.size + wRecord x.2 := by
 have h1 : wStore (s.1, s.2.1 ++ [x], s.2.2) = s.1.size + ((s.2.1 ++ [x]).length + wSum wItem (s.2.1 ++ [x])) := rfl
 have h2 : wStore s = s.1.size + (s.2.1.length + wSum wItem s.2.1) := rfl
 have h3 : wSum wItem [x] = x.1.2.2.size + wRecord x.2 := by simp [wSum, wItem, wKey]
 rw [h1, h2, wSum_app, List.length_append, h3, List.length_singleton]; omega

theorem ok_spec_l5Any {code : List UInt8} {i h : Int} (hc : code.length ≤ 1048576) (hi : 0 ≤ i) : BFn Tryz.prog 79 [] 80 (bytesD (code)) [.dv [] (.int .i64 (i)), .dv [] (.int .i64 (h))] (fun zz : RecT × Int × Int => wRecord zz.1 ≤ 200 ∧ 0 ≤ zz.2.1) (fun zz : RecT × Int × Int => .agg [(.key 9001)]) (fun zz : RecT × Int × Int => [(9001, some (kcOf false (fieldsD (zz.1))))]) (fun zz : RecT × Int × Int => [.dv [] (.int .i64 (zz.2.1)), .dv [] (.int .i64 (zz.2.2))]) := by
 refine ⟨fn_introS Tryz.func79 rfl Tryz.ntmps79 Tryz.results79 rfl (fun C => ?_)⟩
 iterate 4 refine z ?_
 refine yO rfl rfl (pu_move (.inl rfl) (ev_abox (ev_tmp rfl))) rfl ?_
 refine o_callB 0 rfl rfl rfl Tryz.call62 (ok_spec_l5Record (code := code) (i := i) (h := h) (by omega) (by omega)) (ev_tmp rfl) rfl ac_arg rfl (fun _ => rfl) ad_nil rfl (fun _ => rfl) (fun _ => rfl) (fun zz hz7 => ?_)
 obtain ⟨e7, i7, h7⟩ := zz
 replace hz7 : isRec e7 = true ∧ 0 ≤ i7 := hz7
 have hrw := rec_wt hz7.1
 iterate 5 refine z ?_
 refine yO rfl rfl (pu_move (.inl rfl) (ev_abox (ev_tmp rfl))) rfl ?_
 refine o_callB 9000 rfl rfl rfl Tryz.call49 (ok_spec_l1Below (code := code) (i := i7) (h := h7) (n := 12) (by omega) (by omega) ) (ev_tmp rfl) rfl ac_arg rfl (fun _ => rfl) (ad_cons (ev_int (inR_lit rfl)) (ag_one ac_dv) rfl ad_nil) rfl (fun _ => rfl) (fun _ => rfl) (fun zz hz9 => ?_)
 obtain ⟨e9, i9, h9⟩ := zz
 replace hz9 : 0 ≤ e9 ∧ (0 < (12 : Int) → e9 < (12 : Int)) ∧ 0 ≤ i9 := hz9
 iterate 6 refine z ?_
 refine yQ rfl (fun c1 => ?_) fun c1 => ?_
 ·skip
  have d1 := of_decide_eq_true c1
  refine ok_regionL [0] [0, 1, 2, 3, 4, 5, 6, 7, 8, 9] (oB := [2, 3]) (oK := [9001]) (by kernel_rfl) rfl rfl ?_
  refine l_take 0 rfl (by kernel_rfl) rfl rfl (pu_fieldBox hT rfl rfl rfl (ev_tmp rfl)) rfl rfl rfl rfl rfl ?_
  refine l_take 1 rfl (by kernel_rfl) rfl rfl (pu_loadBox1 hT rfl rfl (ev_tmp rfl) rfl rfl) rfl rfl rfl rfl rfl ?_
  refine l_take 2 rfl (by kernel_rfl) rfl rfl (pu_move (.inl rfl) (ev_abox (ev_tmp rfl))) rfl rfl rfl rfl rfl ?_
  refine l_take 5 rfl (by kernel_rfl) rfl rfl (pu_move (.inl rfl) (ev_abox (ev_tmp rfl))) rfl rfl rfl rfl rfl ?_
  refine l_split 3 [6] (by kernel_rfl) ⟨?_, ?_, trivial⟩
  ·skip
   refine y_buildN (k := 15) (js := []) 3 hT rfl rfl rfl rfl rfl rfl rfl rfl rfl rfl rfl rfl (ep_cons (ev_str (str_lit rfl)) rfl rfl rfl (ep_cons (ev_str (str_lit rfl)) rfl rfl rfl (ep_cons (ev_str (str_lit rfl)) rfl rfl rfl (ep_cons (ev_str (str_lit rfl)) rfl rfl rfl (ep_cons (ev_str (str_lit rfl)) rfl rfl rfl ep_nil))))) (ow_cons' (ow_dv rfl) (ow_cons' (ow_dv rfl) (ow_cons' (ow_dv rfl) (ow_cons' (ow_dv rfl) (ow_cons' (ow_dv rfl) ow_nil rfl) rfl) rfl) rfl) rfl) (by decide) (by decide) rfl rfl rfl rfl rfl ?_
   simp only [killT, killB, SV.kill, CV.kill, kk, Nat.reduceBEq]
   refine l_split 4 [6] (by kernel_rfl) ⟨?_, ?_, trivial⟩
   ·skip
    refine y_callB 16000 4 rfl rfl rfl rfl rfl Tryz.call60 (ok_spec_l1Str (code := code) (i := i9) (h := h9) (l := [ByteArray.mk #[], ByteArray.mk #[65], ByteArray.mk #[122, 122, 122, 122, 122, 122, 122, 122, 122], ByteArray.mk #[122], ByteArray.mk #[97]]) (by omega) (by omega) (by exact Nat.succ_pos _)) (ev_tmp rfl) rfl ac_arg rfl (fun _ => rfl) (ad_cons (ev_tmp rfl) (ag_one (ac_key' rfl rfl)) rfl ad_nil) rfl (fun _ => rfl) (fun _ => rfl) rfl (fun zz hz16 => ?_)
    obtain ⟨e16, i16, h16⟩ := zz
    replace hz16 : e16 ∈ ([ByteArray.mk #[], ByteArray.mk #[65], ByteArray.mk #[122, 122, 122, 122, 122, 122, 122, 122, 122], ByteArray.mk #[122], ByteArray.mk #[97]]) ∧ 0 ≤ i16 := hz16
    have hsz := size_of 9 (by decide +kernel) hz16.1
    refine l_split 6 [] (by kernel_rfl) ⟨?_, trivial⟩
    refine y_buildN (k := 18) (js := []) 6 hT rfl rfl rfl rfl rfl rfl rfl rfl rfl rfl rfl rfl (ep_cons (ev_int (inR_lit rfl)) rfl rfl rfl (ep_cons (ev_int (inR_lit rfl)) rfl rfl rfl (ep_cons (ev_int (inR_lit rfl)) rfl rfl rfl (ep_cons (ev_int (inR_lit rfl)) rfl rfl rfl ep_nil)))) (ow_cons' (ow_dv rfl) (ow_cons' (ow_dv rfl) (ow_cons' (ow_dv rfl) (ow_cons' (ow_dv rfl) ow_nil rfl) rfl) rfl) rfl) (by decide) (by decide) rfl rfl rfl rfl rfl ?_
    simp only [killT, killB, SV.kill, CV.kill, kk, Nat.reduceBEq]
    refine l_split 7 [] (by kernel_rfl) ⟨?_, trivial⟩
    refine y_callB 19000 7 rfl rfl rfl rfl rfl Tryz.call51 (ok_spec_l1Int (code := code) (i := i16) (h := h16) (l := [0, -1, 1000000000, 1000000001]) (by omega) (by omega) (by exact Nat.succ_pos _)) (ev_tmp rfl) rfl ac_arg rfl (fun _ => rfl) (ad_cons (ev_tmp rfl) (ag_one (ac_key' rfl rfl)) rfl ad_nil) rfl (fun _ => rfl) (fun _ => rfl) rfl (fun zz hz19 => ?_)
    obtain ⟨e19, i19, h19⟩ := zz
    replace hz19 : e19 ∈ ([0, -1, 1000000000, 1000000001]) ∧ 0 ≤ i19 := hz19
    refine l_take 8 rfl (by kernel_rfl) rfl rfl (pu_build hT hB rfl rfl rfl (bp_cons (ev_tmp rfl) rfl rfl rfl rfl rfl (bp_cons (ev_tmp rfl) rfl rfl rfl rfl rfl bp_nil))) rfl rfl rfl rfl rfl ?_
    refine l_split 9 [] (by kernel_rfl) ⟨?_, trivial⟩
    refine y_buildN (k := 21) (js := []) 9 hT rfl rfl rfl rfl rfl rfl rfl rfl rfl rfl rfl rfl (ep_cons (ev_tmp rfl) rfl rfl rfl ep_nil) (ow_cons' (ow_dv rfl) (ow_cons' (ow_dv rfl) ow_nil rfl) rfl) (by decide) (by decide) rfl rfl rfl rfl rfl ?_
    simp only [killT, killB, SV.kill, CV.kill, kk, Nat.reduceBEq]
    refine l_chain [10, 11, 12] rfl rfl (by kernel_rfl) ?_
    refine o_appK (k := 9001) (j := 21) (cs := (e7 ++ [(e16, e19)]).flatMap eField) (n := (e7 ++ [(e16, e19)]).length) hT rfl rfl rfl rfl rfl rfl rfl (ev_tmp rfl) rfl rfl rfl (ev_tmp rfl) rfl rfl (by decide) (by have := rec_len hz7.1; dsimp only [kcOf, KC.old, fieldsD, listD]; omega) (by have := rec_len hz7.1; dsimp only [kcOf, KC.old, fieldsD, listD]; omega) (by rw [List.length_append]; rfl) (by rw [List.flatMap_append]; rfl) ?_
    simp only [killT, killB, SV.kill, CV.kill, kk, Nat.reduceBEq]
    iterate 2 refine z ?_
    refine ops_nil ?_
    iterate 6 refine z ?_
    refine ok_weak (σ' := ⟨[(2, .box 2 0), (0, .abox 0)], [(2, 32, [(.key 9001)]), (0, 80, [(.arg 900001 (bytesD (code))), (.dv [] (.int .i64 (i19))), (.dv [] (.int .i64 (h19)))])], [(9001, some (kcOf false (.sl 77 2 ((e7 ++ [(e16, e19)]).length) ((e7 ++ [(e16, e19)]).flatMap eField))))]⟩) (weak_sub ⟨rfl, rfl, trivial⟩ ⟨rfl, rfl, trivial⟩ ⟨rfl, trivial⟩ rfl) ?_
    refine z ?_
    refine fin1 (res_cell hT rfl rfl rfl rfl) ⟨(((e7 ++ [(e16, e19)])), i19, h19), ?_, rfl, rfl, rfl, rfl⟩
    try dsimp only
    exact ⟨by have := rec_app_w e7 (e16, e19); dsimp only at this; omega, by omega⟩
   ·skip
    refine y_buildN (k := 18) (js := []) 6 hT rfl rfl rfl rfl rfl rfl rfl rfl rfl rfl rfl rfl (ep_cons (ev_int (inR_lit rfl)) rfl rfl rfl (ep_cons (ev_int (inR_lit rfl)) rfl rfl rfl (ep_cons (ev_int (inR_lit rfl)) rfl rfl rfl (ep_cons (ev_int (inR_lit rfl)) rfl rfl rfl ep_nil)))) (ow_cons' (ow_dv rfl) (ow_cons' (ow_dv rfl) (ow_cons' (ow_dv rfl) (ow_cons' (ow_dv rfl) ow_nil rfl) rfl) rfl) rfl) (by decide) (by decide) rfl rfl rfl rfl rfl ?_
    simp only [killT, killB, SV.kill, CV.kill, kk, Nat.reduceBEq]
    refine l_split 4 [] (by kernel_rfl) ⟨?_, trivial⟩
    refine y_callB 16000 4 rfl rfl rfl rfl rfl Tryz.call60 (ok_spec_l1Str (code := code) (i := i9) (h := h9) (l := [ByteArray.mk #[], ByteArray.mk #[65], ByteArray.mk #[122, 122, 122, 122, 122, 122, 122, 122, 122], ByteArray.mk #[122], ByteArray.mk #[97]]) (by omega) (by omega) (by exact Nat.succ_pos _)) (ev_tmp rfl) rfl ac_arg rfl (fun _ => rfl) (ad_cons (ev_tmp rfl) (ag_one (ac_key' rfl rfl)) rfl ad_nil) rfl (fun _ => rfl) (fun _ => rfl) rfl (fun zz hz16 => ?_)
    obtain ⟨e16, i16, h16⟩ := zz
    replace hz16 : e16 ∈ ([ByteArray.mk #[], ByteArray.mk #[65], ByteArray.mk #[122, 122, 122, 122, 122, 122, 122, 122, 122], ByteArray.mk #[122], ByteArray.mk #[97]]) ∧ 0 ≤ i16 := hz16
    have hsz := size_of 9 (by decide +kernel) hz16.1
    refine l_split 7 [] (by kernel_rfl) ⟨?_, trivial⟩
    refine y_callB 19000 7 rfl rfl rfl rfl rfl Tryz.call51 (ok_spec_l1Int (code := code) (i := i16) (h := h16) (l := [0, -1, 1000000000, 1000000001]) (by omega) (by omega) (by exact Nat.succ_pos _)) (ev_tmp rfl) rfl ac_arg rfl (fun _ => rfl) (ad_cons (ev_tmp rfl) (ag_one (ac_key' rfl rfl)) rfl ad_nil) rfl (fun _ => rfl) (fun _ => rfl) rfl (fun zz hz19 => ?_)
    obtain ⟨e19, i19, h19⟩ := zz
    replace hz19 : e19 ∈ ([0, -1, 1000000000, 1000000001]) ∧ 0 ≤ i19 := hz19
    refine l_take 8 rfl (by kernel_rfl) rfl rfl (pu_build hT hB rfl rfl rfl (bp_cons (ev_tmp rfl) rfl rfl rfl rfl rfl (bp_cons (ev_tmp rfl) rfl rfl rfl rfl rfl bp_nil))) rfl rfl rfl rfl rfl ?_
    refine l_split 9 [] (by kernel_rfl) ⟨?_, trivial⟩
    refine y_buildN (k := 21) (js := []) 9 hT rfl rfl rfl rfl rfl rfl rfl rfl rfl rfl rfl rfl (ep_cons (ev_tmp rfl) rfl rfl rfl ep_nil) (ow_cons' (ow_dv rfl) (ow_cons' (ow_dv rfl) ow_nil rfl) rfl) (by decide) (by decide) rfl rfl rfl rfl rfl ?_
    simp only [killT, killB, SV.kill, CV.kill, kk, Nat.reduceBEq]
    refine l_chain [10, 11, 12] rfl rfl (by kernel_rfl) ?_
    refine o_appK (k := 9001) (j := 21) (cs := (e7 ++ [(e16, e19)]).flatMap eField) (n := (e7 ++ [(e16, e19)]).length) hT rfl rfl rfl rfl rfl rfl rfl (ev_tmp rfl) rfl rfl rfl (ev_tmp rfl) rfl rfl (by decide) (by have := rec_len hz7.1; dsimp only [kcOf, KC.old, fieldsD, listD]; omega) (by have := rec_len hz7.1; dsimp only [kcOf, KC.old, fieldsD, listD]; omega) (by rw [List.length_append]; rfl) (by rw [List.flatMap_append]; rfl) ?_
    simp only [killT, killB, SV.kill, CV.kill, kk, Nat.reduceBEq]
    iterate 2 refine z ?_
    refine ops_nil ?_
    iterate 6 refine z ?_
    refine ok_weak (σ' := ⟨[(2, .box 2 0), (0, .abox 0)], [(2, 32, [(.key 9001)]), (0, 80, [(.arg 900001 (bytesD (code))), (.dv [] (.int .i64 (i19))), (.dv [] (.int .i64 (h19)))])], [(9001, some (kcOf false (.sl 77 2 ((e7 ++ [(e16, e19)]).length) ((e7 ++ [(e16, e19)]).flatMap eField))))]⟩) (weak_sub ⟨rfl, rfl, trivial⟩ ⟨rfl, rfl, trivial⟩ ⟨rfl, trivial⟩ rfl) ?_
    refine z ?_
    refine fin1 (res_cell hT rfl rfl rfl rfl) ⟨(((e7 ++ [(e16, e19)])), i19, h19), ?_, rfl, rfl, rfl, rfl⟩
    try dsimp only
    exact ⟨by have := rec_app_w e7 (e16, e19); dsimp only at this; omega, by omega⟩
  ·skip
   refine y_buildN (k := 18) (js := []) 6 hT rfl rfl rfl rfl rfl rfl rfl rfl rfl rfl rfl rfl (ep_cons (ev_int (inR_lit rfl)) rfl rfl rfl (ep_cons (ev_int (inR_lit rfl)) rfl rfl rfl (ep_cons (ev_int (inR_lit rfl)) rfl rfl rfl (ep_cons (ev_int (inR_lit rfl)) rfl rfl rfl ep_nil)))) (ow_cons' (ow_dv rfl) (ow_cons' (ow_dv rfl) (ow_cons' (ow_dv rfl) (ow_cons' (ow_dv rfl) ow_nil rfl) rfl) rfl) rfl) (by decide) (by decide) rfl rfl rfl rfl rfl ?_
   simp only [killT, killB, SV.kill, CV.kill, kk, Nat.reduceBEq]
   refine l_split 3 [] (by kernel_rfl) ⟨?_, trivial⟩
   refine y_buildN (k := 15) (js := []) 3 hT rfl rfl rfl rfl rfl rfl rfl rfl rfl rfl rfl rfl (ep_cons (ev_str (str_lit rfl)) rfl rfl rfl (ep_cons (ev_str (str_lit rfl)) rfl rfl rfl (ep_cons (ev_str (str_lit rfl)) rfl rfl rfl (ep_cons (ev_str (str_lit rfl)) rfl rfl rfl (ep_cons (ev_str (str_lit rfl)) rfl rfl rfl ep_nil))))) (ow_cons' (ow_dv rfl) (ow_cons' (ow_dv rfl) (ow_cons' (ow_dv rfl) (ow_cons' (ow_dv rfl) (ow_cons' (ow_dv rfl) ow_nil rfl) rfl) rfl) rfl) rfl) (by decide) (by decide) rfl rfl rfl rfl rfl ?_
   simp only [killT, killB, SV.kill, CV.kill, kk, Nat.reduceBEq]
   refine l_split 4 [] (by kernel_rfl) ⟨?_, trivial⟩
   refine y_callB 16000 4 rfl rfl rfl rfl rfl Tryz.call60 (ok_spec_l1Str (code := code) (i := i9) (h := h9) (l := [ByteArray.mk #[], ByteArray.mk #[65], ByteArray.mk #[122, 122, 122, 122, 122, 122, 122, 122, 122], ByteArray.mk #[122], ByteArray.mk #[97]]) (by omega) (by omega) (by exact Nat.succ_pos _)) (ev_tmp rfl) rfl ac_arg rfl (fun _ => rfl) (ad_cons (ev_tmp rfl) (ag_one (ac_key' rfl rfl)) rfl ad_nil) rfl (fun _ => rfl) (fun _ => rfl) rfl (fun zz hz16 => ?_)
   obtain ⟨e16, i16, h16⟩ := zz
   replace hz16 : e16 ∈ ([ByteArray.mk #[], ByteArray.mk #[65], ByteArray.mk #[122, 122, 122, 122, 122, 122, 122, 122, 122], ByteArray.mk #[122], ByteArray.mk #[97]]) ∧ 0 ≤ i16 := hz16
   have hsz := size_of 9 (by decide +kernel) hz16.1
   refine l_split 7 [] (by kernel_rfl) ⟨?_, trivial⟩
   refine y_callB 19000 7 rfl rfl rfl rfl rfl Tryz.call51 (ok_spec_l1Int (code := code) (i := i16) (h := h16) (l := [0, -1, 1000000000, 1000000001]) (by omega) (by omega) (by exact Nat.succ_pos _)) (ev_tmp rfl) rfl ac_arg rfl (fun _ => rfl) (ad_cons (ev_tmp rfl) (ag_one (ac_key' rfl rfl)) rfl ad_nil) rfl (fun _ => rfl) (fun _ => rfl) rfl (fun zz hz19 => ?_)
   obtain ⟨e19, i19, h19⟩ := zz
   replace hz19 : e19 ∈ ([0, -1, 1000000000, 1000000001]) ∧ 0 ≤ i19 := hz19
   refine l_take 8 rfl (by kernel_rfl) rfl rfl (pu_build hT hB rfl rfl rfl (bp_cons (ev_tmp rfl) rfl rfl rfl rfl rfl (bp_cons (ev_tmp rfl) rfl rfl rfl rfl rfl bp_nil))) rfl rfl rfl rfl rfl ?_
   refine l_split 9 [] (by kernel_rfl) ⟨?_, trivial⟩
   refine y_buildN (k := 21) (js := []) 9 hT rfl rfl rfl rfl rfl rfl rfl rfl rfl rfl rfl rfl (ep_cons (ev_tmp rfl) rfl rfl rfl ep_nil) (ow_cons' (ow_dv rfl) (ow_cons' (ow_dv rfl) ow_nil rfl) rfl) (by decide) (by decide) rfl rfl rfl rfl rfl ?_
   simp only [killT, killB, SV.kill, CV.kill, kk, Nat.reduceBEq]
   refine l_chain [10, 11, 12] rfl rfl (by kernel_rfl) ?_
   refine o_appK (k := 9001) (j := 21) (cs := (e7 ++ [(e16, e19)]).flatMap eField) (n := (e7 ++ [(e16, e19)]).length) hT rfl rfl rfl rfl rfl rfl rfl (ev_tmp rfl) rfl rfl rfl (ev_tmp rfl) rfl rfl (by decide) (by have := rec_len hz7.1; dsimp only [kcOf, KC.old, fieldsD, listD]; omega) (by have := rec_len hz7.1; dsimp only [kcOf, KC.old, fieldsD, listD]; omega) (by rw [List.length_append]; rfl) (by rw [List.flatMap_append]; rfl) ?_
   simp only [killT, killB, SV.kill, CV.kill, kk, Nat.reduceBEq]
   iterate 2 refine z ?_
   refine ops_nil ?_
   iterate 6 refine z ?_
   refine ok_weak (σ' := ⟨[(2, .box 2 0), (0, .abox 0)], [(2, 32, [(.key 9001)]), (0, 80, [(.arg 900001 (bytesD (code))), (.dv [] (.int .i64 (i19))), (.dv [] (.int .i64 (h19)))])], [(9001, some (kcOf false (.sl 77 2 ((e7 ++ [(e16, e19)]).length) ((e7 ++ [(e16, e19)]).flatMap eField))))]⟩) (weak_sub ⟨rfl, rfl, trivial⟩ ⟨rfl, rfl, trivial⟩ ⟨rfl, trivial⟩ rfl) ?_
   refine z ?_
   refine fin1 (res_cell hT rfl rfl rfl rfl) ⟨(((e7 ++ [(e16, e19)])), i19, h19), ?_, rfl, rfl, rfl, rfl⟩
   try dsimp only
   exact ⟨by have := rec_app_w e7 (e16, e19); dsimp only at this; omega, by omega⟩
 ·skip
  have d1 := of_decide_eq_false c1
  iterate 4 refine z ?_
  refine yQ rfl (fun c2 => ?_) fun c2 => ?_
  ·skip
   have d2 := of_decide_eq_true c2
   refine z ?_
   refine o_buildN (k := 26) (js := []) hT rfl rfl rfl rfl rfl rfl rfl rfl rfl rfl rfl (ep_cons (ev_str (str_lit rfl)) rfl rfl rfl (ep_cons (ev_str (str_lit rfl)) rfl rfl rfl (ep_cons (ev_str (str_lit rfl)) rfl rfl rfl (ep_cons (ev_str (str_lit rfl)) rfl rfl rfl (ep_cons (ev_str (str_lit rfl)) rfl rfl rfl (ep_cons (ev_str (str_lit rfl)) rfl rfl rfl ep_nil)))))) (ow_cons' (ow_dv rfl) (ow_cons' (ow_dv rfl) (ow_cons' (ow_dv rfl) (ow_cons' (ow_dv rfl) (ow_cons' (ow_dv rfl) (ow_cons' (ow_dv rfl) ow_nil rfl) rfl) rfl) rfl) rfl) rfl) (by decide) (by decide) rfl rfl ?_
   simp only [killT, killB, SV.kill, CV.kill, kk, Nat.reduceBEq]
   refine yO rfl rfl (pu_lenKn (n := (6)) hT rfl rfl (ev_tmp rfl) rfl rfl) rfl ?_
   iterate 3 refine z ?_
   refine ok_weak (weak_view (d := 26) (dd := strsD ([ByteArray.mk #[100], ByteArray.mk #[101], ByteArray.mk #[102], ByteArray.mk #[103], ByteArray.mk #[104], ByteArray.mk #[105]])) rfl rfl (.refl _)) ?_
   refine ok_loop (ι := Nat × RecT × Int × Int) (fun zz => ⟨[(0, .abox 0), (2, .box 2 0), (3, .box 3 0), (26, .one (.dv [26] (strsD ([ByteArray.mk #[100], ByteArray.mk #[101], ByteArray.mk #[102], ByteArray.mk #[103], ByteArray.mk #[104], ByteArray.mk #[105]])))), (27, .one (.dv [] (.int .i64 (((6) : Int))))), (28, .one (.dv [] (.int .i64 ((zz.1 : Int)))))], [(0, 80, [(.arg 900001 (bytesD (code))), (.dv [] (.int .i64 (zz.2.2.1))), (.dv [] (.int .i64 (zz.2.2.2)))]), (2, 32, [.nil]), (3, 32, [(.key 9001)])], [(9001, some (kcOf false (.sl 77 2 (zz.2.1.length) (zz.2.1.flatMap eField)))), (26, some (kcOf false (.sl 9 1 (6) ([.str (ByteArray.mk #[100]), .str (ByteArray.mk #[101]), .str (ByteArray.mk #[102]), .str (ByteArray.mk #[103]), .str (ByteArray.mk #[104]), .str (ByteArray.mk #[105])]))))]⟩) (fun zz => isRec zz.2.1 = true ∧ 0 ≤ zz.2.2.1 ∧ zz.1 ≤ 6) (fun zz => 6 - zz.1) ((0, e7, i9, h9)) ?_ (weak_sub ⟨rfl, rfl, rfl, rfl, rfl, rfl, trivial⟩ ⟨rfl, rfl, rfl, trivial⟩ ⟨rfl, rfl, trivial⟩ rfl) (fun zz hx => ?_)
   ·exact ⟨hz7.1, by dsimp only; omega, Nat.zero_le _⟩
   obtain ⟨k, r, ci, ch⟩ := zz
   replace hx : isRec r = true ∧ 0 ≤ ci ∧ k ≤ 6 := hx
   obtain ⟨hr, hci, hk6⟩ := hx
   show Ok _ _ _ _ _ (⟨[(0, .abox 0), (2, .box 2 0), (3, .box 3 0), (26, .one (.dv [26] (strsD ([ByteArray.mk #[100], ByteArray.mk #[101], ByteArray.mk #[102], ByteArray.mk #[103], ByteArray.mk #[104], ByteArray.mk #[105]])))), (27, .one (.dv [] (.int .i64 (((6) : Int))))), (28, .one (.dv [] (.int .i64 ((k : Int)))))], [(0, 80, [(.arg 900001 (bytesD (code))), (.dv [] (.int .i64 (ci))), (.dv [] (.int .i64 (ch)))]), (2, 32, [.nil]), (3, 32, [(.key 9001)])], [(9001, some (kcOf false (.sl 77 2 (r.length) (r.flatMap eField)))), (26, some (kcOf false (.sl 9 1 (6) ([.str (ByteArray.mk #[100]), .str (ByteArray.mk #[101]), .str (ByteArray.mk #[102]), .str (ByteArray.mk #[103]), .str (ByteArray.mk #[104]), .str (ByteArray.mk #[105])]))))]⟩ : St)
   iterate 3 refine z ?_
   refine ok_seq ?_
   refine yQ rfl (fun c3 => ?_) fun c3 => ?_
   ·skip
    have d3 := of_decide_eq_true c3
    iterate 9 refine z ?_
    refine ok_region ?_
    iterate 2 refine z ?_
    refine o_callK 500 rfl rfl rfl Tryz.call81 (ok_spec_SetField (r := r) (n := (([ByteArray.mk #[100], ByteArray.mk #[101], ByteArray.mk #[102], ByteArray.mk #[103], ByteArray.mk #[104], ByteArray.mk #[105]]).getD (k : Int).toNat default)) (v := 1) (by have := rec_len hr; omega)) (as_cons (ev_tmp rfl) (ag_agg (ag_cons (ac_key' rfl rfl) ag_nil)) (as_cons (ev_tmp rfl) (ag_one ac_dv) (as_cons (ev_int (inR_lit rfl)) (ag_one ac_dv) as_nil))) rfl rfl rfl ?_
    iterate 4 refine z ?_
    refine ops_nil ?_
    iterate 2 refine z ?_
    refine ok_region ?_
    iterate 3 refine z ?_
    refine ⟨(k + 1, (setF r (([ByteArray.mk #[100], ByteArray.mk #[101], ByteArray.mk #[102], ByteArray.mk #[103], ByteArray.mk #[104], ByteArray.mk #[105]]).getD (k : Int).toNat default) 1).1, ci, ch), ?_, ?_, weak_then (weak_swapB (b := 3) (i := 0) (k := 9501) (k' := 9001) rfl rfl rfl rfl (by simp) rfl rfl) (weak_sub ⟨rfl, rfl, rfl, rfl, rfl, rfl, trivial⟩ ⟨rfl, rfl, rfl, trivial⟩ ⟨rfl, rfl, trivial⟩ rfl)⟩
    ·exact ⟨setF_rec hr, hci, by dsimp only; omega⟩
    ·dsimp only; omega
   ·skip
    have d3 := of_decide_eq_false c3
    iterate 10 refine z ?_
    refine ok_weak (σ' := ⟨[(2, .box 2 0), (0, .abox 0)], [(2, 32, [(.key 9001)]), (0, 80, [(.arg 900001 (bytesD (code))), (.dv [] (.int .i64 (ci))), (.dv [] (.int .i64 (ch)))])], [(9001, some (kcOf false (.sl 77 2 (r.length) (r.flatMap eField))))]⟩) (weak_sub ⟨rfl, rfl, trivial⟩ ⟨rfl, rfl, trivial⟩ ⟨rfl, trivial⟩ rfl) ?_
    refine z ?_
    refine fin1 (res_cell hT rfl rfl rfl rfl) ⟨((r), ci, ch), ?_, rfl, rfl, rfl, rfl⟩
    try dsimp only
    exact ⟨by have := rec_wt hr; omega, by omega⟩
  ·skip
   have d2 := of_decide_eq_false c2
   iterate 7 refine z ?_
   refine ok_weak (σ' := ⟨[(2, .box 2 0), (0, .abox 0)], [(2, 32, [(.key 9001)]), (0, 80, [(.arg 900001 (bytesD (code))), (.dv [] (.int .i64 (i9))), (.dv [] (.int .i64 (h9)))])], [(9001, some (kcOf false (fieldsD (e7))))]⟩) (weak_sub ⟨rfl, rfl, trivial⟩ ⟨rfl, rfl, trivial⟩ ⟨rfl, trivial⟩ rfl) ?_
   refine z ?_
   refine fin1 (res_cell hT rfl rfl rfl rfl) ⟨((e7), i9, h9), ?_, rfl, rfl, rfl, rfl⟩
   try dsimp only
   exact ⟨by omega, by omega⟩
theorem ok_spec_l6Store {code : List UInt8} {i h : Int} {nm : Str} (hc : code.length ≤ 1048576) (hi : 0 ≤ i) (hn : isName nm = true) : BFn Tryz.prog 88 [.one (.dv [] (.str (nm)))] 80 (bytesD (code)) [.dv [] (.int .i64 (i)), .dv [] (.int .i64 (h))] (fun zz : StoreT × Int × Int => isSto zz.1 = true ∧ zz.1.1 = nm ∧ autoI zz.1 ∧ zz.1.2.2 ≤ 256 ∧ 0 ≤ zz.2.1) (fun zz : StoreT × Int × Int => .agg [(.dv [] (.str (zz.1.1))), (.key 9001), (.dv [] (.int .i64 (zz.1.2.2)))]) (fun zz : StoreT × Int × Int => [(9001, some (kcOf false (itemsD (zz.1.2.1))))]) (fun zz : StoreT × Int × Int => [.dv [] (.int .i64 (zz.2.1)), .dv [] (.int .i64 (zz.2.2))]) := by
 refine ⟨fn_introS Tryz.func88 rfl Tryz.ntmps88 Tryz.results88 rfl (fun C => ?_)⟩
 refine ok_fact (x := .tmp 1) (ev_tmp rfl) fun f1 => ?_
 iterate 5 refine z ?_
 refine yO rfl rfl (pu_build hT hB rfl rfl rfl (bp_cons (ev_tmp rfl) rfl rfl rfl rfl rfl bp_nil)) rfl ?_
 iterate 3 refine z ?_
 refine ok_seq ?_
 refine ok_seq ?_
 refine ok_weak (weak_nilB 9001 (b := 5) (i := 1) (e := 128) (sz := 4) rfl rfl rfl rfl rfl) ?_
 simp only [killT, killB, SV.kill, CV.kill, kk, Nat.reduceBEq]
 refine ok_region ?_
 refine yO rfl rfl (pu_move (.inl rfl) (ev_abox (ev_tmp rfl))) rfl ?_
 refine o_buildN (k := 10) (js := []) hT rfl rfl rfl rfl rfl rfl rfl rfl rfl rfl rfl (ep_cons (ev_int (inR_lit rfl)) rfl rfl rfl (ep_cons (ev_int (inR_lit rfl)) rfl rfl rfl (ep_cons (ev_int (inR_lit rfl)) rfl rfl rfl (ep_cons (ev_int (inR_lit rfl)) rfl rfl rfl ep_nil)))) (ow_cons' (ow_dv rfl) (ow_cons' (ow_dv rfl) (ow_cons' (ow_dv rfl) (ow_cons' (ow_dv rfl) ow_nil rfl) rfl) rfl) rfl) (by decide) (by decide) rfl rfl ?_
 simp only [killT, killB, SV.kill, CV.kill, kk, Nat.reduceBEq]
 refine o_callB 11000 rfl rfl rfl Tryz.call51 (ok_spec_l1Int (code := code) (i := i) (h := h) (l := [0, 2, 4, 6]) (by omega) (by omega) (by exact Nat.succ_pos _)) (ev_tmp rfl) rfl ac_arg rfl (fun _ => rfl) (ad_cons (ev_tmp rfl) (ag_one (ac_key' rfl rfl)) rfl ad_nil) rfl (fun _ => rfl) (fun _ => rfl) (fun zz hz11 => ?_)
 obtain ⟨e11, i11, h11⟩ := zz
 replace hz11 : e11 ∈ ([0, 2, 4, 6]) ∧ 0 ≤ i11 := hz11
 have hnr := rng_of 0 6 (by decide +kernel) hz11.1
 iterate 3 refine z ?_
 refine ok_loop (ι := Int × StoreT × Int × Int) (fun zz => ⟨[(0, .abox 0), (4, .box 4 0), (5, .box 5 0), (6, .one (.dv [] (.int .i64 (zz.1))))], [(0, 80, [(.arg 900001 (bytesD (code))), (.dv [] (.int .i64 (zz.2.2.1))), (.dv [] (.int .i64 (zz.2.2.2)))]), (4, 110, [(.dv [] (.str (ByteArray.empty))), .nil, (.dv [] (.int .i64 (0)))]), (5, 110, [(.dv [] (.str (zz.2.1.1))), (.key 9001), (.dv [] (.int .i64 (zz.2.1.2.2)))])], [(9001, some (kcOf false (.sl 128 4 (zz.2.1.2.1.length) (zz.2.1.2.1.flatMap eItem))))]⟩) (fun zz => isSto zz.2.1 = true ∧ zz.2.1.1 = nm ∧ autoI zz.2.1 ∧ zz.2.1.2.2 ≤ 256 ∧ 0 ≤ zz.2.2.1 ∧ zz.1 ≤ 6) (fun zz => zz.1.toNat) ((e11, (nm, [], 0), i11, h11)) ?_ (weak_sub ⟨rfl, rfl, rfl, rfl, trivial⟩ ⟨rfl, rfl, rfl, trivial⟩ ⟨rfl, trivial⟩ rfl) (fun zz hx => ?_)
 ·refine ⟨?_, rfl, fun y hy => (by cases hy), by dsimp only; omega, by dsimp only; omega, by dsimp only; omega⟩
  unfold isSto; simp [hn]
 obtain ⟨n, s, ci, ch⟩ := zz
 replace hx : isSto s = true ∧ s.1 = nm ∧ autoI s ∧ s.2.2 ≤ 256 ∧ 0 ≤ ci ∧ n ≤ 6 := hx
 obtain ⟨hs, hnm, ha, ha2, hci, hn6⟩ := hx
 show Ok _ _ _ _ _ (⟨[(0, .abox 0), (4, .box 4 0), (5, .box 5 0), (6, .one (.dv [] (.int .i64 (n))))], [(0, 80, [(.arg 900001 (bytesD (code))), (.dv [] (.int .i64 (ci))), (.dv [] (.int .i64 (ch)))]), (4, 110, [(.dv [] (.str (ByteArray.empty))), .nil, (.dv [] (.int .i64 (0)))]), (5, 110, [(.dv [] (.str (s.1))), (.key 9001), (.dv [] (.int .i64 (s.2.2)))])], [(9001, some (kcOf false (.sl 128 4 (s.2.1.length) (s.2.1.flatMap eItem))))]⟩ : St)
 iterate 5 refine z ?_
 refine yQ rfl (fun c1 => ?_) fun c1 => ?_
 ·skip
  have d1 := of_decide_eq_true c1
  iterate 4 refine z ?_
  refine ok_regionL [0] [0, 1, 2, 3, 4, 5, 6] (oB := [4, 5]) (oK := [9001]) (by kernel_rfl) rfl rfl ?_
  refine l_take 0 rfl (by kernel_rfl) rfl rfl (pu_loadBoxA hT rfl rfl (ev_tmp rfl) rfl rfl) rfl rfl rfl rfl rfl ?_
  refine l_take 1 rfl (by kernel_rfl) rfl rfl (pu_move (.inl rfl) (ev_abox (ev_tmp rfl))) rfl rfl rfl rfl rfl ?_
  refine l_take 3 rfl (by kernel_rfl) rfl rfl (pu_move (.inl rfl) (ev_abox (ev_tmp rfl))) rfl rfl rfl rfl rfl ?_
  refine l_split 2 [] (by kernel_rfl) ⟨?_, trivial⟩
  refine y_callB 19000 2 rfl rfl rfl rfl rfl Tryz.call61 (ok_spec_l4Small (code := code) (i := ci) (h := ch) (by omega) (by omega)) (ev_tmp rfl) rfl ac_arg rfl (fun _ => rfl) ad_nil rfl (fun _ => rfl) (fun _ => rfl) rfl (fun zz hz19 => ?_)
  obtain ⟨e19, i19, h19⟩ := zz
  replace hz19 : isKey e19 = true ∧ smallK e19 ∧ 0 ≤ i19 := hz19
  refine l_split 4 [] (by kernel_rfl) ⟨?_, trivial⟩
  refine y_callB 21000 4 rfl rfl rfl rfl rfl Tryz.call62 (ok_spec_l5Record (code := code) (i := i19) (h := h19) (by omega) (by omega)) (ev_tmp rfl) rfl ac_arg rfl (fun _ => rfl) ad_nil rfl (fun _ => rfl) (fun _ => rfl) rfl (fun zz hz21 => ?_)
  obtain ⟨e21, i21, h21⟩ := zz
  replace hz21 : isRec e21 = true ∧ 0 ≤ i21 := hz21
  have hrl := rec_len hz21.1
  refine l_split 5 [] (by kernel_rfl) ⟨?_, trivial⟩
  refine y_callK 500 5 rfl rfl rfl rfl Tryz.call95 (ok_spec_PutItem (x := s) (k := e19) (r := e21) (by have := sto_w2 hs; omega) (by omega)) (as_cons (ev_tmp rfl) (ag_agg (ag_cons ac_dv (ag_cons (ac_key' rfl rfl) (ag_cons ac_dv ag_nil)))) (as_cons (ev_tmp rfl) (ag_agg (ag_cons ac_dv (ag_cons ac_dv (ag_cons ac_dv ag_nil)))) (as_cons (ev_tmp rfl) (ag_agg (ag_cons (ac_key' rfl rfl) ag_nil)) as_nil))) rfl rfl rfl rfl rfl rfl ?_
  refine l_take 6 rfl (by kernel_rfl) rfl rfl (pu_move (.inl rfl) (ev_tmp rfl)) rfl rfl rfl rfl rfl ?_
  refine l_takeX 7 rfl (by kernel_rfl) rfl rfl rfl (pu_extractA rfl (ev_tmp rfl) rfl) rfl rfl ?_
  refine l_takeX 8 rfl (by kernel_rfl) rfl rfl rfl (pu_extract1 rfl (ev_tmp rfl) rfl) rfl rfl ?_
  refine l_chain [9] rfl rfl (by kernel_rfl) ?_
  refine z ?_
  refine ops_nil ?_
  iterate 2 refine z ?_
  refine ok_region ?_
  iterate 4 refine z ?_
  refine ⟨(n - 1, (putN s e19 e21).1, i21, h21), ?_, ?_, weak_then (weak_swapB (b := 5) (i := 1) (k := 9501) (k' := 9001) rfl rfl rfl rfl (by simp) rfl rfl) (weak_sub ⟨rfl, rfl, rfl, rfl, trivial⟩ ⟨rfl, rfl, rfl, trivial⟩ ⟨rfl, trivial⟩ rfl)⟩
  ·exact ⟨putN_sto hs, (putN_name _ _ _).trans hnm, autoI_put ha, auto_small ha2 hz19.2.1, by dsimp only; omega, by dsimp only; omega⟩
  ·dsimp only; omega
 ·skip
  have d1 := of_decide_eq_false c1
  iterate 7 refine z ?_
  refine yO rfl rfl (pu_move (.inl rfl) (ev_abox (ev_tmp rfl))) rfl ?_
  refine o_callB 26000 rfl rfl rfl Tryz.call32 (ok_spec_l1Once (code := code) (i := ci) (h := ch) (n := 8) (by omega) (by omega) ) (ev_tmp rfl) rfl ac_arg rfl (fun _ => rfl) (ad_cons (ev_int (inR_lit rfl)) (ag_one ac_dv) rfl ad_nil) rfl (fun _ => rfl) (fun _ => rfl) (fun zz hz26 => ?_)
  obtain ⟨e26, i26, h26⟩ := zz
  replace hz26 : 0 ≤ i26 := hz26
  refine z ?_
  refine yQ rfl (fun c2 => ?_) fun c2 => ?_
  ·skip
   refine ok_regionL [0] [0, 1, 2, 3, 4, 5, 6] (oB := [4, 5]) (oK := [9001]) (by kernel_rfl) rfl rfl ?_
   refine l_take 0 rfl (by kernel_rfl) rfl rfl (pu_loadBoxA hT rfl rfl (ev_tmp rfl) rfl rfl) rfl rfl rfl rfl rfl ?_
   refine l_take 1 rfl (by kernel_rfl) rfl rfl (pu_move (.inl rfl) (ev_abox (ev_tmp rfl))) rfl rfl rfl rfl rfl ?_
   refine l_take 3 rfl (by kernel_rfl) rfl rfl (pu_move (.inl rfl) (ev_abox (ev_tmp rfl))) rfl rfl rfl rfl rfl ?_
   refine l_split 2 [] (by kernel_rfl) ⟨?_, trivial⟩
   refine y_callB 30000 2 rfl rfl rfl rfl rfl Tryz.call92 (ok_spec_l4Key (code := code) (i := i26) (h := h26) (by omega) (by omega)) (ev_tmp rfl) rfl ac_arg rfl (fun _ => rfl) ad_nil rfl (fun _ => rfl) (fun _ => rfl) rfl (fun zz hz30 => ?_)
   obtain ⟨e30, i30, h30⟩ := zz
   replace hz30 : isKey e30 = true ∧ smallK e30 ∧ 0 ≤ i30 := hz30
   refine l_split 4 [] (by kernel_rfl) ⟨?_, trivial⟩
   refine y_callB 32000 4 rfl rfl rfl rfl rfl Tryz.call62 (ok_spec_l5Record (code := code) (i := i30) (h := h30) (by omega) (by omega)) (ev_tmp rfl) rfl ac_arg rfl (fun _ => rfl) ad_nil rfl (fun _ => rfl) (fun _ => rfl) rfl (fun zz hz32 => ?_)
   obtain ⟨e32, i32, h32⟩ := zz
   replace hz32 : isRec e32 = true ∧ 0 ≤ i32 := hz32
   have hrl := rec_len hz32.1
   refine l_split 5 [] (by kernel_rfl) ⟨?_, trivial⟩
   refine y_callK 600 5 rfl rfl rfl rfl Tryz.call95 (ok_spec_PutItem (x := s) (k := e30) (r := e32) (by have := sto_w2 hs; omega) (by omega)) (as_cons (ev_tmp rfl) (ag_agg (ag_cons ac_dv (ag_cons (ac_key' rfl rfl) (ag_cons ac_dv ag_nil)))) (as_cons (ev_tmp rfl) (ag_agg (ag_cons ac_dv (ag_cons ac_dv (ag_cons ac_dv ag_nil)))) (as_cons (ev_tmp rfl) (ag_agg (ag_cons (ac_key' rfl rfl) ag_nil)) as_nil))) rfl rfl rfl rfl rfl rfl ?_
   refine l_take 6 rfl (by kernel_rfl) rfl rfl (pu_move (.inl rfl) (ev_tmp rfl)) rfl rfl rfl rfl rfl ?_
   refine l_takeX 7 rfl (by kernel_rfl) rfl rfl rfl (pu_extractA rfl (ev_tmp rfl) rfl) rfl rfl ?_
   refine l_takeX 8 rfl (by kernel_rfl) rfl rfl rfl (pu_extract1 rfl (ev_tmp rfl) rfl) rfl rfl ?_
   refine l_chain [9] rfl rfl (by kernel_rfl) ?_
   iterate 6 refine z ?_
   refine ok_weak (weak_swapB (b := 4) (i := 1) (k := 9601) (k' := 9001) rfl rfl rfl rfl (by simp) rfl rfl) ?_
   try simp only [killT, killB, SV.kill, CV.kill, kk, Nat.reduceBEq]
   refine ok_weak (σ' := ⟨[(4, .box 4 0), (0, .abox 0)], [(4, 110, [(.dv [] (.str ((putN (s) (e30) (e32)).1.1))), (.key 9001), (.dv [] (.int .i64 ((putN (s) (e30) (e32)).1.2.2)))]), (0, 80, [(.arg 900001 (bytesD (code))), (.dv [] (.int .i64 (i32))), (.dv [] (.int .i64 (h32)))])], [(9001, some (kcOf false (itemsD ((putN (s) (e30) (e32)).1.2.1))))]⟩) (weak_sub ⟨rfl, rfl, trivial⟩ ⟨rfl, rfl, trivial⟩ ⟨rfl, trivial⟩ rfl) ?_
   refine z ?_
   refine fin1 (res_cell hT rfl rfl rfl rfl) ⟨((((putN (s) (e30) (e32)).1.1), (((putN (s) (e30) (e32)).1.2.1), ((putN (s) (e30) (e32)).1.2.2))), i32, h32), ?_, rfl, rfl, rfl, rfl⟩
   try dsimp only
   exact ⟨putN_sto hs, (putN_name _ _ _).trans hnm, autoI_put ha, auto_small ha2 hz30.2.1, by omega⟩
  ·skip
   iterate 6 refine z ?_
   refine ok_weak (σ' := ⟨[(4, .box 4 0), (0, .abox 0)], [(4, 110, [(.dv [] (.str (s.1))), (.key 9001), (.dv [] (.int .i64 (s.2.2)))]), (0, 80, [(.arg 900001 (bytesD (code))), (.dv [] (.int .i64 (i26))), (.dv [] (.int .i64 (h26)))])], [(9001, some (kcOf false (.sl 128 4 (s.2.1.length) (s.2.1.flatMap eItem))))]⟩) (weak_sub ⟨rfl, rfl, trivial⟩ ⟨rfl, rfl, trivial⟩ ⟨rfl, trivial⟩ rfl) ?_
   refine z ?_
   refine fin1 (res_cell hT rfl rfl rfl rfl) ⟨(((s.1), ((s.2.1), (s.2.2))), i26, h26), ?_, rfl, rfl, rfl, rfl⟩
   try dsimp only
   exact ⟨hs, hnm, ha, ha2, by omega⟩
theorem ok_spec_l6Any {code : List UInt8} {i h : Int} (hc : code.length ≤ 1048576) (hi : 0 ≤ i) : BFn Tryz.prog 77 [] 80 (bytesD (code)) [.dv [] (.int .i64 (i)), .dv [] (.int .i64 (h))] (fun zz : StoreT × Int × Int => wStore zz.1 ≤ 1500 ∧ 0 ≤ zz.2.1) (fun zz : StoreT × Int × Int => .agg [(.dv [] (.str (zz.1.1))), (.key 9001), (.dv [] (.int .i64 (zz.1.2.2)))]) (fun zz : StoreT × Int × Int => [(9001, some (kcOf false (itemsD (zz.1.2.1))))]) (fun zz : StoreT × Int × Int => [.dv [] (.int .i64 (zz.2.1)), .dv [] (.int .i64 (zz.2.2))]) := by
 refine ⟨fn_introS Tryz.func77 rfl Tryz.ntmps77 Tryz.results77 rfl (fun C => ?_)⟩
 iterate 4 refine z ?_
 refine yO rfl rfl (pu_move (.inl rfl) (ev_abox (ev_tmp rfl))) rfl ?_
 refine o_callB 0 rfl rfl rfl Tryz.call88 (ok_spec_l6Store (code := code) (i := i) (h := h) (nm := ByteArray.mk #[110, 111, 116, 101, 115]) (by omega) (by omega) (by decide +kernel)) (ev_tmp rfl) rfl ac_arg rfl (fun _ => rfl) (ad_cons (ev_str (str_lit rfl)) (ag_one ac_dv) rfl ad_nil) rfl (fun _ => rfl) (fun _ => rfl) (fun zz hz5 => ?_)
 obtain ⟨e5, i5, h5⟩ := zz
 replace hz5 : isSto e5 = true ∧ e5.1 = (ByteArray.mk #[110, 111, 116, 101, 115]) ∧ autoI e5 ∧ e5.2.2 ≤ 256 ∧ 0 ≤ i5 := hz5
 have hw5 := sto_w2 hz5.1
 have hls := (sto_srt hz5.1).2.2
 iterate 5 refine z ?_
 refine yO rfl rfl (pu_move (.inl rfl) (ev_abox (ev_tmp rfl))) rfl ?_
 refine o_callB 7000 rfl rfl rfl Tryz.call49 (ok_spec_l1Below (code := code) (i := i5) (h := h5) (n := 12) (by omega) (by omega) ) (ev_tmp rfl) rfl ac_arg rfl (fun _ => rfl) (ad_cons (ev_int (inR_lit rfl)) (ag_one ac_dv) rfl ad_nil) rfl (fun _ => rfl) (fun _ => rfl) (fun zz hz7 => ?_)
 obtain ⟨e7, i7, h7⟩ := zz
 replace hz7 : 0 ≤ e7 ∧ (0 < (12 : Int) → e7 < (12 : Int)) ∧ 0 ≤ i7 := hz7
 iterate 6 refine z ?_
 refine yQ rfl (fun c1 => ?_) fun c1 => ?_
 ·skip
  have d1 := of_decide_eq_true c1
  refine ok_region ?_
  refine yO rfl rfl (pu_move (.inl rfl) (ev_abox (ev_tmp rfl))) rfl ?_
  refine o_buildN (k := 11) (js := []) hT rfl rfl rfl rfl rfl rfl rfl rfl rfl rfl rfl (ep_cons (ev_str (str_lit rfl)) rfl rfl rfl (ep_cons (ev_str (str_lit rfl)) rfl rfl rfl (ep_cons (ev_str (str_lit rfl)) rfl rfl rfl ep_nil))) (ow_cons' (ow_dv rfl) (ow_cons' (ow_dv rfl) (ow_cons' (ow_dv rfl) ow_nil rfl) rfl) rfl) (by decide) (by decide) rfl rfl ?_
  simp only [killT, killB, SV.kill, CV.kill, kk, Nat.reduceBEq]
  refine o_callB 12000 rfl rfl rfl Tryz.call60 (ok_spec_l1Str (code := code) (i := i7) (h := h7) (l := [ByteArray.mk #[], ByteArray.mk #[81], ByteArray.mk #[97, 98, 99, 100, 101, 102, 103, 104, 105]]) (by omega) (by omega) (by exact Nat.succ_pos _)) (ev_tmp rfl) rfl ac_arg rfl (fun _ => rfl) (ad_cons (ev_tmp rfl) (ag_one (ac_key' rfl rfl)) rfl ad_nil) rfl (fun _ => rfl) (fun _ => rfl) (fun zz hz12 => ?_)
  obtain ⟨e12, i12, h12⟩ := zz
  replace hz12 : e12 ∈ ([ByteArray.mk #[], ByteArray.mk #[81], ByteArray.mk #[97, 98, 99, 100, 101, 102, 103, 104, 105]]) ∧ 0 ≤ i12 := hz12
  have hsz := size_of 9 (by decide +kernel) hz12.1
  iterate 2 refine z ?_
  refine ops_nil ?_
  iterate 6 refine z ?_
  refine ok_weak (σ' := ⟨[(2, .box 2 0), (0, .abox 0)], [(2, 110, [(.dv [] (.str (e12))), (.key 9001), (.dv [] (.int .i64 (e5.2.2)))]), (0, 80, [(.arg 900001 (bytesD (code))), (.dv [] (.int .i64 (i12))), (.dv [] (.int .i64 (h12)))])], [(9001, some (kcOf false (itemsD (e5.2.1))))]⟩) (weak_sub ⟨rfl, rfl, trivial⟩ ⟨rfl, rfl, trivial⟩ ⟨rfl, trivial⟩ rfl) ?_
  refine z ?_
  refine fin1 (res_cell hT rfl rfl rfl rfl) ⟨(((e12), ((e5.2.1), (e5.2.2))), i12, h12), ?_, rfl, rfl, rfl, rfl⟩
  try dsimp only
  exact ⟨by have h1 : wStore e5 = e5.1.size + (e5.2.1.length + wSum wItem e5.2.1) := rfl; have h2 : wStore (e12, e5.2.1, e5.2.2) = e12.size + (e5.2.1.length + wSum wItem e5.2.1) := rfl; omega, by omega⟩
 ·skip
  have d1 := of_decide_eq_false c1
  iterate 4 refine z ?_
  refine yQ rfl (fun c2 => ?_) fun c2 => ?_
  ·skip
   have d2 := of_decide_eq_true c2
   refine ok_region ?_
   refine yO rfl rfl (pu_move (.inl rfl) (ev_abox (ev_tmp rfl))) rfl ?_
   refine o_buildN (k := 17) (js := []) hT rfl rfl rfl rfl rfl rfl rfl rfl rfl rfl rfl (ep_cons (ev_int (inR_lit rfl)) rfl rfl rfl (ep_cons (ev_int (inR_lit rfl)) rfl rfl rfl (ep_cons (ev_int (inR_lit rfl)) rfl rfl rfl (ep_cons (ev_int (inR_lit rfl)) rfl rfl rfl ep_nil)))) (ow_cons' (ow_dv rfl) (ow_cons' (ow_dv rfl) (ow_cons' (ow_dv rfl) (ow_cons' (ow_dv rfl) ow_nil rfl) rfl) rfl) rfl) (by decide) (by decide) rfl rfl ?_
   simp only [killT, killB, SV.kill, CV.kill, kk, Nat.reduceBEq]
   refine o_callB 18000 rfl rfl rfl Tryz.call51 (ok_spec_l1Int (code := code) (i := i7) (h := h7) (l := [-1, 999999, 1000000, 1000001]) (by omega) (by omega) (by exact Nat.succ_pos _)) (ev_tmp rfl) rfl ac_arg rfl (fun _ => rfl) (ad_cons (ev_tmp rfl) (ag_one (ac_key' rfl rfl)) rfl ad_nil) rfl (fun _ => rfl) (fun _ => rfl) (fun zz hz18 => ?_)
   obtain ⟨e18, i18, h18⟩ := zz
   replace hz18 : e18 ∈ ([-1, 999999, 1000000, 1000001]) ∧ 0 ≤ i18 := hz18
   iterate 2 refine z ?_
   refine ops_nil ?_
   iterate 6 refine z ?_
   refine ok_weak (σ' := ⟨[(2, .box 2 0), (0, .abox 0)], [(2, 110, [(.dv [] (.str (e5.1))), (.key 9001), (.dv [] (.int .i64 (e18)))]), (0, 80, [(.arg 900001 (bytesD (code))), (.dv [] (.int .i64 (i18))), (.dv [] (.int .i64 (h18)))])], [(9001, some (kcOf false (itemsD (e5.2.1))))]⟩) (weak_sub ⟨rfl, rfl, trivial⟩ ⟨rfl, rfl, trivial⟩ ⟨rfl, trivial⟩ rfl) ?_
   refine z ?_
   refine fin1 (res_cell hT rfl rfl rfl rfl) ⟨(((e5.1), ((e5.2.1), (e18))), i18, h18), ?_, rfl, rfl, rfl, rfl⟩
   try dsimp only
   exact ⟨by have h2 : wStore (e5.1, e5.2.1, e18) = wStore e5 := rfl; omega, by omega⟩
  ·skip
   have d2 := of_decide_eq_false c2
   iterate 4 refine z ?_
   refine yQ rfl (fun c3 => ?_) fun c3 => ?_
   ·skip
    have d3 := of_decide_eq_true c3
    refine ok_regionL [0] [0, 1, 2, 3, 4, 5, 6, 7] (oB := [2, 3]) (oK := [9001]) (by kernel_rfl) rfl rfl ?_
    refine l_take 0 rfl (by kernel_rfl) rfl rfl (pu_fieldBox hT rfl rfl rfl (ev_tmp rfl)) rfl rfl rfl rfl rfl ?_
    refine l_take 1 rfl (by kernel_rfl) rfl rfl (pu_loadBox1 hT rfl rfl (ev_tmp rfl) rfl rfl) rfl rfl rfl rfl rfl ?_
    refine l_take 2 rfl (by kernel_rfl) rfl rfl (pu_move (.inl rfl) (ev_abox (ev_tmp rfl))) rfl rfl rfl rfl rfl ?_
    refine l_take 4 rfl (by kernel_rfl) rfl rfl (pu_move (.inl rfl) (ev_abox (ev_tmp rfl))) rfl rfl rfl rfl rfl ?_
    refine l_split 3 [] (by kernel_rfl) ⟨?_, trivial⟩
    refine y_callB 25000 3 rfl rfl rfl rfl rfl Tryz.call78 (ok_spec_l4Any (code := code) (i := i7) (h := h7) (by omega) (by omega)) (ev_tmp rfl) rfl ac_arg rfl (fun _ => rfl) ad_nil rfl (fun _ => rfl) (fun _ => rfl) rfl (fun zz hz25 => ?_)
    obtain ⟨e25, i25, h25⟩ := zz
    replace hz25 : e25.2.2.size ≤ 13 ∧ 0 ≤ i25 := hz25
    refine l_split 5 [] (by kernel_rfl) ⟨?_, trivial⟩
    refine y_callB 27000 5 rfl rfl rfl rfl rfl Tryz.call79 (ok_spec_l5Any (code := code) (i := i25) (h := h25) (by omega) (by omega)) (ev_tmp rfl) rfl ac_arg rfl (fun _ => rfl) ad_nil rfl (fun _ => rfl) (fun _ => rfl) rfl (fun zz hz27 => ?_)
    obtain ⟨e27, i27, h27⟩ := zz
    replace hz27 : wRecord e27 ≤ 200 ∧ 0 ≤ i27 := hz27
    refine l_take 6 rfl (by kernel_rfl) rfl rfl (pu_build hT hB rfl rfl rfl (bp_cons (ev_tmp rfl) rfl rfl rfl rfl rfl (bp_cons (ev_tmp rfl) rfl rfl rfl rfl rfl bp_nil))) rfl rfl rfl rfl rfl ?_
    refine l_split 7 [] (by kernel_rfl) ⟨?_, trivial⟩
    refine y_buildN (k := 29) (js := [36001]) 7 hT rfl rfl rfl rfl rfl rfl rfl rfl rfl rfl rfl rfl (ep_cons (ev_tmp rfl) rfl rfl rfl ep_nil) (ow_cons' (ow_dv rfl) (ow_cons' (ow_dv rfl) (ow_cons' (ow_dv rfl) (ow_cons' (ow_key rfl) ow_nil rfl) rfl) rfl) rfl) (by decide) (by decide) rfl rfl rfl rfl rfl ?_
    simp only [killT, killB, SV.kill, CV.kill, kk, Nat.reduceBEq]
    refine l_chain [8, 9, 10] rfl rfl (by kernel_rfl) ?_
    refine o_appK (k := 9001) (j := 29) (cs := (e5.2.1 ++ [(e25, e27)]).flatMap eItem) (n := (e5.2.1 ++ [(e25, e27)]).length) hT rfl rfl rfl rfl rfl rfl rfl (ev_tmp rfl) rfl rfl rfl (ev_tmp rfl) rfl rfl (by decide) (by dsimp only [kcOf, KC.old, itemsD, listD]; omega) (by dsimp only [kcOf, KC.old, itemsD, listD]; omega) (by rw [List.length_append]; rfl) (by rw [List.flatMap_append]; rfl) ?_
    simp only [killT, killB, SV.kill, CV.kill, kk, Nat.reduceBEq]
    iterate 2 refine z ?_
    refine ops_nil ?_
    iterate 6 refine z ?_
    refine ok_weak (σ' := ⟨[(2, .box 2 0), (0, .abox 0)], [(2, 110, [(.dv [] (.str (e5.1))), (.key 9001), (.dv [] (.int .i64 (e5.2.2)))]), (0, 80, [(.arg 900001 (bytesD (code))), (.dv [] (.int .i64 (i27))), (.dv [] (.int .i64 (h27)))])], [(9001, some (kcOf false (.sl 128 4 ((e5.2.1 ++ [(e25, e27)]).length) ((e5.2.1 ++ [(e25, e27)]).flatMap eItem))))]⟩) (weak_sub ⟨rfl, rfl, trivial⟩ ⟨rfl, rfl, trivial⟩ ⟨rfl, trivial⟩ rfl) ?_
    refine z ?_
    refine fin1 (res_cell hT rfl rfl rfl rfl) ⟨(((e5.1), (((e5.2.1 ++ [(e25, e27)])), (e5.2.2))), i27, h27), ?_, rfl, rfl, rfl, rfl⟩
    try dsimp only
    exact ⟨by have h2 := sto_app_w e5 (e25, e27); dsimp only at h2; omega, by omega⟩
   ·skip
    have d3 := of_decide_eq_false c3
    iterate 4 refine z ?_
    refine yQ rfl (fun c4 => ?_) fun c4 => ?_
    ·skip
     have d4 := of_decide_eq_true c4
     refine z ?_
     refine ok_loop (ι := StoreT × Int × Int) (fun zz => ⟨[(0, .abox 0), (2, .box 2 0), (3, .box 3 0)], [(0, 80, [(.arg 900001 (bytesD (code))), (.dv [] (.int .i64 (zz.2.1))), (.dv [] (.int .i64 (zz.2.2)))]), (2, 110, [(.dv [] (.str (ByteArray.empty))), .nil, (.dv [] (.int .i64 (0)))]), (3, 110, [(.dv [] (.str (zz.1.1))), (.key 9001), (.dv [] (.int .i64 (zz.1.2.2)))])], [(9001, some (kcOf false (.sl 128 4 (zz.1.2.1.length) (zz.1.2.1.flatMap eItem))))]⟩) (fun zz => isSto zz.1 = true ∧ autoI zz.1 ∧ zz.1.2.2 ≤ 284 + (zz.1.2.1.length : Int) ∧ 0 ≤ zz.2.1) (fun zz => 16 - zz.1.2.1.length) ((e5, i7, h7)) ?_ (weak_sub ⟨rfl, rfl, rfl, trivial⟩ ⟨rfl, rfl, rfl, trivial⟩ ⟨rfl, trivial⟩ rfl) (fun zz hx => ?_)
     ·exact ⟨hz5.1, hz5.2.2.1, by dsimp only; omega, by dsimp only; omega⟩
     obtain ⟨s, ci, ch⟩ := zz
     replace hx : isSto s = true ∧ autoI s ∧ s.2.2 ≤ 284 + (s.2.1.length : Int) ∧ 0 ≤ ci := hx
     obtain ⟨hs, ha, ha2, hci⟩ := hx
     show Ok _ _ _ _ _ (⟨[(0, .abox 0), (2, .box 2 0), (3, .box 3 0)], [(0, 80, [(.arg 900001 (bytesD (code))), (.dv [] (.int .i64 (ci))), (.dv [] (.int .i64 (ch)))]), (2, 110, [(.dv [] (.str (ByteArray.empty))), .nil, (.dv [] (.int .i64 (0)))]), (3, 110, [(.dv [] (.str (s.1))), (.key 9001), (.dv [] (.int .i64 (s.2.2)))])], [(9001, some (kcOf false (.sl 128 4 (s.2.1.length) (s.2.1.flatMap eItem))))]⟩ : St)
     iterate 4 refine z ?_
     refine yO rfl rfl (pu_lenKn (n := (s.2.1.length)) hT rfl rfl (ev_tmp rfl) rfl rfl) rfl ?_
     iterate 3 refine z ?_
     refine o_callG (gd_bool rfl rfl rfl rfl rfl) rfl rfl Tryz.call90 (ok_spec_IsStore (s := s)) (fun hg => (as_cons (ev_opt rfl hg) (ag_agg (ag_cons ac_dv (ag_cons (ac_key' rfl rfl) (ag_cons ac_dv ag_nil)))) as_nil)) rfl rfl ?_
     iterate 2 refine z ?_
     refine yQ rfl (fun c5 => ?_) fun c5 => ?_
     ·skip
      obtain ⟨q1, q2⟩ := (Bool.and_eq_true _ _ ▸ c5 : _ ∧ _)
      have q3 := of_decide_eq_true q1
      obtain ⟨r1, r2, r3, r4, r5⟩ := auto_step hs ha (by omega) ha2
      iterate 3 refine z ?_
      refine ok_region ?_
      refine z ?_
      refine yO rfl rfl (pu_build hT hB rfl rfl rfl bp_nil) rfl ?_
      refine o_callK 500 rfl rfl rfl Tryz.call91 (ok_spec_AutoItem (x := s) (r := []) (by have := sto_w2 hs; omega) (by decide)) (as_cons (ev_tmp rfl) (ag_agg (ag_cons ac_dv (ag_cons (ac_key' rfl rfl) (ag_cons ac_dv ag_nil)))) (as_cons (ev_tmp rfl) (ag_agg (ag_cons (ac_nil' rfl rfl) ag_nil)) as_nil)) rfl rfl rfl ?_
      iterate 5 refine z ?_
      refine ops_nil ?_
      iterate 2 refine z ?_
      refine ⟨((autoN s []).1, ci, ch), ?_, ?_, weak_then (weak_swapB (b := 3) (i := 1) (k := 9501) (k' := 9001) rfl rfl rfl rfl (by simp) rfl rfl) (weak_sub ⟨rfl, rfl, rfl, trivial⟩ ⟨rfl, rfl, rfl, trivial⟩ ⟨rfl, trivial⟩ rfl)⟩
      ·exact ⟨r2, r3, by dsimp only; omega, hci⟩
      ·dsimp only; omega
     ·skip
      iterate 10 refine z ?_
      refine ok_weak (σ' := ⟨[(2, .box 2 0), (0, .abox 0)], [(2, 110, [(.dv [] (.str (s.1))), (.key 9001), (.dv [] (.int .i64 (s.2.2)))]), (0, 80, [(.arg 900001 (bytesD (code))), (.dv [] (.int .i64 (ci))), (.dv [] (.int .i64 (ch)))])], [(9001, some (kcOf false (.sl 128 4 (s.2.1.length) (s.2.1.flatMap eItem))))]⟩) (weak_sub ⟨rfl, rfl, trivial⟩ ⟨rfl, rfl, trivial⟩ ⟨rfl, trivial⟩ rfl) ?_
      refine z ?_
      refine fin1 (res_cell hT rfl rfl rfl rfl) ⟨(((s.1), ((s.2.1), (s.2.2))), ci, ch), ?_, rfl, rfl, rfl, rfl⟩
      try dsimp only
      exact ⟨by have h1 := sto_w2 hs; have h2 : wStore (s.1, s.2.1, s.2.2) = wStore s := rfl; omega, by omega⟩
    ·skip
     have d4 := of_decide_eq_false c4
     iterate 7 refine z ?_
     refine ok_weak (σ' := ⟨[(2, .box 2 0), (0, .abox 0)], [(2, 110, [(.dv [] (.str (e5.1))), (.key 9001), (.dv [] (.int .i64 (e5.2.2)))]), (0, 80, [(.arg 900001 (bytesD (code))), (.dv [] (.int .i64 (i7))), (.dv [] (.int .i64 (h7)))])], [(9001, some (kcOf false (itemsD (e5.2.1))))]⟩) (weak_sub ⟨rfl, rfl, trivial⟩ ⟨rfl, rfl, trivial⟩ ⟨rfl, trivial⟩ rfl) ?_
     refine z ?_
     refine fin1 (res_cell hT rfl rfl rfl rfl) ⟨(((e5.1), ((e5.2.1), (e5.2.2))), i7, h7), ?_, rfl, rfl, rfl, rfl⟩
     try dsimp only
     exact ⟨by have h2 : wStore (e5.1, e5.2.1, e5.2.2) = wStore e5 := rfl; omega, by omega⟩
end Go.Proofs.YtoigmlbidpocnaaGreat

namespace Go.Proofs.YtoigmlbidpocnaaGreat
open Go.RowKit
open Go.Proofs
set_option linter.unusedVariables false
set_option linter.unusedSimpArgs false
theorem ok_laws_big {code : List UInt8}  : PFn Tryz.prog 4 [.one (.dv [] (bytesD (code)))] (.one (.dv [] (.bool (decide ((1048576 : Int) < (code.length : Int)))))) := by
 refine ⟨fn_intro Tryz.func4 rfl Tryz.ntmps4 Tryz.results4 rfl (fun C => ?_)⟩
 refine ok_fact (x := .tmp 0) (ev_tmp rfl) fun f0 => ?_
 iterate 11 refine z ?_
 rfl
end Go.Proofs.YtoigmlbidpocnaaGreat

namespace Go.Proofs.YtoigmlbidpocnaaGreat
open Go.RowKit
open Go.Proofs
set_option linter.unusedVariables false
set_option linter.unusedSimpArgs false

theorem sEq_self (s : Str) : sEq s s = true := by simp [sEq]
theorem eqL_self {α : Type} [Inhabited α] {p : α → α → Bool} (h : ∀ x, p x x = true) (xs : List α) : eqL p xs xs = true := by
 unfold eqL
 simp [h]
theorem eqRec_self (r : RecT) : eqRec r r = true := eqL_self (fun f => by simp [eqFld, sEq_self]) r
theorem eqKey_self (k : KeyT) : eqKeyB k k = true := by simp [eqKeyB, sEq_self]
end Go.Proofs.YtoigmlbidpocnaaGreat

