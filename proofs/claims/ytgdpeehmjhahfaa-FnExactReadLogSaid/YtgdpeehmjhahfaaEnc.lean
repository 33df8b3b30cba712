/-
  Walks of the varints: written and read, the program's and the reference's.
-/
import Derived.Test.YtgdpeehmjhahfaaCopy
namespace Go.Proofs.Ytgdpeehmjhahfaa
open Go.RowKit
open Go.Proofs

/-- the bytes of a number, seven bits each, the least first -/
def uv (n : Nat) : List UInt8 := if n < 128 then [UInt8.ofNat n] else UInt8.ofNat (n % 128 + 128) :: uv (n / 128)
termination_by n
decreasing_by omega
theorem uv_small {n : Nat} (h : n < 128) : uv n = [UInt8.ofNat n] := by rw [uv, if_pos h]
theorem uv_big {n : Nat} (h : ¬ n < 128) : uv n = UInt8.ofNat (n % 128 + 128) :: uv (n / 128) := by rw [uv, if_neg h]
/-- b, and the number behind it if it is within the range -/
def appU (b : List UInt8) (n : Int) : List UInt8 := if 0 ≤ n ∧ n ≤ 1000000000000 then b ++ uv n.toNat else b


theorem appU_in {b : List UInt8} {n : Int} (h : 0 ≤ n ∧ n ≤ 1000000000000) : appU b n = b ++ uv n.toNat := if_pos h
theorem appU_out {b : List UInt8} {n : Int} (h : ¬ (0 ≤ n ∧ n ≤ 1000000000000)) : appU b n = b := if_neg h
theorem impl_InRange_yes (w : World) (n lo hi : Int) (h1 : lo ≤ n) (h2 : n ≤ hi) : Calls Try.prog 36 #[.int .i64 n, .int .i64 lo, .int .i64 hi] w (fun e w' => e = .returned (.bool true) ∧ w = w') := by
  go_enter Try.func36, Try.ntmps36
  go_wp2
  go_ret
  exact ⟨rfl, rfl⟩
theorem impl_InRange_no (w : World) (n lo hi : Int) (h : n < lo ∨ hi < n) : Calls Try.prog 36 #[.int .i64 n, .int .i64 lo, .int .i64 hi] w (fun e w' => e = .returned (.bool false) ∧ w = w') := by
  by_cases h1 : n < lo
  · clear h
    go_enter Try.func36, Try.ntmps36
    go_wp2
    go_ret
    exact ⟨rfl, rfl⟩
  · have h2 : hi < n := by omega
    have h3 : lo ≤ n := by omega
    clear h
    go_enter Try.func36, Try.ntmps36
    go_wp2
    go_ret
    exact ⟨ret_bool (by simp; try omega), rfl⟩

theorem spec_l1In_yes (w : World) (n lo hi : Int) (h1 : lo ≤ n) (h2 : n ≤ hi) : Calls Try.prog 33 #[.int .i64 n, .int .i64 lo, .int .i64 hi] w (fun e w' => e = .returned (.bool true) ∧ w = w') := by
  go_enter Try.func33, Try.ntmps33
  go_wp2
  go_ret
  exact ⟨rfl, rfl⟩
theorem spec_l1In_no (w : World) (n lo hi : Int) (h : n < lo ∨ hi < n) : Calls Try.prog 33 #[.int .i64 n, .int .i64 lo, .int .i64 hi] w (fun e w' => e = .returned (.bool false) ∧ w = w') := by
  by_cases h1 : n < lo
  · clear h
    go_enter Try.func33, Try.ntmps33
    go_wp2
    go_ret
    exact ⟨rfl, rfl⟩
  · have h2 : hi < n := by omega
    have h3 : lo ≤ n := by omega
    clear h
    go_enter Try.func33, Try.ntmps33
    go_wp2
    go_ret
    exact ⟨ret_bool (by simp; try omega), rfl⟩

theorem u8_of (x : Nat) : ((UInt8.ofNat x).toNat : Int) = ((x % 256 : Nat) : Int) := by simp
/-- one byte, owned -/
theorem one_byte {w : World} (b : UInt8) : AllO (byteC.Own w) [b] [.int .u8 (b.toNat : Int)] [] := AllO.one ⟨rfl, rfl⟩


/-! bits of integers that are not below 0 -/
theorem ofInt_i64 (a : Nat) (ha : a < 9223372036854775808) : (BitVec.ofInt 64 (a : Int)).toNat = a := by
  rw [BitVec.ofInt_natCast, BitVec.toNat_ofNat]; exact Nat.mod_eq_of_lt (by omega)
theorem i64_and_nat (a b : Nat) (ha : a < 9223372036854775808) (hb : b < 9223372036854775808) : bits .and .i64 (a : Int) (b : Int) = ((a &&& b : Nat) : Int) := by
  have hx : a &&& b < 2 ^ 63 := Nat.and_lt_two_pow _ (by omega)
  show IntKind.i64.wrap ((BitVec.ofInt 64 (a : Int) &&& BitVec.ofInt 64 (b : Int)).toNat : Int) = _
  rw [BitVec.toNat_and, ofInt_i64 a ha, ofInt_i64 b hb, IntKind.wrap_i64]
  omega
theorem i64_or_nat (a b : Nat) (ha : a < 9223372036854775808) (hb : b < 9223372036854775808) : bits .or .i64 (a : Int) (b : Int) = ((a ||| b : Nat) : Int) := by
  have hx : a ||| b < 2 ^ 63 := Nat.or_lt_two_pow (by omega) (by omega)
  show IntKind.i64.wrap ((BitVec.ofInt 64 (a : Int) ||| BitVec.ofInt 64 (b : Int)).toNat : Int) = _
  rw [BitVec.toNat_or, ofInt_i64 a ha, ofInt_i64 b hb, IntKind.wrap_i64]
  omega
theorem and_127 (k : Nat) (hk : k < 9223372036854775808) : bits .and .i64 (k : Int) 127 = (k : Int) % 128 := by
  rw [show (127 : Int) = ((127 : Nat) : Int) from rfl, i64_and_nat k 127 hk (by omega), show (127 : Nat) = 2 ^ 7 - 1 from rfl, Nat.and_two_pow_sub_one_eq_mod]
  omega
theorem or_high (a b i : Nat) (ha : a < 2 ^ i) (hm : b * 2 ^ i + a < 9223372036854775808) : bits .or .i64 (a : Int) ((b * 2 ^ i : Nat) : Int) = ((b * 2 ^ i + a : Nat) : Int) := by
  rw [i64_or_nat a (b * 2 ^ i) (by omega) (by omega), Nat.or_comm, Nat.mul_comm b, Nat.two_pow_add_eq_or_of_lt ha]
theorem or_128 (k : Nat) : bits .or .i64 ((k : Int) % 128) 128 = (k : Int) % 128 + 128 := by
  have h := or_high (k % 128) 1 7 (by omega) (by omega)
  rw [show ((1 * 2 ^ 7 : Nat) : Int) = 128 from rfl, show ((k % 128 : Nat) : Int) = (k : Int) % 128 by omega] at h
  rw [h]; omega

set_option maxRecDepth 100000 in
set_option maxHeartbeats 400000 in
theorem impl_AppendUvarint (w : World) (bs : List UInt8) (A : Option Addr) (n c : Nat) (m : Int) (hr : bytesC.Rd w w.heap.size bs [.slice A n c]) (hn : n ≤ 16777216) :
    Calls Try.prog 25 #[.slice A n c, .int .i64 m] w (RetV bytesC (appU bs m) w) := by
  have HR := Lib.hid hr
  have HN := Lib.hid (rds_len hr)
  clear hr
  by_cases hm : 0 ≤ m ∧ m ≤ 1000000000000
  · have HU := Lib.hid (appU_in (b := bs) hm)
    obtain ⟨hm1, hm2⟩ := hm
    go_enter Try.func25, Try.ntmps25
    go_wp2_with (first | (go_at_call 28; refine (impl_copyBytes _ bs A n c HR.out (by omega)).mono ?_; rintro e w1 ⟨A1, n1, c1, fp, rfl, hown, hfr, hchg⟩; have HO := Lib.hid hown; have HF := Lib.hid hfr; have HC := Lib.hid hchg; clear hown hfr hchg) | (go_at_call 36; refine (impl_InRange_yes _ _ _ _ (by omega) (by omega)).mono ?_; rintro e w' ⟨rfl, rfl⟩))
    have hn1 : n1 = n := (own_len HO.out).trans HN.out.symm
    subst hn1
    go_loopw [1, 5] (fun m' o wr => ∃ (k : Nat) (pre : List UInt8) (A' : Option Addr) (c' : Nat) (fp : List Nat), (k : Int) ≤ 1000000000000 ∧ m' = .int .i64 k ∧ o = .slice A' (n1 + pre.length) c' ∧ pre ++ uv k = uv m.toNat ∧ (pre.length : Int) + k ≤ 1000000000000 ∧ bytesC.Own wr (bs ++ pre) [.slice A' (n1 + pre.length) c'] fp ∧ Fresh w.heap.size fp ∧ Chg [] w wr) (fun m' _ _ => (intOf m').toNat)
    case atStart => exact ⟨m.toNat, [], A1, c1, fp, by omega, by rw [show ((m.toNat : Nat) : Int) = m by omega], rfl, rfl, by simp; omega, by simpa using HO.out, HF.out, HC.out⟩
    case round =>
      obtain ⟨k, pre, A', c', fp', hk, rfl, rfl, hpre, hpl, hown, hfr, hchg⟩ := hrel
      have HP := Lib.hid hpre
      have HO' := Lib.hid hown
      have HF' := Lib.hid hfr
      have HC' := Lib.hid hchg
      have hz := hchg.size
      clear hpre hown hfr hchg
      by_cases hlt : k < 128
      · have HS : Hid (AllO (byteC.Own (wr.alloc (.cells #[.int .u8 (k : Int)] 5))) [UInt8.ofNat k] [.int .u8 (k : Int)] []) := by
          have h := one_byte (w := wr.alloc (.cells #[.int .u8 (k : Int)] 5)) (UInt8.ofNat k)
          rw [u8_of, Nat.mod_eq_of_lt (by omega)] at h
          exact h
        have HE := Lib.hid (uv_small hlt)
        go_wp2_with (first | (at_builtin; refine wpList_push byteC _ rfl _ _ _ rfl 5 _ 1 Try.underlying22 infoByte rfl A' (n1 + pre.length) c' rfl (bs ++ pre) fp' (own_chg0 HO'.out ((Chg.refl _ _).alloc _)) (some ⟨wr.heap.size, 0, none⟩) 1 1 rfl [UInt8.ofNat k] [] [.int .u8 (k : Int)] (RowRd.new _ _ 1 1 5 rfl rfl) HS.out rfl (by rw [List.append_nil]; exact HF'.out.1) (by simp only [maxLen]; omega) (by omega) ?_; intro A2 c2 w2 fp2 hown hnd hfp hchg; have H1 := Lib.hid hown; have H2 := Lib.hid ((HC'.out.alloc _).andThen hchg (fun x hx => .inr (HF'.out.2 x hx))); have H3 := Lib.hid hfp; clear hown hchg hfp))
        go_ret
        refine ⟨A2, _, c2, fp2, rfl, ?_, ⟨hnd, fun x hx => ?_⟩, H2.out⟩
        · rw [HU.out, ← HP.out, HE.out, ← List.append_assoc]; exact H1.out
        · rcases H3.out x hx with h | h | h
          · exact HF'.out.2 x h
          · simp at h
          · (try simp at h); omega
      · have hge : (128 : Int) ≤ (k : Int) := by omega
        have HS : Hid (AllO (byteC.Own (wr.alloc (.cells #[.int .u8 ((k : Int) % 128 + 128)] 5))) [UInt8.ofNat (k % 128 + 128)] [.int .u8 ((k : Int) % 128 + 128)] []) := by
          have h := one_byte (w := wr.alloc (.cells #[.int .u8 ((k : Int) % 128 + 128)] 5)) (UInt8.ofNat (k % 128 + 128))
          rw [u8_of, Nat.mod_eq_of_lt (a := k % 128 + 128) (b := 256) (by omega), show ((k % 128 + 128 : Nat) : Int) = (k : Int) % 128 + 128 by omega] at h
          exact h
        have HE := Lib.hid (uv_big hlt)
        go_wp2_with (first | (at_builtin; refine wpList_push byteC _ rfl _ _ _ rfl 5 _ 1 Try.underlying22 infoByte rfl A' (n1 + pre.length) c' rfl (bs ++ pre) fp' (own_chg0 HO'.out ((Chg.refl _ _).alloc _)) (some ⟨wr.heap.size, 0, none⟩) 1 1 rfl [UInt8.ofNat (k % 128 + 128)] [] [.int .u8 ((k : Int) % 128 + 128)] (RowRd.new _ _ 1 1 5 rfl rfl) HS.out rfl (by rw [List.append_nil]; exact HF'.out.1) (by simp only [maxLen]; omega) (by omega) ?_; intro A2 c2 w2 fp2 hown hnd hfp hchg; have H1 := Lib.hid hown; have H2 := Lib.hid ((HC'.out.alloc _).andThen hchg (fun x hx => .inr (HF'.out.2 x hx))); have H3 := Lib.hid hfp; clear hown hchg hfp))
        go_roundw
        case rel =>
          refine ⟨k / 128, pre ++ [UInt8.ofNat (k % 128 + 128)], A2, c2, fp2, by omega, by go_num, ?_, ?_, by simp; omega, ?_, ⟨hnd, fun x hx => ?_⟩, H2.out⟩
          · simp [Nat.add_assoc]
          · rw [← HP.out, HE.out]; simp
          · have h := H1.out
            rw [List.append_assoc] at h
            simpa [Nat.add_assoc] using h
          · rcases H3.out x hx with h | h | h
            · exact HF'.out.2 x h
            · simp at h
            · (try simp at h); omega
        case measure => simp [intOf]; omega
  · have HU := Lib.hid (appU_out (b := bs) hm)
    have hm' : m < 0 ∨ 1000000000000 < m := by omega
    clear hm
    go_enter Try.func25, Try.ntmps25
    go_wp2_with (first | (go_at_call 28; refine (impl_copyBytes _ bs A n c HR.out (by omega)).mono ?_; rintro e w1 ⟨A1, n1, c1, fp, rfl, hown, hfr, hchg⟩; have HO := Lib.hid hown; have HF := Lib.hid hfr; have HC := Lib.hid hchg; clear hown hfr hchg) | (go_at_call 36; refine (impl_InRange_no _ _ _ _ hm').mono ?_; rintro e w' ⟨rfl, rfl⟩))
    go_ret
    exact ⟨A1, n1, c1, fp, rfl, by rw [HU.out]; exact HO.out, HF.out, HC.out⟩
theorem fresh0 {w : World} {fp : List Nat} {o : Obj} (hnd : fp.Nodup) (h : ∀ b ∈ fp, b ∈ [w.heap.size] ∨ b ∈ ([] : List Nat) ∨ b = (w.alloc o).heap.size) : Fresh w.heap.size fp :=
  ⟨hnd, fun b hb => by
    rcases h b hb with h | h | h
    · simp at h; omega
    · simp at h
    · simp at h; omega⟩
set_option maxRecDepth 100000 in
set_option maxHeartbeats 400000 in
theorem spec_AppendUvarint (w : World) (bs : List UInt8) (A : Option Addr) (n c : Nat) (m : Int) (hr : bytesC.Rd w w.heap.size bs [.slice A n c]) (hn : n ≤ 16777216) :
    Calls Try.prog 22 #[.slice A n c, .int .i64 m] w (RetV bytesC (appU bs m) w) := by
  obtain ⟨hl, _, _, hrow, hlt0⟩ := bytes_row hr
  have HN := Lib.hid hl
  clear hr hl
  by_cases hm : 0 ≤ m ∧ m ≤ 1000000000000
  · have HU := Lib.hid (appU_in (b := bs) hm)
    obtain ⟨hm1, hm2⟩ := hm
    go_enter Try.func22, Try.ntmps22
    go_wp2_with (first | (at_builtin; refine wpList_push byteC _ rfl (.tmp 6) (.tmp 7) _ rfl 5 _ 1 Try.underlying22 infoByte rfl _ 0 0 rfl [] [w.heap.size] (own_new (by simp)) A n c rfl bs [] (bs.map byteV) (hrow.chg hlt0 (Nat.le_refl _) ((Chg.refl _ _).alloc _)) (all_bytes _) HN.out (by simp) (by simp only [maxLen]; omega) (by omega) ?_; intro A1 c1 w1 fp hown hnd0 hfp hchg; simp only [Nat.zero_add, List.nil_append] at hown; have HO := Lib.hid hown; have HC := Lib.hid (((Chg.refl [] w).alloc _).andThen hchg (by simp)); have HF := Lib.hid (fresh0 hnd0 hfp); clear hown hfp hchg) | (go_at_call 33; refine (spec_l1In_yes _ _ _ _ (by omega) (by omega)).mono ?_; rintro e w' ⟨rfl, rfl⟩))
    go_loopw [1, 5] (fun m' o wr => ∃ (k : Nat) (pre : List UInt8) (A' : Option Addr) (c' : Nat) (fp : List Nat), (k : Int) ≤ 1000000000000 ∧ m' = .int .i64 k ∧ o = .slice A' (n + pre.length) c' ∧ pre ++ uv k = uv m.toNat ∧ (pre.length : Int) + k ≤ 1000000000000 ∧ bytesC.Own wr (bs ++ pre) [.slice A' (n + pre.length) c'] fp ∧ Fresh w.heap.size fp ∧ Chg [] w wr) (fun m' _ _ => (intOf m').toNat)
    case atStart => exact ⟨m.toNat, [], A1, c1, fp, by omega, by rw [show ((m.toNat : Nat) : Int) = m by omega], rfl, rfl, by simp; omega, by simpa using HO.out, HF.out, HC.out⟩
    case round =>
      obtain ⟨k, pre, A', c', fp', hk, rfl, rfl, hpre, hpl, hown, hfr, hchg⟩ := hrel
      have HP := Lib.hid hpre
      have HO' := Lib.hid hown
      have HF' := Lib.hid hfr
      have HC' := Lib.hid hchg
      have hz := hchg.size
      clear hpre hown hfr hchg
      by_cases hlt : k < 128
      · have HS : Hid (AllO (byteC.Own (wr.alloc (.cells #[.int .u8 (k : Int)] 5))) [UInt8.ofNat k] [.int .u8 (k : Int)] []) := by
          have h := one_byte (w := wr.alloc (.cells #[.int .u8 (k : Int)] 5)) (UInt8.ofNat k)
          rw [u8_of, Nat.mod_eq_of_lt (by omega)] at h
          exact h
        have HE := Lib.hid (uv_small hlt)
        go_wp2_with (first | (at_builtin; refine wpList_push byteC _ rfl _ _ _ rfl 5 _ 1 Try.underlying22 infoByte rfl A' (n + pre.length) c' rfl (bs ++ pre) fp' (own_chg0 HO'.out ((Chg.refl _ _).alloc _)) (some ⟨wr.heap.size, 0, none⟩) 1 1 rfl [UInt8.ofNat k] [] [.int .u8 (k : Int)] (RowRd.new _ _ 1 1 5 rfl rfl) HS.out rfl (by rw [List.append_nil]; exact HF'.out.1) (by simp only [maxLen]; omega) (by omega) ?_; intro A2 c2 w2 fp2 hown hnd hfp hchg; have H1 := Lib.hid hown; have H2 := Lib.hid ((HC'.out.alloc _).andThen hchg (fun x hx => .inr (HF'.out.2 x hx))); have H3 := Lib.hid hfp; clear hown hchg hfp))
        go_ret
        refine ⟨A2, _, c2, fp2, rfl, ?_, ⟨hnd, fun x hx => ?_⟩, H2.out⟩
        · rw [HU.out, ← HP.out, HE.out, ← List.append_assoc]; exact H1.out
        · rcases H3.out x hx with h | h | h
          · exact HF'.out.2 x h
          · simp at h
          · (try simp at h); omega
      · have hge : (128 : Int) ≤ (k : Int) := by omega
        have HS : Hid (AllO (byteC.Own (wr.alloc (.cells #[.int .u8 ((k : Int) % 128 + 128)] 5))) [UInt8.ofNat (k % 128 + 128)] [.int .u8 ((k : Int) % 128 + 128)] []) := by
          have h := one_byte (w := wr.alloc (.cells #[.int .u8 ((k : Int) % 128 + 128)] 5)) (UInt8.ofNat (k % 128 + 128))
          rw [u8_of, Nat.mod_eq_of_lt (a := k % 128 + 128) (b := 256) (by omega), show ((k % 128 + 128 : Nat) : Int) = (k : Int) % 128 + 128 by omega] at h
          exact h
        have HE := Lib.hid (uv_big hlt)
        have hb1 := and_127 k (by omega)
        have hb2 := or_128 k
        go_wp2_with (first | (at_builtin; refine wpList_push byteC _ rfl _ _ _ rfl 5 _ 1 Try.underlying22 infoByte rfl A' (n + pre.length) c' rfl (bs ++ pre) fp' (own_chg0 HO'.out ((Chg.refl _ _).alloc _)) (some ⟨wr.heap.size, 0, none⟩) 1 1 rfl [UInt8.ofNat (k % 128 + 128)] [] [.int .u8 ((k : Int) % 128 + 128)] (RowRd.new _ _ 1 1 5 rfl rfl) HS.out rfl (by rw [List.append_nil]; exact HF'.out.1) (by simp only [maxLen]; omega) (by omega) ?_; intro A2 c2 w2 fp2 hown hnd hfp hchg; have H1 := Lib.hid hown; have H2 := Lib.hid ((HC'.out.alloc _).andThen hchg (fun x hx => .inr (HF'.out.2 x hx))); have H3 := Lib.hid hfp; clear hown hchg hfp))
        go_roundw
        case rel =>
          refine ⟨k / 128, pre ++ [UInt8.ofNat (k % 128 + 128)], A2, c2, fp2, by omega, by go_num, ?_, ?_, by simp; omega, ?_, ⟨hnd, fun x hx => ?_⟩, H2.out⟩
          · simp [Nat.add_assoc]
          · rw [← HP.out, HE.out]; simp
          · have h := H1.out
            rw [List.append_assoc] at h
            simpa [Nat.add_assoc] using h
          · rcases H3.out x hx with h | h | h
            · exact HF'.out.2 x h
            · simp at h
            · (try simp at h); omega
        case measure => simp [intOf]; omega
  · have HU := Lib.hid (appU_out (b := bs) hm)
    have hm' : m < 0 ∨ 1000000000000 < m := by omega
    clear hm
    go_enter Try.func22, Try.ntmps22
    go_wp2_with (first | (at_builtin; refine wpList_push byteC _ rfl (.tmp 6) (.tmp 7) _ rfl 5 _ 1 Try.underlying22 infoByte rfl _ 0 0 rfl [] [w.heap.size] (own_new (by simp)) A n c rfl bs [] (bs.map byteV) (hrow.chg hlt0 (Nat.le_refl _) ((Chg.refl _ _).alloc _)) (all_bytes _) HN.out (by simp) (by simp only [maxLen]; omega) (by omega) ?_; intro A1 c1 w1 fp hown hnd0 hfp hchg; simp only [Nat.zero_add, List.nil_append] at hown; have HO := Lib.hid hown; have HC := Lib.hid (((Chg.refl [] w).alloc _).andThen hchg (by simp)); have HF := Lib.hid (fresh0 hnd0 hfp); clear hown hfp hchg) | (go_at_call 33; refine (spec_l1In_no _ _ _ _ hm').mono ?_; rintro e w' ⟨rfl, rfl⟩))
    go_ret
    exact ⟨A1, n, c1, fp, rfl, by rw [HU.out]; exact HO.out, HF.out, HC.out⟩
end Go.Proofs.Ytgdpeehmjhahfaa
