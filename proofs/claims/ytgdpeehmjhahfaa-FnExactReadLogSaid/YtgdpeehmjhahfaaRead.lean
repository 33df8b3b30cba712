/-
  Walks of AppendBytes, ReadUvarint and ReadBytes, the program's and the reference's.
-/
import Derived.Test.YtgdpeehmjhahfaaEnc
namespace Go.Proofs.Ytgdpeehmjhahfaa
open Go.RowKit
open Go.Proofs

theorem uv_len (n : Nat) : n ≤ 1000000000000 → (uv n).length ≤ 6 := by
  intro h
  by_cases h1 : n < 128
  · rw [uv_small h1]; simp
  rw [uv_big h1]
  by_cases h2 : n / 128 < 128
  · rw [uv_small h2]; simp
  rw [uv_big h2]
  by_cases h3 : n / 128 / 128 < 128
  · rw [uv_small h3]; simp
  rw [uv_big h3]
  by_cases h4 : n / 128 / 128 / 128 < 128
  · rw [uv_small h4]; simp
  rw [uv_big h4]
  by_cases h5 : n / 128 / 128 / 128 / 128 < 128
  · rw [uv_small h5]; simp
  rw [uv_big h5]
  have h6 : n / 128 / 128 / 128 / 128 / 128 < 128 := by omega
  rw [uv_small h6]; simp
theorem appU_len (b : List UInt8) (n : Int) : (appU b n).length ≤ b.length + 6 := by
  unfold appU
  split
  · rename_i h; have := uv_len n.toNat (by omega); simp; omega
  · omega
/-- b, the length of d, and d -/
def appB (b d : List UInt8) : List UInt8 := appU b d.length ++ d

set_option maxRecDepth 100000 in
set_option maxHeartbeats 400000 in
theorem impl_AppendBytes (w : World) (bs ds : List UInt8) (A : Option Addr) (n c : Nat) (B : Option Addr) (m d : Nat) (hr : bytesC.Rd w w.heap.size bs [.slice A n c]) (hd : bytesC.Rd w w.heap.size ds [.slice B m d]) (hn : n ≤ 8388608) (hm : m ≤ 8388608) :
    Calls Try.prog 26 #[.slice A n c, .slice B m d] w (RetV bytesC (appB bs ds) w) := by
  obtain ⟨hl, _, _, hrow, hlt0⟩ := bytes_row hd
  have HN := Lib.hid (rds_len hr)
  have HM := Lib.hid hl
  have HR := Lib.hid hr
  clear hr hd hl
  go_enter Try.func26, Try.ntmps26
  go_wp2_with fail
  refine (impl_AppendUvarint _ bs A n c m HR.out (by omega)).mono ?_
  rintro e w1 ⟨A1, n1, c1, fp, rfl, hown, hfr, hchg⟩
  have hn1 : n1 ≤ 16777216 := by have h := own_len hown; have h2 := appU_len bs m; have h3 := HN.out; omega
  have hrow1 := hrow.chg hlt0 (Nat.le_refl _) hchg
  have HO := Lib.hid hown
  have HF := Lib.hid hfr
  have HC := Lib.hid hchg
  clear hown hfr hchg
  go_wp2_with (first | (at_builtin; refine wpList_push byteC _ rfl _ _ _ rfl 5 _ 1 Try.underlying22 infoByte rfl A1 n1 c1 rfl (appU bs m) fp HO.out B m d rfl ds [] (ds.map byteV) hrow1 (all_bytes _) HM.out (by rw [List.append_nil]; exact HF.out.1) (by simp only [maxLen]; omega) (by omega) ?_; intro A2 c2 w2 fp2 hown hnd hfp hchg; have H1 := Lib.hid hown; have H2 := Lib.hid (HC.out.andThen hchg (fun x hx => .inr (HF.out.2 x hx))); have H3 := Lib.hid hfp; clear hown hchg hfp))
  go_ret
  refine ⟨A2, _, c2, fp2, rfl, by have h := H1.out; unfold appB; rw [← HM.out]; exact h, ⟨hnd, fun b hb => ?_⟩, H2.out⟩
  rcases H3.out b hb with h | h | h
  · exact HF.out.2 b h
  · simp at h
  · have := HC.out.size; omega
set_option maxRecDepth 100000 in
set_option maxHeartbeats 400000 in
theorem spec_AppendBytes (w : World) (bs ds : List UInt8) (A : Option Addr) (n c : Nat) (B : Option Addr) (m d : Nat) (hr : bytesC.Rd w w.heap.size bs [.slice A n c]) (hd : bytesC.Rd w w.heap.size ds [.slice B m d]) (hn : n ≤ 8388608) (hm : m ≤ 8388608) :
    Calls Try.prog 23 #[.slice A n c, .slice B m d] w (RetV bytesC (appB bs ds) w) := by
  obtain ⟨hl, _, _, hrow, hlt0⟩ := bytes_row hd
  have HN := Lib.hid (rds_len hr)
  have HM := Lib.hid hl
  have HR := Lib.hid hr
  clear hr hd hl
  go_enter Try.func23, Try.ntmps23
  go_wp2_with fail
  refine (spec_AppendUvarint _ bs A n c m HR.out (by omega)).mono ?_
  rintro e w1 ⟨A1, n1, c1, fp, rfl, hown, hfr, hchg⟩
  have hn1 : n1 ≤ 16777216 := by have h := own_len hown; have h2 := appU_len bs m; have h3 := HN.out; omega
  have hrow1 := hrow.chg hlt0 (Nat.le_refl _) hchg
  have HO := Lib.hid hown
  have HF := Lib.hid hfr
  have HC := Lib.hid hchg
  clear hown hfr hchg
  go_wp2_with (first | (at_builtin; refine wpList_push byteC _ rfl _ _ _ rfl 5 _ 1 Try.underlying22 infoByte rfl A1 n1 c1 rfl (appU bs m) fp HO.out B m d rfl ds [] (ds.map byteV) hrow1 (all_bytes _) HM.out (by rw [List.append_nil]; exact HF.out.1) (by simp only [maxLen]; omega) (by omega) ?_; intro A2 c2 w2 fp2 hown hnd hfp hchg; have H1 := Lib.hid hown; have H2 := Lib.hid (HC.out.andThen hchg (fun x hx => .inr (HF.out.2 x hx))); have H3 := Lib.hid hfp; clear hown hchg hfp))
  go_ret
  refine ⟨A2, _, c2, fp2, rfl, by have h := H1.out; unfold appB; rw [← HM.out]; exact h, ⟨hnd, fun b hb => ?_⟩, H2.out⟩
  rcases H3.out b hb with h | h | h
  · exact HF.out.2 b h
  · simp at h
  · have := HC.out.size; omega

/-- a number read off the head of a list: the number, and how many bytes it took -/
def rdF : Nat → Nat → Nat → List UInt8 → Option (Nat × Nat)
  | 0, _, _, _ => none
  | _ + 1, _, _, [] => none
  | f + 1, i, acc, x :: r =>
    if x.toNat < 128 then (if (0 < i ∧ x.toNat = 0) ∨ 1000000000000 < acc + (x.toNat % 128) * 2 ^ (7 * i) then none else some (acc + (x.toNat % 128) * 2 ^ (7 * i), i + 1))
    else rdF f (i + 1) (acc + (x.toNat % 128) * 2 ^ (7 * i)) r
/-- a number read at a place -/
def rdU (b : List UInt8) (off : Int) : Option (Nat × Nat) := if 0 ≤ off ∧ off < b.length then rdF 6 0 0 (b.drop off.toNat) else none
def retU (off : Int) : Option (Nat × Nat) → Value
  | none => .tuple #[.int .i64 0, .int .i64 0, .bool false]
  | some (v, k) => .tuple #[.int .i64 (v : Int), .int .i64 (off + (k : Int)), .bool true]


theorem rd_step (k acc : Nat) (hk : k < 6) (x : UInt8) (r : List UInt8) : rdF (6 - k) k acc (x :: r) =
    if x.toNat < 128 then (if (0 < k ∧ x.toNat = 0) ∨ 1000000000000 < acc + (x.toNat % 128) * 2 ^ (7 * k) then none else some (acc + (x.toNat % 128) * 2 ^ (7 * k), k + 1))
    else rdF (6 - (k + 1)) (k + 1) (acc + (x.toNat % 128) * 2 ^ (7 * k)) r := by
  rw [show 6 - k = (6 - (k + 1)) + 1 by omega]; rfl
theorem pow_le (k : Nat) (hk : k < 6) : 2 ^ (7 * k) ≤ 34359738368 := Nat.le_trans (Nat.pow_le_pow_right (by omega) (show 7 * k ≤ 35 by omega)) (by decide)
theorem acc_next {k acc x : Nat} (ha : acc < 2 ^ (7 * k)) : acc + (x % 128) * 2 ^ (7 * k) < 2 ^ (7 * (k + 1)) := by
  have h1 : x % 128 ≤ 127 := by omega
  have h2 : (x % 128) * 2 ^ (7 * k) ≤ 127 * 2 ^ (7 * k) := Nat.mul_le_mul_right _ h1
  rw [show 7 * (k + 1) = 7 * k + 7 by omega, Nat.pow_add]
  omega
theorem drop_at {α : Type} {l : List α} {i : Nat} {v : α} (h : l[i]? = some v) : l.drop i = v :: l.drop (i + 1) := by
  obtain ⟨h1, h2⟩ := List.getElem?_eq_some_iff.1 h
  rw [List.drop_eq_getElem_cons h1, h2]
/-- what one byte adds -/
theorem byte_adds (v : UInt8) (k : Nat) (hk : k < 6) : ∃ t : Nat, v.toNat % 128 * 2 ^ (7 * k) = t ∧ ((v.toNat : Int) % 128) * 2 ^ (7 * k) = (t : Int) ∧ (t : Int) ≤ 4398046511104 := by
  refine ⟨_, rfl, by push_cast; rfl, ?_⟩
  have h1 := pow_le k hk
  have h2 : v.toNat % 128 * 2 ^ (7 * k) ≤ 128 * 34359738368 := Nat.mul_le_mul (by omega) h1
  omega

set_option maxRecDepth 100000 in
set_option maxHeartbeats 1000000 in
theorem impl_ReadUvarint (w : World) (bs : List UInt8) (A : Option Addr) (n c : Nat) (off : Int) (hr : bytesC.Rd w w.heap.size bs [.slice A n c]) (hn : n ≤ 16777216) :
    Calls Try.prog 32 #[.slice A n c, .int .i64 off] w (fun e w' => e = .returned (retU off (rdU bs off)) ∧ w = w') := by
  have HR := Lib.hid hr
  have HN := Lib.hid (rds_len hr)
  clear hr
  by_cases hoff : 0 ≤ off ∧ off < n
  · have HU : Hid (rdU bs off = rdF 6 0 0 (bs.drop off.toNat)) := if_pos (by have := HN.out; omega)
    obtain ⟨h1, h2⟩ := hoff
    obtain ⟨o, rfl⟩ := Int.eq_ofNat_of_zero_le h1
    rw [Int.toNat_natCast] at HU
    have hd1 : decide ((o : Int) < 0) = false := decide_eq_false (by omega)
    go_enter Try.func32, Try.ntmps32
    go_wp2
    go_loop [4, 5, 6, 7, 8] (fun _ _ _ a i => ∃ k acc : Nat, k ≤ 6 ∧ i = .int .i64 k ∧ a = .int .i64 acc ∧ acc < 2 ^ (7 * k) ∧ rdF 6 0 0 (bs.drop o) = rdF (6 - k) k acc (bs.drop (o + k))) (fun _ _ _ _ i => 6 - (intOf i).toNat)
    case atStart => exact ⟨0, 0, by omega, rfl, rfl, by decide, rfl⟩
    case round =>
      obtain ⟨k, acc, hk, rfl, rfl, hacc, hrd⟩ := hrel
      have HA := Lib.hid hacc
      have HD := Lib.hid hrd
      by_cases hlt : k < 6 ∧ o + k < n
      · obtain ⟨g1, g2⟩ := hlt
        have hab : (acc : Int) ≤ 34359738368 := by have := pow_le k g1; omega
        clear hacc hrd
        obtain ⟨b, off', v, rfl, hb, hv, hc⟩ := byte_at HR.out g2
        obtain ⟨t, ht, htI, htb⟩ := byte_adds v k g1
        have hv1 : (0 : Int) ≤ (v.toNat : Int) := by omega
        have hv2 : (v.toNat : Int) ≤ 255 := by have := v.toNat_lt; omega
        have HV : Hid (rdF (6 - k) k acc (bs.drop (o + k)) = _) := (congrArg (rdF (6 - k) k acc) (drop_at hv)).trans (rd_step k acc g1 v _)
        rw [ht] at HV
        have HT := Lib.hid ht
        clear hv ht
        by_cases hx : v.toNat < 128
        · have hx1 : (v.toNat : Int) < 128 := by omega
          by_cases hbad : (0 < k ∧ v.toNat = 0) ∨ 1000000000000 < acc + t
          · have HF := Lib.hid (show rdU bs o = none by rw [HU.out, HD.out, HV.out, if_pos hx, if_pos hbad])
            have hbad1 : (0 < (k : Int) ∧ (v.toNat : Int) = 0) ∨ (1000000000000 : Int) < (acc : Int) + t := by omega
            clear hbad
            rcases hbad1 with ⟨g3, g4⟩ | g3
            · rw [g4] at hc
              have htz : t = 0 := by rw [← HT.out]; have : v.toNat = 0 := by omega
                                     rw [this]; simp
              subst htz
              rw [g4] at htI
              clear htI hx1 hv1 hv2 g4
              go_wp2
              go_ret3
              exact ⟨by rw [HF.out]; rfl, rfl⟩
            · go_wp2
              all_goals
                go_ret3
                exact ⟨by rw [HF.out]; rfl, rfl⟩
          · have HF := Lib.hid (show rdU bs o = some (acc + t, k + 1) by rw [HU.out, HD.out, HV.out, if_pos hx, if_neg hbad])
            have hgood : ((k : Int) ≤ 0 ∨ 1 ≤ (v.toNat : Int)) ∧ (acc : Int) + t ≤ 1000000000000 := by omega
            obtain ⟨g3, g4⟩ := hgood
            clear hbad
            have hval : Hid (Value.tuple #[.int .i64 ((acc : Int) + (t : Int)), .int .i64 ((o : Int) + (k : Int) + 1), .bool true] = retU o (some (acc + t, k + 1))) := by
              show _ = _
              simp [retU, Int.add_assoc]
            rcases g3 with g3 | g3
            all_goals
              go_wp2
              all_goals
                go_ret3
                first
                  | exact ⟨by rw [HF.out, ← hval.out]; rfl, rfl⟩
                  | (exfalso; rename_i h9 _; rcases h9 with h9 | h9 <;> first | omega | (have h10 : (v.toNat : Int) = 0 := eq_of_beq h9; omega))
        · have hx1 : (128 : Int) ≤ (v.toNat : Int) := by omega
          have HF := Lib.hid (show rdF (6 - k) k acc (bs.drop (o + k)) = rdF (6 - (k + 1)) (k + 1) (acc + t) (bs.drop (o + (k + 1))) by rw [HV.out, if_neg hx]; rfl)
          go_wp2
          refine ⟨⟨_, _, _, _, _, ⟨k + 1, by omega, rfl, acc + t, rfl, by rw [← HT.out]; exact acc_next HA.out, by rw [HD.out, HF.out]⟩, rfl, rfl, rfl, by go_num, by go_num⟩, by simp [intOf]; omega⟩
      · have HF := Lib.hid (show rdU bs o = none by
          rw [HU.out, HD.out]
          by_cases h6 : k = 6
          · subst h6; rfl
          · rw [List.drop_eq_nil_of_le (by have := HN.out; omega)]
            rw [show 6 - k = (6 - (k + 1)) + 1 by omega]; rfl)
        clear hacc hrd
        have hend : (6 : Int) ≤ (k : Int) ∨ ((k : Int) < 6 ∧ (n : Int) ≤ (o : Int) + (k : Int)) := by omega
        clear hlt
        rcases hend with g3 | ⟨g3, g4⟩
        all_goals
          go_wp2
          go_ret3
          exact ⟨by rw [HF.out]; rfl, rfl⟩
  · have HF := Lib.hid (show rdU bs off = none from if_neg (by have := HN.out; omega))
    have hout : off < 0 ∨ (0 ≤ off ∧ (n : Int) ≤ off) := by omega
    clear hoff
    rcases hout with g3 | ⟨g3, g4⟩
    all_goals
      go_enter Try.func32, Try.ntmps32
      go_wp2
      go_ret3
      exact ⟨by rw [HF.out]; rfl, rfl⟩
set_option maxRecDepth 100000 in
set_option maxHeartbeats 1000000 in
theorem spec_ReadUvarint (w : World) (bs : List UInt8) (A : Option Addr) (n c : Nat) (off : Int) (hr : bytesC.Rd w w.heap.size bs [.slice A n c]) (hn : n ≤ 16777216) :
    Calls Try.prog 30 #[.slice A n c, .int .i64 off] w (fun e w' => e = .returned (retU off (rdU bs off)) ∧ w = w') := by
  have HR := Lib.hid hr
  have HN := Lib.hid (rds_len hr)
  clear hr
  by_cases hoff : 0 ≤ off ∧ off < n
  · have HU : Hid (rdU bs off = rdF 6 0 0 (bs.drop off.toNat)) := if_pos (by have := HN.out; omega)
    obtain ⟨h1, h2⟩ := hoff
    obtain ⟨o, rfl⟩ := Int.eq_ofNat_of_zero_le h1
    rw [Int.toNat_natCast] at HU
    have hd1 : decide ((o : Int) < 0) = false := decide_eq_false (by omega)
    go_enter Try.func30, Try.ntmps30
    go_wp2
    go_loop [4, 5, 6, 7, 8] (fun _ _ _ a i => ∃ k acc : Nat, k ≤ 6 ∧ i = .int .i64 k ∧ a = .int .i64 acc ∧ acc < 2 ^ (7 * k) ∧ rdF 6 0 0 (bs.drop o) = rdF (6 - k) k acc (bs.drop (o + k))) (fun _ _ _ _ i => 6 - (intOf i).toNat)
    case atStart => exact ⟨0, 0, by omega, rfl, rfl, by decide, rfl⟩
    case round =>
      obtain ⟨k, acc, hk, rfl, rfl, hacc, hrd⟩ := hrel
      have HA := Lib.hid hacc
      have HD := Lib.hid hrd
      by_cases hlt : k < 6 ∧ o + k < n
      · obtain ⟨g1, g2⟩ := hlt
        have hab : (acc : Int) ≤ 34359738368 := by have := pow_le k g1; omega
        clear hrd
        obtain ⟨b, off', v, rfl, hb, hv, hc⟩ := byte_at HR.out g2
        obtain ⟨t, ht, htI, htb⟩ := byte_adds v k g1
        have hb1 := and_127 v.toNat (by have := v.toNat_lt; omega)
        have hor : bits .or .i64 (acc : Int) (t : Int) = (acc : Int) + (t : Int) := by
          have h := or_high acc (v.toNat % 128) (7 * k) hacc (by rw [ht]; omega)
          rw [ht] at h; rw [h]; omega
        clear hacc
        have hv1 : (0 : Int) ≤ (v.toNat : Int) := by omega
        have hv2 : (v.toNat : Int) ≤ 255 := by have := v.toNat_lt; omega
        have HV : Hid (rdF (6 - k) k acc (bs.drop (o + k)) = _) := (congrArg (rdF (6 - k) k acc) (drop_at hv)).trans (rd_step k acc g1 v _)
        rw [ht] at HV
        have HT := Lib.hid ht
        clear hv ht
        by_cases hx : v.toNat < 128
        · have hx1 : (v.toNat : Int) < 128 := by omega
          by_cases hbad : (0 < k ∧ v.toNat = 0) ∨ 1000000000000 < acc + t
          · have HF := Lib.hid (show rdU bs o = none by rw [HU.out, HD.out, HV.out, if_pos hx, if_pos hbad])
            have hbad1 : (0 < (k : Int) ∧ (v.toNat : Int) = 0) ∨ (1000000000000 : Int) < (acc : Int) + t := by omega
            clear hbad
            rcases hbad1 with ⟨g3, g4⟩ | g3
            · rw [g4] at hc
              have htz : t = 0 := by rw [← HT.out]; have : v.toNat = 0 := by omega
                                     rw [this]; simp
              subst htz
              rw [g4] at htI
              clear htI hx1 hv1 hv2 g4
              go_wp2
              go_ret3
              exact ⟨by rw [HF.out]; rfl, rfl⟩
            · go_wp2
              all_goals
                go_ret3
                exact ⟨by rw [HF.out]; rfl, rfl⟩
          · have HF := Lib.hid (show rdU bs o = some (acc + t, k + 1) by rw [HU.out, HD.out, HV.out, if_pos hx, if_neg hbad])
            have hgood : ((k : Int) ≤ 0 ∨ 1 ≤ (v.toNat : Int)) ∧ (acc : Int) + t ≤ 1000000000000 := by omega
            obtain ⟨g3, g4⟩ := hgood
            clear hbad
            have hval : Hid (Value.tuple #[.int .i64 ((acc : Int) + (t : Int)), .int .i64 ((o : Int) + (k : Int) + 1), .bool true] = retU o (some (acc + t, k + 1))) := by
              show _ = _
              simp [retU, Int.add_assoc]
            rcases g3 with g3 | g3
            all_goals
              go_wp2
              all_goals
                go_ret3
                first
                  | exact ⟨by rw [HF.out, ← hval.out]; rfl, rfl⟩
                  | (have hk0 : k = 0 := by omega
                     refine ⟨?_, rfl⟩
                     rw [HF.out, ← hval.out, hk0]
                     show Ending.returned (Value.tuple #[.int .i64 ((acc : Int) + (t : Int)), .int .i64 ((o : Int) + 1), .bool true]) = _
                     simp)
                  | (exfalso; rename_i h9 _; rcases h9 with h9 | h9 <;> first | omega | (have h10 : (v.toNat : Int) = 0 := eq_of_beq h9; omega))
        · have hx1 : (128 : Int) ≤ (v.toNat : Int) := by omega
          have HF := Lib.hid (show rdF (6 - k) k acc (bs.drop (o + k)) = rdF (6 - (k + 1)) (k + 1) (acc + t) (bs.drop (o + (k + 1))) by rw [HV.out, if_neg hx]; rfl)
          go_wp2
          refine ⟨⟨k + 1, acc + t, by omega, by go_num, by go_num, by rw [← HT.out]; exact acc_next HA.out, by rw [HD.out, HF.out]⟩, by simp [intOf]; omega⟩
      · have HF := Lib.hid (show rdU bs o = none by
          rw [HU.out, HD.out]
          by_cases h6 : k = 6
          · subst h6; rfl
          · rw [List.drop_eq_nil_of_le (by have := HN.out; omega)]
            rw [show 6 - k = (6 - (k + 1)) + 1 by omega]; rfl)
        clear hacc hrd
        have hend : (6 : Int) ≤ (k : Int) ∨ ((k : Int) < 6 ∧ (n : Int) ≤ (o : Int) + (k : Int)) := by omega
        clear hlt
        rcases hend with g3 | ⟨g3, g4⟩
        all_goals
          go_wp2
          go_ret3
          exact ⟨by rw [HF.out]; rfl, rfl⟩
  · have HF := Lib.hid (show rdU bs off = none from if_neg (by have := HN.out; omega))
    have hout : off < 0 ∨ (0 ≤ off ∧ (n : Int) ≤ off) := by omega
    clear hoff
    rcases hout with g3 | ⟨g3, g4⟩
    all_goals
      go_enter Try.func30, Try.ntmps30
      go_wp2
      go_loop [4, 5, 6, 7, 8] (fun _ _ _ a i => i = .int .i64 0 ∧ a = .int .i64 0) (fun _ _ _ _ i => 6 - (intOf i).toNat)
      case atStart => exact ⟨rfl, rfl⟩
      case round =>
        obtain ⟨rfl, rfl⟩ := hrel
        go_wp2
        go_ret3
        exact ⟨by rw [HF.out]; rfl, rfl⟩
end Go.Proofs.Ytgdpeehmjhahfaa
