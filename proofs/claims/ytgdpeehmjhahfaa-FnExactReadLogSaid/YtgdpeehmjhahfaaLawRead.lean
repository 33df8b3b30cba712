/-
  The walk of the statement FnExactReadLog.
-/
import Derived.Test.YtgdpeehmjhahfaaBB
namespace Go.Proofs.Ytgdpeehmjhahfaa
open Go.RowKit
open Go.Proofs

theorem impl_ReadLog_at (w : World) (bs : List UInt8) (A : Option Addr) (n c : Nat) (hr : bytesC.Rd w w.heap.size bs [.slice A n c]) (hn : n ≤ 2097152) (y : List (List UInt8)) (q : Nat) (hy : (rl bs).1 = y) (hq : (rl bs).2 = q) :
    Calls Try.prog 18 #[.slice A n c] w (RetT bytessC y [.int .i64 (q : Int)] w) := by
  rw [← hy, ← hq]; exact impl_ReadLog w bs A n c hr hn
theorem spec_ReadLog_at (w : World) (bs : List UInt8) (A : Option Addr) (n c : Nat) (hr : bytesC.Rd w w.heap.size bs [.slice A n c]) (hn : n ≤ 2097152) (y : List (List UInt8)) (q : Nat) (hy : (rl bs).1 = y) (hq : (rl bs).2 = q) :
    Calls Try.prog 17 #[.slice A n c] w (RetT bytessC y [.int .i64 (q : Int)] w) := by
  rw [← hy, ← hq]; exact spec_ReadLog w bs A n c hr hn
theorem rdB_len {bs : List UInt8} {off : Int} {most : Int} {d : List UInt8} {nx : Nat} (h : rdB bs off most = some (d, nx)) : off + 1 + (d.length : Int) ≤ (nx : Int) := by
  unfold rdB at h
  split at h
  · cases h
  · rename_i v k hu
    split at h
    · rename_i hc
      obtain ⟨o, p, rfl, hp, hk, hpl, hv⟩ := rdU_some hu
      simp only [Option.some.injEq, Prod.mk.injEq, Int.toNat_natCast] at h hc
      obtain ⟨rfl, rfl⟩ := h
      simp only [List.length_take, List.length_drop]
      omega
    · cases h
theorem rlog_sum (bs : List UInt8) : ∀ (f p : Nat) (acc : List (List UInt8)), p ≤ bs.length → acc.length + sumB acc ≤ p → (rlog bs f p acc).1.length + sumB (rlog bs f p acc).1 ≤ bs.length
  | 0, p, acc, h, h2 => Nat.le_trans h2 h
  | f + 1, p, acc, h, h2 => by
    cases hb : rdB bs p 4000 with
    | none => rw [rlog_none hb]; exact Nat.le_trans h2 h
    | some dn =>
      obtain ⟨d, nx⟩ := dn
      cases hu : rdU bs nx with
      | none => rw [rlog_none2 hb hu]; exact Nat.le_trans h2 h
      | some sk =>
        obtain ⟨s, k⟩ := sk
        by_cases hs : (s : Int) = checkV acc.length d
        · rw [rlog_go hb hu hs]
          obtain ⟨o, p', ho, hp, hk, hpl, hv⟩ := rdU_some hu
          have hd := rdB_len hb
          exact rlog_sum bs f _ _ (by omega) (by rw [sumB_snoc, List.length_append, List.length_singleton]; omega)
        · rw [rlog_bad hb hu hs]; exact Nat.le_trans h2 h
theorem rl_sum (bs : List UInt8) : (rl bs).1.length + sumB (rl bs).1 ≤ bs.length := rlog_sum bs _ 0 [] (by omega) (by simp [sumB])

set_option maxHeartbeats 1000000 in
theorem law_ReadLog (w : World) (xs : List UInt8) (A : Option Addr) (n c : Nat) (hx : bytesC.Rd w w.heap.size xs [.slice A n c])
    (hn : n ≤ 1048576) :
    Calls Try.prog 6 #[.slice A n c] w (Ret (.bool true) w) := by
  obtain ⟨y, hy⟩ : ∃ y, (rl xs).1 = y := ⟨_, rfl⟩
  obtain ⟨q, hq⟩ : ∃ q, (rl xs).2 = q := ⟨_, rfl⟩
  have HYB := Lib.hid (And.intro hy hq)
  have HB := Lib.hid (show y.length + sumB y ≤ 1048576 by rw [← hy]; have := rds_len hx; have := rl_sum xs; omega)
  have HX := Lib.hid hx
  have HXL := Lib.hid (rds_len hx)
  clear hx hy hq
  go_enter Try.func6, Try.ntmps6
  go_wp2_with fail
  refine (laws_toByteS _ xs A n c (rd_chg HX.out (Chg.refl [] w)) (by omega)).mono ?_
  rintro e w1 ⟨A1, n1, c1, f1, rfl, hown, hfr, hchg⟩
  have S1 := Lib.hid (seg_of hfr hown)
  have G1 := Lib.hid ((Chg.refl [] w).trans hchg); have Z1 := hchg.size
  have B1 : n1 ≤ 2097152 := by have h := own_len hown; have h1 := HXL.out; have h3 := HB.out; (try simp at h); omega
  have O1 := Lib.hid hown
  clear hown hfr hchg
  go_wp2_with fail
  refine (spec_ReadLog_at _ xs _ _ _ (rd_own O1.out) (by omega) y q HYB.out.1 HYB.out.2).mono ?_
  rintro e w2 ⟨A2, n2, c2, f2, rfl, hown, hfr, hchg⟩
  have S2 := Lib.hid (seg_of hfr hown)
  have G2 := Lib.hid (G1.out.trans hchg); have Z2 := hchg.size
  have O1 := Lib.hid (own_chg0 O1.out hchg)
  have B2 : n2 ≤ 2097152 := by have h := own_len hown; have h1 := HXL.out; have h3 := HB.out; (try simp at h); omega
  have O2 := Lib.hid hown
  have N2 := Lib.hid hfr.1
  clear hown hfr hchg
  go_wp2_with fail
  refine (laws_toByteS _ xs A n c (rd_chg HX.out G2.out) (by omega)).mono ?_
  rintro e w3 ⟨A3, n3, c3, f3, rfl, hown, hfr, hchg⟩
  have S3 := Lib.hid (seg_of hfr hown)
  have G3 := Lib.hid (G2.out.trans hchg); have Z3 := hchg.size
  have O2 := Lib.hid (own_chg0 O2.out hchg)
  have B3 : n3 ≤ 2097152 := by have h := own_len hown; have h1 := HXL.out; have h3 := HB.out; (try simp at h); omega
  have O3 := Lib.hid hown
  clear hown hfr hchg
  go_wp2_with fail
  refine (impl_ReadLog_at _ xs _ _ _ (rd_own O3.out) (by omega) y q HYB.out.1 HYB.out.2).mono ?_
  rintro e w4 ⟨A4, n4, c4, f4, rfl, hown, hfr, hchg⟩
  have S4 := Lib.hid (seg_of hfr hown)
  have G4 := Lib.hid (G3.out.trans hchg); have Z4 := hchg.size
  have O2 := Lib.hid (own_chg0 O2.out hchg)
  have O3 := Lib.hid (own_chg0 O3.out hchg)
  have B4 : n4 ≤ 2097152 := by have h := own_len hown; have h1 := HXL.out; have h3 := HB.out; (try simp at h); omega
  have O4 := Lib.hid hown
  have N4 := Lib.hid hfr.1
  clear hown hfr hchg
  go_wp2_with fail
  refine (laws_eqByteSS_same _ y _ _ _ _ _ _ (rd_own O4.out) (rd_own O2.out) (by omega) (by have := HB.out; omega)).mono ?_
  rintro e w5 ⟨rfl, hchg⟩
  have G5 := Lib.hid (G4.out.trans hchg); have Z5 := hchg.size
  have O2 := Lib.hid (own_chg0 O2.out hchg)
  have O3 := Lib.hid (own_chg0 O3.out hchg)
  have O4 := Lib.hid (own_chg0 O4.out hchg)
  clear hchg
  go_wp2_with fail
  refine (laws_toByteS _ xs A n c (rd_chg HX.out G5.out) (by omega)).mono ?_
  rintro e w6 ⟨A5, n5, c5, f5, rfl, hown, hfr, hchg⟩
  have S5 := Lib.hid (seg_of hfr hown)
  have G6 := Lib.hid (G5.out.trans hchg); have Z6 := hchg.size
  have O2 := Lib.hid (own_chg0 O2.out hchg)
  have O3 := Lib.hid (own_chg0 O3.out hchg)
  have O4 := Lib.hid (own_chg0 O4.out hchg)
  have B5 : n5 ≤ 2097152 := by have h := own_len hown; have h1 := HXL.out; have h3 := HB.out; (try simp at h); omega
  have O5 := Lib.hid hown
  clear hown hfr hchg
  go_wp2_with fail
  refine (laws_eqByteS_same _ (xs) _ _ _ _ _ _ (rd_own O3.out) (rd_own O5.out) (by omega) (by omega)).mono ?_
  rintro e w7 ⟨rfl, hchg⟩
  have G7 := Lib.hid (G6.out.trans hchg); have Z7 := hchg.size
  have O2 := Lib.hid (own_chg0 O2.out hchg)
  have O3 := Lib.hid (own_chg0 O3.out hchg)
  have O4 := Lib.hid (own_chg0 O4.out hchg)
  have O5 := Lib.hid (own_chg0 O5.out hchg)
  clear hchg
  go_wp2_with fail
  refine (laws_markByteS _ xs _ _ _ 1 _ O3.out (by omega) (by omega)).mono ?_
  rintro e w8 ⟨rfl, hown, hchg⟩
  have G8 := Lib.hid (G7.out.andThen hchg (seg_new S3.out (by omega))); have Z8 := hchg.size
  have O2 := Lib.hid (own_chg O2.out hchg (seg_off S2.out S3.out (by omega)))
  have O4 := Lib.hid (own_chg O4.out hchg (seg_off S4.out S3.out (by omega)))
  have O3 := Lib.hid hown
  clear hown hchg
  go_wp2_with fail
  refine (laws_eqByteSS_same _ y _ _ _ _ _ _ (rd_own O4.out) (rd_own O2.out) (by omega) (by have := HB.out; omega)).mono ?_
  rintro e w9 ⟨rfl, hchg⟩
  have G9 := Lib.hid (G8.out.trans hchg); have Z9 := hchg.size
  have O2 := Lib.hid (own_chg0 O2.out hchg)
  have O4 := Lib.hid (own_chg0 O4.out hchg)
  clear hchg
  go_wp2_with fail
  refine (laws_markByteSS _ y _ _ _ 1 _ O4.out N4.out (by omega) (by have := HB.out; omega) (by omega)).mono ?_
  rintro e w10 ⟨rfl, hown, hchg⟩
  have G10 := Lib.hid (G9.out.andThen hchg (seg_new S4.out (by omega))); have Z10 := hchg.size
  have O2 := Lib.hid (own_chg O2.out hchg (seg_off S2.out S4.out (by omega)))
  have O4 := Lib.hid hown
  clear hown hchg
  go_wp2_with fail
  refine (laws_heldByteSS _ y _ _ _ 1 (rd_own O4.out) (by omega) (by have := HB.out; omega) (by omega)).mono ?_
  rintro e w11 ⟨rfl, hchg⟩
  have G11 := Lib.hid (G10.out.trans hchg); have Z11 := hchg.size
  have O2 := Lib.hid (own_chg0 O2.out hchg)
  have O4 := Lib.hid (own_chg0 O4.out hchg)
  clear hchg
  go_wp2_with fail
  refine (laws_toByteS _ xs A n c (rd_chg HX.out G11.out) (by omega)).mono ?_
  rintro e w12 ⟨A6, n6, c6, f6, rfl, hown, hfr, hchg⟩
  have S6 := Lib.hid (seg_of hfr hown)
  have G12 := Lib.hid (G11.out.trans hchg); have Z12 := hchg.size
  have O2 := Lib.hid (own_chg0 O2.out hchg)
  have O4 := Lib.hid (own_chg0 O4.out hchg)
  have B6 : n6 ≤ 2097152 := by have h := own_len hown; have h1 := HXL.out; have h3 := HB.out; (try simp at h); omega
  have O6 := Lib.hid hown
  clear hown hfr hchg
  go_wp2_with fail
  refine (impl_ReadLog_at _ xs _ _ _ (rd_own O6.out) (by omega) y q HYB.out.1 HYB.out.2).mono ?_
  rintro e w13 ⟨A7, n7, c7, f7, rfl, hown, hfr, hchg⟩
  have S7 := Lib.hid (seg_of hfr hown)
  have G13 := Lib.hid (G12.out.trans hchg); have Z13 := hchg.size
  have O2 := Lib.hid (own_chg0 O2.out hchg)
  have O4 := Lib.hid (own_chg0 O4.out hchg)
  have O6 := Lib.hid (own_chg0 O6.out hchg)
  have B7 : n7 ≤ 2097152 := by have h := own_len hown; have h1 := HXL.out; have h3 := HB.out; (try simp at h); omega
  have O7 := Lib.hid hown
  have N7 := Lib.hid hfr.1
  clear hown hfr hchg
  go_wp2_with fail
  refine (laws_eqByteSS_same _ y _ _ _ _ _ _ (rd_own O7.out) (rd_own O2.out) (by omega) (by have := HB.out; omega)).mono ?_
  rintro e w14 ⟨rfl, hchg⟩
  have G14 := Lib.hid (G13.out.trans hchg); have Z14 := hchg.size
  have O2 := Lib.hid (own_chg0 O2.out hchg)
  have O4 := Lib.hid (own_chg0 O4.out hchg)
  have O7 := Lib.hid (own_chg0 O7.out hchg)
  clear hchg
  go_wp2_with fail
  refine (laws_heldByteSS _ y _ _ _ 1 (rd_own O4.out) (by omega) (by have := HB.out; omega) (by omega)).mono ?_
  rintro e w15 ⟨rfl, hchg⟩
  have G15 := Lib.hid (G14.out.trans hchg); have Z15 := hchg.size
  have O4 := Lib.hid (own_chg0 O4.out hchg)
  clear hchg
  go_wp2
  go_ret
  exact ⟨rfl, G15.out⟩
end Go.Proofs.Ytgdpeehmjhahfaa
