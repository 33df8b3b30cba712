/-
  The walk of the statement FnExactAppendLog.
-/
import Derived.Test.YtgdpeehmjhahfaaAppL
import Derived.Test.YtgdpeehmjhahfaaSeg
namespace Go.Proofs.Ytgdpeehmjhahfaa
open Go.RowKit
open Go.Proofs

theorem impl_AppendLog_at (w : World) (bs ds : List UInt8) (v : Int) (A : Option Addr) (n c : Nat) (B : Option Addr) (m d : Nat) (hr : bytesC.Rd w w.heap.size bs [.slice A n c]) (hd : bytesC.Rd w w.heap.size ds [.slice B m d])
    (hn : n ≤ 2097152) (hm : m ≤ 2097152) (h1 : -9223372036854775808 ≤ v) (h2 : v ≤ 9223372036854775807) (y : List UInt8) (b : Bool) (hy : alHead bs v ds = y) (hb : alTail bs v ds = [.bool b]) :
    Calls Try.prog 9 #[.slice A n c, .int .i64 v, .slice B m d] w (RetT bytesC y [.bool b] w) := by
  rw [← hy, ← hb]
  exact impl_AppendLog w bs ds v A n c B m d hr hd hn hm h1 h2
theorem spec_AppendLog_at (w : World) (bs ds : List UInt8) (v : Int) (A : Option Addr) (n c : Nat) (B : Option Addr) (m d : Nat) (hr : bytesC.Rd w w.heap.size bs [.slice A n c]) (hd : bytesC.Rd w w.heap.size ds [.slice B m d])
    (hn : n ≤ 2097152) (hm : m ≤ 2097152) (h1 : -9223372036854775808 ≤ v) (h2 : v ≤ 9223372036854775807) (y : List UInt8) (b : Bool) (hy : alHead bs v ds = y) (hb : alTail bs v ds = [.bool b]) :
    Calls Try.prog 7 #[.slice A n c, .int .i64 v, .slice B m d] w (RetT bytesC y [.bool b] w) := by
  rw [← hy, ← hb]
  exact spec_AppendLog w bs ds v A n c B m d hr hd hn hm h1 h2
theorem al_len (bs : List UInt8) (v : Int) (ds : List UInt8) : (alHead bs v ds).length ≤ bs.length + 4000 := by
  unfold alHead
  split
  · omega
  · rename_i h; unfold alBad at h; omega
theorem al_tail (bs : List UInt8) (v : Int) (ds : List UInt8) : ∃ b, alTail bs v ds = [.bool b] := by
  unfold alTail
  split
  · exact ⟨_, rfl⟩
  · exact ⟨_, rfl⟩

set_option maxHeartbeats 1000000 in
theorem law_AppendLog (w : World) (xs gs : List UInt8) (A : Option Addr) (n c : Nat) (k : Int) (B : Option Addr) (m d : Nat) (hx : bytesC.Rd w w.heap.size xs [.slice A n c]) (hy : bytesC.Rd w w.heap.size gs [.slice B m d])
    (hn : n ≤ 1048576) (hm : m ≤ 1048576) (hk : -9223372036854775808 ≤ k ∧ k ≤ 9223372036854775807) :
    Calls Try.prog 3 #[.slice A n c, .int .i64 k, .slice B m d] w (Ret (.bool true) w) := by
  obtain ⟨y, hy0⟩ : ∃ y, alHead xs k gs = y := ⟨_, rfl⟩
  obtain ⟨q, hq⟩ := al_tail xs k gs
  have HYB := Lib.hid (And.intro hy0 hq)
  have HB := Lib.hid (show y.length ≤ 1052576 by have h1 := al_len xs k gs; have h2 := rds_len hx; rw [hy0] at h1; omega)
  have HX := Lib.hid hx
  have HY := Lib.hid hy
  have HXL := Lib.hid (rds_len hx)
  have HYL := Lib.hid (rds_len hy)
  clear hx hy hy0 hq
  cases q
  all_goals
    go_enter Try.func3, Try.ntmps3
    go_wp2_with fail
    refine (laws_toByteS _ xs A n c (rd_chg HX.out (Chg.refl [] w)) (by omega)).mono ?_
    rintro e w1 ⟨A1, n1, c1, f1, rfl, hown, hfr, hchg⟩
    have S1 := Lib.hid (seg_of hfr hown)
    have G1 := Lib.hid ((Chg.refl [] w).trans hchg); have Z1 := hchg.size
    have B1 : n1 ≤ 2097152 := by have h := own_len hown; have h1 := HXL.out; have h2 := HYL.out; have h3 := HB.out; (try simp at h); omega
    have O1 := Lib.hid hown
    clear hown hfr hchg
    go_wp2_with fail
    refine (laws_toByteS _ gs B m d (rd_chg HY.out G1.out) (by omega)).mono ?_
    rintro e w2 ⟨A2, n2, c2, f2, rfl, hown, hfr, hchg⟩
    have S2 := Lib.hid (seg_of hfr hown)
    have G2 := Lib.hid (G1.out.trans hchg); have Z2 := hchg.size
    have O1 := Lib.hid (own_chg0 O1.out hchg)
    have B2 : n2 ≤ 2097152 := by have h := own_len hown; have h1 := HXL.out; have h2 := HYL.out; have h3 := HB.out; (try simp at h); omega
    have O2 := Lib.hid hown
    clear hown hfr hchg
    go_wp2_with fail
    refine (spec_AppendLog_at _ xs gs k _ _ _ _ _ _ (rd_own O1.out) (rd_own O2.out) (by omega) (by omega) hk.1 hk.2 y _ HYB.out.1 HYB.out.2).mono ?_
    rintro e w3 ⟨A3, n3, c3, f3, rfl, hown, hfr, hchg⟩
    have S3 := Lib.hid (seg_of hfr hown)
    have G3 := Lib.hid (G2.out.trans hchg); have Z3 := hchg.size
    have O1 := Lib.hid (own_chg0 O1.out hchg)
    have O2 := Lib.hid (own_chg0 O2.out hchg)
    have B3 : n3 ≤ 2097152 := by have h := own_len hown; have h1 := HXL.out; have h2 := HYL.out; have h3 := HB.out; (try simp at h); omega
    have O3 := Lib.hid hown
    clear hown hfr hchg
    go_wp2_with fail
    refine (laws_toByteS _ xs A n c (rd_chg HX.out G3.out) (by omega)).mono ?_
    rintro e w4 ⟨A4, n4, c4, f4, rfl, hown, hfr, hchg⟩
    have S4 := Lib.hid (seg_of hfr hown)
    have G4 := Lib.hid (G3.out.trans hchg); have Z4 := hchg.size
    have O3 := Lib.hid (own_chg0 O3.out hchg)
    have B4 : n4 ≤ 2097152 := by have h := own_len hown; have h1 := HXL.out; have h2 := HYL.out; have h3 := HB.out; (try simp at h); omega
    have O4 := Lib.hid hown
    clear hown hfr hchg
    go_wp2_with fail
    refine (laws_toByteS _ gs B m d (rd_chg HY.out G4.out) (by omega)).mono ?_
    rintro e w5 ⟨A5, n5, c5, f5, rfl, hown, hfr, hchg⟩
    have S5 := Lib.hid (seg_of hfr hown)
    have G5 := Lib.hid (G4.out.trans hchg); have Z5 := hchg.size
    have O3 := Lib.hid (own_chg0 O3.out hchg)
    have O4 := Lib.hid (own_chg0 O4.out hchg)
    have B5 : n5 ≤ 2097152 := by have h := own_len hown; have h1 := HXL.out; have h2 := HYL.out; have h3 := HB.out; (try simp at h); omega
    have O5 := Lib.hid hown
    clear hown hfr hchg
    go_wp2_with fail
    refine (impl_AppendLog_at _ xs gs k _ _ _ _ _ _ (rd_own O4.out) (rd_own O5.out) (by omega) (by omega) hk.1 hk.2 y _ HYB.out.1 HYB.out.2).mono ?_
    rintro e w6 ⟨A6, n6, c6, f6, rfl, hown, hfr, hchg⟩
    have S6 := Lib.hid (seg_of hfr hown)
    have G6 := Lib.hid (G5.out.trans hchg); have Z6 := hchg.size
    have O3 := Lib.hid (own_chg0 O3.out hchg)
    have O4 := Lib.hid (own_chg0 O4.out hchg)
    have O5 := Lib.hid (own_chg0 O5.out hchg)
    have B6 : n6 ≤ 2097152 := by have h := own_len hown; have h1 := HXL.out; have h2 := HYL.out; have h3 := HB.out; (try simp at h); omega
    have O6 := Lib.hid hown
    clear hown hfr hchg
    go_wp2_with fail
    refine (laws_eqByteS_same _ (y) _ _ _ _ _ _ (rd_own O6.out) (rd_own O3.out) (by omega) (by omega)).mono ?_
    rintro e w7 ⟨rfl, hchg⟩
    have G7 := Lib.hid (G6.out.trans hchg); have Z7 := hchg.size
    have O3 := Lib.hid (own_chg0 O3.out hchg)
    have O4 := Lib.hid (own_chg0 O4.out hchg)
    have O5 := Lib.hid (own_chg0 O5.out hchg)
    have O6 := Lib.hid (own_chg0 O6.out hchg)
    clear hchg
    go_wp2_with fail
    refine (laws_toByteS _ xs A n c (rd_chg HX.out G7.out) (by omega)).mono ?_
    rintro e w8 ⟨A7, n7, c7, f7, rfl, hown, hfr, hchg⟩
    have S7 := Lib.hid (seg_of hfr hown)
    have G8 := Lib.hid (G7.out.trans hchg); have Z8 := hchg.size
    have O3 := Lib.hid (own_chg0 O3.out hchg)
    have O4 := Lib.hid (own_chg0 O4.out hchg)
    have O5 := Lib.hid (own_chg0 O5.out hchg)
    have O6 := Lib.hid (own_chg0 O6.out hchg)
    have B7 : n7 ≤ 2097152 := by have h := own_len hown; have h1 := HXL.out; have h2 := HYL.out; have h3 := HB.out; (try simp at h); omega
    have O7 := Lib.hid hown
    clear hown hfr hchg
    go_wp2_with fail
    refine (laws_eqByteS_same _ (xs) _ _ _ _ _ _ (rd_own O4.out) (rd_own O7.out) (by omega) (by omega)).mono ?_
    rintro e w9 ⟨rfl, hchg⟩
    have G9 := Lib.hid (G8.out.trans hchg); have Z9 := hchg.size
    have O3 := Lib.hid (own_chg0 O3.out hchg)
    have O4 := Lib.hid (own_chg0 O4.out hchg)
    have O5 := Lib.hid (own_chg0 O5.out hchg)
    have O6 := Lib.hid (own_chg0 O6.out hchg)
    have O7 := Lib.hid (own_chg0 O7.out hchg)
    clear hchg
    go_wp2_with fail
    refine (laws_toByteS _ gs B m d (rd_chg HY.out G9.out) (by omega)).mono ?_
    rintro e w10 ⟨A8, n8, c8, f8, rfl, hown, hfr, hchg⟩
    have S8 := Lib.hid (seg_of hfr hown)
    have G10 := Lib.hid (G9.out.trans hchg); have Z10 := hchg.size
    have O3 := Lib.hid (own_chg0 O3.out hchg)
    have O4 := Lib.hid (own_chg0 O4.out hchg)
    have O5 := Lib.hid (own_chg0 O5.out hchg)
    have O6 := Lib.hid (own_chg0 O6.out hchg)
    have B8 : n8 ≤ 2097152 := by have h := own_len hown; have h1 := HXL.out; have h2 := HYL.out; have h3 := HB.out; (try simp at h); omega
    have O8 := Lib.hid hown
    clear hown hfr hchg
    go_wp2_with fail
    refine (laws_eqByteS_same _ (gs) _ _ _ _ _ _ (rd_own O5.out) (rd_own O8.out) (by omega) (by omega)).mono ?_
    rintro e w11 ⟨rfl, hchg⟩
    have G11 := Lib.hid (G10.out.trans hchg); have Z11 := hchg.size
    have O3 := Lib.hid (own_chg0 O3.out hchg)
    have O4 := Lib.hid (own_chg0 O4.out hchg)
    have O5 := Lib.hid (own_chg0 O5.out hchg)
    have O6 := Lib.hid (own_chg0 O6.out hchg)
    have O8 := Lib.hid (own_chg0 O8.out hchg)
    clear hchg
    go_wp2_with fail
    refine (laws_markByteS _ xs _ _ _ 1 _ O4.out (by omega) (by omega)).mono ?_
    rintro e w12 ⟨rfl, hown, hchg⟩
    have G12 := Lib.hid (G11.out.andThen hchg (seg_new S4.out (by omega))); have Z12 := hchg.size
    have O3 := Lib.hid (own_chg O3.out hchg (seg_off S3.out S4.out (by omega)))
    have O5 := Lib.hid (own_chg O5.out hchg (seg_off S5.out S4.out (by omega)))
    have O6 := Lib.hid (own_chg O6.out hchg (seg_off S6.out S4.out (by omega)))
    have O4 := Lib.hid hown
    clear hown hchg
    go_wp2_with fail
    refine (laws_markByteS _ gs _ _ _ (1 + n4) _ O5.out (by omega) (by omega)).mono ?_
    rintro e w13 ⟨rfl, hown, hchg⟩
    have G13 := Lib.hid (G12.out.andThen hchg (seg_new S5.out (by omega))); have Z13 := hchg.size
    have O3 := Lib.hid (own_chg O3.out hchg (seg_off S3.out S5.out (by omega)))
    have O4 := Lib.hid (own_chg O4.out hchg (seg_off S4.out S5.out (by omega)))
    have O6 := Lib.hid (own_chg O6.out hchg (seg_off S6.out S5.out (by omega)))
    have O5 := Lib.hid hown
    clear hown hchg
    go_wp2_with fail
    refine (laws_eqByteS_same _ (y) _ _ _ _ _ _ (rd_own O6.out) (rd_own O3.out) (by omega) (by omega)).mono ?_
    rintro e w14 ⟨rfl, hchg⟩
    have G14 := Lib.hid (G13.out.trans hchg); have Z14 := hchg.size
    have O3 := Lib.hid (own_chg0 O3.out hchg)
    have O6 := Lib.hid (own_chg0 O6.out hchg)
    clear hchg
    go_wp2_with fail
    refine (laws_markByteS _ (y) _ _ _ 1 _ O6.out (by omega) (by omega)).mono ?_
    rintro e w15 ⟨rfl, hown, hchg⟩
    have G15 := Lib.hid (G14.out.andThen hchg (seg_new S6.out (by omega))); have Z15 := hchg.size
    have O3 := Lib.hid (own_chg O3.out hchg (seg_off S3.out S6.out (by omega)))
    have O6 := Lib.hid hown
    clear hown hchg
    go_wp2_with fail
    refine (laws_heldByteS _ _ _ _ 1 (rd_own O6.out) (by omega) (by omega)).mono ?_
    rintro e w16 ⟨rfl, hchg⟩
    have G16 := Lib.hid (G15.out.trans hchg); have Z16 := hchg.size
    have O3 := Lib.hid (own_chg0 O3.out hchg)
    have O6 := Lib.hid (own_chg0 O6.out hchg)
    clear hchg
    go_wp2_with fail
    refine (laws_toByteS _ xs A n c (rd_chg HX.out G16.out) (by omega)).mono ?_
    rintro e w17 ⟨A9, n9, c9, f9, rfl, hown, hfr, hchg⟩
    have S9 := Lib.hid (seg_of hfr hown)
    have G17 := Lib.hid (G16.out.trans hchg); have Z17 := hchg.size
    have O3 := Lib.hid (own_chg0 O3.out hchg)
    have O6 := Lib.hid (own_chg0 O6.out hchg)
    have B9 : n9 ≤ 2097152 := by have h := own_len hown; have h1 := HXL.out; have h2 := HYL.out; have h3 := HB.out; (try simp at h); omega
    have O9 := Lib.hid hown
    clear hown hfr hchg
    go_wp2_with fail
    refine (laws_toByteS _ gs B m d (rd_chg HY.out G17.out) (by omega)).mono ?_
    rintro e w18 ⟨A10, n10, c10, f10, rfl, hown, hfr, hchg⟩
    have S10 := Lib.hid (seg_of hfr hown)
    have G18 := Lib.hid (G17.out.trans hchg); have Z18 := hchg.size
    have O3 := Lib.hid (own_chg0 O3.out hchg)
    have O6 := Lib.hid (own_chg0 O6.out hchg)
    have O9 := Lib.hid (own_chg0 O9.out hchg)
    have B10 : n10 ≤ 2097152 := by have h := own_len hown; have h1 := HXL.out; have h2 := HYL.out; have h3 := HB.out; (try simp at h); omega
    have O10 := Lib.hid hown
    clear hown hfr hchg
    go_wp2_with fail
    refine (impl_AppendLog_at _ xs gs k _ _ _ _ _ _ (rd_own O9.out) (rd_own O10.out) (by omega) (by omega) hk.1 hk.2 y _ HYB.out.1 HYB.out.2).mono ?_
    rintro e w19 ⟨A11, n11, c11, f11, rfl, hown, hfr, hchg⟩
    have S11 := Lib.hid (seg_of hfr hown)
    have G19 := Lib.hid (G18.out.trans hchg); have Z19 := hchg.size
    have O3 := Lib.hid (own_chg0 O3.out hchg)
    have O6 := Lib.hid (own_chg0 O6.out hchg)
    have O9 := Lib.hid (own_chg0 O9.out hchg)
    have O10 := Lib.hid (own_chg0 O10.out hchg)
    have B11 : n11 ≤ 2097152 := by have h := own_len hown; have h1 := HXL.out; have h2 := HYL.out; have h3 := HB.out; (try simp at h); omega
    have O11 := Lib.hid hown
    clear hown hfr hchg
    go_wp2_with fail
    refine (laws_eqByteS_same _ (y) _ _ _ _ _ _ (rd_own O11.out) (rd_own O3.out) (by omega) (by omega)).mono ?_
    rintro e w20 ⟨rfl, hchg⟩
    have G20 := Lib.hid (G19.out.trans hchg); have Z20 := hchg.size
    have O3 := Lib.hid (own_chg0 O3.out hchg)
    have O6 := Lib.hid (own_chg0 O6.out hchg)
    have O11 := Lib.hid (own_chg0 O11.out hchg)
    clear hchg
    go_wp2_with fail
    refine (laws_heldByteS _ _ _ _ 1 (rd_own O6.out) (by omega) (by omega)).mono ?_
    rintro e w21 ⟨rfl, hchg⟩
    have G21 := Lib.hid (G20.out.trans hchg); have Z21 := hchg.size
    have O6 := Lib.hid (own_chg0 O6.out hchg)
    clear hchg
    go_wp2
    go_ret
    exact ⟨rfl, G21.out⟩
end Go.Proofs.Ytgdpeehmjhahfaa
