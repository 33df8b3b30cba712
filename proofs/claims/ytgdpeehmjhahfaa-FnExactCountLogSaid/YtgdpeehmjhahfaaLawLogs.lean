/-
  The walks of the statements FnExactCountLog and FnExactRepairLog.
-/
import Derived.Test.YtgdpeehmjhahfaaLogC
import Derived.Test.YtgdpeehmjhahfaaSeg
namespace Go.Proofs.Ytgdpeehmjhahfaa
open Go.RowKit
open Go.Proofs

theorem impl_CountLog_at (w : World) (bs : List UInt8) (A : Option Addr) (n c : Nat) (hr : bytesC.Rd w w.heap.size bs [.slice A n c]) (hn : n ≤ 2097152) (z : Nat) (hz : (rl bs).1.length = z) :
    Calls Try.prog 14 #[.slice A n c] w (Ret (.int .i64 (z : Int)) w) := by
  rw [← hz]; exact impl_CountLog w bs A n c hr hn
theorem impl_RepairLog_at (w : World) (bs : List UInt8) (A : Option Addr) (n c : Nat) (hr : bytesC.Rd w w.heap.size bs [.slice A n c]) (hn : n ≤ 2097152) (y : List UInt8) (hy : bs.take (rl bs).2 = y) :
    Calls Try.prog 16 #[.slice A n c] w (RetV bytesC y w) := by
  rw [← hy]; exact impl_RepairLog w bs A n c hr hn
theorem spec_CountLog_at (w : World) (bs : List UInt8) (A : Option Addr) (n c : Nat) (hr : bytesC.Rd w w.heap.size bs [.slice A n c]) (hn : n ≤ 2097152) (z : Nat) (hz : (rl bs).1.length = z) :
    Calls Try.prog 13 #[.slice A n c] w (Ret (.int .i64 (z : Int)) w) := by
  rw [← hz]; exact spec_CountLog w bs A n c hr hn
theorem spec_RepairLog_at (w : World) (bs : List UInt8) (A : Option Addr) (n c : Nat) (hr : bytesC.Rd w w.heap.size bs [.slice A n c]) (hn : n ≤ 2097152) (y : List UInt8) (hy : bs.take (rl bs).2 = y) :
    Calls Try.prog 15 #[.slice A n c] w (RetV bytesC y w) := by
  rw [← hy]; exact spec_RepairLog w bs A n c hr hn

set_option maxHeartbeats 1000000 in
theorem law_CountLog (w : World) (xs : List UInt8) (A : Option Addr) (n c : Nat) (hx : bytesC.Rd w w.heap.size xs [.slice A n c])
    (hn : n ≤ 1048576) :
    Calls Try.prog 4 #[.slice A n c] w (Ret (.bool true) w) := by
  obtain ⟨z, hz⟩ : ∃ z, (rl xs).1.length = z := ⟨_, rfl⟩
  have HZ := Lib.hid hz
  have HB := Lib.hid (True.intro)
  clear hz
  have HX := Lib.hid hx
  have HXL := Lib.hid (rds_len hx)
  clear hx
  go_enter Try.func4, Try.ntmps4
  go_wp2_with fail
  refine (laws_toByteS _ xs A n c (rd_chg HX.out (Chg.refl [] w)) (by omega)).mono ?_
  rintro e w1 ⟨A1, n1, c1, f1, rfl, hown, hfr, hchg⟩
  have S1 := Lib.hid (seg_of hfr hown)
  have G1 := Lib.hid ((Chg.refl [] w).trans hchg); have Z1 := hchg.size
  have B1 : n1 ≤ 2097152 := by have h := own_len hown; have h1 := HXL.out; have h3 := HB.out; (try simp at h); omega
  have O1 := Lib.hid hown
  clear hown hfr hchg
  go_wp2_with fail
  refine (spec_CountLog_at _ xs _ _ _ (rd_own O1.out) (by omega) z HZ.out).mono ?_
  rintro e w2 ⟨rfl, hchg⟩
  have G2 := Lib.hid (G1.out.trans hchg); have Z2 := hchg.size
  have O1 := Lib.hid (own_chg0 O1.out hchg)
  clear hchg
  go_wp2_with fail
  refine (laws_toByteS _ xs A n c (rd_chg HX.out G2.out) (by omega)).mono ?_
  rintro e w3 ⟨A2, n2, c2, f2, rfl, hown, hfr, hchg⟩
  have S2 := Lib.hid (seg_of hfr hown)
  have G3 := Lib.hid (G2.out.trans hchg); have Z3 := hchg.size
  have B2 : n2 ≤ 2097152 := by have h := own_len hown; have h1 := HXL.out; have h3 := HB.out; (try simp at h); omega
  have O2 := Lib.hid hown
  clear hown hfr hchg
  go_wp2_with fail
  refine (impl_CountLog_at _ xs _ _ _ (rd_own O2.out) (by omega) z HZ.out).mono ?_
  rintro e w4 ⟨rfl, hchg⟩
  have G4 := Lib.hid (G3.out.trans hchg); have Z4 := hchg.size
  have O2 := Lib.hid (own_chg0 O2.out hchg)
  clear hchg
  go_wp2_with fail
  refine (laws_toByteS _ xs A n c (rd_chg HX.out G4.out) (by omega)).mono ?_
  rintro e w5 ⟨A3, n3, c3, f3, rfl, hown, hfr, hchg⟩
  have S3 := Lib.hid (seg_of hfr hown)
  have G5 := Lib.hid (G4.out.trans hchg); have Z5 := hchg.size
  have O2 := Lib.hid (own_chg0 O2.out hchg)
  have B3 : n3 ≤ 2097152 := by have h := own_len hown; have h1 := HXL.out; have h3 := HB.out; (try simp at h); omega
  have O3 := Lib.hid hown
  clear hown hfr hchg
  go_wp2_with fail
  refine (laws_eqByteS_same _ (xs) _ _ _ _ _ _ (rd_own O2.out) (rd_own O3.out) (by omega) (by omega)).mono ?_
  rintro e w6 ⟨rfl, hchg⟩
  have G6 := Lib.hid (G5.out.trans hchg); have Z6 := hchg.size
  have O2 := Lib.hid (own_chg0 O2.out hchg)
  have O3 := Lib.hid (own_chg0 O3.out hchg)
  clear hchg
  go_wp2
  go_ret
  exact ⟨rfl, G6.out⟩

set_option maxHeartbeats 1000000 in
theorem law_RepairLog (w : World) (xs : List UInt8) (A : Option Addr) (n c : Nat) (hx : bytesC.Rd w w.heap.size xs [.slice A n c])
    (hn : n ≤ 1048576) :
    Calls Try.prog 5 #[.slice A n c] w (Ret (.bool true) w) := by
  obtain ⟨y, hy⟩ : ∃ y, xs.take (rl xs).2 = y := ⟨_, rfl⟩
  have HYB := Lib.hid hy
  have HB := Lib.hid (show y.length ≤ 1048576 by rw [← hy, List.length_take]; have := rds_len hx; omega)
  clear hy
  have HX := Lib.hid hx
  have HXL := Lib.hid (rds_len hx)
  clear hx
  go_enter Try.func5, Try.ntmps5
  go_wp2_with fail
  refine (laws_toByteS _ xs A n c (rd_chg HX.out (Chg.refl [] w)) (by omega)).mono ?_
  rintro e w1 ⟨A1, n1, c1, f1, rfl, hown, hfr, hchg⟩
  have S1 := Lib.hid (seg_of hfr hown)
  have G1 := Lib.hid ((Chg.refl [] w).trans hchg); have Z1 := hchg.size
  have B1 : n1 ≤ 2097152 := by have h := own_len hown; have h1 := HXL.out; have h3 := HB.out; (try simp at h); omega
  have O1 := Lib.hid hown
  clear hown hfr hchg
  go_wp2_with fail
  refine (spec_RepairLog_at _ xs _ _ _ (rd_own O1.out) (by omega) y HYB.out).mono ?_
  rintro e w2 ⟨A2, n2, c2, f2, rfl, hown, hfr, hchg⟩
  have S2 := Lib.hid (seg_of hfr hown)
  have G2 := Lib.hid (G1.out.trans hchg); have Z2 := hchg.size
  have O1 := Lib.hid (own_chg0 O1.out hchg)
  have B2 : n2 ≤ 2097152 := by have h := own_len hown; have h1 := HXL.out; have h3 := HB.out; (try simp at h); omega
  have O2 := Lib.hid hown
  clear hown hfr hchg
  go_wp2_with fail
  refine (laws_toByteS _ xs A n c (rd_chg HX.out G2.out) (by omega)).mono ?_
  rintro e w3 ⟨A3, n3, c3, f3, rfl, hown, hfr, hchg⟩
  have S3 := Lib.hid (seg_of hfr hown)
  have G3 := Lib.hid (G2.out.trans hchg); have Z3 := hchg.size
  have O2 := Lib.hid (own_chg0 O2.out hchg)
  have B3 : n3 ≤ 2097152 := by have h := own_len hown; have h1 := HXL.out; have h3 := HB.out; (try simp at h); omega
  have O3 := Lib.hid hown
  clear hown hfr hchg
  go_wp2_with fail
  refine (impl_RepairLog_at _ xs _ _ _ (rd_own O3.out) (by omega) y HYB.out).mono ?_
  rintro e w4 ⟨A4, n4, c4, f4, rfl, hown, hfr, hchg⟩
  have S4 := Lib.hid (seg_of hfr hown)
  have G4 := Lib.hid (G3.out.trans hchg); have Z4 := hchg.size
  have O2 := Lib.hid (own_chg0 O2.out hchg)
  have O3 := Lib.hid (own_chg0 O3.out hchg)
  have B4 : n4 ≤ 2097152 := by have h := own_len hown; have h1 := HXL.out; have h3 := HB.out; (try simp at h); omega
  have O4 := Lib.hid hown
  clear hown hfr hchg
  go_wp2_with fail
  refine (laws_eqByteS_same _ (y) _ _ _ _ _ _ (rd_own O4.out) (rd_own O2.out) (by omega) (by omega)).mono ?_
  rintro e w5 ⟨rfl, hchg⟩
  have G5 := Lib.hid (G4.out.trans hchg); have Z5 := hchg.size
  have O2 := Lib.hid (own_chg0 O2.out hchg)
  have O3 := Lib.hid (own_chg0 O3.out hchg)
  have O4 := Lib.hid (own_chg0 O4.out hchg)
  clear hchg
  go_wp2_with fail
  refine (laws_toByteS _ xs A n c (rd_chg HX.out G5.out) (by omega)).mono ?_
  rintro e w6 ⟨A5, n5, c5, f5, rfl, hown, hfr, hchg⟩
  have S5 := Lib.hid (seg_of hfr hown)
  have G6 := Lib.hid (G5.out.trans hchg); have Z6 := hchg.size
  have O2 := Lib.hid (own_chg0 O2.out hchg)
  have O3 := Lib.hid (own_chg0 O3.out hchg)
  have O4 := Lib.hid (own_chg0 O4.out hchg)
  have B5 : n5 ≤ 2097152 := by have h := own_len hown; have h1 := HXL.out; have h3 := HB.out; (try simp at h); omega
  have O5 := Lib.hid hown
  clear hown hfr hchg
  go_wp2_with fail
  refine (laws_eqByteS_same _ (xs) _ _ _ _ _ _ (rd_own O3.out) (rd_own O5.out) (by omega) (by omega)).mono ?_
  rintro e w7 ⟨rfl, hchg⟩
  have G7 := Lib.hid (G6.out.trans hchg); have Z7 := hchg.size
  have O2 := Lib.hid (own_chg0 O2.out hchg)
  have O3 := Lib.hid (own_chg0 O3.out hchg)
  have O4 := Lib.hid (own_chg0 O4.out hchg)
  have O5 := Lib.hid (own_chg0 O5.out hchg)
  clear hchg
  go_wp2_with fail
  refine (laws_markByteS _ xs _ _ _ 1 _ O3.out (by omega) (by omega)).mono ?_
  rintro e w8 ⟨rfl, hown, hchg⟩
  have G8 := Lib.hid (G7.out.andThen hchg (seg_new S3.out (by omega))); have Z8 := hchg.size
  have O2 := Lib.hid (own_chg O2.out hchg (seg_off S2.out S3.out (by omega)))
  have O4 := Lib.hid (own_chg O4.out hchg (seg_off S4.out S3.out (by omega)))
  have O3 := Lib.hid hown
  clear hown hchg
  go_wp2_with fail
  refine (laws_eqByteS_same _ (y) _ _ _ _ _ _ (rd_own O4.out) (rd_own O2.out) (by omega) (by omega)).mono ?_
  rintro e w9 ⟨rfl, hchg⟩
  have G9 := Lib.hid (G8.out.trans hchg); have Z9 := hchg.size
  have O2 := Lib.hid (own_chg0 O2.out hchg)
  have O4 := Lib.hid (own_chg0 O4.out hchg)
  clear hchg
  go_wp2_with fail
  refine (laws_markByteS _ (y) _ _ _ 1 _ O4.out (by omega) (by omega)).mono ?_
  rintro e w10 ⟨rfl, hown, hchg⟩
  have G10 := Lib.hid (G9.out.andThen hchg (seg_new S4.out (by omega))); have Z10 := hchg.size
  have O2 := Lib.hid (own_chg O2.out hchg (seg_off S2.out S4.out (by omega)))
  have O4 := Lib.hid hown
  clear hown hchg
  go_wp2_with fail
  refine (laws_heldByteS _ _ _ _ 1 (rd_own O4.out) (by omega) (by omega)).mono ?_
  rintro e w11 ⟨rfl, hchg⟩
  have G11 := Lib.hid (G10.out.trans hchg); have Z11 := hchg.size
  have O2 := Lib.hid (own_chg0 O2.out hchg)
  have O4 := Lib.hid (own_chg0 O4.out hchg)
  clear hchg
  go_wp2_with fail
  refine (laws_toByteS _ xs A n c (rd_chg HX.out G11.out) (by omega)).mono ?_
  rintro e w12 ⟨A6, n6, c6, f6, rfl, hown, hfr, hchg⟩
  have S6 := Lib.hid (seg_of hfr hown)
  have G12 := Lib.hid (G11.out.trans hchg); have Z12 := hchg.size
  have O2 := Lib.hid (own_chg0 O2.out hchg)
  have O4 := Lib.hid (own_chg0 O4.out hchg)
  have B6 : n6 ≤ 2097152 := by have h := own_len hown; have h1 := HXL.out; have h3 := HB.out; (try simp at h); omega
  have O6 := Lib.hid hown
  clear hown hfr hchg
  go_wp2_with fail
  refine (impl_RepairLog_at _ xs _ _ _ (rd_own O6.out) (by omega) y HYB.out).mono ?_
  rintro e w13 ⟨A7, n7, c7, f7, rfl, hown, hfr, hchg⟩
  have S7 := Lib.hid (seg_of hfr hown)
  have G13 := Lib.hid (G12.out.trans hchg); have Z13 := hchg.size
  have O2 := Lib.hid (own_chg0 O2.out hchg)
  have O4 := Lib.hid (own_chg0 O4.out hchg)
  have O6 := Lib.hid (own_chg0 O6.out hchg)
  have B7 : n7 ≤ 2097152 := by have h := own_len hown; have h1 := HXL.out; have h3 := HB.out; (try simp at h); omega
  have O7 := Lib.hid hown
  clear hown hfr hchg
  go_wp2_with fail
  refine (laws_eqByteS_same _ (y) _ _ _ _ _ _ (rd_own O7.out) (rd_own O2.out) (by omega) (by omega)).mono ?_
  rintro e w14 ⟨rfl, hchg⟩
  have G14 := Lib.hid (G13.out.trans hchg); have Z14 := hchg.size
  have O2 := Lib.hid (own_chg0 O2.out hchg)
  have O4 := Lib.hid (own_chg0 O4.out hchg)
  have O7 := Lib.hid (own_chg0 O7.out hchg)
  clear hchg
  go_wp2_with fail
  refine (laws_heldByteS _ _ _ _ 1 (rd_own O4.out) (by omega) (by omega)).mono ?_
  rintro e w15 ⟨rfl, hchg⟩
  have G15 := Lib.hid (G14.out.trans hchg); have Z15 := hchg.size
  have O4 := Lib.hid (own_chg0 O4.out hchg)
  clear hchg
  go_wp2
  go_ret
  exact ⟨rfl, G15.out⟩
end Go.Proofs.Ytgdpeehmjhahfaa
