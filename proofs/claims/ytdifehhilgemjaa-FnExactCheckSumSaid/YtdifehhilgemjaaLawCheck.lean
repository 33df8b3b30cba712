/-
  The walk of the statement FnExactCheckSum.
-/
import Derived.Test.YtdifehhilgemjaaHash
import Derived.Test.YtdifehhilgemjaaSeg
namespace Go.Proofs.Ytdifehhilgemjaa
open Go.RowKit
open Go.Proofs
set_option maxHeartbeats 1000000 in
theorem law_CheckSum (w : World) (v : Int) (xs : List UInt8) (A : Option Addr) (n c : Nat) (hx : bytesC.Rd w w.heap.size xs [.slice A n c]) (hn : n ≤ 1048576) (h1 : -9223372036854775808 ≤ v) (h2 : v ≤ 9223372036854775807) :
    Calls Try.prog 4 #[.int .i64 v, .slice A n c] w (Ret (.bool true) w) := by
  have HX := Lib.hid hx
  have HXL := Lib.hid (rds_len hx)
  clear hx
  have hb : (checkV v xs != checkV v xs) = false := by simp
  go_enter Try.func4, Try.ntmps4
  go_wp2_with fail
  refine (laws_toByteS _ xs A n c (rd_chg HX.out (Chg.refl [] w)) (by omega)).mono ?_
  rintro e w1 ⟨A1, n1, c1, f1, rfl, hown, hfr, hchg⟩
  have S1 := Lib.hid (seg_of hfr hown)
  have G1 := Lib.hid ((Chg.refl [] w).trans hchg); have Z1 := hchg.size
  have B1 : n1 ≤ 2097152 := by have h := own_len hown; have h1 := HXL.out; (try simp at h); omega
  have O1 := Lib.hid hown
  clear hown hfr hchg
  go_wp2_with fail
  refine (spec_CheckSum _ v xs _ _ _ (rd_own O1.out) (by omega) h1 h2).mono ?_
  rintro e w2 ⟨rfl, hchg⟩
  have G2 := Lib.hid (G1.out.trans hchg); have Z2 := hchg.size
  have O1 := Lib.hid (own_chg0 O1.out hchg)
  clear hchg
  go_wp2_with fail
  refine (laws_toByteS _ xs A n c (rd_chg HX.out G2.out) (by omega)).mono ?_
  rintro e w3 ⟨A2, n2, c2, f2, rfl, hown, hfr, hchg⟩
  have S2 := Lib.hid (seg_of hfr hown)
  have G3 := Lib.hid (G2.out.trans hchg); have Z3 := hchg.size
  have B2 : n2 ≤ 2097152 := by have h := own_len hown; have h1 := HXL.out; (try simp at h); omega
  have O2 := Lib.hid hown
  clear hown hfr hchg
  go_wp2_with fail
  refine (impl_CheckSum _ v xs _ _ _ (rd_own O2.out) (by omega) h1 h2).mono ?_
  rintro e w4 ⟨rfl, hchg⟩
  have G4 := Lib.hid (G3.out.trans hchg); have Z4 := hchg.size
  have O2 := Lib.hid (own_chg0 O2.out hchg)
  clear hchg
  go_wp2_with fail
  refine (laws_toByteS _ xs A n c (rd_chg HX.out G4.out) (by omega)).mono ?_
  rintro e w5 ⟨A3, n3, c3, f3, rfl, hown, hfr, hchg⟩
  have S3 := Lib.hid (seg_of hfr hown)
  have G5 := Lib.hid (G4.out.trans hchg); have Z5 := hchg.size
  have O2 := Lib.hid (own_chg0 O2.out hchg)
  have B3 : n3 ≤ 2097152 := by have h := own_len hown; have h1 := HXL.out; (try simp at h); omega
  have O3 := Lib.hid hown
  clear hown hfr hchg
  go_wp2_with fail
  refine (laws_eqByteS_same _ xs _ _ _ _ _ _ (rd_own O2.out) (rd_own O3.out) (by omega) (by omega)).mono ?_
  rintro e w6 ⟨rfl, hchg⟩
  have G6 := Lib.hid (G5.out.trans hchg); have Z6 := hchg.size
  have O2 := Lib.hid (own_chg0 O2.out hchg)
  have O3 := Lib.hid (own_chg0 O3.out hchg)
  clear hchg
  go_wp2
  go_ret
  exact ⟨rfl, G6.out⟩
end Go.Proofs.Ytdifehhilgemjaa
