/-
  Walks of AppendLog, the program's and the reference's.
-/
import Derived.Test.YtgdpeehmjhahfaaReadB
import Derived.Test.YtgdpeehmjhahfaaHash
namespace Go.Proofs.Ytgdpeehmjhahfaa
open Go.RowKit
open Go.Proofs

/-- a log with one more entry, whatever its length -/
def logOut (bs : List UInt8) (v : Int) (ds : List UInt8) : List UInt8 := appU (appB bs ds) (checkV v ds)
def alBad (bs : List UInt8) (v : Int) (ds : List UInt8) : Prop := v < 0 ∨ 4000 < (logOut bs v ds).length
instance (bs : List UInt8) (v : Int) (ds : List UInt8) : Decidable (alBad bs v ds) := by unfold alBad; infer_instance
def alHead (bs : List UInt8) (v : Int) (ds : List UInt8) : List UInt8 := if alBad bs v ds then bs else logOut bs v ds
def alTail (bs : List UInt8) (v : Int) (ds : List UInt8) : List Value := if alBad bs v ds then [.bool false] else [.bool true]
theorem appB_len (bs ds : List UInt8) : (appB bs ds).length ≤ bs.length + ds.length + 6 := by
  have h := appU_len bs ds.length
  unfold appB
  simp only [List.length_append]
  omega

set_option maxRecDepth 100000 in
set_option maxHeartbeats 1000000 in
theorem impl_AppendLog (w : World) (bs ds : List UInt8) (v : Int) (A : Option Addr) (n c : Nat) (B : Option Addr) (m d : Nat) (hr : bytesC.Rd w w.heap.size bs [.slice A n c]) (hd : bytesC.Rd w w.heap.size ds [.slice B m d])
    (hn : n ≤ 2097152) (hm : m ≤ 2097152) (h1 : -9223372036854775808 ≤ v) (h2 : v ≤ 9223372036854775807) :
    Calls Try.prog 9 #[.slice A n c, .int .i64 v, .slice B m d] w (RetT bytesC (alHead bs v ds) (alTail bs v ds) w) := by
  have HN := Lib.hid (rds_len hr)
  have HM := Lib.hid (rds_len hd)
  have HR := Lib.hid hr
  have HD := Lib.hid hd
  clear hr hd
  go_enter Try.func9, Try.ntmps9
  go_wp2_with fail
  refine (impl_AppendBytes _ bs ds A n c B m d HR.out HD.out (by omega) (by omega)).mono ?_
  rintro e w1 ⟨A1, n1, c1, f1, rfl, hown, hfr, hchg⟩
  have hn1 : n1 ≤ 8388608 := by have h := own_len hown; have h2 := appB_len bs ds; have h3 := HN.out; have h4 := HM.out; omega
  have HO1 := Lib.hid hown
  have HF1 := Lib.hid hfr
  have HC1 := Lib.hid hchg
  clear hown hfr hchg
  go_wp2_with fail
  refine (impl_CheckSum _ v ds B m d (rd_chg HD.out HC1.out) (by omega) h1 h2).mono ?_
  rintro e w2 ⟨rfl, hchg⟩
  have HC2 := Lib.hid (HC1.out.trans hchg)
  have HO2 := Lib.hid (own_chg0 HO1.out hchg)
  have hck := hash_range ([101, v] ++ b2i ds.length ds)
  have HK := Lib.hid (show 0 ≤ checkV v ds ∧ checkV v ds < 2147483647 from hck)
  clear hchg hck
  go_wp2_with fail
  refine (impl_AppendUvarint _ (appB bs ds) A1 n1 c1 (checkV v ds) (rd_own HO2.out) (by omega)).mono ?_
  rintro e w3 ⟨A3, n3, c3, f3, rfl, hown, hfr, hchg⟩
  have HL3 := Lib.hid (own_len hown)
  have HO3 := Lib.hid (show bytesC.Own w3 (logOut bs v ds) [.slice A3 n3 c3] f3 from hown)
  have HF3 := Lib.hid (hfr.mono HC2.out.size)
  have HC3 := Lib.hid (HC2.out.trans hchg)
  clear hown hfr hchg
  rcases (show v < 0 ∨ (0 ≤ v ∧ 4000 < (n3 : Int)) ∨ (0 ≤ v ∧ (n3 : Int) ≤ 4000) by omega) with g1 | ⟨g1, g2⟩ | ⟨g1, g2⟩
  · have HB := Lib.hid (show alBad bs v ds from .inl g1)
    go_wp2_with fail
    refine (impl_copyBytes _ bs A n c (rd_chg HR.out HC3.out) (by omega)).mono ?_
    rintro e w4 ⟨A4, n4, c4, f4, rfl, hown, hfr, hchg⟩
    have HO4 := Lib.hid hown
    have HF4 := Lib.hid (hfr.mono HC3.out.size)
    have HC4 := Lib.hid (HC3.out.trans hchg)
    clear hown hfr hchg
    go_wp2_with fail
    go_ret2
    exact ⟨A4, n4, c4, f4, by rw [alTail, if_pos HB.out]; rfl, by rw [alHead, if_pos HB.out]; exact HO4.out, HF4.out, HC4.out⟩
  · have HB := Lib.hid (show alBad bs v ds from .inr (by have h := HL3.out; have h2 : (appU (appB bs ds) (checkV v ds)).length = (logOut bs v ds).length := rfl; omega))
    go_wp2_with fail
    refine (impl_copyBytes _ bs A n c (rd_chg HR.out HC3.out) (by omega)).mono ?_
    rintro e w4 ⟨A4, n4, c4, f4, rfl, hown, hfr, hchg⟩
    have HO4 := Lib.hid hown
    have HF4 := Lib.hid (hfr.mono HC3.out.size)
    have HC4 := Lib.hid (HC3.out.trans hchg)
    clear hown hfr hchg
    go_wp2_with fail
    go_ret2
    exact ⟨A4, n4, c4, f4, by rw [alTail, if_pos HB.out]; rfl, by rw [alHead, if_pos HB.out]; exact HO4.out, HF4.out, HC4.out⟩
  · have HB := Lib.hid (show ¬ alBad bs v ds by unfold alBad; have h := HL3.out; have h2 : (appU (appB bs ds) (checkV v ds)).length = (logOut bs v ds).length := rfl; omega)
    go_wp2_with fail
    go_ret2
    exact ⟨A3, n3, c3, f3, by rw [alTail, if_neg HB.out]; rfl, by rw [alHead, if_neg HB.out]; exact HO3.out, HF3.out, HC3.out⟩

set_option maxRecDepth 100000 in
set_option maxHeartbeats 1000000 in
theorem spec_AppendLog (w : World) (bs ds : List UInt8) (v : Int) (A : Option Addr) (n c : Nat) (B : Option Addr) (m d : Nat) (hr : bytesC.Rd w w.heap.size bs [.slice A n c]) (hd : bytesC.Rd w w.heap.size ds [.slice B m d])
    (hn : n ≤ 2097152) (hm : m ≤ 2097152) (h1 : -9223372036854775808 ≤ v) (h2 : v ≤ 9223372036854775807) :
    Calls Try.prog 7 #[.slice A n c, .int .i64 v, .slice B m d] w (RetT bytesC (alHead bs v ds) (alTail bs v ds) w) := by
  have HN := Lib.hid (rds_len hr)
  have HM := Lib.hid (rds_len hd)
  have HR := Lib.hid hr
  have HD := Lib.hid hd
  clear hr hd
  go_enter Try.func7, Try.ntmps7
  go_wp2_with (first | (at_builtin; refine wpList_bytes w _ rfl _ _ rfl _ 0 0 rfl [] [w.heap.size] (own_new (by simp)) (by simp) A n c rfl bs ((Chg.refl _ _).alloc _) HR.out (by omega) ?_; intro A0 c0 w0 f0 hown hnd hfp hchg; simp only [Nat.zero_add, List.nil_append] at hown; have HO := Lib.hid hown; have HC := Lib.hid (((Chg.refl [] w).alloc _).andThen hchg (by simp)); have HF := Lib.hid (fresh0 hnd hfp); clear hown hfp hchg))
  refine (spec_AppendBytes _ bs ds A0 n c0 B m d (rd_own HO.out) (rd_chg HD.out HC.out) (by omega) (by omega)).mono ?_
  rintro e w1 ⟨A1, n1, c1, f1, rfl, hown, hfr, hchg⟩
  have hn1 : n1 ≤ 8388608 := by have h := own_len hown; have h2 := appB_len bs ds; have h3 := HN.out; have h4 := HM.out; omega
  have HO1 := Lib.hid hown
  have HA1 := Lib.hid (own_chg0 HO.out hchg)
  have HC1 := Lib.hid (HC.out.trans hchg)
  clear hown hfr hchg
  go_wp2_with fail
  refine (spec_CheckSum _ v ds B m d (rd_chg HD.out HC1.out) (by omega) h1 h2).mono ?_
  rintro e w2 ⟨rfl, hchg⟩
  have HC2 := Lib.hid (HC1.out.trans hchg)
  have HO2 := Lib.hid (own_chg0 HO1.out hchg)
  have HA2 := Lib.hid (own_chg0 HA1.out hchg)
  have hck := hash_range ([101, v] ++ b2i ds.length ds)
  have HK := Lib.hid (show 0 ≤ checkV v ds ∧ checkV v ds < 2147483647 from hck)
  clear hchg hck
  go_wp2_with fail
  refine (spec_AppendUvarint _ (appB bs ds) A1 n1 c1 (checkV v ds) (rd_own HO2.out) (by omega)).mono ?_
  rintro e w3 ⟨A3, n3, c3, f3, rfl, hown, hfr, hchg⟩
  have HL3 := Lib.hid (own_len hown)
  have HO3 := Lib.hid (show bytesC.Own w3 (logOut bs v ds) [.slice A3 n3 c3] f3 from hown)
  have HA3 := Lib.hid (own_chg0 HA2.out hchg)
  have HF3 := Lib.hid (hfr.mono HC2.out.size)
  have HC3 := Lib.hid (HC2.out.trans hchg)
  clear hown hfr hchg
  rcases (show v < 0 ∨ (0 ≤ v ∧ 4000 < (n3 : Int)) ∨ (0 ≤ v ∧ (n3 : Int) ≤ 4000) by omega) with g1 | ⟨g1, g2⟩ | ⟨g1, g2⟩
  · have HB := Lib.hid (show alBad bs v ds from .inl g1)
    go_wp2_with fail
    go_ret2
    exact ⟨A0, n, c0, f0, by rw [alTail, if_pos HB.out]; rfl, by rw [alHead, if_pos HB.out]; exact HA3.out, HF.out, HC3.out⟩
  · have HB := Lib.hid (show alBad bs v ds from .inr (by have h := HL3.out; have h2 : (appU (appB bs ds) (checkV v ds)).length = (logOut bs v ds).length := rfl; omega))
    go_wp2_with fail
    go_ret2
    exact ⟨A0, n, c0, f0, by rw [alTail, if_pos HB.out]; rfl, by rw [alHead, if_pos HB.out]; exact HA3.out, HF.out, HC3.out⟩
  · have HB := Lib.hid (show ¬ alBad bs v ds by unfold alBad; have h := HL3.out; have h2 : (appU (appB bs ds) (checkV v ds)).length = (logOut bs v ds).length := rfl; omega)
    go_wp2_with fail
    go_ret2
    exact ⟨A3, n3, c3, f3, by rw [alTail, if_neg HB.out]; rfl, by rw [alHead, if_neg HB.out]; exact HO3.out, HF3.out, HC3.out⟩
end Go.Proofs.Ytgdpeehmjhahfaa
