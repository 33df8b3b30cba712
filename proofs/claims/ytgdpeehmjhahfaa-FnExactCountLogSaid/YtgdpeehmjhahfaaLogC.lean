/-
  Walks of CountLog and RepairLog, the program's and the reference's.
-/
import Derived.Test.YtgdpeehmjhahfaaLog
namespace Go.Proofs.Ytgdpeehmjhahfaa
open Go.RowKit
open Go.Proofs

set_option maxRecDepth 100000 in
theorem impl_CountLog (w : World) (bs : List UInt8) (A : Option Addr) (n c : Nat) (hr : bytesC.Rd w w.heap.size bs [.slice A n c]) (hn : n ≤ 2097152) :
    Calls Try.prog 14 #[.slice A n c] w (Ret (.int .i64 ((rl bs).1.length : Int)) w) := by
  have HR := Lib.hid hr
  clear hr
  go_enter Try.func14, Try.ntmps14
  go_wp2_with fail
  refine (impl_ReadLog _ bs A n c HR.out hn).mono ?_
  rintro e w1 ⟨A1, n1, c1, f1, rfl, hown, hfr, hchg⟩
  have HL := Lib.hid (own_len hown)
  have HC := Lib.hid hchg
  clear hown hfr hchg
  go_wp2_with fail
  go_ret
  exact ⟨by rw [← HL.out]; rfl, HC.out⟩
set_option maxRecDepth 100000 in
theorem spec_CountLog (w : World) (bs : List UInt8) (A : Option Addr) (n c : Nat) (hr : bytesC.Rd w w.heap.size bs [.slice A n c]) (hn : n ≤ 2097152) :
    Calls Try.prog 13 #[.slice A n c] w (Ret (.int .i64 ((rl bs).1.length : Int)) w) := by
  have HR := Lib.hid hr
  clear hr
  go_enter Try.func13, Try.ntmps13
  go_wp2_with fail
  refine (spec_ReadLog _ bs A n c HR.out hn).mono ?_
  rintro e w1 ⟨A1, n1, c1, f1, rfl, hown, hfr, hchg⟩
  have HL := Lib.hid (own_len hown)
  have HC := Lib.hid hchg
  clear hown hfr hchg
  go_wp2_with fail
  go_ret
  exact ⟨by rw [← HL.out]; rfl, HC.out⟩

theorem rlog_le (bs : List UInt8) : ∀ (f p : Nat) (acc : List (List UInt8)), p ≤ bs.length → (rlog bs f p acc).2 ≤ bs.length
  | 0, p, acc, h => h
  | f + 1, p, acc, h => by
    cases hb : rdB bs p 4000 with
    | none => rw [rlog_none hb]; exact h
    | some dn =>
      obtain ⟨d, nx⟩ := dn
      cases hu : rdU bs nx with
      | none => rw [rlog_none2 hb hu]; exact h
      | some sk =>
        obtain ⟨s, k⟩ := sk
        by_cases hs : (s : Int) = checkV acc.length d
        · rw [rlog_go hb hu hs]
          obtain ⟨o, p', ho, hp, hk, hpl, hv⟩ := rdU_some hu
          exact rlog_le bs f _ _ (by omega)
        · rw [rlog_bad hb hu hs]; exact h
theorem rl_le (bs : List UInt8) : (rl bs).2 ≤ bs.length := rlog_le bs _ 0 [] (by omega)

set_option maxRecDepth 100000 in
theorem impl_RepairLog (w : World) (bs : List UInt8) (A : Option Addr) (n c : Nat) (hr : bytesC.Rd w w.heap.size bs [.slice A n c]) (hn : n ≤ 2097152) :
    Calls Try.prog 16 #[.slice A n c] w (RetV bytesC (bs.take (rl bs).2) w) := by
  have hp := rl_le bs
  have hRL := impl_ReadLog w bs A n c hr hn
  have hl := rds_len hr
  obtain ⟨p, hp0⟩ : ∃ p, (rl bs).2 = p := ⟨_, rfl⟩
  rw [hp0] at hRL hp
  rw [hp0]
  have hcn := (rd_row hr).2.1
  have hpn : p ≤ n := by omega
  have HRL := Lib.hid hRL
  have HT := Lib.hid (rd_take hr p hpn)
  clear hr hRL hl hp
  go_enter Try.func16, Try.ntmps16
  go_wp2_with fail
  refine (HRL.out).mono ?_
  rintro e w1 ⟨A1, n1, c1, f1, rfl, hown, hfr, hchg⟩
  have HC := Lib.hid hchg
  clear hown hfr hchg
  go_wp2_with fail
  refine (impl_copyBytes _ (bs.take p) A p c (rd_chg HT.out HC.out) (by omega)).mono ?_
  rintro e w2 ⟨A2, n2, c2, f2, rfl, hown, hfr, hchg⟩
  have HO2 := Lib.hid hown
  have HF2 := Lib.hid (hfr.mono HC.out.size)
  have HC2 := Lib.hid (HC.out.trans hchg)
  clear hown hfr hchg
  go_wp2_with fail
  go_ret
  exact ⟨A2, n2, c2, f2, rfl, HO2.out, HF2.out, HC2.out⟩

set_option maxRecDepth 100000 in
theorem spec_RepairLog (w : World) (bs : List UInt8) (A : Option Addr) (n c : Nat) (hr : bytesC.Rd w w.heap.size bs [.slice A n c]) (hn : n ≤ 2097152) :
    Calls Try.prog 15 #[.slice A n c] w (RetV bytesC (bs.take (rl bs).2) w) := by
  have hp := rl_le bs
  have hRL := spec_ReadLog w bs A n c hr hn
  have hl := rds_len hr
  obtain ⟨p, hp0⟩ : ∃ p, (rl bs).2 = p := ⟨_, rfl⟩
  rw [hp0] at hRL hp
  rw [hp0]
  have hcn := (rd_row hr).2.1
  have hpn : p ≤ n := by omega
  have HRL := Lib.hid hRL
  have HT := Lib.hid (rd_take hr p hpn)
  clear hr hRL hl hp
  go_enter Try.func15, Try.ntmps15
  go_wp2_with fail
  refine (HRL.out).mono ?_
  rintro e w1 ⟨A1, n1, c1, f1, rfl, hown, hfr, hchg⟩
  have HC := Lib.hid hchg
  clear hown hfr hchg
  go_wp2_with (first | (at_builtin; refine wpList_bytes w1 _ rfl _ _ rfl _ 0 0 rfl [] [w1.heap.size] (own_new (by simp)) (by simp) A p c rfl (bs.take p) ((Chg.refl _ _).alloc _) (rd_chg HT.out HC.out) (by omega) ?_; intro A2 c2 w2 fp hown hnd hfp hchg; simp only [Nat.zero_add, List.nil_append] at hown; have HO2 := Lib.hid hown; have HC2 := Lib.hid (HC.out.trans (((Chg.refl [] w1).alloc _).andThen hchg (by simp))); have HF2 := Lib.hid ((fresh0 hnd hfp).mono HC.out.size); clear hown hfp hchg))
  go_ret
  exact ⟨A2, _, c2, fp, rfl, HO2.out, HF2.out, HC2.out⟩
end Go.Proofs.Ytgdpeehmjhahfaa
