/-
  Walks of ReadLog, the program's and the reference's.
-/
import Derived.Test.YtgdpeehmjhahfaaAppL
namespace Go.Proofs.Ytgdpeehmjhahfaa
open Go.RowKit
open Go.Proofs

abbrev bytessC : Cod (List (List UInt8)) := sliceC 22 bytesC
theorem infoBytes : (Try.prog.info? 22).map (fun i => (i.zero, i.size, i.bytes)) = some (some (.slice none 0 0), 1, 24) := by kernel_rfl

/-- the entries of a log from a place on -/
def rlog (bs : List UInt8) : Nat → Nat → List (List UInt8) → List (List UInt8) × Nat
  | 0, p, acc => (acc, p)
  | f + 1, p, acc => match rdB bs p 4000 with
    | none => (acc, p)
    | some (d, nx) => match rdU bs nx with
      | none => (acc, p)
      | some (s, k) => if (s : Int) = checkV acc.length d then rlog bs f (nx + k) (acc ++ [d]) else (acc, p)
theorem rdB_some {bs : List UInt8} {off : Int} {most : Int} {d : List UInt8} {nx : Nat} (h : rdB bs off most = some (d, nx)) : off < (nx : Int) ∧ nx ≤ bs.length ∧ d.length ≤ most ∧ d.length ≤ bs.length := by
  unfold rdB at h
  split at h
  · cases h
  · rename_i v k hu
    split at h
    · rename_i hc
      obtain ⟨o, p, rfl, hp, hk, hpl, hv⟩ := rdU_some hu
      simp only [Option.some.injEq, Prod.mk.injEq, Int.toNat_natCast] at h hc
      obtain ⟨rfl, rfl⟩ := h
      simp only [List.length_take, List.length_drop]
      omega
    · cases h
theorem rlog_none {bs : List UInt8} {f p : Nat} {acc : List (List UInt8)} (h : rdB bs p 4000 = none) : rlog bs (f + 1) p acc = (acc, p) := by simp [rlog, h]
theorem rlog_none2 {bs : List UInt8} {f p nx : Nat} {acc : List (List UInt8)} {d : List UInt8} (h : rdB bs p 4000 = some (d, nx)) (hu : rdU bs nx = none) : rlog bs (f + 1) p acc = (acc, p) := by simp [rlog, h, hu]
theorem rlog_bad {bs : List UInt8} {f p nx s k : Nat} {acc : List (List UInt8)} {d : List UInt8} (h : rdB bs p 4000 = some (d, nx)) (hu : rdU bs nx = some (s, k)) (hs : ¬ (s : Int) = checkV acc.length d) : rlog bs (f + 1) p acc = (acc, p) := by simp [rlog, h, hu, hs]
theorem rlog_go {bs : List UInt8} {f p nx s k : Nat} {acc : List (List UInt8)} {d : List UInt8} (h : rdB bs p 4000 = some (d, nx)) (hu : rdU bs nx = some (s, k)) (hs : (s : Int) = checkV acc.length d) : rlog bs (f + 1) p acc = rlog bs f (nx + k) (acc ++ [d]) := by simp [rlog, h, hu, hs]
/-- a log read: its whole entries, and where they end -/
def rl (bs : List UInt8) : List (List UInt8) × Nat := rlog bs (bs.length + 1) 0 []

theorem rdB_end {bs : List UInt8} {p : Nat} {most : Int} (h : bs.length ≤ p) : rdB bs p most = none := by
  have hu : rdU bs p = none := if_neg (by omega)
  simp [rdB, hu]
set_option maxRecDepth 100000 in
set_option maxHeartbeats 1000000 in
theorem impl_ReadLog (w : World) (bs : List UInt8) (A : Option Addr) (n c : Nat) (hr : bytesC.Rd w w.heap.size bs [.slice A n c]) (hn : n ≤ 2097152) :
    Calls Try.prog 18 #[.slice A n c] w (RetT bytessC (rl bs).1 [.int .i64 ((rl bs).2 : Int)] w) := by
  have HN := Lib.hid (rds_len hr)
  have HR := Lib.hid hr
  clear hr
  go_enter Try.func18, Try.ntmps18
  go_wp2
  go_loopw [2, 3, 4, 5] (fun _ _ o a wr => ∃ (f p : Nat) (acc : List (List UInt8)) (A' : Option Addr) (no c' : Nat) (fp : List Nat), o = .slice A' no c' ∧ a = .int .i64 p ∧ p ≤ n ∧ n - p < f ∧ no ≤ p ∧ rl bs = rlog bs f p acc ∧ bytessC.Own wr acc [.slice A' no c'] fp ∧ Fresh w.heap.size fp ∧ Chg [] w wr) (fun _ _ _ a _ => n - (intOf a).toNat)
  case atStart => exact ⟨n + 1, 0, [], _, 0, 0, [w.heap.size], rfl, rfl, by omega, by omega, by omega, by rw [HN.out]; rfl, own_new rfl, ⟨by simp, by simp⟩, (Chg.refl _ _).alloc _⟩
  case round =>
    obtain ⟨f, p, acc, A', no, c', fp, rfl, rfl, hp, hf, hnp, heq, hown, hfr, hchg⟩ := hrel
    obtain ⟨f', rfl⟩ : ∃ f', f = f' + 1 := ⟨f - 1, by omega⟩
    have HE := Lib.hid heq
    have HO := Lib.hid hown
    have HF := Lib.hid hfr
    have HC := Lib.hid hchg
    have HL := Lib.hid (own_len hown)
    have hRB := impl_ReadBytes wr bs A n c p 4000 (rd_chg HR.out hchg) (by omega)
    clear heq hown hfr hchg
    cases hb : rdB bs p 4000 with
    | none =>
      rw [hb, show tailB none = [.int .i64 0, .bool false] from rfl] at hRB
      have HRB := Lib.hid hRB
      have HX := Lib.hid (HE.out.trans (rlog_none hb))
      clear hRB hb
      go_wp2_with fail
      refine (HRB.out).mono ?_
      rintro e w1 ⟨A1, n1, c1, f1, rfl, hown1, hfr1, hchg1⟩
      have HO1 := Lib.hid (own_chg0 HO.out hchg1)
      have HC1 := Lib.hid (HC.out.trans hchg1)
      clear hown1 hfr1 hchg1
      go_wp2_with fail
      go_ret2
      exact ⟨A', no, c', fp, by rw [HX.out]; rfl, by rw [HX.out]; exact HO1.out, HF.out, HC1.out⟩
    | some dn =>
      obtain ⟨d, nx⟩ := dn
      have hbd := rdB_some hb
      have hnx : p < nx ∧ nx ≤ n ∧ (d.length : Int) ≤ 4000 := by have := HN.out; omega
      obtain ⟨hx1, hx2, hx3⟩ := hnx
      rw [hb, show tailB (some (d, nx)) = [.int .i64 (nx : Int), .bool true] from rfl, show headB (some (d, nx)) = d from rfl] at hRB
      have HRB := Lib.hid hRB
      have HB := Lib.hid hb
      clear hRB hb hbd
      go_wp2_with fail
      refine (HRB.out).mono ?_
      rintro e w1 ⟨A1, n1, c1, f1, rfl, hown1, hfr1, hchg1⟩
      have HO1 := Lib.hid (own_chg0 HO.out hchg1)
      have HC1 := Lib.hid (HC.out.trans hchg1)
      have HD1 := Lib.hid hown1
      have HFD := Lib.hid hfr1
      have hn1 : n1 ≤ 4000 := by have := own_len hown1; omega
      have hz := hchg1.size
      have hUR := impl_ReadUvarint w1 bs A n c nx (rd_chg HR.out HC1.out) (by omega)
      clear hown1 hfr1 hchg1
      cases hu : rdU bs nx with
      | none =>
        rw [hu, show retU (nx : Int) none = .tuple #[.int .i64 0, .int .i64 0, .bool false] from rfl] at hUR
        have HUR := Lib.hid hUR
        have HX := Lib.hid (HE.out.trans (rlog_none2 HB.out hu))
        clear hUR hu
        go_wp2_with fail
        refine (HUR.out).mono ?_
        rintro e w2 ⟨rfl, rfl⟩
        go_wp2_with fail
        go_ret2
        exact ⟨A', no, c', fp, by rw [HX.out]; rfl, by rw [HX.out]; exact HO1.out, HF.out, HC1.out⟩
      | some sk =>
        obtain ⟨s, k⟩ := sk
        obtain ⟨o, q, ho, hq, hk, hql, hs⟩ := rdU_some hu
        have ho' : o = nx := by omega
        subst ho'
        have hqn : q ≤ n := by have := HN.out; omega
        rw [hu, show retU (o : Int) (some (s, k)) = .tuple #[.int .i64 (s : Int), .int .i64 (q : Int), .bool true] by rw [hq]; simp [retU]] at hUR
        have HUR := Lib.hid hUR
        have HQ := Lib.hid hq
        have HU := Lib.hid hu
        clear hUR hu hq ho hql
        go_wp2_with fail
        refine (HUR.out).mono ?_
        rintro e w2 ⟨rfl, rfl⟩
        go_wp2_with fail
        refine (impl_CheckSum _ no d A1 n1 c1 (rd_own HD1.out) (by omega) (by omega) (by omega)).mono ?_
        rintro e w3 ⟨rfl, hchg3⟩
        have HO3 := Lib.hid (own_chg0 HO1.out hchg3)
        have HC3 := Lib.hid (HC1.out.trans hchg3)
        have HD3 := Lib.hid (own_chg0 HD1.out hchg3)
        have hz3 := hchg3.size
        clear hchg3
        by_cases hsum : (s : Int) = checkV no d
        · have HX := Lib.hid (HE.out.trans (rlog_go (f := f') HB.out HU.out (by rw [← HL.out]; exact hsum)))
          have HND := Lib.hid (HF.out.append HFD.out (bytessC.own_lt HO.out) HC.out.size)
          go_wp2_with (first | (at_builtin; refine wpList_push bytesC _ rfl _ _ _ rfl 22 _ 24 Try.underlying31 infoBytes rfl A' no c' rfl acc fp (own_chg0 HO3.out ((Chg.refl _ _).alloc _)) (some ⟨w3.heap.size, 0, none⟩) 1 1 rfl [d] f1 [.slice A1 n1 c1] (RowRd.new _ _ 1 1 _ rfl rfl) (AllO.one (own_chg0 HD3.out ((Chg.refl _ _).alloc _))) rfl HND.out.1 (by simp only [maxLen]; omega) (by omega) ?_; intro A2 c2 w4 fp2 hown hnd hfp hchg; have H1 := Lib.hid hown; have H2 := Lib.hid ((HC3.out.alloc _).andThen hchg (fun x hx => .inr (HF.out.2 x hx))); have H3 := Lib.hid hfp; have H4 := Lib.hid hnd; clear hown hchg hfp hnd))
          go_roundw
          case rel =>
            refine ⟨f', q, acc ++ [d], A2, no + 1, c2, fp2, by go_num, by go_num, hqn, by have := HQ.out; omega, by have := HQ.out; omega, by rw [HX.out, HQ.out], H1.out, ⟨H4.out, fun x hx => ?_⟩, H2.out⟩
            rcases H3.out x hx with h | h | h
            · exact HND.out.2 x (by simp [h])
            · exact HND.out.2 x (by simp [h])
            · have := HC3.out.size; (try simp at h); omega
          case measure => have := HQ.out; simp [intOf]; omega
        · have HX := Lib.hid (HE.out.trans (rlog_bad HB.out HU.out (by rw [← HL.out]; exact hsum)))
          go_wp2_with fail
          go_ret2
          exact ⟨A', no, c', fp, by rw [HX.out]; rfl, by rw [HX.out]; exact HO3.out, HF.out, HC3.out⟩
set_option maxRecDepth 100000 in
set_option maxHeartbeats 1000000 in
theorem spec_ReadLog (w : World) (bs : List UInt8) (A : Option Addr) (n c : Nat) (hr : bytesC.Rd w w.heap.size bs [.slice A n c]) (hn : n ≤ 2097152) :
    Calls Try.prog 17 #[.slice A n c] w (RetT bytessC (rl bs).1 [.int .i64 ((rl bs).2 : Int)] w) := by
  have HN := Lib.hid (rds_len hr)
  have HR := Lib.hid hr
  clear hr
  go_enter Try.func17, Try.ntmps17
  go_wp2
  go_loopw [4, 5] (fun o a wr => ∃ (f p : Nat) (acc : List (List UInt8)) (A' : Option Addr) (no c' : Nat) (fp : List Nat), o = .slice A' no c' ∧ a = .int .i64 p ∧ p ≤ n ∧ n - p < f ∧ no ≤ p ∧ rl bs = rlog bs f p acc ∧ bytessC.Own wr acc [.slice A' no c'] fp ∧ Fresh w.heap.size fp ∧ Chg [] w wr) (fun _ a _ => n - (intOf a).toNat)
  case atStart => exact ⟨n + 1, 0, [], _, 0, 0, [w.heap.size], rfl, rfl, by omega, by omega, by omega, by rw [HN.out]; rfl, own_new rfl, ⟨by simp, by simp⟩, (Chg.refl _ _).alloc _⟩
  case round =>
    obtain ⟨f, p, acc, A', no, c', fp, rfl, rfl, hp, hf, hnp, heq, hown, hfr, hchg⟩ := hrel
    obtain ⟨f', rfl⟩ : ∃ f', f = f' + 1 := ⟨f - 1, by omega⟩
    have HE := Lib.hid heq
    have HO := Lib.hid hown
    have HF := Lib.hid hfr
    have HC := Lib.hid hchg
    have HL := Lib.hid (own_len hown)
    have hRB := spec_ReadBytes wr bs A n c p 4000 (rd_chg HR.out hchg) (by omega)
    clear heq hown hfr hchg
    by_cases hpn : n ≤ p
    · have HX := Lib.hid (HE.out.trans (rlog_none (rdB_end (by have := HN.out; omega))))
      clear hRB
      have hpn' : (n : Int) ≤ p := by omega
      go_wp2_with fail
      go_ret2
      exact ⟨A', no, c', fp, by rw [HX.out]; rfl, by rw [HX.out]; exact HO.out, HF.out, HC.out⟩
    have hpn' : (p : Int) < n := by omega
    clear hpn
    cases hb : rdB bs p 4000 with
    | none =>
      rw [hb, show tailB none = [.int .i64 0, .bool false] from rfl] at hRB
      have HRB := Lib.hid hRB
      have HX := Lib.hid (HE.out.trans (rlog_none hb))
      clear hRB hb
      go_wp2_with fail
      refine (HRB.out).mono ?_
      rintro e w1 ⟨A1, n1, c1, f1, rfl, hown1, hfr1, hchg1⟩
      have HO1 := Lib.hid (own_chg0 HO.out hchg1)
      have HC1 := Lib.hid (HC.out.trans hchg1)
      clear hown1 hfr1 hchg1
      go_wp2_with fail
      go_ret2
      exact ⟨A', no, c', fp, by rw [HX.out]; rfl, by rw [HX.out]; exact HO1.out, HF.out, HC1.out⟩
    | some dn =>
      obtain ⟨d, nx⟩ := dn
      have hbd := rdB_some hb
      have hnx : p < nx ∧ nx ≤ n ∧ (d.length : Int) ≤ 4000 := by have := HN.out; omega
      obtain ⟨hx1, hx2, hx3⟩ := hnx
      rw [hb, show tailB (some (d, nx)) = [.int .i64 (nx : Int), .bool true] from rfl, show headB (some (d, nx)) = d from rfl] at hRB
      have HRB := Lib.hid hRB
      have HB := Lib.hid hb
      clear hRB hb hbd
      go_wp2_with fail
      refine (HRB.out).mono ?_
      rintro e w1 ⟨A1, n1, c1, f1, rfl, hown1, hfr1, hchg1⟩
      have HO1 := Lib.hid (own_chg0 HO.out hchg1)
      have HC1 := Lib.hid (HC.out.trans hchg1)
      have HD1 := Lib.hid hown1
      have HFD := Lib.hid hfr1
      have hn1 : n1 ≤ 4000 := by have := own_len hown1; omega
      have hz := hchg1.size
      have hUR := spec_ReadUvarint w1 bs A n c nx (rd_chg HR.out HC1.out) (by omega)
      clear hown1 hfr1 hchg1
      cases hu : rdU bs nx with
      | none =>
        rw [hu, show retU (nx : Int) none = .tuple #[.int .i64 0, .int .i64 0, .bool false] from rfl] at hUR
        have HUR := Lib.hid hUR
        have HX := Lib.hid (HE.out.trans (rlog_none2 HB.out hu))
        clear hUR hu
        go_wp2_with fail
        refine (HUR.out).mono ?_
        rintro e w2 ⟨rfl, rfl⟩
        go_wp2_with fail
        go_ret2
        exact ⟨A', no, c', fp, by rw [HX.out]; rfl, by rw [HX.out]; exact HO1.out, HF.out, HC1.out⟩
      | some sk =>
        obtain ⟨s, k⟩ := sk
        obtain ⟨o, q, ho, hq, hk, hql, hs⟩ := rdU_some hu
        have ho' : o = nx := by omega
        subst ho'
        have hqn : q ≤ n := by have := HN.out; omega
        rw [hu, show retU (o : Int) (some (s, k)) = .tuple #[.int .i64 (s : Int), .int .i64 (q : Int), .bool true] by rw [hq]; simp [retU]] at hUR
        have HUR := Lib.hid hUR
        have HQ := Lib.hid hq
        have HU := Lib.hid hu
        clear hUR hu hq ho hql
        go_wp2_with fail
        refine (HUR.out).mono ?_
        rintro e w2 ⟨rfl, rfl⟩
        go_wp2_with fail
        refine (spec_CheckSum _ no d A1 n1 c1 (rd_own HD1.out) (by omega) (by omega) (by omega)).mono ?_
        rintro e w3 ⟨rfl, hchg3⟩
        have HO3 := Lib.hid (own_chg0 HO1.out hchg3)
        have HC3 := Lib.hid (HC1.out.trans hchg3)
        have HD3 := Lib.hid (own_chg0 HD1.out hchg3)
        have hz3 := hchg3.size
        clear hchg3
        by_cases hsum : (s : Int) = checkV no d
        · have HX := Lib.hid (HE.out.trans (rlog_go (f := f') HB.out HU.out (by rw [← HL.out]; exact hsum)))
          have HND := Lib.hid (HF.out.append HFD.out (bytessC.own_lt HO.out) HC.out.size)
          go_wp2_with (first | (at_builtin; refine wpList_push bytesC _ rfl _ _ _ rfl 22 _ 24 Try.underlying31 infoBytes rfl A' no c' rfl acc fp (own_chg0 HO3.out ((Chg.refl _ _).alloc _)) (some ⟨w3.heap.size, 0, none⟩) 1 1 rfl [d] f1 [.slice A1 n1 c1] (RowRd.new _ _ 1 1 _ rfl rfl) (AllO.one (own_chg0 HD3.out ((Chg.refl _ _).alloc _))) rfl HND.out.1 (by simp only [maxLen]; omega) (by omega) ?_; intro A2 c2 w4 fp2 hown hnd hfp hchg; have H1 := Lib.hid hown; have H2 := Lib.hid ((HC3.out.alloc _).andThen hchg (fun x hx => .inr (HF.out.2 x hx))); have H3 := Lib.hid hfp; have H4 := Lib.hid hnd; clear hown hchg hfp hnd))
          go_roundw
          case rel =>
            refine ⟨f', q, acc ++ [d], A2, no + 1, c2, fp2, by go_num, by go_num, hqn, by have := HQ.out; omega, by have := HQ.out; omega, by rw [HX.out, HQ.out], H1.out, ⟨H4.out, fun x hx => ?_⟩, H2.out⟩
            rcases H3.out x hx with h | h | h
            · exact HND.out.2 x (by simp [h])
            · exact HND.out.2 x (by simp [h])
            · have := HC3.out.size; (try simp at h); omega
          case measure => have := HQ.out; simp [intOf]; omega
        · have HX := Lib.hid (HE.out.trans (rlog_bad HB.out HU.out (by rw [← HL.out]; exact hsum)))
          go_wp2_with fail
          go_ret2
          exact ⟨A', no, c', fp, by rw [HX.out]; rfl, by rw [HX.out]; exact HO3.out, HF.out, HC3.out⟩
end Go.Proofs.Ytgdpeehmjhahfaa
