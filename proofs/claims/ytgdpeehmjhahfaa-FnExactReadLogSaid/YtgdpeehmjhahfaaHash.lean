/-
  Walks of Mod, Hash, BytesToInts and CheckSum, the program's and the reference's.
-/
import Derived.Test.YtgdpeehmjhahfaaCopy
namespace Go.Proofs.Ytgdpeehmjhahfaa
open Go.RowKit
open Go.Proofs

abbrev intsC : Cod (List Int) := sliceC 3 intC
def hstep (acc v : Int) : Int := (acc * 1000003 + v % 2147483647 + 13) % 2147483647
def hashL (l : List Int) : Int := l.foldl hstep 11
theorem hstep_bd (acc v : Int) : 0 ≤ hstep acc v ∧ hstep acc v < 2147483647 := by unfold hstep; omega
theorem hash_bd (l : List Int) : ∀ acc : Int, 0 ≤ acc → acc < 2147483647 → 0 ≤ l.foldl hstep acc ∧ l.foldl hstep acc < 2147483647 := by
  induction l with
  | nil => intro acc h1 h2; exact ⟨h1, h2⟩
  | cons v l ih => intro acc _ _; exact ih _ (hstep_bd acc v).1 (hstep_bd acc v).2
theorem hash_range (l : List Int) : 0 ≤ hashL l ∧ hashL l < 2147483647 := hash_bd l 11 (by decide) (by decide)
theorem hash_snoc (l : List Int) (v : Int) : hashL (l ++ [v]) = hstep (hashL l) v := by simp [hashL]

theorem infoInt : (Try.prog.info? 3).map (fun i => (i.zero, i.size, i.bytes)) = some (some (.int .i64 0), 1, 8) := by kernel_rfl
/-- one integer of a slice that reads -/
theorem int_at {w : World} {B : Nat} {bs : List Int} {A : Option Addr} {n c k : Nat} (h : intsC.Rd w B bs [.slice A n c]) (hk : k < n) :
    ∃ b off v, A = some ⟨b, off, none⟩ ∧ b < B ∧ bs[k]? = some v ∧ w.cell? ⟨b, off + k, none⟩ = some (.int .i64 v) ∧ -9223372036854775808 ≤ v ∧ v ≤ 9223372036854775807 := by
  have hl : k < bs.length := by rw [← rds_len h]; exact hk
  obtain ⟨b, off, ci, rfl, hb, hr, hc⟩ := rd_at h (List.getElem?_eq_getElem hl)
  obtain ⟨rfl, h1, h2⟩ := hr
  have := hc 0 _ rfl
  simp only [intC, Nat.mul_one, Nat.add_zero] at this
  exact ⟨b, off, bs[k], rfl, hb, List.getElem?_eq_getElem hl, this, h1, h2⟩

theorem tmod_fix (v : Int) (h : v < 0) : (v.tmod 2147483647 < 0 ∧ v.tmod 2147483647 + 2147483647 = v % 2147483647) ∨ (v.tmod 2147483647 = 0 ∧ v % 2147483647 = 0) := by
  have h1 : v.tmod 2147483647 = - ((-v) % 2147483647) := by
    have := Int.tmod_eq_emod_of_nonneg (a := -v) (b := 2147483647) (by omega)
    rw [Int.neg_tmod] at this
    omega
  rw [h1]; omega

set_option maxHeartbeats 400000 in
theorem impl_Mod (w : World) (v : Int) (h1 : -9223372036854775808 ≤ v) (h2 : v ≤ 9223372036854775807) :
    Calls Try.prog 40 #[.int .i64 v, .int .i64 2147483647] w (fun e w' => e = .returned (.int .i64 (v % 2147483647)) ∧ w = w') := by
  by_cases hv : 0 ≤ v
  · have h3 : 0 ≤ v % 2147483647 ∧ v % 2147483647 < 2147483647 := by omega
    obtain ⟨h4, h5⟩ := h3
    go_enter Try.func40, Try.ntmps40
    go_wp2
    go_ret
    exact ⟨rfl, rfl⟩
  · have hv' : v < 0 := by omega
    rcases tmod_fix v hv' with ⟨g1, g2⟩ | ⟨g1, g2⟩
    · have g3 : -2147483647 ≤ v.tmod 2147483647 := by omega
      have HG := Lib.hid g2
      clear g2
      go_enter Try.func40, Try.ntmps40
      go_wp2
      go_ret
      exact ⟨ret_i64 (by rw [← HG.out]), rfl⟩
    · have HG := Lib.hid g2
      have g3 : (v.tmod 2147483647) ≤ 0 ∧ 0 ≤ v.tmod 2147483647 := by omega
      obtain ⟨g4, g5⟩ := g3
      have HG1 := Lib.hid g1
      clear g2 g1
      go_enter Try.func40, Try.ntmps40
      go_wp2
      go_ret
      exact ⟨ret_i64 (by rw [HG.out, HG1.out]), rfl⟩
set_option maxHeartbeats 400000 in
theorem spec_Mod (w : World) (v : Int) (h1 : -9223372036854775808 ≤ v) (h2 : v ≤ 9223372036854775807) :
    Calls Try.prog 39 #[.int .i64 v, .int .i64 2147483647] w (fun e w' => e = .returned (.int .i64 (v % 2147483647)) ∧ w = w') := by
  by_cases hv : 0 ≤ v
  · have h3 : 0 ≤ v % 2147483647 ∧ v % 2147483647 < 2147483647 := by omega
    obtain ⟨h4, h5⟩ := h3
    go_enter Try.func39, Try.ntmps39
    go_wp2
    go_ret
    exact ⟨ret_i64 (by omega), rfl⟩
  · have hv' : v < 0 := by omega
    rcases tmod_fix v hv' with ⟨g1, g2⟩ | ⟨g1, g2⟩
    · have g3 : -2147483647 ≤ v.tmod 2147483647 := by omega
      have g4 : 0 ≤ v.tmod 2147483647 + 2147483647 := by omega
      have HG := Lib.hid g2
      clear g2
      go_enter Try.func39, Try.ntmps39
      go_wp2
      go_ret
      exact ⟨ret_i64 (by have := HG.out; omega), rfl⟩
    · have HG := Lib.hid g2
      have g3 : (v.tmod 2147483647) ≤ 0 ∧ 0 ≤ v.tmod 2147483647 := by omega
      obtain ⟨g4, g5⟩ := g3
      have HG1 := Lib.hid g1
      clear g2 g1
      go_enter Try.func39, Try.ntmps39
      go_wp2
      go_ret
      exact ⟨ret_i64 (by rw [HG.out, HG1.out]; rfl), rfl⟩

theorem take_snoc {α : Type} (l : List α) (k : Nat) (v : α) (h : l[k]? = some v) : l.take (k + 1) = l.take k ++ [v] := by
  rw [List.take_add_one, h]; rfl

set_option maxHeartbeats 400000 in
theorem impl_Hash (w : World) (l : List Int) (A : Option Addr) (n c : Nat) (hr : intsC.Rd w w.heap.size l [.slice A n c]) (hn : n ≤ 1073741824) :
    Calls Try.prog 37 #[.slice A n c] w (fun e w' => e = .returned (.int .i64 (hashL l)) ∧ w = w') := by
  have HR := Lib.hid hr
  have HN := Lib.hid (rds_len hr)
  clear hr
  go_enter Try.func37, Try.ntmps37
  go_wp2
  go_loop [3, 8] (fun a i => ∃ k : Nat, k ≤ n ∧ i = .int .i64 k ∧ a = .int .i64 (hashL (l.take k))) (fun _ i => n - (intOf i).toNat)
  case atStart => exact ⟨0, Nat.zero_le _, rfl, rfl⟩
  case round =>
    obtain ⟨k, hk, rfl, rfl⟩ := hrel
    have hb := hash_range (l.take k)
    obtain ⟨hb1, hb2⟩ := hb
    by_cases hlt : k < n
    · obtain ⟨b, off, v, rfl, hb, hv, hc, hv1, hv2⟩ := int_at HR.out hlt
      have HV := Lib.hid hv
      have HS := Lib.hid ((congrArg hashL (take_snoc l k v hv)).trans (hash_snoc _ v))
      clear hv
      go_wp2_with (first | (go_at_call 40; refine (impl_Mod _ v hv1 hv2).mono ?_; rintro e w' ⟨rfl, rfl⟩))
      go_round
      case rel => exact ⟨k + 1, by omega, by go_num, by rw [HS.out]; unfold hstep; first | rfl | go_num⟩
      case measure => simp [intOf]; omega
    · obtain rfl : k = n := by omega
      go_wp2
      go_ret
      exact ⟨ret_i64 (by rw [List.take_of_length_le (by rw [← HN.out]; omega)]), rfl⟩
set_option maxHeartbeats 400000 in
theorem spec_Hash (w : World) (l : List Int) (A : Option Addr) (n c : Nat) (hr : intsC.Rd w w.heap.size l [.slice A n c]) (hn : n ≤ 1073741824) :
    Calls Try.prog 34 #[.slice A n c] w (fun e w' => e = .returned (.int .i64 (hashL l)) ∧ w = w') := by
  have HR := Lib.hid hr
  have HN := Lib.hid (rds_len hr)
  clear hr
  go_enter Try.func34, Try.ntmps34
  go_wp2
  go_loop [3, 4] (fun a i => ∃ k : Nat, k ≤ n ∧ i = .int .i64 k ∧ a = .int .i64 (hashL (l.take k))) (fun _ i => n - (intOf i).toNat)
  case atStart => exact ⟨0, Nat.zero_le _, rfl, rfl⟩
  case round =>
    obtain ⟨k, hk, rfl, rfl⟩ := hrel
    have hb := hash_range (l.take k)
    obtain ⟨hb1, hb2⟩ := hb
    by_cases hlt : k < n
    · obtain ⟨b, off, v, rfl, hb, hv, hc, hv1, hv2⟩ := int_at HR.out hlt
      have HV := Lib.hid hv
      have HS := Lib.hid ((congrArg hashL (take_snoc l k v hv)).trans (hash_snoc _ v))
      clear hv
      go_wp2_with (first | (go_at_call 39; refine (spec_Mod _ v hv1 hv2).mono ?_; rintro e w' ⟨rfl, rfl⟩))
      go_round
      case rel => exact ⟨k + 1, by omega, by go_num, by rw [HS.out]; unfold hstep; first | rfl | go_num⟩
      case measure => simp [intOf]; omega
    · obtain rfl : k = n := by omega
      go_wp2
      go_ret
      exact ⟨ret_i64 (by rw [List.take_of_length_le (by rw [← HN.out]; omega)]), rfl⟩
def b2i (n : Nat) (l : List UInt8) : List Int := (n : Int) :: l.map (fun b => (b.toNat : Int))
theorem b2i_snoc (n : Nat) (l : List UInt8) (b : UInt8) : b2i n (l ++ [b]) = b2i n l ++ [(b.toNat : Int)] := by simp [b2i]
/-- one integer, owned -/
theorem one_int {w : World} {v : Int} (h1 : -9223372036854775808 ≤ v) (h2 : v ≤ 9223372036854775807) : AllO (intC.Own w) [v] [.int .i64 v] [] := AllO.one ⟨rfl, rfl, h1, h2⟩
theorem own_ints1 {w : World} {v : Int} {k : Nat} (hk : k = w.heap.size) (h1 : -9223372036854775808 ≤ v) (h2 : v ≤ 9223372036854775807) :
    intsC.Own (w.alloc (.cells #[.int .i64 v] 3)) [v] [.slice (some ⟨k, 0, none⟩) 1 1] [k] :=
  own_mk (C := intC) (xs := [v]) (cells := [.int .i64 v]) (spare := []) (heap_alloc_eq hk) (one_int h1 h2) (by simp) (by simp [maxLen]) (by simp [intC])

set_option maxHeartbeats 400000 in
theorem impl_BytesToInts (w : World) (bs : List UInt8) (A : Option Addr) (n c : Nat) (hr : bytesC.Rd w w.heap.size bs [.slice A n c]) (hn : n ≤ 1073741824) :
    Calls Try.prog 38 #[.slice A n c] w (RetV intsC (b2i n bs) w) := by
  have HR := Lib.hid hr
  have HN := Lib.hid (rds_len hr)
  clear hr
  go_enter Try.func38, Try.ntmps38
  go_wp2
  go_loopw [3, 11] (fun o i wr => ∃ (k : Nat) (A' : Option Addr) (c' : Nat) (fp : List Nat), k ≤ n ∧ i = .int .i64 k ∧ o = .slice A' (k + 1) c' ∧ intsC.Own wr (b2i n (bs.take k)) [.slice A' (k + 1) c'] fp ∧ Fresh w.heap.size fp ∧ Chg [] w wr) (fun _ i _ => n - (intOf i).toNat)
  case atStart => exact ⟨0, _, _, [w.heap.size], Nat.zero_le _, rfl, rfl, own_ints1 rfl (by omega) (by omega), ⟨by simp, by simp⟩, (Chg.refl _ _).alloc _⟩
  case round =>
    obtain ⟨k, A', c', fp, hk, rfl, rfl, hown, hfr, hchg⟩ := hrel
    have HO := Lib.hid hown
    have HF := Lib.hid hfr
    have HC := Lib.hid hchg
    have hz := hchg.size
    clear hown hfr
    by_cases hlt : k < n
    · obtain ⟨b, off, v, rfl, hb, hv, hc⟩ := byte_at HR.out hlt
      have h1 := (hchg.cell (off := off + k) hb (by simp)).trans hc
      have hv1 : (0 : Int) ≤ (v.toNat : Int) := by omega
      have hv2 : (v.toNat : Int) ≤ 255 := by have := v.toNat_lt; omega
      have HV := Lib.hid hv
      clear hv hchg hc
      go_wp2_with (first | (at_builtin; refine wpList_push intC _ rfl _ _ _ rfl 3 _ 8 Try.underlying46 infoInt rfl A' (k + 1) c' rfl (b2i n (bs.take k)) fp (own_chg0 HO.out ((Chg.refl _ _).alloc _)) (some ⟨wr.heap.size, 0, none⟩) 1 1 rfl [(v.toNat : Int)] [] [.int .i64 (v.toNat : Int)] (RowRd.new _ _ 1 1 3 rfl rfl) (one_int (by omega) (by omega)) rfl (by rw [List.append_nil]; exact HF.out.1) (by simp only [maxLen]; omega) (by omega) ?_; intro A1 c1 w2 fp1 hown hnd hfp hchg; have H1 := Lib.hid hown; have H2 := Lib.hid ((HC.out.alloc _).andThen hchg (fun x hx => .inr (HF.out.2 x hx))); have H3 := Lib.hid hfp; clear hown hchg hfp))
      go_roundw
      case rel =>
        refine ⟨k + 1, A1, c1, fp1, by omega, by go_num, rfl, ?_, ⟨hnd, fun x hx => ?_⟩, H2.out⟩
        · rw [take_snoc bs k v HV.out, b2i_snoc]; exact H1.out
        · rcases H3.out x hx with h | h | h
          · exact HF.out.2 x h
          · simp at h
          · (try simp at h); omega
      case measure => simp [intOf]; omega
    · obtain rfl : k = n := by omega
      clear hchg
      go_wp2
      go_ret
      have h := HO.out
      rw [List.take_of_length_le (by rw [← HN.out]; omega)] at h
      exact ⟨A', _, c', fp, rfl, h, HF.out, HC.out⟩
set_option maxHeartbeats 400000 in
theorem spec_BytesToInts (w : World) (bs : List UInt8) (A : Option Addr) (n c : Nat) (hr : bytesC.Rd w w.heap.size bs [.slice A n c]) (hn : n ≤ 1073741824) :
    Calls Try.prog 35 #[.slice A n c] w (RetV intsC (b2i n bs) w) := by
  have HR := Lib.hid hr
  have HN := Lib.hid (rds_len hr)
  clear hr
  go_enter Try.func35, Try.ntmps35
  go_wp2
  go_loopw [3, 4] (fun o i wr => ∃ (k : Nat) (A' : Option Addr) (c' : Nat) (fp : List Nat), k ≤ n ∧ i = .int .i64 k ∧ o = .slice A' (k + 1) c' ∧ intsC.Own wr (b2i n (bs.take k)) [.slice A' (k + 1) c'] fp ∧ Fresh w.heap.size fp ∧ Chg [] w wr) (fun _ i _ => n - (intOf i).toNat)
  case atStart => exact ⟨0, _, _, [w.heap.size], Nat.zero_le _, rfl, rfl, own_ints1 rfl (by omega) (by omega), ⟨by simp, by simp⟩, (Chg.refl _ _).alloc _⟩
  case round =>
    obtain ⟨k, A', c', fp, hk, rfl, rfl, hown, hfr, hchg⟩ := hrel
    have HO := Lib.hid hown
    have HF := Lib.hid hfr
    have HC := Lib.hid hchg
    have hz := hchg.size
    clear hown hfr
    by_cases hlt : k < n
    · obtain ⟨b, off, v, rfl, hb, hv, hc⟩ := byte_at HR.out hlt
      have h1 := (hchg.cell (off := off + k) hb (by simp)).trans hc
      have hv1 : (0 : Int) ≤ (v.toNat : Int) := by omega
      have hv2 : (v.toNat : Int) ≤ 255 := by have := v.toNat_lt; omega
      have HV := Lib.hid hv
      clear hv hchg hc
      go_wp2_with (first | (at_builtin; refine wpList_push intC _ rfl _ _ _ rfl 3 _ 8 Try.underlying46 infoInt rfl A' (k + 1) c' rfl (b2i n (bs.take k)) fp (own_chg0 HO.out ((Chg.refl _ _).alloc _)) (some ⟨wr.heap.size, 0, none⟩) 1 1 rfl [(v.toNat : Int)] [] [.int .i64 (v.toNat : Int)] (RowRd.new _ _ 1 1 3 rfl rfl) (one_int (by omega) (by omega)) rfl (by rw [List.append_nil]; exact HF.out.1) (by simp only [maxLen]; omega) (by omega) ?_; intro A1 c1 w2 fp1 hown hnd hfp hchg; have H1 := Lib.hid hown; have H2 := Lib.hid ((HC.out.alloc _).andThen hchg (fun x hx => .inr (HF.out.2 x hx))); have H3 := Lib.hid hfp; clear hown hchg hfp))
      go_roundw
      case rel =>
        refine ⟨k + 1, A1, c1, fp1, by omega, by go_num, rfl, ?_, ⟨hnd, fun x hx => ?_⟩, H2.out⟩
        · rw [take_snoc bs k v HV.out, b2i_snoc]; exact H1.out
        · rcases H3.out x hx with h | h | h
          · exact HF.out.2 x h
          · simp at h
          · (try simp at h); omega
      case measure => simp [intOf]; omega
    · obtain rfl : k = n := by omega
      clear hchg
      go_wp2
      go_ret
      have h := HO.out
      rw [List.take_of_length_le (by rw [← HN.out]; omega)] at h
      exact ⟨A', _, c', fp, rfl, h, HF.out, HC.out⟩

def checkV (number : Int) (bs : List UInt8) : Int := hashL ([101, number] ++ b2i bs.length bs)
theorem own_ints2 {w : World} {u v : Int} {k : Nat} (hk : k = w.heap.size) (h1 : -9223372036854775808 ≤ u) (h2 : u ≤ 9223372036854775807) (h3 : -9223372036854775808 ≤ v) (h4 : v ≤ 9223372036854775807) :
    intsC.Own (w.alloc (.cells #[.int .i64 u, .int .i64 v] 3)) [u, v] [.slice (some ⟨k, 0, none⟩) 2 2] [k] :=
  own_mk (C := intC) (xs := [u, v]) (cells := [.int .i64 u, .int .i64 v]) (spare := []) (heap_alloc_eq hk) (AllO.append [u] [v] [_] [_] [] [] (one_int h1 h2) (one_int h3 h4)) (by simp) (by simp [maxLen]) (by simp [intC])

set_option maxHeartbeats 400000 in
theorem impl_CheckSum (w : World) (v : Int) (bs : List UInt8) (A : Option Addr) (n c : Nat) (hr : bytesC.Rd w w.heap.size bs [.slice A n c]) (hn : n ≤ 536870912) (h1 : -9223372036854775808 ≤ v) (h2 : v ≤ 9223372036854775807) :
    Calls Try.prog 27 #[.int .i64 v, .slice A n c] w (Ret (.int .i64 (checkV v bs)) w) := by
  have HR := Lib.hid hr
  have HN := Lib.hid (rds_len hr)
  clear hr
  go_enter Try.func27, Try.ntmps27
  go_wp2_with fail
  refine (impl_BytesToInts _ bs A n c (rd_chg HR.out ((Chg.refl _ _).alloc _)) (by omega)).mono ?_
  rintro e w1 ⟨A1, n1, c1, fp, rfl, hown, hfr, hchg⟩
  have hn1 : n1 = n + 1 := by rw [own_len hown, HN.out]; simp [b2i]
  subst hn1
  obtain ⟨cells, f, hrow, hall, hf⟩ : ∃ cells f, RowRd w1 A1 (n + 1) 1 cells ∧ AllO (intC.Own w1) (b2i n bs) cells f ∧ (∀ b ∈ f, b ∈ fp) ∧ f.Nodup := by
    have := own_row hown hfr.1
    exact this
  have HC := Lib.hid (((Chg.refl [] w).alloc _).trans hchg)
  have HO := Lib.hid (own_chg0 (own_ints2 (w := w) (u := 101) (v := v) rfl (by omega) (by omega) h1 h2) hchg)
  have hgt : w.heap.size + 1 ≤ w1.heap.size := by have := hchg.size; simp at this; omega
  have HF := Lib.hid hfr
  have HL := Lib.hid hall
  have HFF := Lib.hid hf
  clear hown hfr hchg hall hf
  go_wp2_with (first | (at_builtin; refine wpList_push intC _ rfl _ _ _ rfl 3 _ 8 Try.underlying46 infoInt rfl (some ⟨w.heap.size, 0, none⟩) 2 2 rfl [101, v] [w.heap.size] HO.out A1 (n + 1) c1 rfl (b2i n bs) f cells hrow HL.out (by have := HN.out; simp [b2i]; omega) ?nd (by simp only [maxLen]; omega) (by omega) ?hk))
  case nd =>
    refine List.nodup_append.2 ⟨by simp, HFF.out.2, fun a ha b hb e => ?_⟩
    have h := HF.out.2 b (HFF.out.1 b hb)
    simp at ha h
    omega
  case hk =>
    intro A2 c2 w2 fp2 hown hnd hfp hchg
    have H1 := Lib.hid hown
    have H2 := Lib.hid (HC.out.andThen hchg (fun x hx => .inr (by simp at hx; omega)))
    clear hown hchg hfp
    go_wp2_with fail
    refine (impl_Hash _ ([101, v] ++ b2i n bs) A2 _ c2 (rd_own H1.out) (by omega)).mono ?_
    rintro e w' ⟨rfl, rfl⟩
    go_wp2
    go_ret
    exact ⟨ret_i64 (by rw [HN.out]; rfl), H2.out⟩

set_option maxHeartbeats 400000 in
theorem spec_CheckSum (w : World) (v : Int) (bs : List UInt8) (A : Option Addr) (n c : Nat) (hr : bytesC.Rd w w.heap.size bs [.slice A n c]) (hn : n ≤ 536870912) (h1 : -9223372036854775808 ≤ v) (h2 : v ≤ 9223372036854775807) :
    Calls Try.prog 24 #[.int .i64 v, .slice A n c] w (Ret (.int .i64 (checkV v bs)) w) := by
  have HR := Lib.hid hr
  have HN := Lib.hid (rds_len hr)
  clear hr
  go_enter Try.func24, Try.ntmps24
  go_wp2_with fail
  refine (spec_BytesToInts _ bs A n c (rd_chg HR.out ((Chg.refl _ _).alloc _)) (by omega)).mono ?_
  rintro e w1 ⟨A1, n1, c1, fp, rfl, hown, hfr, hchg⟩
  have hn1 : n1 = n + 1 := by rw [own_len hown, HN.out]; simp [b2i]
  subst hn1
  obtain ⟨cells, f, hrow, hall, hf⟩ : ∃ cells f, RowRd w1 A1 (n + 1) 1 cells ∧ AllO (intC.Own w1) (b2i n bs) cells f ∧ (∀ b ∈ f, b ∈ fp) ∧ f.Nodup := by
    have := own_row hown hfr.1
    exact this
  have HC := Lib.hid (((Chg.refl [] w).alloc _).trans hchg)
  have HO := Lib.hid (own_chg0 (own_ints2 (w := w) (u := 101) (v := v) rfl (by omega) (by omega) h1 h2) hchg)
  have hgt : w.heap.size + 1 ≤ w1.heap.size := by have := hchg.size; simp at this; omega
  have HF := Lib.hid hfr
  have HL := Lib.hid hall
  have HFF := Lib.hid hf
  clear hown hfr hchg hall hf
  go_wp2_with (first | (at_builtin; refine wpList_push intC _ rfl _ _ _ rfl 3 _ 8 Try.underlying46 infoInt rfl (some ⟨w.heap.size, 0, none⟩) 2 2 rfl [101, v] [w.heap.size] HO.out A1 (n + 1) c1 rfl (b2i n bs) f cells hrow HL.out (by have := HN.out; simp [b2i]; omega) ?nd (by simp only [maxLen]; omega) (by omega) ?hk))
  case nd =>
    refine List.nodup_append.2 ⟨by simp, HFF.out.2, fun a ha b hb e => ?_⟩
    have h := HF.out.2 b (HFF.out.1 b hb)
    simp at ha h
    omega
  case hk =>
    intro A2 c2 w2 fp2 hown hnd hfp hchg
    have H1 := Lib.hid hown
    have H2 := Lib.hid (HC.out.andThen hchg (fun x hx => .inr (by simp at hx; omega)))
    clear hown hchg hfp
    go_wp2_with fail
    refine (spec_Hash _ ([101, v] ++ b2i n bs) A2 _ c2 (rd_own H1.out) (by omega)).mono ?_
    rintro e w' ⟨rfl, rfl⟩
    go_wp2
    go_ret
    exact ⟨ret_i64 (by rw [HN.out]; rfl), H2.out⟩
end Go.Proofs.Ytgdpeehmjhahfaa
