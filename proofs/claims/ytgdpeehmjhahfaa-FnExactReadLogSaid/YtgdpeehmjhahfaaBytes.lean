/-
  Walks of the statements' helpers over byte slices: a copy, a comparison, marks laid and looked for.
-/
import Derived.Test.YtgdpeehmjhahfaaTypes
import Derived.Test.YtgdpeehmjhahfaaRegion
import Derived.Test.YtgdpeehmjhahfaaProg
import Derived.WalkLawsBesides
import Derived.Outline
import Derived.Deep.QuietTactic
import Derived.BigQuiet
namespace Go.Proofs.Ytgdpeehmjhahfaa
open Go.RowKit
open Go.Proofs

def byteV (b : UInt8) : Value := .int .u8 (b.toNat : Int)
/-- the first k done, the rest nought -/
def half (bs : List UInt8) (n k : Nat) : Array Value := ((bs.take k).map byteV ++ List.replicate (n - k) (Value.int .u8 0)).toArray
theorem infoByte : (Try.prog.info? 5).map (fun i => (i.zero, i.size, i.bytes)) = some (some (.int .u8 0), 1, 1) := by kernel_rfl
theorem half_zero (bs : List UInt8) (n : Nat) : half bs n 0 = madeCells #[.int .u8 0] n := by
  apply Array.toList_inj.1
  rw [toList_madeCells_one]; simp [half]
theorem half_get (bs : List UInt8) (n k : Nat) (hn : n = bs.length) (hk : k < n) : (half bs n k)[k]? = some (.int .u8 0) := by
  have e : n - k = (n - (k + 1)) + 1 := by omega
  have h : (List.map byteV (bs.take k)).length = k := by simp; omega
  simp only [half, List.getElem?_toArray]
  rw [List.getElem?_append_right (by omega), h, e, List.replicate_succ]; simp
theorem half_set (bs : List UInt8) (n k : Nat) (hn : n = bs.length) (hk : k < n) (b : UInt8) (hb : bs[k]? = some b) : (half bs n k).setIfInBounds k (byteV b) = half bs n (k + 1) := by
  apply Array.toList_inj.1
  have hl : k < bs.length := by omega
  have e : n - k = (n - (k + 1)) + 1 := by omega
  have h : (List.map byteV (bs.take k)).length = k := by simp; omega
  have hb' : bs[k] = b := by rw [List.getElem?_eq_getElem hl] at hb; exact Option.some.inj hb
  simp only [half, List.setIfInBounds_toArray]
  rw [e, List.replicate_succ, List.set_append_right _ _ (by omega), List.take_succ_eq_append_getElem hl, h, List.map_append, List.append_assoc, hb']
  simp only [Nat.sub_self, List.set_cons_zero, List.map_cons, List.map_nil, List.cons_append, List.nil_append]
/-- bytes, one a cell -/
theorem all_bytes {w : World} : ∀ (bs : List UInt8), AllO (byteC.Own w) bs (bs.map byteV) []
  | [] => ⟨rfl, rfl⟩
  | _ :: bs => ⟨_, _, [], [], rfl, rfl, ⟨rfl, rfl⟩, all_bytes bs⟩
theorem all_bytes_inv {w : World} : ∀ (bs : List UInt8) (cells : List Value) (f : List Nat), AllO (byteC.Own w) bs cells f → cells = bs.map byteV ∧ f = []
  | [], _, _, h => h
  | _ :: bs, _, _, ⟨c1, c2, f1, f2, e, ef, h1, h2⟩ => by
    obtain ⟨r1, r2⟩ := all_bytes_inv bs c2 f2 h2
    rw [e, ef, h1.1, h1.2, r1, r2]; exact ⟨rfl, rfl⟩
/-- one byte of a slice that reads -/
theorem byte_at {w : World} {B : Nat} {bs : List UInt8} {A : Option Addr} {n c k : Nat} (h : bytesC.Rd w B bs [.slice A n c]) (hk : k < n) :
    ∃ b off v, A = some ⟨b, off, none⟩ ∧ b < B ∧ bs[k]? = some v ∧ w.cell? ⟨b, off + k, none⟩ = some (.int .u8 (v.toNat : Int)) := by
  have hl : k < bs.length := by rw [← rds_len h]; exact hk
  obtain ⟨b, off, ci, rfl, hb, hr, hc⟩ := rd_at h (List.getElem?_eq_getElem hl)
  have hci : ci = [.int .u8 ((bs[k]).toNat : Int)] := hr
  subst hci
  have := hc 0 _ rfl
  simp only [byteC, Nat.mul_one, Nat.add_zero] at this
  exact ⟨b, off, bs[k], rfl, hb, List.getElem?_eq_getElem hl, this⟩

set_option maxHeartbeats 400000 in
theorem laws_toByteS (w : World) (bs : List UInt8) (A : Option Addr) (n c : Nat) (hr : bytesC.Rd w w.heap.size bs [.slice A n c]) (hsz : n ≤ 1073741824) :
    Calls Try.prog 8 #[.slice A n c] w (RetV bytesC bs w) := by
  have hmk := run_make_cells (P := Try.prog) 22 5 (.int .u8 0) 1 1 Try.underlying22 infoByte n (by omega) (by omega)
  have HN := Lib.hid (rds_len hr)
  have HR := Lib.hid hr
  clear hr
  go_enter Try.func8, Try.ntmps8
  go_wp2
  go_loopw [4] (fun i wr => ∃ k : Nat, k ≤ n ∧ i = .int .i64 k ∧ Blk wr w.heap.size 5 (half bs n k) ∧ Chg [] w wr) (fun i _ => n - (intOf i).toNat)
  case atStart => exact ⟨0, Nat.zero_le _, rfl, by rw [half_zero]; exact Blk.new _ _ _, (Chg.refl _ _).alloc _⟩
  case round =>
    obtain ⟨k, hk, rfl, hblk, hchg⟩ := hrel
    by_cases hlt : k < n
    · obtain ⟨b, off, v, rfl, hb, hv, hc⟩ := byte_at HR.out hlt
      have h1 := (hchg.cell (off := off + k) hb (by simp)).trans hc
      have h2 := (hblk.cell k).trans (half_get bs n k HN.out hlt)
      have h3 := hblk.frozen k
      have H1 := Lib.hid hblk
      have H2 := Lib.hid hchg
      have HV := Lib.hid hv
      clear hblk hchg hc hv
      go_wp2
      go_roundw
      case rel => exact ⟨k + 1, by omega, by go_num, by have := H1.out.set_ k (byteV v); rw [half_set bs n k HN.out hlt v HV.out] at this; exact this, H2.out.setCell (.inr (by simp)) _⟩
      case measure => simp [intOf]; omega
    · obtain rfl : k = n := by omega
      have H1 := Lib.hid hblk
      have H2 := Lib.hid hchg
      clear hblk hchg
      go_wp2
      go_ret
      have hn := HN.out
      have hb : half bs k k = (bs.map byteV ++ []).toArray := by simp [half, hn]
      refine ⟨_, _, _, [w.heap.size], rfl, ?_, ⟨by simp, by simp⟩, H2.out⟩
      have hblk := H1.out
      rw [hb] at hblk
      have := own_mk (C := byteC) (xs := bs) (cap := k) hblk (all_bytes bs) (by omega) (by simp only [maxLen]; omega) (by simp [byteC, hn])
      rw [← hn] at this
      exact this

theorem ret_bool {a b : Bool} (h : a = b) : Ending.returned (.bool a) = Ending.returned (.bool b) := by rw [h]
theorem ret_i64 {a b : Int} (h : a = b) : Ending.returned (.int .i64 a) = Ending.returned (.int .i64 b) := by rw [h]

set_option maxHeartbeats 400000 in
theorem laws_eqByteS (w : World) (xs ys : List UInt8) (A : Option Addr) (n c : Nat) (B : Option Addr) (m d : Nat) (hx : bytesC.Rd w w.heap.size xs [.slice A n c]) (hy : bytesC.Rd w w.heap.size ys [.slice B m d])
    (hn : n ≤ 1073741824) (hm : m ≤ 1073741824) :
    Calls Try.prog 10 #[.slice A n c, .slice B m d] w (Ret (.bool (decide (xs = ys))) w) := by
  have HX := Lib.hid hx
  have HY := Lib.hid hy
  by_cases hnm : n = m
  · subst hnm
    clear hx hy
    have hb : ((n : Int) != (n : Int)) = false := by simp
    go_enter Try.func10, Try.ntmps10
    go_wp2
    go_loopw [5] (fun i wr => ∃ k : Nat, k ≤ n ∧ i = .int .i64 k ∧ (∃ q, wr = w.drewN q) ∧ xs.take k = ys.take k) (fun i _ => n - (intOf i).toNat)
    case atStart => exact ⟨0, Nat.zero_le _, rfl, ⟨0, rfl⟩, by simp⟩
    case round =>
      obtain ⟨k, hk, rfl, ⟨q, rfl⟩, htk⟩ := hrel
      have HT := Lib.hid htk
      clear htk
      by_cases hlt : k < n
      · obtain ⟨b, off, v, rfl, hb, hv, hc⟩ := byte_at HX.out hlt
        obtain ⟨b', off', v', rfl, hb', hv', hc'⟩ := byte_at HY.out hlt
        have HV := Lib.hid hv
        have HV' := Lib.hid hv'
        clear hv hv'
        have hk0 : (0 : Int) ≤ (k : Int) := by omega
        have hkn : (k : Int) < (n : Int) := by omega
        go_wp2
        go_quiet (fail)
        go_wp2
        · have hne : ((v.toNat : Int) != (v'.toNat : Int)) = true := by assumption
          go_ret
          refine ⟨ret_bool ?_, ((Chg.refl _ _).drewN _).drewN _⟩
          refine (decide_eq_false (fun h => ?_)).symm
          subst h
          have := HV.out.symm.trans HV'.out
          simp only [Option.some.injEq] at this
          subst this
          simp at hne
        · have heq : ((v.toNat : Int) != (v'.toNat : Int)) = false := by assumption
          go_roundw
          case rel =>
            refine ⟨k + 1, by omega, by go_num, ⟨_, rfl⟩, ?_⟩
            have e : v = v' := UInt8.toNat_inj.1 (by have h := heq; simp at h; omega)
            subst e
            rw [List.take_add_one, List.take_add_one, HT.out, HV.out, HV'.out]
          case measure => simp [intOf]; omega
      · obtain rfl : k = n := by omega
        go_wp2
        go_ret
        refine ⟨?_, (Chg.refl _ _).drewN _⟩
        have h1 := HT.out
        have e1 := rds_len HX.out
        have e2 := rds_len HY.out
        rw [List.take_of_length_le (by omega), List.take_of_length_le (by omega)] at h1
        exact ret_bool (decide_eq_true h1).symm
  · have hb : ((n : Int) != (m : Int)) = true := by rw [bne_iff_ne]; omega
    clear hx hy
    go_enter Try.func10, Try.ntmps10
    go_wp2
    go_ret
    refine ⟨?_, Chg.refl _ _⟩
    exact ret_bool (decide_eq_false (fun h => hnm (by rw [rds_len HX.out, rds_len HY.out, h]))).symm

/-- what the marks make of n bytes, from k on -/
def markB : Nat → Nat → List UInt8
  | 0, _ => []
  | n + 1, k => UInt8.ofNat k :: markB n (k + 1)
theorem markB_len : ∀ n k, (markB n k).length = n
  | 0, _ => rfl
  | n + 1, k => by simp [markB, markB_len n (k + 1)]
theorem markB_get : ∀ n k i, i < n → (markB n k)[i]? = some (UInt8.ofNat (k + i))
  | n + 1, k, 0, _ => by simp [markB]
  | n + 1, k, i + 1, h => by
    simp only [markB, List.getElem?_cons_succ]
    rw [markB_get n (k + 1) i (by omega)]
    congr 2; omega
/-- the first k marked -/
def halfM (bs : List UInt8) (m k : Nat) : List UInt8 := (markB bs.length m).take k ++ bs.drop k
theorem halfM_set (bs : List UInt8) (m k : Nat) (h : k < bs.length) : (halfM bs m k).set k (UInt8.ofNat (m + k)) = halfM bs m (k + 1) := by
  have hl : ((markB bs.length m).take k).length = k := by simp [markB_len]; omega
  unfold halfM
  rw [List.set_append_right _ _ (by omega), hl, Nat.sub_self, List.drop_eq_getElem_cons h, List.set_cons_zero, List.take_add_one, markB_get _ _ _ h]
  simp
theorem u8_wrap (k : Nat) : IntKind.u8.wrap (k : Int) = ((UInt8.ofNat k).toNat : Int) := by
  rw [IntKind.wrap_u8]; simp

set_option maxHeartbeats 400000 in
theorem laws_markByteS (w : World) (bs : List UInt8) (A : Option Addr) (n c m : Nat) (fp : List Nat) (ho : bytesC.Own w bs [.slice A n c] fp) (hn : n ≤ 1073741824) (hm : m ≤ 1152921504606846976) :
    Calls Try.prog 11 #[.slice A n c, .int .i64 m] w (fun e w' => e = .returned (.int .i64 ((m + n : Nat) : Int)) ∧ bytesC.Own w' (markB n m) [.slice A n c] fp ∧ Chg fp w w') := by
  have HN := Lib.hid (own_len ho)
  rcases own_cases ho with ⟨e1, rfl, rfl⟩ | ⟨g, cap, cells, spare, f, e1, rfl, hblk, hall, hnc, hcm, hlen⟩
  · simp only [List.cons.injEq, Value.slice.injEq, and_true] at e1
    obtain ⟨rfl, rfl, rfl⟩ := e1
    have HO := Lib.hid ho
    clear ho
    go_enter Try.func11, Try.ntmps11
    go_wp2
    refine wp_loop_rounds 1 ?_; rw [rounds_succ]
    go_wp2
    go_ret
    exact ⟨rfl, HO.out, Chg.refl _ _⟩
  · simp only [List.cons.injEq, Value.slice.injEq, and_true] at e1
    obtain ⟨rfl, hl, rfl⟩ := e1
    obtain ⟨rfl, rfl⟩ := all_bytes_inv _ _ _ hall
    have HB := Lib.hid hblk
    have HL := Lib.hid hlen
    clear ho hall hl hblk hlen
    go_enter Try.func11, Try.ntmps11
    go_wp2
    go_loopw [1, 5] (fun m' i wr => ∃ k : Nat, k ≤ n ∧ i = .int .i64 k ∧ m' = .int .i64 ((m + k : Nat) : Int) ∧ Blk wr g 5 ((halfM bs m k).map byteV ++ spare).toArray ∧ Chg [g] w wr) (fun _ i _ => n - (intOf i).toNat)
    case atStart => exact ⟨0, Nat.zero_le _, rfl, rfl, by have := HB.out; simpa [halfM] using this, Chg.refl _ _⟩
    case round =>
      obtain ⟨k, hk, rfl, rfl, hblk, hchg⟩ := hrel
      by_cases hlt : k < n
      · have hlb : k < bs.length := by rw [← HN.out]; exact hlt
        have h2 := hblk.cell k
        rw [show ((halfM bs m k).map byteV ++ spare).toArray[k]? = ((halfM bs m k).map byteV)[k]? by rw [List.getElem?_toArray, List.getElem?_append_left (by simp [halfM, markB_len]; omega)]] at h2
        rw [List.getElem?_eq_getElem (by simp [halfM, markB_len]; omega)] at h2
        have h3 := hblk.frozen k
        have HW : Hid (Value.int .u8 (((m : Int) + (k : Int)) % 256) = byteV (UInt8.ofNat (m + k))) := by
          show _ = _
          unfold byteV
          congr 1
        have H1 := Lib.hid hblk
        have H2 := Lib.hid hchg
        clear hblk hchg
        go_wp2
        go_roundw
        case rel =>
          refine ⟨k + 1, by omega, by go_num, by go_num, ?_, H2.out.setCell (.inl (by simp)) _⟩
          have h := H1.out.set_ k (byteV (UInt8.ofNat (m + k)))
          rw [← HW.out] at h
          rw [← halfM_set bs m k hlb, List.map_set, ← HW.out]
          rw [List.setIfInBounds_toArray, List.set_append_left _ _ (by simp [halfM, markB_len]; omega)] at h
          exact h
        case measure => simp [intOf]; omega
      · obtain rfl : k = n := by omega
        have H1 := Lib.hid hblk
        have H2 := Lib.hid hchg
        clear hblk hchg
        go_wp2
        go_ret
        have e1 := HN.out
        have h1 := H1.out
        have e2 : halfM bs m k = markB k m := by
          unfold halfM
          rw [← e1, List.drop_eq_nil_of_le (by omega), List.append_nil, List.take_of_length_le (by rw [markB_len]; omega)]
        rw [e2] at h1
        have h2 := own_mk (C := byteC) (xs := markB k m) (cap := c) h1 (all_bytes _) (by rw [markB_len]; omega) hcm (by have := HL.out; simp [markB_len, byteC] at this ⊢; omega)
        rw [markB_len] at h2
        exact ⟨rfl, h2, H2.out⟩

set_option maxHeartbeats 400000 in
theorem laws_heldByteS (w : World) (A : Option Addr) (n c m : Nat) (hr : bytesC.Rd w w.heap.size (markB n m) [.slice A n c]) (hn : n ≤ 1073741824) (hm : m ≤ 1152921504606846976) :
    Calls Try.prog 12 #[.slice A n c, .int .i64 m] w (Ret (.int .i64 ((m + n : Nat) : Int)) w) := by
  have HR := Lib.hid hr
  clear hr
  go_enter Try.func12, Try.ntmps12
  go_wp2
  go_loop [1, 5] (fun m' i => ∃ k : Nat, k ≤ n ∧ i = .int .i64 k ∧ m' = .int .i64 ((m + k : Nat) : Int)) (fun _ i => n - (intOf i).toNat)
  case atStart => exact ⟨0, Nat.zero_le _, rfl, rfl⟩
  case round =>
    obtain ⟨k, hk, rfl, rfl⟩ := hrel
    by_cases hlt : k < n
    · obtain ⟨b, off, v, rfl, hb, hv, hc⟩ := byte_at HR.out hlt
      rw [markB_get n m k hlt] at hv
      simp only [Option.some.injEq] at hv
      have hv' : (v.toNat : Int) = ((m : Int) + (k : Int)) % 256 := by rw [← hv]; simp
      have ht : ((((m : Int) + (k : Int)) % 256) != (((m : Int) + (k : Int)) % 256)) = false := by simp
      rw [hv'] at hc
      clear hv hv'
      go_wp2
      go_round
      case rel => exact ⟨k + 1, by omega, by go_num, by go_num⟩
      case measure => simp [intOf]; omega
    · obtain rfl : k = n := by omega
      go_wp2
      go_ret
      exact ⟨ret_i64 (by omega), Chg.refl _ _⟩
end Go.Proofs.Ytgdpeehmjhahfaa
