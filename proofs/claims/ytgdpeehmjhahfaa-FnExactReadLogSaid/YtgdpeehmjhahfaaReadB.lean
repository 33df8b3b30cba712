/-
  Walks of ReadBytes, the program's and the reference's.
-/
import Derived.Test.YtgdpeehmjhahfaaRead
namespace Go.Proofs.Ytgdpeehmjhahfaa
open Go.RowKit
open Go.Proofs

theorem rdF_some : ∀ (f i acc : Nat) (l : List UInt8) (v k : Nat), rdF f i acc l = some (v, k) → v ≤ 1000000000000 ∧ i < k ∧ k ≤ i + l.length
  | 0, _, _, _, _, _, h => by simp [rdF] at h
  | _ + 1, _, _, [], _, _, h => by simp [rdF] at h
  | f + 1, i, acc, x :: r, v, k, h => by
    unfold rdF at h
    split at h
    · split at h
      · cases h
      · rename_i hb
        simp only [Option.some.injEq, Prod.mk.injEq] at h
        obtain ⟨rfl, rfl⟩ := h
        simp only [not_or] at hb
        refine ⟨by omega, by omega, by simp⟩
    · have h2 := rdF_some f (i + 1) _ r v k h
      simp only [List.length_cons]
      omega
theorem rdU_some {bs : List UInt8} {off : Int} {v k : Nat} (h : rdU bs off = some (v, k)) : ∃ o p : Nat, off = o ∧ p = o + k ∧ 0 < k ∧ p ≤ bs.length ∧ v ≤ 1000000000000 := by
  unfold rdU at h
  split at h
  · rename_i h1
    obtain ⟨h2, h3⟩ := h1
    have h4 := rdF_some _ _ _ _ _ _ h
    rw [List.length_drop] at h4
    exact ⟨off.toNat, off.toNat + k, by omega, rfl, by omega, by omega, h4.1⟩
  · cases h
/-- a slice of bytes read at a place: the bytes and the next place -/
def rdB (bs : List UInt8) (off : Int) (most : Int) : Option (List UInt8 × Nat) :=
  match rdU bs off with
  | none => none
  | some (v, k) => if (v : Int) ≤ most ∧ off.toNat + k + v ≤ bs.length then some ((bs.drop (off.toNat + k)).take v, off.toNat + k + v) else none
def tailB : Option (List UInt8 × Nat) → List Value
  | none => [.int .i64 0, .bool false]
  | some (_, p) => [.int .i64 (p : Int), .bool true]
def headB : Option (List UInt8 × Nat) → List UInt8
  | none => []
  | some (d, _) => d
/-- a slice, fresh and owned, and more values behind it -/
def RetT {α : Type} (C : Cod (List α)) (x : List α) (t : List Value) (w : World) (e : Ending) (w' : World) : Prop :=
  ∃ A n c fp, e = .returned (.tuple (Value.slice A n c :: t).toArray) ∧ C.Own w' x [.slice A n c] fp ∧ Fresh w.heap.size fp ∧ Chg [] w w'
/-- a slice that reads, behind its first elements -/
theorem all_drop {α : Type} {r : α → List Value → Prop} {n : Nat} (h : ∀ x c, r x c → c.length = n) : ∀ (xs : List α) (cs : List Value) (j : Nat), AllR r xs cs → AllR r (xs.drop j) (cs.drop (j * n))
  | [], cs, j, hc => by simp [AllR] at hc; simp [hc, AllR]
  | x :: xs, cs, 0, hc => by simpa using hc
  | x :: xs, _, j + 1, ⟨c1, c2, e, h1, h2⟩ => by
    have hl := h _ _ h1
    rw [e, List.drop_succ_cons, Nat.add_mul, List.drop_append, List.drop_of_length_le (l := c1) (by rw [hl]; omega), List.nil_append, hl]
    rw [show j * n + 1 * n - n = j * n by omega]
    exact all_drop h xs c2 j h2
theorem rd_drop {α : Type} {e : TypeId} {C : Cod α} {w : World} {B : Nat} {xs : List α} {b o n c : Nat} (h : (sliceC e C).Rd w B xs [.slice (some ⟨b, o, none⟩) n c]) (j : Nat) (hj : j ≤ n) (hz : 0 < n) :
    (sliceC e C).Rd w B (xs.drop j) [.slice (some ⟨b, o + j * C.size, none⟩) (n - j) (c - j)] := by
  obtain ⟨A', c', cells, e1, h2, h3, h4, h5⟩ := h
  simp only [List.cons.injEq, Value.slice.injEq, and_true] at e1
  obtain ⟨rfl, rfl, rfl⟩ := e1
  refine ⟨_, _, cells.drop (j * C.size), by rw [List.length_drop], by rw [List.length_drop]; omega, by omega, all_drop (fun _ _ hr => C.rd_len hr) _ _ j h4, fun hp => ?_⟩
  obtain ⟨b', off, e1, e2, e3⟩ := h5 (by omega)
  cases e1
  refine ⟨b, o + j * C.size, rfl, e2, fun i u hu => ?_⟩
  rw [List.getElem?_drop] at hu
  rw [Nat.add_assoc]
  exact e3 _ u hu

theorem rd_zero {α : Type} {e : TypeId} {C : Cod α} {w : World} {B : Nat} {xs : List α} {A : Option Addr} {v c : Nat} (h : v = 0) (hc : c ≤ 9223372036854775807) : (sliceC e C).Rd w B (xs.take v) [.slice A v c] := by
  subst h
  exact ⟨A, c, [], rfl, Nat.zero_le _, hc, rfl, fun h => absurd h (Nat.lt_irrefl _)⟩
/-- append of a slice of bytes that reads onto an owned one -/
theorem wpList_bytes (w0 w : World) {ops : Array Oper} {rest : List Oper} {o : Oper} {a : Act} {Q : Exit → Act → World → Prop} (hgd : o.guard = none) (s x : Operand)
    (ho : o.op = .call { callee := .builtin .append, args := #[s, x], argTypes := #[22, 22] })
    (A : Option Addr) (n c : Nat) (hs : a.eval s = .slice A n c) (xs : List UInt8) (fp : List Nat) (hown : bytesC.Own w xs [.slice A n c] fp) (hnd : fp.Nodup)
    (B : Option Addr) (m d : Nat) (hx : a.eval x = .slice B m d) (ys : List UInt8) (hc : Chg [] w0 w) (hr : bytesC.Rd w0 w0.heap.size ys [.slice B m d])
    (hlen : n + m ≤ 1073741824)
    (h : ∀ A' c' w' fp', bytesC.Own w' (xs ++ ys) [.slice A' (n + m) c'] fp' → fp'.Nodup → (∀ b ∈ fp', b ∈ fp ∨ b ∈ ([] : List Nat) ∨ b = w.heap.size) → Chg fp w w' →
      wpList Try.prog ops Q rest (a.put o.dst (.slice A' (n + m) c')) w') : wpList Try.prog ops Q (o :: rest) a w := by
  obtain ⟨hl, _, _, hrow, hlt⟩ := bytes_row hr
  exact wpList_push byteC w hgd s x _ ho 5 _ 1 Try.underlying22 infoByte rfl A n c hs xs fp hown B m d hx ys [] _ (hrow.chg hlt (Nat.le_refl _) hc) (all_bytes _) hl (by simpa using hnd) (by simp only [maxLen]; omega) (by omega) h
set_option maxRecDepth 100000 in
set_option maxHeartbeats 1000000 in
theorem impl_ReadBytes (w : World) (bs : List UInt8) (A : Option Addr) (n c : Nat) (off : Int) (most : Int) (hr : bytesC.Rd w w.heap.size bs [.slice A n c]) (hn : n ≤ 16777216) :
    Calls Try.prog 31 #[.slice A n c, .int .i64 off, .int .i64 most] w (RetT bytesC (headB (rdB bs off most)) (tailB (rdB bs off most)) w) := by
  have hN := rds_len hr
  have hU := impl_ReadUvarint w bs A n c off hr hn
  cases hu : rdU bs off with
  | none =>
    have HB := Lib.hid (show rdB bs off most = none by simp [rdB, hu])
    rw [hu, show retU off none = .tuple #[.int .i64 0, .int .i64 0, .bool false] from rfl] at hU
    have HU := Lib.hid hU
    clear hU hu hr hN
    go_enter Try.func31, Try.ntmps31
    go_wp2_with fail
    refine (HU.out).mono ?_
    rintro e w' ⟨rfl, rfl⟩
    go_wp2_with fail
    go_ret3
    rw [HB.out]
    exact ⟨_, _, _, [w.heap.size], rfl, own_new rfl, ⟨by simp, by simp⟩, (Chg.refl _ _).alloc _⟩
  | some vk =>
    obtain ⟨v, k⟩ := vk
    obtain ⟨o, p, rfl, hp, hk, hpl, hv⟩ := rdU_some hu
    have hcn := (rd_row hr).2.1
    have hcm := (rd_row hr).2.2.1
    obtain ⟨b, o', rfl, hb⟩ := (bytes_row hr).2.2.2.2 (by omega)
    have hRU : retU (o : Int) (some (v, k)) = .tuple #[.int .i64 (v : Int), .int .i64 (p : Int), .bool true] := by subst hp; simp [retU]
    rw [hu, hRU] at hU
    have HU := Lib.hid hU
    have HN := Lib.hid hN
    have hpn : p ≤ n := by omega
    have hcm2 : c ≤ 9223372036854775807 := by simp only [maxLen] at hcm; omega
    clear hRU hU hcm
    by_cases hok : (v : Int) ≤ most ∧ p + v ≤ n
    · have HB := Lib.hid (show rdB bs o most = some ((bs.drop p).take v, p + v) by
        unfold rdB; rw [hu]; simp only [Int.toNat_natCast]; rw [← hp, if_pos (by omega)])
      have hD1 := rd_take (rd_drop hr p hpn (by omega)) v (by omega)
      rw [show byteC.size = 1 from rfl, Nat.mul_one] at hD1
      have HD := Lib.hid hD1
      clear hD1
      obtain ⟨h1, h2⟩ := hok
      have h3 : (v : Int) ≤ (n : Int) - (p : Int) := by omega
      clear hr hu hN hp
      go_enter Try.func31, Try.ntmps31
      go_wp2_with fail
      refine (HU.out).mono ?_
      rintro e w' ⟨rfl, rfl⟩
      go_wp2_with fail
      all_goals
        refine (impl_copyBytes _ ((bs.drop p).take v) _ v _ (by first | exact HD.out | exact rd_zero (by omega) (by omega)) (by omega)).mono ?_
        rintro e w1 ⟨A1, n1, c1, fp, rfl, hown, hfr, hchg⟩
        have HO := Lib.hid hown
        have HF := Lib.hid hfr
        have HC := Lib.hid hchg
        clear hown hfr hchg
        go_wp2_with fail
        go_ret3
        rw [HB.out]
        exact ⟨A1, n1, c1, fp, rfl, HO.out, HF.out, HC.out⟩
    · have HB := Lib.hid (show rdB bs o most = none by
        unfold rdB; rw [hu]; simp only [Int.toNat_natCast]; rw [← hp, if_neg (by omega)])
      have hok' : most < (v : Int) ∨ ((v : Int) ≤ most ∧ (n : Int) - (p : Int) < (v : Int)) := by omega
      clear hok hr hu hN hp
      rcases hok' with h1 | ⟨h1, h2⟩
      all_goals
        go_enter Try.func31, Try.ntmps31
        go_wp2_with fail
        refine (HU.out).mono ?_
        rintro e w' ⟨rfl, rfl⟩
        go_wp2_with fail
        go_ret3
        rw [HB.out]
        exact ⟨_, _, _, [w.heap.size], rfl, own_new rfl, ⟨by simp, by simp⟩, (Chg.refl _ _).alloc _⟩
set_option maxRecDepth 100000 in
set_option maxHeartbeats 1000000 in
theorem spec_ReadBytes (w : World) (bs : List UInt8) (A : Option Addr) (n c : Nat) (off : Int) (most : Int) (hr : bytesC.Rd w w.heap.size bs [.slice A n c]) (hn : n ≤ 16777216) :
    Calls Try.prog 29 #[.slice A n c, .int .i64 off, .int .i64 most] w (RetT bytesC (headB (rdB bs off most)) (tailB (rdB bs off most)) w) := by
  have hN := rds_len hr
  have hU := spec_ReadUvarint w bs A n c off hr hn
  cases hu : rdU bs off with
  | none =>
    have HB := Lib.hid (show rdB bs off most = none by simp [rdB, hu])
    rw [hu, show retU off none = .tuple #[.int .i64 0, .int .i64 0, .bool false] from rfl] at hU
    have HU := Lib.hid hU
    clear hU hu hr hN
    go_enter Try.func29, Try.ntmps29
    go_wp2_with fail
    refine (HU.out).mono ?_
    rintro e w' ⟨rfl, rfl⟩
    go_wp2_with fail
    go_ret3
    rw [HB.out]
    exact ⟨_, _, _, [w.heap.size], rfl, own_new rfl, ⟨by simp, by simp⟩, (Chg.refl _ _).alloc _⟩
  | some vk =>
    obtain ⟨v, k⟩ := vk
    obtain ⟨o, p, rfl, hp, hk, hpl, hv⟩ := rdU_some hu
    have hcn := (rd_row hr).2.1
    have hcm := (rd_row hr).2.2.1
    obtain ⟨b, o', rfl, hb⟩ := (bytes_row hr).2.2.2.2 (by omega)
    have hRU : retU (o : Int) (some (v, k)) = .tuple #[.int .i64 (v : Int), .int .i64 (p : Int), .bool true] := by subst hp; simp [retU]
    rw [hu, hRU] at hU
    have HU := Lib.hid hU
    have HN := Lib.hid hN
    have hpn : p ≤ n := by omega
    have hcm2 : c ≤ 9223372036854775807 := by simp only [maxLen] at hcm; omega
    clear hRU hU hcm
    by_cases hok : (v : Int) ≤ most ∧ p + v ≤ n
    · have HB := Lib.hid (show rdB bs o most = some ((bs.drop p).take v, p + v) by
        unfold rdB; rw [hu]; simp only [Int.toNat_natCast]; rw [← hp, if_pos (by omega)])
      have hD1 := rd_take (rd_drop hr p hpn (by omega)) v (by omega)
      rw [show byteC.size = 1 from rfl, Nat.mul_one] at hD1
      have HD := Lib.hid (show bytesC.Rd w w.heap.size ((bs.drop p).take v) [.slice (if c = p then some ⟨b, o', none⟩ else some ⟨b, o' + p, none⟩) (p + v - p) (c - p)] by
        rw [Nat.add_sub_cancel_left]
        split
        · exact rd_zero (by omega) (by omega)
        · exact hD1)
      clear hD1
      obtain ⟨h1, h2⟩ := hok
      have h3 : (v : Int) ≤ (n : Int) - (p : Int) := by omega
      clear hr hu hN hp
      go_enter Try.func29, Try.ntmps29
      go_wp2_with fail
      refine (HU.out).mono ?_
      rintro e w' ⟨rfl, rfl⟩
      go_wp2_with (first | (at_builtin; (refine wpList_bytes w _ rfl _ _ rfl _ 0 0 rfl [] [w.heap.size] (own_new (by simp)) (by simp) _ (p + v - p) _ rfl ((bs.drop p).take v) ((Chg.refl _ _).alloc _) HD.out (by omega) ?_; intro A1 c1 w1 fp hown hnd hfp hchg; simp only [Nat.zero_add, List.nil_append, Nat.add_sub_cancel_left] at hown; have HO := Lib.hid hown; have HC := Lib.hid (((Chg.refl [] w).alloc _).andThen hchg (by simp)); have HF := Lib.hid (fresh0 hnd hfp); clear hown hfp hchg)))
      all_goals
        go_ret3
        rw [HB.out]
        exact ⟨A1, _, c1, fp, rfl, HO.out, HF.out, HC.out⟩
    · have HB := Lib.hid (show rdB bs o most = none by
        unfold rdB; rw [hu]; simp only [Int.toNat_natCast]; rw [← hp, if_neg (by omega)])
      have hok' : most < (v : Int) ∨ ((v : Int) ≤ most ∧ (n : Int) - (p : Int) < (v : Int)) := by omega
      clear hok hr hu hN hp
      rcases hok' with h1 | ⟨h1, h2⟩
      all_goals
        go_enter Try.func29, Try.ntmps29
        go_wp2_with fail
        refine (HU.out).mono ?_
        rintro e w' ⟨rfl, rfl⟩
        go_wp2_with fail
        go_ret3
        rw [HB.out]
        exact ⟨_, _, _, [w.heap.size], rfl, own_new rfl, ⟨by simp, by simp⟩, (Chg.refl _ _).alloc _⟩
end Go.Proofs.Ytgdpeehmjhahfaa
