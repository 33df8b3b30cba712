/-
  Lists of slices of bytes in the statements: compared, marked, asked whether the marks are held.
-/
import Derived.Test.YtgdpeehmjhahfaaLog
import Derived.Test.YtgdpeehmjhahfaaSeg
import Derived.Test.YtgdpeehmjhahfaaRegion
namespace Go.Proofs.Ytgdpeehmjhahfaa
open Go.RowKit
open Go.Proofs

/-- one element of an owned slice: its cells, its blocks, and the slice when the element has turned -/
theorem own_upd {α : Type} {e : TypeId} {C : Cod α} {w : World} {pre post : List α} {x : α} {A : Option Addr} {n c : Nat} {fp : List Nat} (h : (sliceC e C).Own w (pre ++ x :: post) [.slice A n c] fp) (hnd : fp.Nodup) :
    ∃ g ci fi, A = some ⟨g, 0, none⟩ ∧ g ∈ fp ∧ g ∉ fi ∧ C.Own w x ci fi ∧ fi.Nodup ∧ (∀ b ∈ fi, b ∈ fp) ∧ (∀ j u, ci[j]? = some u → w.cell? ⟨g, pre.length * C.size + j, none⟩ = some u) ∧
      ∀ w' x', C.Own w' x' ci fi → (∀ b ∈ fp, b ∉ fi → w'.heap[b]? = w.heap[b]?) → (sliceC e C).Own w' (pre ++ x' :: post) [.slice A n c] fp := by
  have hrd := rd_own h
  have hn := own_len h
  rcases own_cases h with ⟨_, e2, _⟩ | ⟨g, cap, cells, spare, f, e1, rfl, hblk, hall, hnc, hcm, hlen⟩
  · simp at e2
  simp only [List.cons.injEq, Value.slice.injEq, and_true] at e1
  obtain ⟨rfl, rfl, rfl⟩ := e1
  obtain ⟨c1, c2, f1, f2, rfl, rfl, h1, h2⟩ := AllO.split pre (x :: post) cells f hall
  obtain ⟨ci, c3, fi, f3, rfl, rfl, h3, h4⟩ := h2
  have hgn : g ∉ f1 ++ (fi ++ f3) := (List.nodup_cons.1 hnd).1
  have hn2 := (List.nodup_cons.1 hnd).2
  have hl1 := AllO.len (n := C.size) (fun _ _ _ ho => C.own_len ho) _ _ _ h1
  refine ⟨g, ci, fi, rfl, by simp, fun hg => hgn (by simp [hg]), h3, (List.nodup_append.1 (List.nodup_append.1 hn2).2.1).1, fun b hb => by simp [hb], fun j u hu => ?_, fun w' x' ho hk => ?_⟩
  · rw [cell_of_row _ g _ _ e (0, 0) hblk]
    have hj := (List.getElem?_eq_some_iff.1 hu).1
    simp only [List.getElem?_toArray, List.append_assoc]
    rw [List.getElem?_append_right (by omega), hl1, Nat.add_sub_cancel_left, List.getElem?_append_left hj]
    exact hu
  · have hk1 : ∀ b ∈ f1, w'.heap[b]? = w.heap[b]? := fun b hb => hk b (by simp [hb]) (fun hf => (List.nodup_append.1 hn2).2.2 b hb b (by simp [hf]) rfl)
    have hk3 : ∀ b ∈ f3, w'.heap[b]? = w.heap[b]? := fun b hb => hk b (by simp [hb]) (fun hf => (List.nodup_append.1 (List.nodup_append.1 hn2).2.1).2.2 b hf b hb rfl)
    have g1 := AllO.keep _ _ _ h1 (o' := C.Own w') (fun x c f hf ho => C.own_keep ho (fun b hb => hk1 b (hf b hb)))
    have g3 := AllO.keep _ _ _ h4 (o' := C.Own w') (fun x c f hf ho => C.own_keep ho (fun b hb => hk3 b (hf b hb)))
    have hg := own_mk (C := C) (e := e) (w := w') (xs := pre ++ x' :: post) (g := g) (cap := c) (cells := c1 ++ (ci ++ c3)) (spare := spare) (f := f1 ++ (fi ++ f3))
      (by have hb2 := hk g (by simp) (fun hf => hgn (by simp [hf])); unfold Blk at hblk ⊢; rw [hb2]; exact hblk)
      (AllO.append pre (x' :: post) _ _ _ _ g1 ⟨ci, c3, fi, f3, rfl, rfl, ho, g3⟩) (by simpa using hnc) hcm hlen
    have hll : (pre ++ x' :: post).length = (pre ++ x :: post).length := by simp
    rw [hll] at hg
    exact hg

/-- the bytes of a list of slices -/
def sumB (xs : List (List UInt8)) : Nat := (xs.map List.length).sum
def markBB : List (List UInt8) → Nat → List (List UInt8)
  | [], _ => []
  | x :: xs, k => markB x.length k :: markBB xs (k + x.length)
theorem markBB_snoc : ∀ (xs : List (List UInt8)) (x : List UInt8) (k : Nat), markBB (xs ++ [x]) k = markBB xs k ++ [markB x.length (k + sumB xs)]
  | [], x, k => by simp [markBB, sumB]
  | y :: xs, x, k => by simp [markBB, markBB_snoc xs x, sumB, Nat.add_assoc]
theorem markBB_len : ∀ (xs : List (List UInt8)) (k : Nat), (markBB xs k).length = xs.length
  | [], _ => rfl
  | _ :: xs, k => by simp [markBB, markBB_len xs]
theorem sumB_snoc (xs : List (List UInt8)) (x : List UInt8) : sumB (xs ++ [x]) = sumB xs + x.length := by simp [sumB]
theorem sumB_app (xs ys : List (List UInt8)) : sumB (xs ++ ys) = sumB xs + sumB ys := by simp [sumB]
theorem sumB_cons (x : List UInt8) (ys : List (List UInt8)) : sumB (x :: ys) = x.length + sumB ys := by simp [sumB]

theorem cut_at {α : Type} {xs : List α} {k : Nat} (hk : k < xs.length) : ∃ pre x post, xs = pre ++ x :: post ∧ pre.length = k :=
  ⟨xs.take k, xs[k], xs.drop (k + 1), by rw [List.getElem_cons_drop, List.take_append_drop], by simp; omega⟩

set_option maxHeartbeats 400000 in
theorem laws_markByteSS (w : World) (xs : List (List UInt8)) (A : Option Addr) (n c m : Nat) (fp : List Nat) (ho : bytessC.Own w xs [.slice A n c] fp) (hnd : fp.Nodup) (hn : n ≤ 1073741824) (hs : sumB xs ≤ 1073741824) (hm : m ≤ 1073741824) :
    Calls Try.prog 20 #[.slice A n c, .int .i64 m] w (fun e w' => e = .returned (.int .i64 ((m + sumB xs : Nat) : Int)) ∧ bytessC.Own w' (markBB xs m) [.slice A n c] fp ∧ Chg fp w w') := by
  have HO := Lib.hid ho
  have HN := Lib.hid (own_len ho)
  have HD := Lib.hid hnd
  have HS := Lib.hid hs
  clear ho hnd hs
  go_enter Try.func20, Try.ntmps20
  go_wp2
  go_loopw [1, 5] (fun m' i wr => ∃ (k s : Nat) (pre post : List (List UInt8)), k ≤ n ∧ i = .int .i64 k ∧ m' = .int .i64 s ∧ xs = pre ++ post ∧ pre.length = k ∧ s = m + sumB pre ∧ bytessC.Own wr (markBB pre m ++ post) [.slice A n c] fp ∧ Chg fp w wr) (fun _ i _ => n - (intOf i).toNat)
  case atStart => exact ⟨0, m, [], xs, Nat.zero_le _, rfl, rfl, rfl, rfl, by simp [sumB], HO.out, Chg.refl _ _⟩
  case round =>
    obtain ⟨k, s, pre, post, hk, rfl, rfl, hxs, hpl, hsm, hown, hchg⟩ := hrel
    have hsum : s ≤ m + 1073741824 := by have h := HS.out; rw [hxs, sumB_app] at h; omega
    by_cases hlt : k < n
    · have hlt' : (k : Int) < n := by omega
      obtain ⟨x, post', rfl⟩ : ∃ x p, post = x :: p := by
        cases post with
        | nil => exfalso; have h := HN.out; rw [hxs] at h; simp at h; omega
        | cons x p => exact ⟨x, p, rfl⟩
      obtain ⟨g, ci, fi, hA, hgf, hgi, hox, hfin, hfi, hcell, hback⟩ := own_upd hown HD.out
      obtain ⟨Ai, ni, cci, rfl⟩ : ∃ a b c, ci = [.slice a b c] := by
        obtain ⟨v, cells, f, e1, e2, h3, h4⟩ := id hox
        rcases h3.2 with ⟨e3, _⟩ | ⟨g2, cap, cur, e3, _⟩ <;> exact ⟨_, _, _, by rw [e1, e3]⟩
      have hc0 := hcell 0 _ rfl
      rw [markBB_len, hpl] at hc0
      simp only [bytesC, sliceC, Nat.mul_one, Nat.add_zero] at hc0
      have hni := own_len hox
      have hni2 : ni ≤ 1073741824 := by have h := HS.out; rw [hxs, sumB_app, sumB_cons] at h; omega
      have HX := Lib.hid hxs
      have HSM := Lib.hid hsm
      have HP := Lib.hid hpl
      have HOX := Lib.hid hox
      have HB := Lib.hid hback
      have HC := Lib.hid hchg
      have HNI := Lib.hid hni
      have HFI := Lib.hid hfi
      have hlt2 := bytessC.own_lt hown
      have HLT := Lib.hid hlt2
      subst hA
      clear hxs hsm hpl hown hox hback hchg hni hfi hcell hlt2
      go_wp2_with fail
      refine (laws_markByteS _ x Ai ni cci s fi HOX.out hni2 (by omega)).mono ?_
      rintro e w1 ⟨rfl, hown1, hchg1⟩
      have HO1 := Lib.hid (HB.out w1 _ hown1 (fun b hb hnf => hchg1.block b (HLT.out b hb) hnf))
      have HC1 := Lib.hid (HC.out.trans (hchg1.mono HFI.out))
      clear hown1 hchg1
      go_wp2_with fail
      go_roundw
      case rel =>
        refine ⟨k + 1, s + ni, pre ++ [x], post', by omega, by go_num, by go_num, by rw [HX.out]; simp, by simp [HP.out], by rw [sumB_snoc, HSM.out, HNI.out]; omega, ?_, HC1.out⟩
        rw [markBB_snoc, ← HSM.out, ← HNI.out, List.append_assoc]
        exact HO1.out
      case measure => simp [intOf]; omega
    · obtain rfl : k = n := by omega
      have hpost : post = [] := by
        have h := HN.out
        rw [hxs] at h
        simp at h
        exact List.length_eq_zero_iff.1 (by omega)
      subst hpost
      rw [List.append_nil] at hxs hown
      subst hxs
      go_wp2
      go_ret
      exact ⟨ret_i64 (by rw [hsm]), hown, hchg⟩

theorem markBB_at : ∀ (xs : List (List UInt8)) (m k : Nat) (x : List UInt8), xs[k]? = some x → (markBB xs m)[k]? = some (markB x.length (m + sumB (xs.take k)))
  | [], _, _, _, h => by simp at h
  | y :: xs, m, 0, x, h => by simp at h; subst h; simp [markBB, sumB]
  | y :: xs, m, k + 1, x, h => by
    simp only [List.getElem?_cons_succ] at h
    simp only [markBB, List.getElem?_cons_succ, List.take_succ_cons, sumB_cons]
    rw [markBB_at xs _ k x h, Nat.add_assoc]
theorem sumB_take (xs : List (List UInt8)) (k : Nat) (x : List UInt8) (h : xs[k]? = some x) : sumB (xs.take (k + 1)) = sumB (xs.take k) + x.length := by
  rw [List.take_add_one, h]; simp [sumB]
theorem sumB_le (xs : List (List UInt8)) (k : Nat) : sumB (xs.take k) ≤ sumB xs := by
  have h := sumB_app (xs.take k) (xs.drop k)
  rw [List.take_append_drop] at h; omega
/-- an element of a list of slices of bytes that reads -/
theorem slice_at {w : World} {B : Nat} {xs : List (List UInt8)} {A : Option Addr} {n c k : Nat} {x : List UInt8} (h : bytessC.Rd w B xs [.slice A n c]) (hx : xs[k]? = some x) :
    ∃ b off Ai ni ci, A = some ⟨b, off, none⟩ ∧ b < B ∧ bytesC.Rd w B x [.slice Ai ni ci] ∧ w.cell? ⟨b, off + k, none⟩ = some (.slice Ai ni ci) := by
  obtain ⟨b, off, ci, rfl, hb, hr, hc⟩ := rd_at h hx
  obtain ⟨Ai, cci, cells, rfl, h2⟩ := id hr
  have := hc 0 _ rfl
  simp only [bytesC, sliceC, Nat.mul_one, Nat.add_zero] at this
  exact ⟨b, off, Ai, _, cci, rfl, hb, hr, this⟩

set_option maxHeartbeats 400000 in
theorem laws_heldByteSS (w : World) (xs : List (List UInt8)) (A : Option Addr) (n c m : Nat) (hr : bytessC.Rd w w.heap.size (markBB xs m) [.slice A n c]) (hn : n ≤ 1073741824) (hs : sumB xs ≤ 1073741824) (hm : m ≤ 1073741824) :
    Calls Try.prog 21 #[.slice A n c, .int .i64 m] w (Ret (.int .i64 ((m + sumB xs : Nat) : Int)) w) := by
  have HR := Lib.hid hr
  have HN := Lib.hid (show n = xs.length by rw [rds_len hr, markBB_len])
  clear hr
  go_enter Try.func21, Try.ntmps21
  go_wp2
  go_loopw [1, 5] (fun m' i wr => ∃ (k s : Nat), k ≤ n ∧ i = .int .i64 k ∧ m' = .int .i64 s ∧ s = m + sumB (xs.take k) ∧ Chg [] w wr) (fun _ i _ => n - (intOf i).toNat)
  case atStart => exact ⟨0, m, Nat.zero_le _, rfl, rfl, by simp [sumB], Chg.refl _ _⟩
  case round =>
    obtain ⟨k, s, hk, rfl, rfl, hsm, hchg⟩ := hrel
    have hsum : s ≤ m + 1073741824 := by have h := sumB_le xs k; omega
    by_cases hlt : k < n
    · have hlt' : (k : Int) < n := by omega
      obtain ⟨x, hx⟩ : ∃ x, xs[k]? = some x := ⟨_, List.getElem?_eq_getElem (by have := HN.out; omega)⟩
      obtain ⟨b, off, Ai, ni, ci, rfl, hb, hrx, hc⟩ := slice_at (rd_chg HR.out hchg) (markBB_at xs m k x hx)
      rw [← hsm] at hrx
      have hni := rds_len hrx
      rw [markB_len] at hni
      rw [← hni] at hrx
      have hst := sumB_take xs k x hx
      have hni2 : ni ≤ 1073741824 := by have h := sumB_le xs (k + 1); omega
      have HST := Lib.hid (show s + ni = m + sumB (xs.take (k + 1)) by omega)
      have HRX := Lib.hid hrx
      have HC := Lib.hid hchg
      clear hsm hrx hchg hst hni hx
      go_wp2_with fail
      refine (laws_heldByteS _ Ai ni ci s HRX.out hni2 (by omega)).mono ?_
      rintro e w1 ⟨rfl, hchg1⟩
      have HC1 := Lib.hid (HC.out.trans hchg1)
      clear hchg1
      go_wp2_with fail
      go_roundw
      case rel => exact ⟨k + 1, s + ni, by omega, by go_num, by go_num, HST.out, HC1.out⟩
      case measure => simp [intOf]; omega
    · obtain rfl : k = n := by omega
      rw [List.take_of_length_le (by have := HN.out; omega)] at hsm
      go_wp2
      go_ret
      exact ⟨ret_i64 (by rw [hsm]), hchg⟩

set_option maxHeartbeats 1000000 in
theorem laws_eqByteSS_same (w : World) (xs : List (List UInt8)) (A : Option Addr) (n c : Nat) (B : Option Addr) (m d : Nat) (hx : bytessC.Rd w w.heap.size xs [.slice A n c]) (hy : bytessC.Rd w w.heap.size xs [.slice B m d])
    (hn : n ≤ 1073741824) (hs : sumB xs ≤ 1073741824) :
    Calls Try.prog 19 #[.slice A n c, .slice B m d] w (Ret (.bool true) w) := by
  have HX := Lib.hid hx
  have HN := Lib.hid (rds_len hx)
  have hm : m = n := by rw [rds_len hx, rds_len hy]
  subst hm
  have HY := Lib.hid hy
  clear hx hy
  go_enter Try.func19, Try.ntmps19
  go_wp2
  go_loopw [4, 5] (fun _ i wr => ∃ (k : Nat), k ≤ m ∧ i = .int .i64 k ∧ Chg [] w wr) (fun _ i _ => m - (intOf i).toNat)
  case atStart => exact ⟨0, Nat.zero_le _, rfl, Chg.refl _ _⟩
  case round =>
    obtain ⟨k, hk, rfl, hchg⟩ := hrel
    by_cases hlt : k < m
    · have hlt' : (k : Int) < m := by omega
      obtain ⟨x, hx⟩ : ∃ x, xs[k]? = some x := ⟨_, List.getElem?_eq_getElem (by have := HN.out; omega)⟩
      obtain ⟨b, off, Ai, ni, ci, rfl, hb, hrx, hc⟩ := slice_at (rd_chg HX.out hchg) hx
      obtain ⟨b2, off2, Aj, nj, cj, rfl, hb2, hrx2, hc2⟩ := slice_at (rd_chg HY.out hchg) hx
      have hni := rds_len hrx
      have hnj := rds_len hrx2
      have hst := sumB_take xs k x hx
      have hni2 : ni ≤ 1073741824 := by have h := sumB_le xs (k + 1); omega
      have hnj2 : nj ≤ 1073741824 := by have h := sumB_le xs (k + 1); omega
      have HRX := Lib.hid hrx
      have HRX2 := Lib.hid hrx2
      have HC := Lib.hid hchg
      clear hrx hrx2 hchg hst hni hnj hx
      go_wp2_with fail
      refine T_keep (fun i => decide (i < 8)) (by kernel_rfl) ?_
      refine T_take 0 (v := ?_) (by simp only [List.getElem?_toArray, List.getElem?_cons_zero]; rfl) (by kernel_rfl) (by exact fun _ _ _ h => h) (Keeps.drew _) (.inl ⟨rfl, fun w' hk => ?_⟩) ?_
      rotate_left 1
      · ((try unfold Keeps at hk); go_simp; (try rfl))
      try simp only [Act.put, List.setIfInBounds_toArray, List.set_cons_zero, List.set_cons_succ]
      refine T_take 1 (v := ?_) (by simp only [List.getElem?_toArray, List.getElem?_cons_zero, List.getElem?_cons_succ]; rfl) (by kernel_rfl) (by exact fun _ _ _ h => h) (Keeps.drew _) (.inl ⟨rfl, fun w' hk => ?_⟩) ?_
      rotate_left 1
      · ((try unfold Keeps at hk); go_simp; (try rfl))
      try simp only [Act.put, List.setIfInBounds_toArray, List.set_cons_zero, List.set_cons_succ]
      refine T_take 2 (v := ?_) (by simp only [List.getElem?_toArray, List.getElem?_cons_zero, List.getElem?_cons_succ]; rfl) (by kernel_rfl) (by exact fun _ _ _ h => h) (Keeps.drew _) (.inl ⟨rfl, fun w' hk => ?_⟩) ?_
      rotate_left 1
      · ((try unfold Keeps at hk); go_simp; (try rfl))
      try simp only [Act.put, List.setIfInBounds_toArray, List.set_cons_zero, List.set_cons_succ]
      refine T_take 3 (v := ?_) (by simp only [List.getElem?_toArray, List.getElem?_cons_zero, List.getElem?_cons_succ]; rfl) (by kernel_rfl) (by exact fun _ _ _ h => h) (Keeps.drew _) (.inl ⟨rfl, fun w' hk => ?_⟩) ?_
      rotate_left 1
      · ((try unfold Keeps at hk); go_simp; (try rfl))
      try simp only [Act.put, List.setIfInBounds_toArray, List.set_cons_zero, List.set_cons_succ]
      refine T_take 4 (v := ?_) (by simp only [List.getElem?_toArray, List.getElem?_cons_zero, List.getElem?_cons_succ]; rfl) (by kernel_rfl) (by exact fun _ _ _ h => h) (Keeps.drew _) (.inl ⟨rfl, fun w' hk => ?_⟩) ?_
      rotate_left 1
      · ((try unfold Keeps at hk); go_simp; (try rfl))
      try simp only [Act.put, List.setIfInBounds_toArray, List.set_cons_zero, List.set_cons_succ]
      refine T_take 5 (v := ?_) (by simp only [List.getElem?_toArray, List.getElem?_cons_zero, List.getElem?_cons_succ]; rfl) (by kernel_rfl) (by exact fun _ _ _ h => h) (Keeps.drew _) (.inl ⟨rfl, fun w' hk => ?_⟩) ?_
      rotate_left 1
      · ((try unfold Keeps at hk); go_simp; (try rfl))
      try simp only [Act.put, List.setIfInBounds_toArray, List.set_cons_zero, List.set_cons_succ]
      refine T_take 6 (v := ?_) (by simp only [List.getElem?_toArray, List.getElem?_cons_zero, List.getElem?_cons_succ]; rfl) (by kernel_rfl) (by exact fun _ _ _ h => h) (Keeps.drew _) (.inl ⟨rfl, fun w' hk => ?_⟩) ?_
      rotate_left 1
      · ((try unfold Keeps at hk); go_simp; (try rfl))
      try simp only [Act.put, List.setIfInBounds_toArray, List.set_cons_zero, List.set_cons_succ]
      refine T_take 7 (v := ?_) (by simp only [List.getElem?_toArray, List.getElem?_cons_zero, List.getElem?_cons_succ]; rfl) (by kernel_rfl) (by exact fun _ _ _ h => h) (Keeps.drew _) (.inl ⟨rfl, fun w' hk => ?_⟩) ?_
      rotate_left 1
      · ((try unfold Keeps at hk); go_simp; (try rfl))
      try simp only [Act.put, List.setIfInBounds_toArray, List.set_cons_zero, List.set_cons_succ]
      refine T_one 8 (by simp only [List.getElem?_toArray, List.getElem?_cons_zero, List.getElem?_cons_succ]; rfl) rfl (by kernel_rfl) (fun K hK => ?_)
      go_simp
      refine (laws_eqByteS_same _ x Ai ni ci Aj nj cj (rd_chg HRX.out (Chg.refl [] wr).drew) (rd_chg HRX2.out (Chg.refl [] wr).drew) hni2 hnj2).mono ?_
      rintro e w1 ⟨rfl, hchg1⟩
      have HC1 := Lib.hid (HC.out.drew.trans hchg1)
      refine hK _ _ (fun h => by simp at h) ?_
      clear hchg1
      try simp only [Act.put, List.setIfInBounds_toArray, List.set_cons_zero, List.set_cons_succ]
      refine T_one 9 (by simp only [List.getElem?_toArray, List.getElem?_cons_zero, List.getElem?_cons_succ]; rfl) rfl (by kernel_rfl) (fun K hK => ?_)
      go_simp
      refine hK _ _ (fun h => by simp at h) ?_
      try simp only [Act.put, List.setIfInBounds_toArray, List.set_cons_zero, List.set_cons_succ]
      refine T_done (by kernel_rfl) ?_ _
      go_wp2_with fail
      go_roundw
      case rel => exact ⟨k + 1, by omega, by go_num, HC1.out⟩
      case measure => simp [intOf]; omega
    · obtain rfl : k = m := by omega
      go_wp2
      go_ret
      exact ⟨rfl, hchg⟩
end Go.Proofs.Ytgdpeehmjhahfaa
