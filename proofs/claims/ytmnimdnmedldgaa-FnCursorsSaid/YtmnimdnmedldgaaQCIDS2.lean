/-
  Contracts of the program's functions for the statements Stores, Deletions, Indexes, Cursors, by the rules of the logic. Conditions: none but those in the theorems.
-/
import Derived.Test.YtmnimdnmedldgaaQCIDS1
set_option maxHeartbeats 4000000
set_option maxRecDepth 100000
namespace Go.Proofs.Ytmnimdnmedldgaa
open Go.RowKit
open Go.Proofs
set_option linter.unusedVariables false
set_option linter.unusedSimpArgs false

def be6 (n : Nat) : List UInt8 := (List.range 6).map fun j => UInt8.ofNat (n / 2 ^ (8 * (5 - j)))
def keyN (k : KeyT) : Nat := (k.2.1 + 1000000000000).toNat
def encK (k : KeyT) : List UInt8 := if isKey k then (UInt8.ofNat k.1.toNat :: (if k.1 = 2 then [] else be6 (keyN k))) ++ k.2.2.data.toList else []
theorem be6_len (n : Nat) : (be6 n).length = 6 := by simp [be6]
theorem be6_succ {n j : Nat} (h : j < 6) : (be6 n).take (j + 1) = (be6 n).take j ++ [UInt8.ofNat (n / 2 ^ (8 * (5 - j)))] := by
 rw [List.take_add_one]
 congr 1
 simp [be6, h]
theorem key_rng {k : KeyT} (h : isKey k = true) : (1 ≤ k.1 ∧ k.1 ≤ 3) ∧ (-1000000000000 ≤ k.2.1 ∧ k.2.1 ≤ 1000000000000) ∧ k.2.2.size ≤ 12 := by
 simp only [isKey, kText, Bool.and_eq_true, decide_eq_true_eq] at h
 omega
theorem encK_bad {k : KeyT} (h : isKey k = false) : encK k = [] := by rw [encK, h]; rfl
theorem encK_txt {k : KeyT} (h : isKey k = true) (h2 : k.1 = 2) : encK k = [UInt8.ofNat k.1.toNat] ++ k.2.2.data.toList := by rw [encK, if_pos h, if_pos h2]
theorem encK_num {k : KeyT} {j : Nat} (h : isKey k = true) (h2 : ¬ k.1 = 2) (hj : 6 ≤ j) : encK k = (UInt8.ofNat k.1.toNat :: (be6 (keyN k)).take j) ++ k.2.2.data.toList := by
 rw [encK, if_pos h, if_neg h2, List.take_of_length_le (by rw [be6_len]; exact hj)]
theorem encK_end {k : KeyT} {j : Nat} (h : isKey k = true) (hj : k.1 = 2 → j = 0) (hc : (decide ((0 : Int) ≤ 5 - (j : Int)) && !decide (k.1 = 2)) = false) : encK k = (UInt8.ofNat k.1.toNat :: (be6 (keyN k)).take j) ++ k.2.2.data.toList := by
 by_cases h2 : k.1 = 2
 ·rw [hj h2, encK_txt h h2]; rfl
 ·rw [decide_eq_false h2] at hc
  exact encK_num h h2 (by have h3 := hc; simp at h3; omega)
theorem encK_len (k : KeyT) : (encK k).length ≤ 19 := by
 unfold encK
 split
 ·rename_i h
  have h1 := (key_rng h).2.2
  have h2 : k.2.2.data.toList.length ≤ 12 := h1
  split
  ·simp only [List.length_append, List.length_cons, List.length_nil]; omega
  ·simp only [List.length_append, List.length_cons, be6_len]; omega
 ·simp
theorem pow_sh (j : Nat) (hj : j < 6) : (2 ^ (8 * (5 - (j : Int))).toNat : Nat) = 2 ^ (8 * (5 - j)) := by
 rw [show (8 * (5 - (j : Int))).toNat = 8 * (5 - j) by omega]
theorem key_byte {k : KeyT} {j : Nat} (h : isKey k = true) (hj : j < 6) : (k.2.1 + 1000000000000) / ((2 ^ (8 * (5 - (j : Int))).toNat : Nat) : Int) = ((keyN k / 2 ^ (8 * (5 - j)) : Nat) : Int) := by
 have h1 := (key_rng h).2.1
 rw [pow_sh j hj, show k.2.1 + 1000000000000 = ((keyN k : Nat) : Int) by unfold keyN; omega, Int.natCast_ediv]
theorem key_byteQ {k : KeyT} {j : Nat} (h : isKey k = true) (hj : j < 6) : ∃ q : Nat, (k.2.1 + 1000000000000) / ((2 ^ (8 * (5 - (j : Int))).toNat : Nat) : Int) = (q : Int) ∧ q ≤ 2000000000000 := by
 have h1 := (key_rng h).2.1
 exact ⟨_, key_byte h hj, Nat.le_trans (Nat.div_le_self _ _) (by unfold keyN; omega)⟩
theorem be_step {k : KeyT} {j : Nat} {z : Int} (h : isKey k = true) (hj : j < 6) (hz : z = (k.2.1 + 1000000000000) / ((2 ^ (8 * (5 - (j : Int))).toNat : Nat) : Int)) :
  (UInt8.ofNat k.1.toNat :: (be6 (keyN k)).take j).flatMap eByte ++ [DV.int .u8 (IntKind.u8.wrap z)] = (UInt8.ofNat k.1.toNat :: (be6 (keyN k)).take (j + 1)).flatMap eByte := by
 rw [key_byte h hj] at hz
 rw [app_byte hz, be6_succ hj]; rfl
theorem u8_and (z : Int) : IntKind.u8.wrap (z % 256) = IntKind.u8.wrap z := by simp [IntKind.wrap, IntKind.signed, IntKind.bits]
theorem byte_hd {k : KeyT} (h : isKey k = true) : [DV.int .u8 (IntKind.u8.wrap k.1)] = (UInt8.ofNat k.1.toNat :: (be6 (keyN k)).take 0).flatMap eByte := by
 have h1 := (key_rng h).1
 exact app_byte (o := []) (m := k.1.toNat) (by omega)
def encRN (r : RecT) : Nat → List UInt8
 | 0 => appU [] (r.length : Int)
 | k + 1 => appU (appU (encRN r k) ((r.getD (k : Int).toNat default).1.data.toList.length : Int) ++ (r.getD (k : Int).toNat default).1.data.toList) (r.getD (k : Int).toNat default).2
def encR (r : RecT) : List UInt8 := if isRec r then encRN r r.length else []
theorem encR_bad {r : RecT} (h : isRec r = false) : encR r = [] := by rw [encR, h]; rfl
theorem encR_ok {r : RecT} {k : Nat} (h : isRec r = true) (hk : k = r.length) : encR r = encRN r k := by rw [encR, if_pos h, hk]
theorem name_size {s : Str} (h : isName s = true) : 1 ≤ s.size ∧ s.size ≤ 8 := by
 simp only [isName, Bool.and_eq_true, decide_eq_true_eq] at h; omega
theorem rec_fld {r : RecT} {k : Nat} (h : isRec r = true) (hk : k < r.length) : isName (r.getD (k : Int).toNat default).1 = true ∧ 0 ≤ (r.getD (k : Int).toNat default).2 ∧ (r.getD (k : Int).toNat default).2 ≤ 1000000000 := by
 simp only [isRec, Bool.and_eq_true, List.all_eq_true] at h
 have h1 := h.1 k (List.mem_range.2 hk)
 unfold recBad at h1
 simp only [Bool.not_or, Bool.not_not, Bool.and_eq_true, decide_eq_true_eq] at h1
 exact ⟨h1.1.1, h1.1.2.1, h1.1.2.2⟩
theorem rec_len {r : RecT} (h : isRec r = true) : r.length ≤ 6 := by
 simp only [isRec, Bool.and_eq_true, decide_eq_true_eq] at h; omega
theorem encRN_len {r : RecT} (h : isRec r = true) : ∀ k, k ≤ r.length → (encRN r k).length ≤ 6 + 20 * k
 | 0, _ => by have := appU_len [] (r.length : Int); simpa [encRN] using this
 | k + 1, hk => by
  have ih := encRN_len h k (by omega)
  have h1 := name_size (rec_fld h (show k < r.length by omega)).1
  have h1 : (r.getD (k : Int).toNat default).1.data.toList.length ≤ 8 := h1.2
  have h2 := appU_len (encRN r k) ((r.getD (k : Int).toNat default).1.data.toList.length : Int)
  have h3 := appU_len (appU (encRN r k) ((r.getD (k : Int).toNat default).1.data.toList.length : Int) ++ (r.getD (k : Int).toNat default).1.data.toList) (r.getD (k : Int).toNat default).2
  rw [List.length_append] at h3
  rw [encRN]
  omega
theorem encR_len (r : RecT) : (encR r).length ≤ 126 := by
 unfold encR
 split
 ·rename_i h
  have h1 := encRN_len h r.length (Nat.le_refl _)
  have h2 := rec_len h
  omega
 ·simp
def sizeI (x : ItemT) : Nat := (encK x.1).length + (encR x.2).length
def sizeS (s : StoreT) : Nat := wSum sizeI s.2.1
theorem sizeI_le (x : ItemT) : sizeI x ≤ 145 := by have h1 := encK_len x.1; have h2 := encR_len x.2; unfold sizeI; omega
theorem wSum_cap {α : Type} {c : α → Nat} {B : Nat} (h : ∀ x, c x ≤ B) : ∀ xs : List α, wSum c xs ≤ B * xs.length
 | [] => by simp [wSum]
 | x :: xs => by
  have := wSum_cap h xs
  have := h x
  simp only [wSum, List.map_cons, List.sum_cons, List.length_cons] at *
  rw [Nat.mul_add]; omega
theorem sizeS_le (s : StoreT) : sizeS s ≤ 145 * wStore s := by
 have h1 := wSum_cap sizeI_le s.2.1
 have h2 : wStore s = s.1.size + (s.2.1.length + wSum wItem s.2.1) := rfl
 unfold sizeS
 have h3 : 145 * s.2.1.length ≤ 145 * wStore s := Nat.mul_le_mul_left _ (by omega)
 omega
theorem wSto_len (x : StoreT) (h : wStore x ≤ 1048576) : x.2.1.length ≤ 1048576 := by
 have h3 : wStore x = x.1.size + (x.2.1.length + wSum wItem x.2.1) := rfl
 omega

theorem ok_impl_EncodeKey {k : KeyT}  : KFn Try.prog 61 [.agg [(.dv [] (.int .i64 (k.1))), (.dv [] (.int .i64 (k.2.1))), (.dv [] (.str (k.2.2)))]] (.one (.key 12)) [(12, some (kcOf false (bytesD (encK k))))] := by
 refine ⟨fn_intro Try.func61 rfl Try.ntmps61 Try.results61 rfl (fun C => ?_)⟩
 refine yF 0 0 rfl rfl fun f0_0 => ?_
 refine yF 0 1 rfl rfl fun f0_1 => ?_
 refine yF 0 2 rfl rfl fun f0_2 => ?_
 iterate 7 refine z ?_
 refine zC Try.call71 ?_ (hf := ok_impl_IsKey (k := k) )
 iterate 2 refine z ?_
 refine yQ rfl (fun c1 => ?_) fun c1 => ?_
 ·skip
  have hk0 : isKey k = false := by simpa using c1
  refine z ?_
  refine o_build0 (k := 12) hT rfl rfl rfl rfl rfl rfl rfl rfl ?_
  iterate 2 refine z ?_
  refine ok_weak (σ' := ⟨[(2, .one (.key 12))], [], [(12, some (kcOf false (bytesD (encK k))))]⟩) (weak_sub ⟨rfl, trivial⟩ trivial ⟨(by first | exact congrArg (fun l : List UInt8 => some (some (KC.mk false 5 1 l.length (l.flatMap eByte)))) (show ([] : List UInt8) = encK k from (encK_bad hk0).symm) | rfl), trivial⟩ rfl) ?_
  iterate 2 refine z ?_
  refine fin1 (res_tmp rfl) ?_
  exact ⟨rfl, rfl⟩
 ·skip
  have hk : isKey k = true := by simpa using c1
  have hrg := key_rng hk
  iterate 5 refine z ?_
  refine yO rfl rfl (pu_convI hT rfl rfl rfl (ev_tmp rfl)) rfl ?_
  refine o_build1 (k := 12) (js := []) hT rfl rfl rfl rfl rfl rfl rfl rfl rfl (ev_tmp rfl) rfl rfl (ow_cons' (ow_dv rfl) ow_nil rfl) (by decide) (by decide) rfl rfl ?_
  simp only [killT, killB, SV.kill, CV.kill, kk, Nat.reduceBEq]
  iterate 8 refine z ?_
  refine yQ rfl (fun c2 => ?_) fun c2 => ?_
  ·skip
   have hn2 : ¬ k.1 = 2 := by simpa using c2
   have d2 := nd_t c2
   iterate 4 refine z ?_
   refine ok_loop (ι := Nat) (fun zz => ⟨[(1, .box 1 0), (2, .one .nil), (3, .one (.key 12)), (4, .one (.dv [] (.int .i64 (5 - (zz : Int)))))], [(1, 28, [(.dv [] (.int .i64 (k.1))), (.dv [] (.int .i64 (k.2.1))), (.dv [] (.str (k.2.2)))])], [(12, some (kcOf false (.sl 5 1 ((UInt8.ofNat k.1.toNat :: (be6 (keyN k)).take zz).length) ((UInt8.ofNat k.1.toNat :: (be6 (keyN k)).take zz).flatMap eByte))))]⟩) (fun zz => zz ≤ 6) (fun zz => 6 - zz) (0) ?_ (weak_sub ⟨rfl, rfl, rfl, rfl, trivial⟩ ⟨rfl, trivial⟩ ⟨(congrArg (fun cs => some (some (KC.mk false 5 1 1 cs))) (byte_hd hk)), trivial⟩ rfl) (fun zz hx => ?_)
   ·omega
   obtain ⟨j, rfl⟩ : ∃ v, v = zz := ⟨_, rfl⟩
   replace hx : j ≤ 6 := hx
   show Ok _ _ _ _ _ (⟨[(1, .box 1 0), (2, .one .nil), (3, .one (.key 12)), (4, .one (.dv [] (.int .i64 (5 - (j : Int)))))], [(1, 28, [(.dv [] (.int .i64 (k.1))), (.dv [] (.int .i64 (k.2.1))), (.dv [] (.str (k.2.2)))])], [(12, some (kcOf false (.sl 5 1 ((UInt8.ofNat k.1.toNat :: (be6 (keyN k)).take j).length) ((UInt8.ofNat k.1.toNat :: (be6 (keyN k)).take j).flatMap eByte))))]⟩ : St)
   iterate 5 refine z ?_
   refine yQ rfl (fun c3 => ?_) fun c3 => ?_
   ·skip
    have d3 := of_decide_eq_true c3
    have hj6 : j < 6 := by omega
    iterate 4 refine z ?_
    refine ok_region ?_
    iterate 5 refine z ?_
    refine yO rfl rfl (pu_mulR rfl (ev_int (inR_lit rfl)) (ev_tmp rfl) (inR64 (by omega) (by omega))) rfl ?_
    refine yO rfl rfl (pu_shrN rfl (ev_tmp rfl) (ev_tmp rfl) (by omega) (by omega) (by show _ ≤ 64; omega)) rfl ?_
    refine yO rfl rfl (pu_convI hT rfl rfl rfl (ev_tmp rfl)) rfl ?_
    refine o_build1 (k := 28) (js := []) hT rfl rfl rfl rfl rfl rfl rfl rfl rfl (ev_tmp rfl) rfl rfl (ow_cons' (ow_dv rfl) ow_nil rfl) (by decide) (by decide) rfl rfl ?_
    simp only [killT, killB, SV.kill, CV.kill, kk, Nat.reduceBEq]
    refine o_appK (k := 12) (j := 28) (cs := (UInt8.ofNat k.1.toNat :: (be6 (keyN k)).take (j + 1)).flatMap eByte) (n := (UInt8.ofNat k.1.toNat :: (be6 (keyN k)).take (j + 1)).length) hT rfl rfl rfl rfl rfl rfl rfl (ev_tmp rfl) rfl rfl rfl (ev_tmp rfl) rfl rfl (by decide) (by dsimp only [kcOf]; simp only [List.length_cons, List.length_take]; omega) (by dsimp only [kcOf]; simp only [List.length_cons, List.length_take]; omega) (by rw [be6_succ hj6]; simp) (be_step hk hj6 rfl) ?_
    simp only [killT, killB, SV.kill, CV.kill, kk, Nat.reduceBEq]
    refine z ?_
    refine ops_nil ?_
    iterate 2 refine z ?_
    refine ok_region ?_
    iterate 4 refine z ?_
    refine ⟨j + 1, ?_, ?_, weak_sub ⟨rfl, rfl, rfl, (eqSlotI (by omega)), trivial⟩ ⟨rfl, trivial⟩ ⟨rfl, trivial⟩ rfl⟩
    ·omega
    ·omega
   ·skip
    have d3 := of_decide_eq_false c3
    iterate 9 refine z ?_
    refine o_appS (k := 12) (cs := (encK k).flatMap eByte) (n := (encK k).length) hT rfl rfl rfl rfl rfl rfl (by kernel_rfl) rfl (ev_tmp rfl) rfl rfl rfl (ev_tmp rfl) (by dsimp only [kcOf]; have := be6_len (keyN k); have h12 := hrg.2.2; try simp only [List.length_cons, List.length_take]; omega) (by rw [encK_num hk hn2 (show 6 ≤ j by omega), List.length_append] <;> rfl) (by rw [encK_num hk hn2 (show 6 ≤ j by omega), List.flatMap_append] <;> rfl) ?_
    simp only [killT, killB, SV.kill, CV.kill, kk, Nat.reduceBEq]
    iterate 2 refine z ?_
    refine ok_weak (σ' := ⟨[(2, .one (.key 12))], [], [(12, some (kcOf false (bytesD (encK k))))]⟩) (weak_sub ⟨rfl, trivial⟩ trivial ⟨(by first | exact congrArg (fun l : List UInt8 => some (some (KC.mk false 5 1 l.length (l.flatMap eByte)))) (show ([] : List UInt8) = encK k from (encK_bad hk0).symm) | rfl), trivial⟩ rfl) ?_
    refine z ?_
    refine fin1 (res_tmp rfl) ?_
    exact ⟨rfl, rfl⟩
  ·skip
   have hn2 : k.1 = 2 := by simpa using c2
   have d2 := nd_f c2
   iterate 6 refine z ?_
   refine o_appS (k := 12) (cs := (encK k).flatMap eByte) (n := (encK k).length) hT rfl rfl rfl rfl rfl rfl (by kernel_rfl) rfl (ev_tmp rfl) rfl rfl rfl (ev_tmp rfl) (by dsimp only [kcOf]; have h12 := hrg.2.2; omega) (by rw [encK_txt hk hn2, List.length_append] <;> rfl) (by rw [encK_txt hk hn2, List.flatMap_append]; exact congrArg (fun z => z ++ _) (byte_hd hk)) ?_
   simp only [killT, killB, SV.kill, CV.kill, kk, Nat.reduceBEq]
   iterate 2 refine z ?_
   refine ok_weak (σ' := ⟨[(2, .one (.key 12))], [], [(12, some (kcOf false (bytesD (encK k))))]⟩) (weak_sub ⟨rfl, trivial⟩ trivial ⟨(by first | exact congrArg (fun l : List UInt8 => some (some (KC.mk false 5 1 l.length (l.flatMap eByte)))) (show ([] : List UInt8) = encK k from (encK_bad hk0).symm) | rfl), trivial⟩ rfl) ?_
   refine z ?_
   refine fin1 (res_tmp rfl) ?_
   exact ⟨rfl, rfl⟩
theorem ok_spec_EncodeKey {k : KeyT}  : KFn Try.prog 21 [.agg [(.dv [] (.int .i64 (k.1))), (.dv [] (.int .i64 (k.2.1))), (.dv [] (.str (k.2.2)))]] (.one (.key 12)) [(12, some (kcOf false (bytesD (encK k))))] := by
 refine ⟨fn_intro Try.func21 rfl Try.ntmps21 Try.results21 rfl (fun C => ?_)⟩
 refine yF 0 0 rfl rfl fun f0_0 => ?_
 refine yF 0 1 rfl rfl fun f0_1 => ?_
 refine yF 0 2 rfl rfl fun f0_2 => ?_
 iterate 7 refine z ?_
 refine zC Try.call40 ?_ (hf := ok_spec_IsKey (k := k) )
 iterate 2 refine z ?_
 refine yQ rfl (fun c1 => ?_) fun c1 => ?_
 ·skip
  have hk0 : isKey k = false := by simpa using c1
  refine z ?_
  refine o_build0 (k := 12) hT rfl rfl rfl rfl rfl rfl rfl rfl ?_
  iterate 2 refine z ?_
  refine ok_weak (σ' := ⟨[(2, .one (.key 12))], [], [(12, some (kcOf false (bytesD (encK k))))]⟩) (weak_sub ⟨rfl, trivial⟩ trivial ⟨(by first | exact congrArg (fun l : List UInt8 => some (some (KC.mk false 5 1 l.length (l.flatMap eByte)))) (show ([] : List UInt8) = encK k from (encK_bad hk0).symm) | rfl), trivial⟩ rfl) ?_
  iterate 2 refine z ?_
  refine fin1 (res_tmp rfl) ?_
  exact ⟨rfl, rfl⟩
 ·skip
  have hk : isKey k = true := by simpa using c1
  have hrg := key_rng hk
  iterate 5 refine z ?_
  refine yO rfl rfl (pu_convI hT rfl rfl rfl (ev_tmp rfl)) rfl ?_
  refine o_build1 (k := 12) (js := []) hT rfl rfl rfl rfl rfl rfl rfl rfl rfl (ev_tmp rfl) rfl rfl (ow_cons' (ow_dv rfl) ow_nil rfl) (by decide) (by decide) rfl rfl ?_
  simp only [killT, killB, SV.kill, CV.kill, kk, Nat.reduceBEq]
  iterate 7 refine z ?_
  refine ok_loop (ι := Nat) (fun zz => ⟨[(1, .box 1 0), (2, .one .nil), (3, .one (.key 12)), (4, .one (.dv [] (.int .i64 (5 - (zz : Int)))))], [(1, 28, [(.dv [] (.int .i64 (k.1))), (.dv [] (.int .i64 (k.2.1))), (.dv [] (.str (k.2.2)))])], [(12, some (kcOf false (.sl 5 1 ((UInt8.ofNat k.1.toNat :: (be6 (keyN k)).take zz).length) ((UInt8.ofNat k.1.toNat :: (be6 (keyN k)).take zz).flatMap eByte))))]⟩) (fun zz => zz ≤ 6 ∧ (k.1 = 2 → zz = 0)) (fun zz => 6 - zz) (0) ?_ (weak_sub ⟨rfl, rfl, rfl, rfl, trivial⟩ ⟨rfl, trivial⟩ ⟨(congrArg (fun cs => some (some (KC.mk false 5 1 1 cs))) (byte_hd hk)), trivial⟩ rfl) (fun zz hx => ?_)
  ·exact ⟨by omega, fun _ => rfl⟩
  obtain ⟨j, rfl⟩ : ∃ v, v = zz := ⟨_, rfl⟩
  replace hx : j ≤ 6 ∧ (k.1 = 2 → j = 0) := hx
  obtain ⟨hj, hj2⟩ := hx
  show Ok _ _ _ _ _ (⟨[(1, .box 1 0), (2, .one .nil), (3, .one (.key 12)), (4, .one (.dv [] (.int .i64 (5 - (j : Int)))))], [(1, 28, [(.dv [] (.int .i64 (k.1))), (.dv [] (.int .i64 (k.2.1))), (.dv [] (.str (k.2.2)))])], [(12, some (kcOf false (.sl 5 1 ((UInt8.ofNat k.1.toNat :: (be6 (keyN k)).take j).length) ((UInt8.ofNat k.1.toNat :: (be6 (keyN k)).take j).flatMap eByte))))]⟩ : St)
  iterate 10 refine z ?_
  refine yQ rfl (fun c2 => ?_) fun c2 => ?_
  ·skip
   have hj6 : j < 6 := by have := (Bool.and_eq_true _ _ ▸ c2 : _ ∧ _).1; have := of_decide_eq_true this; omega
   have hn2 : ¬ k.1 = 2 := by have := (Bool.and_eq_true _ _ ▸ c2 : _ ∧ _).2; simpa using this
   obtain ⟨q, hq, hqk⟩ := key_byteQ hk hj6
   iterate 4 refine z ?_
   refine ok_region ?_
   iterate 5 refine z ?_
   refine yO rfl rfl (pu_mulR rfl (ev_int (inR_lit rfl)) (ev_tmp rfl) (inR64 (by omega) (by omega))) rfl ?_
   refine yO rfl rfl (pu_shrN rfl (ev_tmp rfl) (ev_tmp rfl) (by omega) (by omega) (by show _ ≤ 64; omega)) rfl ?_
   refine yO rfl rfl (pu_andR rfl (ev_tmp rfl) (ev_int (inR_lit rfl)) (and255 (by omega) (by omega)) (inR64 (by omega) (by omega))) rfl ?_
   refine yO rfl rfl (pu_convI hT rfl rfl rfl (ev_tmp rfl)) rfl ?_
   refine o_build1 (k := 31) (js := []) hT rfl rfl rfl rfl rfl rfl rfl rfl rfl (ev_tmp rfl) rfl rfl (ow_cons' (ow_dv rfl) ow_nil rfl) (by decide) (by decide) rfl rfl ?_
   simp only [killT, killB, SV.kill, CV.kill, kk, Nat.reduceBEq]
   refine o_appK (k := 12) (j := 31) (cs := (UInt8.ofNat k.1.toNat :: (be6 (keyN k)).take (j + 1)).flatMap eByte) (n := (UInt8.ofNat k.1.toNat :: (be6 (keyN k)).take (j + 1)).length) hT rfl rfl rfl rfl rfl rfl rfl (ev_tmp rfl) rfl rfl rfl (ev_tmp rfl) rfl rfl (by decide) (by dsimp only [kcOf]; simp only [List.length_cons, List.length_take]; omega) (by dsimp only [kcOf]; simp only [List.length_cons, List.length_take]; omega) (by rw [be6_succ hj6]; simp) (by rw [u8_and]; exact be_step hk hj6 rfl) ?_
   simp only [killT, killB, SV.kill, CV.kill, kk, Nat.reduceBEq]
   refine z ?_
   refine ops_nil ?_
   iterate 2 refine z ?_
   refine ok_region ?_
   iterate 4 refine z ?_
   refine ⟨j + 1, ?_, ?_, weak_sub ⟨rfl, rfl, rfl, (eqSlotI (by omega)), trivial⟩ ⟨rfl, trivial⟩ ⟨rfl, trivial⟩ rfl⟩
   ·exact ⟨by omega, fun h => absurd h hn2⟩
   ·omega
  ·skip
   iterate 9 refine z ?_
   refine o_convSB (k := 36) hT rfl rfl rfl rfl rfl rfl rfl (ev_tmp rfl) rfl ?_
   refine o_appK (k := 12) (j := 36) (cs := (encK k).flatMap eByte) (n := (encK k).length) hT rfl rfl rfl rfl rfl rfl rfl (ev_tmp rfl) rfl rfl rfl (ev_tmp rfl) rfl rfl (by decide) (by dsimp only [kcOf, KC.old]; have := be6_len (keyN k); have h12 : k.2.2.data.toList.length ≤ 12 := hrg.2.2; simp only [List.length_cons, List.length_take]; omega) (by dsimp only [kcOf, KC.old]; have := be6_len (keyN k); have h12 : k.2.2.data.toList.length ≤ 12 := hrg.2.2; simp only [List.length_cons, List.length_take]; omega) (by rw [encK_end hk hj2 c2, List.length_append] <;> rfl) (by rw [encK_end hk hj2 c2, List.flatMap_append] <;> rfl) ?_
   simp only [killT, killB, SV.kill, CV.kill, kk, Nat.reduceBEq]
   iterate 2 refine z ?_
   refine ok_weak (σ' := ⟨[(2, .one (.key 12))], [], [(12, some (kcOf false (bytesD (encK k))))]⟩) (weak_sub ⟨rfl, trivial⟩ trivial ⟨(by first | exact congrArg (fun l : List UInt8 => some (some (KC.mk false 5 1 l.length (l.flatMap eByte)))) (show ([] : List UInt8) = encK k from (encK_bad hk0).symm) | rfl), trivial⟩ rfl) ?_
   refine z ?_
   refine fin1 (res_tmp rfl) ?_
   exact ⟨rfl, rfl⟩
theorem ok_impl_EncodeRecord {r : RecT}  : KFn Try.prog 62 [.agg [(.dv [] (fieldsD (r)))]] (.one (.key 500)) [(500, some (kcOf false (bytesD (encR r))))] := by
 refine ⟨fn_intro Try.func62 rfl Try.ntmps62 Try.results62 rfl (fun C => ?_)⟩
 refine yF 0 0 rfl rfl fun f0_0 => ?_
 iterate 7 refine z ?_
 refine zC Try.call77 ?_ (hf := ok_impl_IsRecord (r := r) )
 iterate 2 refine z ?_
 refine yQ rfl (fun c1 => ?_) fun c1 => ?_
 ·skip
  have hk0 : isRec r = false := by simpa using c1
  refine z ?_
  refine o_build0 (k := 500) hT rfl rfl rfl rfl rfl rfl rfl rfl ?_
  iterate 2 refine z ?_
  refine ok_weak (σ' := ⟨[(2, .one (.key 500))], [], [(500, some (kcOf false (bytesD (encR r))))]⟩) (weak_sub ⟨rfl, trivial⟩ trivial ⟨(by first | exact congrArg (fun l : List UInt8 => some (some (KC.mk false 5 1 l.length (l.flatMap eByte)))) (show ([] : List UInt8) = encR r from (encR_bad hk0).symm) | exact congrArg (fun l : List UInt8 => some (some (KC.mk false 5 1 l.length (l.flatMap eByte)))) (encR_ok hk (by omega)).symm), trivial⟩ rfl) ?_
  iterate 2 refine z ?_
  refine fin1 (res_tmp rfl) ?_
  exact ⟨rfl, rfl⟩
 ·skip
  have hk : isRec r = true := by simpa using c1
  have hrl := rec_len hk
  iterate 6 refine z ?_
  refine o_callK 470 rfl rfl rfl Try.call91 (ok_impl_AppendUvarint (x := []) (n := (r.length : Int)) (by simp)) (as_cons ev_nil (ag_one (ac_nil' rfl rfl)) (as_cons (ev_tmp rfl) (ag_one ac_dv) as_nil)) rfl rfl rfl ?_
  iterate 10 refine z ?_
  refine ok_loop (ι := Nat) (fun zz => ⟨[(2, .one .nil), (3, .one (.key 500)), (15, .one (.dv [] (fieldsD (r)))), (16, .one (.dv [] (.int .i64 ((((r)).length : Int))))), (17, .one (.dv [] (.int .i64 ((zz : Int)))))], [], [(500, some (kcOf false (.sl 5 1 ((encRN r zz).length) ((encRN r zz).flatMap eByte))))]⟩) (fun zz => zz ≤ r.length) (fun zz => r.length - zz) (0) ?_ (weak_sub ⟨rfl, rfl, rfl, rfl, rfl, trivial⟩ trivial ⟨rfl, trivial⟩ rfl) (fun zz hx => ?_)
  ·exact Nat.zero_le _
  obtain ⟨k, rfl⟩ : ∃ v, v = zz := ⟨_, rfl⟩
  replace hx : k ≤ r.length := hx
  show Ok _ _ _ _ _ (⟨[(2, .one .nil), (3, .one (.key 500)), (15, .one (.dv [] (fieldsD (r)))), (16, .one (.dv [] (.int .i64 ((((r)).length : Int))))), (17, .one (.dv [] (.int .i64 ((k : Int)))))], [], [(500, some (kcOf false (.sl 5 1 ((encRN r k).length) ((encRN r k).flatMap eByte))))]⟩ : St)
  iterate 3 refine z ?_
  refine ok_seq ?_
  refine yQ rfl (fun c2 => ?_) fun c2 => ?_
  ·skip
   have d2 := of_decide_eq_true c2
   have hkl : k < r.length := by omega
   have hf := rec_fld hk hkl
   have hns := (name_size hf.1).2
   have hns2 : (r.getD (k : Int).toNat default).1.data.toList.length ≤ 8 := hns
   have hel := encRN_len hk k (by omega)
   have hel2 := appU_len (encRN r k) ((r.getD (k : Int).toNat default).1.data.toList.length : Int)
   iterate 10 refine z ?_
   refine ok_regionD (oB := [5]) (oK := [500]) (by kernel_rfl) rfl rfl ?_
   refine zD 0 ?_
   refine zD 1 ?_
   refine zD 2 ?_
   refine zD 5 ?_
   refine zD 6 ?_
   refine d_convSB (k := 24) 3 hT rfl (by kernel_rfl) rfl rfl rfl rfl rfl rfl rfl (ev_tmp rfl) rfl rfl rfl ?_
   refine d_callK 25000 4 rfl (by kernel_rfl) rfl rfl rfl Try.call92 (ok_impl_AppendBytes (x := (encRN r k)) (y := (r.getD (k : Int).toNat default).1.data.toList) (by omega) (by omega)) (as_cons (ev_tmp rfl) (ag_one (ac_key' rfl rfl)) (as_cons (ev_tmp rfl) (ag_one (ac_key' rfl rfl)) as_nil)) rfl rfl rfl rfl rfl ?_
   refine d_callK 472 7 rfl (by kernel_rfl) rfl rfl rfl Try.call91 (ok_impl_AppendUvarint (x := appU (encRN r k) ((r.getD (k : Int).toNat default).1.data.toList.length : Int) ++ (r.getD (k : Int).toNat default).1.data.toList) (n := (r.getD (k : Int).toNat default).2) (by rw [List.length_append]; omega)) (as_cons (ev_tmp rfl) (ag_one (ac_key' rfl rfl)) (as_cons (ev_tmp rfl) (ag_one ac_dv) as_nil)) rfl rfl rfl rfl rfl ?_
   refine zD 8 ?_
   refine d_done (by kernel_rfl) ?_
   iterate 2 refine z ?_
   refine ok_weak (weak_swap (s := 3) (k := 502) (k' := 500) rfl rfl rfl (by decide) rfl) ?_
   simp only [killT, killB, SV.kill, CV.kill, kk, Nat.reduceBEq]
   refine ok_region ?_
   iterate 3 refine z ?_
   refine ⟨k + 1, ?_, ?_, weak_sub ⟨rfl, rfl, rfl, rfl, rfl, trivial⟩ trivial ⟨rfl, trivial⟩ rfl⟩
   ·omega
   ·omega
  ·skip
   have d2 := of_decide_eq_false c2
   iterate 9 refine z ?_
   refine ok_weak (σ' := ⟨[(2, .one (.key 500))], [], [(500, some (kcOf false (bytesD (encR r))))]⟩) (weak_sub ⟨rfl, trivial⟩ trivial ⟨(by first | exact congrArg (fun l : List UInt8 => some (some (KC.mk false 5 1 l.length (l.flatMap eByte)))) (show ([] : List UInt8) = encR r from (encR_bad hk0).symm) | exact congrArg (fun l : List UInt8 => some (some (KC.mk false 5 1 l.length (l.flatMap eByte)))) (encR_ok hk (by omega)).symm), trivial⟩ rfl) ?_
   refine z ?_
   refine fin1 (res_tmp rfl) ?_
   exact ⟨rfl, rfl⟩
theorem ok_spec_EncodeRecord {r : RecT}  : KFn Try.prog 22 [.agg [(.dv [] (fieldsD (r)))]] (.one (.key 500)) [(500, some (kcOf false (bytesD (encR r))))] := by
 refine ⟨fn_intro Try.func22 rfl Try.ntmps22 Try.results22 rfl (fun C => ?_)⟩
 refine yF 0 0 rfl rfl fun f0_0 => ?_
 iterate 7 refine z ?_
 refine zC Try.call41 ?_ (hf := ok_spec_IsRecord (r := r) )
 iterate 2 refine z ?_
 refine yQ rfl (fun c1 => ?_) fun c1 => ?_
 ·skip
  have hk0 : isRec r = false := by simpa using c1
  refine z ?_
  refine o_build0 (k := 500) hT rfl rfl rfl rfl rfl rfl rfl rfl ?_
  iterate 2 refine z ?_
  refine ok_weak (σ' := ⟨[(2, .one (.key 500))], [], [(500, some (kcOf false (bytesD (encR r))))]⟩) (weak_sub ⟨rfl, trivial⟩ trivial ⟨(by first | exact congrArg (fun l : List UInt8 => some (some (KC.mk false 5 1 l.length (l.flatMap eByte)))) (show ([] : List UInt8) = encR r from (encR_bad hk0).symm) | exact congrArg (fun l : List UInt8 => some (some (KC.mk false 5 1 l.length (l.flatMap eByte)))) (encR_ok hk (by omega)).symm), trivial⟩ rfl) ?_
  iterate 2 refine z ?_
  refine fin1 (res_tmp rfl) ?_
  exact ⟨rfl, rfl⟩
 ·skip
  have hk : isRec r = true := by simpa using c1
  have hrl := rec_len hk
  iterate 3 refine z ?_
  refine o_build0 (k := 9) hT rfl rfl rfl rfl rfl rfl rfl rfl ?_
  iterate 3 refine z ?_
  refine o_callK 494 rfl rfl rfl Try.call59 (ok_spec_AppendUvarint (x := []) (n := (r.length : Int)) (by simp)) (as_cons (ev_tmp rfl) (ag_one (ac_key' rfl rfl)) (as_cons (ev_tmp rfl) (ag_one ac_dv) as_nil)) rfl rfl rfl ?_
  iterate 7 refine z ?_
  refine ok_loop (ι := Nat) (fun zz => ⟨[(1, .box 1 0), (2, .one .nil), (3, .one (.key 500)), (4, .one (.dv [] (.int .i64 ((zz : Int)))))], [(1, 40, [(.dv [] (fieldsD (r)))])], [(500, some (kcOf false (.sl 5 1 ((encRN r zz).length) ((encRN r zz).flatMap eByte))))]⟩) (fun zz => zz ≤ r.length) (fun zz => r.length - zz) (0) ?_ (weak_sub ⟨rfl, rfl, rfl, rfl, trivial⟩ ⟨rfl, trivial⟩ ⟨rfl, trivial⟩ rfl) (fun zz hx => ?_)
  ·exact Nat.zero_le _
  obtain ⟨k, rfl⟩ : ∃ v, v = zz := ⟨_, rfl⟩
  replace hx : k ≤ r.length := hx
  show Ok _ _ _ _ _ (⟨[(1, .box 1 0), (2, .one .nil), (3, .one (.key 500)), (4, .one (.dv [] (.int .i64 ((k : Int)))))], [(1, 40, [(.dv [] (fieldsD (r)))])], [(500, some (kcOf false (.sl 5 1 ((encRN r k).length) ((encRN r k).flatMap eByte))))]⟩ : St)
  iterate 8 refine z ?_
  refine yQ rfl (fun c2 => ?_) fun c2 => ?_
  ·skip
   have d2 := of_decide_eq_true c2
   have hkl : k < r.length := by omega
   have hf := rec_fld hk hkl
   have hns := (name_size hf.1).2
   have hns2 : (r.getD (k : Int).toNat default).1.data.toList.length ≤ 8 := hns
   have hel := encRN_len hk k (by omega)
   have hel2 := appU_len (encRN r k) ((r.getD (k : Int).toNat default).1.data.toList.length : Int)
   iterate 4 refine z ?_
   refine ok_regionD (oB := [1]) (oK := [500]) (by kernel_rfl) rfl rfl ?_
   refine zD 0 ?_
   refine zD 1 ?_
   refine zD 2 ?_
   refine zD 3 ?_
   refine zD 4 ?_
   refine zD 5 ?_
   refine zD 6 ?_
   refine zD 9 ?_
   refine zD 10 ?_
   refine zD 11 ?_
   refine zD 12 ?_
   refine zD 13 ?_
   refine zD 14 ?_
   refine d_convSB (k := 28) 7 hT rfl (by kernel_rfl) rfl rfl rfl rfl rfl rfl rfl (ev_tmp rfl) rfl rfl rfl ?_
   refine d_callK 29000 8 rfl (by kernel_rfl) rfl rfl rfl Try.call60 (ok_spec_AppendBytes (x := (encRN r k)) (y := (r.getD (k : Int).toNat default).1.data.toList) (by omega) (by omega)) (as_cons (ev_tmp rfl) (ag_one (ac_key' rfl rfl)) (as_cons (ev_tmp rfl) (ag_one (ac_key' rfl rfl)) as_nil)) rfl rfl rfl rfl rfl ?_
   refine d_callK 496 15 rfl (by kernel_rfl) rfl rfl rfl Try.call59 (ok_spec_AppendUvarint (x := appU (encRN r k) ((r.getD (k : Int).toNat default).1.data.toList.length : Int) ++ (r.getD (k : Int).toNat default).1.data.toList) (n := (r.getD (k : Int).toNat default).2) (by rw [List.length_append]; omega)) (as_cons (ev_tmp rfl) (ag_one (ac_key' rfl rfl)) (as_cons (ev_tmp rfl) (ag_one ac_dv) as_nil)) rfl rfl rfl rfl rfl ?_
   refine zD 16 ?_
   refine d_done (by kernel_rfl) ?_
   iterate 2 refine z ?_
   refine ok_weak (weak_swap (s := 3) (k := 502) (k' := 500) rfl rfl rfl (by decide) rfl) ?_
   simp only [killT, killB, SV.kill, CV.kill, kk, Nat.reduceBEq]
   refine ok_region ?_
   iterate 4 refine z ?_
   refine ⟨k + 1, ?_, ?_, weak_sub ⟨rfl, rfl, rfl, rfl, trivial⟩ ⟨rfl, trivial⟩ ⟨rfl, trivial⟩ rfl⟩
   ·omega
   ·omega
  ·skip
   have d2 := of_decide_eq_false c2
   iterate 9 refine z ?_
   refine ok_weak (σ' := ⟨[(2, .one (.key 500))], [], [(500, some (kcOf false (bytesD (encR r))))]⟩) (weak_sub ⟨rfl, trivial⟩ trivial ⟨(by first | exact congrArg (fun l : List UInt8 => some (some (KC.mk false 5 1 l.length (l.flatMap eByte)))) (show ([] : List UInt8) = encR r from (encR_bad hk0).symm) | exact congrArg (fun l : List UInt8 => some (some (KC.mk false 5 1 l.length (l.flatMap eByte)))) (encR_ok hk (by omega)).symm), trivial⟩ rfl) ?_
   refine z ?_
   refine fin1 (res_tmp rfl) ?_
   exact ⟨rfl, rfl⟩
theorem ok_impl_SizeStore {x : StoreT} (hb : wStore x ≤ 1048576) : PFn Try.prog 23 [.agg [(.dv [] (.str (x.1))), (.dv [] (itemsD (x.2.1))), (.dv [] (.int .i64 (x.2.2)))]] (.one (.dv [] (.int .i64 ((sizeS x : Int))))) := by
 refine ⟨fn_intro Try.func23 rfl Try.ntmps23 Try.results23 rfl (fun C => ?_)⟩
 have hlen := wSto_len x hb
 refine yF 0 0 rfl rfl fun f0_0 => ?_
 refine yF 0 1 rfl rfl fun f0_1 => ?_
 refine yF 0 2 rfl rfl fun f0_2 => ?_
 iterate 15 refine z ?_
 refine ok_loop (ι := Nat) (fun zz => ⟨[(2, .one (.dv [] (.int .i64 (0)))), (3, .one (.dv [] (.int .i64 ((wSum sizeI (x.2.1.take zz) : Int))))), (7, .one (.dv [] (itemsD (x.2.1)))), (8, .one (.dv [] (.int .i64 ((((x.2.1)).length : Int))))), (9, .one (.dv [] (.int .i64 ((zz : Int)))))], [], []⟩) (fun zz => zz ≤ x.2.1.length) (fun zz => x.2.1.length - zz) (0) ?_ (weak_sub ⟨rfl, (eqSlotI (by simp [wSum])), rfl, rfl, rfl, trivial⟩ trivial trivial rfl) (fun zz hx => ?_)
 ·exact Nat.zero_le _
 obtain ⟨k, rfl⟩ : ∃ v, v = zz := ⟨_, rfl⟩
 replace hx : k ≤ x.2.1.length := hx
 have hw := fun h => (wSum_succ sizeI x.2.1 k h).1
 have hsz := wSum_cap sizeI_le (x.2.1.take k)
 rw [List.length_take] at hsz
 show Ok _ _ _ _ _ (⟨[(2, .one (.dv [] (.int .i64 (0)))), (3, .one (.dv [] (.int .i64 ((wSum sizeI (x.2.1.take k) : Int))))), (7, .one (.dv [] (itemsD (x.2.1)))), (8, .one (.dv [] (.int .i64 ((((x.2.1)).length : Int))))), (9, .one (.dv [] (.int .i64 ((k : Int)))))], [], []⟩ : St)
 iterate 3 refine z ?_
 refine ok_seq ?_
 refine yQ rfl (fun c1 => ?_) fun c1 => ?_
 ·skip
  have d1 := of_decide_eq_true c1
  have hkl : k < x.2.1.length := by omega
  have hw1 := hw hkl
  have hek := encK_len (x.2.1.getD (k : Int).toNat default).1
  have her := encR_len (x.2.1.getD (k : Int).toNat default).2
  have hsi : sizeI (x.2.1.getD (k : Int).toNat default) = (encK (x.2.1.getD (k : Int).toNat default).1).length + (encR (x.2.1.getD (k : Int).toNat default).2).length := rfl
  have hmin : min k x.2.1.length ≤ 1048576 := by omega
  iterate 10 refine z ?_
  refine ok_regionD (oB := [5]) (oK := []) (by kernel_rfl) rfl rfl ?_
  refine zD 0 ?_
  refine zD 1 ?_
  refine zD 2 ?_
  refine zD 5 ?_
  refine zD 6 ?_
  refine d_callK 16000 3 rfl (by kernel_rfl) rfl rfl rfl Try.call61 (ok_impl_EncodeKey (k := (((x.2.1)).getD ((k : Int)).toNat default).1) ) (as_cons (ev_tmp rfl) (ag_agg (ag_cons ac_dv (ag_cons ac_dv (ag_cons ac_dv ag_nil)))) as_nil) rfl rfl rfl rfl rfl ?_
  refine d_take 4 rfl (by kernel_rfl) rfl rfl (pu_lenKn (n := ((encK ((((x.2.1)).getD ((k : Int)).toNat default).1))).length) hT rfl rfl (ev_tmp rfl) rfl rfl) rfl rfl rfl rfl ?_
  refine d_callK 20000 7 rfl (by kernel_rfl) rfl rfl rfl Try.call62 (ok_impl_EncodeRecord (r := (((x.2.1)).getD ((k : Int)).toNat default).2) ) (as_cons (ev_tmp rfl) (ag_agg (ag_cons ac_dv ag_nil)) as_nil) rfl rfl rfl rfl rfl ?_
  refine d_take 8 rfl (by kernel_rfl) rfl rfl (pu_lenKn (n := ((encR ((((x.2.1)).getD ((k : Int)).toNat default).2))).length) hT rfl rfl (ev_tmp rfl) rfl rfl) rfl rfl rfl rfl ?_
  refine zD 9 ?_
  refine zD 10 ?_
  refine zD 11 ?_
  refine d_done (by kernel_rfl) ?_
  iterate 2 refine z ?_
  refine ok_region ?_
  iterate 3 refine z ?_
  refine ⟨k + 1, ?_, ?_, weak_sub ⟨rfl, (eqSlotI (by omega)), rfl, rfl, rfl, trivial⟩ trivial trivial rfl⟩
  ·omega
  ·omega
 ·skip
  have d1 := of_decide_eq_false c1
  iterate 11 refine z ?_
  have hq := wSum_all sizeI x.2.1 k (by omega); rw [hq]; rfl
end Go.Proofs.Ytmnimdnmedldgaa

namespace Go.Proofs.Ytmnimdnmedldgaa
open Go.RowKit
open Go.Proofs
set_option linter.unusedVariables false
set_option linter.unusedSimpArgs false

theorem findI_nil {α : Type} {p : α → Bool} : ∀ (xs : List α) (i : Int), xs.any p = false → findI p xs i = -1
 | [], _, _ => rfl
 | x :: xs, i, h => by
  simp only [List.any_cons, Bool.or_eq_false_iff] at h
  rw [findI, if_neg (by rw [h.1]; simp)]
  exact findI_nil xs (i + 1) h.2
end Go.Proofs.Ytmnimdnmedldgaa

namespace Go.Proofs.Ytmnimdnmedldgaa
open Go.RowKit
open Go.Proofs
set_option linter.unusedVariables false
set_option linter.unusedSimpArgs false

section
variable {α : Type} {enc : α → List DV} {sz : Nat} {q : α → Bool} {x : List α}
theorem fl_len (hs : ∀ y, (enc y).length = sz) : ∀ xs : List α, (xs.flatMap enc).length = xs.length * sz
 | [] => by simp
 | y :: xs => by rw [List.flatMap_cons, List.length_append, fl_len hs xs, hs, List.length_cons, Nat.add_mul, Nat.one_mul, Nat.add_comm]
theorem findI_cases {p : α → Bool} {d : α} : ∀ (xs : List α) (i : Int), 0 ≤ i → (findI p xs i = -1 ∧ xs.any p = false) ∨ ∃ m, m < xs.length ∧ findI p xs i = i + (m : Int) ∧ (xs.take m).any p = false ∧ p (xs.getD m d) = true
 | [], i, h => .inl ⟨rfl, rfl⟩
 | y :: xs, i, h => by
  rw [findI]
  by_cases hp : p y = true
  ·rw [if_pos hp]
   exact .inr ⟨0, by simp, by simp, by simp, by simpa using hp⟩
  ·rw [if_neg hp]
   rcases findI_cases (p := p) (d := d) xs (i + 1) (by omega) with ⟨h1, h2⟩ | ⟨m, h1, h2, h3, h4⟩
   ·exact .inl ⟨h1, by simp [h2, hp]⟩
   ·exact .inr ⟨m + 1, by simpa using h1, by rw [h2]; omega, by simp [h3, hp], by simpa using h4⟩
def delC (enc : α → List DV) (q : α → Bool) (x : List α) (k : Nat) (G : List DV) : List DV := ((x.take k).filter q).flatMap enc ++ (G ++ (x.drop k).flatMap enc)
theorem delC_len (hs : ∀ y, (enc y).length = sz) {i k : Nat} {G : List DV} (hi : i = ((x.take k).filter q).length) (hG : G.length + i * sz = k * sz) (hk : k ≤ x.length) : (delC enc q x k G).length = x.length * sz := by
 have e : (x.length - k) * sz + k * sz = x.length * sz := by rw [← Nat.add_mul]; congr 1; omega
 rw [delC, List.length_append, List.length_append, fl_len hs, fl_len hs, ← hi, List.length_drop]
 omega
theorem delC_sub (hs : ∀ y, (enc y).length = sz) {i k : Nat} {G : List DV} [Inhabited α] (hi : i = ((x.take k).filter q).length) (hG : G.length + i * sz = k * sz) (hk : k < x.length) : sub (k * sz) sz (delC enc q x k G) = enc (x.getD k default) := by
 have e : x.drop k = x.getD k default :: x.drop (k + 1) := by rw [List.drop_eq_getElem_cons hk]; simp [List.getD, List.getElem?_eq_getElem hk]
 rw [delC, ← List.append_assoc, e, List.flatMap_cons, sub, List.drop_left' (by rw [List.length_append, fl_len hs, ← hi]; omega), List.take_left' (hs _)]
theorem delC_mv (hs : ∀ y, (enc y).length = sz) {i k : Nat} {G : List DV} [Inhabited α] (hi : i = ((x.take k).filter q).length) (hG : G.length + i * sz = k * sz) (hk : k < x.length) (hik : i < k) (hq : q (x.getD k default) = true) :
  setR (i * sz) (enc (x.getD k default)) (setR (k * sz) (List.replicate sz .hole) (delC enc q x k G)) = delC enc q x (k + 1) (G.drop sz ++ List.replicate sz .hole) := by
 have e : x.drop k = x.getD k default :: x.drop (k + 1) := by rw [List.drop_eq_getElem_cons hk]; simp [List.getD, List.getElem?_eq_getElem hk]
 have m1 : (i + 1) * sz ≤ k * sz := Nat.mul_le_mul_right _ hik
 rw [Nat.add_mul, Nat.one_mul] at m1
 have l1 : (((x.take k).filter q).flatMap enc).length = i * sz := by rw [fl_len hs, ← hi]
 have e1 : setR (k * sz) (List.replicate sz DV.hole) (delC enc q x k G) = ((x.take k).filter q).flatMap enc ++ (G.take sz ++ (G.drop sz ++ (List.replicate sz .hole ++ (x.drop (k + 1)).flatMap enc))) := by
  rw [delC, e, List.flatMap_cons, ← List.append_assoc, setR_mid3 (by rw [List.length_append, l1]; omega) (by simp [hs])]
  rw [List.append_assoc, ← List.append_assoc (G.take sz), List.take_append_drop]
 rw [e1, setR_mid3 l1.symm (by rw [hs, List.length_take]; omega), delC, List.take_add_one, List.getElem?_eq_getElem hk, List.filter_append, List.flatMap_append]
 have : x.getD k default = x[k] := by simp [List.getD, List.getElem?_eq_getElem hk]
 rw [this] at hq ⊢
 simp [hq]
theorem delC_no (hs : ∀ y, (enc y).length = sz) {k : Nat} {G : List DV} [Inhabited α] (hk : k < x.length) (hq : q (x.getD k default) = false) : delC enc q x k G = delC enc q x (k + 1) (G ++ enc (x.getD k default)) ∧ ((x.take (k + 1)).filter q).length = ((x.take k).filter q).length := by
 have e : x.drop k = x.getD k default :: x.drop (k + 1) := by rw [List.drop_eq_getElem_cons hk]; simp [List.getD, List.getElem?_eq_getElem hk]
 have : x.getD k default = x[k] := by simp [List.getD, List.getElem?_eq_getElem hk]
 have e2 : (x.take (k + 1)).filter q = (x.take k).filter q := by
  rw [List.take_add_one, List.getElem?_eq_getElem hk, List.filter_append]
  rw [this] at hq
  simp [hq]
 refine ⟨?_, by rw [e2]⟩
 rw [delC, delC, e2, e, List.flatMap_cons]
 simp
theorem delC_yes {k : Nat} [Inhabited α] (hk : k < x.length) (hq : q (x.getD k default) = true) : ((x.take (k + 1)).filter q).length = ((x.take k).filter q).length + 1 := by
 have : x.getD k default = x[k] := by simp [List.getD, List.getElem?_eq_getElem hk]
 rw [List.take_add_one, List.getElem?_eq_getElem hk, List.filter_append]
 rw [this] at hq
 simp [hq]
theorem delC_end (hs : ∀ y, (enc y).length = sz) {i k : Nat} {G : List DV} (hi : i = ((x.take k).filter q).length) (hG : G.length + i * sz = k * sz) (hk : k = x.length) : setR (i * sz) (List.replicate ((x.length - i) * sz) .hole) (delC enc q x k G) = (x.filter q).flatMap enc ++ List.replicate ((x.length - i) * sz) .hole := by
 subst hk
 rw [List.take_length] at hi
 have m : (x.length - i) * sz + i * sz = x.length * sz := by rw [← Nat.add_mul]; congr 1; have := List.length_filter_le q x; omega
 rw [delC, List.take_length, List.drop_length, List.flatMap_nil]
 have := setR_mid3 (A := (x.filter q).flatMap enc) (B := G) (us := List.replicate ((x.length - i) * sz) DV.hole) (D := []) (off := i * sz) (by rw [fl_len hs, hi]) (by simp; omega)
 simpa using this
theorem delC_cut (hs : ∀ y, (enc y).length = sz) {i : Nat} {H : List DV} (hi : i = (x.filter q).length) : ((x.filter q).flatMap enc ++ H).take (i * sz) = (x.filter q).flatMap enc := List.take_left' (by rw [fl_len hs, hi])
theorem delC_start {m : Nat} [Inhabited α] (hm : m < x.length) (h3 : (x.take m).any (fun y => !q y) = false) (h4 : q (x.getD m default) = false) : x.flatMap enc = delC enc q x (m + 1) (enc (x.getD m default)) ∧ m = ((x.take (m + 1)).filter q).length := by
 have e : x.drop m = x.getD m default :: x.drop (m + 1) := by rw [List.drop_eq_getElem_cons hm]; simp [List.getD, List.getElem?_eq_getElem hm]
 have this : x.getD m default = x[m] := by simp [List.getD, List.getElem?_eq_getElem hm]
 have e1 : (x.take m).filter q = x.take m := by
  rw [List.filter_eq_self]
  intro y hy
  rw [List.any_eq_false] at h3
  simpa using h3 y hy
 have e2 : (x.take (m + 1)).filter q = x.take m := by
  rw [List.take_add_one, List.getElem?_eq_getElem hm, List.filter_append, e1]
  rw [this] at h4
  simp [h4]
 refine ⟨?_, by rw [e2, List.length_take]; omega⟩
 rw [delC, e2, ← List.flatMap_cons, ← e, ← List.flatMap_append, List.take_append_drop]
theorem filt_none (h : x.any (fun y => !q y) = false) : x.filter q = x := by
 rw [List.filter_eq_self]
 intro y hy
 rw [List.any_eq_false] at h
 simpa using h y hy
end
def inIt (r : RangeT) (y : ItemT) : Bool := inRg y.1 r
def outIt (r : RangeT) (y : ItemT) : Bool := !inRg y.1 r
theorem inIt_out (r : RangeT) : (fun y => !outIt r y) = inIt r := by funext y; simp [outIt, inIt]
def delS (x : StoreT) (r : RangeT) : StoreT × Int := if isSto x then ((x.1, x.2.1.filter (outIt r), x.2.2), (x.2.1.length : Int) - ((x.2.1.filter (outIt r)).length : Int)) else (x, 0)
theorem flt_yes {p : ItemT → Bool} {xs : List ItemT} {k : Nat} (hk : k < xs.length) (h : p (xs.getD (k : Int).toNat default) = true) : ((xs.take k).filter p).flatMap eItem ++ eItem (xs.getD (k : Int).toNat default) = ((xs.take (k + 1)).filter p).flatMap eItem ∧ ((xs.take k).filter p).length + 1 = ((xs.take (k + 1)).filter p).length := by
 rw [filt_succ hk, if_pos h, List.flatMap_append, List.flatMap_cons, List.flatMap_nil, List.append_nil, List.length_append]
 exact ⟨rfl, rfl⟩
theorem flt_no {p : ItemT → Bool} {xs : List ItemT} {k : Nat} (hk : k < xs.length) (h : p (xs.getD (k : Int).toNat default) = false) : (xs.take k).filter p = (xs.take (k + 1)).filter p := by
 rw [filt_succ hk, if_neg (by rw [h]; simp), List.append_nil]
theorem delS_no {x : StoreT} {r : RangeT} (h : (!isSto x) = true) : delS x r = (x, 0) := by rw [delS, if_neg (by simpa using h)]
theorem delS_yes {x : StoreT} {r : RangeT} (h : (!isSto x) = false) : delS x r = ((x.1, x.2.1.filter (outIt r), x.2.2), (x.2.1.length : Int) - ((x.2.1.filter (outIt r)).length : Int)) := by rw [delS, if_pos (by simpa using h)]

theorem ok_impl_DeleteItems_1 {y : ItemT} {r : RangeT}  : PFn Try.prog 54 [.agg [(.dv [] (.int .i64 (y.1.1))), (.dv [] (.int .i64 (y.1.2.1))), (.dv [] (.str (y.1.2.2))), (.dv [] (fieldsD (y.2)))], .ref [] [.bool (r.1), .bool (r.2.1), .int .i64 (r.2.2.1.1), .int .i64 (r.2.2.1.2.1), .str (r.2.2.1.2.2), .int .i64 (r.2.2.2.1), .int .i64 (r.2.2.2.2.1), .str (r.2.2.2.2.2)]] (.one (.dv [] (.bool (inIt r y)))) := by
 refine ⟨fn_intro Try.func54 rfl Try.ntmps54 Try.results54 rfl (fun C => ?_)⟩
 refine yF 0 0 rfl rfl fun f0_0 => ?_
 refine yF 0 1 rfl rfl fun f0_1 => ?_
 refine yF 0 2 rfl rfl fun f0_2 => ?_
 refine yF 0 3 rfl rfl fun f0_3 => ?_
 iterate 8 refine z ?_
 refine zC Try.call49 ?_ (hf := ok_impl_InRangeOf)
 iterate 4 refine z ?_
 rfl
theorem ok_slices_IndexFunc_ItemDel {x : List ItemT} {r : RangeT}  : PFn Try.prog 57 [.one (.dv [] (itemsD (x))), .fn 54 [[.bool (r.1), .bool (r.2.1), .int .i64 (r.2.2.1.1), .int .i64 (r.2.2.1.2.1), .str (r.2.2.1.2.2), .int .i64 (r.2.2.2.1), .int .i64 (r.2.2.2.2.1), .str (r.2.2.2.2.2)]]] (.one (.dv [] (.int .i64 (findI (inIt r) x 0)))) := by
 refine ⟨fn_intro Try.func57 rfl Try.ntmps57 Try.results57 rfl (fun C => ?_)⟩
 refine ok_fact (x := .tmp 0) (ev_tmp rfl) fun f0 => ?_
 iterate 10 refine z ?_
 refine ok_loop (ι := Nat) (fun zz => ⟨[(0, .one (.dv [] (itemsD (x)))), (1, .fn 54 [[.bool (r.1), .bool (r.2.1), .int .i64 (r.2.2.1.1), .int .i64 (r.2.2.1.2.1), .str (r.2.2.1.2.2), .int .i64 (r.2.2.2.1), .int .i64 (r.2.2.2.2.1), .str (r.2.2.2.2.2)]]), (7, .one (.dv [] (.int .i64 ((((x)).length : Int))))), (8, .one (.dv [] (.int .i64 ((zz : Int)))))], [], []⟩) (fun zz => zz ≤ x.length ∧ (x.take zz).any (inIt r) = false) (fun zz => x.length - zz) (0) ?_ (weak_sub ⟨rfl, rfl, rfl, rfl, trivial⟩ trivial trivial rfl) (fun zz hx => ?_)
 ·exact ⟨Nat.zero_le _, rfl⟩
 obtain ⟨n, rfl⟩ : ∃ v, v = zz := ⟨_, rfl⟩
 replace hx : n ≤ x.length ∧ (x.take n).any (inIt r) = false := hx
 obtain ⟨hk, hall⟩ := hx
 show Ok _ _ _ _ _ (⟨[(0, .one (.dv [] (itemsD (x)))), (1, .fn 54 [[.bool (r.1), .bool (r.2.1), .int .i64 (r.2.2.1.1), .int .i64 (r.2.2.1.2.1), .str (r.2.2.1.2.2), .int .i64 (r.2.2.2.1), .int .i64 (r.2.2.2.2.1), .str (r.2.2.2.2.2)]]), (7, .one (.dv [] (.int .i64 ((((x)).length : Int))))), (8, .one (.dv [] (.int .i64 ((n : Int)))))], [], []⟩ : St)
 iterate 3 refine z ?_
 refine ok_seq ?_
 refine yQ rfl (fun c1 => ?_) fun c1 => ?_
 ·skip
  have d1 := of_decide_eq_true c1
  iterate 14 refine z ?_
  refine o_callV rfl rfl rfl (ev_tmp rfl) Try.call54 ok_impl_DeleteItems_1 (as_cons (ev_tmp rfl) (ag_agg (ag_cons ac_dv (ag_cons ac_dv (ag_cons ac_dv (ag_cons ac_dv ag_nil))))) as_nil) rfl rfl ?_
  refine z ?_
  refine yQ rfl (fun c2 => ?_) fun c2 => ?_
  ·skip
   iterate 11 refine z ?_
   exact (findI_at (p := inIt r) (d := default) hall (by omega) c2).symm
  ·skip
   iterate 3 refine z ?_
   refine ok_region ?_
   iterate 3 refine z ?_
   refine ⟨n + 1, ?_, ?_, weak_sub ⟨rfl, rfl, rfl, rfl, trivial⟩ trivial trivial rfl⟩
   ·exact ⟨by omega, any_stepI (d := default) hall (by omega) c2⟩
   ·omega
 ·skip
  have d1 := of_decide_eq_false c1
  iterate 10 refine z ?_
  exact (findI_none (p := inIt r) hall (by omega)).symm
theorem ok_slices_DeleteFunc_Item {x : List ItemT} {r : RangeT} (hb : x.length ≤ 1099511627776) : MFn Try.prog 53 [.fn 54 [[.bool (r.1), .bool (r.2.1), .int .i64 (r.2.2.1.1), .int .i64 (r.2.2.1.2.1), .str (r.2.2.1.2.2), .int .i64 (r.2.2.2.1), .int .i64 (r.2.2.2.2.1), .str (r.2.2.2.2.2)]]] (kcOf false (.sl 42 4 (x.length) (x.flatMap eItem))) (kcOf false (.sl 42 4 ((x.filter (outIt r)).length) ((x.filter (outIt r)).flatMap eItem))) := by
 refine ⟨fn_intro Try.func53 rfl Try.ntmps53 Try.results53 rfl (fun C => ?_)⟩
 iterate 6 refine z ?_
 refine o_call rfl rfl rfl Try.call57 ok_slices_IndexFunc_ItemDel (as_cons (ev_tmp rfl) (ag_one (ac_key' rfl rfl)) (as_cons (ev_tmp rfl) a_fn as_nil)) rfl rfl ?_
 iterate 7 refine z ?_
 refine yQ rfl (fun c1 => ?_) fun c1 => ?_
 ·skip
  have d1 := of_decide_eq_true c1
  have hn := (findI_cases (p := inIt r) (d := default) x 0 (by omega)).resolve_right (fun ⟨m, h1, h2, _⟩ => by omega)
  rw [← inIt_out r] at hn
  have hfe := filt_none hn.2
  iterate 4 refine z ?_
  refine ok_weak (σ' := ⟨[(4, .one (.key 0))], [], [(0, some (kcOf false (.sl 42 4 ((x.filter (outIt r)).length) ((x.filter (outIt r)).flatMap eItem))))]⟩) (weak_sub ⟨rfl, trivial⟩ trivial ⟨(congrArg (fun l : List ItemT => some (some (KC.mk false 42 4 l.length (l.flatMap eItem)))) hfe.symm), trivial⟩ rfl) ?_
  iterate 2 refine z ?_
  refine fin1 (res_tmp rfl) ?_
  exact ⟨rfl, rfl⟩
 ·skip
  have d1 := of_decide_eq_false c1
  obtain ⟨m, hm1, hm2, hm3, hm4⟩ := (findI_cases (p := inIt r) (d := default) x 0 (by omega)).resolve_left (fun h => d1 h.1)
  rw [← inIt_out r] at hm3
  have hm5 : outIt r (x.getD m default) = false := by unfold outIt; rw [show inRg (x.getD m default).1 r = true from hm4]; rfl
  have hst := delC_start (enc := eItem) hm1 hm3 hm5
  iterate 9 refine z ?_
  refine ok_loop (ι := Nat × Nat × List DV) (fun zz => ⟨[(0, .one (.key 0)), (1, .fn 54 [[.bool (r.1), .bool (r.2.1), .int .i64 (r.2.2.1.1), .int .i64 (r.2.2.1.2.1), .str (r.2.2.1.2.2), .int .i64 (r.2.2.2.1), .int .i64 (r.2.2.2.2.1), .str (r.2.2.2.2.2)]]), (4, .one .nil), (5, .one (.dv [] (.int .i64 ((zz.1 : Int))))), (6, .one (.dv [] (.int .i64 ((zz.2.1 : Int)))))], [], [(0, some (kcOf false (.sl 42 4 (x.length) (delC eItem (outIt r) x zz.2.1 zz.2.2))))]⟩) (fun zz => zz.1 = ((x.take zz.2.1).filter (outIt r)).length ∧ zz.1 < zz.2.1 ∧ zz.2.1 ≤ x.length ∧ zz.2.2.length + zz.1 * 4 = zz.2.1 * 4) (fun zz => x.length - zz.2.1) ((m, m + 1, eItem (x.getD m default))) ?_ (weak_sub ⟨rfl, rfl, rfl, (congrArg (fun z : Int => some (SV.one (CV.dv [] (DV.int .i64 z)))) (show findI (inIt r) x 0 = (m : Int) by omega)), (congrArg (fun z : Int => some (SV.one (CV.dv [] (DV.int .i64 z)))) (show findI (inIt r) x 0 + 1 = ((m + 1 : Nat) : Int) by omega)), trivial⟩ trivial ⟨(congrArg (fun cs => some (some (KC.mk false 42 4 x.length cs))) (hst.1)), trivial⟩ rfl) (fun zz hx => ?_)
  ·exact ⟨hst.2, by show m < m + 1; omega, by show m + 1 ≤ x.length; omega, by show 4 + m * 4 = (m + 1) * 4; omega⟩
  obtain ⟨i, k, G⟩ := zz
  replace hx : i = ((x.take k).filter (outIt r)).length ∧ i < k ∧ k ≤ x.length ∧ G.length + i * 4 = k * 4 := hx
  obtain ⟨hi, hik, hk, hG⟩ := hx
  show Ok _ _ _ _ _ (⟨[(0, .one (.key 0)), (1, .fn 54 [[.bool (r.1), .bool (r.2.1), .int .i64 (r.2.2.1.1), .int .i64 (r.2.2.1.2.1), .str (r.2.2.1.2.2), .int .i64 (r.2.2.2.1), .int .i64 (r.2.2.2.2.1), .str (r.2.2.2.2.2)]]), (4, .one .nil), (5, .one (.dv [] (.int .i64 ((i : Int))))), (6, .one (.dv [] (.int .i64 ((k : Int)))))], [], [(0, some (kcOf false (.sl 42 4 (x.length) (delC eItem (outIt r) x k G))))]⟩ : St)
  iterate 4 refine z ?_
  refine yO rfl rfl (pu_lenKn (n := (x.length)) hT rfl rfl (ev_tmp rfl) rfl rfl) rfl ?_
  iterate 2 refine z ?_
  refine yQ rfl (fun c2 => ?_) fun c2 => ?_
  ·skip
   have d2 := of_decide_eq_true c2
   have hk2 : k < x.length := by omega
   iterate 7 refine z ?_
   refine yO rfl rfl (pu_indexK (i := k) hT rfl rfl rfl (ev_tmp rfl) rfl (ev_tmp rfl) rfl (by show _ < (x.length); omega)) rfl ?_
   refine yO rfl rfl (pu_loadEA (ds := [.int .i64 ((x.getD (k : Int).toNat default).1.1), .int .i64 ((x.getD (k : Int).toNat default).1.2.1), .str ((x.getD (k : Int).toNat default).1.2.2), fieldsD ((x.getD (k : Int).toNat default).2)]) hT rfl rfl (ev_tmp rfl) rfl rfl (by decide) (delC_sub (enc := eItem) (q := outIt r) (sz := 4) (fun _ => rfl) hi hG hk2)) rfl ?_
   iterate 6 refine z ?_
   refine o_callV rfl rfl rfl (ev_tmp rfl) Try.call54 ok_impl_DeleteItems_1 (as_cons (ev_tmp rfl) (ag_agg (ag_cons ac_dv (ag_cons ac_dv (ag_cons ac_dv (ag_cons ac_nest ag_nil))))) as_nil) rfl rfl ?_
   iterate 2 refine z ?_
   refine yQ rfl (fun c3 => ?_) fun c3 => ?_
   ·skip
    have hq : outIt r (x.getD k default) = true := c3
    have hy := delC_yes (q := outIt r) hk2 hq
    iterate 4 refine z ?_
    refine yO rfl rfl (pu_indexK (i := i) hT rfl rfl rfl (ev_tmp rfl) rfl (ev_tmp rfl) rfl (by show _ < (x.length); omega)) rfl ?_
    refine o_move (src := k * 4) (ds := [.int .i64 ((x.getD (k : Int).toNat default).1.1), .int .i64 ((x.getD (k : Int).toNat default).1.2.1), .str ((x.getD (k : Int).toNat default).1.2.2), fieldsD ((x.getD (k : Int).toNat default).2)]) (cs := delC eItem (outIt r) x (k + 1) (G.drop 4 ++ List.replicate 4 .hole)) hT rfl rfl rfl rfl (ev_tmp rfl) (ev_tmp rfl) rfl rfl (delC_sub (enc := eItem) (q := outIt r) (sz := 4) (fun _ => rfl) hi hG hk2) (by omega) (by rw [delC_len (sz := 4) (fun _ => rfl) hi hG hk]; omega) (delC_mv (sz := 4) (fun _ => rfl) hi hG hk2 hik hq) ?_
    simp only [killT, killB, SV.kill, CV.kill, kk, Nat.reduceBEq]
    refine z ?_
    refine ok_region ?_
    iterate 3 refine z ?_
    refine ops_nil ?_
    iterate 2 refine z ?_
    refine ok_region ?_
    iterate 4 refine z ?_
    refine ⟨(i + 1, k + 1, (G.drop 4 ++ List.replicate 4 .hole)), ?_, ?_, weak_sub ⟨rfl, rfl, rfl, rfl, rfl, trivial⟩ trivial ⟨rfl, trivial⟩ rfl⟩
    ·exact ⟨by dsimp only; omega, by dsimp only; omega, by dsimp only; omega, by simp; omega⟩
    ·dsimp only; omega
   ·skip
    have hq : outIt r (x.getD k default) = false := c3
    have hno := delC_no (enc := eItem) (q := outIt r) (sz := 4) (G := G) (fun _ => rfl) hk2 hq
    iterate 3 refine z ?_
    refine ok_region ?_
    iterate 4 refine z ?_
    refine ⟨(i, k + 1, G ++ eItem (x.getD k default)), ?_, ?_, weak_sub ⟨rfl, rfl, rfl, rfl, rfl, trivial⟩ trivial ⟨(congrArg (fun cs => some (some (KC.mk false 42 4 x.length cs))) (hno.1)), trivial⟩ rfl⟩
    ·exact ⟨by dsimp only; omega, by dsimp only; omega, by dsimp only; omega, by show (G ++ eItem _).length + i * 4 = (k + 1) * 4; rw [List.length_append]; show G.length + 4 + i * 4 = _; omega⟩
    ·dsimp only; omega
  ·skip
   have d2 := of_decide_eq_false c2
   iterate 8 refine z ?_
   refine yO rfl rfl (pu_kslL (j := 0) (n := (x.length)) (lo := i) (sz := 4) (z := (i : Int)) hT rfl rfl rfl (ev_tmp rfl) rfl (ev_tmp rfl) rfl rfl (by omega) (by omega)) rfl ?_
   refine o_clear (k := 0) (lo := i) (hi := (x.length)) (sz := 4) (cs := (x.filter (outIt r)).flatMap eItem ++ List.replicate ((x.length - i) * 4) .hole) hT rfl rfl rfl rfl rfl rfl (ev_tmp rfl) rfl rfl rfl (by first | omega | (dsimp only [kcOf]; omega)) (by first | omega | (dsimp only [kcOf]; omega)) (delC_end (sz := 4) (fun _ => rfl) hi hG (by omega)) ?_
   simp only [killT, killB, SV.kill, CV.kill, kk, Nat.reduceBEq]
   iterate 4 refine z ?_
   refine yO rfl rfl (pu_kslH (j := 0) (n := (x.length)) (hi := i) (sz := 4) (z := (i : Int)) hT rfl rfl rfl (ev_tmp rfl) rfl (ev_tmp rfl) rfl rfl (by omega) (by omega)) rfl ?_
   iterate 2 refine z ?_
   have hke : k = x.length := by omega
   have hi2 : i = (x.filter (outIt r)).length := by rw [hi, hke, List.take_length]
   refine ok_weak (weak_cut (s := 4) (k := 0) (m := i) (sz := 4) (cs := (x.filter (outIt r)).flatMap eItem) rfl rfl rfl rfl (by first | omega | (dsimp only [kcOf]; omega)) (delC_cut (sz := 4) (fun _ => rfl) hi2)) ?_
   simp only [killT, killB, SV.kill, CV.kill, kk, Nat.reduceBEq]
   refine ok_weak (σ' := ⟨[(4, .one (.key 0))], [], [(0, some (kcOf false (.sl 42 4 ((x.filter (outIt r)).length) ((x.filter (outIt r)).flatMap eItem))))]⟩) (weak_sub ⟨rfl, trivial⟩ trivial ⟨(congrArg (fun n : Nat => some (some (KC.mk false 42 4 n ((x.filter (outIt r)).flatMap eItem)))) hi2), trivial⟩ rfl) ?_
   refine z ?_
   refine fin1 (res_tmp rfl) ?_
   exact ⟨rfl, rfl⟩
theorem ok_impl_DeleteItems {x : StoreT} {r : RangeT} (hb : wStore x ≤ 1099511627776) : KFn Try.prog 16 [.agg [(.dv [] (.str (x.1))), (.dv [] (itemsD (x.2.1))), (.dv [] (.int .i64 (x.2.2)))], .agg [(.dv [] (.bool (r.1))), (.dv [] (.bool (r.2.1))), (.dv [] (.int .i64 (r.2.2.1.1))), (.dv [] (.int .i64 (r.2.2.1.2.1))), (.dv [] (.str (r.2.2.1.2.2))), (.dv [] (.int .i64 (r.2.2.2.1))), (.dv [] (.int .i64 (r.2.2.2.2.1))), (.dv [] (.str (r.2.2.2.2.2)))]] (.tup [(true, [(.dv [] (.str ((delS x r).1.1))), (.key 9001), (.dv [] (.int .i64 ((delS x r).1.2.2)))]), (false, [(.dv [] (.int .i64 ((delS x r).2)))])]) [(9001, some (kcOf false (itemsD ((delS x r).1.2.1))))] := by
 refine ⟨fn_intro Try.func16 rfl Try.ntmps16 Try.results16 rfl (fun C => ?_)⟩
 have hlen : x.2.1.length ≤ 1099511627776 := by have h3 : wStore x = x.1.size + (x.2.1.length + wSum wItem x.2.1) := rfl; omega
 have hfl := List.length_filter_le (outIt r) x.2.1
 refine yF 0 0 rfl rfl fun f0_0 => ?_
 refine yF 0 1 rfl rfl fun f0_1 => ?_
 refine yF 0 2 rfl rfl fun f0_2 => ?_
 refine yF 1 2 rfl rfl fun f1_2 => ?_
 refine yF 1 3 rfl rfl fun f1_3 => ?_
 refine yF 1 4 rfl rfl fun f1_4 => ?_
 refine yF 1 5 rfl rfl fun f1_5 => ?_
 refine yF 1 6 rfl rfl fun f1_6 => ?_
 refine yF 1 7 rfl rfl fun f1_7 => ?_
 iterate 8 refine z ?_
 refine zK 8971 Try.call52 ?_ (hf := ok_impl_copyStore (x := x) (by omega))
 iterate 6 refine z ?_
 refine zC Try.call37 ?_ (hf := ok_impl_IsStore (s := x) )
 iterate 2 refine z ?_
 refine yQ rfl (fun c1 => ?_) fun c1 => ?_
 ·skip
  iterate 5 refine z ?_
  rw [delS_no c1]
  refine ok_weak (σ' := ⟨[(4, .box 4 0), (5, .one (.dv [] (.int .i64 (0))))], [(4, 26, [(.dv [] (.str ((x).1))), (.key 9001), (.dv [] (.int .i64 ((x).2.2)))])], [(9001, some (kcOf false (itemsD (x.2.1))))]⟩) (weak_sub ⟨rfl, rfl, trivial⟩ ⟨rfl, trivial⟩ ⟨rfl, trivial⟩ rfl) ?_
  iterate 2 refine z ?_
  refine fin2 (res_cell hT rfl rfl rfl rfl) (res_tmp rfl) rfl rfl ?_
  first | exact ⟨rfl, rfl⟩ | skip
 ·skip
  iterate 5 refine z ?_
  refine yO rfl rfl (pu_clo1 rfl (ev_tmp rfl)) rfl ?_
  refine o_callM (k := 9001) rfl rfl rfl rfl Try.call53 (ok_slices_DeleteFunc_Item (x := x.2.1) (r := r) (by omega)) (ev_tmp rfl) rfl (rfl) rfl (am_cons (ev_tmp rfl) (am_clo (clo_cons rfl rfl clo_nil)) am_nil) ?_
  simp only [killT, killB, SV.kill, CV.kill, kk, Nat.reduceBEq]
  iterate 3 refine z ?_
  refine ok_seq ?_
  refine ok_regionW 4 (oB := [2, 3, 6]) (oK := [9001]) (by kernel_rfl) rfl rfl ?_
  refine w_take 0 rfl (by kernel_rfl) rfl rfl (pu_loadBoxA hT rfl rfl (ev_tmp rfl) rfl rfl) rfl rfl rfl rfl rfl ?_
  refine w_take 1 rfl (by kernel_rfl) rfl rfl (pu_fieldBox hT rfl rfl rfl (ev_tmp rfl)) rfl rfl rfl rfl rfl ?_
  refine w_take 2 rfl (by kernel_rfl) rfl rfl (pu_loadBox1 hT rfl rfl (ev_tmp rfl) rfl rfl) rfl rfl rfl rfl rfl ?_
  refine w_take 3 rfl (by kernel_rfl) rfl rfl (pu_lenV hT rfl rfl (ev_tmp rfl)) rfl rfl rfl rfl rfl ?_
  refine w_take 4 rfl (by kernel_rfl) rfl rfl (pu_fieldBox hT rfl rfl rfl (ev_tmp rfl)) rfl rfl rfl rfl rfl ?_
  refine w_take 5 rfl (by kernel_rfl) rfl rfl (pu_loadBox1 hT rfl rfl (ev_tmp rfl) rfl rfl) rfl rfl rfl rfl rfl ?_
  refine w_take 6 rfl (by kernel_rfl) rfl rfl (pu_lenKn (n := ((x.2.1.filter (outIt r)).length)) hT rfl rfl (ev_tmp rfl) rfl rfl) rfl rfl rfl rfl rfl ?_
  refine w_take 7 rfl (by kernel_rfl) rfl rfl (pu_subR rfl (ev_tmp rfl) (ev_tmp rfl) (inR64 (by omega) (by omega))) rfl rfl rfl rfl rfl ?_
  refine w_store 8 rfl (by kernel_rfl) rfl hT rfl rfl rfl (ev_tmp rfl) (ev_tmp rfl) rfl rfl rfl rfl rfl rfl ?_
  refine w_chain [9] rfl rfl (by kernel_rfl) ?_
  iterate 2 refine z ?_
  rw [delS_yes c1]
  refine ok_weak (σ' := ⟨[(4, .box 4 0), (5, .one (.dv [] (.int .i64 (((((x.2.1)).length : Int)) - ((((x.2.1.filter (outIt r)).length) : Int))))))], [(4, 26, [(.dv [] (.str ((x).1))), (.key 9001), (.dv [] (.int .i64 ((x).2.2)))])], [(9001, some (kcOf false (itemsD (x.2.1.filter (outIt r)))))]⟩) (weak_sub ⟨rfl, rfl, trivial⟩ ⟨rfl, trivial⟩ ⟨rfl, trivial⟩ rfl) ?_
  refine z ?_
  refine fin2 (res_cell hT rfl rfl rfl rfl) (res_tmp rfl) rfl rfl ?_
  first | exact ⟨rfl, rfl⟩ | skip
end Go.Proofs.Ytmnimdnmedldgaa

namespace Go.Proofs.Ytmnimdnmedldgaa
open Go.RowKit
open Go.Proofs
set_option linter.unusedVariables false
set_option linter.unusedSimpArgs false

theorem bl_trans : ∀ x y z : List UInt8, Op.bytesLess x y = true → Op.bytesLess y z = true → Op.bytesLess x z = true
 | x, [], z, h, _ => by cases x <;> simp [Op.bytesLess] at h
 | x, b :: y, [], _, h => by simp [Op.bytesLess] at h
 | [], b :: y, c :: z, _, _ => rfl
 | a :: x, b :: y, c :: z, h1, h2 => by
  simp only [Op.bytesLess, Bool.or_eq_true, decide_eq_true_eq, Bool.and_eq_true, beq_iff_eq] at h1 h2 ⊢
  rcases h1 with h1 | ⟨rfl, h1⟩
  ·rcases h2 with h2 | ⟨rfl, h2⟩
   ·exact .inl (UInt8.lt_trans h1 h2)
   ·exact .inl h1
  ·rcases h2 with h2 | ⟨rfl, h2⟩
   ·exact .inl h2
   ·exact .inr ⟨rfl, bl_trans x y z h1 h2⟩
def posF (n : Str) : RecT → Nat
 | [] => 0
 | y :: ys => if sLt y.1 n then posF n ys + 1 else 0
def setV (l : RecT) (i : Nat) (v : Int) : RecT := l.set i ((l.getD i default).1, v)
def insF (l : RecT) (j : Nat) (y : FieldT) : RecT := l.take j ++ y :: l.drop j
def hitF (n : Str) (r : RecT) : Bool := decide (posF n r < r.length) && sEq (r.getD (posF n r) default).1 n
def setF0 (r : RecT) (n : Str) (v : Int) : RecT := if hitF n r then setV r (posF n r) v else insF r (posF n r) (n, v)
def setF (r : RecT) (n : Str) (v : Int) : RecT × Bool := if !isRec r || !isRec (setF0 r n v) then (r, false) else (setF0 r n v, true)
theorem setF_no {r o : RecT} {n : Str} {v : Int} (ho : isRec r = true → o = setF0 r n v) (h : (!isRec r || !isRec o) = true) : setF r n v = (r, false) := by
 unfold setF
 by_cases hr : isRec r = true
 ·rw [← ho hr, if_pos h]
 ·rw [if_pos (by simp [hr])]
theorem setF_yes {r o : RecT} {n : Str} {v : Int} (ho : isRec r = true → o = setF0 r n v) (h : (!isRec r || !isRec o) = false) : setF r n v = (o, true) := by
 have hr : isRec r = true := by cases hh : isRec r <;> simp_all
 rw [setF, ← ho hr, if_neg (by rw [h]; simp)]
theorem dropF_cons {l : RecT} {j : Nat} (h : j < l.length) : l.drop j = l.getD j default :: l.drop (j + 1) := by
 rw [List.drop_eq_getElem_cons h]
 simp [List.getD, List.getElem?_eq_getElem h]
theorem hit_spec {r : RecT} {n : Str} {v : Int} {j : Nat} (hj : posF n r = j) (h : (decide ((j : Int) < (r.length : Int)) && sEq (r.getD (j : Int).toNat default).1 n) = true) : setV r j v = setF0 r n v := by
 have hh : hitF n r = true := by
  rw [Bool.and_eq_true, decide_eq_true_eq, Int.toNat_natCast] at h
  unfold hitF; rw [hj, h.2, decide_eq_true (by omega)]; rfl
 rw [setF0, if_pos hh, hj]
theorem miss_spec {r : RecT} {n : Str} {v : Int} {j : Nat} (hj : posF n r = j) (h : (decide ((j : Int) < (r.length : Int)) && sEq (r.getD (j : Int).toNat default).1 n) = false) : insF r j (n, v) = setF0 r n v := by
 have hh : hitF n r = false := by
  rw [Int.toNat_natCast] at h
  unfold hitF; rw [hj]
  by_cases hl : j < r.length
  ·rw [decide_eq_true (by omega : (j : Int) < (r.length : Int))] at h; rw [decide_eq_true hl]; exact h
  ·rw [decide_eq_false hl]; rfl
 rw [setF0, if_neg (by rw [hh]; simp), hj]
theorem posF_step {n : Str} {l : RecT} {j : Nat} (hp : posF n l = j + posF n (l.drop j)) (h : (decide ((j : Int) < (l.length : Int)) && sLt (l.getD (j : Int).toNat default).1 n) = true) : j < l.length ∧ posF n l = (j + 1) + posF n (l.drop (j + 1)) := by
 obtain ⟨h1, h2⟩ := (Bool.and_eq_true _ _ ▸ h : _ ∧ _)
 have h1 := of_decide_eq_true h1
 rw [Int.toNat_natCast] at h2
 have h3 : j < l.length := by omega
 refine ⟨h3, ?_⟩
 rw [hp, dropF_cons h3, posF, if_pos h2]
 omega
theorem posF_stop {n : Str} {l : RecT} {j : Nat} (hj : j ≤ l.length) (hp : posF n l = j + posF n (l.drop j)) (h : (decide ((j : Int) < (l.length : Int)) && sLt (l.getD (j : Int).toNat default).1 n) = false) : posF n l = j := by
 rcases Nat.lt_or_ge j l.length with h3 | h3
 ·rw [decide_eq_true (by omega : (j : Int) < (l.length : Int)), Bool.true_and, Int.toNat_natCast] at h
  rw [hp, dropF_cons h3, posF, if_neg (by rw [h]; simp)]
  omega
 ·rw [hp, List.drop_eq_nil_of_le h3, posF]; omega
theorem len2 (l : RecT) : (l.flatMap eField).length = l.length * 2 := fl_len (enc := eField) (sz := 2) (fun _ => rfl) l
theorem setV_len {l : RecT} {i : Nat} {v : Int} : (setV l i v).length = l.length := by simp [setV]
theorem setR_setV {l : RecT} {i : Nat} {v : Int} (hi : i < l.length) : setR (i * 2 + 1) [DV.int .i64 v] (l.flatMap eField) = (setV l i v).flatMap eField := by
 have e : l.flatMap eField = (l.take i).flatMap eField ++ (eField (l.getD i default) ++ (l.drop (i + 1)).flatMap eField) := by
  rw [← List.flatMap_cons, ← dropF_cons hi, ← List.flatMap_append, List.take_append_drop]
 have e2 : (setV l i v).flatMap eField = (l.take i).flatMap eField ++ (eField ((l.getD i default).1, v) ++ (l.drop (i + 1)).flatMap eField) := by
  rw [setV, List.set_eq_take_append_cons_drop, if_pos hi, List.flatMap_append, List.flatMap_cons]
 have hl : ((l.take i).flatMap eField).length = i * 2 := by rw [len2, List.length_take]; omega
 rw [e, e2]
 exact setR_mid (pre := (l.take i).flatMap eField) (B := eField (l.getD i default)) (B' := eField ((l.getD i default).1, v)) (post := (l.drop (i + 1)).flatMap eField) (m := i * 2) (off := i * 2 + 1) (j := 1) hl rfl rfl (Nat.le_refl _)
theorem ok_spec_SetField {r : RecT} {n : Str} {v : Int} (hb : r.length ≤ 1099511627776) : KFn Try.prog 98 [.agg [(.dv [] (fieldsD (r)))], .one (.dv [] (.str (n))), .one (.dv [] (.int .i64 (v)))] (.tup [(true, [(.key 9001)]), (false, [(.dv [] (.bool ((setF r n v).2)))])]) [(9001, some (kcOf false (fieldsD ((setF r n v).1))))] := by
 refine ⟨fn_intro Try.func98 rfl Try.ntmps98 Try.results98 rfl (fun C => ?_)⟩
 refine yF 0 0 rfl rfl fun f0_0 => ?_
 refine ok_fact (x := .tmp 1) (ev_tmp rfl) fun f1 => ?_
 refine ok_fact (x := .tmp 2) (ev_tmp rfl) fun f2 => ?_
 iterate 7 refine z ?_
 refine zK 8998 Try.call75 ?_ (hf := ok_spec_l5Copy (x := r) (by omega))
 iterate 8 refine z ?_
 refine ok_loop (ι := Nat) (fun zz => ⟨[(1, .one (.dv [] (.str (n)))), (2, .one (.dv [] (.int .i64 (v)))), (3, .box 3 0), (6, .box 6 0), (7, .one (.dv [] (.bool (false)))), (8, .box 8 0), (9, .one (.dv [] (.int .i64 ((zz : Int)))))], [(3, 40, [(.dv [] (fieldsD (r)))]), (6, 40, [.nil]), (8, 40, [(.key 9001)])], [(9001, some (kcOf false (.sl 91 2 (r.length) (r.flatMap eField))))]⟩) (fun zz => zz ≤ r.length ∧ posF n r = zz + posF n (r.drop zz)) (fun zz => r.length - zz) (0) ?_ (weak_sub ⟨rfl, rfl, rfl, rfl, rfl, rfl, rfl, trivial⟩ ⟨rfl, rfl, rfl, trivial⟩ ⟨rfl, trivial⟩ rfl) (fun zz hx => ?_)
 ·exact ⟨Nat.zero_le _, by simp⟩
 obtain ⟨j, rfl⟩ : ∃ v, v = zz := ⟨_, rfl⟩
 replace hx : j ≤ r.length ∧ posF n r = j + posF n (r.drop j) := hx
 obtain ⟨hj, hp⟩ := hx
 show Ok _ _ _ _ _ (⟨[(1, .one (.dv [] (.str (n)))), (2, .one (.dv [] (.int .i64 (v)))), (3, .box 3 0), (6, .box 6 0), (7, .one (.dv [] (.bool (false)))), (8, .box 8 0), (9, .one (.dv [] (.int .i64 ((j : Int)))))], [(3, 40, [(.dv [] (fieldsD (r)))]), (6, 40, [.nil]), (8, 40, [(.key 9001)])], [(9001, some (kcOf false (.sl 91 2 (r.length) (r.flatMap eField))))]⟩ : St)
 iterate 18 refine z ?_
 refine yQ rfl (fun c1 => ?_) fun c1 => ?_
 ·skip
  have hst := posF_step hp c1
  have hst1 := hst.1
  iterate 3 refine z ?_
  refine ok_region ?_
  iterate 3 refine z ?_
  refine ops_nil ?_
  iterate 2 refine z ?_
  refine ⟨j + 1, ?_, ?_, weak_sub ⟨rfl, rfl, rfl, rfl, rfl, rfl, rfl, trivial⟩ ⟨rfl, rfl, rfl, trivial⟩ ⟨rfl, trivial⟩ rfl⟩
  ·exact ⟨by omega, hst.2⟩
  ·omega
 ·skip
  have hpos := posF_stop hj hp c1
  iterate 23 refine z ?_
  refine yQ rfl (fun c2 => ?_) fun c2 => ?_
  ·skip
   have hlt : j < r.length := by have h8 := c2; rw [Bool.and_eq_true, decide_eq_true_eq] at h8; omega
   refine ok_region ?_
   iterate 4 refine z ?_
   refine yO rfl rfl (pu_indexK (i := j) hT rfl rfl rfl (ev_tmp rfl) rfl (ev_tmp rfl) rfl (by show _ < (r.length); omega)) rfl ?_
   refine z ?_
   refine o_storeE (js := []) (cs := (setV r j v).flatMap eField) hT rfl rfl rfl rfl (ev_tmp rfl) (ev_tmp rfl) rfl rfl rfl rfl (ow_cons' (ow_dv rfl) ow_nil rfl) (by decide) (by decide) rfl (by show _ ≤ List.length (r.flatMap eField); rw [len2]; omega) (setR_setV (by omega)) ?_
   simp only [killT, killB, SV.kill, CV.kill, kk, Nat.reduceBEq]
   refine z ?_
   refine ok_seq ?_
   refine ok_seq ?_
   refine ok_weak (weak_eq (k := 9001) (c' := kcOf false (fieldsD (setV r j v))) rfl (congrArg (fun m => KC.mk false 91 2 m ((setV r j v).flatMap eField)) setV_len.symm) rfl) ?_
   refine ok_region ?_
   refine z ?_
   refine zC Try.call41 ?_ (hf := ok_spec_IsRecord (r := r) )
   iterate 3 refine z ?_
   refine o_callG (gd_bool rfl rfl rfl rfl rfl) rfl rfl Try.call41 (ok_spec_IsRecord (r := setV r j v) ) (fun hg => (as_cons (ev_opt rfl hg) (ag_agg (ag_cons (ac_key' rfl rfl) ag_nil)) as_nil)) rfl rfl ?_
   iterate 3 refine z ?_
   refine yQ rfl (fun c3 => ?_) fun c3 => ?_
   ·skip
    refine ok_seq ?_
    refine ok_weak (σ' := ⟨[(3, .box 3 0), (6, .box 6 0), (7, .one (.dv [] (.bool (false))))], [(3, 40, [(.dv [] (fieldsD (r)))]), (6, 40, [.nil])], []⟩) (weak_sub ⟨rfl, rfl, rfl, trivial⟩ ⟨rfl, rfl, trivial⟩ trivial rfl) ?_
    refine ok_region ?_
    refine z ?_
    refine zK 8998 Try.call75 ?_ (hf := ok_spec_l5Copy (x := r) (by omega))
    iterate 3 refine z ?_
    rw [setF_no (fun _ => hit_spec hpos c2) c3]
    refine ok_weak (σ' := ⟨[(6, .box 6 0), (7, .one (.dv [] (.bool (false))))], [(6, 40, [(.key 9001)])], [(9001, some (kcOf false (fieldsD (r))))]⟩) (weak_sub ⟨rfl, rfl, trivial⟩ ⟨rfl, trivial⟩ ⟨rfl, trivial⟩ rfl) ?_
    iterate 2 refine z ?_
    refine fin2 (res_cell hT rfl rfl rfl rfl) (res_tmp rfl) rfl rfl ?_
    first | exact ⟨rfl, rfl⟩ | skip
   ·skip
    iterate 7 refine z ?_
    rw [setF_yes (fun _ => hit_spec hpos c2) c3]
    refine ok_weak (σ' := ⟨[(6, .box 6 0), (7, .one (.dv [] (.bool (true))))], [(6, 40, [(.key 9001)])], [(9001, some (kcOf false (fieldsD (setV r j v))))]⟩) (weak_sub ⟨rfl, rfl, trivial⟩ ⟨rfl, trivial⟩ ⟨rfl, trivial⟩ rfl) ?_
    refine z ?_
    refine fin2 (res_cell hT rfl rfl rfl rfl) (res_tmp rfl) rfl rfl ?_
    first | exact ⟨rfl, rfl⟩ | skip
  ·skip
   refine ok_cutT (σ' := ⟨[(3, .box 3 0), (6, .box 6 0), (7, .one (.dv [] (.bool (false)))), (8, .box 8 0)], [(3, 40, [(.dv [] (fieldsD (r)))]), (6, 40, [.nil]), (8, 40, [(.key 9050)])], [(9001, some (kcOf false (.sl 91 2 (r.length) (r.flatMap eField)))), (9050, some (kcOf false (.sl 91 2 ((insF r j (n, v)).length) ((insF r j (n, v)).flatMap eField))))]⟩) ?_ ?_
   ·skip
    refine ok_regionH [0, 1, 2, 3, 4, 5, 6, 7, 8, 9, 10, 11, 12, 13, 14, 15, 16] (oB := [3, 6, 8]) (oK := [9001]) (by kernel_rfl) rfl rfl ?_
    refine n_start ?_
    refine zN 1 ?_
    refine zN 2 ?_
    refine zN 3 ?_
    refine n_take 4 rfl (by kernel_rfl) rfl rfl (pu_sliceH hT rfl rfl rfl (ev_tmp rfl) (ev_tmp rfl) (fun _ => rfl) (by omega) (by omega)) rfl rfl rfl rfl ?_
    refine zN 6 ?_
    refine zN 7 ?_
    refine n_take 8 rfl (by kernel_rfl) rfl rfl (pu_build hT hB rfl rfl rfl (bp_cons (ev_tmp rfl) rfl rfl rfl rfl rfl (bp_cons (ev_tmp rfl) rfl rfl rfl rfl rfl bp_nil))) rfl rfl rfl rfl ?_
    refine zN 11 ?_
    refine zN 12 ?_
    refine zN 13 ?_
    refine n_take 14 rfl (by kernel_rfl) rfl rfl (pu_sliceL hT rfl rfl rfl (ev_tmp rfl) (ev_tmp rfl) (fun _ => rfl) (by omega) (by omega)) rfl rfl rfl rfl ?_
    refine n_split 0 [9] (by kernel_rfl) ⟨?_, ?_, trivial⟩
    ·skip
     refine nj_build0 (k := 9050) 0 hT rfl rfl rfl rfl rfl rfl rfl rfl rfl rfl rfl rfl ?_
     refine n_split 5 [9] (by kernel_rfl) ⟨?_, ?_, trivial⟩
     ·skip
      refine nj_appV (k := 9050) (cs := (r.take j).flatMap eField) (n := (r.take j).length) 5 hT rfl rfl rfl rfl rfl rfl rfl rfl (ev_tmp rfl) rfl rfl rfl (ev_tmp rfl) (plain_flat (fun _ => rfl) _) (by dsimp only [kcOf]; simp only [List.length_take]; omega) (by dsimp only [kcOf]; simp only [List.length_take]; omega) (Nat.zero_add _) (rfl) rfl rfl ?_
      simp only [killT, killB, SV.kill, CV.kill, kk, Nat.reduceBEq]
      refine n_split 9 [] (by kernel_rfl) ⟨?_, trivial⟩
      ·skip
       refine nj_buildN (k := 9059) (js := []) 9 hT rfl rfl rfl rfl rfl rfl rfl rfl rfl rfl rfl rfl (ep_cons (ev_tmp rfl) rfl rfl rfl ep_nil) (ow_cons' (ow_dv rfl) (ow_cons' (ow_dv rfl) ow_nil rfl) rfl) (by decide) (by decide) rfl rfl rfl rfl rfl ?_
       simp only [killT, killB, SV.kill, CV.kill, kk, Nat.reduceBEq]
       refine n_split 10 [] (by kernel_rfl) ⟨?_, trivial⟩
       ·skip
        refine nj_appV (k := 9050) (cs := ((r.take j) ++ [(n, v)]).flatMap eField) (n := ((r.take j) ++ [(n, v)]).length) (m := 1) (ds := [.str (n), .int .i64 (v)]) 10 hT rfl rfl rfl rfl rfl rfl rfl rfl (ev_tmp rfl) rfl rfl rfl (ev_keyv' (ev_tmp rfl) rfl rfl) rfl (by dsimp only [kcOf]; simp only [List.length_take]; omega) (by dsimp only [kcOf]; simp only [List.length_take]; omega) (by simp) (by rw [List.flatMap_append]; rfl) rfl rfl ?_
        simp only [killT, killB, SV.kill, CV.kill, kk, Nat.reduceBEq]
        refine n_split 15 [] (by kernel_rfl) ⟨?_, trivial⟩
        ·skip
         refine nj_appV (k := 9050) (cs := (insF r j (n, v)).flatMap eField) (n := (insF r j (n, v)).length) 15 hT rfl rfl rfl rfl rfl rfl rfl rfl (ev_tmp rfl) rfl rfl rfl (ev_tmp rfl) (plain_flat (fun _ => rfl) _) (by dsimp only [kcOf]; simp only [List.length_append, List.length_take, List.length_drop, List.length_singleton]; omega) (by dsimp only [kcOf]; simp only [List.length_append, List.length_take, List.length_drop, List.length_singleton]; omega) (by simp [insF]; omega) (by rw [← List.flatMap_append, insF, List.append_assoc]; rfl) rfl rfl ?_
         simp only [killT, killB, SV.kill, CV.kill, kk, Nat.reduceBEq]
         refine zN 16 ?_
         refine n_split 17 [] (by kernel_rfl) ⟨?_, trivial⟩
         ·skip
          refine nj_last 17 rfl rfl (by kernel_rfl) (ef_storeBox hT rfl rfl rfl (ev_tmp rfl) (ev_tmp rfl) rfl rfl rfl rfl rfl rfl) (by kernel_rfl) ?_
          exact then_n (weak_sub ⟨rfl, rfl, rfl, rfl, trivial⟩ ⟨rfl, rfl, rfl, trivial⟩ ⟨rfl, rfl, trivial⟩ rfl)
     ·skip
      refine nj_buildN (k := 9059) (js := []) 9 hT rfl rfl rfl rfl rfl rfl rfl rfl rfl rfl rfl rfl (ep_cons (ev_tmp rfl) rfl rfl rfl ep_nil) (ow_cons' (ow_dv rfl) (ow_cons' (ow_dv rfl) ow_nil rfl) rfl) (by decide) (by decide) rfl rfl rfl rfl rfl ?_
      simp only [killT, killB, SV.kill, CV.kill, kk, Nat.reduceBEq]
      refine n_split 5 [] (by kernel_rfl) ⟨?_, trivial⟩
      ·skip
       refine nj_appV (k := 9050) (cs := (r.take j).flatMap eField) (n := (r.take j).length) 5 hT rfl rfl rfl rfl rfl rfl rfl rfl (ev_tmp rfl) rfl rfl rfl (ev_tmp rfl) (plain_flat (fun _ => rfl) _) (by dsimp only [kcOf]; simp only [List.length_take]; omega) (by dsimp only [kcOf]; simp only [List.length_take]; omega) (Nat.zero_add _) (rfl) rfl rfl ?_
       simp only [killT, killB, SV.kill, CV.kill, kk, Nat.reduceBEq]
       refine n_split 10 [] (by kernel_rfl) ⟨?_, trivial⟩
       ·skip
        refine nj_appV (k := 9050) (cs := ((r.take j) ++ [(n, v)]).flatMap eField) (n := ((r.take j) ++ [(n, v)]).length) (m := 1) (ds := [.str (n), .int .i64 (v)]) 10 hT rfl rfl rfl rfl rfl rfl rfl rfl (ev_tmp rfl) rfl rfl rfl (ev_keyv' (ev_tmp rfl) rfl rfl) rfl (by dsimp only [kcOf]; simp only [List.length_take]; omega) (by dsimp only [kcOf]; simp only [List.length_take]; omega) (by simp) (by rw [List.flatMap_append]; rfl) rfl rfl ?_
        simp only [killT, killB, SV.kill, CV.kill, kk, Nat.reduceBEq]
        refine n_split 15 [] (by kernel_rfl) ⟨?_, trivial⟩
        ·skip
         refine nj_appV (k := 9050) (cs := (insF r j (n, v)).flatMap eField) (n := (insF r j (n, v)).length) 15 hT rfl rfl rfl rfl rfl rfl rfl rfl (ev_tmp rfl) rfl rfl rfl (ev_tmp rfl) (plain_flat (fun _ => rfl) _) (by dsimp only [kcOf]; simp only [List.length_append, List.length_take, List.length_drop, List.length_singleton]; omega) (by dsimp only [kcOf]; simp only [List.length_append, List.length_take, List.length_drop, List.length_singleton]; omega) (by simp [insF]; omega) (by rw [← List.flatMap_append, insF, List.append_assoc]; rfl) rfl rfl ?_
         simp only [killT, killB, SV.kill, CV.kill, kk, Nat.reduceBEq]
         refine zN 16 ?_
         refine n_split 17 [] (by kernel_rfl) ⟨?_, trivial⟩
         ·skip
          refine nj_last 17 rfl rfl (by kernel_rfl) (ef_storeBox hT rfl rfl rfl (ev_tmp rfl) (ev_tmp rfl) rfl rfl rfl rfl rfl rfl) (by kernel_rfl) ?_
          exact then_n (weak_sub ⟨rfl, rfl, rfl, rfl, trivial⟩ ⟨rfl, rfl, rfl, trivial⟩ ⟨rfl, rfl, trivial⟩ rfl)
    ·skip
     refine nj_buildN (k := 9059) (js := []) 9 hT rfl rfl rfl rfl rfl rfl rfl rfl rfl rfl rfl rfl (ep_cons (ev_tmp rfl) rfl rfl rfl ep_nil) (ow_cons' (ow_dv rfl) (ow_cons' (ow_dv rfl) ow_nil rfl) rfl) (by decide) (by decide) rfl rfl rfl rfl rfl ?_
     simp only [killT, killB, SV.kill, CV.kill, kk, Nat.reduceBEq]
     refine n_split 0 [] (by kernel_rfl) ⟨?_, trivial⟩
     ·skip
      refine nj_build0 (k := 9050) 0 hT rfl rfl rfl rfl rfl rfl rfl rfl rfl rfl rfl rfl ?_
      refine n_split 5 [] (by kernel_rfl) ⟨?_, trivial⟩
      ·skip
       refine nj_appV (k := 9050) (cs := (r.take j).flatMap eField) (n := (r.take j).length) 5 hT rfl rfl rfl rfl rfl rfl rfl rfl (ev_tmp rfl) rfl rfl rfl (ev_tmp rfl) (plain_flat (fun _ => rfl) _) (by dsimp only [kcOf]; simp only [List.length_take]; omega) (by dsimp only [kcOf]; simp only [List.length_take]; omega) (Nat.zero_add _) (rfl) rfl rfl ?_
       simp only [killT, killB, SV.kill, CV.kill, kk, Nat.reduceBEq]
       refine n_split 10 [] (by kernel_rfl) ⟨?_, trivial⟩
       ·skip
        refine nj_appV (k := 9050) (cs := ((r.take j) ++ [(n, v)]).flatMap eField) (n := ((r.take j) ++ [(n, v)]).length) (m := 1) (ds := [.str (n), .int .i64 (v)]) 10 hT rfl rfl rfl rfl rfl rfl rfl rfl (ev_tmp rfl) rfl rfl rfl (ev_keyv' (ev_tmp rfl) rfl rfl) rfl (by dsimp only [kcOf]; simp only [List.length_take]; omega) (by dsimp only [kcOf]; simp only [List.length_take]; omega) (by simp) (by rw [List.flatMap_append]; rfl) rfl rfl ?_
        simp only [killT, killB, SV.kill, CV.kill, kk, Nat.reduceBEq]
        refine n_split 15 [] (by kernel_rfl) ⟨?_, trivial⟩
        ·skip
         refine nj_appV (k := 9050) (cs := (insF r j (n, v)).flatMap eField) (n := (insF r j (n, v)).length) 15 hT rfl rfl rfl rfl rfl rfl rfl rfl (ev_tmp rfl) rfl rfl rfl (ev_tmp rfl) (plain_flat (fun _ => rfl) _) (by dsimp only [kcOf]; simp only [List.length_append, List.length_take, List.length_drop, List.length_singleton]; omega) (by dsimp only [kcOf]; simp only [List.length_append, List.length_take, List.length_drop, List.length_singleton]; omega) (by simp [insF]; omega) (by rw [← List.flatMap_append, insF, List.append_assoc]; rfl) rfl rfl ?_
         simp only [killT, killB, SV.kill, CV.kill, kk, Nat.reduceBEq]
         refine zN 16 ?_
         refine n_split 17 [] (by kernel_rfl) ⟨?_, trivial⟩
         ·skip
          refine nj_last 17 rfl rfl (by kernel_rfl) (ef_storeBox hT rfl rfl rfl (ev_tmp rfl) (ev_tmp rfl) rfl rfl rfl rfl rfl rfl) (by kernel_rfl) ?_
          exact then_n (weak_sub ⟨rfl, rfl, rfl, rfl, trivial⟩ ⟨rfl, rfl, rfl, trivial⟩ ⟨rfl, rfl, trivial⟩ rfl)
   refine ok_seq ?_
   refine ok_seq ?_
   refine ok_weak (weak_swapB (b := 8) (i := 0) (k := 9050) (k' := 9001) rfl rfl rfl rfl (by decide) rfl rfl) ?_
   simp only [killT, killB, SV.kill, CV.kill, kk, Nat.reduceBEq]
   refine ok_weak (weak_eq (k := 9001) (c' := kcOf false (fieldsD (insF r j (n, v)))) rfl (rfl) rfl) ?_
   refine ok_region ?_
   refine z ?_
   refine zC Try.call41 ?_ (hf := ok_spec_IsRecord (r := r) )
   iterate 3 refine z ?_
   refine o_callG (gd_bool rfl rfl rfl rfl rfl) rfl rfl Try.call41 (ok_spec_IsRecord (r := insF r j (n, v)) ) (fun hg => (as_cons (ev_opt rfl hg) (ag_agg (ag_cons (ac_key' rfl rfl) ag_nil)) as_nil)) rfl rfl ?_
   iterate 3 refine z ?_
   refine yQ rfl (fun c4 => ?_) fun c4 => ?_
   ·skip
    refine ok_seq ?_
    refine ok_weak (σ' := ⟨[(3, .box 3 0), (6, .box 6 0), (7, .one (.dv [] (.bool (false))))], [(3, 40, [(.dv [] (fieldsD (r)))]), (6, 40, [.nil])], []⟩) (weak_sub ⟨rfl, rfl, rfl, trivial⟩ ⟨rfl, rfl, trivial⟩ trivial rfl) ?_
    refine ok_region ?_
    refine z ?_
    refine zK 8998 Try.call75 ?_ (hf := ok_spec_l5Copy (x := r) (by omega))
    iterate 3 refine z ?_
    rw [setF_no (fun _ => miss_spec hpos c2) c4]
    refine ok_weak (σ' := ⟨[(6, .box 6 0), (7, .one (.dv [] (.bool (false))))], [(6, 40, [(.key 9001)])], [(9001, some (kcOf false (fieldsD (r))))]⟩) (weak_sub ⟨rfl, rfl, trivial⟩ ⟨rfl, trivial⟩ ⟨rfl, trivial⟩ rfl) ?_
    iterate 2 refine z ?_
    refine fin2 (res_cell hT rfl rfl rfl rfl) (res_tmp rfl) rfl rfl ?_
    first | exact ⟨rfl, rfl⟩ | skip
   ·skip
    iterate 7 refine z ?_
    rw [setF_yes (fun _ => miss_spec hpos c2) c4]
    refine ok_weak (σ' := ⟨[(6, .box 6 0), (7, .one (.dv [] (.bool (true))))], [(6, 40, [(.key 9001)])], [(9001, some (kcOf false (fieldsD (insF r j (n, v)))))]⟩) (weak_sub ⟨rfl, rfl, trivial⟩ ⟨rfl, trivial⟩ ⟨rfl, trivial⟩ rfl) ?_
    refine z ?_
    refine fin2 (res_cell hT rfl rfl rfl rfl) (res_tmp rfl) rfl rfl ?_
    first | exact ⟨rfl, rfl⟩ | skip
end Go.Proofs.Ytmnimdnmedldgaa

namespace Go.Proofs.Ytmnimdnmedldgaa
open Go.RowKit
open Go.Proofs
set_option linter.unusedVariables false
set_option linter.unusedSimpArgs false

theorem kEq_self (k : KeyT) : kEq k k = true := by simp [kEq, sEq]
theorem kEq_eq {a b : KeyT} (h : kEq a b = true) : a = b := by
 simp only [kEq, sEq, Bool.and_eq_true, decide_eq_true_eq, beq_iff_eq] at h
 exact Prod.ext h.1 (Prod.ext h.2.1 (by
  have := h.2.2
  rw [toList_data, toList_data] at this
  exact ByteArray.ext (Array.toList_inj.1 this)))
theorem findI_key {k : KeyT} : ∀ (l : List ItemT) (i : Int), findI (fun y : ItemT => kEq y.1 k) l i = findI (fun q : KeyT => kEq q k) (l.map Prod.fst) i
 | [], _ => rfl
 | x :: l, i => by rw [List.map_cons, findI, findI, findI_key l (i + 1)]
theorem setI_keys {l : List ItemT} {i : Nat} {r : RecT} : (setI l i r).map Prod.fst = l.map Prod.fst := by
 apply List.ext_getElem?
 intro j
 rw [setI, List.getElem?_map, List.getElem?_set, List.getElem?_map]
 by_cases h : i = j
 ·subst h
  by_cases h2 : i < l.length
  ·simp [h2, List.getD]
  ·simp [h2]
 ·simp [h]
theorem findI_app {α : Type} {p : α → Bool} : ∀ (a : List α) {y : α} {b : List α} (i : Int), a.any p = false → p y = true → findI p (a ++ y :: b) i = i + (a.length : Int)
 | [], y, b, i, _, hy => by rw [List.nil_append, findI, if_pos hy]; simp
 | x :: a, y, b, i, ha, hy => by
  simp only [List.any_cons, Bool.or_eq_false_iff] at ha
  rw [List.cons_append, findI, if_neg (by rw [ha.1]; simp), findI_app a (i + 1) ha.2 hy, List.length_cons]
  omega
theorem posK_le (k : KeyT) : ∀ l : List ItemT, posK k l ≤ l.length
 | [] => Nat.le_refl _
 | y :: ys => by have := posK_le k ys; rw [posK]; split <;> simp only [List.length_cons] <;> omega
theorem put_cases {x : StoreT} {k : KeyT} {r : RecT} (h : (putN x k r).2 = true) : isSto x = true ∧ isKey k = true ∧ isRec r = true ∧
  ((0 ≤ fndK x k ∧ putN x k r = ((x.1, setI x.2.1 (fndK x k).toNat r, x.2.2), true)) ∨ (fndK x k < 0 ∧ x.2.1.length < 16 ∧ putN x k r = ((x.1, insI x.2.1 (posK k x.2.1) (k, r), autoP x k), true))) := by
 unfold putN at h ⊢
 split at h
 ·cases h
 ·rename_i h1
  have h1' : isSto x = true ∧ isKey k = true ∧ isRec r = true := by
   revert h1; cases isSto x <;> cases isKey k <;> cases isRec r <;> simp
  refine ⟨h1'.1, h1'.2.1, h1'.2.2, ?_⟩
  rw [if_neg h1]
  split at h
  ·rename_i h2
   exact .inl ⟨h2, by rw [if_pos h2]⟩
  ·rename_i h2
   split at h
   ·cases h
   ·rename_i h3
    exact .inr ⟨by omega, by omega, by rw [if_neg h2, if_neg h3]⟩
theorem put_find {x : StoreT} {k : KeyT} {r : RecT} (h : (putN x k r).2 = true) : 0 ≤ fndK (putN x k r).1 k ∧ fndK (putN x k r).1 k < (putN x k r).1.2.1.length ∧ ((putN x k r).1.2.1.getD (fndK (putN x k r).1 k).toNat default).2 = r := by
 obtain ⟨_, _, _, ⟨h1, h2⟩ | ⟨h1, h3, h2⟩⟩ := put_cases h
 ·rw [h2]
  have e : fndK (x.1, setI x.2.1 (fndK x k).toNat r, x.2.2) k = fndK x k := by
   show findI _ (setI x.2.1 (fndK x k).toNat r) 0 = findI _ x.2.1 0
   rw [findI_key, setI_keys, ← findI_key]
  have h4 := fndK_lt h1
  dsimp only
  rw [e]
  refine ⟨h1, by rw [setI_len]; exact h4, ?_⟩
  have h5 : (fndK x k).toNat < x.2.1.length := by omega
  simp [setI, List.getD, h5]
 ·rw [h2]
  have hn : x.2.1.any (fun y : ItemT => kEq y.1 k) = false := findI_neg _ 0 (by omega) h1
  have hp := posK_le k x.2.1
  have e : fndK (x.1, insI x.2.1 (posK k x.2.1) (k, r), autoP x k) k = (posK k x.2.1 : Int) := by
   show findI _ (insI x.2.1 (posK k x.2.1) (k, r)) 0 = _
   unfold insI
   rw [List.append_assoc, List.singleton_append, findI_app (p := fun y : ItemT => kEq y.1 k) _ 0 ?_ (kEq_self k), List.length_take]
   ·omega
   ·rw [List.any_eq_false] at hn ⊢
    exact fun y hy => hn y (List.mem_of_mem_take hy)
  dsimp only
  rw [e]
  refine ⟨by omega, by rw [insI_len]; omega, ?_⟩
  have h5 : (x.2.1.take (posK k x.2.1)).length = posK k x.2.1 := by rw [List.length_take]; omega
  rw [Int.toNat_natCast]
  unfold insI
  rw [List.append_assoc, List.singleton_append, List.getD_eq_getElem?_getD, List.getElem?_append_right (by omega), h5, Nat.sub_self]
  rfl
theorem put_sto {x : StoreT} {k : KeyT} {r : RecT} (h : (putN x k r).2 = true) : isSto (putN x k r).1 = true := by
 obtain ⟨hs, hk, hr, ⟨h1, h2⟩ | ⟨h1, h3, h2⟩⟩ := put_cases h
 ·rw [h2]; dsimp only
  have h4 := fndK_lt h1
  rw [sto_set hs (by omega), hr]
 ·rw [h2]; dsimp only
  rw [sto_ins hs hk h1 (auto_ok hs), hr]; simpa using h3
theorem putN_sto {x : StoreT} {k : KeyT} {r : RecT} (h : isSto x = true) : isSto (putN x k r).1 = true := by
 cases h2 : (putN x k r).2 with
 | true => exact put_sto h2
 | false => rw [putN_f h2]; exact h
theorem putN_name (x : StoreT) (k : KeyT) (r : RecT) : (putN x k r).1.1 = x.1 := by
 cases h2 : (putN x k r).2 with
 | true => obtain ⟨_, _, _, ⟨_, h⟩ | ⟨_, _, h⟩⟩ := put_cases h2 <;> rw [h]
 | false => rw [putN_f h2]
theorem put_auto {x : StoreT} {k : KeyT} {r : RecT} : x.2.2 ≤ (putN x k r).1.2.2 := by
 cases h2 : (putN x k r).2 with
 | true =>
  obtain ⟨_, _, _, ⟨_, h⟩ | ⟨_, _, h⟩⟩ := put_cases h2 <;> rw [h]
  ·exact Int.le_refl _
  ·dsimp only
   unfold autoP
   split
   ·rename_i h3
    simp only [Bool.and_eq_true, decide_eq_true_eq] at h3
    omega
   ·omega
 | false => rw [putN_f h2]; exact Int.le_refl _
theorem add_two {x : StoreT} {k : KeyT} {r : RecT} : (addN x k r).2 = ((putN x k r).2 && decide (fndK x k < 0)) := by
 unfold addN
 split
 ·rename_i h; rw [decide_eq_false (by omega), Bool.and_false]
 ·rename_i h; rw [decide_eq_true (by omega), Bool.and_true]
theorem auto_law {x : StoreT} {r : RecT} (h : (autoN x r).2.2 = true) : (autoN x r).2.1 = keyA x ∧ fndK x (keyA x) < 0 ∧ 0 ≤ fndK (autoN x r).1 (keyA x) ∧ (autoN x r).1.2.1.length = x.2.1.length + 1 ∧ x.2.2 < 1000000 := by
 unfold autoN at h ⊢
 split at h
 ·cases h
 ·rename_i h1
  rw [if_neg h1]
  split at h
  ·rename_i h2
   rw [if_pos h2]
   have h3 := h2
   rw [add_two, Bool.and_eq_true, decide_eq_true_eq] at h3
   have e : addN x (keyA x) r = putN x (keyA x) r := if_neg (by omega)
   dsimp only
   rw [e]
   refine ⟨rfl, h3.2, (put_find h3.1).1, ?_, by omega⟩
   obtain ⟨_, _, _, ⟨h4, _⟩ | ⟨_, _, h5⟩⟩ := put_cases h3.1
   ·omega
   ·rw [h5]; exact insI_len
  ·cases h
/-! ### deletions -/
theorem wSum_split {α : Type} (w : α → Nat) (p : α → Bool) : ∀ l : List α, wSum w (l.filter (fun y => !p y)) + wSum w (l.filter p) = wSum w l
 | [] => rfl
 | x :: l => by
  have ih := wSum_split w p l
  simp only [wSum] at *
  cases h : p x <;> simp [h] <;> omega
theorem del_none {x : StoreT} {r : RangeT} {y : ItemT} (hy : inRg y.1 r = true) : fndK (x.1, x.2.1.filter (outIt r), x.2.2) y.1 < 0 := by
 have h : (x.2.1.filter (outIt r)).any (fun z : ItemT => kEq z.1 y.1) = false := by
  rw [List.any_eq_false]
  intro z hz he
  rw [List.mem_filter] at hz
  have := kEq_eq he
  have h2 := hz.2
  rw [outIt, this, hy] at h2
  cases h2
 have := findI_nil _ 0 h
 show findI _ _ 0 < 0
 rw [this]; decide
theorem del_rest (x : StoreT) (r : RangeT) : (x.2.1.filter (outIt r)).filter (inIt r) = [] := by
 rw [List.filter_eq_nil_iff]
 intro y hy
 have h := (List.mem_filter.1 hy).2
 unfold outIt at h; unfold inIt
 simpa using h
theorem del_size (x : StoreT) (r : RangeT) : sizeS (x.1, x.2.1.filter (outIt r), x.2.2) + wSum sizeI (x.2.1.filter (inIt r)) = sizeS x := wSum_split sizeI (inIt r) x.2.1
theorem del_len (x : StoreT) (r : RangeT) : (x.2.1.filter (outIt r)).length + (x.2.1.filter (inIt r)).length = x.2.1.length := by
 have h := wSum_split (fun _ => 1) (inIt r) x.2.1
 have e : ∀ l : List ItemT, wSum (fun _ => 1) l = l.length := fun l => by
  induction l with
  | nil => rfl
  | cons z l ih => simp only [wSum, List.map_cons, List.sum_cons, List.length_cons] at *; omega
 rw [e, e, e] at h
 exact h

end Go.Proofs.Ytmnimdnmedldgaa

namespace Go.Proofs.Ytmnimdnmedldgaa
open Go.RowKit
open Go.Proofs
set_option linter.unusedVariables false
set_option linter.unusedSimpArgs false

theorem sgnI_neg {a b : Int} : sgnI a b < 0 ↔ a < b := by unfold sgnI; split <;> (try split) <;> omega
theorem sgnS_neg {a b : Str} : sgnS a b < 0 ↔ sLt a b = true := by
 unfold sgnS
 split
 ·rename_i h; simp [h]
 ·rename_i h; split <;> simp [h]
theorem cmp_lt {a b : KeyT} (h : cmpK a b < 0) : isKey a = true ∧ isKey b = true ∧ (a.1 < b.1 ∨ (a.1 = b.1 ∧ (a.2.1 < b.2.1 ∨ (a.2.1 = b.2.1 ∧ sLt a.2.2 b.2.2 = true)))) := by
 by_cases hk : (!isKey a || !isKey b) = true
 ·rw [cmpK_bad hk] at h; omega
 ·have hk : (!isKey a || !isKey b) = false := by simpa using hk
  obtain ⟨ha, hb⟩ := not_or_f hk
  refine ⟨ha, hb, ?_⟩
  by_cases h1 : a.1 = b.1
  ·by_cases h2 : a.2.1 = b.2.1
   ·rw [cmpK_text hk h1 h2, sgnS_neg] at h; exact .inr ⟨h1, .inr ⟨h2, h⟩⟩
   ·rw [cmpK_num hk h1 h2, sgnI_neg] at h; exact .inr ⟨h1, .inl h⟩
  ·rw [cmpK_kind hk h1, sgnI_neg] at h; exact .inl h
theorem lt_cmp {a b : KeyT} (ha : isKey a = true) (hb : isKey b = true) (h : a.1 < b.1 ∨ (a.1 = b.1 ∧ (a.2.1 < b.2.1 ∨ (a.2.1 = b.2.1 ∧ sLt a.2.2 b.2.2 = true)))) : cmpK a b < 0 := by
 have hk : (!isKey a || !isKey b) = false := by rw [ha, hb]; rfl
 rcases h with h | ⟨h1, h | ⟨h2, h⟩⟩
 ·rw [cmpK_kind hk (by omega), sgnI_neg]; exact h
 ·rw [cmpK_num hk h1 (by omega), sgnI_neg]; exact h
 ·rw [cmpK_text hk h1 h2, sgnS_neg]; exact h
theorem cmp_trans {a b c : KeyT} (h1 : cmpK a b < 0) (h2 : cmpK b c < 0) : cmpK a c < 0 := by
 obtain ⟨ha, hb, k1⟩ := cmp_lt h1
 obtain ⟨_, hc, k2⟩ := cmp_lt h2
 refine lt_cmp ha hc ?_
 rcases k1 with k1 | ⟨e1, k1 | ⟨e2, k1⟩⟩ <;> rcases k2 with k2 | ⟨f1, k2 | ⟨f2, k2⟩⟩
 ·exact .inl (by omega)
 ·exact .inl (by omega)
 ·exact .inl (by omega)
 ·exact .inl (by omega)
 ·exact .inr ⟨by omega, .inl (by omega)⟩
 ·exact .inr ⟨by omega, .inl (by omega)⟩
 ·exact .inl (by omega)
 ·exact .inr ⟨by omega, .inl (by omega)⟩
 ·exact .inr ⟨by omega, .inr ⟨by omega, (bl_trans _ _ _ k1 k2)⟩⟩
theorem cmp_self (a : KeyT) : cmpK a a = 0 := by have := cmpK_swap a a; omega
abbrev Srt (l : List ItemT) : Prop := l.Pairwise fun a b => cmpK a.1 b.1 < 0
theorem okL_srt : ∀ (l : List ItemT) (p : Option KeyT), okL p l = true → Srt l ∧ (∀ q, p = some q → ∀ y ∈ l, cmpK q y.1 < 0) ∧ ∀ y ∈ l, isKey y.1 = true
 | [], _, _ => ⟨List.Pairwise.nil, by simp, by simp⟩
 | x :: l, p, h => by
  simp only [okL, Bool.and_eq_true] at h
  obtain ⟨i1, i2, i3⟩ := okL_srt l (some x.1) (by first | exact h.2 | exact h.1.2)
  have hx : relP p x.1 = true := by first | exact h.1.2 | exact h.1.1.2 | exact h.2.1 | grind
  have hkx : isKey x.1 = true := by first | exact h.1.1.1 | exact h.1.1 | grind
  refine ⟨List.pairwise_cons.2 ⟨i2 _ rfl, i1⟩, ?_, ?_⟩
  ·rintro q rfl y hy
   have hq : cmpK q x.1 < 0 := by simpa [relP] using hx
   rcases List.mem_cons.1 hy with rfl | hy
   ·exact hq
   ·exact cmp_trans hq (i2 _ rfl y hy)
  ·intro y hy
   rcases List.mem_cons.1 hy with rfl | hy
   ·exact hkx
   ·exact i3 y hy
theorem sto_srt {s : StoreT} (h : isSto s = true) : Srt s.2.1 ∧ (∀ y ∈ s.2.1, isKey y.1 = true) ∧ s.2.1.length ≤ 16 := by
 rw [isSto_eq] at h
 simp only [Bool.and_eq_true, decide_eq_true_eq] at h
 obtain ⟨h1, _, h3⟩ := okL_srt _ _ h.1
 exact ⟨h1, h3, by omega⟩
/-! ### walks of a cursor -/
theorem take_sn1 {α : Type} [Inhabited α] {l : List α} {k : Nat} (h : k < l.length) : l.take (k + 1) = l.take k ++ [l.getD k default] := by
 rw [List.take_add_one, List.getElem?_eq_getElem h]; simp [List.getD, h]
theorem cur_fwd {x : CursorT} {its : List ItemT} (hx : x.2.1 = false) : ∀ k, k ≤ its.length → (curAt x its k < 0 ∧ (its.take k).filter (fun y => curOk x y.1) = []) ∨ (0 ≤ curAt x its k ∧ ∃ t, (its.take k).filter (fun y => curOk x y.1) = its.getD (curAt x its k).toNat default :: t)
 | 0, _ => .inl ⟨by simp [curAt], rfl⟩
 | k + 1, hk => by
  have ih := cur_fwd (its := its) hx k (by omega)
  have hl : k < its.length := by omega
  rw [take_sn1 hl, List.filter_append, curAt, hx, Bool.or_false, Int.toNat_natCast]
  have e1 : ∀ y : ItemT, [y].filter (fun y => curOk x y.1) = if curOk x y.1 then [y] else [] := fun y => by cases hy : curOk x y.1 <;> simp [hy]
  rcases ih with ⟨h1, h2⟩ | ⟨h1, t, h2⟩
  ·rw [h2, decide_eq_true h1, Bool.and_true]
   rw [e1]
   cases hc : curOk x (its.getD k default).1 with
   | true => exact .inr ⟨by simp, [], by simp⟩
   | false => exact .inl ⟨by simpa using h1, by simp⟩
  ·rw [h2, decide_eq_false (by omega), Bool.and_false]
   exact .inr ⟨by simpa using h1, t ++ [its.getD k default].filter (fun y => curOk x y.1), by simp⟩
theorem cur_bwd {x : CursorT} {its : List ItemT} (hx : x.2.1 = true) : ∀ k, k ≤ its.length → (curAt x its k < 0 ∧ (its.take k).filter (fun y => curOk x y.1) = []) ∨ (0 ≤ curAt x its k ∧ ∃ t, (its.take k).filter (fun y => curOk x y.1) = t ++ [its.getD (curAt x its k).toNat default])
 | 0, _ => .inl ⟨by simp [curAt], rfl⟩
 | k + 1, hk => by
  have ih := cur_bwd (its := its) hx k (by omega)
  have hl : k < its.length := by omega
  rw [take_sn1 hl, List.filter_append, curAt, hx, Bool.or_true, Bool.and_true, Int.toNat_natCast]
  have e1 : ∀ y : ItemT, [y].filter (fun y => curOk x y.1) = if curOk x y.1 then [y] else [] := fun y => by cases hy : curOk x y.1 <;> simp [hy]
  rw [e1]
  cases hc : curOk x (its.getD k default).1 with
  | true => exact .inr ⟨by simp, (its.take k).filter (fun y => curOk x y.1), by simp⟩
  | false =>
   rcases ih with ⟨h1, h2⟩ | ⟨h1, t, h2⟩
   ·exact .inl ⟨by simpa using h1, by rw [h2]; simp⟩
   ·exact .inr ⟨by simpa using h1, t, by rw [h2]; simp⟩
theorem filt_filt {α : Type} {p q : α → Bool} {l : List α} (h : ∀ x ∈ l, q x = true → p x = true) : l.filter q = (l.filter p).filter q := by
 rw [List.filter_filter]
 refine List.filter_congr fun x hx => ?_
 cases hq : q x with
 | true => rw [h x hx hq]; rfl
 | false => simp
theorem after_cons {y : ItemT} {t : List ItemT} (h : Srt (y :: t)) : (y :: t).filter (fun z => decide (0 < cmpK z.1 y.1)) = t := by
 obtain ⟨h1, _⟩ := List.pairwise_cons.1 h
 rw [List.filter_cons_of_neg (by simp [cmp_self]), List.filter_eq_self]
 intro z hz
 have := h1 z hz
 have := cmpK_swap z.1 y.1
 exact decide_eq_true (by omega)
theorem before_snoc {y : ItemT} {t : List ItemT} (h : Srt (t ++ [y])) : (t ++ [y]).filter (fun z => decide (cmpK z.1 y.1 < 0)) = t := by
 obtain ⟨_, _, h1⟩ := List.pairwise_append.1 h
 rw [List.filter_append, List.filter_cons_of_neg (by simp [cmp_self]), List.filter_nil, List.append_nil, List.filter_eq_self]
 intro z hz
 exact decide_eq_true (h1 z hz y (by simp))
theorem walk_fwd {s : StoreT} (hs : Srt s.2.1) : ∀ (n : Nat) (x : CursorT), x.2.1 = false → walkN s n x = (s.2.1.filter (fun y => curOk x y.1)).take n
 | 0, _, _ => by simp [walkN]
 | n + 1, x, hx => by
  have hc := cur_fwd (its := s.2.1) hx s.2.1.length (Nat.le_refl _)
  rw [List.take_length] at hc
  rw [walkN]
  rcases hc with ⟨h1, h2⟩ | ⟨h1, t, h2⟩
  ·rw [curNext_no h1, h2]; simp
  ·rw [curNext_yes (by omega), h2]
   simp only [if_true]
   rw [walk_fwd hs n _ (by exact hx), List.take_succ_cons]
   congr 2
   generalize hy : s.2.1.getD (curAt x s.2.1 s.2.1.length).toNat default = y at h2 ⊢
   have hS : Srt (y :: t) := by rw [← h2]; exact hs.filter _
   have hmem : y ∈ s.2.1.filter (fun y => curOk x y.1) := by rw [h2]; simp
   have hyo : curOk x y.1 = true := (List.mem_filter.1 hmem).2
   refine (filt_filt (p := fun z : ItemT => curOk x z.1) (q := fun z : ItemT => curOk (x.1, x.2.1, true, y.1) z.1) ?_).trans ?_
   rotate_left 1
   ·rw [h2]
    refine Eq.trans (List.filter_congr fun z hz => ?_) (after_cons hS)
    have hzo : curOk x z.1 = true := by rw [← h2] at hz; exact (List.mem_filter.1 hz).2
    simp only [curOk, hx, Bool.and_eq_true] at hzo ⊢
    simp [hzo.1]
   ·intro z hz hq
    simp only [curOk, hx, Bool.and_eq_true] at hq hyo ⊢
    refine ⟨hq.1, ?_⟩
    have h5 : 0 < cmpK z.1 y.1 := by simpa using hq.2
    cases hst : x.2.2.1 with
    | false => simp
    | true =>
     have h6 : 0 < cmpK y.1 x.2.2.2 := by simpa [hst] using hyo.2
     have k1 := cmpK_swap z.1 y.1; have k2 := cmpK_swap y.1 x.2.2.2; have k3 := cmpK_swap z.1 x.2.2.2
     have k4 := cmp_trans (a := x.2.2.2) (b := y.1) (c := z.1) (by omega) (by omega)
     have : 0 < cmpK z.1 x.2.2.2 := by omega
     simpa using this
theorem walk_bwd {s : StoreT} (hs : Srt s.2.1) : ∀ (n : Nat) (x : CursorT), x.2.1 = true → walkN s n x = (s.2.1.filter (fun y => curOk x y.1)).reverse.take n
 | 0, _, _ => by simp [walkN]
 | n + 1, x, hx => by
  have hc := cur_bwd (its := s.2.1) hx s.2.1.length (Nat.le_refl _)
  rw [List.take_length] at hc
  rw [walkN]
  rcases hc with ⟨h1, h2⟩ | ⟨h1, t, h2⟩
  ·rw [curNext_no h1, h2]; simp
  ·rw [curNext_yes (by omega), h2]
   simp only [if_true]
   rw [walk_bwd hs n _ (by exact hx), List.reverse_append, List.reverse_singleton, List.singleton_append, List.take_succ_cons]
   congr 3
   generalize hy : s.2.1.getD (curAt x s.2.1 s.2.1.length).toNat default = y at h2 ⊢
   have hS : Srt (t ++ [y]) := by rw [← h2]; exact hs.filter _
   have hmem : y ∈ s.2.1.filter (fun y => curOk x y.1) := by rw [h2]; simp
   have hyo : curOk x y.1 = true := (List.mem_filter.1 hmem).2
   refine (filt_filt (p := fun z : ItemT => curOk x z.1) (q := fun z : ItemT => curOk (x.1, x.2.1, true, y.1) z.1) ?_).trans ?_
   rotate_left 1
   ·rw [h2]
    refine Eq.trans (List.filter_congr fun z hz => ?_) (before_snoc hS)
    have hzo : curOk x z.1 = true := by rw [← h2] at hz; exact (List.mem_filter.1 hz).2
    simp only [curOk, hx, Bool.and_eq_true] at hzo ⊢
    simp [hzo.1]
   ·intro z hz hq
    simp only [curOk, hx, Bool.and_eq_true] at hq hyo ⊢
    refine ⟨hq.1, ?_⟩
    have h5 : cmpK z.1 y.1 < 0 := by simpa using hq.2
    cases hst : x.2.2.1 with
    | false => simp
    | true =>
     have h6 : cmpK y.1 x.2.2.2 < 0 := by simpa [hst] using hyo.2
     have := cmp_trans h5 h6
     simpa using this
def cur0 (r : RangeT) (b : Bool) : CursorT := (r, b, false, (0, 0, ByteArray.empty))
theorem wkRng {s : StoreT} (h : isSto s = true) (r : RangeT) : walkN s 16 (cur0 r false) = s.2.1.filter (inIt r) ∧ walkN s 16 (cur0 r true) = (s.2.1.filter (inIt r)).reverse := by
 obtain ⟨h1, _, h3⟩ := sto_srt h
 have e : ∀ b, (fun y : ItemT => curOk (cur0 r b) y.1) = inIt r := fun b => by funext y; simp [curOk, cur0, inIt]
 have hl : (s.2.1.filter (inIt r)).length ≤ 16 := Nat.le_trans (List.length_filter_le _ _) h3
 rw [walk_fwd h1 16 _ rfl, walk_bwd h1 16 _ rfl, e, e]
 exact ⟨List.take_of_length_le hl, List.take_of_length_le (by rw [List.length_reverse]; exact hl)⟩
/-! ### indexes -/
def adj {α : Type} (R : α → α → Prop) : List α → Prop
 | [] => True
 | [_] => True
 | a :: b :: l => R a b ∧ adj R (b :: l)
theorem adj_at {α : Type} {R : α → α → Prop} {d : α} : ∀ {l : List α}, adj R l → ∀ i, i + 1 < l.length → R (l.getD i d) (l.getD (i + 1) d)
 | [], _, i, hi => by simp at hi
 | [_], _, i, hi => by simp at hi
 | a :: b :: l, h, 0, _ => h.1
 | a :: b :: l, h, i + 1, hi => by simpa using adj_at h.2 i (by simpa using hi)
theorem adj_app {α : Type} {R : α → α → Prop} : ∀ {a : List α} {y : α} {b : List α}, adj R a → adj R b → (∀ z, a.getLast? = some z → R z y) → (∀ z, b.head? = some z → R y z) → adj R (a ++ y :: b)
 | [], y, [], _, _, _, _ => trivial
 | [], y, z :: b, _, h2, _, h4 => ⟨h4 z rfl, h2⟩
 | [x], y, b, _, h2, h3, h4 => ⟨h3 x rfl, adj_app (a := []) trivial h2 (by simp) h4⟩
 | x :: x' :: a, y, b, h1, h2, h3, h4 => ⟨h1.1, adj_app (a := x' :: a) h1.2 h2 (fun z hz => h3 z (by simpa using hz)) h4⟩
theorem adj_take {α : Type} {R : α → α → Prop} : ∀ {l : List α} (n : Nat), adj R l → adj R (l.take n)
 | _, 0, _ => by simp [adj]
 | [], _ + 1, _ => by simp [adj]
 | [x], n + 1, _ => by simp [adj]
 | x :: y :: l, 1, _ => by simp [adj]
 | x :: y :: l, n + 2, h => by simpa [adj] using ⟨h.1, by simpa using adj_take (n + 1) h.2⟩
theorem adj_drop {α : Type} {R : α → α → Prop} : ∀ {l : List α} (n : Nat), adj R l → adj R (l.drop n)
 | _, 0, h => by simpa using h
 | [], _ + 1, _ => by simp [adj]
 | [x], n + 1, _ => by simp [adj]
 | x :: y :: l, n + 1, h => by simpa using adj_drop n h.2
theorem posD_facts {f : Str} {x : ItemT} {o : List ItemT} : ∀ k, (0 < posD f x o k → bef f x (o.getD (posD f x o k - 1) default) = false) ∧ (∀ i, posD f x o k ≤ i → i < k → bef f x (o.getD i default) = true)
 | 0 => by simp [posD]
 | k + 1 => by
  obtain ⟨h1, h2⟩ := posD_facts (f := f) (x := x) (o := o) k
  rw [posD]
  split
  ·rename_i h
   refine ⟨h1, fun i hi hk => ?_⟩
   by_cases e : i = k
   ·rw [e]; exact h
   ·exact h2 i hi (by omega)
  ·rename_i h
   exact ⟨fun _ => by simpa using h, fun i hi hk => by omega⟩
def idxR (S : Bool) (f : Str) (a b : ItemT) : Prop := (getF a.2 f).1 < (getF b.2 f).1 ∨ ((getF a.2 f).1 = (getF b.2 f).1 ∧ (S = true → cmpK a.1 b.1 < 0))
theorem idx_mem {f : Str} {its : List ItemT} : ∀ k, k ≤ its.length → ∀ y ∈ idxN f its k, (∃ i, i < k ∧ y = its.getD i default) ∧ (getF y.2 f).2 = true
 | 0, _, y, hy => by simp [idxN] at hy
 | k + 1, hk, y, hy => by
  have ih := idx_mem (f := f) (its := its) k (by omega)
  have key : y ∈ idxN f its k → (∃ i, i < k + 1 ∧ y = its.getD i default) ∧ (getF y.2 f).2 = true := fun h => by
   obtain ⟨⟨i, h1, h2⟩, h3⟩ := ih y h
   exact ⟨⟨i, by omega, h2⟩, h3⟩
  rw [idxN] at hy
  split at hy
  ·rename_i h
   unfold insI at hy
   simp only [List.mem_append, List.mem_singleton] at hy
   rw [Int.toNat_natCast] at *
   rcases hy with (hy | rfl) | hy
   ·exact key (List.mem_of_mem_take hy)
   ·exact ⟨⟨k, by omega, rfl⟩, h⟩
   ·exact key (List.mem_of_mem_drop hy)
  ·exact key hy
theorem srt_getD {l : List ItemT} (h : Srt l) {i j : Nat} (hi : i < j) (hj : j < l.length) : cmpK (l.getD i default).1 (l.getD j default).1 < 0 := by
 have := List.pairwise_iff_getElem.1 h i j (by omega) hj hi
 rw [List.getD_eq_getElem?_getD, List.getD_eq_getElem?_getD, List.getElem?_eq_getElem (by omega), List.getElem?_eq_getElem hj]
 exact this
theorem idx_adj {f : Str} {its : List ItemT} {S : Bool} (hS : S = true → Srt its) : ∀ k, k ≤ its.length → adj (idxR S f) (idxN f its k)
 | 0, _ => by simp [idxN, adj]
 | k + 1, hk => by
  have ih := idx_adj (f := f) hS k (by omega)
  have hm := idx_mem (f := f) (its := its) k (by omega)
  rw [idxN]
  split
  ·rename_i hf
   generalize hy : its.getD (k : Int).toNat default = y at hf ⊢
   rw [Int.toNat_natCast] at hy
   generalize ho : idxN f its k = o at ih hm ⊢
   obtain ⟨p1, p2⟩ := posD_facts (f := f) (x := y) (o := o) o.length
   have p3 := posD_le f y o o.length
   generalize hj : posD f y o o.length = j at p1 p2 p3 ⊢
   unfold insI
   rw [List.append_assoc, List.singleton_append]
   refine adj_app (adj_take _ ih) (adj_drop _ ih) (fun z hz => ?_) (fun z hz => ?_)
   ·rw [List.getLast?_eq_getElem?, List.length_take, Nat.min_eq_left p3, List.getElem?_take] at hz
    have hj0 : 0 < j := by
     rcases Nat.eq_zero_or_pos j with h0 | h0
     ·subst h0; simp at hz
     ·exact h0
    rw [if_pos (by omega)] at hz
    have hz2 : o.getD (j - 1) default = z := by rw [List.getD_eq_getElem?_getD, hz]; rfl
    have hb := p1 hj0
    rw [hz2] at hb
    simp only [bef, Bool.or_eq_false_iff, Bool.and_eq_false_iff, decide_eq_false_iff_not] at hb
    have hzm : z ∈ o := List.mem_of_getElem? hz
    obtain ⟨⟨i, hi, hzi⟩, _⟩ := hm z hzm
    unfold idxR
    rcases Int.lt_or_eq_of_le (show (getF z.2 f).1 ≤ (getF y.2 f).1 by omega) with h | h
    ·exact .inl h
    ·refine .inr ⟨h, fun hs => ?_⟩
     rw [hzi, ← hy]
     exact srt_getD (hS hs) hi (by omega)
   ·rw [List.head?_drop] at hz
    have hjl : j < o.length := by
     rcases Nat.lt_or_ge j o.length with h0 | h0
     ·exact h0
     ·rw [List.getElem?_eq_none h0] at hz; cases hz
    have hb := p2 j (Nat.le_refl _) hjl
    rw [show o.getD j default = z by rw [List.getD_eq_getElem?_getD, hz]; rfl] at hb
    simp only [bef, Bool.or_eq_true, Bool.and_eq_true, decide_eq_true_eq] at hb
    unfold idxR
    rcases hb with h | ⟨h1, h2⟩
    ·exact .inl h
    ·exact .inr ⟨h1, fun _ => h2⟩
  ·exact ih
theorem idx_hit {f : Str} {s : StoreT} {y : ItemT} (hy : y ∈ idxN f s.2.1 s.2.1.length) : 1 ≤ (s.2.1.filter (hasF f (getF y.2 f).1)).length := by
 obtain ⟨⟨i, hi, rfl⟩, h2⟩ := idx_mem s.2.1.length (Nat.le_refl _) y hy
 have : s.2.1.getD i default ∈ s.2.1.filter (hasF f (getF (s.2.1.getD i default).2 f).1) := by
  rw [List.mem_filter]
  refine ⟨?_, ?_⟩
  ·rw [List.getD_eq_getElem?_getD, List.getElem?_eq_getElem hi]; exact List.getElem_mem hi
  ·unfold hasF; rw [h2]; simp
 exact List.length_pos_of_mem this

end Go.Proofs.Ytmnimdnmedldgaa

namespace Go.Proofs.Ytmnimdnmedldgaa
open Go.RowKit
open Go.Proofs
set_option linter.unusedVariables false
set_option linter.unusedSimpArgs false

theorem rem_rng {a n : Int} (ha : 0 ≤ a) (hn : 0 < n) : 0 ≤ a % n ∧ a % n < n := ⟨Int.emod_nonneg a (by omega), Int.emod_lt_of_pos a hn⟩
theorem getD_memI {l : List Int} {x : Int} (h0 : 0 ≤ x) (h1 : x < (l.length : Int)) : l.getD x.toNat default ∈ l := by
 rw [List.getD_eq_getElem?_getD, List.getElem?_eq_getElem (by omega)]; exact List.getElem_mem _
theorem getD_memS {l : List Str} {x : Int} (h0 : 0 ≤ x) (h1 : x < (l.length : Int)) : l.getD x.toNat default ∈ l := by
 rw [List.getD_eq_getElem?_getD, List.getElem?_eq_getElem (by omega)]; exact List.getElem_mem _

theorem ok_spec_l1New {code : List UInt8} (hc : code.length ≤ 1048576) : NFn Try.prog 45 102 (bytesD (code)) (fun zz : Int × Int => 0 ≤ zz.1) (fun zz : Int × Int => [.dv [] (.int .i64 (zz.1)), .dv [] (.int .i64 (zz.2))]) := by
 refine ⟨fn_intro Try.func45 rfl Try.ntmps45 Try.results45 rfl (fun C => ?_)⟩
 refine z ?_
 refine yO rfl rfl (pu_move (.inr rfl) ev_any) rfl ?_
 iterate 3 refine z ?_
 refine yO rfl rfl (pu_lenV hT rfl rfl (ev_argv (ev_tmp rfl))) rfl ?_
 iterate 8 refine z ?_
 refine ok_loop (ι := Int × Int) (fun zz => ⟨[(0, .one (.arg 0 (bytesD (code)))), (2, .one .any), (3, .one (.dv [] (.int .i64 (zz.1)))), (4, .one (.dv [] (.int .i64 (zz.2))))], [], []⟩) (fun zz => 0 ≤ zz.2) (fun zz => (code.length - zz.2).toNat) ((193017 + (code.length : Int), 0)) ?_ (weak_sub ⟨rfl, rfl, rfl, rfl, trivial⟩ trivial trivial rfl) (fun zz hx => ?_)
 ·exact Int.le_refl _
 obtain ⟨h, i⟩ := zz
 replace hx : 0 ≤ i := hx
 show Ok _ _ _ _ _ (⟨[(0, .one (.arg 0 (bytesD (code)))), (2, .one .any), (3, .one (.dv [] (.int .i64 (h)))), (4, .one (.dv [] (.int .i64 (i))))], [], []⟩ : St)
 iterate 4 refine z ?_
 refine yO rfl rfl (pu_lenV hT rfl rfl (ev_argv (ev_tmp rfl))) rfl ?_
 iterate 6 refine z ?_
 refine yQ rfl (fun c1 => ?_) fun c1 => ?_
 ·skip
  simp only [Bool.and_eq_true, decide_eq_true_eq] at c1
  iterate 4 refine z ?_
  refine ok_region ?_
  refine z ?_
  refine yO rfl rfl (pu_mul rfl (ev_tmp rfl) (ev_int (inR_lit rfl))) rfl ?_
  iterate 2 refine z ?_
  refine yO rfl rfl (pu_indexD hT rfl rfl rfl (ev_argv (ev_tmp rfl)) (ev_tmp rfl) (fun _ => rfl) (by omega) (by omega)) rfl ?_
  refine z ?_
  refine yO rfl rfl (pu_convI hT rfl rfl rfl (ev_tmp rfl)) rfl ?_
  refine yO rfl rfl (pu_add rfl (ev_tmp rfl) (ev_tmp rfl)) rfl ?_
  refine yO rfl rfl (pu_add rfl (ev_tmp rfl) (ev_int (inR_lit rfl))) rfl ?_
  refine yO rfl rfl (pu_andZ rfl (ev_tmp rfl) (ev_int (inR_lit rfl))) rfl ?_
  refine z ?_
  refine ops_nil ?_
  generalize bits .and .i64 (IntKind.i64.wrap ((IntKind.i64.wrap ((IntKind.i64.wrap ((h) * (137))) + (IntKind.i64.wrap ((((((code)).getD (i).toNat default)).toNat : Int))))) + (11))) (1073741823) = z27
  iterate 2 refine z ?_
  refine ok_region ?_
  iterate 4 refine z ?_
  refine ⟨(z27, i + 1), ?_, ?_, weak_sub ⟨rfl, rfl, rfl, rfl, trivial⟩ trivial trivial rfl⟩
  ·show 0 ≤ i + 1; omega
  ·dsimp only; omega
 ·skip
  iterate 8 refine z ?_
  refine yO rfl rfl (pu_build hT hB rfl rfl rfl (bp_cons (ev_tmp rfl) rfl rfl rfl rfl rfl (bp_cons (ev_tmp rfl) rfl rfl rfl rfl rfl bp_nil))) rfl ?_
  iterate 4 refine z ?_
  refine fin1 (res_tmp rfl) ⟨(0, h), 31, ?_, rfl, rfl⟩
  exact Int.le_refl _
theorem ok_spec_l1Byte {code : List UInt8} {i h : Int} (hc : code.length ≤ 1048576) (hi : 0 ≤ i) : BFn Try.prog 102 [] 102 (bytesD (code)) [.dv [] (.int .i64 (i)), .dv [] (.int .i64 (h))] (fun zz : Int × Int × Int => 0 ≤ zz.1 ∧ zz.1 ≤ 255 ∧ 0 ≤ zz.2.1) (fun zz : Int × Int × Int => .one (.dv [] (.int .i64 (zz.1)))) (fun zz : Int × Int × Int => []) (fun zz : Int × Int × Int => [.dv [] (.int .i64 (zz.2.1)), .dv [] (.int .i64 (zz.2.2))]) := by
 refine ⟨fn_introS Try.func102 rfl Try.ntmps102 Try.results102 rfl (fun C => ?_)⟩
 iterate 4 refine z ?_
 refine yO rfl rfl (pu_move (.inl rfl) (ev_abox (ev_tmp rfl))) rfl ?_
 refine yO rfl rfl (pu_move (.inl rfl) (ev_abox (ev_tmp rfl))) rfl ?_
 refine yO rfl rfl (pu_nilB rfl (ev_tmp rfl)) rfl ?_
 iterate 2 refine z ?_
 refine yO rfl rfl (pu_mul rfl (ev_tmp rfl) (ev_int (inR_lit rfl))) rfl ?_
 refine yO rfl rfl (pu_add rfl (ev_tmp rfl) (ev_int (inR_lit rfl))) rfl ?_
 refine yO rfl rfl (pu_nilB rfl (ev_tmp rfl)) rfl ?_
 iterate 2 refine z ?_
 refine ops_nil ?_
 generalize IntKind.i64.wrap ((IntKind.i64.wrap ((h) * (6364136223846793005))) + (1442695040888963407)) = z10
 refine z ?_
 refine ok_seq ?_
 refine ok_regionD (oB := [0]) (oK := []) (by kernel_rfl) rfl rfl ?_
 refine d_take 0 rfl (by kernel_rfl) rfl rfl (pu_move (.inl rfl) (ev_abox (ev_tmp rfl))) rfl rfl rfl rfl ?_
 refine d_take 1 rfl (by kernel_rfl) rfl rfl (pu_nilB rfl (ev_tmp rfl)) rfl rfl rfl rfl ?_
 refine zD 2 ?_
 refine zD 3 ?_
 refine d_take 4 rfl (by kernel_rfl) rfl rfl (pu_shrZ rfl (ev_tmp rfl) (ev_int (inR_lit rfl)) (by omega) (by decide)) rfl rfl rfl rfl ?_
 refine d_take 5 rfl (by kernel_rfl) rfl rfl (pu_move (.inl rfl) (ev_abox (ev_tmp rfl))) rfl rfl rfl rfl ?_
 refine d_take 6 rfl (by kernel_rfl) rfl rfl (pu_nilB rfl (ev_tmp rfl)) rfl rfl rfl rfl ?_
 refine zD 7 ?_
 refine zD 8 ?_
 refine d_take 9 rfl (by kernel_rfl) rfl rfl (pu_shrZ rfl (ev_tmp rfl) (ev_int (inR_lit rfl)) (by omega) (by decide)) rfl rfl rfl rfl ?_
 refine d_take 10 rfl (by kernel_rfl) rfl rfl (pu_xorZ rfl (ev_tmp rfl) (ev_tmp rfl)) rfl rfl rfl rfl ?_
 refine d_take 11 rfl (by kernel_rfl) rfl rfl (pu_andZ rfl (ev_tmp rfl) (ev_int (inR_lit rfl))) rfl rfl rfl rfl ?_
 refine zD 12 ?_
 refine d_done (by kernel_rfl) ?_
 have q24 := and255_rng (bits .xor .i64 ((z10) / (2 ^ (33 : Int).toNat : Nat)) ((z10) / (2 ^ (47 : Int).toNat : Nat)))
 generalize bits .and .i64 (bits .xor .i64 ((z10) / (2 ^ (33 : Int).toNat : Nat)) ((z10) / (2 ^ (47 : Int).toNat : Nat))) (255) = z24 at *
 refine z ?_
 refine ok_seq ?_
 refine ok_seq ?_
 refine ok_regionD (oB := [0]) (oK := []) (by kernel_rfl) rfl rfl ?_
 refine d_take 0 rfl (by kernel_rfl) rfl rfl (pu_move (.inl rfl) (ev_abox (ev_tmp rfl))) rfl rfl rfl rfl ?_
 refine d_take 1 rfl (by kernel_rfl) rfl rfl (pu_nilB rfl (ev_tmp rfl)) rfl rfl rfl rfl ?_
 refine zD 2 ?_
 refine zD 3 ?_
 refine d_take 4 rfl (by kernel_rfl) rfl rfl (pu_move (.inl rfl) (ev_abox (ev_tmp rfl))) rfl rfl rfl rfl ?_
 refine d_take 5 rfl (by kernel_rfl) rfl rfl (pu_nilB rfl (ev_tmp rfl)) rfl rfl rfl rfl ?_
 refine zD 6 ?_
 refine zD 7 ?_
 refine d_take 8 rfl (by kernel_rfl) rfl rfl (pu_lenV hT rfl rfl (ev_argv (ev_tmp rfl))) rfl rfl rfl rfl ?_
 refine zD 9 ?_
 refine d_done (by kernel_rfl) ?_
 refine z ?_
 refine yQ rfl (fun c1 => ?_) fun c1 => ?_
 ·skip
  have d1 := of_decide_eq_true c1
  refine ok_seq ?_
  refine ok_regionD (oB := [0]) (oK := []) (by kernel_rfl) rfl rfl ?_
  refine zD 0 ?_
  refine d_take 1 rfl (by kernel_rfl) rfl rfl (pu_move (.inl rfl) (ev_abox (ev_tmp rfl))) rfl rfl rfl rfl ?_
  refine d_take 2 rfl (by kernel_rfl) rfl rfl (pu_nilB rfl (ev_tmp rfl)) rfl rfl rfl rfl ?_
  refine zD 3 ?_
  refine zD 4 ?_
  refine d_take 5 rfl (by kernel_rfl) rfl rfl (pu_move (.inl rfl) (ev_abox (ev_tmp rfl))) rfl rfl rfl rfl ?_
  refine d_take 6 rfl (by kernel_rfl) rfl rfl (pu_nilB rfl (ev_tmp rfl)) rfl rfl rfl rfl ?_
  refine zD 7 ?_
  refine zD 8 ?_
  refine d_take 9 rfl (by kernel_rfl) rfl rfl (pu_indexD hT rfl rfl rfl (ev_argv (ev_tmp rfl)) (ev_tmp rfl) (fun _ => rfl) (by omega) (by omega)) rfl rfl rfl rfl ?_
  refine zD 10 ?_
  refine d_take 11 rfl (by kernel_rfl) rfl rfl (pu_convI hT rfl rfl rfl (ev_tmp rfl)) rfl rfl rfl rfl ?_
  refine d_take 12 rfl (by kernel_rfl) rfl rfl (pu_add rfl (ev_tmp rfl) (ev_tmp rfl)) rfl rfl rfl rfl ?_
  refine d_take 13 rfl (by kernel_rfl) rfl rfl (pu_andZ rfl (ev_tmp rfl) (ev_int (inR_lit rfl))) rfl rfl rfl rfl ?_
  refine zD 14 ?_
  refine d_done (by kernel_rfl) ?_
  have q48 : 0 ≤ bits .and .i64 (IntKind.i64.wrap ((z24) + (IntKind.i64.wrap ((((((code)).getD (i).toNat default)).toNat : Int))))) (255) ∧ _ := and255_rng _
  generalize bits .and .i64 (IntKind.i64.wrap ((z24) + (IntKind.i64.wrap ((((((code)).getD (i).toNat default)).toNat : Int))))) (255) = z48 at *
  refine z ?_
  refine ok_region ?_
  refine yO rfl rfl (pu_move (.inl rfl) (ev_abox (ev_tmp rfl))) rfl ?_
  refine yO rfl rfl (pu_move (.inl rfl) (ev_abox (ev_tmp rfl))) rfl ?_
  refine yO rfl rfl (pu_nilB rfl (ev_tmp rfl)) rfl ?_
  iterate 3 refine z ?_
  refine yO rfl rfl (pu_nilB rfl (ev_tmp rfl)) rfl ?_
  iterate 7 refine z ?_
  refine ok_weak (σ' := ⟨[(2, .one (.dv [] (.int .i64 (z48)))), (0, .abox 0)], [(0, 102, [(.arg 900001 (bytesD (code))), (.dv [] (.int .i64 ((i) + (1)))), (.dv [] (.int .i64 (z10)))])], []⟩) (weak_sub ⟨rfl, rfl, trivial⟩ ⟨rfl, trivial⟩ trivial rfl) ?_
  refine z ?_
  refine fin1 (res_tmp rfl) ⟨((z48), (i) + (1), z10), ?_, rfl, rfl, rfl, rfl⟩
  try dsimp only
  omega
 ·skip
  have d1 := of_decide_eq_false c1
  iterate 6 refine z ?_
  refine ok_weak (σ' := ⟨[(2, .one (.dv [] (.int .i64 (z24)))), (0, .abox 0)], [(0, 102, [(.arg 900001 (bytesD (code))), (.dv [] (.int .i64 (i))), (.dv [] (.int .i64 (z10)))])], []⟩) (weak_sub ⟨rfl, rfl, trivial⟩ ⟨rfl, trivial⟩ trivial rfl) ?_
  refine z ?_
  refine fin1 (res_tmp rfl) ⟨((z24), i, z10), ?_, rfl, rfl, rfl, rfl⟩
  try dsimp only
  omega
theorem ok_spec_l1Below {code : List UInt8} {i h : Int} {n : Int} (hc : code.length ≤ 1048576) (hi : 0 ≤ i)  : BFn Try.prog 83 [.one (.dv [] (.int .i64 (n)))] 102 (bytesD (code)) [.dv [] (.int .i64 (i)), .dv [] (.int .i64 (h))] (fun zz : Int × Int × Int => 0 ≤ zz.1 ∧ (0 < n → zz.1 < n) ∧ 0 ≤ zz.2.1) (fun zz : Int × Int × Int => .one (.dv [] (.int .i64 (zz.1)))) (fun zz : Int × Int × Int => []) (fun zz : Int × Int × Int => [.dv [] (.int .i64 (zz.2.1)), .dv [] (.int .i64 (zz.2.2))]) := by
 refine ⟨fn_introS Try.func83 rfl Try.ntmps83 Try.results83 rfl (fun C => ?_)⟩
 refine ok_fact (x := .tmp 1) (ev_tmp rfl) fun f1 => ?_
 iterate 8 refine z ?_
 refine yQ rfl (fun c1 => ?_) fun c1 => ?_
 ·skip
  have d1 := of_decide_eq_true c1
  iterate 3 refine z ?_
  refine ok_weak (σ' := ⟨[(4, .one (.dv [] (.int .i64 (0)))), (0, .abox 0)], [(0, 102, [(.arg 900001 (bytesD (code))), (.dv [] (.int .i64 (i))), (.dv [] (.int .i64 (h)))])], []⟩) (weak_sub ⟨rfl, rfl, trivial⟩ ⟨rfl, trivial⟩ trivial rfl) ?_
  iterate 2 refine z ?_
  refine fin1 (res_tmp rfl) ⟨((0), i, h), ?_, rfl, rfl, rfl, rfl⟩
  try dsimp only
  exact ⟨by omega, by omega, hi⟩
 ·skip
  have d1 := of_decide_eq_false c1
  iterate 7 refine z ?_
  refine yQ rfl (fun c2 => ?_) fun c2 => ?_
  ·skip
   have d2 := of_decide_eq_true c2
   refine z ?_
   refine yO rfl rfl (pu_move (.inl rfl) (ev_abox (ev_tmp rfl))) rfl ?_
   refine o_callB 13000 rfl rfl rfl Try.call102 (ok_spec_l1Byte (code := code) (i := i) (h := h) (by omega) (by omega)) (ev_tmp rfl) rfl ac_arg rfl (fun _ => rfl) ad_nil rfl (fun _ => rfl) (fun _ => rfl) (fun zz hz13 => ?_)
   obtain ⟨e13, i13, h13⟩ := zz
   replace hz13 : 0 ≤ e13 ∧ e13 ≤ 255 ∧ 0 ≤ i13 := hz13
   refine z ?_
   refine yO rfl rfl (pu_remN rfl (ev_tmp rfl) (ev_tmp rfl) (by omega) (by omega)) rfl ?_
   iterate 2 refine z ?_
   refine ok_weak (σ' := ⟨[(4, .one (.dv [] (.int .i64 ((e13) % (n))))), (0, .abox 0)], [(0, 102, [(.arg 900001 (bytesD (code))), (.dv [] (.int .i64 (i13))), (.dv [] (.int .i64 (h13)))])], []⟩) (weak_sub ⟨rfl, rfl, trivial⟩ ⟨rfl, trivial⟩ trivial rfl) ?_
   iterate 2 refine z ?_
   refine fin1 (res_tmp rfl) ⟨(((e13) % (n)), i13, h13), ?_, rfl, rfl, rfl, rfl⟩
   try dsimp only
   have := rem_rng (a := e13) (n := n) (by omega) (by omega)
   exact ⟨this.1, fun _ => this.2, by omega⟩
  ·skip
   have d2 := of_decide_eq_false c2
   iterate 3 refine z ?_
   refine yO rfl rfl (pu_move (.inl rfl) (ev_abox (ev_tmp rfl))) rfl ?_
   refine o_callB 17000 rfl rfl rfl Try.call102 (ok_spec_l1Byte (code := code) (i := i) (h := h) (by omega) (by omega)) (ev_tmp rfl) rfl ac_arg rfl (fun _ => rfl) ad_nil rfl (fun _ => rfl) (fun _ => rfl) (fun zz hz17 => ?_)
   obtain ⟨e17, i17, h17⟩ := zz
   replace hz17 : 0 ≤ e17 ∧ e17 ≤ 255 ∧ 0 ≤ i17 := hz17
   iterate 3 refine z ?_
   refine yO rfl rfl (pu_move (.inl rfl) (ev_abox (ev_tmp rfl))) rfl ?_
   refine o_callB 19000 rfl rfl rfl Try.call102 (ok_spec_l1Byte (code := code) (i := i17) (h := h17) (by omega) (by omega)) (ev_tmp rfl) rfl ac_arg rfl (fun _ => rfl) ad_nil rfl (fun _ => rfl) (fun _ => rfl) (fun zz hz19 => ?_)
   obtain ⟨e19, i19, h19⟩ := zz
   replace hz19 : 0 ≤ e19 ∧ e19 ≤ 255 ∧ 0 ≤ i19 := hz19
   iterate 3 refine z ?_
   refine yO rfl rfl (pu_move (.inl rfl) (ev_abox (ev_tmp rfl))) rfl ?_
   refine o_callB 21000 rfl rfl rfl Try.call102 (ok_spec_l1Byte (code := code) (i := i19) (h := h19) (by omega) (by omega)) (ev_tmp rfl) rfl ac_arg rfl (fun _ => rfl) ad_nil rfl (fun _ => rfl) (fun _ => rfl) (fun zz hz21 => ?_)
   obtain ⟨e21, i21, h21⟩ := zz
   replace hz21 : 0 ≤ e21 ∧ e21 ≤ 255 ∧ 0 ≤ i21 := hz21
   iterate 4 refine z ?_
   refine yO rfl rfl (pu_mulR rfl (ev_tmp rfl) (ev_int (inR_lit rfl)) (inR64 (by omega) (by omega))) rfl ?_
   refine z ?_
   refine yO rfl rfl (pu_mulR rfl (ev_tmp rfl) (ev_int (inR_lit rfl)) (inR64 (by omega) (by omega))) rfl ?_
   iterate 4 refine z ?_
   refine yO rfl rfl (pu_remN rfl (ev_tmp rfl) (ev_tmp rfl) (by omega) (by omega)) rfl ?_
   iterate 2 refine z ?_
   refine ok_weak (σ' := ⟨[(4, .one (.dv [] (.int .i64 (((((e17) * (65536)) + ((e19) * (256))) + (e21)) % (n))))), (0, .abox 0)], [(0, 102, [(.arg 900001 (bytesD (code))), (.dv [] (.int .i64 (i21))), (.dv [] (.int .i64 (h21)))])], []⟩) (weak_sub ⟨rfl, rfl, trivial⟩ ⟨rfl, trivial⟩ trivial rfl) ?_
   refine z ?_
   refine fin1 (res_tmp rfl) ⟨((((((e17) * (65536)) + ((e19) * (256))) + (e21)) % (n)), i21, h21), ?_, rfl, rfl, rfl, rfl⟩
   try dsimp only
   have := rem_rng (a := e17 * 65536 + e19 * 256 + e21) (n := n) (by omega) (by omega)
   exact ⟨this.1, fun _ => this.2, by omega⟩
theorem ok_spec_l1Once {code : List UInt8} {i h : Int} {n : Int} (hc : code.length ≤ 1048576) (hi : 0 ≤ i)  : BFn Try.prog 87 [.one (.dv [] (.int .i64 (n)))] 102 (bytesD (code)) [.dv [] (.int .i64 (i)), .dv [] (.int .i64 (h))] (fun zz : Bool × Int × Int => 0 ≤ zz.2.1) (fun zz : Bool × Int × Int => .one (.dv [] (.bool (zz.1)))) (fun zz : Bool × Int × Int => []) (fun zz : Bool × Int × Int => [.dv [] (.int .i64 (zz.2.1)), .dv [] (.int .i64 (zz.2.2))]) := by
 refine ⟨fn_introS Try.func87 rfl Try.ntmps87 Try.results87 rfl (fun C => ?_)⟩
 refine ok_fact (x := .tmp 1) (ev_tmp rfl) fun f1 => ?_
 iterate 4 refine z ?_
 refine yO rfl rfl (pu_move (.inl rfl) (ev_abox (ev_tmp rfl))) rfl ?_
 refine z ?_
 refine o_callB 7000 rfl rfl rfl Try.call83 (ok_spec_l1Below (code := code) (i := i) (h := h) (n := n) (by omega) (by omega) ) (ev_tmp rfl) rfl ac_arg rfl (fun _ => rfl) (ad_cons (ev_tmp rfl) (ag_one ac_dv) rfl ad_nil) rfl (fun _ => rfl) (fun _ => rfl) (fun zz hz7 => ?_)
 obtain ⟨e7, i7, h7⟩ := zz
 replace hz7 : 0 ≤ e7 ∧ (0 < (n) → e7 < (n)) ∧ 0 ≤ i7 := hz7
 iterate 3 refine z ?_
 refine ok_weak (σ' := ⟨[(4, .one (.dv [] (.bool (decide ((e7) = (0)))))), (0, .abox 0)], [(0, 102, [(.arg 900001 (bytesD (code))), (.dv [] (.int .i64 (i7))), (.dv [] (.int .i64 (h7)))])], []⟩) (weak_sub ⟨rfl, rfl, trivial⟩ ⟨rfl, trivial⟩ trivial rfl) ?_
 refine z ?_
 refine fin1 (res_tmp rfl) ⟨((decide ((e7) = (0))), i7, h7), ?_, rfl, rfl, rfl, rfl⟩
 try dsimp only
 omega
theorem ok_spec_l1Int {code : List UInt8} {i h : Int} {l : List Int} (hc : code.length ≤ 1048576) (hi : 0 ≤ i) (hl : 0 < l.length) : BFn Try.prog 85 [.one (.dv [] (intsD (l)))] 102 (bytesD (code)) [.dv [] (.int .i64 (i)), .dv [] (.int .i64 (h))] (fun zz : Int × Int × Int => zz.1 ∈ l ∧ 0 ≤ zz.2.1) (fun zz : Int × Int × Int => .one (.dv [] (.int .i64 (zz.1)))) (fun zz : Int × Int × Int => []) (fun zz : Int × Int × Int => [.dv [] (.int .i64 (zz.2.1)), .dv [] (.int .i64 (zz.2.2))]) := by
 refine ⟨fn_introS Try.func85 rfl Try.ntmps85 Try.results85 rfl (fun C => ?_)⟩
 refine ok_fact (x := .tmp 1) (ev_tmp rfl) fun f1 => ?_
 iterate 5 refine z ?_
 refine yO rfl rfl (pu_move (.inl rfl) (ev_abox (ev_tmp rfl))) rfl ?_
 iterate 2 refine z ?_
 refine o_callB 9000 rfl rfl rfl Try.call83 (ok_spec_l1Below (code := code) (i := i) (h := h) (n := (((l)).length : Int)) (by omega) (by omega) ) (ev_tmp rfl) rfl ac_arg rfl (fun _ => rfl) (ad_cons (ev_tmp rfl) (ag_one ac_dv) rfl ad_nil) rfl (fun _ => rfl) (fun _ => rfl) (fun zz hz9 => ?_)
 obtain ⟨e9, i9, h9⟩ := zz
 replace hz9 : 0 ≤ e9 ∧ (0 < ((((l)).length : Int)) → e9 < ((((l)).length : Int))) ∧ 0 ≤ i9 := hz9
 have hl := hz9.2.1 (by omega)
 iterate 4 refine z ?_
 refine ok_weak (σ' := ⟨[(4, .one (.dv [] (.int .i64 ((((l)).getD (e9).toNat default))))), (0, .abox 0)], [(0, 102, [(.arg 900001 (bytesD (code))), (.dv [] (.int .i64 (i9))), (.dv [] (.int .i64 (h9)))])], []⟩) (weak_sub ⟨rfl, rfl, trivial⟩ ⟨rfl, trivial⟩ trivial rfl) ?_
 refine z ?_
 refine fin1 (res_tmp rfl) ⟨(((((l)).getD (e9).toNat default)), i9, h9), ?_, rfl, rfl, rfl, rfl⟩
 try dsimp only
 exact ⟨getD_memI (by omega) (by omega), by omega⟩
theorem ok_spec_l1Str {code : List UInt8} {i h : Int} {l : List Str} (hc : code.length ≤ 1048576) (hi : 0 ≤ i) (hl : 0 < l.length) : BFn Try.prog 84 [.one (.dv [] (strsD (l)))] 102 (bytesD (code)) [.dv [] (.int .i64 (i)), .dv [] (.int .i64 (h))] (fun zz : Str × Int × Int => zz.1 ∈ l ∧ 0 ≤ zz.2.1) (fun zz : Str × Int × Int => .one (.dv [] (.str (zz.1)))) (fun zz : Str × Int × Int => []) (fun zz : Str × Int × Int => [.dv [] (.int .i64 (zz.2.1)), .dv [] (.int .i64 (zz.2.2))]) := by
 refine ⟨fn_introS Try.func84 rfl Try.ntmps84 Try.results84 rfl (fun C => ?_)⟩
 refine ok_fact (x := .tmp 1) (ev_tmp rfl) fun f1 => ?_
 iterate 5 refine z ?_
 refine yO rfl rfl (pu_move (.inl rfl) (ev_abox (ev_tmp rfl))) rfl ?_
 iterate 2 refine z ?_
 refine o_callB 9000 rfl rfl rfl Try.call83 (ok_spec_l1Below (code := code) (i := i) (h := h) (n := (((l)).length : Int)) (by omega) (by omega) ) (ev_tmp rfl) rfl ac_arg rfl (fun _ => rfl) (ad_cons (ev_tmp rfl) (ag_one ac_dv) rfl ad_nil) rfl (fun _ => rfl) (fun _ => rfl) (fun zz hz9 => ?_)
 obtain ⟨e9, i9, h9⟩ := zz
 replace hz9 : 0 ≤ e9 ∧ (0 < ((((l)).length : Int)) → e9 < ((((l)).length : Int))) ∧ 0 ≤ i9 := hz9
 have hl := hz9.2.1 (by omega)
 iterate 4 refine z ?_
 refine ok_weak (σ' := ⟨[(4, .one (.dv [] (.str ((((l)).getD (e9).toNat default))))), (0, .abox 0)], [(0, 102, [(.arg 900001 (bytesD (code))), (.dv [] (.int .i64 (i9))), (.dv [] (.int .i64 (h9)))])], []⟩) (weak_sub ⟨rfl, rfl, trivial⟩ ⟨rfl, trivial⟩ trivial rfl) ?_
 refine z ?_
 refine fin1 (res_tmp rfl) ⟨(((((l)).getD (e9).toNat default)), i9, h9), ?_, rfl, rfl, rfl, rfl⟩
 try dsimp only
 exact ⟨getD_memS (by omega) (by omega), by omega⟩
end Go.Proofs.Ytmnimdnmedldgaa

namespace Go.Proofs.Ytmnimdnmedldgaa
open Go.RowKit
open Go.Proofs
set_option linter.unusedVariables false
set_option linter.unusedSimpArgs false

def smallK (k : KeyT) : Prop := k.2.1 ≤ 256 ∨ 1000000 < k.2.1
theorem kText_of {l : List Str} (h : l.all kText = true) {s : Str} (hs : s ∈ l) : kText s = true := List.all_eq_true.1 h s hs
theorem name_of {l : List Str} (h : l.all isName = true) {s : Str} (hs : s ∈ l) : isName s = true := List.all_eq_true.1 h s hs
theorem size_of {l : List Str} (n : Nat) (h : l.all (fun s => decide (s.size ≤ n)) = true) {s : Str} (hs : s ∈ l) : s.size ≤ n := by simpa using List.all_eq_true.1 h s hs
theorem rng_of {l : List Int} (a b : Int) (h : l.all (fun x => decide (a ≤ x) && decide (x ≤ b)) = true) {x : Int} (hx : x ∈ l) : a ≤ x ∧ x ≤ b := by simpa using List.all_eq_true.1 h x hx
theorem key_num {n : Int} (h : -1000000000000 ≤ n ∧ n ≤ 1000000000000) : isKey (1, n, ByteArray.empty) = true := by
 have ht : kText ByteArray.empty = true := by decide +kernel
 have he : sEq ByteArray.empty ByteArray.empty = true := by decide +kernel
 have he2 : (ByteArray.mk #[] : ByteArray) = ByteArray.empty := rfl
 simp [isKey, ht, h.1, h.2, he, he2]
theorem key_txt {s : Str} (h : kText s = true) : isKey (2, 0, s) = true := by simp [isKey, h]
theorem key_pair {n : Int} {s : Str} (h : -1000000000000 ≤ n ∧ n ≤ 1000000000000) (hs : kText s = true) : isKey (3, n, s) = true := by simp [isKey, hs, h.1, h.2]
theorem key_size {k : KeyT} (h : isKey k = true) : k.2.2.size ≤ 12 := (key_rng h).2.2
theorem setF_rec {r : RecT} {n : Str} {v : Int} (h : isRec r = true) : isRec (setF r n v).1 = true := by
 unfold setF
 split
 ·exact h
 ·rename_i h1
  simp only [Bool.or_eq_true, Bool.not_eq_true', not_or, Bool.not_eq_false] at h1
  exact h1.2
theorem rec_wt {r : RecT} (h : isRec r = true) : wRecord r ≤ 54 := by
 have h10 := rec_len h
 have h11 : wSum wField r ≤ 8 * r.length := by
  have key : ∀ r : RecT, (∀ f ∈ r, f.1.size ≤ 8) → wSum wField r ≤ 8 * r.length := by
   intro r
   induction r with
   | nil => intro _; simp [wSum]
   | cons f r ih =>
    intro hf
    have k1 := ih (fun g hg => hf g (by simp [hg]))
    have k2 := hf f (by simp)
    have k3 : wField f = f.1.size := rfl
    simp only [wSum, List.map_cons, List.sum_cons, List.length_cons] at *
    omega
  refine key _ (fun f hf => ?_)
  obtain ⟨j, hj, rfl⟩ := List.mem_iff_getElem.1 hf
  have := (name_size (rec_fld h hj).1).2
  rwa [getD_at hj] at this
 have h13 : wRecord r = r.length + wSum wField r := rfl
 omega

theorem ok_spec_l4Number {code : List UInt8} {i h : Int} (hc : code.length ≤ 1048576) (hi : 0 ≤ i) : BFn Try.prog 108 [] 102 (bytesD (code)) [.dv [] (.int .i64 (i)), .dv [] (.int .i64 (h))] (fun zz : Int × Int × Int => (-1000000000000 ≤ zz.1 ∧ zz.1 ≤ 1000000000000) ∧ (zz.1 ≤ 256 ∨ 1000000 < zz.1) ∧ 0 ≤ zz.2.1) (fun zz : Int × Int × Int => .one (.dv [] (.int .i64 (zz.1)))) (fun zz : Int × Int × Int => []) (fun zz : Int × Int × Int => [.dv [] (.int .i64 (zz.2.1)), .dv [] (.int .i64 (zz.2.2))]) := by
 refine ⟨fn_introS Try.func108 rfl Try.ntmps108 Try.results108 rfl (fun C => ?_)⟩
 iterate 4 refine z ?_
 refine yO rfl rfl (pu_move (.inl rfl) (ev_abox (ev_tmp rfl))) rfl ?_
 refine yO rfl rfl (pu_move (.inl rfl) (ev_abox (ev_tmp rfl))) rfl ?_
 refine o_callB 5000 rfl rfl rfl Try.call83 (ok_spec_l1Below (code := code) (i := i) (h := h) (n := 9) (by omega) (by omega) ) (ev_tmp rfl) rfl ac_arg rfl (fun _ => rfl) (ad_cons (ev_int (inR_lit rfl)) (ag_one ac_dv) rfl ad_nil) rfl (fun _ => rfl) (fun _ => rfl) (fun zz hz5 => ?_)
 obtain ⟨e5, i5, h5⟩ := zz
 replace hz5 : 0 ≤ e5 ∧ (0 < (9 : Int) → e5 < (9 : Int)) ∧ 0 ≤ i5 := hz5
 refine o_buildN (k := 6) (js := []) hT rfl rfl rfl rfl rfl rfl rfl rfl rfl rfl rfl (ep_cons (ev_int (inR_lit rfl)) rfl rfl rfl (ep_cons (ev_int (inR_lit rfl)) rfl rfl rfl (ep_cons (ev_int (inR_lit rfl)) rfl rfl rfl (ep_cons (ev_int (inR_lit rfl)) rfl rfl rfl (ep_cons (ev_int (inR_lit rfl)) rfl rfl rfl (ep_cons (ev_int (inR_lit rfl)) rfl rfl rfl (ep_cons (ev_int (inR_lit rfl)) rfl rfl rfl (ep_cons (ev_int (inR_lit rfl)) rfl rfl rfl (ep_cons (ev_tmp rfl) rfl rfl rfl ep_nil))))))))) (ow_cons' (ow_dv rfl) (ow_cons' (ow_dv rfl) (ow_cons' (ow_dv rfl) (ow_cons' (ow_dv rfl) (ow_cons' (ow_dv rfl) (ow_cons' (ow_dv rfl) (ow_cons' (ow_dv rfl) (ow_cons' (ow_dv rfl) (ow_cons' (ow_dv rfl) ow_nil rfl) rfl) rfl) rfl) rfl) rfl) rfl) rfl) rfl) (by decide) (by decide) rfl rfl ?_
 simp only [killT, killB, SV.kill, CV.kill, kk, Nat.reduceBEq]
 refine o_callB 7000 rfl rfl rfl Try.call85 (ok_spec_l1Int (code := code) (i := i5) (h := h5) (l := [0, 1, 2, -1, 255, 256, -1000000000000, 1000000000000, e5]) (by omega) (by omega) (by exact Nat.succ_pos _)) (ev_tmp rfl) rfl ac_arg rfl (fun _ => rfl) (ad_cons (ev_tmp rfl) (ag_one (ac_key' rfl rfl)) rfl ad_nil) rfl (fun _ => rfl) (fun _ => rfl) (fun zz hz7 => ?_)
 obtain ⟨e7, i7, h7⟩ := zz
 replace hz7 : e7 ∈ ([0, 1, 2, -1, 255, 256, -1000000000000, 1000000000000, e5]) ∧ 0 ≤ i7 := hz7
 iterate 2 refine z ?_
 refine ok_weak (σ' := ⟨[(2, .one (.dv [] (.int .i64 (e7)))), (0, .abox 0)], [(0, 102, [(.arg 900001 (bytesD (code))), (.dv [] (.int .i64 (i7))), (.dv [] (.int .i64 (h7)))])], []⟩) (weak_sub ⟨rfl, rfl, trivial⟩ ⟨rfl, trivial⟩ trivial rfl) ?_
 refine z ?_
 refine fin1 (res_tmp rfl) ⟨((e7), i7, h7), ?_, rfl, rfl, rfl, rfl⟩
 try dsimp only
 refine ⟨?_, ?_, by omega⟩
 all_goals have h9 := hz5.2.1 (by omega)
 all_goals have h8 := hz7.1
 all_goals simp only [List.mem_cons, List.not_mem_nil, or_false] at h8
 all_goals omega
theorem ok_spec_l4Key {code : List UInt8} {i h : Int} (hc : code.length ≤ 1048576) (hi : 0 ≤ i) : BFn Try.prog 101 [] 102 (bytesD (code)) [.dv [] (.int .i64 (i)), .dv [] (.int .i64 (h))] (fun zz : KeyT × Int × Int => isKey zz.1 = true ∧ smallK zz.1 ∧ 0 ≤ zz.2.1) (fun zz : KeyT × Int × Int => .agg [(.dv [] (.int .i64 (zz.1.1))), (.dv [] (.int .i64 (zz.1.2.1))), (.dv [] (.str (zz.1.2.2)))]) (fun zz : KeyT × Int × Int => []) (fun zz : KeyT × Int × Int => [.dv [] (.int .i64 (zz.2.1)), .dv [] (.int .i64 (zz.2.2))]) := by
 refine ⟨fn_introS Try.func101 rfl Try.ntmps101 Try.results101 rfl (fun C => ?_)⟩
 iterate 4 refine z ?_
 refine yO rfl rfl (pu_move (.inl rfl) (ev_abox (ev_tmp rfl))) rfl ?_
 refine o_buildN (k := 5) (js := []) hT rfl rfl rfl rfl rfl rfl rfl rfl rfl rfl rfl (ep_cons (ev_str (str_lit rfl)) rfl rfl rfl (ep_cons (ev_str (str_lit rfl)) rfl rfl rfl (ep_cons (ev_str (str_lit rfl)) rfl rfl rfl (ep_cons (ev_str (str_lit rfl)) rfl rfl rfl (ep_cons (ev_str (str_lit rfl)) rfl rfl rfl (ep_cons (ev_str (str_lit rfl)) rfl rfl rfl ep_nil)))))) (ow_cons' (ow_dv rfl) (ow_cons' (ow_dv rfl) (ow_cons' (ow_dv rfl) (ow_cons' (ow_dv rfl) (ow_cons' (ow_dv rfl) (ow_cons' (ow_dv rfl) ow_nil rfl) rfl) rfl) rfl) rfl) rfl) (by decide) (by decide) rfl rfl ?_
 simp only [killT, killB, SV.kill, CV.kill, kk, Nat.reduceBEq]
 refine o_callB 6000 rfl rfl rfl Try.call84 (ok_spec_l1Str (code := code) (i := i) (h := h) (l := [ByteArray.mk #[], ByteArray.mk #[97], ByteArray.mk #[97, 98], ByteArray.mk #[98], ByteArray.mk #[122, 57], ByteArray.mk #[97, 98, 99, 100, 101, 102, 103, 104, 105, 106, 107, 108]]) (by omega) (by omega) (by exact Nat.succ_pos _)) (ev_tmp rfl) rfl ac_arg rfl (fun _ => rfl) (ad_cons (ev_tmp rfl) (ag_one (ac_key' rfl rfl)) rfl ad_nil) rfl (fun _ => rfl) (fun _ => rfl) (fun zz hz6 => ?_)
 obtain ⟨e6, i6, h6⟩ := zz
 replace hz6 : e6 ∈ ([ByteArray.mk #[], ByteArray.mk #[97], ByteArray.mk #[97, 98], ByteArray.mk #[98], ByteArray.mk #[122, 57], ByteArray.mk #[97, 98, 99, 100, 101, 102, 103, 104, 105, 106, 107, 108]]) ∧ 0 ≤ i6 := hz6
 iterate 4 refine z ?_
 refine yO rfl rfl (pu_move (.inl rfl) (ev_abox (ev_tmp rfl))) rfl ?_
 refine o_callB 8000 rfl rfl rfl Try.call83 (ok_spec_l1Below (code := code) (i := i6) (h := h6) (n := 3) (by omega) (by omega) ) (ev_tmp rfl) rfl ac_arg rfl (fun _ => rfl) (ad_cons (ev_int (inR_lit rfl)) (ag_one ac_dv) rfl ad_nil) rfl (fun _ => rfl) (fun _ => rfl) (fun zz hz8 => ?_)
 obtain ⟨e8, i8, h8⟩ := zz
 replace hz8 : 0 ≤ e8 ∧ (0 < (3 : Int) → e8 < (3 : Int)) ∧ 0 ≤ i8 := hz8
 iterate 6 refine z ?_
 refine yQ rfl (fun c1 => ?_) fun c1 => ?_
 ·skip
  have d1 := of_decide_eq_true c1
  iterate 2 refine z ?_
  refine yO rfl rfl (pu_build hT hB rfl rfl rfl (bp_cons (ev_int (inR_lit rfl)) rfl rfl rfl rfl rfl (bp_cons (ev_tmp rfl) rfl rfl rfl rfl rfl bp_nil))) rfl ?_
  iterate 2 refine z ?_
  refine ok_weak (σ' := ⟨[(2, .box 2 0), (0, .abox 0)], [(2, 28, [(.dv [] (.int .i64 (2))), (.dv [] (.int .i64 (0))), (.dv [] (.str (e6)))]), (0, 102, [(.arg 900001 (bytesD (code))), (.dv [] (.int .i64 (i8))), (.dv [] (.int .i64 (h8)))])], []⟩) (weak_sub ⟨rfl, rfl, trivial⟩ ⟨rfl, rfl, trivial⟩ trivial rfl) ?_
  iterate 3 refine z ?_
  refine fin1 (res_cell hT rfl rfl rfl rfl) ⟨(((2), ((0), (e6))), i8, h8), ?_, rfl, rfl, rfl, rfl⟩
  try dsimp only
  exact ⟨key_txt (kText_of (l := [ByteArray.mk #[], ByteArray.mk #[97], ByteArray.mk #[97, 98], ByteArray.mk #[98], ByteArray.mk #[122, 57], ByteArray.mk #[97, 98, 99, 100, 101, 102, 103, 104, 105, 106, 107, 108]]) (by decide +kernel) hz6.1), .inl (by dsimp only; omega), by omega⟩
 ·skip
  have d1 := of_decide_eq_false c1
  iterate 4 refine z ?_
  refine yQ rfl (fun c2 => ?_) fun c2 => ?_
  ·skip
   have d2 := of_decide_eq_true c2
   refine z ?_
   refine yO rfl rfl (pu_move (.inl rfl) (ev_abox (ev_tmp rfl))) rfl ?_
   refine o_callB 16000 rfl rfl rfl Try.call108 (ok_spec_l4Number (code := code) (i := i8) (h := h8) (by omega) (by omega)) (ev_tmp rfl) rfl ac_arg rfl (fun _ => rfl) ad_nil rfl (fun _ => rfl) (fun _ => rfl) (fun zz hz16 => ?_)
   obtain ⟨e16, i16, h16⟩ := zz
   replace hz16 : (-1000000000000 ≤ e16 ∧ e16 ≤ 1000000000000) ∧ (e16 ≤ 256 ∨ 1000000 < e16) ∧ 0 ≤ i16 := hz16
   refine z ?_
   refine yO rfl rfl (pu_build hT hB rfl rfl rfl (bp_cons (ev_int (inR_lit rfl)) rfl rfl rfl rfl rfl (bp_cons (ev_tmp rfl) rfl rfl rfl rfl rfl (bp_cons (ev_tmp rfl) rfl rfl rfl rfl rfl bp_nil)))) rfl ?_
   iterate 2 refine z ?_
   refine ok_weak (σ' := ⟨[(2, .box 2 0), (0, .abox 0)], [(2, 28, [(.dv [] (.int .i64 (3))), (.dv [] (.int .i64 (e16))), (.dv [] (.str (e6)))]), (0, 102, [(.arg 900001 (bytesD (code))), (.dv [] (.int .i64 (i16))), (.dv [] (.int .i64 (h16)))])], []⟩) (weak_sub ⟨rfl, rfl, trivial⟩ ⟨rfl, rfl, trivial⟩ trivial rfl) ?_
   iterate 3 refine z ?_
   refine fin1 (res_cell hT rfl rfl rfl rfl) ⟨(((3), ((e16), (e6))), i16, h16), ?_, rfl, rfl, rfl, rfl⟩
   try dsimp only
   exact ⟨key_pair hz16.1 (kText_of (l := [ByteArray.mk #[], ByteArray.mk #[97], ByteArray.mk #[97, 98], ByteArray.mk #[98], ByteArray.mk #[122, 57], ByteArray.mk #[97, 98, 99, 100, 101, 102, 103, 104, 105, 106, 107, 108]]) (by decide +kernel) hz6.1), hz16.2.1, by omega⟩
  ·skip
   have d2 := of_decide_eq_false c2
   iterate 4 refine z ?_
   refine yO rfl rfl (pu_move (.inl rfl) (ev_abox (ev_tmp rfl))) rfl ?_
   refine o_callB 20000 rfl rfl rfl Try.call108 (ok_spec_l4Number (code := code) (i := i8) (h := h8) (by omega) (by omega)) (ev_tmp rfl) rfl ac_arg rfl (fun _ => rfl) ad_nil rfl (fun _ => rfl) (fun _ => rfl) (fun zz hz20 => ?_)
   obtain ⟨e20, i20, h20⟩ := zz
   replace hz20 : (-1000000000000 ≤ e20 ∧ e20 ≤ 1000000000000) ∧ (e20 ≤ 256 ∨ 1000000 < e20) ∧ 0 ≤ i20 := hz20
   refine yO rfl rfl (pu_build hT hB rfl rfl rfl (bp_cons (ev_int (inR_lit rfl)) rfl rfl rfl rfl rfl (bp_cons (ev_tmp rfl) rfl rfl rfl rfl rfl bp_nil))) rfl ?_
   iterate 2 refine z ?_
   refine ok_weak (σ' := ⟨[(2, .box 2 0), (0, .abox 0)], [(2, 28, [(.dv [] (.int .i64 (1))), (.dv [] (.int .i64 (e20))), (.dv [] (.str (ByteArray.empty)))]), (0, 102, [(.arg 900001 (bytesD (code))), (.dv [] (.int .i64 (i20))), (.dv [] (.int .i64 (h20)))])], []⟩) (weak_sub ⟨rfl, rfl, trivial⟩ ⟨rfl, rfl, trivial⟩ trivial rfl) ?_
   refine z ?_
   refine fin1 (res_cell hT rfl rfl rfl rfl) ⟨(((1), ((e20), (ByteArray.empty))), i20, h20), ?_, rfl, rfl, rfl, rfl⟩
   try dsimp only
   exact ⟨key_num hz20.1, hz20.2.1, by omega⟩
theorem ok_spec_l4Small {code : List UInt8} {i h : Int} (hc : code.length ≤ 1048576) (hi : 0 ≤ i) : BFn Try.prog 88 [] 102 (bytesD (code)) [.dv [] (.int .i64 (i)), .dv [] (.int .i64 (h))] (fun zz : KeyT × Int × Int => isKey zz.1 = true ∧ smallK zz.1 ∧ 0 ≤ zz.2.1) (fun zz : KeyT × Int × Int => .agg [(.dv [] (.int .i64 (zz.1.1))), (.dv [] (.int .i64 (zz.1.2.1))), (.dv [] (.str (zz.1.2.2)))]) (fun zz : KeyT × Int × Int => []) (fun zz : KeyT × Int × Int => [.dv [] (.int .i64 (zz.2.1)), .dv [] (.int .i64 (zz.2.2))]) := by
 refine ⟨fn_introS Try.func88 rfl Try.ntmps88 Try.results88 rfl (fun C => ?_)⟩
 iterate 4 refine z ?_
 refine yO rfl rfl (pu_move (.inl rfl) (ev_abox (ev_tmp rfl))) rfl ?_
 refine o_callB 4000 rfl rfl rfl Try.call83 (ok_spec_l1Below (code := code) (i := i) (h := h) (n := 6) (by omega) (by omega) ) (ev_tmp rfl) rfl ac_arg rfl (fun _ => rfl) (ad_cons (ev_int (inR_lit rfl)) (ag_one ac_dv) rfl ad_nil) rfl (fun _ => rfl) (fun _ => rfl) (fun zz hz4 => ?_)
 obtain ⟨e4, i4, h4⟩ := zz
 replace hz4 : 0 ≤ e4 ∧ (0 < (6 : Int) → e4 < (6 : Int)) ∧ 0 ≤ i4 := hz4
 refine yO rfl rfl (pu_build hT hB rfl rfl rfl (bp_cons (ev_int (inR_lit rfl)) rfl rfl rfl rfl rfl (bp_cons (ev_tmp rfl) rfl rfl rfl rfl rfl bp_nil))) rfl ?_
 iterate 2 refine z ?_
 refine ok_weak (σ' := ⟨[(2, .box 2 0), (0, .abox 0)], [(2, 28, [(.dv [] (.int .i64 (1))), (.dv [] (.int .i64 (e4))), (.dv [] (.str (ByteArray.empty)))]), (0, 102, [(.arg 900001 (bytesD (code))), (.dv [] (.int .i64 (i4))), (.dv [] (.int .i64 (h4)))])], []⟩) (weak_sub ⟨rfl, rfl, trivial⟩ ⟨rfl, rfl, trivial⟩ trivial rfl) ?_
 refine z ?_
 refine fin1 (res_cell hT rfl rfl rfl rfl) ⟨(((1), ((e4), (ByteArray.empty))), i4, h4), ?_, rfl, rfl, rfl, rfl⟩
 try dsimp only
 have h9 := hz4.2.1 (by omega)
 exact ⟨key_num (by omega), .inl (by dsimp only; omega), by omega⟩
theorem ok_spec_l4Any {code : List UInt8} {i h : Int} (hc : code.length ≤ 1048576) (hi : 0 ≤ i) : BFn Try.prog 86 [] 102 (bytesD (code)) [.dv [] (.int .i64 (i)), .dv [] (.int .i64 (h))] (fun zz : KeyT × Int × Int => zz.1.2.2.size ≤ 13 ∧ 0 ≤ zz.2.1) (fun zz : KeyT × Int × Int => .agg [(.dv [] (.int .i64 (zz.1.1))), (.dv [] (.int .i64 (zz.1.2.1))), (.dv [] (.str (zz.1.2.2)))]) (fun zz : KeyT × Int × Int => []) (fun zz : KeyT × Int × Int => [.dv [] (.int .i64 (zz.2.1)), .dv [] (.int .i64 (zz.2.2))]) := by
 refine ⟨fn_introS Try.func86 rfl Try.ntmps86 Try.results86 rfl (fun C => ?_)⟩
 iterate 4 refine z ?_
 refine yO rfl rfl (pu_move (.inl rfl) (ev_abox (ev_tmp rfl))) rfl ?_
 refine o_callB 5000 rfl rfl rfl Try.call101 (ok_spec_l4Key (code := code) (i := i) (h := h) (by omega) (by omega)) (ev_tmp rfl) rfl ac_arg rfl (fun _ => rfl) ad_nil rfl (fun _ => rfl) (fun _ => rfl) (fun zz hz5 => ?_)
 obtain ⟨e5, i5, h5⟩ := zz
 replace hz5 : isKey e5 = true ∧ smallK e5 ∧ 0 ≤ i5 := hz5
 have hks := key_size hz5.1
 iterate 5 refine z ?_
 refine yO rfl rfl (pu_move (.inl rfl) (ev_abox (ev_tmp rfl))) rfl ?_
 refine o_callB 7000 rfl rfl rfl Try.call83 (ok_spec_l1Below (code := code) (i := i5) (h := h5) (n := 10) (by omega) (by omega) ) (ev_tmp rfl) rfl ac_arg rfl (fun _ => rfl) (ad_cons (ev_int (inR_lit rfl)) (ag_one ac_dv) rfl ad_nil) rfl (fun _ => rfl) (fun _ => rfl) (fun zz hz7 => ?_)
 obtain ⟨e7, i7, h7⟩ := zz
 replace hz7 : 0 ≤ e7 ∧ (0 < (10 : Int) → e7 < (10 : Int)) ∧ 0 ≤ i7 := hz7
 iterate 6 refine z ?_
 refine yQ rfl (fun c1 => ?_) fun c1 => ?_
 ·skip
  have d1 := of_decide_eq_true c1
  refine ok_region ?_
  refine yO rfl rfl (pu_move (.inl rfl) (ev_abox (ev_tmp rfl))) rfl ?_
  refine o_callB 11000 rfl rfl rfl Try.call83 (ok_spec_l1Below (code := code) (i := i7) (h := h7) (n := 5) (by omega) (by omega) ) (ev_tmp rfl) rfl ac_arg rfl (fun _ => rfl) (ad_cons (ev_int (inR_lit rfl)) (ag_one ac_dv) rfl ad_nil) rfl (fun _ => rfl) (fun _ => rfl) (fun zz hz11 => ?_)
  obtain ⟨e11, i11, h11⟩ := zz
  replace hz11 : 0 ≤ e11 ∧ (0 < (5 : Int) → e11 < (5 : Int)) ∧ 0 ≤ i11 := hz11
  iterate 2 refine z ?_
  refine ops_nil ?_
  iterate 6 refine z ?_
  refine ok_weak (σ' := ⟨[(2, .box 2 0), (0, .abox 0)], [(2, 28, [(.dv [] (.int .i64 (e11))), (.dv [] (.int .i64 (e5.2.1))), (.dv [] (.str (e5.2.2)))]), (0, 102, [(.arg 900001 (bytesD (code))), (.dv [] (.int .i64 (i11))), (.dv [] (.int .i64 (h11)))])], []⟩) (weak_sub ⟨rfl, rfl, trivial⟩ ⟨rfl, rfl, trivial⟩ trivial rfl) ?_
  refine z ?_
  refine fin1 (res_cell hT rfl rfl rfl rfl) ⟨(((e11), ((e5.2.1), (e5.2.2))), i11, h11), ?_, rfl, rfl, rfl, rfl⟩
  try dsimp only
  exact ⟨by omega, by omega⟩
 ·skip
  have d1 := of_decide_eq_false c1
  iterate 4 refine z ?_
  refine yQ rfl (fun c2 => ?_) fun c2 => ?_
  ·skip
   have d2 := of_decide_eq_true c2
   refine ok_region ?_
   refine yO rfl rfl (pu_move (.inl rfl) (ev_abox (ev_tmp rfl))) rfl ?_
   refine o_buildN (k := 16) (js := []) hT rfl rfl rfl rfl rfl rfl rfl rfl rfl rfl rfl (ep_cons (ev_int (inR_lit rfl)) rfl rfl rfl (ep_cons (ev_int (inR_lit rfl)) rfl rfl rfl (ep_cons (ev_int (inR_lit rfl)) rfl rfl rfl ep_nil))) (ow_cons' (ow_dv rfl) (ow_cons' (ow_dv rfl) (ow_cons' (ow_dv rfl) ow_nil rfl) rfl) rfl) (by decide) (by decide) rfl rfl ?_
   simp only [killT, killB, SV.kill, CV.kill, kk, Nat.reduceBEq]
   refine o_callB 17000 rfl rfl rfl Try.call85 (ok_spec_l1Int (code := code) (i := i7) (h := h7) (l := [-1000000000001, 1000000000001, 5]) (by omega) (by omega) (by exact Nat.succ_pos _)) (ev_tmp rfl) rfl ac_arg rfl (fun _ => rfl) (ad_cons (ev_tmp rfl) (ag_one (ac_key' rfl rfl)) rfl ad_nil) rfl (fun _ => rfl) (fun _ => rfl) (fun zz hz17 => ?_)
   obtain ⟨e17, i17, h17⟩ := zz
   replace hz17 : e17 ∈ ([-1000000000001, 1000000000001, 5]) ∧ 0 ≤ i17 := hz17
   iterate 2 refine z ?_
   refine ops_nil ?_
   iterate 6 refine z ?_
   refine ok_weak (σ' := ⟨[(2, .box 2 0), (0, .abox 0)], [(2, 28, [(.dv [] (.int .i64 (e5.1))), (.dv [] (.int .i64 (e17))), (.dv [] (.str (e5.2.2)))]), (0, 102, [(.arg 900001 (bytesD (code))), (.dv [] (.int .i64 (i17))), (.dv [] (.int .i64 (h17)))])], []⟩) (weak_sub ⟨rfl, rfl, trivial⟩ ⟨rfl, rfl, trivial⟩ trivial rfl) ?_
   refine z ?_
   refine fin1 (res_cell hT rfl rfl rfl rfl) ⟨(((e5.1), ((e17), (e5.2.2))), i17, h17), ?_, rfl, rfl, rfl, rfl⟩
   try dsimp only
   exact ⟨by omega, by omega⟩
  ·skip
   have d2 := of_decide_eq_false c2
   iterate 4 refine z ?_
   refine yQ rfl (fun c3 => ?_) fun c3 => ?_
   ·skip
    have d3 := of_decide_eq_true c3
    refine ok_region ?_
    refine yO rfl rfl (pu_move (.inl rfl) (ev_abox (ev_tmp rfl))) rfl ?_
    refine o_buildN (k := 22) (js := []) hT rfl rfl rfl rfl rfl rfl rfl rfl rfl rfl rfl (ep_cons (ev_str (str_lit rfl)) rfl rfl rfl (ep_cons (ev_str (str_lit rfl)) rfl rfl rfl (ep_cons (ev_str (str_lit rfl)) rfl rfl rfl (ep_cons (ev_str (str_lit rfl)) rfl rfl rfl ep_nil)))) (ow_cons' (ow_dv rfl) (ow_cons' (ow_dv rfl) (ow_cons' (ow_dv rfl) (ow_cons' (ow_dv rfl) ow_nil rfl) rfl) rfl) rfl) (by decide) (by decide) rfl rfl ?_
    simp only [killT, killB, SV.kill, CV.kill, kk, Nat.reduceBEq]
    refine o_callB 23000 rfl rfl rfl Try.call84 (ok_spec_l1Str (code := code) (i := i7) (h := h7) (l := [ByteArray.mk #[65], ByteArray.mk #[97, 32, 98], ByteArray.mk #[97, 98, 99, 100, 101, 102, 103, 104, 105, 106, 107, 108, 109], ByteArray.mk #[120, 39]]) (by omega) (by omega) (by exact Nat.succ_pos _)) (ev_tmp rfl) rfl ac_arg rfl (fun _ => rfl) (ad_cons (ev_tmp rfl) (ag_one (ac_key' rfl rfl)) rfl ad_nil) rfl (fun _ => rfl) (fun _ => rfl) (fun zz hz23 => ?_)
    obtain ⟨e23, i23, h23⟩ := zz
    replace hz23 : e23 ∈ ([ByteArray.mk #[65], ByteArray.mk #[97, 32, 98], ByteArray.mk #[97, 98, 99, 100, 101, 102, 103, 104, 105, 106, 107, 108, 109], ByteArray.mk #[120, 39]]) ∧ 0 ≤ i23 := hz23
    iterate 2 refine z ?_
    refine ops_nil ?_
    iterate 6 refine z ?_
    refine ok_weak (σ' := ⟨[(2, .box 2 0), (0, .abox 0)], [(2, 28, [(.dv [] (.int .i64 (e5.1))), (.dv [] (.int .i64 (e5.2.1))), (.dv [] (.str (e23)))]), (0, 102, [(.arg 900001 (bytesD (code))), (.dv [] (.int .i64 (i23))), (.dv [] (.int .i64 (h23)))])], []⟩) (weak_sub ⟨rfl, rfl, trivial⟩ ⟨rfl, rfl, trivial⟩ trivial rfl) ?_
    refine z ?_
    refine fin1 (res_cell hT rfl rfl rfl rfl) ⟨(((e5.1), ((e5.2.1), (e23))), i23, h23), ?_, rfl, rfl, rfl, rfl⟩
    try dsimp only
    exact ⟨size_of 13 (by decide +kernel) hz23.1, by omega⟩
   ·skip
    have d3 := of_decide_eq_false c3
    iterate 7 refine z ?_
    refine ok_weak (σ' := ⟨[(2, .box 2 0), (0, .abox 0)], [(2, 28, [(.dv [] (.int .i64 (e5.1))), (.dv [] (.int .i64 (e5.2.1))), (.dv [] (.str (e5.2.2)))]), (0, 102, [(.arg 900001 (bytesD (code))), (.dv [] (.int .i64 (i7))), (.dv [] (.int .i64 (h7)))])], []⟩) (weak_sub ⟨rfl, rfl, trivial⟩ ⟨rfl, rfl, trivial⟩ trivial rfl) ?_
    refine z ?_
    refine fin1 (res_cell hT rfl rfl rfl rfl) ⟨(((e5.1), ((e5.2.1), (e5.2.2))), i7, h7), ?_, rfl, rfl, rfl, rfl⟩
    try dsimp only
    exact ⟨by omega, by omega⟩
theorem ok_spec_l4Range {code : List UInt8} {i h : Int} (hc : code.length ≤ 1048576) (hi : 0 ≤ i) : BFn Try.prog 51 [] 102 (bytesD (code)) [.dv [] (.int .i64 (i)), .dv [] (.int .i64 (h))] (fun zz : RangeT × Int × Int => 0 ≤ zz.2.1) (fun zz : RangeT × Int × Int => .agg [(.dv [] (.bool (zz.1.1))), (.dv [] (.bool (zz.1.2.1))), (.dv [] (.int .i64 (zz.1.2.2.1.1))), (.dv [] (.int .i64 (zz.1.2.2.1.2.1))), (.dv [] (.str (zz.1.2.2.1.2.2))), (.dv [] (.int .i64 (zz.1.2.2.2.1))), (.dv [] (.int .i64 (zz.1.2.2.2.2.1))), (.dv [] (.str (zz.1.2.2.2.2.2)))]) (fun zz : RangeT × Int × Int => []) (fun zz : RangeT × Int × Int => [.dv [] (.int .i64 (zz.2.1)), .dv [] (.int .i64 (zz.2.2))]) := by
 refine ⟨fn_introS Try.func51 rfl Try.ntmps51 Try.results51 rfl (fun C => ?_)⟩
 iterate 4 refine z ?_
 refine yO rfl rfl (pu_move (.inl rfl) (ev_abox (ev_tmp rfl))) rfl ?_
 refine o_callB 5000 rfl rfl rfl Try.call87 (ok_spec_l1Once (code := code) (i := i) (h := h) (n := 2) (by omega) (by omega) ) (ev_tmp rfl) rfl ac_arg rfl (fun _ => rfl) (ad_cons (ev_int (inR_lit rfl)) (ag_one ac_dv) rfl ad_nil) rfl (fun _ => rfl) (fun _ => rfl) (fun zz hz5 => ?_)
 obtain ⟨e5, i5, h5⟩ := zz
 replace hz5 : 0 ≤ i5 := hz5
 refine yO rfl rfl (pu_move (.inl rfl) (ev_abox (ev_tmp rfl))) rfl ?_
 refine o_callB 7000 rfl rfl rfl Try.call87 (ok_spec_l1Once (code := code) (i := i5) (h := h5) (n := 2) (by omega) (by omega) ) (ev_tmp rfl) rfl ac_arg rfl (fun _ => rfl) (ad_cons (ev_int (inR_lit rfl)) (ag_one ac_dv) rfl ad_nil) rfl (fun _ => rfl) (fun _ => rfl) (fun zz hz7 => ?_)
 obtain ⟨e7, i7, h7⟩ := zz
 replace hz7 : 0 ≤ i7 := hz7
 refine yO rfl rfl (pu_move (.inl rfl) (ev_abox (ev_tmp rfl))) rfl ?_
 refine o_callB 9000 rfl rfl rfl Try.call88 (ok_spec_l4Small (code := code) (i := i7) (h := h7) (by omega) (by omega)) (ev_tmp rfl) rfl ac_arg rfl (fun _ => rfl) ad_nil rfl (fun _ => rfl) (fun _ => rfl) (fun zz hz9 => ?_)
 obtain ⟨e9, i9, h9⟩ := zz
 replace hz9 : isKey e9 = true ∧ smallK e9 ∧ 0 ≤ i9 := hz9
 refine yO rfl rfl (pu_move (.inl rfl) (ev_abox (ev_tmp rfl))) rfl ?_
 refine o_callB 11000 rfl rfl rfl Try.call88 (ok_spec_l4Small (code := code) (i := i9) (h := h9) (by omega) (by omega)) (ev_tmp rfl) rfl ac_arg rfl (fun _ => rfl) ad_nil rfl (fun _ => rfl) (fun _ => rfl) (fun zz hz11 => ?_)
 obtain ⟨e11, i11, h11⟩ := zz
 replace hz11 : isKey e11 = true ∧ smallK e11 ∧ 0 ≤ i11 := hz11
 refine yO rfl rfl (pu_build hT hB rfl rfl rfl (bp_cons (ev_tmp rfl) rfl rfl rfl rfl rfl (bp_cons (ev_tmp rfl) rfl rfl rfl rfl rfl (bp_cons (ev_tmp rfl) rfl rfl rfl rfl rfl (bp_cons (ev_tmp rfl) rfl rfl rfl rfl rfl bp_nil))))) rfl ?_
 iterate 5 refine z ?_
 refine yO rfl rfl (pu_move (.inl rfl) (ev_abox (ev_tmp rfl))) rfl ?_
 refine o_callB 14000 rfl rfl rfl Try.call87 (ok_spec_l1Once (code := code) (i := i11) (h := h11) (n := 12) (by omega) (by omega) ) (ev_tmp rfl) rfl ac_arg rfl (fun _ => rfl) (ad_cons (ev_int (inR_lit rfl)) (ag_one ac_dv) rfl ad_nil) rfl (fun _ => rfl) (fun _ => rfl) (fun zz hz14 => ?_)
 obtain ⟨e14, i14, h14⟩ := zz
 replace hz14 : 0 ≤ i14 := hz14
 refine z ?_
 refine yQ rfl (fun c1 => ?_) fun c1 => ?_
 ·skip
  refine ok_cutT (σ' := ⟨[(0, .abox 0), (2, .box 2 0), (3, .box 3 0)], [(0, 102, [(.arg 900001 (bytesD (code))), (.dv [] (.int .i64 (i14))), (.dv [] (.int .i64 (h14)))]), (2, 30, [(.dv [] (.bool (false))), (.dv [] (.bool (false))), (.dv [] (.int .i64 (0))), (.dv [] (.int .i64 (0))), (.dv [] (.str (ByteArray.empty))), (.dv [] (.int .i64 (0))), (.dv [] (.int .i64 (0))), (.dv [] (.str (ByteArray.empty)))]), (3, 30, [(.dv [] (.bool (e5))), (.dv [] (.bool (e7))), (.dv [] (.int .i64 (0))), (.dv [] (.int .i64 (0))), (.dv [] (.str (ByteArray.empty))), (.dv [] (.int .i64 (e11.1))), (.dv [] (.int .i64 (e11.2.1))), (.dv [] (.str (e11.2.2)))])], []⟩) ?_ ?_
  ·skip
   refine ok_region ?_
   refine yO rfl rfl (pu_build hT hB rfl rfl rfl bp_nil) rfl ?_
   iterate 2 refine z ?_
   refine ops_nil ?_
   exact then_n (weak_sub ⟨rfl, rfl, rfl, trivial⟩ ⟨rfl, rfl, rfl, trivial⟩ trivial rfl)
  iterate 4 refine z ?_
  refine ok_weak (σ' := ⟨[(2, .box 2 0), (0, .abox 0)], [(2, 30, [(.dv [] (.bool (e5))), (.dv [] (.bool (e7))), (.dv [] (.int .i64 (0))), (.dv [] (.int .i64 (0))), (.dv [] (.str (ByteArray.empty))), (.dv [] (.int .i64 (e11.1))), (.dv [] (.int .i64 (e11.2.1))), (.dv [] (.str (e11.2.2)))]), (0, 102, [(.arg 900001 (bytesD (code))), (.dv [] (.int .i64 (i14))), (.dv [] (.int .i64 (h14)))])], []⟩) (weak_sub ⟨rfl, rfl, trivial⟩ ⟨rfl, rfl, trivial⟩ trivial rfl) ?_
  refine z ?_
  refine fin1 (res_cell hT rfl rfl rfl rfl) ⟨(((e5), ((e7), (((0), ((0), (ByteArray.empty))), ((e11.1), ((e11.2.1), (e11.2.2)))))), i14, h14), ?_, rfl, rfl, rfl, rfl⟩
  try dsimp only
  omega
 ·skip
  iterate 6 refine z ?_
  refine ok_weak (σ' := ⟨[(2, .box 2 0), (0, .abox 0)], [(2, 30, [(.dv [] (.bool (e5))), (.dv [] (.bool (e7))), (.dv [] (.int .i64 (e9.1))), (.dv [] (.int .i64 (e9.2.1))), (.dv [] (.str (e9.2.2))), (.dv [] (.int .i64 (e11.1))), (.dv [] (.int .i64 (e11.2.1))), (.dv [] (.str (e11.2.2)))]), (0, 102, [(.arg 900001 (bytesD (code))), (.dv [] (.int .i64 (i14))), (.dv [] (.int .i64 (h14)))])], []⟩) (weak_sub ⟨rfl, rfl, trivial⟩ ⟨rfl, rfl, trivial⟩ trivial rfl) ?_
  refine z ?_
  refine fin1 (res_cell hT rfl rfl rfl rfl) ⟨(((e5), ((e7), (((e9.1), ((e9.2.1), (e9.2.2))), ((e11.1), ((e11.2.1), (e11.2.2)))))), i14, h14), ?_, rfl, rfl, rfl, rfl⟩
  try dsimp only
  omega
theorem ok_spec_l5Name {code : List UInt8} {i h : Int} (hc : code.length ≤ 1048576) (hi : 0 ≤ i) : BFn Try.prog 63 [] 102 (bytesD (code)) [.dv [] (.int .i64 (i)), .dv [] (.int .i64 (h))] (fun zz : Str × Int × Int => isName zz.1 = true ∧ 0 ≤ zz.2.1) (fun zz : Str × Int × Int => .one (.dv [] (.str (zz.1)))) (fun zz : Str × Int × Int => []) (fun zz : Str × Int × Int => [.dv [] (.int .i64 (zz.2.1)), .dv [] (.int .i64 (zz.2.2))]) := by
 refine ⟨fn_introS Try.func63 rfl Try.ntmps63 Try.results63 rfl (fun C => ?_)⟩
 iterate 4 refine z ?_
 refine yO rfl rfl (pu_move (.inl rfl) (ev_abox (ev_tmp rfl))) rfl ?_
 refine o_buildN (k := 4) (js := []) hT rfl rfl rfl rfl rfl rfl rfl rfl rfl rfl rfl (ep_cons (ev_str (str_lit rfl)) rfl rfl rfl (ep_cons (ev_str (str_lit rfl)) rfl rfl rfl (ep_cons (ev_str (str_lit rfl)) rfl rfl rfl (ep_cons (ev_str (str_lit rfl)) rfl rfl rfl (ep_cons (ev_str (str_lit rfl)) rfl rfl rfl ep_nil))))) (ow_cons' (ow_dv rfl) (ow_cons' (ow_dv rfl) (ow_cons' (ow_dv rfl) (ow_cons' (ow_dv rfl) (ow_cons' (ow_dv rfl) ow_nil rfl) rfl) rfl) rfl) rfl) (by decide) (by decide) rfl rfl ?_
 simp only [killT, killB, SV.kill, CV.kill, kk, Nat.reduceBEq]
 refine o_callB 5000 rfl rfl rfl Try.call84 (ok_spec_l1Str (code := code) (i := i) (h := h) (l := [ByteArray.mk #[97], ByteArray.mk #[98], ByteArray.mk #[99], ByteArray.mk #[100, 111, 110, 101], ByteArray.mk #[116, 105, 116, 108, 101]]) (by omega) (by omega) (by exact Nat.succ_pos _)) (ev_tmp rfl) rfl ac_arg rfl (fun _ => rfl) (ad_cons (ev_tmp rfl) (ag_one (ac_key' rfl rfl)) rfl ad_nil) rfl (fun _ => rfl) (fun _ => rfl) (fun zz hz5 => ?_)
 obtain ⟨e5, i5, h5⟩ := zz
 replace hz5 : e5 ∈ ([ByteArray.mk #[97], ByteArray.mk #[98], ByteArray.mk #[99], ByteArray.mk #[100, 111, 110, 101], ByteArray.mk #[116, 105, 116, 108, 101]]) ∧ 0 ≤ i5 := hz5
 iterate 2 refine z ?_
 refine ok_weak (σ' := ⟨[(2, .one (.dv [] (.str (e5)))), (0, .abox 0)], [(0, 102, [(.arg 900001 (bytesD (code))), (.dv [] (.int .i64 (i5))), (.dv [] (.int .i64 (h5)))])], []⟩) (weak_sub ⟨rfl, rfl, trivial⟩ ⟨rfl, trivial⟩ trivial rfl) ?_
 refine z ?_
 refine fin1 (res_tmp rfl) ⟨((e5), i5, h5), ?_, rfl, rfl, rfl, rfl⟩
 try dsimp only
 exact ⟨name_of (l := [ByteArray.mk #[97], ByteArray.mk #[98], ByteArray.mk #[99], ByteArray.mk #[100, 111, 110, 101], ByteArray.mk #[116, 105, 116, 108, 101]]) (by decide +kernel) hz5.1, by omega⟩
theorem ok_spec_l5Record {code : List UInt8} {i h : Int} (hc : code.length ≤ 1048576) (hi : 0 ≤ i) : BFn Try.prog 97 [] 102 (bytesD (code)) [.dv [] (.int .i64 (i)), .dv [] (.int .i64 (h))] (fun zz : RecT × Int × Int => isRec zz.1 = true ∧ 0 ≤ zz.2.1) (fun zz : RecT × Int × Int => .agg [(.key 9001)]) (fun zz : RecT × Int × Int => [(9001, some (kcOf false (fieldsD (zz.1))))]) (fun zz : RecT × Int × Int => [.dv [] (.int .i64 (zz.2.1)), .dv [] (.int .i64 (zz.2.2))]) := by
 refine ⟨fn_introS Try.func97 rfl Try.ntmps97 Try.results97 rfl (fun C => ?_)⟩
 iterate 4 refine z ?_
 refine yO rfl rfl (pu_build hT hB rfl rfl rfl bp_nil) rfl ?_
 iterate 3 refine z ?_
 refine ok_seq ?_
 refine ok_seq ?_
 refine ok_weak (weak_nilB 9001 (b := 3) (i := 0) (e := 91) (sz := 2) rfl rfl rfl rfl rfl) ?_
 simp only [killT, killB, SV.kill, CV.kill, kk, Nat.reduceBEq]
 refine ok_region ?_
 refine yO rfl rfl (pu_move (.inl rfl) (ev_abox (ev_tmp rfl))) rfl ?_
 refine o_callB 7000 rfl rfl rfl Try.call83 (ok_spec_l1Below (code := code) (i := i) (h := h) (n := 4) (by omega) (by omega) ) (ev_tmp rfl) rfl ac_arg rfl (fun _ => rfl) (ad_cons (ev_int (inR_lit rfl)) (ag_one ac_dv) rfl ad_nil) rfl (fun _ => rfl) (fun _ => rfl) (fun zz hz7 => ?_)
 obtain ⟨e7, i7, h7⟩ := zz
 replace hz7 : 0 ≤ e7 ∧ (0 < (4 : Int) → e7 < (4 : Int)) ∧ 0 ≤ i7 := hz7
 iterate 3 refine z ?_
 refine ok_loop (ι := Int × RecT × Int × Int) (fun zz => ⟨[(0, .abox 0), (2, .box 2 0), (3, .box 3 0), (4, .one (.dv [] (.int .i64 (zz.1))))], [(0, 102, [(.arg 900001 (bytesD (code))), (.dv [] (.int .i64 (zz.2.2.1))), (.dv [] (.int .i64 (zz.2.2.2)))]), (2, 40, [.nil]), (3, 40, [(.key 9001)])], [(9001, some (kcOf false (.sl 91 2 (zz.2.1.length) (zz.2.1.flatMap eField))))]⟩) (fun zz => isRec zz.2.1 = true ∧ 0 ≤ zz.2.2.1 ∧ zz.1 ≤ 9) (fun zz => zz.1.toNat) ((e7, [], i7, h7)) ?_ (weak_sub ⟨rfl, rfl, rfl, rfl, trivial⟩ ⟨rfl, rfl, rfl, trivial⟩ ⟨rfl, trivial⟩ rfl) (fun zz hx => ?_)
 ·exact ⟨rfl, by dsimp only; omega, by dsimp only; omega⟩
 obtain ⟨n, r, ci, ch⟩ := zz
 replace hx : isRec r = true ∧ 0 ≤ ci ∧ n ≤ 9 := hx
 obtain ⟨hr, hci, hn9⟩ := hx
 show Ok _ _ _ _ _ (⟨[(0, .abox 0), (2, .box 2 0), (3, .box 3 0), (4, .one (.dv [] (.int .i64 (n))))], [(0, 102, [(.arg 900001 (bytesD (code))), (.dv [] (.int .i64 (ci))), (.dv [] (.int .i64 (ch)))]), (2, 40, [.nil]), (3, 40, [(.key 9001)])], [(9001, some (kcOf false (.sl 91 2 (r.length) (r.flatMap eField))))]⟩ : St)
 iterate 5 refine z ?_
 refine yQ rfl (fun c1 => ?_) fun c1 => ?_
 ·skip
  have d1 := of_decide_eq_true c1
  iterate 4 refine z ?_
  refine ok_regionL [0] [0, 1, 2, 3, 4, 5, 6] (oB := [2, 3]) (oK := [9001]) (by kernel_rfl) rfl rfl ?_
  refine l_take 0 rfl (by kernel_rfl) rfl rfl (pu_loadBoxA hT rfl rfl (ev_tmp rfl) rfl rfl) rfl rfl rfl rfl rfl ?_
  refine l_take 1 rfl (by kernel_rfl) rfl rfl (pu_move (.inl rfl) (ev_abox (ev_tmp rfl))) rfl rfl rfl rfl rfl ?_
  refine l_take 3 rfl (by kernel_rfl) rfl rfl (pu_move (.inl rfl) (ev_abox (ev_tmp rfl))) rfl rfl rfl rfl rfl ?_
  refine l_split 2 [] (by kernel_rfl) ⟨?_, trivial⟩
  refine y_callB 15000 2 rfl rfl rfl rfl rfl Try.call63 (ok_spec_l5Name (code := code) (i := ci) (h := ch) (by omega) (by omega)) (ev_tmp rfl) rfl ac_arg rfl (fun _ => rfl) ad_nil rfl (fun _ => rfl) (fun _ => rfl) rfl (fun zz hz15 => ?_)
  obtain ⟨e15, i15, h15⟩ := zz
  replace hz15 : isName e15 = true ∧ 0 ≤ i15 := hz15
  refine l_split 4 [] (by kernel_rfl) ⟨?_, trivial⟩
  refine y_callB 17000 4 rfl rfl rfl rfl rfl Try.call83 (ok_spec_l1Below (code := code) (i := i15) (h := h15) (n := 5) (by omega) (by omega) ) (ev_tmp rfl) rfl ac_arg rfl (fun _ => rfl) (ad_cons (ev_int (inR_lit rfl)) (ag_one ac_dv) rfl ad_nil) rfl (fun _ => rfl) (fun _ => rfl) rfl (fun zz hz17 => ?_)
  obtain ⟨e17, i17, h17⟩ := zz
  replace hz17 : 0 ≤ e17 ∧ (0 < (5 : Int) → e17 < (5 : Int)) ∧ 0 ≤ i17 := hz17
  refine l_split 5 [] (by kernel_rfl) ⟨?_, trivial⟩
  refine y_callK 500 5 rfl rfl rfl rfl Try.call98 (ok_spec_SetField (r := r) (n := e15) (v := e17) (by have := rec_len hr; omega)) (as_cons (ev_tmp rfl) (ag_agg (ag_cons (ac_key' rfl rfl) ag_nil)) (as_cons (ev_tmp rfl) (ag_one ac_dv) (as_cons (ev_tmp rfl) (ag_one ac_dv) as_nil))) rfl rfl rfl rfl rfl rfl ?_
  refine l_take 6 rfl (by kernel_rfl) rfl rfl (pu_move (.inl rfl) (ev_tmp rfl)) rfl rfl rfl rfl rfl ?_
  refine l_takeX 7 rfl (by kernel_rfl) rfl rfl rfl (pu_extractA rfl (ev_tmp rfl) rfl) rfl rfl ?_
  refine l_takeX 8 rfl (by kernel_rfl) rfl rfl rfl (pu_extract1 rfl (ev_tmp rfl) rfl) rfl rfl ?_
  refine l_chain [9] rfl rfl (by kernel_rfl) ?_
  refine z ?_
  refine ops_nil ?_
  iterate 2 refine z ?_
  refine ok_region ?_
  iterate 4 refine z ?_
  refine ⟨(n - 1, (setF r e15 e17).1, i17, h17), ?_, ?_, weak_then (weak_swapB (b := 3) (i := 0) (k := 9501) (k' := 9001) rfl rfl rfl rfl (by simp) rfl rfl) (weak_sub ⟨rfl, rfl, rfl, rfl, trivial⟩ ⟨rfl, rfl, rfl, trivial⟩ ⟨rfl, trivial⟩ rfl)⟩
  ·exact ⟨setF_rec hr, by dsimp only; omega, by dsimp only; omega⟩
  ·dsimp only; omega
 ·skip
  have d1 := of_decide_eq_false c1
  iterate 9 refine z ?_
  refine ok_weak (σ' := ⟨[(2, .box 2 0), (0, .abox 0)], [(2, 40, [(.key 9001)]), (0, 102, [(.arg 900001 (bytesD (code))), (.dv [] (.int .i64 (ci))), (.dv [] (.int .i64 (ch)))])], [(9001, some (kcOf false (.sl 91 2 (r.length) (r.flatMap eField))))]⟩) (weak_sub ⟨rfl, rfl, trivial⟩ ⟨rfl, rfl, trivial⟩ ⟨rfl, trivial⟩ rfl) ?_
  refine z ?_
  refine fin1 (res_cell hT rfl rfl rfl rfl) ⟨((r), ci, ch), ?_, rfl, rfl, rfl, rfl⟩
  try dsimp only
  exact ⟨hr, by omega⟩
end Go.Proofs.Ytmnimdnmedldgaa

namespace Go.Proofs.Ytmnimdnmedldgaa
open Go.RowKit
open Go.Proofs
set_option linter.unusedVariables false
set_option linter.unusedSimpArgs false

def autoI (s : StoreT) : Prop := ∀ y ∈ s.2.1, y.1.1 = 1 → y.1.2.1 ≤ 1000000 → y.1.2.1 ≤ s.2.2
theorem mem_insI {l : List ItemT} {j : Nat} {y z : ItemT} (h : z ∈ insI l j y) : z = y ∨ z ∈ l := by
 unfold insI at h
 simp only [List.mem_append, List.mem_singleton] at h
 rcases h with (h | h) | h
 ·exact .inr (List.mem_of_mem_take h)
 ·exact .inl h
 ·exact .inr (List.mem_of_mem_drop h)
theorem autoI_put {s : StoreT} {k : KeyT} {r : RecT} (h : autoI s) : autoI (putN s k r).1 := by
 cases h2 : (putN s k r).2 with
 | false => rw [putN_f h2]; exact h
 | true =>
  obtain ⟨_, _, _, ⟨h3, e⟩ | ⟨h3, _, e⟩⟩ := put_cases h2
  ·rw [e]
   intro y hy h4 h5
   dsimp only at hy ⊢
   have hm : y.1 ∈ (setI s.2.1 (fndK s k).toNat r).map Prod.fst := List.mem_map_of_mem hy
   rw [setI_keys] at hm
   obtain ⟨z, hz, hzy⟩ := List.mem_map.1 hm
   have := h z hz (by rw [hzy]; exact h4) (by rw [hzy]; exact h5)
   rw [hzy] at this; exact this
  ·rw [e]
   intro y hy h4 h5
   dsimp only at hy ⊢
   have ha : s.2.2 ≤ autoP s k := by
    have := put_auto (x := s) (k := k) (r := r)
    rw [e] at this; exact this
   rcases mem_insI hy with rfl | hy
   ·unfold autoP
    dsimp only at h4 h5 ⊢
    split
    ·exact Int.le_refl _
    ·rename_i hh
     simp only [Bool.and_eq_true, decide_eq_true_eq] at hh
     omega
   ·have := h y hy h4 h5
    omega
theorem auto_small {s : StoreT} {k : KeyT} {r : RecT} (h : s.2.2 ≤ 256) (hk : smallK k) : (putN s k r).1.2.2 ≤ 256 := by
 cases h2 : (putN s k r).2 with
 | false => rw [putN_f h2]; exact h
 | true =>
  obtain ⟨_, _, _, ⟨h3, e⟩ | ⟨h3, _, e⟩⟩ := put_cases h2
  ·rw [e]; exact h
  ·rw [e]
   dsimp only
   unfold autoP
   split
   ·rename_i hh
    simp only [Bool.and_eq_true, decide_eq_true_eq] at hh
    unfold smallK at hk
    omega
   ·exact h
theorem auto_step {s : StoreT} (hs : isSto s = true) (ha : autoI s) (hl : s.2.1.length < 16) (h : s.2.2 ≤ 284 + (s.2.1.length : Int)) :
  (autoN s []).2.2 = true ∧ isSto (autoN s []).1 = true ∧ autoI (autoN s []).1 ∧ (autoN s []).1.2.1.length = s.2.1.length + 1 ∧ (autoN s []).1.2.2 = s.2.2 + 1 := by
 have h0 := hs
 rw [isSto_eq] at h0
 simp only [Bool.and_eq_true, decide_eq_true_eq] at h0
 have hlo := h0.2.2.1
 have hk : isKey (keyA s) = true := key_num (by omega)
 have hf : fndK s (keyA s) < 0 := by
  rcases Int.lt_or_le (fndK s (keyA s)) 0 with hq | hq
  ·exact hq
  ·have h1 := fndK_lt hq
   rcases findI_cases (p := fun y : ItemT => kEq y.1 (keyA s)) (d := default) s.2.1 0 (by omega) with ⟨h2, _⟩ | ⟨m, h2, h3, _, h5⟩
   ·unfold fndK at hq; omega
   ·have hm : s.2.1.getD m default ∈ s.2.1 := by rw [List.getD_eq_getElem?_getD, List.getElem?_eq_getElem h2]; exact List.getElem_mem h2
    have e := kEq_eq h5
    have e1 : (s.2.1.getD m default).1.1 = 1 := by rw [e]; rfl
    have e2 : (s.2.1.getD m default).1.2.1 = s.2.2 + 1 := by rw [e]; rfl
    have := ha _ hm e1 (by omega)
    omega
 have hput : putN s (keyA s) [] = ((s.1, insI s.2.1 (posK (keyA s) s.2.1) (keyA s, []), autoP s (keyA s)), true) := by
  unfold putN
  have hr : isRec [] = true := rfl
  rw [if_neg (by rw [hs, hk, hr]; simp), if_neg (by omega), if_neg (by omega)]
 have hadd : addN s (keyA s) [] = putN s (keyA s) [] := if_neg (by omega)
 have hauto : autoN s [] = ((putN s (keyA s) []).1, keyA s, true) := by
  unfold autoN
  rw [if_neg (by omega), hadd, if_pos (by rw [hput])]
 rw [hauto]
 refine ⟨rfl, putN_sto hs, autoI_put ha, ?_, ?_⟩
 ·rw [hput]; exact insI_len
 ·rw [hput]
  show autoP s (keyA s) = _
  unfold autoP
  rw [if_pos (by
   simp only [Bool.and_eq_true, decide_eq_true_eq]
   exact ⟨rfl, Int.le_refl _, by show s.2.2 + 1 ≤ 1000000; omega⟩)]
  rfl
theorem sto_w2 {s : StoreT} (h : isSto s = true) : wStore s ≤ 1200 := by
 have h0 := h
 simp only [isSto, Bool.and_eq_true, List.all_eq_true, decide_eq_true_eq] at h
 obtain ⟨h1, ⟨h2, h3⟩, h4⟩ := h
 have h5 := name_size h2
 have h6 : ∀ x ∈ s.2.1, wItem x ≤ 70 := fun x hx => by
  obtain ⟨i, hi, rfl⟩ := List.mem_iff_getElem.1 hx
  have h7 := h1 i (List.mem_range.2 hi)
  unfold stoBad at h7
  rw [getD_at hi] at h7
  simp only [Bool.not_or, Bool.not_not, Bool.and_eq_true] at h7
  have h8 := (key_rng h7.1.1).2.2
  have h9 := rec_wt h7.1.2
  have h12 : wItem s.2.1[i] = s.2.1[i].1.2.2.size + wRecord s.2.1[i].2 := rfl
  omega
 have h7 : wSum wItem s.2.1 ≤ 70 * s.2.1.length := by
  have key : ∀ l : List ItemT, (∀ x ∈ l, wItem x ≤ 70) → wSum wItem l ≤ 70 * l.length := by
   intro l
   induction l with
   | nil => intro _; simp [wSum]
   | cons x l ih =>
    intro hx
    have k1 := ih (fun g hg => hx g (by simp [hg]))
    have k2 := hx x (by simp)
    simp only [wSum, List.map_cons, List.sum_cons, List.length_cons] at *
    omega
  exact key _ h6
 have h8 : wStore s = s.1.size + (s.2.1.length + wSum wItem s.2.1) := rfl
 omega
theorem rec_app_w (r : RecT) (f : FieldT) : wRecord (r ++ [f]) = wRecord r + 1 + f.1.size := by
 have h1 : wRecord (r ++ [f]) = (r ++ [f]).length + wSum wField (r ++ [f]) := rfl
 have h2 : wRecord r = r.length + wSum wField r := rfl
 have h3 : wSum wField [f] = f.1.size := by simp [wSum, wField]
 rw [h1, h2, wSum_app, List.length_append, h3, List.length_singleton]; omega
theorem sto_app_w (s : StoreT) (x : ItemT) : wStore (s.1, s.2.1 ++ [x], s.2.2) = wStore s + 1 + x.1.2.2.size + wRecord x.2 := by
 have h1 : wStore (s.1, s.2.1 ++ [x], s.2.2) = s.1.size + ((s.2.1 ++ [x]).length + wSum wItem (s.2.1 ++ [x])) := rfl
 have h2 : wStore s = s.1.size + (s.2.1.length + wSum wItem s.2.1) := rfl
 have h3 : wSum wItem [x] = x.1.2.2.size + wRecord x.2 := by simp [wSum, wItem, wKey]
 rw [h1, h2, wSum_app, List.length_append, h3, List.length_singleton]; omega

theorem ok_spec_l5Any {code : List UInt8} {i h : Int} (hc : code.length ≤ 1048576) (hi : 0 ≤ i) : BFn Try.prog 70 [] 102 (bytesD (code)) [.dv [] (.int .i64 (i)), .dv [] (.int .i64 (h))] (fun zz : RecT × Int × Int => wRecord zz.1 ≤ 200 ∧ 0 ≤ zz.2.1) (fun zz : RecT × Int × Int => .agg [(.key 9001)]) (fun zz : RecT × Int × Int => [(9001, some (kcOf false (fieldsD (zz.1))))]) (fun zz : RecT × Int × Int => [.dv [] (.int .i64 (zz.2.1)), .dv [] (.int .i64 (zz.2.2))]) := by
 refine ⟨fn_introS Try.func70 rfl Try.ntmps70 Try.results70 rfl (fun C => ?_)⟩
 iterate 4 refine z ?_
 refine yO rfl rfl (pu_move (.inl rfl) (ev_abox (ev_tmp rfl))) rfl ?_
 refine o_callB 0 rfl rfl rfl Try.call97 (ok_spec_l5Record (code := code) (i := i) (h := h) (by omega) (by omega)) (ev_tmp rfl) rfl ac_arg rfl (fun _ => rfl) ad_nil rfl (fun _ => rfl) (fun _ => rfl) (fun zz hz7 => ?_)
 obtain ⟨e7, i7, h7⟩ := zz
 replace hz7 : isRec e7 = true ∧ 0 ≤ i7 := hz7
 have hrw := rec_wt hz7.1
 iterate 5 refine z ?_
 refine yO rfl rfl (pu_move (.inl rfl) (ev_abox (ev_tmp rfl))) rfl ?_
 refine o_callB 9000 rfl rfl rfl Try.call83 (ok_spec_l1Below (code := code) (i := i7) (h := h7) (n := 12) (by omega) (by omega) ) (ev_tmp rfl) rfl ac_arg rfl (fun _ => rfl) (ad_cons (ev_int (inR_lit rfl)) (ag_one ac_dv) rfl ad_nil) rfl (fun _ => rfl) (fun _ => rfl) (fun zz hz9 => ?_)
 obtain ⟨e9, i9, h9⟩ := zz
 replace hz9 : 0 ≤ e9 ∧ (0 < (12 : Int) → e9 < (12 : Int)) ∧ 0 ≤ i9 := hz9
 iterate 6 refine z ?_
 refine yQ rfl (fun c1 => ?_) fun c1 => ?_
 ·skip
  have d1 := of_decide_eq_true c1
  refine ok_regionL [0] [0, 1, 2, 3, 4, 5, 6, 7, 8, 9] (oB := [2, 3]) (oK := [9001]) (by kernel_rfl) rfl rfl ?_
  refine l_take 0 rfl (by kernel_rfl) rfl rfl (pu_fieldBox hT rfl rfl rfl (ev_tmp rfl)) rfl rfl rfl rfl rfl ?_
  refine l_take 1 rfl (by kernel_rfl) rfl rfl (pu_loadBox1 hT rfl rfl (ev_tmp rfl) rfl rfl) rfl rfl rfl rfl rfl ?_
  refine l_take 2 rfl (by kernel_rfl) rfl rfl (pu_move (.inl rfl) (ev_abox (ev_tmp rfl))) rfl rfl rfl rfl rfl ?_
  refine l_take 5 rfl (by kernel_rfl) rfl rfl (pu_move (.inl rfl) (ev_abox (ev_tmp rfl))) rfl rfl rfl rfl rfl ?_
  refine l_split 3 [6] (by kernel_rfl) ⟨?_, ?_, trivial⟩
  ·skip
   refine y_buildN (k := 15) (js := []) 3 hT rfl rfl rfl rfl rfl rfl rfl rfl rfl rfl rfl rfl (ep_cons (ev_str (str_lit rfl)) rfl rfl rfl (ep_cons (ev_str (str_lit rfl)) rfl rfl rfl (ep_cons (ev_str (str_lit rfl)) rfl rfl rfl (ep_cons (ev_str (str_lit rfl)) rfl rfl rfl (ep_cons (ev_str (str_lit rfl)) rfl rfl rfl ep_nil))))) (ow_cons' (ow_dv rfl) (ow_cons' (ow_dv rfl) (ow_cons' (ow_dv rfl) (ow_cons' (ow_dv rfl) (ow_cons' (ow_dv rfl) ow_nil rfl) rfl) rfl) rfl) rfl) (by decide) (by decide) rfl rfl rfl rfl rfl ?_
   simp only [killT, killB, SV.kill, CV.kill, kk, Nat.reduceBEq]
   refine l_split 4 [6] (by kernel_rfl) ⟨?_, ?_, trivial⟩
   ·skip
    refine y_callB 16000 4 rfl rfl rfl rfl rfl Try.call84 (ok_spec_l1Str (code := code) (i := i9) (h := h9) (l := [ByteArray.mk #[], ByteArray.mk #[65], ByteArray.mk #[122, 122, 122, 122, 122, 122, 122, 122, 122], ByteArray.mk #[122], ByteArray.mk #[97]]) (by omega) (by omega) (by exact Nat.succ_pos _)) (ev_tmp rfl) rfl ac_arg rfl (fun _ => rfl) (ad_cons (ev_tmp rfl) (ag_one (ac_key' rfl rfl)) rfl ad_nil) rfl (fun _ => rfl) (fun _ => rfl) rfl (fun zz hz16 => ?_)
    obtain ⟨e16, i16, h16⟩ := zz
    replace hz16 : e16 ∈ ([ByteArray.mk #[], ByteArray.mk #[65], ByteArray.mk #[122, 122, 122, 122, 122, 122, 122, 122, 122], ByteArray.mk #[122], ByteArray.mk #[97]]) ∧ 0 ≤ i16 := hz16
    have hsz := size_of 9 (by decide +kernel) hz16.1
    refine l_split 6 [] (by kernel_rfl) ⟨?_, trivial⟩
    refine y_buildN (k := 18) (js := []) 6 hT rfl rfl rfl rfl rfl rfl rfl rfl rfl rfl rfl rfl (ep_cons (ev_int (inR_lit rfl)) rfl rfl rfl (ep_cons (ev_int (inR_lit rfl)) rfl rfl rfl (ep_cons (ev_int (inR_lit rfl)) rfl rfl rfl (ep_cons (ev_int (inR_lit rfl)) rfl rfl rfl ep_nil)))) (ow_cons' (ow_dv rfl) (ow_cons' (ow_dv rfl) (ow_cons' (ow_dv rfl) (ow_cons' (ow_dv rfl) ow_nil rfl) rfl) rfl) rfl) (by decide) (by decide) rfl rfl rfl rfl rfl ?_
    simp only [killT, killB, SV.kill, CV.kill, kk, Nat.reduceBEq]
    refine l_split 7 [] (by kernel_rfl) ⟨?_, trivial⟩
    refine y_callB 19000 7 rfl rfl rfl rfl rfl Try.call85 (ok_spec_l1Int (code := code) (i := i16) (h := h16) (l := [0, -1, 1000000000, 1000000001]) (by omega) (by omega) (by exact Nat.succ_pos _)) (ev_tmp rfl) rfl ac_arg rfl (fun _ => rfl) (ad_cons (ev_tmp rfl) (ag_one (ac_key' rfl rfl)) rfl ad_nil) rfl (fun _ => rfl) (fun _ => rfl) rfl (fun zz hz19 => ?_)
    obtain ⟨e19, i19, h19⟩ := zz
    replace hz19 : e19 ∈ ([0, -1, 1000000000, 1000000001]) ∧ 0 ≤ i19 := hz19
    refine l_take 8 rfl (by kernel_rfl) rfl rfl (pu_build hT hB rfl rfl rfl (bp_cons (ev_tmp rfl) rfl rfl rfl rfl rfl (bp_cons (ev_tmp rfl) rfl rfl rfl rfl rfl bp_nil))) rfl rfl rfl rfl rfl ?_
    refine l_split 9 [] (by kernel_rfl) ⟨?_, trivial⟩
    refine y_buildN (k := 21) (js := []) 9 hT rfl rfl rfl rfl rfl rfl rfl rfl rfl rfl rfl rfl (ep_cons (ev_tmp rfl) rfl rfl rfl ep_nil) (ow_cons' (ow_dv rfl) (ow_cons' (ow_dv rfl) ow_nil rfl) rfl) (by decide) (by decide) rfl rfl rfl rfl rfl ?_
    simp only [killT, killB, SV.kill, CV.kill, kk, Nat.reduceBEq]
    refine l_chain [10, 11, 12] rfl rfl (by kernel_rfl) ?_
    refine o_appK (k := 9001) (j := 21) (cs := (e7 ++ [(e16, e19)]).flatMap eField) (n := (e7 ++ [(e16, e19)]).length) hT rfl rfl rfl rfl rfl rfl rfl (ev_tmp rfl) rfl rfl rfl (ev_tmp rfl) rfl rfl (by decide) (by have := rec_len hz7.1; dsimp only [kcOf, KC.old, fieldsD, listD]; omega) (by have := rec_len hz7.1; dsimp only [kcOf, KC.old, fieldsD, listD]; omega) (by rw [List.length_append]; rfl) (by rw [List.flatMap_append]; rfl) ?_
    simp only [killT, killB, SV.kill, CV.kill, kk, Nat.reduceBEq]
    iterate 2 refine z ?_
    refine ops_nil ?_
    iterate 6 refine z ?_
    refine ok_weak (σ' := ⟨[(2, .box 2 0), (0, .abox 0)], [(2, 40, [(.key 9001)]), (0, 102, [(.arg 900001 (bytesD (code))), (.dv [] (.int .i64 (i19))), (.dv [] (.int .i64 (h19)))])], [(9001, some (kcOf false (.sl 91 2 ((e7 ++ [(e16, e19)]).length) ((e7 ++ [(e16, e19)]).flatMap eField))))]⟩) (weak_sub ⟨rfl, rfl, trivial⟩ ⟨rfl, rfl, trivial⟩ ⟨rfl, trivial⟩ rfl) ?_
    refine z ?_
    refine fin1 (res_cell hT rfl rfl rfl rfl) ⟨(((e7 ++ [(e16, e19)])), i19, h19), ?_, rfl, rfl, rfl, rfl⟩
    try dsimp only
    exact ⟨by have := rec_app_w e7 (e16, e19); dsimp only at this; omega, by omega⟩
   ·skip
    refine y_buildN (k := 18) (js := []) 6 hT rfl rfl rfl rfl rfl rfl rfl rfl rfl rfl rfl rfl (ep_cons (ev_int (inR_lit rfl)) rfl rfl rfl (ep_cons (ev_int (inR_lit rfl)) rfl rfl rfl (ep_cons (ev_int (inR_lit rfl)) rfl rfl rfl (ep_cons (ev_int (inR_lit rfl)) rfl rfl rfl ep_nil)))) (ow_cons' (ow_dv rfl) (ow_cons' (ow_dv rfl) (ow_cons' (ow_dv rfl) (ow_cons' (ow_dv rfl) ow_nil rfl) rfl) rfl) rfl) (by decide) (by decide) rfl rfl rfl rfl rfl ?_
    simp only [killT, killB, SV.kill, CV.kill, kk, Nat.reduceBEq]
    refine l_split 4 [] (by kernel_rfl) ⟨?_, trivial⟩
    refine y_callB 16000 4 rfl rfl rfl rfl rfl Try.call84 (ok_spec_l1Str (code := code) (i := i9) (h := h9) (l := [ByteArray.mk #[], ByteArray.mk #[65], ByteArray.mk #[122, 122, 122, 122, 122, 122, 122, 122, 122], ByteArray.mk #[122], ByteArray.mk #[97]]) (by omega) (by omega) (by exact Nat.succ_pos _)) (ev_tmp rfl) rfl ac_arg rfl (fun _ => rfl) (ad_cons (ev_tmp rfl) (ag_one (ac_key' rfl rfl)) rfl ad_nil) rfl (fun _ => rfl) (fun _ => rfl) rfl (fun zz hz16 => ?_)
    obtain ⟨e16, i16, h16⟩ := zz
    replace hz16 : e16 ∈ ([ByteArray.mk #[], ByteArray.mk #[65], ByteArray.mk #[122, 122, 122, 122, 122, 122, 122, 122, 122], ByteArray.mk #[122], ByteArray.mk #[97]]) ∧ 0 ≤ i16 := hz16
    have hsz := size_of 9 (by decide +kernel) hz16.1
    refine l_split 7 [] (by kernel_rfl) ⟨?_, trivial⟩
    refine y_callB 19000 7 rfl rfl rfl rfl rfl Try.call85 (ok_spec_l1Int (code := code) (i := i16) (h := h16) (l := [0, -1, 1000000000, 1000000001]) (by omega) (by omega) (by exact Nat.succ_pos _)) (ev_tmp rfl) rfl ac_arg rfl (fun _ => rfl) (ad_cons (ev_tmp rfl) (ag_one (ac_key' rfl rfl)) rfl ad_nil) rfl (fun _ => rfl) (fun _ => rfl) rfl (fun zz hz19 => ?_)
    obtain ⟨e19, i19, h19⟩ := zz
    replace hz19 : e19 ∈ ([0, -1, 1000000000, 1000000001]) ∧ 0 ≤ i19 := hz19
    refine l_take 8 rfl (by kernel_rfl) rfl rfl (pu_build hT hB rfl rfl rfl (bp_cons (ev_tmp rfl) rfl rfl rfl rfl rfl (bp_cons (ev_tmp rfl) rfl rfl rfl rfl rfl bp_nil))) rfl rfl rfl rfl rfl ?_
    refine l_split 9 [] (by kernel_rfl) ⟨?_, trivial⟩
    refine y_buildN (k := 21) (js := []) 9 hT rfl rfl rfl rfl rfl rfl rfl rfl rfl rfl rfl rfl (ep_cons (ev_tmp rfl) rfl rfl rfl ep_nil) (ow_cons' (ow_dv rfl) (ow_cons' (ow_dv rfl) ow_nil rfl) rfl) (by decide) (by decide) rfl rfl rfl rfl rfl ?_
    simp only [killT, killB, SV.kill, CV.kill, kk, Nat.reduceBEq]
    refine l_chain [10, 11, 12] rfl rfl (by kernel_rfl) ?_
    refine o_appK (k := 9001) (j := 21) (cs := (e7 ++ [(e16, e19)]).flatMap eField) (n := (e7 ++ [(e16, e19)]).length) hT rfl rfl rfl rfl rfl rfl rfl (ev_tmp rfl) rfl rfl rfl (ev_tmp rfl) rfl rfl (by decide) (by have := rec_len hz7.1; dsimp only [kcOf, KC.old, fieldsD, listD]; omega) (by have := rec_len hz7.1; dsimp only [kcOf, KC.old, fieldsD, listD]; omega) (by rw [List.length_append]; rfl) (by rw [List.flatMap_append]; rfl) ?_
    simp only [killT, killB, SV.kill, CV.kill, kk, Nat.reduceBEq]
    iterate 2 refine z ?_
    refine ops_nil ?_
    iterate 6 refine z ?_
    refine ok_weak (σ' := ⟨[(2, .box 2 0), (0, .abox 0)], [(2, 40, [(.key 9001)]), (0, 102, [(.arg 900001 (bytesD (code))), (.dv [] (.int .i64 (i19))), (.dv [] (.int .i64 (h19)))])], [(9001, some (kcOf false (.sl 91 2 ((e7 ++ [(e16, e19)]).length) ((e7 ++ [(e16, e19)]).flatMap eField))))]⟩) (weak_sub ⟨rfl, rfl, trivial⟩ ⟨rfl, rfl, trivial⟩ ⟨rfl, trivial⟩ rfl) ?_
    refine z ?_
    refine fin1 (res_cell hT rfl rfl rfl rfl) ⟨(((e7 ++ [(e16, e19)])), i19, h19), ?_, rfl, rfl, rfl, rfl⟩
    try dsimp only
    exact ⟨by have := rec_app_w e7 (e16, e19); dsimp only at this; omega, by omega⟩
  ·skip
   refine y_buildN (k := 18) (js := []) 6 hT rfl rfl rfl rfl rfl rfl rfl rfl rfl rfl rfl rfl (ep_cons (ev_int (inR_lit rfl)) rfl rfl rfl (ep_cons (ev_int (inR_lit rfl)) rfl rfl rfl (ep_cons (ev_int (inR_lit rfl)) rfl rfl rfl (ep_cons (ev_int (inR_lit rfl)) rfl rfl rfl ep_nil)))) (ow_cons' (ow_dv rfl) (ow_cons' (ow_dv rfl) (ow_cons' (ow_dv rfl) (ow_cons' (ow_dv rfl) ow_nil rfl) rfl) rfl) rfl) (by decide) (by decide) rfl rfl rfl rfl rfl ?_
   simp only [killT, killB, SV.kill, CV.kill, kk, Nat.reduceBEq]
   refine l_split 3 [] (by kernel_rfl) ⟨?_, trivial⟩
   refine y_buildN (k := 15) (js := []) 3 hT rfl rfl rfl rfl rfl rfl rfl rfl rfl rfl rfl rfl (ep_cons (ev_str (str_lit rfl)) rfl rfl rfl (ep_cons (ev_str (str_lit rfl)) rfl rfl rfl (ep_cons (ev_str (str_lit rfl)) rfl rfl rfl (ep_cons (ev_str (str_lit rfl)) rfl rfl rfl (ep_cons (ev_str (str_lit rfl)) rfl rfl rfl ep_nil))))) (ow_cons' (ow_dv rfl) (ow_cons' (ow_dv rfl) (ow_cons' (ow_dv rfl) (ow_cons' (ow_dv rfl) (ow_cons' (ow_dv rfl) ow_nil rfl) rfl) rfl) rfl) rfl) (by decide) (by decide) rfl rfl rfl rfl rfl ?_
   simp only [killT, killB, SV.kill, CV.kill, kk, Nat.reduceBEq]
   refine l_split 4 [] (by kernel_rfl) ⟨?_, trivial⟩
   refine y_callB 16000 4 rfl rfl rfl rfl rfl Try.call84 (ok_spec_l1Str (code := code) (i := i9) (h := h9) (l := [ByteArray.mk #[], ByteArray.mk #[65], ByteArray.mk #[122, 122, 122, 122, 122, 122, 122, 122, 122], ByteArray.mk #[122], ByteArray.mk #[97]]) (by omega) (by omega) (by exact Nat.succ_pos _)) (ev_tmp rfl) rfl ac_arg rfl (fun _ => rfl) (ad_cons (ev_tmp rfl) (ag_one (ac_key' rfl rfl)) rfl ad_nil) rfl (fun _ => rfl) (fun _ => rfl) rfl (fun zz hz16 => ?_)
   obtain ⟨e16, i16, h16⟩ := zz
   replace hz16 : e16 ∈ ([ByteArray.mk #[], ByteArray.mk #[65], ByteArray.mk #[122, 122, 122, 122, 122, 122, 122, 122, 122], ByteArray.mk #[122], ByteArray.mk #[97]]) ∧ 0 ≤ i16 := hz16
   have hsz := size_of 9 (by decide +kernel) hz16.1
   refine l_split 7 [] (by kernel_rfl) ⟨?_, trivial⟩
   refine y_callB 19000 7 rfl rfl rfl rfl rfl Try.call85 (ok_spec_l1Int (code := code) (i := i16) (h := h16) (l := [0, -1, 1000000000, 1000000001]) (by omega) (by omega) (by exact Nat.succ_pos _)) (ev_tmp rfl) rfl ac_arg rfl (fun _ => rfl) (ad_cons (ev_tmp rfl) (ag_one (ac_key' rfl rfl)) rfl ad_nil) rfl (fun _ => rfl) (fun _ => rfl) rfl (fun zz hz19 => ?_)
   obtain ⟨e19, i19, h19⟩ := zz
   replace hz19 : e19 ∈ ([0, -1, 1000000000, 1000000001]) ∧ 0 ≤ i19 := hz19
   refine l_take 8 rfl (by kernel_rfl) rfl rfl (pu_build hT hB rfl rfl rfl (bp_cons (ev_tmp rfl) rfl rfl rfl rfl rfl (bp_cons (ev_tmp rfl) rfl rfl rfl rfl rfl bp_nil))) rfl rfl rfl rfl rfl ?_
   refine l_split 9 [] (by kernel_rfl) ⟨?_, trivial⟩
   refine y_buildN (k := 21) (js := []) 9 hT rfl rfl rfl rfl rfl rfl rfl rfl rfl rfl rfl rfl (ep_cons (ev_tmp rfl) rfl rfl rfl ep_nil) (ow_cons' (ow_dv rfl) (ow_cons' (ow_dv rfl) ow_nil rfl) rfl) (by decide) (by decide) rfl rfl rfl rfl rfl ?_
   simp only [killT, killB, SV.kill, CV.kill, kk, Nat.reduceBEq]
   refine l_chain [10, 11, 12] rfl rfl (by kernel_rfl) ?_
   refine o_appK (k := 9001) (j := 21) (cs := (e7 ++ [(e16, e19)]).flatMap eField) (n := (e7 ++ [(e16, e19)]).length) hT rfl rfl rfl rfl rfl rfl rfl (ev_tmp rfl) rfl rfl rfl (ev_tmp rfl) rfl rfl (by decide) (by have := rec_len hz7.1; dsimp only [kcOf, KC.old, fieldsD, listD]; omega) (by have := rec_len hz7.1; dsimp only [kcOf, KC.old, fieldsD, listD]; omega) (by rw [List.length_append]; rfl) (by rw [List.flatMap_append]; rfl) ?_
   simp only [killT, killB, SV.kill, CV.kill, kk, Nat.reduceBEq]
   iterate 2 refine z ?_
   refine ops_nil ?_
   iterate 6 refine z ?_
   refine ok_weak (σ' := ⟨[(2, .box 2 0), (0, .abox 0)], [(2, 40, [(.key 9001)]), (0, 102, [(.arg 900001 (bytesD (code))), (.dv [] (.int .i64 (i19))), (.dv [] (.int .i64 (h19)))])], [(9001, some (kcOf false (.sl 91 2 ((e7 ++ [(e16, e19)]).length) ((e7 ++ [(e16, e19)]).flatMap eField))))]⟩) (weak_sub ⟨rfl, rfl, trivial⟩ ⟨rfl, rfl, trivial⟩ ⟨rfl, trivial⟩ rfl) ?_
   refine z ?_
   refine fin1 (res_cell hT rfl rfl rfl rfl) ⟨(((e7 ++ [(e16, e19)])), i19, h19), ?_, rfl, rfl, rfl, rfl⟩
   try dsimp only
   exact ⟨by have := rec_app_w e7 (e16, e19); dsimp only at this; omega, by omega⟩
 ·skip
  have d1 := of_decide_eq_false c1
  iterate 4 refine z ?_
  refine yQ rfl (fun c2 => ?_) fun c2 => ?_
  ·skip
   have d2 := of_decide_eq_true c2
   refine z ?_
   refine o_buildN (k := 26) (js := []) hT rfl rfl rfl rfl rfl rfl rfl rfl rfl rfl rfl (ep_cons (ev_str (str_lit rfl)) rfl rfl rfl (ep_cons (ev_str (str_lit rfl)) rfl rfl rfl (ep_cons (ev_str (str_lit rfl)) rfl rfl rfl (ep_cons (ev_str (str_lit rfl)) rfl rfl rfl (ep_cons (ev_str (str_lit rfl)) rfl rfl rfl (ep_cons (ev_str (str_lit rfl)) rfl rfl rfl ep_nil)))))) (ow_cons' (ow_dv rfl) (ow_cons' (ow_dv rfl) (ow_cons' (ow_dv rfl) (ow_cons' (ow_dv rfl) (ow_cons' (ow_dv rfl) (ow_cons' (ow_dv rfl) ow_nil rfl) rfl) rfl) rfl) rfl) rfl) (by decide) (by decide) rfl rfl ?_
   simp only [killT, killB, SV.kill, CV.kill, kk, Nat.reduceBEq]
   refine yO rfl rfl (pu_lenKn (n := (6)) hT rfl rfl (ev_tmp rfl) rfl rfl) rfl ?_
   iterate 3 refine z ?_
   refine ok_weak (weak_view (d := 26) (dd := strsD ([ByteArray.mk #[100], ByteArray.mk #[101], ByteArray.mk #[102], ByteArray.mk #[103], ByteArray.mk #[104], ByteArray.mk #[105]])) rfl rfl (.refl _)) ?_
   refine ok_loop (ι := Nat × RecT × Int × Int) (fun zz => ⟨[(0, .abox 0), (2, .box 2 0), (3, .box 3 0), (26, .one (.dv [26] (strsD ([ByteArray.mk #[100], ByteArray.mk #[101], ByteArray.mk #[102], ByteArray.mk #[103], ByteArray.mk #[104], ByteArray.mk #[105]])))), (27, .one (.dv [] (.int .i64 (((6) : Int))))), (28, .one (.dv [] (.int .i64 ((zz.1 : Int)))))], [(0, 102, [(.arg 900001 (bytesD (code))), (.dv [] (.int .i64 (zz.2.2.1))), (.dv [] (.int .i64 (zz.2.2.2)))]), (2, 40, [.nil]), (3, 40, [(.key 9001)])], [(9001, some (kcOf false (.sl 91 2 (zz.2.1.length) (zz.2.1.flatMap eField)))), (26, some (kcOf false (.sl 9 1 (6) ([.str (ByteArray.mk #[100]), .str (ByteArray.mk #[101]), .str (ByteArray.mk #[102]), .str (ByteArray.mk #[103]), .str (ByteArray.mk #[104]), .str (ByteArray.mk #[105])]))))]⟩) (fun zz => isRec zz.2.1 = true ∧ 0 ≤ zz.2.2.1 ∧ zz.1 ≤ 6) (fun zz => 6 - zz.1) ((0, e7, i9, h9)) ?_ (weak_sub ⟨rfl, rfl, rfl, rfl, rfl, rfl, trivial⟩ ⟨rfl, rfl, rfl, trivial⟩ ⟨rfl, rfl, trivial⟩ rfl) (fun zz hx => ?_)
   ·exact ⟨hz7.1, by dsimp only; omega, Nat.zero_le _⟩
   obtain ⟨k, r, ci, ch⟩ := zz
   replace hx : isRec r = true ∧ 0 ≤ ci ∧ k ≤ 6 := hx
   obtain ⟨hr, hci, hk6⟩ := hx
   show Ok _ _ _ _ _ (⟨[(0, .abox 0), (2, .box 2 0), (3, .box 3 0), (26, .one (.dv [26] (strsD ([ByteArray.mk #[100], ByteArray.mk #[101], ByteArray.mk #[102], ByteArray.mk #[103], ByteArray.mk #[104], ByteArray.mk #[105]])))), (27, .one (.dv [] (.int .i64 (((6) : Int))))), (28, .one (.dv [] (.int .i64 ((k : Int)))))], [(0, 102, [(.arg 900001 (bytesD (code))), (.dv [] (.int .i64 (ci))), (.dv [] (.int .i64 (ch)))]), (2, 40, [.nil]), (3, 40, [(.key 9001)])], [(9001, some (kcOf false (.sl 91 2 (r.length) (r.flatMap eField)))), (26, some (kcOf false (.sl 9 1 (6) ([.str (ByteArray.mk #[100]), .str (ByteArray.mk #[101]), .str (ByteArray.mk #[102]), .str (ByteArray.mk #[103]), .str (ByteArray.mk #[104]), .str (ByteArray.mk #[105])]))))]⟩ : St)
   iterate 3 refine z ?_
   refine ok_seq ?_
   refine yQ rfl (fun c3 => ?_) fun c3 => ?_
   ·skip
    have d3 := of_decide_eq_true c3
    iterate 9 refine z ?_
    refine ok_region ?_
    iterate 2 refine z ?_
    refine o_callK 500 rfl rfl rfl Try.call98 (ok_spec_SetField (r := r) (n := (([ByteArray.mk #[100], ByteArray.mk #[101], ByteArray.mk #[102], ByteArray.mk #[103], ByteArray.mk #[104], ByteArray.mk #[105]]).getD (k : Int).toNat default)) (v := 1) (by have := rec_len hr; omega)) (as_cons (ev_tmp rfl) (ag_agg (ag_cons (ac_key' rfl rfl) ag_nil)) (as_cons (ev_tmp rfl) (ag_one ac_dv) (as_cons (ev_int (inR_lit rfl)) (ag_one ac_dv) as_nil))) rfl rfl rfl ?_
    iterate 4 refine z ?_
    refine ops_nil ?_
    iterate 2 refine z ?_
    refine ok_region ?_
    iterate 3 refine z ?_
    refine ⟨(k + 1, (setF r (([ByteArray.mk #[100], ByteArray.mk #[101], ByteArray.mk #[102], ByteArray.mk #[103], ByteArray.mk #[104], ByteArray.mk #[105]]).getD (k : Int).toNat default) 1).1, ci, ch), ?_, ?_, weak_then (weak_swapB (b := 3) (i := 0) (k := 9501) (k' := 9001) rfl rfl rfl rfl (by simp) rfl rfl) (weak_sub ⟨rfl, rfl, rfl, rfl, rfl, rfl, trivial⟩ ⟨rfl, rfl, rfl, trivial⟩ ⟨rfl, rfl, trivial⟩ rfl)⟩
    ·exact ⟨setF_rec hr, hci, by dsimp only; omega⟩
    ·dsimp only; omega
   ·skip
    have d3 := of_decide_eq_false c3
    iterate 10 refine z ?_
    refine ok_weak (σ' := ⟨[(2, .box 2 0), (0, .abox 0)], [(2, 40, [(.key 9001)]), (0, 102, [(.arg 900001 (bytesD (code))), (.dv [] (.int .i64 (ci))), (.dv [] (.int .i64 (ch)))])], [(9001, some (kcOf false (.sl 91 2 (r.length) (r.flatMap eField))))]⟩) (weak_sub ⟨rfl, rfl, trivial⟩ ⟨rfl, rfl, trivial⟩ ⟨rfl, trivial⟩ rfl) ?_
    refine z ?_
    refine fin1 (res_cell hT rfl rfl rfl rfl) ⟨((r), ci, ch), ?_, rfl, rfl, rfl, rfl⟩
    try dsimp only
    exact ⟨by have := rec_wt hr; omega, by omega⟩
  ·skip
   have d2 := of_decide_eq_false c2
   iterate 7 refine z ?_
   refine ok_weak (σ' := ⟨[(2, .box 2 0), (0, .abox 0)], [(2, 40, [(.key 9001)]), (0, 102, [(.arg 900001 (bytesD (code))), (.dv [] (.int .i64 (i9))), (.dv [] (.int .i64 (h9)))])], [(9001, some (kcOf false (fieldsD (e7))))]⟩) (weak_sub ⟨rfl, rfl, trivial⟩ ⟨rfl, rfl, trivial⟩ ⟨rfl, trivial⟩ rfl) ?_
   refine z ?_
   refine fin1 (res_cell hT rfl rfl rfl rfl) ⟨((e7), i9, h9), ?_, rfl, rfl, rfl, rfl⟩
   try dsimp only
   exact ⟨by omega, by omega⟩
theorem ok_spec_l6Store {code : List UInt8} {i h : Int} {nm : Str} (hc : code.length ≤ 1048576) (hi : 0 ≤ i) (hn : isName nm = true) : BFn Try.prog 82 [.one (.dv [] (.str (nm)))] 102 (bytesD (code)) [.dv [] (.int .i64 (i)), .dv [] (.int .i64 (h))] (fun zz : StoreT × Int × Int => isSto zz.1 = true ∧ zz.1.1 = nm ∧ autoI zz.1 ∧ zz.1.2.2 ≤ 256 ∧ 0 ≤ zz.2.1) (fun zz : StoreT × Int × Int => .agg [(.dv [] (.str (zz.1.1))), (.key 9001), (.dv [] (.int .i64 (zz.1.2.2)))]) (fun zz : StoreT × Int × Int => [(9001, some (kcOf false (itemsD (zz.1.2.1))))]) (fun zz : StoreT × Int × Int => [.dv [] (.int .i64 (zz.2.1)), .dv [] (.int .i64 (zz.2.2))]) := by
 refine ⟨fn_introS Try.func82 rfl Try.ntmps82 Try.results82 rfl (fun C => ?_)⟩
 refine ok_fact (x := .tmp 1) (ev_tmp rfl) fun f1 => ?_
 iterate 5 refine z ?_
 refine yO rfl rfl (pu_build hT hB rfl rfl rfl (bp_cons (ev_tmp rfl) rfl rfl rfl rfl rfl bp_nil)) rfl ?_
 iterate 3 refine z ?_
 refine ok_seq ?_
 refine ok_seq ?_
 refine ok_weak (weak_nilB 9001 (b := 5) (i := 1) (e := 42) (sz := 4) rfl rfl rfl rfl rfl) ?_
 simp only [killT, killB, SV.kill, CV.kill, kk, Nat.reduceBEq]
 refine ok_region ?_
 refine yO rfl rfl (pu_move (.inl rfl) (ev_abox (ev_tmp rfl))) rfl ?_
 refine o_buildN (k := 10) (js := []) hT rfl rfl rfl rfl rfl rfl rfl rfl rfl rfl rfl (ep_cons (ev_int (inR_lit rfl)) rfl rfl rfl (ep_cons (ev_int (inR_lit rfl)) rfl rfl rfl (ep_cons (ev_int (inR_lit rfl)) rfl rfl rfl (ep_cons (ev_int (inR_lit rfl)) rfl rfl rfl ep_nil)))) (ow_cons' (ow_dv rfl) (ow_cons' (ow_dv rfl) (ow_cons' (ow_dv rfl) (ow_cons' (ow_dv rfl) ow_nil rfl) rfl) rfl) rfl) (by decide) (by decide) rfl rfl ?_
 simp only [killT, killB, SV.kill, CV.kill, kk, Nat.reduceBEq]
 refine o_callB 11000 rfl rfl rfl Try.call85 (ok_spec_l1Int (code := code) (i := i) (h := h) (l := [0, 2, 4, 6]) (by omega) (by omega) (by exact Nat.succ_pos _)) (ev_tmp rfl) rfl ac_arg rfl (fun _ => rfl) (ad_cons (ev_tmp rfl) (ag_one (ac_key' rfl rfl)) rfl ad_nil) rfl (fun _ => rfl) (fun _ => rfl) (fun zz hz11 => ?_)
 obtain ⟨e11, i11, h11⟩ := zz
 replace hz11 : e11 ∈ ([0, 2, 4, 6]) ∧ 0 ≤ i11 := hz11
 have hnr := rng_of 0 6 (by decide +kernel) hz11.1
 iterate 3 refine z ?_
 refine ok_loop (ι := Int × StoreT × Int × Int) (fun zz => ⟨[(0, .abox 0), (4, .box 4 0), (5, .box 5 0), (6, .one (.dv [] (.int .i64 (zz.1))))], [(0, 102, [(.arg 900001 (bytesD (code))), (.dv [] (.int .i64 (zz.2.2.1))), (.dv [] (.int .i64 (zz.2.2.2)))]), (4, 26, [(.dv [] (.str (ByteArray.empty))), .nil, (.dv [] (.int .i64 (0)))]), (5, 26, [(.dv [] (.str (zz.2.1.1))), (.key 9001), (.dv [] (.int .i64 (zz.2.1.2.2)))])], [(9001, some (kcOf false (.sl 42 4 (zz.2.1.2.1.length) (zz.2.1.2.1.flatMap eItem))))]⟩) (fun zz => isSto zz.2.1 = true ∧ zz.2.1.1 = nm ∧ autoI zz.2.1 ∧ zz.2.1.2.2 ≤ 256 ∧ 0 ≤ zz.2.2.1 ∧ zz.1 ≤ 6) (fun zz => zz.1.toNat) ((e11, (nm, [], 0), i11, h11)) ?_ (weak_sub ⟨rfl, rfl, rfl, rfl, trivial⟩ ⟨rfl, rfl, rfl, trivial⟩ ⟨rfl, trivial⟩ rfl) (fun zz hx => ?_)
 ·refine ⟨?_, rfl, fun y hy => (by cases hy), by dsimp only; omega, by dsimp only; omega, by dsimp only; omega⟩
  unfold isSto; simp [hn]
 obtain ⟨n, s, ci, ch⟩ := zz
 replace hx : isSto s = true ∧ s.1 = nm ∧ autoI s ∧ s.2.2 ≤ 256 ∧ 0 ≤ ci ∧ n ≤ 6 := hx
 obtain ⟨hs, hnm, ha, ha2, hci, hn6⟩ := hx
 show Ok _ _ _ _ _ (⟨[(0, .abox 0), (4, .box 4 0), (5, .box 5 0), (6, .one (.dv [] (.int .i64 (n))))], [(0, 102, [(.arg 900001 (bytesD (code))), (.dv [] (.int .i64 (ci))), (.dv [] (.int .i64 (ch)))]), (4, 26, [(.dv [] (.str (ByteArray.empty))), .nil, (.dv [] (.int .i64 (0)))]), (5, 26, [(.dv [] (.str (s.1))), (.key 9001), (.dv [] (.int .i64 (s.2.2)))])], [(9001, some (kcOf false (.sl 42 4 (s.2.1.length) (s.2.1.flatMap eItem))))]⟩ : St)
 iterate 5 refine z ?_
 refine yQ rfl (fun c1 => ?_) fun c1 => ?_
 ·skip
  have d1 := of_decide_eq_true c1
  iterate 4 refine z ?_
  refine ok_regionL [0] [0, 1, 2, 3, 4, 5, 6] (oB := [4, 5]) (oK := [9001]) (by kernel_rfl) rfl rfl ?_
  refine l_take 0 rfl (by kernel_rfl) rfl rfl (pu_loadBoxA hT rfl rfl (ev_tmp rfl) rfl rfl) rfl rfl rfl rfl rfl ?_
  refine l_take 1 rfl (by kernel_rfl) rfl rfl (pu_move (.inl rfl) (ev_abox (ev_tmp rfl))) rfl rfl rfl rfl rfl ?_
  refine l_take 3 rfl (by kernel_rfl) rfl rfl (pu_move (.inl rfl) (ev_abox (ev_tmp rfl))) rfl rfl rfl rfl rfl ?_
  refine l_split 2 [] (by kernel_rfl) ⟨?_, trivial⟩
  refine y_callB 19000 2 rfl rfl rfl rfl rfl Try.call88 (ok_spec_l4Small (code := code) (i := ci) (h := ch) (by omega) (by omega)) (ev_tmp rfl) rfl ac_arg rfl (fun _ => rfl) ad_nil rfl (fun _ => rfl) (fun _ => rfl) rfl (fun zz hz19 => ?_)
  obtain ⟨e19, i19, h19⟩ := zz
  replace hz19 : isKey e19 = true ∧ smallK e19 ∧ 0 ≤ i19 := hz19
  refine l_split 4 [] (by kernel_rfl) ⟨?_, trivial⟩
  refine y_callB 21000 4 rfl rfl rfl rfl rfl Try.call97 (ok_spec_l5Record (code := code) (i := i19) (h := h19) (by omega) (by omega)) (ev_tmp rfl) rfl ac_arg rfl (fun _ => rfl) ad_nil rfl (fun _ => rfl) (fun _ => rfl) rfl (fun zz hz21 => ?_)
  obtain ⟨e21, i21, h21⟩ := zz
  replace hz21 : isRec e21 = true ∧ 0 ≤ i21 := hz21
  have hrl := rec_len hz21.1
  refine l_split 5 [] (by kernel_rfl) ⟨?_, trivial⟩
  refine y_callK 500 5 rfl rfl rfl rfl Try.call35 (ok_spec_PutItem (x := s) (k := e19) (r := e21) (by have := sto_w2 hs; omega) (by omega)) (as_cons (ev_tmp rfl) (ag_agg (ag_cons ac_dv (ag_cons (ac_key' rfl rfl) (ag_cons ac_dv ag_nil)))) (as_cons (ev_tmp rfl) (ag_agg (ag_cons ac_dv (ag_cons ac_dv (ag_cons ac_dv ag_nil)))) (as_cons (ev_tmp rfl) (ag_agg (ag_cons (ac_key' rfl rfl) ag_nil)) as_nil))) rfl rfl rfl rfl rfl rfl ?_
  refine l_take 6 rfl (by kernel_rfl) rfl rfl (pu_move (.inl rfl) (ev_tmp rfl)) rfl rfl rfl rfl rfl ?_
  refine l_takeX 7 rfl (by kernel_rfl) rfl rfl rfl (pu_extractA rfl (ev_tmp rfl) rfl) rfl rfl ?_
  refine l_takeX 8 rfl (by kernel_rfl) rfl rfl rfl (pu_extract1 rfl (ev_tmp rfl) rfl) rfl rfl ?_
  refine l_chain [9] rfl rfl (by kernel_rfl) ?_
  refine z ?_
  refine ops_nil ?_
  iterate 2 refine z ?_
  refine ok_region ?_
  iterate 4 refine z ?_
  refine ⟨(n - 1, (putN s e19 e21).1, i21, h21), ?_, ?_, weak_then (weak_swapB (b := 5) (i := 1) (k := 9501) (k' := 9001) rfl rfl rfl rfl (by simp) rfl rfl) (weak_sub ⟨rfl, rfl, rfl, rfl, trivial⟩ ⟨rfl, rfl, rfl, trivial⟩ ⟨rfl, trivial⟩ rfl)⟩
  ·exact ⟨putN_sto hs, (putN_name _ _ _).trans hnm, autoI_put ha, auto_small ha2 hz19.2.1, by dsimp only; omega, by dsimp only; omega⟩
  ·dsimp only; omega
 ·skip
  have d1 := of_decide_eq_false c1
  iterate 7 refine z ?_
  refine yO rfl rfl (pu_move (.inl rfl) (ev_abox (ev_tmp rfl))) rfl ?_
  refine o_callB 26000 rfl rfl rfl Try.call87 (ok_spec_l1Once (code := code) (i := ci) (h := ch) (n := 8) (by omega) (by omega) ) (ev_tmp rfl) rfl ac_arg rfl (fun _ => rfl) (ad_cons (ev_int (inR_lit rfl)) (ag_one ac_dv) rfl ad_nil) rfl (fun _ => rfl) (fun _ => rfl) (fun zz hz26 => ?_)
  obtain ⟨e26, i26, h26⟩ := zz
  replace hz26 : 0 ≤ i26 := hz26
  refine z ?_
  refine yQ rfl (fun c2 => ?_) fun c2 => ?_
  ·skip
   refine ok_regionL [0] [0, 1, 2, 3, 4, 5, 6] (oB := [4, 5]) (oK := [9001]) (by kernel_rfl) rfl rfl ?_
   refine l_take 0 rfl (by kernel_rfl) rfl rfl (pu_loadBoxA hT rfl rfl (ev_tmp rfl) rfl rfl) rfl rfl rfl rfl rfl ?_
   refine l_take 1 rfl (by kernel_rfl) rfl rfl (pu_move (.inl rfl) (ev_abox (ev_tmp rfl))) rfl rfl rfl rfl rfl ?_
   refine l_take 3 rfl (by kernel_rfl) rfl rfl (pu_move (.inl rfl) (ev_abox (ev_tmp rfl))) rfl rfl rfl rfl rfl ?_
   refine l_split 2 [] (by kernel_rfl) ⟨?_, trivial⟩
   refine y_callB 30000 2 rfl rfl rfl rfl rfl Try.call101 (ok_spec_l4Key (code := code) (i := i26) (h := h26) (by omega) (by omega)) (ev_tmp rfl) rfl ac_arg rfl (fun _ => rfl) ad_nil rfl (fun _ => rfl) (fun _ => rfl) rfl (fun zz hz30 => ?_)
   obtain ⟨e30, i30, h30⟩ := zz
   replace hz30 : isKey e30 = true ∧ smallK e30 ∧ 0 ≤ i30 := hz30
   refine l_split 4 [] (by kernel_rfl) ⟨?_, trivial⟩
   refine y_callB 32000 4 rfl rfl rfl rfl rfl Try.call97 (ok_spec_l5Record (code := code) (i := i30) (h := h30) (by omega) (by omega)) (ev_tmp rfl) rfl ac_arg rfl (fun _ => rfl) ad_nil rfl (fun _ => rfl) (fun _ => rfl) rfl (fun zz hz32 => ?_)
   obtain ⟨e32, i32, h32⟩ := zz
   replace hz32 : isRec e32 = true ∧ 0 ≤ i32 := hz32
   have hrl := rec_len hz32.1
   refine l_split 5 [] (by kernel_rfl) ⟨?_, trivial⟩
   refine y_callK 600 5 rfl rfl rfl rfl Try.call35 (ok_spec_PutItem (x := s) (k := e30) (r := e32) (by have := sto_w2 hs; omega) (by omega)) (as_cons (ev_tmp rfl) (ag_agg (ag_cons ac_dv (ag_cons (ac_key' rfl rfl) (ag_cons ac_dv ag_nil)))) (as_cons (ev_tmp rfl) (ag_agg (ag_cons ac_dv (ag_cons ac_dv (ag_cons ac_dv ag_nil)))) (as_cons (ev_tmp rfl) (ag_agg (ag_cons (ac_key' rfl rfl) ag_nil)) as_nil))) rfl rfl rfl rfl rfl rfl ?_
   refine l_take 6 rfl (by kernel_rfl) rfl rfl (pu_move (.inl rfl) (ev_tmp rfl)) rfl rfl rfl rfl rfl ?_
   refine l_takeX 7 rfl (by kernel_rfl) rfl rfl rfl (pu_extractA rfl (ev_tmp rfl) rfl) rfl rfl ?_
   refine l_takeX 8 rfl (by kernel_rfl) rfl rfl rfl (pu_extract1 rfl (ev_tmp rfl) rfl) rfl rfl ?_
   refine l_chain [9] rfl rfl (by kernel_rfl) ?_
   iterate 6 refine z ?_
   refine ok_weak (weak_swapB (b := 4) (i := 1) (k := 9601) (k' := 9001) rfl rfl rfl rfl (by simp) rfl rfl) ?_
   try simp only [killT, killB, SV.kill, CV.kill, kk, Nat.reduceBEq]
   refine ok_weak (σ' := ⟨[(4, .box 4 0), (0, .abox 0)], [(4, 26, [(.dv [] (.str ((putN (s) (e30) (e32)).1.1))), (.key 9001), (.dv [] (.int .i64 ((putN (s) (e30) (e32)).1.2.2)))]), (0, 102, [(.arg 900001 (bytesD (code))), (.dv [] (.int .i64 (i32))), (.dv [] (.int .i64 (h32)))])], [(9001, some (kcOf false (itemsD ((putN (s) (e30) (e32)).1.2.1))))]⟩) (weak_sub ⟨rfl, rfl, trivial⟩ ⟨rfl, rfl, trivial⟩ ⟨rfl, trivial⟩ rfl) ?_
   refine z ?_
   refine fin1 (res_cell hT rfl rfl rfl rfl) ⟨((((putN (s) (e30) (e32)).1.1), (((putN (s) (e30) (e32)).1.2.1), ((putN (s) (e30) (e32)).1.2.2))), i32, h32), ?_, rfl, rfl, rfl, rfl⟩
   try dsimp only
   exact ⟨putN_sto hs, (putN_name _ _ _).trans hnm, autoI_put ha, auto_small ha2 hz30.2.1, by omega⟩
  ·skip
   iterate 6 refine z ?_
   refine ok_weak (σ' := ⟨[(4, .box 4 0), (0, .abox 0)], [(4, 26, [(.dv [] (.str (s.1))), (.key 9001), (.dv [] (.int .i64 (s.2.2)))]), (0, 102, [(.arg 900001 (bytesD (code))), (.dv [] (.int .i64 (i26))), (.dv [] (.int .i64 (h26)))])], [(9001, some (kcOf false (.sl 42 4 (s.2.1.length) (s.2.1.flatMap eItem))))]⟩) (weak_sub ⟨rfl, rfl, trivial⟩ ⟨rfl, rfl, trivial⟩ ⟨rfl, trivial⟩ rfl) ?_
   refine z ?_
   refine fin1 (res_cell hT rfl rfl rfl rfl) ⟨(((s.1), ((s.2.1), (s.2.2))), i26, h26), ?_, rfl, rfl, rfl, rfl⟩
   try dsimp only
   exact ⟨hs, hnm, ha, ha2, by omega⟩
theorem ok_spec_l6Any {code : List UInt8} {i h : Int} (hc : code.length ≤ 1048576) (hi : 0 ≤ i) : BFn Try.prog 46 [] 102 (bytesD (code)) [.dv [] (.int .i64 (i)), .dv [] (.int .i64 (h))] (fun zz : StoreT × Int × Int => wStore zz.1 ≤ 1500 ∧ 0 ≤ zz.2.1) (fun zz : StoreT × Int × Int => .agg [(.dv [] (.str (zz.1.1))), (.key 9001), (.dv [] (.int .i64 (zz.1.2.2)))]) (fun zz : StoreT × Int × Int => [(9001, some (kcOf false (itemsD (zz.1.2.1))))]) (fun zz : StoreT × Int × Int => [.dv [] (.int .i64 (zz.2.1)), .dv [] (.int .i64 (zz.2.2))]) := by
 refine ⟨fn_introS Try.func46 rfl Try.ntmps46 Try.results46 rfl (fun C => ?_)⟩
 iterate 4 refine z ?_
 refine yO rfl rfl (pu_move (.inl rfl) (ev_abox (ev_tmp rfl))) rfl ?_
 refine o_callB 0 rfl rfl rfl Try.call82 (ok_spec_l6Store (code := code) (i := i) (h := h) (nm := ByteArray.mk #[110, 111, 116, 101, 115]) (by omega) (by omega) (by decide +kernel)) (ev_tmp rfl) rfl ac_arg rfl (fun _ => rfl) (ad_cons (ev_str (str_lit rfl)) (ag_one ac_dv) rfl ad_nil) rfl (fun _ => rfl) (fun _ => rfl) (fun zz hz5 => ?_)
 obtain ⟨e5, i5, h5⟩ := zz
 replace hz5 : isSto e5 = true ∧ e5.1 = (ByteArray.mk #[110, 111, 116, 101, 115]) ∧ autoI e5 ∧ e5.2.2 ≤ 256 ∧ 0 ≤ i5 := hz5
 have hw5 := sto_w2 hz5.1
 have hls := (sto_srt hz5.1).2.2
 iterate 5 refine z ?_
 refine yO rfl rfl (pu_move (.inl rfl) (ev_abox (ev_tmp rfl))) rfl ?_
 refine o_callB 7000 rfl rfl rfl Try.call83 (ok_spec_l1Below (code := code) (i := i5) (h := h5) (n := 12) (by omega) (by omega) ) (ev_tmp rfl) rfl ac_arg rfl (fun _ => rfl) (ad_cons (ev_int (inR_lit rfl)) (ag_one ac_dv) rfl ad_nil) rfl (fun _ => rfl) (fun _ => rfl) (fun zz hz7 => ?_)
 obtain ⟨e7, i7, h7⟩ := zz
 replace hz7 : 0 ≤ e7 ∧ (0 < (12 : Int) → e7 < (12 : Int)) ∧ 0 ≤ i7 := hz7
 iterate 6 refine z ?_
 refine yQ rfl (fun c1 => ?_) fun c1 => ?_
 ·skip
  have d1 := of_decide_eq_true c1
  refine ok_region ?_
  refine yO rfl rfl (pu_move (.inl rfl) (ev_abox (ev_tmp rfl))) rfl ?_
  refine o_buildN (k := 11) (js := []) hT rfl rfl rfl rfl rfl rfl rfl rfl rfl rfl rfl (ep_cons (ev_str (str_lit rfl)) rfl rfl rfl (ep_cons (ev_str (str_lit rfl)) rfl rfl rfl (ep_cons (ev_str (str_lit rfl)) rfl rfl rfl ep_nil))) (ow_cons' (ow_dv rfl) (ow_cons' (ow_dv rfl) (ow_cons' (ow_dv rfl) ow_nil rfl) rfl) rfl) (by decide) (by decide) rfl rfl ?_
  simp only [killT, killB, SV.kill, CV.kill, kk, Nat.reduceBEq]
  refine o_callB 12000 rfl rfl rfl Try.call84 (ok_spec_l1Str (code := code) (i := i7) (h := h7) (l := [ByteArray.mk #[], ByteArray.mk #[81], ByteArray.mk #[97, 98, 99, 100, 101, 102, 103, 104, 105]]) (by omega) (by omega) (by exact Nat.succ_pos _)) (ev_tmp rfl) rfl ac_arg rfl (fun _ => rfl) (ad_cons (ev_tmp rfl) (ag_one (ac_key' rfl rfl)) rfl ad_nil) rfl (fun _ => rfl) (fun _ => rfl) (fun zz hz12 => ?_)
  obtain ⟨e12, i12, h12⟩ := zz
  replace hz12 : e12 ∈ ([ByteArray.mk #[], ByteArray.mk #[81], ByteArray.mk #[97, 98, 99, 100, 101, 102, 103, 104, 105]]) ∧ 0 ≤ i12 := hz12
  have hsz := size_of 9 (by decide +kernel) hz12.1
  iterate 2 refine z ?_
  refine ops_nil ?_
  iterate 6 refine z ?_
  refine ok_weak (σ' := ⟨[(2, .box 2 0), (0, .abox 0)], [(2, 26, [(.dv [] (.str (e12))), (.key 9001), (.dv [] (.int .i64 (e5.2.2)))]), (0, 102, [(.arg 900001 (bytesD (code))), (.dv [] (.int .i64 (i12))), (.dv [] (.int .i64 (h12)))])], [(9001, some (kcOf false (itemsD (e5.2.1))))]⟩) (weak_sub ⟨rfl, rfl, trivial⟩ ⟨rfl, rfl, trivial⟩ ⟨rfl, trivial⟩ rfl) ?_
  refine z ?_
  refine fin1 (res_cell hT rfl rfl rfl rfl) ⟨(((e12), ((e5.2.1), (e5.2.2))), i12, h12), ?_, rfl, rfl, rfl, rfl⟩
  try dsimp only
  exact ⟨by have h1 : wStore e5 = e5.1.size + (e5.2.1.length + wSum wItem e5.2.1) := rfl; have h2 : wStore (e12, e5.2.1, e5.2.2) = e12.size + (e5.2.1.length + wSum wItem e5.2.1) := rfl; omega, by omega⟩
 ·skip
  have d1 := of_decide_eq_false c1
  iterate 4 refine z ?_
  refine yQ rfl (fun c2 => ?_) fun c2 => ?_
  ·skip
   have d2 := of_decide_eq_true c2
   refine ok_region ?_
   refine yO rfl rfl (pu_move (.inl rfl) (ev_abox (ev_tmp rfl))) rfl ?_
   refine o_buildN (k := 17) (js := []) hT rfl rfl rfl rfl rfl rfl rfl rfl rfl rfl rfl (ep_cons (ev_int (inR_lit rfl)) rfl rfl rfl (ep_cons (ev_int (inR_lit rfl)) rfl rfl rfl (ep_cons (ev_int (inR_lit rfl)) rfl rfl rfl (ep_cons (ev_int (inR_lit rfl)) rfl rfl rfl ep_nil)))) (ow_cons' (ow_dv rfl) (ow_cons' (ow_dv rfl) (ow_cons' (ow_dv rfl) (ow_cons' (ow_dv rfl) ow_nil rfl) rfl) rfl) rfl) (by decide) (by decide) rfl rfl ?_
   simp only [killT, killB, SV.kill, CV.kill, kk, Nat.reduceBEq]
   refine o_callB 18000 rfl rfl rfl Try.call85 (ok_spec_l1Int (code := code) (i := i7) (h := h7) (l := [-1, 999999, 1000000, 1000001]) (by omega) (by omega) (by exact Nat.succ_pos _)) (ev_tmp rfl) rfl ac_arg rfl (fun _ => rfl) (ad_cons (ev_tmp rfl) (ag_one (ac_key' rfl rfl)) rfl ad_nil) rfl (fun _ => rfl) (fun _ => rfl) (fun zz hz18 => ?_)
   obtain ⟨e18, i18, h18⟩ := zz
   replace hz18 : e18 ∈ ([-1, 999999, 1000000, 1000001]) ∧ 0 ≤ i18 := hz18
   iterate 2 refine z ?_
   refine ops_nil ?_
   iterate 6 refine z ?_
   refine ok_weak (σ' := ⟨[(2, .box 2 0), (0, .abox 0)], [(2, 26, [(.dv [] (.str (e5.1))), (.key 9001), (.dv [] (.int .i64 (e18)))]), (0, 102, [(.arg 900001 (bytesD (code))), (.dv [] (.int .i64 (i18))), (.dv [] (.int .i64 (h18)))])], [(9001, some (kcOf false (itemsD (e5.2.1))))]⟩) (weak_sub ⟨rfl, rfl, trivial⟩ ⟨rfl, rfl, trivial⟩ ⟨rfl, trivial⟩ rfl) ?_
   refine z ?_
   refine fin1 (res_cell hT rfl rfl rfl rfl) ⟨(((e5.1), ((e5.2.1), (e18))), i18, h18), ?_, rfl, rfl, rfl, rfl⟩
   try dsimp only
   exact ⟨by have h2 : wStore (e5.1, e5.2.1, e18) = wStore e5 := rfl; omega, by omega⟩
  ·skip
   have d2 := of_decide_eq_false c2
   iterate 4 refine z ?_
   refine yQ rfl (fun c3 => ?_) fun c3 => ?_
   ·skip
    have d3 := of_decide_eq_true c3
    refine ok_regionL [0] [0, 1, 2, 3, 4, 5, 6, 7] (oB := [2, 3]) (oK := [9001]) (by kernel_rfl) rfl rfl ?_
    refine l_take 0 rfl (by kernel_rfl) rfl rfl (pu_fieldBox hT rfl rfl rfl (ev_tmp rfl)) rfl rfl rfl rfl rfl ?_
    refine l_take 1 rfl (by kernel_rfl) rfl rfl (pu_loadBox1 hT rfl rfl (ev_tmp rfl) rfl rfl) rfl rfl rfl rfl rfl ?_
    refine l_take 2 rfl (by kernel_rfl) rfl rfl (pu_move (.inl rfl) (ev_abox (ev_tmp rfl))) rfl rfl rfl rfl rfl ?_
    refine l_take 4 rfl (by kernel_rfl) rfl rfl (pu_move (.inl rfl) (ev_abox (ev_tmp rfl))) rfl rfl rfl rfl rfl ?_
    refine l_split 3 [] (by kernel_rfl) ⟨?_, trivial⟩
    refine y_callB 25000 3 rfl rfl rfl rfl rfl Try.call86 (ok_spec_l4Any (code := code) (i := i7) (h := h7) (by omega) (by omega)) (ev_tmp rfl) rfl ac_arg rfl (fun _ => rfl) ad_nil rfl (fun _ => rfl) (fun _ => rfl) rfl (fun zz hz25 => ?_)
    obtain ⟨e25, i25, h25⟩ := zz
    replace hz25 : e25.2.2.size ≤ 13 ∧ 0 ≤ i25 := hz25
    refine l_split 5 [] (by kernel_rfl) ⟨?_, trivial⟩
    refine y_callB 27000 5 rfl rfl rfl rfl rfl Try.call70 (ok_spec_l5Any (code := code) (i := i25) (h := h25) (by omega) (by omega)) (ev_tmp rfl) rfl ac_arg rfl (fun _ => rfl) ad_nil rfl (fun _ => rfl) (fun _ => rfl) rfl (fun zz hz27 => ?_)
    obtain ⟨e27, i27, h27⟩ := zz
    replace hz27 : wRecord e27 ≤ 200 ∧ 0 ≤ i27 := hz27
    refine l_take 6 rfl (by kernel_rfl) rfl rfl (pu_build hT hB rfl rfl rfl (bp_cons (ev_tmp rfl) rfl rfl rfl rfl rfl (bp_cons (ev_tmp rfl) rfl rfl rfl rfl rfl bp_nil))) rfl rfl rfl rfl rfl ?_
    refine l_split 7 [] (by kernel_rfl) ⟨?_, trivial⟩
    refine y_buildN (k := 29) (js := [36001]) 7 hT rfl rfl rfl rfl rfl rfl rfl rfl rfl rfl rfl rfl (ep_cons (ev_tmp rfl) rfl rfl rfl ep_nil) (ow_cons' (ow_dv rfl) (ow_cons' (ow_dv rfl) (ow_cons' (ow_dv rfl) (ow_cons' (ow_key rfl) ow_nil rfl) rfl) rfl) rfl) (by decide) (by decide) rfl rfl rfl rfl rfl ?_
    simp only [killT, killB, SV.kill, CV.kill, kk, Nat.reduceBEq]
    refine l_chain [8, 9, 10] rfl rfl (by kernel_rfl) ?_
    refine o_appK (k := 9001) (j := 29) (cs := (e5.2.1 ++ [(e25, e27)]).flatMap eItem) (n := (e5.2.1 ++ [(e25, e27)]).length) hT rfl rfl rfl rfl rfl rfl rfl (ev_tmp rfl) rfl rfl rfl (ev_tmp rfl) rfl rfl (by decide) (by dsimp only [kcOf, KC.old, itemsD, listD]; omega) (by dsimp only [kcOf, KC.old, itemsD, listD]; omega) (by rw [List.length_append]; rfl) (by rw [List.flatMap_append]; rfl) ?_
    simp only [killT, killB, SV.kill, CV.kill, kk, Nat.reduceBEq]
    iterate 2 refine z ?_
    refine ops_nil ?_
    iterate 6 refine z ?_
    refine ok_weak (σ' := ⟨[(2, .box 2 0), (0, .abox 0)], [(2, 26, [(.dv [] (.str (e5.1))), (.key 9001), (.dv [] (.int .i64 (e5.2.2)))]), (0, 102, [(.arg 900001 (bytesD (code))), (.dv [] (.int .i64 (i27))), (.dv [] (.int .i64 (h27)))])], [(9001, some (kcOf false (.sl 42 4 ((e5.2.1 ++ [(e25, e27)]).length) ((e5.2.1 ++ [(e25, e27)]).flatMap eItem))))]⟩) (weak_sub ⟨rfl, rfl, trivial⟩ ⟨rfl, rfl, trivial⟩ ⟨rfl, trivial⟩ rfl) ?_
    refine z ?_
    refine fin1 (res_cell hT rfl rfl rfl rfl) ⟨(((e5.1), (((e5.2.1 ++ [(e25, e27)])), (e5.2.2))), i27, h27), ?_, rfl, rfl, rfl, rfl⟩
    try dsimp only
    exact ⟨by have h2 := sto_app_w e5 (e25, e27); dsimp only at h2; omega, by omega⟩
   ·skip
    have d3 := of_decide_eq_false c3
    iterate 4 refine z ?_
    refine yQ rfl (fun c4 => ?_) fun c4 => ?_
    ·skip
     have d4 := of_decide_eq_true c4
     refine z ?_
     refine ok_loop (ι := StoreT × Int × Int) (fun zz => ⟨[(0, .abox 0), (2, .box 2 0), (3, .box 3 0)], [(0, 102, [(.arg 900001 (bytesD (code))), (.dv [] (.int .i64 (zz.2.1))), (.dv [] (.int .i64 (zz.2.2)))]), (2, 26, [(.dv [] (.str (ByteArray.empty))), .nil, (.dv [] (.int .i64 (0)))]), (3, 26, [(.dv [] (.str (zz.1.1))), (.key 9001), (.dv [] (.int .i64 (zz.1.2.2)))])], [(9001, some (kcOf false (.sl 42 4 (zz.1.2.1.length) (zz.1.2.1.flatMap eItem))))]⟩) (fun zz => isSto zz.1 = true ∧ autoI zz.1 ∧ zz.1.2.2 ≤ 284 + (zz.1.2.1.length : Int) ∧ 0 ≤ zz.2.1) (fun zz => 16 - zz.1.2.1.length) ((e5, i7, h7)) ?_ (weak_sub ⟨rfl, rfl, rfl, trivial⟩ ⟨rfl, rfl, rfl, trivial⟩ ⟨rfl, trivial⟩ rfl) (fun zz hx => ?_)
     ·exact ⟨hz5.1, hz5.2.2.1, by dsimp only; omega, by dsimp only; omega⟩
     obtain ⟨s, ci, ch⟩ := zz
     replace hx : isSto s = true ∧ autoI s ∧ s.2.2 ≤ 284 + (s.2.1.length : Int) ∧ 0 ≤ ci := hx
     obtain ⟨hs, ha, ha2, hci⟩ := hx
     show Ok _ _ _ _ _ (⟨[(0, .abox 0), (2, .box 2 0), (3, .box 3 0)], [(0, 102, [(.arg 900001 (bytesD (code))), (.dv [] (.int .i64 (ci))), (.dv [] (.int .i64 (ch)))]), (2, 26, [(.dv [] (.str (ByteArray.empty))), .nil, (.dv [] (.int .i64 (0)))]), (3, 26, [(.dv [] (.str (s.1))), (.key 9001), (.dv [] (.int .i64 (s.2.2)))])], [(9001, some (kcOf false (.sl 42 4 (s.2.1.length) (s.2.1.flatMap eItem))))]⟩ : St)
     iterate 4 refine z ?_
     refine yO rfl rfl (pu_lenKn (n := (s.2.1.length)) hT rfl rfl (ev_tmp rfl) rfl rfl) rfl ?_
     iterate 3 refine z ?_
     refine o_callG (gd_bool rfl rfl rfl rfl rfl) rfl rfl Try.call9 (ok_spec_IsStore (s := s)) (fun hg => (as_cons (ev_opt rfl hg) (ag_agg (ag_cons ac_dv (ag_cons (ac_key' rfl rfl) (ag_cons ac_dv ag_nil)))) as_nil)) rfl rfl ?_
     iterate 2 refine z ?_
     refine yQ rfl (fun c5 => ?_) fun c5 => ?_
     ·skip
      obtain ⟨q1, q2⟩ := (Bool.and_eq_true _ _ ▸ c5 : _ ∧ _)
      have q3 := of_decide_eq_true q1
      obtain ⟨r1, r2, r3, r4, r5⟩ := auto_step hs ha (by omega) ha2
      iterate 3 refine z ?_
      refine ok_region ?_
      refine z ?_
      refine yO rfl rfl (pu_build hT hB rfl rfl rfl bp_nil) rfl ?_
      refine o_callK 500 rfl rfl rfl Try.call39 (ok_spec_AutoItem (x := s) (r := []) (by have := sto_w2 hs; omega) (by decide)) (as_cons (ev_tmp rfl) (ag_agg (ag_cons ac_dv (ag_cons (ac_key' rfl rfl) (ag_cons ac_dv ag_nil)))) (as_cons (ev_tmp rfl) (ag_agg (ag_cons (ac_nil' rfl rfl) ag_nil)) as_nil)) rfl rfl rfl ?_
      iterate 5 refine z ?_
      refine ops_nil ?_
      iterate 2 refine z ?_
      refine ⟨((autoN s []).1, ci, ch), ?_, ?_, weak_then (weak_swapB (b := 3) (i := 1) (k := 9501) (k' := 9001) rfl rfl rfl rfl (by simp) rfl rfl) (weak_sub ⟨rfl, rfl, rfl, trivial⟩ ⟨rfl, rfl, rfl, trivial⟩ ⟨rfl, trivial⟩ rfl)⟩
      ·exact ⟨r2, r3, by dsimp only; omega, hci⟩
      ·dsimp only; omega
     ·skip
      iterate 10 refine z ?_
      refine ok_weak (σ' := ⟨[(2, .box 2 0), (0, .abox 0)], [(2, 26, [(.dv [] (.str (s.1))), (.key 9001), (.dv [] (.int .i64 (s.2.2)))]), (0, 102, [(.arg 900001 (bytesD (code))), (.dv [] (.int .i64 (ci))), (.dv [] (.int .i64 (ch)))])], [(9001, some (kcOf false (.sl 42 4 (s.2.1.length) (s.2.1.flatMap eItem))))]⟩) (weak_sub ⟨rfl, rfl, trivial⟩ ⟨rfl, rfl, trivial⟩ ⟨rfl, trivial⟩ rfl) ?_
      refine z ?_
      refine fin1 (res_cell hT rfl rfl rfl rfl) ⟨(((s.1), ((s.2.1), (s.2.2))), ci, ch), ?_, rfl, rfl, rfl, rfl⟩
      try dsimp only
      exact ⟨by have h1 := sto_w2 hs; have h2 : wStore (s.1, s.2.1, s.2.2) = wStore s := rfl; omega, by omega⟩
    ·skip
     have d4 := of_decide_eq_false c4
     iterate 7 refine z ?_
     refine ok_weak (σ' := ⟨[(2, .box 2 0), (0, .abox 0)], [(2, 26, [(.dv [] (.str (e5.1))), (.key 9001), (.dv [] (.int .i64 (e5.2.2)))]), (0, 102, [(.arg 900001 (bytesD (code))), (.dv [] (.int .i64 (i7))), (.dv [] (.int .i64 (h7)))])], [(9001, some (kcOf false (itemsD (e5.2.1))))]⟩) (weak_sub ⟨rfl, rfl, trivial⟩ ⟨rfl, rfl, trivial⟩ ⟨rfl, trivial⟩ rfl) ?_
     refine z ?_
     refine fin1 (res_cell hT rfl rfl rfl rfl) ⟨(((e5.1), ((e5.2.1), (e5.2.2))), i7, h7), ?_, rfl, rfl, rfl, rfl⟩
     try dsimp only
     exact ⟨by have h2 : wStore (e5.1, e5.2.1, e5.2.2) = wStore e5 := rfl; omega, by omega⟩
theorem ok_spec_l7Cursor {code : List UInt8} {i h : Int} (hc : code.length ≤ 1048576) (hi : 0 ≤ i) : BFn Try.prog 47 [] 102 (bytesD (code)) [.dv [] (.int .i64 (i)), .dv [] (.int .i64 (h))] (fun zz : CursorT × Int × Int => 0 ≤ zz.2.1) (fun zz : CursorT × Int × Int => .agg [(.dv [] (.bool (zz.1.1.1))), (.dv [] (.bool (zz.1.1.2.1))), (.dv [] (.int .i64 (zz.1.1.2.2.1.1))), (.dv [] (.int .i64 (zz.1.1.2.2.1.2.1))), (.dv [] (.str (zz.1.1.2.2.1.2.2))), (.dv [] (.int .i64 (zz.1.1.2.2.2.1))), (.dv [] (.int .i64 (zz.1.1.2.2.2.2.1))), (.dv [] (.str (zz.1.1.2.2.2.2.2))), (.dv [] (.bool (zz.1.2.1))), (.dv [] (.bool (zz.1.2.2.1))), (.dv [] (.int .i64 (zz.1.2.2.2.1))), (.dv [] (.int .i64 (zz.1.2.2.2.2.1))), (.dv [] (.str (zz.1.2.2.2.2.2)))]) (fun zz : CursorT × Int × Int => []) (fun zz : CursorT × Int × Int => [.dv [] (.int .i64 (zz.2.1)), .dv [] (.int .i64 (zz.2.2))]) := by
 refine ⟨fn_introS Try.func47 rfl Try.ntmps47 Try.results47 rfl (fun C => ?_)⟩
 iterate 4 refine z ?_
 refine yO rfl rfl (pu_move (.inl rfl) (ev_abox (ev_tmp rfl))) rfl ?_
 refine o_callB 5000 rfl rfl rfl Try.call51 (ok_spec_l4Range (code := code) (i := i) (h := h) (by omega) (by omega)) (ev_tmp rfl) rfl ac_arg rfl (fun _ => rfl) ad_nil rfl (fun _ => rfl) (fun _ => rfl) (fun zz hz5 => ?_)
 obtain ⟨e5, i5, h5⟩ := zz
 replace hz5 : 0 ≤ i5 := hz5
 refine yO rfl rfl (pu_move (.inl rfl) (ev_abox (ev_tmp rfl))) rfl ?_
 refine o_callB 7000 rfl rfl rfl Try.call87 (ok_spec_l1Once (code := code) (i := i5) (h := h5) (n := 2) (by omega) (by omega) ) (ev_tmp rfl) rfl ac_arg rfl (fun _ => rfl) (ad_cons (ev_int (inR_lit rfl)) (ag_one ac_dv) rfl ad_nil) rfl (fun _ => rfl) (fun _ => rfl) (fun zz hz7 => ?_)
 obtain ⟨e7, i7, h7⟩ := zz
 replace hz7 : 0 ≤ i7 := hz7
 refine yO rfl rfl (pu_build hT hB rfl rfl rfl (bp_cons (ev_tmp rfl) rfl rfl rfl rfl rfl (bp_cons (ev_tmp rfl) rfl rfl rfl rfl rfl bp_nil))) rfl ?_
 iterate 5 refine z ?_
 refine yO rfl rfl (pu_move (.inl rfl) (ev_abox (ev_tmp rfl))) rfl ?_
 refine o_callB 10000 rfl rfl rfl Try.call87 (ok_spec_l1Once (code := code) (i := i7) (h := h7) (n := 3) (by omega) (by omega) ) (ev_tmp rfl) rfl ac_arg rfl (fun _ => rfl) (ad_cons (ev_int (inR_lit rfl)) (ag_one ac_dv) rfl ad_nil) rfl (fun _ => rfl) (fun _ => rfl) (fun zz hz10 => ?_)
 obtain ⟨e10, i10, h10⟩ := zz
 replace hz10 : 0 ≤ i10 := hz10
 refine z ?_
 refine yQ rfl (fun c1 => ?_) fun c1 => ?_
 ·skip
  iterate 2 refine z ?_
  refine o_store hT rfl rfl rfl rfl (ev_tmp rfl) ev_bool rfl rfl rfl rfl rfl rfl ?_
  refine z ?_
  refine ok_region ?_
  refine yO rfl rfl (pu_move (.inl rfl) (ev_abox (ev_tmp rfl))) rfl ?_
  refine o_callB 13000 rfl rfl rfl Try.call88 (ok_spec_l4Small (code := code) (i := i10) (h := h10) (by omega) (by omega)) (ev_tmp rfl) rfl ac_arg rfl (fun _ => rfl) ad_nil rfl (fun _ => rfl) (fun _ => rfl) (fun zz hz13 => ?_)
  obtain ⟨e13, i13, h13⟩ := zz
  replace hz13 : isKey e13 = true ∧ smallK e13 ∧ 0 ≤ i13 := hz13
  iterate 7 refine z ?_
  refine ok_weak (σ' := ⟨[(2, .box 2 0), (0, .abox 0)], [(2, 36, [(.dv [] (.bool (e5.1))), (.dv [] (.bool (e5.2.1))), (.dv [] (.int .i64 (e5.2.2.1.1))), (.dv [] (.int .i64 (e5.2.2.1.2.1))), (.dv [] (.str (e5.2.2.1.2.2))), (.dv [] (.int .i64 (e5.2.2.2.1))), (.dv [] (.int .i64 (e5.2.2.2.2.1))), (.dv [] (.str (e5.2.2.2.2.2))), (.dv [] (.bool (e7))), (.dv [] (.bool (true))), (.dv [] (.int .i64 (e13.1))), (.dv [] (.int .i64 (e13.2.1))), (.dv [] (.str (e13.2.2)))]), (0, 102, [(.arg 900001 (bytesD (code))), (.dv [] (.int .i64 (i13))), (.dv [] (.int .i64 (h13)))])], []⟩) (weak_sub ⟨rfl, rfl, trivial⟩ ⟨rfl, rfl, trivial⟩ trivial rfl) ?_
  refine z ?_
  refine fin1 (res_cell hT rfl rfl rfl rfl) ⟨((((e5.1), ((e5.2.1), (((e5.2.2.1.1), ((e5.2.2.1.2.1), (e5.2.2.1.2.2))), ((e5.2.2.2.1), ((e5.2.2.2.2.1), (e5.2.2.2.2.2)))))), ((e7), ((true), ((e13.1), ((e13.2.1), (e13.2.2)))))), i13, h13), ?_, rfl, rfl, rfl, rfl⟩
  try dsimp only
  omega
 ·skip
  iterate 6 refine z ?_
  refine ok_weak (σ' := ⟨[(2, .box 2 0), (0, .abox 0)], [(2, 36, [(.dv [] (.bool (e5.1))), (.dv [] (.bool (e5.2.1))), (.dv [] (.int .i64 (e5.2.2.1.1))), (.dv [] (.int .i64 (e5.2.2.1.2.1))), (.dv [] (.str (e5.2.2.1.2.2))), (.dv [] (.int .i64 (e5.2.2.2.1))), (.dv [] (.int .i64 (e5.2.2.2.2.1))), (.dv [] (.str (e5.2.2.2.2.2))), (.dv [] (.bool (e7))), (.dv [] (.bool (false))), (.dv [] (.int .i64 (0))), (.dv [] (.int .i64 (0))), (.dv [] (.str (ByteArray.empty)))]), (0, 102, [(.arg 900001 (bytesD (code))), (.dv [] (.int .i64 (i10))), (.dv [] (.int .i64 (h10)))])], []⟩) (weak_sub ⟨rfl, rfl, trivial⟩ ⟨rfl, rfl, trivial⟩ trivial rfl) ?_
  refine z ?_
  refine fin1 (res_cell hT rfl rfl rfl rfl) ⟨((((e5.1), ((e5.2.1), (((e5.2.2.1.1), ((e5.2.2.1.2.1), (e5.2.2.1.2.2))), ((e5.2.2.2.1), ((e5.2.2.2.2.1), (e5.2.2.2.2.2)))))), ((e7), ((false), ((0), ((0), (ByteArray.empty)))))), i10, h10), ?_, rfl, rfl, rfl, rfl⟩
  try dsimp only
  omega
end Go.Proofs.Ytmnimdnmedldgaa

namespace Go.Proofs.Ytmnimdnmedldgaa
open Go.RowKit
open Go.Proofs
set_option linter.unusedVariables false
set_option linter.unusedSimpArgs false
theorem ok_spec_DrawFindItem {code : List UInt8} (hc : code.length ≤ 1048576) : EFn Try.prog 69 [.one (.dv [] (bytesD (code)))] (fun zz : StoreT × KeyT => wStore zz.1 ≤ 1500 ∧ zz.2.2.2.size ≤ 13) (fun zz : StoreT × KeyT => .tup [(true, [(.dv [] (.str (zz.1.1))), (.key 9001), (.dv [] (.int .i64 (zz.1.2.2)))]), (true, [(.dv [] (.int .i64 (zz.2.1))), (.dv [] (.int .i64 (zz.2.2.1))), (.dv [] (.str (zz.2.2.2)))])]) (fun zz : StoreT × KeyT => [(9001, some (kcOf false (itemsD (zz.1.2.1))))]) := by
 refine ⟨fn_intro Try.func69 rfl Try.ntmps69 Try.results69 rfl (fun C => ?_)⟩
 refine ok_fact (x := .tmp 0) (ev_tmp rfl) fun f0 => ?_
 iterate 6 refine z ?_
 refine o_callP rfl rfl rfl Try.call45 (ok_spec_l1New (code := code) (by omega)) (ev_tmp rfl) ac_dv rfl (fun _ => rfl) rfl rfl (fun zz hz7 => ?_)
 obtain ⟨i7, h7⟩ := zz
 replace hz7 : 0 ≤ i7 := hz7
 iterate 4 refine z ?_
 refine o_callB 0 rfl rfl rfl Try.call46 (ok_spec_l6Any (code := code) (i := i7) (h := h7) (by omega) (by omega)) (ev_tmp rfl) rfl ac_dv rfl (fun _ => rfl) ad_nil rfl (fun _ => rfl) (fun _ => rfl) (fun zz hz9 => ?_)
 obtain ⟨e9, i9, h9⟩ := zz
 replace hz9 : wStore e9 ≤ 1500 ∧ 0 ≤ i9 := hz9
 iterate 6 refine z ?_
 refine o_callB 11000 rfl rfl rfl Try.call87 (ok_spec_l1Once (code := code) (i := i9) (h := h9) (n := 6) (by omega) (by omega) ) (ev_tmp rfl) rfl ac_dv rfl (fun _ => rfl) (ad_cons (ev_int (inR_lit rfl)) (ag_one ac_dv) rfl ad_nil) rfl (fun _ => rfl) (fun _ => rfl) (fun zz hz11 => ?_)
 obtain ⟨e11, i11, h11⟩ := zz
 replace hz11 : 0 ≤ i11 := hz11
 refine z ?_
 refine yQ rfl (fun c1 => ?_) fun c1 => ?_
 ·skip
  refine ok_seq ?_
  refine ok_regionL [7, 2] [0, 1, 2, 3] (oB := [3, 5]) (oK := [9001]) (by kernel_rfl) rfl rfl ?_
  refine l_take 0 rfl (by kernel_rfl) rfl rfl (pu_loadBoxA hT rfl rfl (ev_tmp rfl) rfl rfl) rfl rfl rfl rfl rfl ?_
  refine l_take 1 rfl (by kernel_rfl) rfl rfl (pu_move (.inl rfl) (ev_tmp rfl)) rfl rfl rfl rfl rfl ?_
  refine l_split 2 [] (by kernel_rfl) ⟨?_, trivial⟩
  refine y_callB 14000 2 rfl rfl rfl rfl rfl Try.call86 (ok_spec_l4Any (code := code) (i := i11) (h := h11) (by omega) (by omega)) (ev_tmp rfl) rfl ac_dv rfl (fun _ => rfl) ad_nil rfl (fun _ => rfl) (fun _ => rfl) rfl (fun zz hz14 => ?_)
  obtain ⟨e14, i14, h14⟩ := zz
  replace hz14 : e14.2.2.size ≤ 13 ∧ 0 ≤ i14 := hz14
  refine l_split 3 [] (by kernel_rfl) ⟨?_, trivial⟩
  refine y_store 2 3 rfl rfl rfl hT rfl rfl rfl (ev_tmp rfl) (ev_tmp rfl) rfl rfl rfl rfl rfl rfl ?_
  refine l_chain [4] rfl rfl (by kernel_rfl) ?_
  iterate 2 refine z ?_
  refine ok_weak (σ' := ⟨[(2, .box 2 0), (3, .box 3 0)], [(2, 26, [(.dv [] (.str (e9.1))), (.key 9001), (.dv [] (.int .i64 (e9.2.2)))]), (3, 28, [(.dv [] (.int .i64 (e14.1))), (.dv [] (.int .i64 (e14.2.1))), (.dv [] (.str (e14.2.2)))])], [(9001, some (kcOf false (itemsD (e9.2.1))))]⟩) (weak_sub ⟨rfl, rfl, trivial⟩ ⟨rfl, rfl, trivial⟩ ⟨rfl, trivial⟩ rfl) ?_
  iterate 2 refine z ?_
  refine fin2 (res_cell hT rfl rfl rfl rfl) (res_cell hT rfl rfl rfl rfl) rfl rfl ⟨(((e9.1), ((e9.2.1), (e9.2.2))), ((e14.1), ((e14.2.1), (e14.2.2)))), ?_, rfl, rfl⟩
  try dsimp only
  exact ⟨hz9.1, hz14.1⟩
 ·skip
  iterate 2 refine z ?_
  refine ok_seq ?_
  refine ok_regionL [7, 2] [0, 1, 2, 3] (oB := [3, 5]) (oK := [9001]) (by kernel_rfl) rfl rfl ?_
  refine l_take 0 rfl (by kernel_rfl) rfl rfl (pu_loadBoxA hT rfl rfl (ev_tmp rfl) rfl rfl) rfl rfl rfl rfl rfl ?_
  refine l_take 1 rfl (by kernel_rfl) rfl rfl (pu_move (.inl rfl) (ev_tmp rfl)) rfl rfl rfl rfl rfl ?_
  refine l_split 2 [] (by kernel_rfl) ⟨?_, trivial⟩
  refine y_callB 17000 2 rfl rfl rfl rfl rfl Try.call88 (ok_spec_l4Small (code := code) (i := i11) (h := h11) (by omega) (by omega)) (ev_tmp rfl) rfl ac_dv rfl (fun _ => rfl) ad_nil rfl (fun _ => rfl) (fun _ => rfl) rfl (fun zz hz17 => ?_)
  obtain ⟨e17, i17, h17⟩ := zz
  replace hz17 : isKey e17 = true ∧ smallK e17 ∧ 0 ≤ i17 := hz17
  refine l_split 3 [] (by kernel_rfl) ⟨?_, trivial⟩
  refine y_store 2 3 rfl rfl rfl hT rfl rfl rfl (ev_tmp rfl) (ev_tmp rfl) rfl rfl rfl rfl rfl rfl ?_
  refine l_chain [4] rfl rfl (by kernel_rfl) ?_
  iterate 2 refine z ?_
  refine ok_weak (σ' := ⟨[(2, .box 2 0), (3, .box 3 0)], [(2, 26, [(.dv [] (.str (e9.1))), (.key 9001), (.dv [] (.int .i64 (e9.2.2)))]), (3, 28, [(.dv [] (.int .i64 (e17.1))), (.dv [] (.int .i64 (e17.2.1))), (.dv [] (.str (e17.2.2)))])], [(9001, some (kcOf false (itemsD (e9.2.1))))]⟩) (weak_sub ⟨rfl, rfl, trivial⟩ ⟨rfl, rfl, trivial⟩ ⟨rfl, trivial⟩ rfl) ?_
  refine z ?_
  refine fin2 (res_cell hT rfl rfl rfl rfl) (res_cell hT rfl rfl rfl rfl) rfl rfl ⟨(((e9.1), ((e9.2.1), (e9.2.2))), ((e17.1), ((e17.2.1), (e17.2.2)))), ?_, rfl, rfl⟩
  try dsimp only
  exact ⟨hz9.1, by have := key_size hz17.1; omega⟩
theorem ok_spec_DrawPutItem {code : List UInt8} (hc : code.length ≤ 1048576) : EFn Try.prog 32 [.one (.dv [] (bytesD (code)))] (fun zz : StoreT × KeyT × RecT => wStore zz.1 ≤ 1500 ∧ zz.2.1.2.2.size ≤ 13 ∧ wRecord zz.2.2 ≤ 200) (fun zz : StoreT × KeyT × RecT => .tup [(true, [(.dv [] (.str (zz.1.1))), (.key 9001), (.dv [] (.int .i64 (zz.1.2.2)))]), (true, [(.dv [] (.int .i64 (zz.2.1.1))), (.dv [] (.int .i64 (zz.2.1.2.1))), (.dv [] (.str (zz.2.1.2.2)))]), (true, [(.key 9002)])]) (fun zz : StoreT × KeyT × RecT => [(9001, some (kcOf false (itemsD (zz.1.2.1)))), (9002, some (kcOf false (fieldsD (zz.2.2))))]) := by
 refine ⟨fn_intro Try.func32 rfl Try.ntmps32 Try.results32 rfl (fun C => ?_)⟩
 refine ok_fact (x := .tmp 0) (ev_tmp rfl) fun f0 => ?_
 iterate 7 refine z ?_
 refine o_callE 0 rfl rfl rfl Try.call69 (ok_spec_DrawFindItem (code := code) (by omega)) (as_cons (ev_tmp rfl) (ag_one ac_dv) as_nil) rfl (fun _ => rfl) (fun _ => rfl) (fun zz hz10 => ?_)
 obtain ⟨e10_0, e10_1⟩ := zz
 replace hz10 : wStore e10_0 ≤ 1500 ∧ e10_1.2.2.size ≤ 13 := hz10
 iterate 10 refine z ?_
 refine o_callP rfl rfl rfl Try.call45 (ok_spec_l1New (code := code) (by omega)) (ev_tmp rfl) ac_dv rfl (fun _ => rfl) rfl rfl (fun zz hz14 => ?_)
 obtain ⟨i14, h14⟩ := zz
 replace hz14 : 0 ≤ i14 := hz14
 iterate 2 refine z ?_
 refine ok_seq ?_
 refine ok_regionL [14, 2, 3] [0, 1, 2, 3, 4, 5] (oB := [4, 5, 6]) (oK := [9001]) (by kernel_rfl) rfl rfl ?_
 refine l_take 0 rfl (by kernel_rfl) rfl rfl (pu_loadBoxA hT rfl rfl (ev_tmp rfl) rfl rfl) rfl rfl rfl rfl rfl ?_
 refine l_take 1 rfl (by kernel_rfl) rfl rfl (pu_loadBoxA hT rfl rfl (ev_tmp rfl) rfl rfl) rfl rfl rfl rfl rfl ?_
 refine l_take 2 rfl (by kernel_rfl) rfl rfl (pu_move (.inl rfl) (ev_tmp rfl)) rfl rfl rfl rfl rfl ?_
 refine l_split 3 [] (by kernel_rfl) ⟨?_, trivial⟩
 refine y_callB 1 3 rfl rfl rfl rfl rfl Try.call70 (ok_spec_l5Any (code := code) (i := i14) (h := h14) (by omega) (by omega)) (ev_tmp rfl) rfl ac_dv rfl (fun _ => rfl) ad_nil rfl (fun _ => rfl) (fun _ => rfl) rfl (fun zz hz18 => ?_)
 obtain ⟨e18, i18, h18⟩ := zz
 replace hz18 : wRecord e18 ≤ 200 ∧ 0 ≤ i18 := hz18
 refine l_split 4 [] (by kernel_rfl) ⟨?_, trivial⟩
 refine y_store 2 4 rfl rfl rfl hT rfl rfl rfl (ev_tmp rfl) (ev_tmp rfl) rfl rfl rfl rfl rfl rfl ?_
 refine l_split 5 [] (by kernel_rfl) ⟨?_, trivial⟩
 refine y_store 3 5 rfl rfl rfl hT rfl rfl rfl (ev_tmp rfl) (ev_tmp rfl) rfl rfl rfl rfl rfl rfl ?_
 refine l_chain [6] rfl rfl (by kernel_rfl) ?_
 iterate 2 refine z ?_
 refine ok_weak (σ' := ⟨[(2, .box 2 0), (3, .box 3 0), (4, .box 4 0)], [(2, 26, [(.dv [] (.str (e10_0.1))), (.key 9001), (.dv [] (.int .i64 (e10_0.2.2)))]), (3, 28, [(.dv [] (.int .i64 (e10_1.1))), (.dv [] (.int .i64 (e10_1.2.1))), (.dv [] (.str (e10_1.2.2)))]), (4, 40, [(.key 9002)])], [(9001, some (kcOf false (itemsD (e10_0.2.1)))), (9002, some (kcOf false (fieldsD (e18))))]⟩) (weak_sub ⟨rfl, rfl, rfl, trivial⟩ ⟨rfl, rfl, rfl, trivial⟩ ⟨rfl, rfl, trivial⟩ rfl) ?_
 refine z ?_
 refine fin3 (res_cell hT rfl rfl rfl rfl) (res_cell hT rfl rfl rfl rfl) (res_cell hT rfl rfl rfl rfl) rfl rfl rfl ⟨(((e10_0.1), ((e10_0.2.1), (e10_0.2.2))), ((e10_1.1), ((e10_1.2.1), (e10_1.2.2))), (e18)), ?_, rfl, rfl⟩
 try dsimp only
 exact ⟨hz10.1, hz10.2, hz18.1⟩
theorem ok_spec_DrawIndexOn {code : List UInt8} (hc : code.length ≤ 1048576) : EFn Try.prog 24 [.one (.dv [] (bytesD (code)))] (fun zz : StoreT × Str => wStore zz.1 ≤ 1500 ∧ isName zz.2 = true) (fun zz : StoreT × Str => .tup [(true, [(.dv [] (.str (zz.1.1))), (.key 9001), (.dv [] (.int .i64 (zz.1.2.2)))]), (false, [(.dv [] (.str (zz.2)))])]) (fun zz : StoreT × Str => [(9001, some (kcOf false (itemsD (zz.1.2.1))))]) := by
 refine ⟨fn_intro Try.func24 rfl Try.ntmps24 Try.results24 rfl (fun C => ?_)⟩
 refine ok_fact (x := .tmp 0) (ev_tmp rfl) fun f0 => ?_
 iterate 6 refine z ?_
 refine o_callP rfl rfl rfl Try.call45 (ok_spec_l1New (code := code) (by omega)) (ev_tmp rfl) ac_dv rfl (fun _ => rfl) rfl rfl (fun zz hz7 => ?_)
 obtain ⟨i7, h7⟩ := zz
 replace hz7 : 0 ≤ i7 := hz7
 iterate 4 refine z ?_
 refine o_callB 0 rfl rfl rfl Try.call46 (ok_spec_l6Any (code := code) (i := i7) (h := h7) (by omega) (by omega)) (ev_tmp rfl) rfl ac_dv rfl (fun _ => rfl) ad_nil rfl (fun _ => rfl) (fun _ => rfl) (fun zz hz9 => ?_)
 obtain ⟨e9, i9, h9⟩ := zz
 replace hz9 : wStore e9 ≤ 1500 ∧ 0 ≤ i9 := hz9
 iterate 3 refine z ?_
 refine ok_seq ?_
 refine ok_regionL [7, 2] [0, 1, 2, 3, 4] (oB := [5]) (oK := [9001]) (by kernel_rfl) rfl rfl ?_
 refine l_take 0 rfl (by kernel_rfl) rfl rfl (pu_loadBoxA hT rfl rfl (ev_tmp rfl) rfl rfl) rfl rfl rfl rfl rfl ?_
 refine l_take 1 rfl (by kernel_rfl) rfl rfl (pu_move (.inl rfl) (ev_tmp rfl)) rfl rfl rfl rfl rfl ?_
 refine l_split 2 [] (by kernel_rfl) ⟨?_, trivial⟩
 refine y_callB 12000 2 rfl rfl rfl rfl rfl Try.call63 (ok_spec_l5Name (code := code) (i := i9) (h := h9) (by omega) (by omega)) (ev_tmp rfl) rfl ac_dv rfl (fun _ => rfl) ad_nil rfl (fun _ => rfl) (fun _ => rfl) rfl (fun zz hz12 => ?_)
 obtain ⟨e12, i12, h12⟩ := zz
 replace hz12 : isName e12 = true ∧ 0 ≤ i12 := hz12
 refine l_split 3 [] (by kernel_rfl) ⟨?_, trivial⟩
 refine y_store 2 3 rfl rfl rfl hT rfl rfl rfl (ev_tmp rfl) (ev_tmp rfl) rfl rfl rfl rfl rfl rfl ?_
 refine l_split 4 [] (by kernel_rfl) ⟨?_, trivial⟩
 refine y_pure 4 rfl rfl rfl (pu_move (.inr rfl) (ev_tmp rfl)) rfl rfl rfl rfl rfl ?_
 refine l_done (by kernel_rfl) ?_
 refine z ?_
 refine ok_weak (σ' := ⟨[(2, .box 2 0), (3, .one (.dv [] (.str (e12))))], [(2, 26, [(.dv [] (.str (e9.1))), (.key 9001), (.dv [] (.int .i64 (e9.2.2)))])], [(9001, some (kcOf false (itemsD (e9.2.1))))]⟩) (weak_sub ⟨rfl, rfl, trivial⟩ ⟨rfl, trivial⟩ ⟨rfl, trivial⟩ rfl) ?_
 refine z ?_
 refine fin2 (res_cell hT rfl rfl rfl rfl) (res_tmp rfl) rfl rfl ⟨(((e9.1), ((e9.2.1), (e9.2.2))), (e12)), ?_, rfl, rfl⟩
 try dsimp only
 exact ⟨hz9.1, hz12.1⟩
theorem ok_spec_DrawDeleteItems {code : List UInt8} (hc : code.length ≤ 1048576) : EFn Try.prog 15 [.one (.dv [] (bytesD (code)))] (fun zz : StoreT × RangeT => wStore zz.1 ≤ 1500) (fun zz : StoreT × RangeT => .tup [(true, [(.dv [] (.str (zz.1.1))), (.key 9001), (.dv [] (.int .i64 (zz.1.2.2)))]), (true, [(.dv [] (.bool (zz.2.1))), (.dv [] (.bool (zz.2.2.1))), (.dv [] (.int .i64 (zz.2.2.2.1.1))), (.dv [] (.int .i64 (zz.2.2.2.1.2.1))), (.dv [] (.str (zz.2.2.2.1.2.2))), (.dv [] (.int .i64 (zz.2.2.2.2.1))), (.dv [] (.int .i64 (zz.2.2.2.2.2.1))), (.dv [] (.str (zz.2.2.2.2.2.2)))])]) (fun zz : StoreT × RangeT => [(9001, some (kcOf false (itemsD (zz.1.2.1))))]) := by
 refine ⟨fn_intro Try.func15 rfl Try.ntmps15 Try.results15 rfl (fun C => ?_)⟩
 refine ok_fact (x := .tmp 0) (ev_tmp rfl) fun f0 => ?_
 iterate 6 refine z ?_
 refine o_callP rfl rfl rfl Try.call45 (ok_spec_l1New (code := code) (by omega)) (ev_tmp rfl) ac_dv rfl (fun _ => rfl) rfl rfl (fun zz hz7 => ?_)
 obtain ⟨i7, h7⟩ := zz
 replace hz7 : 0 ≤ i7 := hz7
 iterate 4 refine z ?_
 refine o_callB 0 rfl rfl rfl Try.call46 (ok_spec_l6Any (code := code) (i := i7) (h := h7) (by omega) (by omega)) (ev_tmp rfl) rfl ac_dv rfl (fun _ => rfl) ad_nil rfl (fun _ => rfl) (fun _ => rfl) (fun zz hz9 => ?_)
 obtain ⟨e9, i9, h9⟩ := zz
 replace hz9 : wStore e9 ≤ 1500 ∧ 0 ≤ i9 := hz9
 iterate 3 refine z ?_
 refine ok_seq ?_
 refine ok_regionL [7, 2] [0, 1, 2, 3] (oB := [3, 5]) (oK := [9001]) (by kernel_rfl) rfl rfl ?_
 refine l_take 0 rfl (by kernel_rfl) rfl rfl (pu_loadBoxA hT rfl rfl (ev_tmp rfl) rfl rfl) rfl rfl rfl rfl rfl ?_
 refine l_take 1 rfl (by kernel_rfl) rfl rfl (pu_move (.inl rfl) (ev_tmp rfl)) rfl rfl rfl rfl rfl ?_
 refine l_split 2 [] (by kernel_rfl) ⟨?_, trivial⟩
 refine y_callB 12000 2 rfl rfl rfl rfl rfl Try.call51 (ok_spec_l4Range (code := code) (i := i9) (h := h9) (by omega) (by omega)) (ev_tmp rfl) rfl ac_dv rfl (fun _ => rfl) ad_nil rfl (fun _ => rfl) (fun _ => rfl) rfl (fun zz hz12 => ?_)
 obtain ⟨e12, i12, h12⟩ := zz
 replace hz12 : 0 ≤ i12 := hz12
 refine l_split 3 [] (by kernel_rfl) ⟨?_, trivial⟩
 refine y_store 2 3 rfl rfl rfl hT rfl rfl rfl (ev_tmp rfl) (ev_tmp rfl) rfl rfl rfl rfl rfl rfl ?_
 refine l_chain [4] rfl rfl (by kernel_rfl) ?_
 iterate 2 refine z ?_
 refine ok_weak (σ' := ⟨[(2, .box 2 0), (3, .box 3 0)], [(2, 26, [(.dv [] (.str (e9.1))), (.key 9001), (.dv [] (.int .i64 (e9.2.2)))]), (3, 30, [(.dv [] (.bool (e12.1))), (.dv [] (.bool (e12.2.1))), (.dv [] (.int .i64 (e12.2.2.1.1))), (.dv [] (.int .i64 (e12.2.2.1.2.1))), (.dv [] (.str (e12.2.2.1.2.2))), (.dv [] (.int .i64 (e12.2.2.2.1))), (.dv [] (.int .i64 (e12.2.2.2.2.1))), (.dv [] (.str (e12.2.2.2.2.2)))])], [(9001, some (kcOf false (itemsD (e9.2.1))))]⟩) (weak_sub ⟨rfl, rfl, trivial⟩ ⟨rfl, rfl, trivial⟩ ⟨rfl, trivial⟩ rfl) ?_
 refine z ?_
 refine fin2 (res_cell hT rfl rfl rfl rfl) (res_cell hT rfl rfl rfl rfl) rfl rfl ⟨(((e9.1), ((e9.2.1), (e9.2.2))), ((e12.1), ((e12.2.1), (((e12.2.2.1.1), ((e12.2.2.1.2.1), (e12.2.2.1.2.2))), ((e12.2.2.2.1), ((e12.2.2.2.2.1), (e12.2.2.2.2.2))))))), ?_, rfl, rfl⟩
 try dsimp only
 exact hz9.1
theorem ok_spec_DrawItemsIn {code : List UInt8} (hc : code.length ≤ 1048576) : EFn Try.prog 8 [.one (.dv [] (bytesD (code)))] (fun zz : StoreT × RangeT => wStore zz.1 ≤ 1500) (fun zz : StoreT × RangeT => .tup [(true, [(.dv [] (.str (zz.1.1))), (.key 9001), (.dv [] (.int .i64 (zz.1.2.2)))]), (true, [(.dv [] (.bool (zz.2.1))), (.dv [] (.bool (zz.2.2.1))), (.dv [] (.int .i64 (zz.2.2.2.1.1))), (.dv [] (.int .i64 (zz.2.2.2.1.2.1))), (.dv [] (.str (zz.2.2.2.1.2.2))), (.dv [] (.int .i64 (zz.2.2.2.2.1))), (.dv [] (.int .i64 (zz.2.2.2.2.2.1))), (.dv [] (.str (zz.2.2.2.2.2.2)))])]) (fun zz : StoreT × RangeT => [(9001, some (kcOf false (itemsD (zz.1.2.1))))]) := by
 refine ⟨fn_intro Try.func8 rfl Try.ntmps8 Try.results8 rfl (fun C => ?_)⟩
 refine ok_fact (x := .tmp 0) (ev_tmp rfl) fun f0 => ?_
 iterate 6 refine z ?_
 refine o_callE 0 rfl rfl rfl Try.call15 (ok_spec_DrawDeleteItems (code := code) (by omega)) (as_cons (ev_tmp rfl) (ag_one ac_dv) as_nil) rfl (fun _ => rfl) (fun _ => rfl) (fun zz hz5 => ?_)
 obtain ⟨e5_0, e5_1⟩ := zz
 replace hz5 : wStore e5_0 ≤ 1500 := hz5
 iterate 5 refine z ?_
 refine ok_weak (σ' := ⟨[(2, .box 2 0), (3, .box 3 0)], [(2, 26, [(.dv [] (.str (e5_0.1))), (.key 9001), (.dv [] (.int .i64 (e5_0.2.2)))]), (3, 30, [(.dv [] (.bool (e5_1.1))), (.dv [] (.bool (e5_1.2.1))), (.dv [] (.int .i64 (e5_1.2.2.1.1))), (.dv [] (.int .i64 (e5_1.2.2.1.2.1))), (.dv [] (.str (e5_1.2.2.1.2.2))), (.dv [] (.int .i64 (e5_1.2.2.2.1))), (.dv [] (.int .i64 (e5_1.2.2.2.2.1))), (.dv [] (.str (e5_1.2.2.2.2.2)))])], [(9001, some (kcOf false (itemsD (e5_0.2.1))))]⟩) (weak_sub ⟨rfl, rfl, trivial⟩ ⟨rfl, rfl, trivial⟩ ⟨rfl, trivial⟩ rfl) ?_
 refine z ?_
 refine fin2 (res_cell hT rfl rfl rfl rfl) (res_cell hT rfl rfl rfl rfl) rfl rfl ⟨(((e5_0.1), ((e5_0.2.1), (e5_0.2.2))), ((e5_1.1), ((e5_1.2.1), (((e5_1.2.2.1.1), ((e5_1.2.2.1.2.1), (e5_1.2.2.1.2.2))), ((e5_1.2.2.2.1), ((e5_1.2.2.2.2.1), (e5_1.2.2.2.2.2))))))), ?_, rfl, rfl⟩
 try dsimp only
 exact hz5
theorem ok_spec_DrawCursorNext {code : List UInt8} (hc : code.length ≤ 1048576) : EFn Try.prog 12 [.one (.dv [] (bytesD (code)))] (fun zz : StoreT × CursorT => wStore zz.1 ≤ 1500) (fun zz : StoreT × CursorT => .tup [(true, [(.dv [] (.str (zz.1.1))), (.key 9001), (.dv [] (.int .i64 (zz.1.2.2)))]), (true, [(.dv [] (.bool (zz.2.1.1))), (.dv [] (.bool (zz.2.1.2.1))), (.dv [] (.int .i64 (zz.2.1.2.2.1.1))), (.dv [] (.int .i64 (zz.2.1.2.2.1.2.1))), (.dv [] (.str (zz.2.1.2.2.1.2.2))), (.dv [] (.int .i64 (zz.2.1.2.2.2.1))), (.dv [] (.int .i64 (zz.2.1.2.2.2.2.1))), (.dv [] (.str (zz.2.1.2.2.2.2.2))), (.dv [] (.bool (zz.2.2.1))), (.dv [] (.bool (zz.2.2.2.1))), (.dv [] (.int .i64 (zz.2.2.2.2.1))), (.dv [] (.int .i64 (zz.2.2.2.2.2.1))), (.dv [] (.str (zz.2.2.2.2.2.2)))])]) (fun zz : StoreT × CursorT => [(9001, some (kcOf false (itemsD (zz.1.2.1))))]) := by
 refine ⟨fn_intro Try.func12 rfl Try.ntmps12 Try.results12 rfl (fun C => ?_)⟩
 refine ok_fact (x := .tmp 0) (ev_tmp rfl) fun f0 => ?_
 iterate 6 refine z ?_
 refine o_callP rfl rfl rfl Try.call45 (ok_spec_l1New (code := code) (by omega)) (ev_tmp rfl) ac_dv rfl (fun _ => rfl) rfl rfl (fun zz hz7 => ?_)
 obtain ⟨i7, h7⟩ := zz
 replace hz7 : 0 ≤ i7 := hz7
 iterate 4 refine z ?_
 refine o_callB 0 rfl rfl rfl Try.call46 (ok_spec_l6Any (code := code) (i := i7) (h := h7) (by omega) (by omega)) (ev_tmp rfl) rfl ac_dv rfl (fun _ => rfl) ad_nil rfl (fun _ => rfl) (fun _ => rfl) (fun zz hz9 => ?_)
 obtain ⟨e9, i9, h9⟩ := zz
 replace hz9 : wStore e9 ≤ 1500 ∧ 0 ≤ i9 := hz9
 iterate 3 refine z ?_
 refine ok_seq ?_
 refine ok_regionL [7, 2] [0, 1, 2, 3] (oB := [3, 5]) (oK := [9001]) (by kernel_rfl) rfl rfl ?_
 refine l_take 0 rfl (by kernel_rfl) rfl rfl (pu_loadBoxA hT rfl rfl (ev_tmp rfl) rfl rfl) rfl rfl rfl rfl rfl ?_
 refine l_take 1 rfl (by kernel_rfl) rfl rfl (pu_move (.inl rfl) (ev_tmp rfl)) rfl rfl rfl rfl rfl ?_
 refine l_split 2 [] (by kernel_rfl) ⟨?_, trivial⟩
 refine y_callB 12000 2 rfl rfl rfl rfl rfl Try.call47 (ok_spec_l7Cursor (code := code) (i := i9) (h := h9) (by omega) (by omega)) (ev_tmp rfl) rfl ac_dv rfl (fun _ => rfl) ad_nil rfl (fun _ => rfl) (fun _ => rfl) rfl (fun zz hz12 => ?_)
 obtain ⟨e12, i12, h12⟩ := zz
 replace hz12 : 0 ≤ i12 := hz12
 refine l_split 3 [] (by kernel_rfl) ⟨?_, trivial⟩
 refine y_store 2 3 rfl rfl rfl hT rfl rfl rfl (ev_tmp rfl) (ev_tmp rfl) rfl rfl rfl rfl rfl rfl ?_
 refine l_chain [4] rfl rfl (by kernel_rfl) ?_
 iterate 2 refine z ?_
 refine ok_weak (σ' := ⟨[(2, .box 2 0), (3, .box 3 0)], [(2, 26, [(.dv [] (.str (e9.1))), (.key 9001), (.dv [] (.int .i64 (e9.2.2)))]), (3, 36, [(.dv [] (.bool (e12.1.1))), (.dv [] (.bool (e12.1.2.1))), (.dv [] (.int .i64 (e12.1.2.2.1.1))), (.dv [] (.int .i64 (e12.1.2.2.1.2.1))), (.dv [] (.str (e12.1.2.2.1.2.2))), (.dv [] (.int .i64 (e12.1.2.2.2.1))), (.dv [] (.int .i64 (e12.1.2.2.2.2.1))), (.dv [] (.str (e12.1.2.2.2.2.2))), (.dv [] (.bool (e12.2.1))), (.dv [] (.bool (e12.2.2.1))), (.dv [] (.int .i64 (e12.2.2.2.1))), (.dv [] (.int .i64 (e12.2.2.2.2.1))), (.dv [] (.str (e12.2.2.2.2.2)))])], [(9001, some (kcOf false (itemsD (e9.2.1))))]⟩) (weak_sub ⟨rfl, rfl, trivial⟩ ⟨rfl, rfl, trivial⟩ ⟨rfl, trivial⟩ rfl) ?_
 refine z ?_
 refine fin2 (res_cell hT rfl rfl rfl rfl) (res_cell hT rfl rfl rfl rfl) rfl rfl ⟨(((e9.1), ((e9.2.1), (e9.2.2))), (((e12.1.1), ((e12.1.2.1), (((e12.1.2.2.1.1), ((e12.1.2.2.1.2.1), (e12.1.2.2.1.2.2))), ((e12.1.2.2.2.1), ((e12.1.2.2.2.2.1), (e12.1.2.2.2.2.2)))))), ((e12.2.1), ((e12.2.2.1), ((e12.2.2.2.1), ((e12.2.2.2.2.1), (e12.2.2.2.2.2))))))), ?_, rfl, rfl⟩
 try dsimp only
 exact hz9.1
theorem ok_laws_big {code : List UInt8}  : PFn Try.prog 7 [.one (.dv [] (bytesD (code)))] (.one (.dv [] (.bool (decide ((1048576 : Int) < (code.length : Int)))))) := by
 refine ⟨fn_intro Try.func7 rfl Try.ntmps7 Try.results7 rfl (fun C => ?_)⟩
 refine ok_fact (x := .tmp 0) (ev_tmp rfl) fun f0 => ?_
 iterate 11 refine z ?_
 rfl
theorem ok_impl_ItemsIn {x : StoreT} {r : RangeT} (hb : wStore x ≤ 1048576) : KFn Try.prog 17 [.agg [(.dv [] (.str (x.1))), (.dv [] (itemsD (x.2.1))), (.dv [] (.int .i64 (x.2.2)))], .agg [(.dv [] (.bool (r.1))), (.dv [] (.bool (r.2.1))), (.dv [] (.int .i64 (r.2.2.1.1))), (.dv [] (.int .i64 (r.2.2.1.2.1))), (.dv [] (.str (r.2.2.1.2.2))), (.dv [] (.int .i64 (r.2.2.2.1))), (.dv [] (.int .i64 (r.2.2.2.2.1))), (.dv [] (.str (r.2.2.2.2.2)))]] (.one (.key 8)) [(8, some (kcOf false (itemsD (x.2.1.filter (inIt r)))))] := by
 refine ⟨fn_intro Try.func17 rfl Try.ntmps17 Try.results17 rfl (fun C => ?_)⟩
 refine yF 0 0 rfl rfl fun f0_0 => ?_
 refine yF 0 1 rfl rfl fun f0_1 => ?_
 refine yF 0 2 rfl rfl fun f0_2 => ?_
 refine yF 1 2 rfl rfl fun f1_2 => ?_
 refine yF 1 3 rfl rfl fun f1_3 => ?_
 refine yF 1 4 rfl rfl fun f1_4 => ?_
 refine yF 1 5 rfl rfl fun f1_5 => ?_
 refine yF 1 6 rfl rfl fun f1_6 => ?_
 refine yF 1 7 rfl rfl fun f1_7 => ?_
 iterate 6 refine z ?_
 refine o_build0 (k := 8) hT rfl rfl rfl rfl rfl rfl rfl rfl ?_
 iterate 10 refine z ?_
 refine ok_loop (ι := Nat) (fun zz => ⟨[(3, .box 3 0), (4, .one .nil), (5, .one (.key 8)), (10, .one (.dv [] (itemsD (x.2.1)))), (11, .one (.dv [] (.int .i64 ((((x.2.1)).length : Int))))), (12, .one (.dv [] (.int .i64 ((zz : Int)))))], [(3, 30, [(.dv [] (.bool (r.1))), (.dv [] (.bool (r.2.1))), (.dv [] (.int .i64 (r.2.2.1.1))), (.dv [] (.int .i64 (r.2.2.1.2.1))), (.dv [] (.str (r.2.2.1.2.2))), (.dv [] (.int .i64 (r.2.2.2.1))), (.dv [] (.int .i64 (r.2.2.2.2.1))), (.dv [] (.str (r.2.2.2.2.2)))])], [(8, some (kcOf false (.sl 42 4 (((x.2.1.take zz).filter (inIt r)).length) (((x.2.1.take zz).filter (inIt r)).flatMap eItem))))]⟩) (fun zz => zz ≤ x.2.1.length) (fun zz => x.2.1.length - zz) (0) ?_ (weak_sub ⟨rfl, rfl, rfl, rfl, rfl, rfl, trivial⟩ ⟨rfl, trivial⟩ ⟨rfl, trivial⟩ rfl) (fun zz hx => ?_)
 ·exact Nat.zero_le _
 obtain ⟨k, rfl⟩ : ∃ v, v = zz := ⟨_, rfl⟩
 replace hx : k ≤ x.2.1.length := hx
 have hw := fun h => wSum_succ wItem x.2.1 k h
 show Ok _ _ _ _ _ (⟨[(3, .box 3 0), (4, .one .nil), (5, .one (.key 8)), (10, .one (.dv [] (itemsD (x.2.1)))), (11, .one (.dv [] (.int .i64 ((((x.2.1)).length : Int))))), (12, .one (.dv [] (.int .i64 ((k : Int)))))], [(3, 30, [(.dv [] (.bool (r.1))), (.dv [] (.bool (r.2.1))), (.dv [] (.int .i64 (r.2.2.1.1))), (.dv [] (.int .i64 (r.2.2.1.2.1))), (.dv [] (.str (r.2.2.1.2.2))), (.dv [] (.int .i64 (r.2.2.2.1))), (.dv [] (.int .i64 (r.2.2.2.2.1))), (.dv [] (.str (r.2.2.2.2.2)))])], [(8, some (kcOf false (.sl 42 4 (((x.2.1.take k).filter (inIt r)).length) (((x.2.1.take k).filter (inIt r)).flatMap eItem))))]⟩ : St)
 iterate 3 refine z ?_
 refine ok_seq ?_
 refine yQ rfl (fun c1 => ?_) fun c1 => ?_
 ·skip
  have d1 := of_decide_eq_true c1
  have hk2 : k < x.2.1.length := by omega
  have hlen : x.2.1.length ≤ 1048576 := by have h3 : wStore x = x.1.size + (x.2.1.length + wSum wItem x.2.1) := rfl; omega
  have hrec : wItem (x.2.1.getD (k : Int).toNat default) ≤ 1048576 := by have := hw hk2; have h3 : wStore x = x.1.size + (x.2.1.length + wSum wItem x.2.1) := rfl; omega
  iterate 14 refine z ?_
  refine zC Try.call49 ?_ (hf := ok_impl_InRangeOf)
  refine z ?_
  refine yQ rfl (fun c2 => ?_) fun c2 => ?_
  ·skip
   refine ok_region ?_
   iterate 2 refine z ?_
   refine zK 22000 Try.call50 ?_ (hf := ok_impl_copyItem (by first | omega | exact Nat.le_trans (item_len _) hrec | exact Nat.le_trans (item_len _) (Nat.le_trans hrec (by decide))))
   refine o_build1 (k := 23) (js := [29003]) hT rfl rfl rfl rfl rfl rfl rfl rfl rfl (ev_tmp rfl) rfl rfl (ow_cons' (ow_dv rfl) (ow_cons' (ow_dv rfl) (ow_cons' (ow_dv rfl) (ow_cons' (ow_key rfl) ow_nil rfl) rfl) rfl) rfl) (by decide) (by decide) rfl rfl ?_
   simp only [killT, killB, SV.kill, CV.kill, kk, Nat.reduceBEq]
   refine o_appK (k := 8) (j := 23) (cs := ((x.2.1.take (k + 1)).filter (inIt r)).flatMap eItem) (n := ((x.2.1.take (k + 1)).filter (inIt r)).length) hT rfl rfl rfl rfl rfl rfl rfl (ev_tmp rfl) rfl rfl rfl (ev_tmp rfl) rfl rfl (by decide) (by have := filt_len (p := inIt r) x.2.1 k; dsimp only [kcOf]; omega) (by have := filt_len (p := inIt r) x.2.1 k; dsimp only [kcOf]; omega) ((flt_yes (p := inIt r) hk2 c2).2) ((flt_yes (p := inIt r) hk2 c2).1) ?_
   simp only [killT, killB, SV.kill, CV.kill, kk, Nat.reduceBEq]
   refine z ?_
   refine ops_nil ?_
   iterate 2 refine z ?_
   refine ok_region ?_
   iterate 3 refine z ?_
   refine ⟨k + 1, ?_, ?_, weak_sub ⟨rfl, rfl, rfl, rfl, rfl, rfl, trivial⟩ ⟨rfl, trivial⟩ ⟨rfl, trivial⟩ rfl⟩
   ·omega
   ·omega
  ·skip
   iterate 3 refine z ?_
   refine ok_region ?_
   iterate 3 refine z ?_
   refine ⟨k + 1, ?_, ?_, weak_sub ⟨rfl, rfl, rfl, rfl, rfl, rfl, trivial⟩ ⟨rfl, trivial⟩ ⟨(congrArg (fun l : List ItemT => some (some (KC.mk false 42 4 l.length (l.flatMap eItem)))) (flt_no (p := inIt r) hk2 c2)), trivial⟩ rfl⟩
   ·omega
   ·omega
 ·skip
  have d1 := of_decide_eq_false c1
  iterate 9 refine z ?_
  refine ok_weak (σ' := ⟨[(4, .one (.key 8))], [], [(8, some (kcOf false (itemsD (x.2.1.filter (inIt r)))))]⟩) (weak_sub ⟨rfl, trivial⟩ trivial ⟨(congrArg (fun l : List ItemT => some (some (KC.mk false 42 4 l.length (l.flatMap eItem)))) (show ((x.2.1.take k).filter (inIt r)) = x.2.1.filter (inIt r) by rw [show k = x.2.1.length by omega, List.take_length])), trivial⟩ rfl) ?_
  refine z ?_
  refine fin1 (res_tmp rfl) ?_
  exact ⟨rfl, rfl⟩
theorem ok_spec_ItemsIn {x : StoreT} {r : RangeT} (hb : wStore x ≤ 1048576) : KFn Try.prog 11 [.agg [(.dv [] (.str (x.1))), (.dv [] (itemsD (x.2.1))), (.dv [] (.int .i64 (x.2.2)))], .agg [(.dv [] (.bool (r.1))), (.dv [] (.bool (r.2.1))), (.dv [] (.int .i64 (r.2.2.1.1))), (.dv [] (.int .i64 (r.2.2.1.2.1))), (.dv [] (.str (r.2.2.1.2.2))), (.dv [] (.int .i64 (r.2.2.2.1))), (.dv [] (.int .i64 (r.2.2.2.2.1))), (.dv [] (.str (r.2.2.2.2.2)))]] (.one (.key 7)) [(7, some (kcOf false (itemsD (x.2.1.filter (inIt r)))))] := by
 refine ⟨fn_intro Try.func11 rfl Try.ntmps11 Try.results11 rfl (fun C => ?_)⟩
 refine yF 0 0 rfl rfl fun f0_0 => ?_
 refine yF 0 1 rfl rfl fun f0_1 => ?_
 refine yF 0 2 rfl rfl fun f0_2 => ?_
 refine yF 1 2 rfl rfl fun f1_2 => ?_
 refine yF 1 3 rfl rfl fun f1_3 => ?_
 refine yF 1 4 rfl rfl fun f1_4 => ?_
 refine yF 1 5 rfl rfl fun f1_5 => ?_
 refine yF 1 6 rfl rfl fun f1_6 => ?_
 refine yF 1 7 rfl rfl fun f1_7 => ?_
 iterate 6 refine z ?_
 refine o_build0 (k := 7) hT rfl rfl rfl rfl rfl rfl rfl rfl ?_
 iterate 7 refine z ?_
 refine ok_loop (ι := Nat) (fun zz => ⟨[(2, .box 2 0), (3, .box 3 0), (4, .one .nil), (5, .one (.key 7)), (6, .one (.dv [] (.int .i64 ((zz : Int)))))], [(2, 26, [(.dv [] (.str (x.1))), (.dv [] (itemsD (x.2.1))), (.dv [] (.int .i64 (x.2.2)))]), (3, 30, [(.dv [] (.bool (r.1))), (.dv [] (.bool (r.2.1))), (.dv [] (.int .i64 (r.2.2.1.1))), (.dv [] (.int .i64 (r.2.2.1.2.1))), (.dv [] (.str (r.2.2.1.2.2))), (.dv [] (.int .i64 (r.2.2.2.1))), (.dv [] (.int .i64 (r.2.2.2.2.1))), (.dv [] (.str (r.2.2.2.2.2)))])], [(7, some (kcOf false (.sl 42 4 (((x.2.1.take zz).filter (inIt r)).length) (((x.2.1.take zz).filter (inIt r)).flatMap eItem))))]⟩) (fun zz => zz ≤ x.2.1.length) (fun zz => x.2.1.length - zz) (0) ?_ (weak_sub ⟨rfl, rfl, rfl, rfl, rfl, trivial⟩ ⟨rfl, rfl, trivial⟩ ⟨rfl, trivial⟩ rfl) (fun zz hx => ?_)
 ·exact Nat.zero_le _
 obtain ⟨k, rfl⟩ : ∃ v, v = zz := ⟨_, rfl⟩
 replace hx : k ≤ x.2.1.length := hx
 have hw := fun h => wSum_succ wItem x.2.1 k h
 show Ok _ _ _ _ _ (⟨[(2, .box 2 0), (3, .box 3 0), (4, .one .nil), (5, .one (.key 7)), (6, .one (.dv [] (.int .i64 ((k : Int)))))], [(2, 26, [(.dv [] (.str (x.1))), (.dv [] (itemsD (x.2.1))), (.dv [] (.int .i64 (x.2.2)))]), (3, 30, [(.dv [] (.bool (r.1))), (.dv [] (.bool (r.2.1))), (.dv [] (.int .i64 (r.2.2.1.1))), (.dv [] (.int .i64 (r.2.2.1.2.1))), (.dv [] (.str (r.2.2.1.2.2))), (.dv [] (.int .i64 (r.2.2.2.1))), (.dv [] (.int .i64 (r.2.2.2.2.1))), (.dv [] (.str (r.2.2.2.2.2)))])], [(7, some (kcOf false (.sl 42 4 (((x.2.1.take k).filter (inIt r)).length) (((x.2.1.take k).filter (inIt r)).flatMap eItem))))]⟩ : St)
 iterate 8 refine z ?_
 refine yQ rfl (fun c1 => ?_) fun c1 => ?_
 ·skip
  have d1 := of_decide_eq_true c1
  have hk2 : k < x.2.1.length := by omega
  have hlen : x.2.1.length ≤ 1048576 := by have h3 : wStore x = x.1.size + (x.2.1.length + wSum wItem x.2.1) := rfl; omega
  have hrec : wItem (x.2.1.getD (k : Int).toNat default) ≤ 1048576 := by have := hw hk2; have h3 : wStore x = x.1.size + (x.2.1.length + wSum wItem x.2.1) := rfl; omega
  iterate 4 refine z ?_
  refine ok_seq ?_
  refine ok_regionD (oB := [2, 3]) (oK := [7]) (by kernel_rfl) rfl rfl ?_
  refine zD 0 ?_
  refine zD 1 ?_
  refine zD 2 ?_
  refine zD 3 ?_
  refine zD 4 ?_
  refine zD 5 ?_
  refine zD 6 ?_
  refine d_call 7 rfl (by kernel_rfl) rfl rfl rfl Try.call19 ok_spec_InRangeOf (as_cons (ev_tmp rfl) (ag_agg (ag_cons ac_dv (ag_cons ac_dv (ag_cons ac_dv ag_nil)))) (as_cons (ev_tmp rfl) (ag_agg (ag_cons ac_dv (ag_cons ac_dv (ag_cons ac_dv (ag_cons ac_dv (ag_cons ac_dv (ag_cons ac_dv (ag_cons ac_dv (ag_cons ac_dv ag_nil))))))))) as_nil)) rfl rfl rfl rfl ?_
  refine d_done (by kernel_rfl) ?_
  refine z ?_
  refine yQ rfl (fun c2 => ?_) fun c2 => ?_
  ·skip
   refine ok_region ?_
   iterate 6 refine z ?_
   refine zK 29000 Try.call44 ?_ (hf := ok_spec_l6Item (by first | omega | exact Nat.le_trans (item_len _) hrec | exact Nat.le_trans (item_len _) (Nat.le_trans hrec (by decide))))
   refine o_build1 (k := 30) (js := [36003]) hT rfl rfl rfl rfl rfl rfl rfl rfl rfl (ev_tmp rfl) rfl rfl (ow_cons' (ow_dv rfl) (ow_cons' (ow_dv rfl) (ow_cons' (ow_dv rfl) (ow_cons' (ow_key rfl) ow_nil rfl) rfl) rfl) rfl) (by decide) (by decide) rfl rfl ?_
   simp only [killT, killB, SV.kill, CV.kill, kk, Nat.reduceBEq]
   refine o_appK (k := 7) (j := 30) (cs := ((x.2.1.take (k + 1)).filter (inIt r)).flatMap eItem) (n := ((x.2.1.take (k + 1)).filter (inIt r)).length) hT rfl rfl rfl rfl rfl rfl rfl (ev_tmp rfl) rfl rfl rfl (ev_tmp rfl) rfl rfl (by decide) (by have := filt_len (p := inIt r) x.2.1 k; dsimp only [kcOf]; omega) (by have := filt_len (p := inIt r) x.2.1 k; dsimp only [kcOf]; omega) ((flt_yes (p := inIt r) hk2 c2).2) ((flt_yes (p := inIt r) hk2 c2).1) ?_
   simp only [killT, killB, SV.kill, CV.kill, kk, Nat.reduceBEq]
   refine z ?_
   refine ops_nil ?_
   iterate 2 refine z ?_
   refine ok_region ?_
   iterate 4 refine z ?_
   refine ⟨k + 1, ?_, ?_, weak_sub ⟨rfl, rfl, rfl, rfl, rfl, trivial⟩ ⟨rfl, rfl, trivial⟩ ⟨rfl, trivial⟩ rfl⟩
   ·omega
   ·omega
  ·skip
   iterate 3 refine z ?_
   refine ok_region ?_
   iterate 4 refine z ?_
   refine ⟨k + 1, ?_, ?_, weak_sub ⟨rfl, rfl, rfl, rfl, rfl, trivial⟩ ⟨rfl, rfl, trivial⟩ ⟨(congrArg (fun l : List ItemT => some (some (KC.mk false 42 4 l.length (l.flatMap eItem)))) (flt_no (p := inIt r) hk2 c2)), trivial⟩ rfl⟩
   ·omega
   ·omega
 ·skip
  have d1 := of_decide_eq_false c1
  iterate 9 refine z ?_
  refine ok_weak (σ' := ⟨[(4, .one (.key 7))], [], [(7, some (kcOf false (itemsD (x.2.1.filter (inIt r)))))]⟩) (weak_sub ⟨rfl, trivial⟩ trivial ⟨(congrArg (fun l : List ItemT => some (some (KC.mk false 42 4 l.length (l.flatMap eItem)))) (show ((x.2.1.take k).filter (inIt r)) = x.2.1.filter (inIt r) by rw [show k = x.2.1.length by omega, List.take_length])), trivial⟩ rfl) ?_
  refine z ?_
  refine fin1 (res_tmp rfl) ?_
  exact ⟨rfl, rfl⟩
end Go.Proofs.Ytmnimdnmedldgaa

namespace Go.Proofs.Ytmnimdnmedldgaa
open Go.RowKit
open Go.Proofs
set_option linter.unusedVariables false
set_option linter.unusedSimpArgs false

theorem sEq_self (s : Str) : sEq s s = true := by simp [sEq]
theorem eqL_self {α : Type} [Inhabited α] {p : α → α → Bool} (h : ∀ x, p x x = true) (xs : List α) : eqL p xs xs = true := by
 unfold eqL
 simp [h]
theorem eqRec_self (r : RecT) : eqRec r r = true := eqL_self (fun f => by simp [eqFld, sEq_self]) r
theorem eqKey_self (k : KeyT) : eqKeyB k k = true := by simp [eqKeyB, sEq_self]
theorem eqItem_self (x : ItemT) : eqItemB x x = true := by simp [eqItemB, eqKey_self, eqRec_self]
theorem eqStore_self (s : StoreT) : eqStoreB s s = true := by simp [eqStoreB, sEq_self, eqL_self eqItem_self]
theorem ok_laws_FnStores {x0 : List UInt8}  : PFn Try.prog 6 [.one (.dv [] (bytesD (x0)))] (.one (.dv [] (.bool (true)))) := by
 refine ⟨fn_intro Try.func6 rfl Try.ntmps6 Try.results6 rfl (fun C => ?_)⟩
 refine ok_fact (x := .tmp 0) (ev_tmp rfl) fun f0 => ?_
 iterate 6 refine z ?_
 refine zC Try.call7 ?_ (hf := ok_laws_big (code := x0) )
 refine z ?_
 refine yQ rfl (fun c1 => ?_) fun c1 => ?_
 ·skip
  have d1 := of_decide_eq_true c1
  iterate 6 refine z ?_
  rfl
 ·skip
  have d1 := of_decide_eq_false c1
  iterate 4 refine z ?_
  refine o_callE 0 rfl rfl rfl Try.call32 (ok_spec_DrawPutItem (code := x0) (by omega)) (as_cons (ev_tmp rfl) (ag_one ac_dv) as_nil) rfl (fun _ => rfl) (fun _ => rfl) (fun zz hz23 => ?_)
  obtain ⟨e23_0, e23_1, e23_2⟩ := zz
  replace hz23 : wStore e23_0 ≤ 1500 ∧ e23_1.2.2.size ≤ 13 ∧ wRecord e23_2 ≤ 200 := hz23
  have hw0 : wRecord e23_2 = e23_2.length + wSum wField e23_2 := rfl
  have hwk : wKey e23_1 = e23_1.2.2.size := rfl
  have hpw := putN_w e23_0 e23_1 e23_2
  have haw := autoN_w (putN e23_0 e23_1 e23_2).1 e23_2
  have hlx : wStore (autoN (putN e23_0 e23_1 e23_2).1 e23_2).1 = (autoN (putN e23_0 e23_1 e23_2).1 e23_2).1.1.size + ((autoN (putN e23_0 e23_1 e23_2).1 e23_2).1.2.1.length + wSum wItem (autoN (putN e23_0 e23_1 e23_2).1 e23_2).1.2.1) := rfl
  have hly : wStore (putN e23_0 e23_1 e23_2).1 = (putN e23_0 e23_1 e23_2).1.1.size + ((putN e23_0 e23_1 e23_2).1.2.1.length + wSum wItem (putN e23_0 e23_1 e23_2).1.2.1) := rfl
  iterate 15 refine z ?_
  refine o_callK 100 rfl rfl rfl Try.call33 (ok_impl_PutItem (x := e23_0) (k := e23_1) (r := e23_2) (by omega) (by omega)) (as_cons (ev_tmp rfl) (ag_agg (ag_cons ac_dv (ag_cons (ac_key' rfl rfl) (ag_cons ac_dv ag_nil)))) (as_cons (ev_tmp rfl) (ag_agg (ag_cons ac_dv (ag_cons ac_dv (ag_cons ac_dv ag_nil)))) (as_cons (ev_tmp rfl) (ag_agg (ag_cons (ac_key' rfl rfl) ag_nil)) as_nil))) rfl rfl rfl ?_
  iterate 11 refine z ?_
  refine o_callK 200 rfl rfl rfl Try.call34 (ok_impl_AddItem (x := e23_0) (k := e23_1) (r := e23_2) (by omega) (by omega)) (as_cons (ev_tmp rfl) (ag_agg (ag_cons ac_dv (ag_cons (ac_key' rfl rfl) (ag_cons ac_dv ag_nil)))) (as_cons (ev_tmp rfl) (ag_agg (ag_cons ac_dv (ag_cons ac_dv (ag_cons ac_dv ag_nil)))) (as_cons (ev_tmp rfl) (ag_agg (ag_cons (ac_key' rfl rfl) ag_nil)) as_nil))) rfl rfl rfl ?_
  iterate 12 refine z ?_
  refine o_callK 300 rfl rfl rfl Try.call35 (ok_spec_PutItem (x := e23_0) (k := e23_1) (r := e23_2) (by omega) (by omega)) (as_cons (ev_tmp rfl) (ag_agg (ag_cons ac_dv (ag_cons (ac_key' rfl rfl) (ag_cons ac_dv ag_nil)))) (as_cons (ev_tmp rfl) (ag_agg (ag_cons ac_dv (ag_cons ac_dv (ag_cons ac_dv ag_nil)))) (as_cons (ev_tmp rfl) (ag_agg (ag_cons (ac_key' rfl rfl) ag_nil)) as_nil))) rfl rfl rfl ?_
  iterate 10 refine z ?_
  refine yO rfl rfl (pu_bneq hT rfl rfl (ev_tmp rfl) (ev_tmp rfl)) rfl ?_
  iterate 6 refine z ?_
  refine o_callG (gd_opt rfl rfl rfl rfl rfl) rfl rfl Try.call20 (ok_impl_FindItem (x := e23_0) (k := e23_1) ) (fun hg => (as_cons (ev_opt rfl hg) (ag_agg (ag_cons ac_dv (ag_cons (ac_key' rfl rfl) (ag_cons ac_dv ag_nil)))) (as_cons (ev_opt rfl hg) (ag_agg (ag_cons ac_dv (ag_cons ac_dv (ag_cons ac_dv ag_nil)))) as_nil))) rfl rfl ?_
  iterate 2 refine z ?_
  refine o_pureG (gd_bool rfl rfl rfl rfl rfl) rfl (fun hg => pu_bneq hT rfl rfl (ev_opt rfl hg) (ev_opt rfl hg)) rfl rfl ?_
  iterate 2 refine z ?_
  refine yQ rfl (fun c2 => ?_) fun c2 => ?_
  ·skip
   iterate 6 refine z ?_
   exfalso; revert c2; rw [add_two]; simp
  ·skip
   iterate 7 refine z ?_
   refine yQ rfl (fun c3 => ?_) fun c3 => ?_
   ·skip
    iterate 3 refine z ?_
    refine o_call rfl rfl rfl Try.call18 (ok_impl_EqualStores (x := (putN (e23_0) (e23_1) (e23_2)).1) (y := e23_0) ) (as_cons (ev_tmp rfl) (ag_agg (ag_cons ac_dv (ag_cons (ac_key' rfl rfl) (ag_cons ac_dv ag_nil)))) (as_cons (ev_tmp rfl) (ag_agg (ag_cons ac_dv (ag_cons (ac_key' rfl rfl) (ag_cons ac_dv ag_nil)))) as_nil)) rfl rfl ?_
    iterate 3 refine z ?_
    refine o_callG (gd_bool rfl rfl rfl rfl rfl) rfl rfl Try.call18 (ok_impl_EqualStores (x := (addN (e23_0) (e23_1) (e23_2)).1) (y := e23_0) ) (fun hg => (as_cons (ev_opt rfl hg) (ag_agg (ag_cons ac_dv (ag_cons (ac_key' rfl rfl) (ag_cons ac_dv ag_nil)))) (as_cons (ev_opt rfl hg) (ag_agg (ag_cons ac_dv (ag_cons (ac_key' rfl rfl) (ag_cons ac_dv ag_nil)))) as_nil))) rfl rfl ?_
    iterate 6 refine z ?_
    have e0 : (putN e23_0 e23_1 e23_2).2 = false := by simpa using c3
    have e1 : (putN e23_0 e23_1 e23_2).1 = e23_0 := putN_f e0
    have e2 : (addN e23_0 e23_1 e23_2).1 = e23_0 := addN_f (by rw [add_two, e0]; rfl)
    rw [e1, e2, eqStore_self]; rfl
   ·skip
    have hok : (putN e23_0 e23_1 e23_2).2 = true := by simpa using c3
    have hf := put_find hok
    iterate 5 refine z ?_
    refine o_call rfl rfl rfl Try.call20 (ok_impl_FindItem (x := (putN (e23_0) (e23_1) (e23_2)).1) (k := e23_1) ) (as_cons (ev_tmp rfl) (ag_agg (ag_cons ac_dv (ag_cons (ac_key' rfl rfl) (ag_cons ac_dv ag_nil)))) (as_cons (ev_tmp rfl) (ag_agg (ag_cons ac_dv (ag_cons ac_dv (ag_cons ac_dv ag_nil)))) as_nil)) rfl rfl ?_
    iterate 2 refine z ?_
    refine ok_seq ?_
    refine ok_seq ?_
    refine ok_regionD (oB := [3, 4, 5, 6, 8, 10]) (oK := [9001, 9002, 9101, 9201, 9301]) (by kernel_rfl) rfl rfl ?_
    refine zD 0 ?_
    refine zD 1 ?_
    refine zD 2 ?_
    refine zDG 3 ?_
    refine zDG 4 ?_
    refine zDG 5 ?_
    refine d_takeG 6 rfl (by kernel_rfl) (gd_bool rfl rfl rfl rfl rfl) rfl (fun hg => pu_lenKn (n := (((putN (e23_0) (e23_1) (e23_2)).1.2.1)).length) hT rfl rfl (ev_opt rfl hg) rfl rfl) rfl rfl rfl rfl ?_
    refine zDG 7 ?_
    refine zD 8 ?_
    refine zD 9 ?_
    refine zDG 10 ?_
    refine d_takeG 11 rfl (by kernel_rfl) (gd_bool rfl rfl rfl rfl rfl) rfl (fun hg => pu_view (dd := itemsD ((putN e23_0 e23_1 e23_2).1.2.1)) (pu_loadBox1 hT rfl rfl (ev_opt rfl hg) rfl rfl) rfl rfl) rfl rfl rfl rfl ?_
    refine zDG 12 ?_
    refine zDG 13 ?_
    refine zDG 14 ?_
    refine zDG 15 ?_
    refine zDG 16 ?_
    refine d_callG 17 rfl (by kernel_rfl) (gd_bool rfl rfl rfl rfl rfl) rfl rfl Try.call36 (ok_impl_EqualRecords (x := ((((putN e23_0 e23_1 e23_2).1.2.1)).getD (fndK ((putN (e23_0) (e23_1) (e23_2)).1) (e23_1)).toNat default).2) (y := e23_2) ) (fun hg => (as_cons (ev_opt rfl hg) (ag_agg (ag_cons ac_dv ag_nil)) (as_cons (ev_opt rfl hg) (ag_agg (ag_cons (ac_key' rfl rfl) ag_nil)) as_nil))) rfl rfl ?_
    refine zDG 18 ?_
    refine zD 19 ?_
    refine zD 20 ?_
    refine zDG 21 ?_
    refine d_callG 22 rfl (by kernel_rfl) (gd_bool rfl rfl rfl rfl rfl) rfl rfl Try.call37 (ok_impl_IsStore (s := (putN (e23_0) (e23_1) (e23_2)).1) ) (fun hg => (as_cons (ev_opt rfl hg) (ag_agg (ag_cons ac_dv (ag_cons (ac_key' rfl rfl) (ag_cons ac_dv ag_nil)))) as_nil)) rfl rfl ?_
    refine zDG 23 ?_
    refine zD 24 ?_
    refine zD 25 ?_
    refine zDG 26 ?_
    refine zDG 27 ?_
    refine zDG 28 ?_
    refine zDG 29 ?_
    refine zDG 30 ?_
    refine zD 31 ?_
    refine d_done (by kernel_rfl) ?_
    refine z ?_
    refine yQ rfl (fun c4 => ?_) fun c4 => ?_
    ·skip
     iterate 6 refine z ?_
     exfalso
     have q1 : ¬ fndK (putN e23_0 e23_1 e23_2).1 e23_1 < 0 := by omega
     have q2 : ¬ ((putN e23_0 e23_1 e23_2).1.2.1.length : Int) ≤ fndK (putN e23_0 e23_1 e23_2).1 e23_1 := by omega
     have q3 : ¬ (putN e23_0 e23_1 e23_2).1.2.2 < e23_0.2.2 := by have := put_auto (x := e23_0) (k := e23_1) (r := e23_2); omega
     revert c4
     rw [hf.2.2, eqRec_self, put_sto hok, decide_eq_false q1, decide_eq_false q2, decide_eq_false q3]
     simp
    ·skip
     iterate 5 refine z ?_
     refine o_callK 400 rfl rfl rfl Try.call38 (ok_impl_AutoItem (x := (putN (e23_0) (e23_1) (e23_2)).1) (r := e23_2) (by omega) (by omega)) (as_cons (ev_tmp rfl) (ag_agg (ag_cons ac_dv (ag_cons (ac_key' rfl rfl) (ag_cons ac_dv ag_nil)))) (as_cons (ev_tmp rfl) (ag_agg (ag_cons (ac_key' rfl rfl) ag_nil)) as_nil)) rfl rfl rfl ?_
     iterate 14 refine z ?_
     refine o_callK 500 rfl rfl rfl Try.call39 (ok_spec_AutoItem (x := (putN (e23_0) (e23_1) (e23_2)).1) (r := e23_2) (by omega) (by omega)) (as_cons (ev_tmp rfl) (ag_agg (ag_cons ac_dv (ag_cons (ac_key' rfl rfl) (ag_cons ac_dv ag_nil)))) (as_cons (ev_tmp rfl) (ag_agg (ag_cons (ac_key' rfl rfl) ag_nil)) as_nil)) rfl rfl rfl ?_
     iterate 13 refine z ?_
     refine yO rfl rfl (pu_bneq hT rfl rfl (ev_tmp rfl) (ev_tmp rfl)) rfl ?_
     refine z ?_
     refine yQ rfl (fun c5 => ?_) fun c5 => ?_
     ·skip
      iterate 6 refine z ?_
      exfalso; revert c5; simp
     ·skip
      iterate 8 refine z ?_
      refine o_callG (gd_bool rfl rfl rfl rfl rfl) rfl rfl Try.call20 (ok_impl_FindItem (x := (putN (e23_0) (e23_1) (e23_2)).1) (k := (autoN ((putN (e23_0) (e23_1) (e23_2)).1) (e23_2)).2.1) ) (fun hg => (as_cons (ev_opt rfl hg) (ag_agg (ag_cons ac_dv (ag_cons (ac_key' rfl rfl) (ag_cons ac_dv ag_nil)))) (as_cons (ev_opt rfl hg) (ag_agg (ag_cons ac_dv (ag_cons ac_dv (ag_cons ac_dv ag_nil)))) as_nil))) rfl rfl ?_
      iterate 4 refine z ?_
      refine o_callG (gd_opt rfl rfl rfl rfl rfl) rfl rfl Try.call20 (ok_impl_FindItem (x := (autoN ((putN (e23_0) (e23_1) (e23_2)).1) (e23_2)).1) (k := (autoN ((putN (e23_0) (e23_1) (e23_2)).1) (e23_2)).2.1) ) (fun hg => (as_cons (ev_opt rfl hg) (ag_agg (ag_cons ac_dv (ag_cons (ac_key' rfl rfl) (ag_cons ac_dv ag_nil)))) (as_cons (ev_opt rfl hg) (ag_agg (ag_cons ac_dv (ag_cons ac_dv (ag_cons ac_dv ag_nil)))) as_nil))) rfl rfl ?_
      iterate 12 refine z ?_
      refine o_pureG (gd_opt rfl rfl rfl rfl rfl) rfl (fun hg => pu_lenKn (n := (((autoN ((putN (e23_0) (e23_1) (e23_2)).1) (e23_2)).1.2.1)).length) hT rfl rfl (ev_opt rfl hg) rfl rfl) rfl rfl ?_
      iterate 2 refine z ?_
      refine o_pureG (gd_opt rfl rfl rfl rfl rfl) rfl (fun hg => pu_lenKn (n := (((putN (e23_0) (e23_1) (e23_2)).1.2.1)).length) hT rfl rfl (ev_opt rfl hg) rfl rfl) rfl rfl ?_
      iterate 8 refine z ?_
      cases hz : (autoN (putN e23_0 e23_1 e23_2).1 e23_2).2.2 with
      | false => rfl
      | true =>
       obtain ⟨a1, a2, a3, a4, a5⟩ := auto_law hz
       have q1 : (putN e23_0 e23_1 e23_2).1.2.2 < (keyA (putN e23_0 e23_1 e23_2).1).2.1 := by show (putN e23_0 e23_1 e23_2).1.2.2 < (putN e23_0 e23_1 e23_2).1.2.2 + 1; omega
       have q2 : ((autoN (putN e23_0 e23_1 e23_2).1 e23_2).1.2.1.length : Int) = ((putN e23_0 e23_1 e23_2).1.2.1.length : Int) + 1 := by omega
       rw [a1, decide_eq_true a2, decide_eq_true a3, decide_eq_true q1, decide_eq_true q2]; rfl
end Go.Proofs.Ytmnimdnmedldgaa

