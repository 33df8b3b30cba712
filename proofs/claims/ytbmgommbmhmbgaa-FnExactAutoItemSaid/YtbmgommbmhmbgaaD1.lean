/-
  Marks: texts of numbers, fields, records, items.
-/
import Derived.Test.YtbmgommbmhmbgaaB3
namespace Go.Proofs.Ytbmgommbmhmbgaa
open Go.RowKit
open Go.Proofs
set_option linter.unusedVariables false
set_option linter.unusedSimpArgs false

theorem eqSlotI {k : IntKind} {a b : Int} (h : a = b) : some (SV.one (CV.dv [] (DV.int k a))) = some (SV.one (CV.dv [] (DV.int k b))) := by rw [h]
def mkL {α : Type} (m : α → Int → α) (c : α → Nat) : List α → Int → List α
  | [], _ => []
  | x :: xs, k => m x k :: mkL m c xs (k + (c x : Int))
theorem mkL_len {α : Type} {m : α → Int → α} {c : α → Nat} : ∀ (xs : List α) (k : Int), (mkL m c xs k).length = xs.length
  | [], _ => rfl
  | x :: xs, k => by rw [mkL, List.length_cons, mkL_len xs, List.length_cons]
theorem mkL_app {α : Type} {m : α → Int → α} {c : α → Nat} : ∀ (xs ys : List α) (k : Int), mkL m c (xs ++ ys) k = mkL m c xs k ++ mkL m c ys (k + (wSum c xs : Int))
  | [], ys, k => by simp [mkL, wSum]
  | x :: xs, ys, k => by
    rw [List.cons_append, mkL, mkL_app xs ys, mkL, List.cons_append]
    congr 3
    have : wSum c (x :: xs) = c x + wSum c xs := by simp [wSum]
    omega
theorem getD_at {α : Type} [Inhabited α] {xs : List α} {j : Nat} (h : j < xs.length) : xs.getD (j : Int).toNat default = xs[j] := by simp [List.getD, List.getElem?_eq_getElem h]
theorem mkL_succ {α : Type} [Inhabited α] {m : α → Int → α} {c : α → Nat} {xs : List α} {j : Nat} {k : Int} (h : j < xs.length) : mkL m c (xs.take (j + 1)) k = mkL m c (xs.take j) k ++ [m (xs.getD (j : Int).toNat default) (k + (wSum c (xs.take j) : Int))] := by
  rw [List.take_add_one, List.getElem?_eq_getElem h, mkL_app, getD_at h]; rfl
theorem mkL_getD {α : Type} [Inhabited α] {m : α → Int → α} {c : α → Nat} {xs : List α} {j : Nat} {k : Int} (h : j < xs.length) : (mkL m c xs k).getD (j : Int).toNat default = m (xs.getD (j : Int).toNat default) (k + (wSum c (xs.take j) : Int)) := by
  have e : mkL m c xs k = mkL m c (xs.take (j + 1)) k ++ mkL m c (xs.drop (j + 1)) (k + (wSum c (xs.take (j + 1)) : Int)) := by rw [← mkL_app, List.take_append_drop]
  rw [e, mkL_succ h]
  have hl : (mkL m c (xs.take j) k).length = j := by rw [mkL_len, List.length_take]; omega
  have : (j : Int).toNat = j := by omega
  rw [List.getD, List.append_assoc, List.getElem?_append_right (by omega), show (j : Int).toNat - (mkL m c (xs.take j) k).length = 0 by omega]
  rfl
theorem drop_flat {α : Type} [Inhabited α] {enc : α → List DV} {xs : List α} {j : Nat} (h : j < xs.length) : (xs.drop j).flatMap enc = enc (xs.getD (j : Int).toNat default) ++ (xs.drop (j + 1)).flatMap enc := by
  rw [List.drop_eq_getElem_cons h, List.flatMap_cons, getD_at h]
theorem mk_open {α : Type} [Inhabited α] {enc : α → List DV} {A : List DV} {xs : List α} {j : Nat} (h : j < xs.length) : A ++ (xs.drop j).flatMap enc = mid A (enc (xs.getD (j : Int).toNat default)) ((xs.drop (j + 1)).flatMap enc) := by rw [drop_flat h]; rfl
theorem mk_close {α : Type} [Inhabited α] {m : α → Int → α} {c : α → Nat} {enc : α → List DV} {B C : List DV} {xs : List α} {j : Nat} {k : Int} (h : j < xs.length) (hB : B = enc (m (xs.getD (j : Int).toNat default) (k + (wSum c (xs.take j) : Int)))) : mid ((mkL m c (xs.take j) k).flatMap enc) B C = (mkL m c (xs.take (j + 1)) k).flatMap enc ++ C := by
  unfold mid
  rw [mkL_succ h, List.flatMap_append, hB]; simp
theorem mk_fin {α : Type} {m : α → Int → α} {c : α → Nat} {enc : α → List DV} {e sz : Nat} {xs : List α} {j : Nat} {k : Int} (h : xs.length ≤ j) : some (some (KC.mk true e sz xs.length ((mkL m c (xs.take j) k).flatMap enc ++ (xs.drop j).flatMap enc))) = some (some (kcOf true (listD e sz enc (mkL m c xs k)))) := by
  rw [List.take_of_length_le h, List.drop_eq_nil_of_le h]
  simp only [listD, kcOf, mkL_len, List.flatMap_nil, List.append_nil]
theorem mk_pre {α : Type} {m : α → Int → α} {c : α → Nat} {enc : α → List DV} {sz : Nat} (hs : ∀ x, (enc x).length = sz) {xs : List α} {j : Nat} {k : Int} (h : j ≤ xs.length) : ((mkL m c (xs.take j) k).flatMap enc).length = j * sz := by
  rw [flat_len hs, mkL_len, List.length_take, Nat.min_eq_left h]
theorem wSum_bound {α : Type} {c w : α → Nat} (h : ∀ x, c x ≤ 8 * (1 + w x)) : ∀ xs : List α, wSum c xs ≤ 8 * wList w xs
  | [] => by simp [wSum, wList]
  | x :: xs => by
    have := wSum_bound h xs
    have := h x
    simp only [wSum, wList, List.map_cons, List.sum_cons, List.length_cons] at *
    omega
theorem wSum_ge {α : Type} {c : α → Nat} (h : ∀ x, 1 ≤ c x) : ∀ xs : List α, xs.length ≤ wSum c xs
  | [] => by simp [wSum]
  | x :: xs => by
    have := wSum_ge h xs
    have := h x
    simp only [wSum, List.map_cons, List.sum_cons, List.length_cons] at *
    omega
theorem wSum_const {α : Type} {n : Nat} : ∀ xs : List α, wSum (fun _ => n) xs = n * xs.length
  | [] => by simp [wSum]
  | x :: xs => by
    have := wSum_const (n := n) xs
    simp only [wSum, List.map_cons, List.sum_cons, List.length_cons] at *
    rw [Nat.mul_add]; omega
def mDig (k : Nat) (out : Str) : Str := if k = 0 then out else mDig (k / 10) (strOf [UInt8.ofNat (IntKind.u8.wrap (48 + (k : Int) % 10)).toNat] ++ out)
termination_by k
theorem mDig_go {k : Nat} {out : Str} (h : 0 < (k : Int)) : mDig (k / 10) (strOf [UInt8.ofNat (IntKind.u8.wrap (48 + (k : Int) % 10)).toNat] ++ out) = mDig k out := by rw [mDig.eq_def k out, if_neg (by omega)]
theorem mDig_end {k : Nat} {out : Str} (h : ¬ 0 < (k : Int)) : mDig k out = out := by rw [mDig.eq_def k out, if_pos (by omega)]
def mText (k : Int) : Str := if k ≤ 0 then ByteArray.mk #[109, 48] else ByteArray.mk #[109] ++ mDig k.toNat (ByteArray.mk #[])

def mkByte (_ : UInt8) (k : Int) : UInt8 := UInt8.ofNat (k % 256).toNat
def cByte (_ : UInt8) : Nat := 1
def mkInt (_ : Int) (k : Int) : Int := k
def cInt (_ : Int) : Nat := 1
def mkStr (_ : Str) (k : Int) : Str := mText k
def cStr (_ : Str) : Nat := 1
def mkField (x : FieldT) (k : Int) : FieldT := (mText (k), (k) + (1))
def cField (x : FieldT) : Nat := 2
theorem cField_le (x : FieldT) : cField x ≤ 8 * (1 + wField x) := by
  simp only [cField]
  omega
def mkItem (x : ItemT) (k : Int) : ItemT := ((k, (k) + (1), mText (((k) + (1)) + (1))), mkL mkField cField (x.2) ((((k) + (1)) + (1)) + (1)))
def cItem (x : ItemT) : Nat := 3 + wSum cField (x.2)
theorem cItem_le (x : ItemT) : cItem x ≤ 8 * (1 + wItem x) := by
  have h3 := wSum_bound cField_le (x.2)
  simp only [cItem, wItem, wKey, wRecord]
  omega
def mvRecord (x : RecT) (k : Int) : RecT := mkL mkField cField (x) (k)
def mvItem (x : ItemT) (k : Int) : ItemT := ((x.1.1, x.1.2.1, x.1.2.2), mkL mkField cField (x.2) (k))
set_option maxRecDepth 100000 in
theorem ok_laws_markText {k : Int} (hk : k ≤ 9000000000000000000) : PFn Try.prog 54 [.one (.dv [] (.int .i64 (k)))] (.one (.dv [] (.str (mText k)))) := by
  refine ⟨fn_intro Try.func54 rfl Try.ntmps54 Try.results54 rfl (fun C => ?_)⟩
  refine ok_fact (x := .tmp 0) (ev_tmp rfl) (fun (f0 : -9223372036854775808 ≤ (k) ∧ (k) ≤ 9223372036854775807) => ?_)
  refine ok_seq ?_
  refine ok_region ?_
  refine o_pure rfl rfl (pu_move (.inr rfl) (ev_str (str_lit rfl))) rfl rfl ?_
  refine ops_nil ?_
  refine then_n ?_
  refine ok_seq ?_
  refine ok_seq ?_
  refine ok_region ?_
  refine o_pure rfl rfl (pu_move (.inl rfl) (ev_tmp rfl)) rfl rfl ?_
  refine o_pure rfl rfl (pu_leq rfl (ev_tmp rfl) (ev_int (inR_lit rfl))) rfl rfl ?_
  refine ops_nil ?_
  refine then_n ?_
  refine ok_cond (ev_tmp rfl) (fun c1 => ?_) (fun c1 => ?_)
  · skip
    have d1 := of_decide_eq_true c1
    refine ok_seq ?_
    refine ok_region ?_
    refine o_pure rfl rfl (pu_move (.inr rfl) (ev_str (str_lit rfl))) rfl rfl ?_
    refine ops_nil ?_
    refine then_n ?_
    refine ok_ret ?_
    refine then_r ?_
    refine fin1 (res_tmp rfl) (eqS ?_)
    rw [mText, if_pos d1]
  · skip
    have d1 := of_decide_eq_false c1
    refine ok_skip ?_
    refine then_n ?_
    refine ok_seq ?_
    refine ok_region ?_
    refine o_pure rfl rfl (pu_move (.inr rfl) (ev_str (str_lit rfl))) rfl rfl ?_
    refine ops_nil ?_
    refine then_n ?_
    refine ok_seq ?_
    refine ok_block ?_
    refine ok_loop (ι := Nat × Str) (fun zz => ⟨[(0, .one (.dv [] (.int .i64 ((zz.1 : Int))))), (2, .one (.dv [] (.str (ByteArray.mk #[])))), (3, .one (.dv [] (.str (zz.2))))], [], []⟩) (fun zz => mDig zz.1 zz.2 = mDig k.toNat (ByteArray.mk #[]) ∧ zz.2.size + zz.1 ≤ k.toNat) (fun zz => zz.1) ((k.toNat, ByteArray.mk #[])) ?_ (weak_sub ⟨(eqSlotI (by show k = ((k.toNat : Nat) : Int); omega)), rfl, rfl, trivial⟩ trivial trivial rfl) (fun zz hx => ?_)
    · exact ⟨rfl, by show 0 + _ ≤ _; omega⟩
    obtain ⟨n, out⟩ := zz
    replace hx : mDig n out = mDig k.toNat (ByteArray.mk #[]) ∧ out.size + n ≤ k.toNat := hx
    obtain ⟨hd, hs⟩ := hx
    show Ok _ _ _ _ _ (⟨[(0, .one (.dv [] (.int .i64 ((n : Int))))), (2, .one (.dv [] (.str (ByteArray.mk #[])))), (3, .one (.dv [] (.str (out))))], [], []⟩ : St)
    refine ok_seq ?_
    refine ok_seq ?_
    refine ok_region ?_
    refine o_pure rfl rfl (pu_move (.inl rfl) (ev_tmp rfl)) rfl rfl ?_
    refine o_pure rfl rfl (pu_gtr rfl (ev_tmp rfl) (ev_int (inR_lit rfl))) rfl rfl ?_
    refine ops_nil ?_
    refine then_n ?_
    refine ok_cond (ev_tmp rfl) (fun c2 => ?_) (fun c2 => ?_)
    · skip
      have d2 := of_decide_eq_true c2
      have hs1 : (strOf [UInt8.ofNat (IntKind.u8.wrap (48 + (n : Int) % 10)).toNat]).size = 1 := rfl
      refine ok_skip ?_
      refine then_n ?_
      refine ok_block ?_
      refine ok_seq ?_
      refine ok_region ?_
      refine o_pure rfl rfl (pu_move (.inl rfl) (ev_tmp rfl)) rfl rfl ?_
      refine o_pure rfl rfl (pu_remN rfl (ev_tmp rfl) (ev_int (inR_lit rfl)) (by omega) (by omega)) rfl rfl ?_
      refine o_pure rfl rfl (pu_addR rfl (ev_int (inR_lit rfl)) (ev_tmp rfl) (inR64 (by omega) (by omega))) rfl rfl ?_
      refine o_pure rfl rfl (pu_convI hT rfl rfl rfl (ev_tmp rfl)) rfl rfl ?_
      refine o_build1 (k := 12) (js := []) hT rfl rfl rfl rfl rfl rfl rfl rfl rfl (ev_tmp rfl) rfl rfl (ow_cons' (ow_dv rfl) ow_nil rfl) (by decide) (by decide) rfl rfl ?_
      simp only [killT, killB, SV.kill, CV.kill, List.map_cons, List.map_nil, List.any_cons, List.any_nil, List.contains_cons, List.contains_nil, List.nil_append, List.cons_append, Nat.reduceBEq, Bool.or_false, Bool.false_or, Bool.or_true, Bool.true_or, cond_true, cond_false]
      refine o_pure rfl rfl (pu_convB1 (b := UInt8.ofNat (IntKind.u8.wrap ((48) + (((n : Int)) % (10)))).toNat) hT rfl rfl rfl rfl (ev_keyv (c := ⟨false, 5, 1, 1, [.int .u8 (IntKind.u8.wrap ((48) + (((n : Int)) % (10))))]⟩) (ev_tmp rfl) rfl) (wrap_u8 _)) rfl rfl ?_
      refine o_pure rfl rfl (pu_move (.inl rfl) (ev_tmp rfl)) rfl rfl ?_
      refine o_pure rfl rfl (pu_sadd rfl (ev_tmp rfl) (ev_tmp rfl) (by omega)) rfl rfl ?_
      refine o_pure rfl rfl (pu_move (.inr rfl) (ev_tmp rfl)) rfl rfl ?_
      refine ops_nil ?_
      refine then_n ?_
      refine ok_region ?_
      refine o_pure rfl rfl (pu_move (.inl rfl) (ev_tmp rfl)) rfl rfl ?_
      refine o_pure rfl rfl (pu_quoN rfl (ev_tmp rfl) (ev_int (inR_lit rfl)) (by omega) (by omega)) rfl rfl ?_
      refine o_pure rfl rfl (pu_move (.inr rfl) (ev_tmp rfl)) rfl rfl ?_
      refine ops_nil ?_
      refine blk_n ?_
      refine then_n ?_
      refine ⟨(n / 10, strOf [UInt8.ofNat (IntKind.u8.wrap (48 + (n : Int) % 10)).toNat] ++ out), ?_, ?_, weak_sub ⟨rfl, rfl, rfl, trivial⟩ trivial trivial rfl⟩
      · exact ⟨(mDig_go d2).trans hd, by rw [ByteArray.size_append, hs1]; dsimp only; omega⟩
      · dsimp only; omega
    · skip
      have d2 := of_decide_eq_false c2
      have hs9 : (ByteArray.mk #[109]).size = 1 := rfl
      refine ok_exit ?_
      refine then_e ?_
      refine then_e ?_
      refine blk_e rfl ?_
      refine then_n ?_
      refine ok_seq ?_
      refine ok_region ?_
      refine o_pure rfl rfl (pu_move (.inl rfl) (ev_tmp rfl)) rfl rfl ?_
      refine o_pure rfl rfl (pu_sadd rfl (ev_str (str_lit rfl)) (ev_tmp rfl) (by omega)) rfl rfl ?_
      refine o_pure rfl rfl (pu_move (.inr rfl) (ev_tmp rfl)) rfl rfl ?_
      refine ops_nil ?_
      refine then_n ?_
      refine ok_ret ?_
      refine fin1 (res_tmp rfl) (eqS ?_)
      rw [mText, if_neg d1, ← hd, mDig_end d2]
set_option maxRecDepth 100000 in
theorem ok_laws_markFieldS {x : List (FieldT)} {k : Int} (h0 : 0 ≤ k) (h1 : k + (wSum cField x : Int) ≤ 4611686018427387904) : WFn Try.prog 55 [.one (.key 0), .one (.dv [] (.int .i64 (k)))] (.one (.dv [] (.int .i64 (k + (wSum cField x : Int))))) [(0, kcOf true (.sl 109 2 (x.length) (x.flatMap eField)))] [(0, kcOf true (fieldsD (mkL mkField cField x k)))] := by
  refine ⟨fn_intro Try.func55 rfl Try.ntmps55 Try.results55 rfl (fun C => ?_)⟩
  have hln : x.length ≤ wSum cField x := wSum_ge (fun _ => by simp only [cField]; omega) x
  refine ok_fact (x := .tmp 1) (ev_tmp rfl) (fun (f1 : -9223372036854775808 ≤ (k) ∧ (k) ≤ 9223372036854775807) => ?_)
  refine ok_seq ?_
  refine ok_region ?_
  refine o_pure rfl rfl (pu_move (.inr rfl) (ev_int (inR_lit rfl))) rfl rfl ?_
  refine ops_nil ?_
  refine then_n ?_
  refine ok_seq ?_
  refine ok_seq ?_
  refine ok_region ?_
  refine o_pure rfl rfl (pu_move (.inr rfl) (ev_int (inR_lit rfl))) rfl rfl ?_
  refine ops_nil ?_
  refine then_n ?_
  refine ok_block ?_
  refine ok_loop (ι := Nat) (fun zz => ⟨[(0, .one (.key 0)), (1, .one (.dv [] (.int .i64 (k + (wSum cField (x.take zz) : Int))))), (4, .one (.dv [] (.int .i64 (0)))), (5, .one (.dv [] (.int .i64 ((zz : Int)))))], [], [(0, some ⟨true, 109, 2, x.length, (mkL mkField cField (x.take zz) k).flatMap eField ++ (x.drop zz).flatMap eField⟩)]⟩) (fun zz => zz ≤ x.length) (fun zz => x.length - zz) (0) ?_ (weak_sub ⟨rfl, (eqSlotI (by simp [wSum])), rfl, rfl, trivial⟩ trivial ⟨rfl, trivial⟩ rfl) (fun zz hx => ?_)
  · exact Nat.zero_le _
  obtain ⟨j, rfl⟩ : ∃ v, v = zz := ⟨_, rfl⟩
  replace hx : j ≤ x.length := hx
  have hw := fun h => wSum_succ cField x j h
  show Ok _ _ _ _ _ (⟨[(0, .one (.key 0)), (1, .one (.dv [] (.int .i64 (k + (wSum cField (x.take j) : Int))))), (4, .one (.dv [] (.int .i64 (0)))), (5, .one (.dv [] (.int .i64 ((j : Int)))))], [], [(0, some ⟨true, 109, 2, x.length, (mkL mkField cField (x.take j) k).flatMap eField ++ (x.drop j).flatMap eField⟩)]⟩ : St)
  refine ok_seq ?_
  refine ok_seq ?_
  refine ok_region ?_
  refine o_pure rfl rfl (pu_move (.inl rfl) (ev_tmp rfl)) rfl rfl ?_
  refine o_pure rfl rfl (pu_move (.inl rfl) (ev_tmp rfl)) rfl rfl ?_
  refine o_pure rfl rfl (pu_lenKn (n := (x.length)) hT rfl rfl (ev_tmp rfl) rfl rfl) rfl rfl ?_
  refine o_pure rfl rfl (pu_lss rfl (ev_tmp rfl) (ev_tmp rfl)) rfl rfl ?_
  refine ops_nil ?_
  refine then_n ?_
  refine ok_cond (ev_tmp rfl) (fun c1 => ?_) (fun c1 => ?_)
  · skip
    have d1 := of_decide_eq_true c1
    have hj : j < x.length := by omega
    obtain ⟨hw1, hw2⟩ := hw hj
    have hc : cField (x.getD (j : Int).toNat default) = 2 := rfl
    refine ok_kcs (k := 0) (cs' := mid ((mkL mkField cField (x.take j) k).flatMap eField) [.str ((x.getD (j : Int).toNat default).1), .int .i64 ((x.getD (j : Int).toNat default).2)] ((x.drop (j + 1)).flatMap eField)) rfl (mk_open hj) ?_
    refine ok_skip ?_
    refine then_n ?_
    refine ok_seq ?_
    refine ok_block ?_
    refine ok_seq ?_
    refine ok_region ?_
    refine o_pure rfl rfl (pu_move (.inl rfl) (ev_tmp rfl)) rfl rfl ?_
    refine o_pure rfl rfl (pu_move (.inl rfl) (ev_tmp rfl)) rfl rfl ?_
    refine o_pure rfl rfl (pu_move (.inl rfl) (ev_tmp rfl)) rfl rfl ?_
    refine o_call rfl rfl rfl Try.call54 (ok_laws_markText (by omega)) (as_cons (ev_tmp rfl) (ag_one ac_dv) as_nil) rfl rfl ?_
    refine o_pure rfl rfl (pu_indexK (i := j) hT rfl rfl rfl (ev_tmp rfl) rfl (ev_tmp rfl) rfl (by show _ < (x.length); omega)) rfl rfl ?_
    refine o_pure rfl rfl (pu_fieldE hT rfl rfl rfl (ev_tmp rfl)) rfl rfl ?_
    refine o_storeE (js := []) (cs := mid ((mkL mkField cField (x.take j) k).flatMap eField) [.str (mText (k + (wSum cField (x.take j) : Int))), .int .i64 ((x.getD (j : Int).toNat default).2)] ((x.drop (j + 1)).flatMap eField)) hT rfl rfl rfl rfl (ev_tmp rfl) (ev_tmp rfl) rfl rfl rfl rfl (ow_cons' (ow_dv rfl) ow_nil rfl) (by decide) (by decide) rfl (le_mid (off := (j * 2 + 0)) (n := 1) (j := 0) (mk_pre (sz := 2) (fun _ => rfl) (Nat.le_of_lt hj)) (by omega) (Nat.le_of_ble_eq_true rfl)) (setR_mid (off := (j * 2 + 0)) (j := 0) (mk_pre (sz := 2) (fun _ => rfl) (Nat.le_of_lt hj)) (by omega) rfl (Nat.le_of_ble_eq_true rfl)) ?_
    simp only [killT, killB, SV.kill, CV.kill, List.map_cons, List.map_nil, List.any_cons, List.any_nil, List.contains_cons, List.contains_nil, List.nil_append, List.cons_append, Nat.reduceBEq, Bool.or_false, Bool.false_or, Bool.or_true, Bool.true_or, cond_true, cond_false]
    refine ops_nil ?_
    refine then_n ?_
    refine ok_seq ?_
    refine ok_region ?_
    refine o_pure rfl rfl (pu_move (.inl rfl) (ev_tmp rfl)) rfl rfl ?_
    refine o_pure rfl rfl (pu_addR rfl (ev_tmp rfl) (ev_int (inR_lit rfl)) (inR64 (by omega) (by omega))) rfl rfl ?_
    refine o_pure rfl rfl (pu_move (.inr rfl) (ev_tmp rfl)) rfl rfl ?_
    refine ops_nil ?_
    refine then_n ?_
    refine ok_seq ?_
    refine ok_region ?_
    refine o_pure rfl rfl (pu_move (.inl rfl) (ev_tmp rfl)) rfl rfl ?_
    refine o_pure rfl rfl (pu_move (.inl rfl) (ev_tmp rfl)) rfl rfl ?_
    refine o_pure rfl rfl (pu_move (.inl rfl) (ev_tmp rfl)) rfl rfl ?_
    refine o_pure rfl rfl (pu_indexK (i := j) hT rfl rfl rfl (ev_tmp rfl) rfl (ev_tmp rfl) rfl (by show _ < (x.length); omega)) rfl rfl ?_
    refine o_pure rfl rfl (pu_fieldE hT rfl rfl rfl (ev_tmp rfl)) rfl rfl ?_
    refine o_storeE (js := []) (cs := mid ((mkL mkField cField (x.take j) k).flatMap eField) [.str (mText (k + (wSum cField (x.take j) : Int))), .int .i64 ((k + (wSum cField (x.take j) : Int)) + (1))] ((x.drop (j + 1)).flatMap eField)) hT rfl rfl rfl rfl (ev_tmp rfl) (ev_tmp rfl) rfl rfl rfl rfl (ow_cons' (ow_dv rfl) ow_nil rfl) (by decide) (by decide) rfl (le_mid (off := (j * 2 + 1)) (n := 1) (j := 1) (mk_pre (sz := 2) (fun _ => rfl) (Nat.le_of_lt hj)) (by omega) (Nat.le_of_ble_eq_true rfl)) (setR_mid (off := (j * 2 + 1)) (j := 1) (mk_pre (sz := 2) (fun _ => rfl) (Nat.le_of_lt hj)) (by omega) rfl (Nat.le_of_ble_eq_true rfl)) ?_
    simp only [killT, killB, SV.kill, CV.kill, List.map_cons, List.map_nil, List.any_cons, List.any_nil, List.contains_cons, List.contains_nil, List.nil_append, List.cons_append, Nat.reduceBEq, Bool.or_false, Bool.false_or, Bool.or_true, Bool.true_or, cond_true, cond_false]
    refine ops_nil ?_
    refine then_n ?_
    refine ok_region ?_
    refine o_pure rfl rfl (pu_move (.inl rfl) (ev_tmp rfl)) rfl rfl ?_
    refine o_pure rfl rfl (pu_addR rfl (ev_tmp rfl) (ev_int (inR_lit rfl)) (inR64 (by omega) (by omega))) rfl rfl ?_
    refine o_pure rfl rfl (pu_move (.inr rfl) (ev_tmp rfl)) rfl rfl ?_
    refine ops_nil ?_
    refine blk_n ?_
    refine then_n ?_
    refine ok_region ?_
    refine o_pure rfl rfl (pu_move (.inl rfl) (ev_tmp rfl)) rfl rfl ?_
    refine o_pure rfl rfl (pu_addR rfl (ev_tmp rfl) (ev_int (inR_lit rfl)) (inR64 (by omega) (by omega))) rfl rfl ?_
    refine o_pure rfl rfl (pu_move (.inr rfl) (ev_tmp rfl)) rfl rfl ?_
    refine ops_nil ?_
    refine then_n ?_
    refine ⟨j + 1, ?_, ?_, weak_sub ⟨rfl, (eqSlotI (by omega)), rfl, rfl, trivial⟩ trivial ⟨(congrArg (fun cs => some (some (KC.mk true 109 2 x.length cs))) (mk_close (by omega) (by rfl))), trivial⟩ rfl⟩
    · omega
    · omega
  · skip
    have d1 := of_decide_eq_false c1
    refine ok_exit ?_
    refine then_e ?_
    refine then_e ?_
    refine blk_e rfl ?_
    refine then_n ?_
    refine ok_seq ?_
    refine ok_region ?_
    refine o_pure rfl rfl (pu_move (.inl rfl) (ev_tmp rfl)) rfl rfl ?_
    refine o_pure rfl rfl (pu_move (.inr rfl) (ev_tmp rfl)) rfl rfl ?_
    refine ops_nil ?_
    refine then_n ?_
    refine ok_weak (σ' := ⟨[(4, .one (.dv [] (.int .i64 (k + (wSum cField (x.take j) : Int)))))], [], [(0, some (kcOf true (fieldsD (mkL mkField cField x k))))]⟩) (weak_sub ⟨rfl, trivial⟩ trivial ⟨(mk_fin (by omega)), trivial⟩ rfl) ?_
    refine ok_ret ?_
    refine fin1 (res_tmp rfl) ⟨eqI ?_, w1_ok rfl⟩
    have hq := wSum_all cField x j (by omega); omega
set_option maxRecDepth 100000 in
theorem ok_laws_heldFieldS {x y : List (FieldT)} {k : Int} (hy : y = mkL mkField cField x k) (h0 : 0 ≤ k) (h1 : k + (wSum cField x : Int) ≤ 4611686018427387904) : PFn Try.prog 56 [.one (.dv [] (fieldsD (y))), .one (.dv [] (.int .i64 (k)))] (.one (.dv [] (.int .i64 (k + (wSum cField x : Int))))) := by
  refine ⟨fn_intro Try.func56 rfl Try.ntmps56 Try.results56 rfl (fun C => ?_)⟩
  refine ok_fact (x := .tmp 0) (ev_tmp rfl) (fun (f0 : ((y)).length ≤ 9223372036854775807) => ?_)
  refine ok_fact (x := .tmp 1) (ev_tmp rfl) (fun (f1 : -9223372036854775808 ≤ (k) ∧ (k) ≤ 9223372036854775807) => ?_)
  refine ok_seq ?_
  refine ok_region ?_
  refine o_pure rfl rfl (pu_move (.inr rfl) (ev_int (inR_lit rfl))) rfl rfl ?_
  refine ops_nil ?_
  refine then_n ?_
  refine ok_seq ?_
  refine ok_seq ?_
  refine ok_region ?_
  refine o_pure rfl rfl (pu_move (.inr rfl) (ev_int (inR_lit rfl))) rfl rfl ?_
  refine ops_nil ?_
  refine then_n ?_
  refine ok_block ?_
  refine ok_loop (ι := Nat) (fun zz => ⟨[(0, .one (.dv [] (fieldsD (y)))), (1, .one (.dv [] (.int .i64 (k + (wSum cField (x.take zz) : Int))))), (5, .one (.dv [] (.int .i64 ((zz : Int)))))], [], []⟩) (fun zz => zz ≤ x.length) (fun zz => x.length - zz) (0) ?_ (weak_sub ⟨rfl, (eqSlotI (by simp [wSum])), rfl, trivial⟩ trivial trivial rfl) (fun zz hx => ?_)
  · exact Nat.zero_le _
  obtain ⟨j, rfl⟩ : ∃ v, v = zz := ⟨_, rfl⟩
  replace hx : j ≤ x.length := hx
  have hw := fun h => wSum_succ cField x j h
  have hyl : y.length = x.length := by rw [hy, mkL_len]
  show Ok _ _ _ _ _ (⟨[(0, .one (.dv [] (fieldsD (y)))), (1, .one (.dv [] (.int .i64 (k + (wSum cField (x.take j) : Int))))), (5, .one (.dv [] (.int .i64 ((j : Int)))))], [], []⟩ : St)
  refine ok_seq ?_
  refine ok_seq ?_
  refine ok_region ?_
  refine o_pure rfl rfl (pu_move (.inl rfl) (ev_tmp rfl)) rfl rfl ?_
  refine o_pure rfl rfl (pu_move (.inl rfl) (ev_tmp rfl)) rfl rfl ?_
  refine o_pure rfl rfl (pu_lenV hT rfl rfl (ev_tmp rfl)) rfl rfl ?_
  refine o_pure rfl rfl (pu_lss rfl (ev_tmp rfl) (ev_tmp rfl)) rfl rfl ?_
  refine ops_nil ?_
  refine then_n ?_
  refine ok_cond (ev_tmp rfl) (fun c1 => ?_) (fun c1 => ?_)
  · skip
    have d1 := of_decide_eq_true c1
    have hj : j < x.length := by omega
    obtain ⟨hw1, hw2⟩ := hw hj
    have hc : cField (x.getD (j : Int).toNat default) = 2 := rfl
    have he : y.getD (j : Int).toNat default = mkField (x.getD (j : Int).toNat default) (k + (wSum cField (x.take j) : Int)) := by rw [hy]; exact mkL_getD hj
    refine ok_skip ?_
    refine then_n ?_
    refine ok_seq ?_
    refine ok_block ?_
    refine ok_seq ?_
    refine ok_seq ?_
    refine ok_regionD (oB := []) (oK := []) (by kernel_rfl) rfl rfl ?_
    refine d_take 0 rfl (by kernel_rfl) rfl rfl (pu_move (.inl rfl) (ev_tmp rfl)) rfl rfl rfl rfl ?_
    refine d_take 1 rfl (by kernel_rfl) rfl rfl (pu_move (.inl rfl) (ev_tmp rfl)) rfl rfl rfl rfl ?_
    refine d_take 2 rfl (by kernel_rfl) rfl rfl (pu_indexD hT rfl rfl rfl (ev_tmp rfl) (ev_tmp rfl) (fun _ => rfl) (by first | omega | (simp only [Bool.and_eq_true, Bool.or_eq_true, Bool.or_eq_false_iff, Bool.and_eq_false_iff, Bool.not_eq_true', Bool.not_eq_false', beq_iff_eq, decide_eq_true_eq, decide_eq_false_iff_not] at hg; omega) | (have hh := of_decide_eq_true (beq_tt hg); omega) | (have hh := of_decide_eq_true (beq_tt (and_r hg)); omega)) (by first | omega | (simp only [Bool.and_eq_true, Bool.or_eq_true, Bool.or_eq_false_iff, Bool.and_eq_false_iff, Bool.not_eq_true', Bool.not_eq_false', beq_iff_eq, decide_eq_true_eq, decide_eq_false_iff_not] at hg; omega) | (have hh := of_decide_eq_true (beq_tt hg); omega) | (have hh := of_decide_eq_true (beq_tt (and_r hg)); omega))) rfl rfl rfl rfl ?_
    refine d_take 3 rfl (by kernel_rfl) rfl rfl (pu_fieldRef hT rfl rfl rfl (ev_tmp rfl)) rfl rfl rfl rfl ?_
    refine d_take 4 rfl (by kernel_rfl) rfl rfl (pu_loadRef1 hT rfl rfl (ev_tmp rfl) rfl) rfl rfl rfl rfl ?_
    refine d_take 5 rfl (by kernel_rfl) rfl rfl (pu_move (.inl rfl) (ev_tmp rfl)) rfl rfl rfl rfl ?_
    refine d_call 6 rfl (by kernel_rfl) rfl rfl rfl Try.call54 (ok_laws_markText (by omega)) (as_cons (ev_tmp rfl) (ag_one ac_dv) as_nil) rfl rfl rfl rfl ?_
    refine d_take 7 rfl (by kernel_rfl) rfl rfl (pu_sne rfl (ev_tmp rfl) (ev_tmp rfl)) rfl rfl rfl rfl ?_
    refine d_done (by kernel_rfl) ?_
    refine then_n ?_
    refine ok_cond (ev_tmp rfl) (fun c2 => ?_) (fun c2 => ?_)
    · skip
      refine ok_seq ?_
      refine ok_region ?_
      refine o_pure rfl rfl (pu_move (.inr rfl) (ev_int (inR_lit rfl))) rfl rfl ?_
      refine ops_nil ?_
      refine then_n ?_
      refine ok_ret ?_
      refine then_r ?_
      refine blk_r ?_
      refine then_r ?_
      refine then_r ?_
      refine blk_r ?_
      refine then_r ?_
      refine fin1 (res_tmp rfl) (eqI ?_)
      exfalso; rw [he] at c2; simp [mkField, sEq] at c2
    · skip
      refine ok_skip ?_
      refine then_n ?_
      refine ok_seq ?_
      refine ok_region ?_
      refine o_pure rfl rfl (pu_move (.inl rfl) (ev_tmp rfl)) rfl rfl ?_
      refine o_pure rfl rfl (pu_addR rfl (ev_tmp rfl) (ev_int (inR_lit rfl)) (inR64 (by omega) (by omega))) rfl rfl ?_
      refine o_pure rfl rfl (pu_move (.inr rfl) (ev_tmp rfl)) rfl rfl ?_
      refine ops_nil ?_
      refine then_n ?_
      refine ok_seq ?_
      refine ok_seq ?_
      refine ok_region ?_
      refine o_pure rfl rfl (pu_move (.inl rfl) (ev_tmp rfl)) rfl rfl ?_
      refine o_pure rfl rfl (pu_move (.inl rfl) (ev_tmp rfl)) rfl rfl ?_
      refine o_pure rfl rfl (pu_indexD hT rfl rfl rfl (ev_tmp rfl) (ev_tmp rfl) (fun _ => rfl) (by first | omega | (simp only [Bool.and_eq_true, Bool.or_eq_true, Bool.or_eq_false_iff, Bool.and_eq_false_iff, Bool.not_eq_true', Bool.not_eq_false', beq_iff_eq, decide_eq_true_eq, decide_eq_false_iff_not] at hg; omega) | (have hh := of_decide_eq_true (beq_tt hg); omega) | (have hh := of_decide_eq_true (beq_tt (and_r hg)); omega)) (by first | omega | (simp only [Bool.and_eq_true, Bool.or_eq_true, Bool.or_eq_false_iff, Bool.and_eq_false_iff, Bool.not_eq_true', Bool.not_eq_false', beq_iff_eq, decide_eq_true_eq, decide_eq_false_iff_not] at hg; omega) | (have hh := of_decide_eq_true (beq_tt hg); omega) | (have hh := of_decide_eq_true (beq_tt (and_r hg)); omega))) rfl rfl ?_
      refine o_pure rfl rfl (pu_fieldRef hT rfl rfl rfl (ev_tmp rfl)) rfl rfl ?_
      refine o_pure rfl rfl (pu_loadRef1 hT rfl rfl (ev_tmp rfl) rfl) rfl rfl ?_
      refine o_pure rfl rfl (pu_move (.inl rfl) (ev_tmp rfl)) rfl rfl ?_
      refine o_pure rfl rfl (pu_neq rfl (ev_tmp rfl) (ev_tmp rfl)) rfl rfl ?_
      refine ops_nil ?_
      refine then_n ?_
      refine ok_cond (ev_tmp rfl) (fun c3 => ?_) (fun c3 => ?_)
      · skip
        have d3 := nd_t c3
        refine ok_seq ?_
        refine ok_region ?_
        refine o_pure rfl rfl (pu_move (.inr rfl) (ev_int (inR_lit rfl))) rfl rfl ?_
        refine ops_nil ?_
        refine then_n ?_
        refine ok_ret ?_
        refine then_r ?_
        refine blk_r ?_
        refine then_r ?_
        refine then_r ?_
        refine blk_r ?_
        refine then_r ?_
        refine fin1 (res_tmp rfl) (eqI ?_)
        exfalso; rw [he] at c3; simp [mkField, sEq] at c3
      · skip
        have d3 := nd_f c3
        refine ok_skip ?_
        refine then_n ?_
        refine ok_region ?_
        refine o_pure rfl rfl (pu_move (.inl rfl) (ev_tmp rfl)) rfl rfl ?_
        refine o_pure rfl rfl (pu_addR rfl (ev_tmp rfl) (ev_int (inR_lit rfl)) (inR64 (by omega) (by omega))) rfl rfl ?_
        refine o_pure rfl rfl (pu_move (.inr rfl) (ev_tmp rfl)) rfl rfl ?_
        refine ops_nil ?_
        refine blk_n ?_
        refine then_n ?_
        refine ok_region ?_
        refine o_pure rfl rfl (pu_move (.inl rfl) (ev_tmp rfl)) rfl rfl ?_
        refine o_pure rfl rfl (pu_addR rfl (ev_tmp rfl) (ev_int (inR_lit rfl)) (inR64 (by omega) (by omega))) rfl rfl ?_
        refine o_pure rfl rfl (pu_move (.inr rfl) (ev_tmp rfl)) rfl rfl ?_
        refine ops_nil ?_
        refine then_n ?_
        refine ⟨j + 1, ?_, ?_, weak_sub ⟨rfl, (eqSlotI (by omega)), rfl, trivial⟩ trivial trivial rfl⟩
        · omega
        · omega
  · skip
    have d1 := of_decide_eq_false c1
    refine ok_exit ?_
    refine then_e ?_
    refine then_e ?_
    refine blk_e rfl ?_
    refine then_n ?_
    refine ok_seq ?_
    refine ok_region ?_
    refine o_pure rfl rfl (pu_move (.inl rfl) (ev_tmp rfl)) rfl rfl ?_
    refine o_pure rfl rfl (pu_move (.inr rfl) (ev_tmp rfl)) rfl rfl ?_
    refine ops_nil ?_
    refine then_n ?_
    refine ok_ret ?_
    refine fin1 (res_tmp rfl) (eqI ?_)
    have hq := wSum_all cField x j (by omega); omega
set_option maxRecDepth 100000 in
theorem ok_laws_markItemS {x : List (ItemT)} {k : Int} (h0 : 0 ≤ k) (h1 : k + (wSum cItem x : Int) ≤ 4611686018427387904) : WFn Try.prog 18 [.one (.key 0), .one (.dv [] (.int .i64 (k)))] (.one (.dv [] (.int .i64 (k + (wSum cItem x : Int))))) [(0, kcOf true (.sl 52 4 (x.length) (x.flatMap eItem)))] [(0, kcOf true (itemsD (mkL mkItem cItem x k)))] := by
  refine ⟨fn_intro Try.func18 rfl Try.ntmps18 Try.results18 rfl (fun C => ?_)⟩
  have hln : x.length ≤ wSum cItem x := wSum_ge (fun _ => by simp only [cItem]; omega) x
  refine ok_fact (x := .tmp 1) (ev_tmp rfl) (fun (f1 : -9223372036854775808 ≤ (k) ∧ (k) ≤ 9223372036854775807) => ?_)
  refine ok_seq ?_
  refine ok_region ?_
  refine o_pure rfl rfl (pu_move (.inr rfl) (ev_int (inR_lit rfl))) rfl rfl ?_
  refine ops_nil ?_
  refine then_n ?_
  refine ok_seq ?_
  refine ok_seq ?_
  refine ok_region ?_
  refine o_pure rfl rfl (pu_move (.inr rfl) (ev_int (inR_lit rfl))) rfl rfl ?_
  refine ops_nil ?_
  refine then_n ?_
  refine ok_block ?_
  refine ok_loop (ι := Nat) (fun zz => ⟨[(0, .one (.key 0)), (1, .one (.dv [] (.int .i64 (k + (wSum cItem (x.take zz) : Int))))), (4, .one (.dv [] (.int .i64 (0)))), (5, .one (.dv [] (.int .i64 ((zz : Int)))))], [], [(0, some ⟨true, 52, 4, x.length, (mkL mkItem cItem (x.take zz) k).flatMap eItem ++ (x.drop zz).flatMap eItem⟩)]⟩) (fun zz => zz ≤ x.length) (fun zz => x.length - zz) (0) ?_ (weak_sub ⟨rfl, (eqSlotI (by simp [wSum])), rfl, rfl, trivial⟩ trivial ⟨rfl, trivial⟩ rfl) (fun zz hx => ?_)
  · exact Nat.zero_le _
  obtain ⟨j, rfl⟩ : ∃ v, v = zz := ⟨_, rfl⟩
  replace hx : j ≤ x.length := hx
  have hw := fun h => wSum_succ cItem x j h
  show Ok _ _ _ _ _ (⟨[(0, .one (.key 0)), (1, .one (.dv [] (.int .i64 (k + (wSum cItem (x.take j) : Int))))), (4, .one (.dv [] (.int .i64 (0)))), (5, .one (.dv [] (.int .i64 ((j : Int)))))], [], [(0, some ⟨true, 52, 4, x.length, (mkL mkItem cItem (x.take j) k).flatMap eItem ++ (x.drop j).flatMap eItem⟩)]⟩ : St)
  refine ok_seq ?_
  refine ok_seq ?_
  refine ok_region ?_
  refine o_pure rfl rfl (pu_move (.inl rfl) (ev_tmp rfl)) rfl rfl ?_
  refine o_pure rfl rfl (pu_move (.inl rfl) (ev_tmp rfl)) rfl rfl ?_
  refine o_pure rfl rfl (pu_lenKn (n := (x.length)) hT rfl rfl (ev_tmp rfl) rfl rfl) rfl rfl ?_
  refine o_pure rfl rfl (pu_lss rfl (ev_tmp rfl) (ev_tmp rfl)) rfl rfl ?_
  refine ops_nil ?_
  refine then_n ?_
  refine ok_cond (ev_tmp rfl) (fun c1 => ?_) (fun c1 => ?_)
  · skip
    have d1 := of_decide_eq_true c1
    have hj : j < x.length := by omega
    obtain ⟨hw1, hw2⟩ := hw hj
    have hc : cItem (x.getD (j : Int).toNat default) = 3 + wSum cField ((x.getD (j : Int).toNat default).2) := rfl
    refine ok_kcs (k := 0) (cs' := mid ((mkL mkItem cItem (x.take j) k).flatMap eItem) [.int .i64 ((x.getD (j : Int).toNat default).1.1), .int .i64 ((x.getD (j : Int).toNat default).1.2.1), .str ((x.getD (j : Int).toNat default).1.2.2), fieldsD ((x.getD (j : Int).toNat default).2)] ((x.drop (j + 1)).flatMap eItem)) rfl (mk_open hj) ?_
    refine ok_skip ?_
    refine then_n ?_
    refine ok_seq ?_
    refine ok_block ?_
    refine ok_seq ?_
    refine ok_region ?_
    refine o_pure rfl rfl (pu_move (.inl rfl) (ev_tmp rfl)) rfl rfl ?_
    refine o_pure rfl rfl (pu_move (.inl rfl) (ev_tmp rfl)) rfl rfl ?_
    refine o_pure rfl rfl (pu_move (.inl rfl) (ev_tmp rfl)) rfl rfl ?_
    refine o_pure rfl rfl (pu_indexK (i := j) hT rfl rfl rfl (ev_tmp rfl) rfl (ev_tmp rfl) rfl (by show _ < (x.length); omega)) rfl rfl ?_
    refine o_pure rfl rfl (pu_fieldE hT rfl rfl rfl (ev_tmp rfl)) rfl rfl ?_
    refine o_pure rfl rfl (pu_fieldE hT rfl rfl rfl (ev_tmp rfl)) rfl rfl ?_
    refine o_storeE (js := []) (cs := mid ((mkL mkItem cItem (x.take j) k).flatMap eItem) [.int .i64 (k + (wSum cItem (x.take j) : Int)), .int .i64 ((x.getD (j : Int).toNat default).1.2.1), .str ((x.getD (j : Int).toNat default).1.2.2), fieldsD ((x.getD (j : Int).toNat default).2)] ((x.drop (j + 1)).flatMap eItem)) hT rfl rfl rfl rfl (ev_tmp rfl) (ev_tmp rfl) rfl rfl rfl rfl (ow_cons' (ow_dv rfl) ow_nil rfl) (by decide) (by decide) rfl (le_mid (off := ((j * 4 + 0) + 0)) (n := 1) (j := 0) (mk_pre (sz := 4) (fun _ => rfl) (Nat.le_of_lt hj)) (by omega) (Nat.le_of_ble_eq_true rfl)) (setR_mid (off := ((j * 4 + 0) + 0)) (j := 0) (mk_pre (sz := 4) (fun _ => rfl) (Nat.le_of_lt hj)) (by omega) rfl (Nat.le_of_ble_eq_true rfl)) ?_
    simp only [killT, killB, SV.kill, CV.kill, List.map_cons, List.map_nil, List.any_cons, List.any_nil, List.contains_cons, List.contains_nil, List.nil_append, List.cons_append, Nat.reduceBEq, Bool.or_false, Bool.false_or, Bool.or_true, Bool.true_or, cond_true, cond_false]
    refine ops_nil ?_
    refine then_n ?_
    refine ok_seq ?_
    refine ok_region ?_
    refine o_pure rfl rfl (pu_move (.inl rfl) (ev_tmp rfl)) rfl rfl ?_
    refine o_pure rfl rfl (pu_addR rfl (ev_tmp rfl) (ev_int (inR_lit rfl)) (inR64 (by omega) (by omega))) rfl rfl ?_
    refine o_pure rfl rfl (pu_move (.inr rfl) (ev_tmp rfl)) rfl rfl ?_
    refine ops_nil ?_
    refine then_n ?_
    refine ok_seq ?_
    refine ok_region ?_
    refine o_pure rfl rfl (pu_move (.inl rfl) (ev_tmp rfl)) rfl rfl ?_
    refine o_pure rfl rfl (pu_move (.inl rfl) (ev_tmp rfl)) rfl rfl ?_
    refine o_pure rfl rfl (pu_move (.inl rfl) (ev_tmp rfl)) rfl rfl ?_
    refine o_pure rfl rfl (pu_indexK (i := j) hT rfl rfl rfl (ev_tmp rfl) rfl (ev_tmp rfl) rfl (by show _ < (x.length); omega)) rfl rfl ?_
    refine o_pure rfl rfl (pu_fieldE hT rfl rfl rfl (ev_tmp rfl)) rfl rfl ?_
    refine o_pure rfl rfl (pu_fieldE hT rfl rfl rfl (ev_tmp rfl)) rfl rfl ?_
    refine o_storeE (js := []) (cs := mid ((mkL mkItem cItem (x.take j) k).flatMap eItem) [.int .i64 (k + (wSum cItem (x.take j) : Int)), .int .i64 ((k + (wSum cItem (x.take j) : Int)) + (1)), .str ((x.getD (j : Int).toNat default).1.2.2), fieldsD ((x.getD (j : Int).toNat default).2)] ((x.drop (j + 1)).flatMap eItem)) hT rfl rfl rfl rfl (ev_tmp rfl) (ev_tmp rfl) rfl rfl rfl rfl (ow_cons' (ow_dv rfl) ow_nil rfl) (by decide) (by decide) rfl (le_mid (off := ((j * 4 + 0) + 1)) (n := 1) (j := 1) (mk_pre (sz := 4) (fun _ => rfl) (Nat.le_of_lt hj)) (by omega) (Nat.le_of_ble_eq_true rfl)) (setR_mid (off := ((j * 4 + 0) + 1)) (j := 1) (mk_pre (sz := 4) (fun _ => rfl) (Nat.le_of_lt hj)) (by omega) rfl (Nat.le_of_ble_eq_true rfl)) ?_
    simp only [killT, killB, SV.kill, CV.kill, List.map_cons, List.map_nil, List.any_cons, List.any_nil, List.contains_cons, List.contains_nil, List.nil_append, List.cons_append, Nat.reduceBEq, Bool.or_false, Bool.false_or, Bool.or_true, Bool.true_or, cond_true, cond_false]
    refine ops_nil ?_
    refine then_n ?_
    refine ok_seq ?_
    refine ok_region ?_
    refine o_pure rfl rfl (pu_move (.inl rfl) (ev_tmp rfl)) rfl rfl ?_
    refine o_pure rfl rfl (pu_addR rfl (ev_tmp rfl) (ev_int (inR_lit rfl)) (inR64 (by omega) (by omega))) rfl rfl ?_
    refine o_pure rfl rfl (pu_move (.inr rfl) (ev_tmp rfl)) rfl rfl ?_
    refine ops_nil ?_
    refine then_n ?_
    refine ok_seq ?_
    refine ok_region ?_
    refine o_pure rfl rfl (pu_move (.inl rfl) (ev_tmp rfl)) rfl rfl ?_
    refine o_pure rfl rfl (pu_move (.inl rfl) (ev_tmp rfl)) rfl rfl ?_
    refine o_pure rfl rfl (pu_move (.inl rfl) (ev_tmp rfl)) rfl rfl ?_
    refine o_call rfl rfl rfl Try.call54 (ok_laws_markText (by omega)) (as_cons (ev_tmp rfl) (ag_one ac_dv) as_nil) rfl rfl ?_
    refine o_pure rfl rfl (pu_indexK (i := j) hT rfl rfl rfl (ev_tmp rfl) rfl (ev_tmp rfl) rfl (by show _ < (x.length); omega)) rfl rfl ?_
    refine o_pure rfl rfl (pu_fieldE hT rfl rfl rfl (ev_tmp rfl)) rfl rfl ?_
    refine o_pure rfl rfl (pu_fieldE hT rfl rfl rfl (ev_tmp rfl)) rfl rfl ?_
    refine o_storeE (js := []) (cs := mid ((mkL mkItem cItem (x.take j) k).flatMap eItem) [.int .i64 (k + (wSum cItem (x.take j) : Int)), .int .i64 ((k + (wSum cItem (x.take j) : Int)) + (1)), .str (mText (((k + (wSum cItem (x.take j) : Int)) + (1)) + (1))), fieldsD ((x.getD (j : Int).toNat default).2)] ((x.drop (j + 1)).flatMap eItem)) hT rfl rfl rfl rfl (ev_tmp rfl) (ev_tmp rfl) rfl rfl rfl rfl (ow_cons' (ow_dv rfl) ow_nil rfl) (by decide) (by decide) rfl (le_mid (off := ((j * 4 + 0) + 2)) (n := 1) (j := 2) (mk_pre (sz := 4) (fun _ => rfl) (Nat.le_of_lt hj)) (by omega) (Nat.le_of_ble_eq_true rfl)) (setR_mid (off := ((j * 4 + 0) + 2)) (j := 2) (mk_pre (sz := 4) (fun _ => rfl) (Nat.le_of_lt hj)) (by omega) rfl (Nat.le_of_ble_eq_true rfl)) ?_
    simp only [killT, killB, SV.kill, CV.kill, List.map_cons, List.map_nil, List.any_cons, List.any_nil, List.contains_cons, List.contains_nil, List.nil_append, List.cons_append, Nat.reduceBEq, Bool.or_false, Bool.false_or, Bool.or_true, Bool.true_or, cond_true, cond_false]
    refine ops_nil ?_
    refine then_n ?_
    refine ok_seq ?_
    refine ok_region ?_
    refine o_pure rfl rfl (pu_move (.inl rfl) (ev_tmp rfl)) rfl rfl ?_
    refine o_pure rfl rfl (pu_addR rfl (ev_tmp rfl) (ev_int (inR_lit rfl)) (inR64 (by omega) (by omega))) rfl rfl ?_
    refine o_pure rfl rfl (pu_move (.inr rfl) (ev_tmp rfl)) rfl rfl ?_
    refine ops_nil ?_
    refine then_n ?_
    refine ok_region ?_
    refine o_pure rfl rfl (pu_move (.inl rfl) (ev_tmp rfl)) rfl rfl ?_
    refine o_pure rfl rfl (pu_move (.inl rfl) (ev_tmp rfl)) rfl rfl ?_
    refine o_pure rfl rfl (pu_indexK (i := j) hT rfl rfl rfl (ev_tmp rfl) rfl (ev_tmp rfl) rfl (by show _ < (x.length); omega)) rfl rfl ?_
    refine o_pure rfl rfl (pu_fieldE hT rfl rfl rfl (ev_tmp rfl)) rfl rfl ?_
    refine o_pure rfl rfl (pu_fieldE hT rfl rfl rfl (ev_tmp rfl)) rfl rfl ?_
    refine o_pure rfl rfl (pu_loadE1 hT rfl rfl (ev_tmp rfl) rfl (get_mid (off := ((j * 4 + 3) + 0)) (j := 3) (mk_pre (sz := 4) (fun _ => rfl) (Nat.le_of_lt hj)) (by omega) rfl)) rfl rfl ?_
    refine o_pure rfl rfl (pu_move (.inl rfl) (ev_tmp rfl)) rfl rfl ?_
    refine o_callN (t := 42) (ccs := mid ((mkL mkItem cItem (x.take j) k).flatMap eItem) [.int .i64 (k + (wSum cItem (x.take j) : Int)), .int .i64 ((k + (wSum cItem (x.take j) : Int)) + (1)), .str (mText (((k + (wSum cItem (x.take j) : Int)) + (1)) + (1))), fieldsD (mkL mkField cField ((x.getD (j : Int).toNat default).2) ((((k + (wSum cItem (x.take j) : Int)) + (1)) + (1)) + (1)))] ((x.drop (j + 1)).flatMap eItem)) 5044 rfl rfl rfl Try.call55 (ok_laws_markFieldS (by omega) (by omega)) rfl rfl (get_mid (off := ((j * 4 + 3) + 0)) (j := 3) (mk_pre (sz := 4) (fun _ => rfl) (Nat.le_of_lt hj)) (by omega) rfl) rfl (aw_cons (ev_tmp rfl) (aw_one (awc_key rfl)) (aw_cons (ev_tmp rfl) (aw_one (awc_dv rfl)) aw_nil)) rfl rfl (set_mid (off := ((j * 4 + 3) + 0)) (j := 3) (mk_pre (sz := 4) (fun _ => rfl) (Nat.le_of_lt hj)) (by omega) rfl (Nat.lt_of_lt_of_le (Nat.lt_succ_self _) (Nat.le_of_ble_eq_true rfl))) ?_
    simp only [killT, killB, SV.kill, CV.kill, List.map_cons, List.map_nil, List.any_cons, List.any_nil, List.contains_cons, List.contains_nil, List.nil_append, List.cons_append, Nat.reduceBEq, Bool.or_false, Bool.false_or, Bool.or_true, Bool.true_or, cond_true, cond_false]
    refine o_pure rfl rfl (pu_move (.inr rfl) (ev_tmp rfl)) rfl rfl ?_
    refine ops_nil ?_
    refine blk_n ?_
    refine then_n ?_
    refine ok_region ?_
    refine o_pure rfl rfl (pu_move (.inl rfl) (ev_tmp rfl)) rfl rfl ?_
    refine o_pure rfl rfl (pu_addR rfl (ev_tmp rfl) (ev_int (inR_lit rfl)) (inR64 (by omega) (by omega))) rfl rfl ?_
    refine o_pure rfl rfl (pu_move (.inr rfl) (ev_tmp rfl)) rfl rfl ?_
    refine ops_nil ?_
    refine then_n ?_
    refine ⟨j + 1, ?_, ?_, weak_sub ⟨rfl, (eqSlotI (by omega)), rfl, rfl, trivial⟩ trivial ⟨(congrArg (fun cs => some (some (KC.mk true 52 4 x.length cs))) (mk_close (by omega) (by rfl))), trivial⟩ rfl⟩
    · omega
    · omega
  · skip
    have d1 := of_decide_eq_false c1
    refine ok_exit ?_
    refine then_e ?_
    refine then_e ?_
    refine blk_e rfl ?_
    refine then_n ?_
    refine ok_seq ?_
    refine ok_region ?_
    refine o_pure rfl rfl (pu_move (.inl rfl) (ev_tmp rfl)) rfl rfl ?_
    refine o_pure rfl rfl (pu_move (.inr rfl) (ev_tmp rfl)) rfl rfl ?_
    refine ops_nil ?_
    refine then_n ?_
    refine ok_weak (σ' := ⟨[(4, .one (.dv [] (.int .i64 (k + (wSum cItem (x.take j) : Int)))))], [], [(0, some (kcOf true (itemsD (mkL mkItem cItem x k))))]⟩) (weak_sub ⟨rfl, trivial⟩ trivial ⟨(mk_fin (by omega)), trivial⟩ rfl) ?_
    refine ok_ret ?_
    refine fin1 (res_tmp rfl) ⟨eqI ?_, w1_ok rfl⟩
    have hq := wSum_all cItem x j (by omega); omega
set_option maxRecDepth 100000 in
theorem ok_laws_heldItemS {x y : List (ItemT)} {k : Int} (hy : y = mkL mkItem cItem x k) (h0 : 0 ≤ k) (h1 : k + (wSum cItem x : Int) ≤ 4611686018427387904) : PFn Try.prog 19 [.one (.dv [] (itemsD (y))), .one (.dv [] (.int .i64 (k)))] (.one (.dv [] (.int .i64 (k + (wSum cItem x : Int))))) := by
  refine ⟨fn_intro Try.func19 rfl Try.ntmps19 Try.results19 rfl (fun C => ?_)⟩
  refine ok_fact (x := .tmp 0) (ev_tmp rfl) (fun (f0 : ((y)).length ≤ 9223372036854775807) => ?_)
  refine ok_fact (x := .tmp 1) (ev_tmp rfl) (fun (f1 : -9223372036854775808 ≤ (k) ∧ (k) ≤ 9223372036854775807) => ?_)
  refine ok_seq ?_
  refine ok_region ?_
  refine o_pure rfl rfl (pu_move (.inr rfl) (ev_int (inR_lit rfl))) rfl rfl ?_
  refine ops_nil ?_
  refine then_n ?_
  refine ok_seq ?_
  refine ok_seq ?_
  refine ok_region ?_
  refine o_pure rfl rfl (pu_move (.inr rfl) (ev_int (inR_lit rfl))) rfl rfl ?_
  refine ops_nil ?_
  refine then_n ?_
  refine ok_block ?_
  refine ok_loop (ι := Nat) (fun zz => ⟨[(0, .one (.dv [] (itemsD (y)))), (1, .one (.dv [] (.int .i64 (k + (wSum cItem (x.take zz) : Int))))), (5, .one (.dv [] (.int .i64 ((zz : Int)))))], [], []⟩) (fun zz => zz ≤ x.length) (fun zz => x.length - zz) (0) ?_ (weak_sub ⟨rfl, (eqSlotI (by simp [wSum])), rfl, trivial⟩ trivial trivial rfl) (fun zz hx => ?_)
  · exact Nat.zero_le _
  obtain ⟨j, rfl⟩ : ∃ v, v = zz := ⟨_, rfl⟩
  replace hx : j ≤ x.length := hx
  have hw := fun h => wSum_succ cItem x j h
  have hyl : y.length = x.length := by rw [hy, mkL_len]
  show Ok _ _ _ _ _ (⟨[(0, .one (.dv [] (itemsD (y)))), (1, .one (.dv [] (.int .i64 (k + (wSum cItem (x.take j) : Int))))), (5, .one (.dv [] (.int .i64 ((j : Int)))))], [], []⟩ : St)
  refine ok_seq ?_
  refine ok_seq ?_
  refine ok_region ?_
  refine o_pure rfl rfl (pu_move (.inl rfl) (ev_tmp rfl)) rfl rfl ?_
  refine o_pure rfl rfl (pu_move (.inl rfl) (ev_tmp rfl)) rfl rfl ?_
  refine o_pure rfl rfl (pu_lenV hT rfl rfl (ev_tmp rfl)) rfl rfl ?_
  refine o_pure rfl rfl (pu_lss rfl (ev_tmp rfl) (ev_tmp rfl)) rfl rfl ?_
  refine ops_nil ?_
  refine then_n ?_
  refine ok_cond (ev_tmp rfl) (fun c1 => ?_) (fun c1 => ?_)
  · skip
    have d1 := of_decide_eq_true c1
    have hj : j < x.length := by omega
    obtain ⟨hw1, hw2⟩ := hw hj
    have hc : cItem (x.getD (j : Int).toNat default) = 3 + wSum cField ((x.getD (j : Int).toNat default).2) := rfl
    have he : y.getD (j : Int).toNat default = mkItem (x.getD (j : Int).toNat default) (k + (wSum cItem (x.take j) : Int)) := by rw [hy]; exact mkL_getD hj
    refine ok_skip ?_
    refine then_n ?_
    refine ok_seq ?_
    refine ok_block ?_
    refine ok_seq ?_
    refine ok_seq ?_
    refine ok_region ?_
    refine o_pure rfl rfl (pu_move (.inl rfl) (ev_tmp rfl)) rfl rfl ?_
    refine o_pure rfl rfl (pu_move (.inl rfl) (ev_tmp rfl)) rfl rfl ?_
    refine o_pure rfl rfl (pu_indexD hT rfl rfl rfl (ev_tmp rfl) (ev_tmp rfl) (fun _ => rfl) (by first | omega | (simp only [Bool.and_eq_true, Bool.or_eq_true, Bool.or_eq_false_iff, Bool.and_eq_false_iff, Bool.not_eq_true', Bool.not_eq_false', beq_iff_eq, decide_eq_true_eq, decide_eq_false_iff_not] at hg; omega) | (have hh := of_decide_eq_true (beq_tt hg); omega) | (have hh := of_decide_eq_true (beq_tt (and_r hg)); omega)) (by first | omega | (simp only [Bool.and_eq_true, Bool.or_eq_true, Bool.or_eq_false_iff, Bool.and_eq_false_iff, Bool.not_eq_true', Bool.not_eq_false', beq_iff_eq, decide_eq_true_eq, decide_eq_false_iff_not] at hg; omega) | (have hh := of_decide_eq_true (beq_tt hg); omega) | (have hh := of_decide_eq_true (beq_tt (and_r hg)); omega))) rfl rfl ?_
    refine o_pure rfl rfl (pu_fieldRef hT rfl rfl rfl (ev_tmp rfl)) rfl rfl ?_
    refine o_pure rfl rfl (pu_fieldRef hT rfl rfl rfl (ev_tmp rfl)) rfl rfl ?_
    refine o_pure rfl rfl (pu_loadRef1 hT rfl rfl (ev_tmp rfl) rfl) rfl rfl ?_
    refine o_pure rfl rfl (pu_move (.inl rfl) (ev_tmp rfl)) rfl rfl ?_
    refine o_pure rfl rfl (pu_neq rfl (ev_tmp rfl) (ev_tmp rfl)) rfl rfl ?_
    refine ops_nil ?_
    refine then_n ?_
    refine ok_cond (ev_tmp rfl) (fun c2 => ?_) (fun c2 => ?_)
    · skip
      have d2 := nd_t c2
      refine ok_seq ?_
      refine ok_region ?_
      refine o_pure rfl rfl (pu_move (.inr rfl) (ev_int (inR_lit rfl))) rfl rfl ?_
      refine ops_nil ?_
      refine then_n ?_
      refine ok_ret ?_
      refine then_r ?_
      refine blk_r ?_
      refine then_r ?_
      refine then_r ?_
      refine blk_r ?_
      refine then_r ?_
      refine fin1 (res_tmp rfl) (eqI ?_)
      exfalso; rw [he] at c2; simp [mkItem, sEq] at c2
    · skip
      have d2 := nd_f c2
      refine ok_skip ?_
      refine then_n ?_
      refine ok_seq ?_
      refine ok_region ?_
      refine o_pure rfl rfl (pu_move (.inl rfl) (ev_tmp rfl)) rfl rfl ?_
      refine o_pure rfl rfl (pu_addR rfl (ev_tmp rfl) (ev_int (inR_lit rfl)) (inR64 (by omega) (by omega))) rfl rfl ?_
      refine o_pure rfl rfl (pu_move (.inr rfl) (ev_tmp rfl)) rfl rfl ?_
      refine ops_nil ?_
      refine then_n ?_
      refine ok_seq ?_
      refine ok_seq ?_
      refine ok_region ?_
      refine o_pure rfl rfl (pu_move (.inl rfl) (ev_tmp rfl)) rfl rfl ?_
      refine o_pure rfl rfl (pu_move (.inl rfl) (ev_tmp rfl)) rfl rfl ?_
      refine o_pure rfl rfl (pu_indexD hT rfl rfl rfl (ev_tmp rfl) (ev_tmp rfl) (fun _ => rfl) (by first | omega | (simp only [Bool.and_eq_true, Bool.or_eq_true, Bool.or_eq_false_iff, Bool.and_eq_false_iff, Bool.not_eq_true', Bool.not_eq_false', beq_iff_eq, decide_eq_true_eq, decide_eq_false_iff_not] at hg; omega) | (have hh := of_decide_eq_true (beq_tt hg); omega) | (have hh := of_decide_eq_true (beq_tt (and_r hg)); omega)) (by first | omega | (simp only [Bool.and_eq_true, Bool.or_eq_true, Bool.or_eq_false_iff, Bool.and_eq_false_iff, Bool.not_eq_true', Bool.not_eq_false', beq_iff_eq, decide_eq_true_eq, decide_eq_false_iff_not] at hg; omega) | (have hh := of_decide_eq_true (beq_tt hg); omega) | (have hh := of_decide_eq_true (beq_tt (and_r hg)); omega))) rfl rfl ?_
      refine o_pure rfl rfl (pu_fieldRef hT rfl rfl rfl (ev_tmp rfl)) rfl rfl ?_
      refine o_pure rfl rfl (pu_fieldRef hT rfl rfl rfl (ev_tmp rfl)) rfl rfl ?_
      refine o_pure rfl rfl (pu_loadRef1 hT rfl rfl (ev_tmp rfl) rfl) rfl rfl ?_
      refine o_pure rfl rfl (pu_move (.inl rfl) (ev_tmp rfl)) rfl rfl ?_
      refine o_pure rfl rfl (pu_neq rfl (ev_tmp rfl) (ev_tmp rfl)) rfl rfl ?_
      refine ops_nil ?_
      refine then_n ?_
      refine ok_cond (ev_tmp rfl) (fun c3 => ?_) (fun c3 => ?_)
      · skip
        have d3 := nd_t c3
        refine ok_seq ?_
        refine ok_region ?_
        refine o_pure rfl rfl (pu_move (.inr rfl) (ev_int (inR_lit rfl))) rfl rfl ?_
        refine ops_nil ?_
        refine then_n ?_
        refine ok_ret ?_
        refine then_r ?_
        refine blk_r ?_
        refine then_r ?_
        refine then_r ?_
        refine blk_r ?_
        refine then_r ?_
        refine fin1 (res_tmp rfl) (eqI ?_)
        exfalso; rw [he] at c3; simp [mkItem, sEq] at c3
      · skip
        have d3 := nd_f c3
        refine ok_skip ?_
        refine then_n ?_
        refine ok_seq ?_
        refine ok_region ?_
        refine o_pure rfl rfl (pu_move (.inl rfl) (ev_tmp rfl)) rfl rfl ?_
        refine o_pure rfl rfl (pu_addR rfl (ev_tmp rfl) (ev_int (inR_lit rfl)) (inR64 (by omega) (by omega))) rfl rfl ?_
        refine o_pure rfl rfl (pu_move (.inr rfl) (ev_tmp rfl)) rfl rfl ?_
        refine ops_nil ?_
        refine then_n ?_
        refine ok_seq ?_
        refine ok_seq ?_
        refine ok_regionD (oB := []) (oK := []) (by kernel_rfl) rfl rfl ?_
        refine d_take 0 rfl (by kernel_rfl) rfl rfl (pu_move (.inl rfl) (ev_tmp rfl)) rfl rfl rfl rfl ?_
        refine d_take 1 rfl (by kernel_rfl) rfl rfl (pu_move (.inl rfl) (ev_tmp rfl)) rfl rfl rfl rfl ?_
        refine d_take 2 rfl (by kernel_rfl) rfl rfl (pu_indexD hT rfl rfl rfl (ev_tmp rfl) (ev_tmp rfl) (fun _ => rfl) (by first | omega | (simp only [Bool.and_eq_true, Bool.or_eq_true, Bool.or_eq_false_iff, Bool.and_eq_false_iff, Bool.not_eq_true', Bool.not_eq_false', beq_iff_eq, decide_eq_true_eq, decide_eq_false_iff_not] at hg; omega) | (have hh := of_decide_eq_true (beq_tt hg); omega) | (have hh := of_decide_eq_true (beq_tt (and_r hg)); omega)) (by first | omega | (simp only [Bool.and_eq_true, Bool.or_eq_true, Bool.or_eq_false_iff, Bool.and_eq_false_iff, Bool.not_eq_true', Bool.not_eq_false', beq_iff_eq, decide_eq_true_eq, decide_eq_false_iff_not] at hg; omega) | (have hh := of_decide_eq_true (beq_tt hg); omega) | (have hh := of_decide_eq_true (beq_tt (and_r hg)); omega))) rfl rfl rfl rfl ?_
        refine d_take 3 rfl (by kernel_rfl) rfl rfl (pu_fieldRef hT rfl rfl rfl (ev_tmp rfl)) rfl rfl rfl rfl ?_
        refine d_take 4 rfl (by kernel_rfl) rfl rfl (pu_fieldRef hT rfl rfl rfl (ev_tmp rfl)) rfl rfl rfl rfl ?_
        refine d_take 5 rfl (by kernel_rfl) rfl rfl (pu_loadRef1 hT rfl rfl (ev_tmp rfl) rfl) rfl rfl rfl rfl ?_
        refine d_take 6 rfl (by kernel_rfl) rfl rfl (pu_move (.inl rfl) (ev_tmp rfl)) rfl rfl rfl rfl ?_
        refine d_call 7 rfl (by kernel_rfl) rfl rfl rfl Try.call54 (ok_laws_markText (by omega)) (as_cons (ev_tmp rfl) (ag_one ac_dv) as_nil) rfl rfl rfl rfl ?_
        refine d_take 8 rfl (by kernel_rfl) rfl rfl (pu_sne rfl (ev_tmp rfl) (ev_tmp rfl)) rfl rfl rfl rfl ?_
        refine d_done (by kernel_rfl) ?_
        refine then_n ?_
        refine ok_cond (ev_tmp rfl) (fun c4 => ?_) (fun c4 => ?_)
        · skip
          refine ok_seq ?_
          refine ok_region ?_
          refine o_pure rfl rfl (pu_move (.inr rfl) (ev_int (inR_lit rfl))) rfl rfl ?_
          refine ops_nil ?_
          refine then_n ?_
          refine ok_ret ?_
          refine then_r ?_
          refine blk_r ?_
          refine then_r ?_
          refine then_r ?_
          refine blk_r ?_
          refine then_r ?_
          refine fin1 (res_tmp rfl) (eqI ?_)
          exfalso; rw [he] at c4; simp [mkItem, sEq] at c4
        · skip
          refine ok_skip ?_
          refine then_n ?_
          refine ok_seq ?_
          refine ok_region ?_
          refine o_pure rfl rfl (pu_move (.inl rfl) (ev_tmp rfl)) rfl rfl ?_
          refine o_pure rfl rfl (pu_addR rfl (ev_tmp rfl) (ev_int (inR_lit rfl)) (inR64 (by omega) (by omega))) rfl rfl ?_
          refine o_pure rfl rfl (pu_move (.inr rfl) (ev_tmp rfl)) rfl rfl ?_
          refine ops_nil ?_
          refine then_n ?_
          refine ok_seq ?_
          refine ok_region ?_
          refine o_pure rfl rfl (pu_move (.inl rfl) (ev_tmp rfl)) rfl rfl ?_
          refine o_pure rfl rfl (pu_move (.inl rfl) (ev_tmp rfl)) rfl rfl ?_
          refine o_pure rfl rfl (pu_indexD hT rfl rfl rfl (ev_tmp rfl) (ev_tmp rfl) (fun _ => rfl) (by first | omega | (simp only [Bool.and_eq_true, Bool.or_eq_true, Bool.or_eq_false_iff, Bool.and_eq_false_iff, Bool.not_eq_true', Bool.not_eq_false', beq_iff_eq, decide_eq_true_eq, decide_eq_false_iff_not] at hg; omega) | (have hh := of_decide_eq_true (beq_tt hg); omega) | (have hh := of_decide_eq_true (beq_tt (and_r hg)); omega)) (by first | omega | (simp only [Bool.and_eq_true, Bool.or_eq_true, Bool.or_eq_false_iff, Bool.and_eq_false_iff, Bool.not_eq_true', Bool.not_eq_false', beq_iff_eq, decide_eq_true_eq, decide_eq_false_iff_not] at hg; omega) | (have hh := of_decide_eq_true (beq_tt hg); omega) | (have hh := of_decide_eq_true (beq_tt (and_r hg)); omega))) rfl rfl ?_
          refine o_pure rfl rfl (pu_fieldRef hT rfl rfl rfl (ev_tmp rfl)) rfl rfl ?_
          refine o_pure rfl rfl (pu_fieldRef hT rfl rfl rfl (ev_tmp rfl)) rfl rfl ?_
          refine o_pure rfl rfl (pu_loadRef1 hT rfl rfl (ev_tmp rfl) rfl) rfl rfl ?_
          refine o_pure rfl rfl (pu_move (.inl rfl) (ev_tmp rfl)) rfl rfl ?_
          refine o_call rfl rfl rfl Try.call56 (ok_laws_heldFieldS (x := (x.getD (j : Int).toNat default).2) (by rw [he]; rfl) (by omega) (by omega)) (as_cons (ev_tmp rfl) (ag_one ac_dv) (as_cons (ev_tmp rfl) (ag_one ac_dv) as_nil)) rfl rfl ?_
          refine o_pure rfl rfl (pu_move (.inr rfl) (ev_tmp rfl)) rfl rfl ?_
          refine ops_nil ?_
          refine then_n ?_
          refine ok_seq ?_
          refine ok_region ?_
          refine o_pure rfl rfl (pu_move (.inl rfl) (ev_tmp rfl)) rfl rfl ?_
          refine o_pure rfl rfl (pu_lss rfl (ev_tmp rfl) (ev_int (inR_lit rfl))) rfl rfl ?_
          refine ops_nil ?_
          refine then_n ?_
          refine ok_cond (ev_tmp rfl) (fun c5 => ?_) (fun c5 => ?_)
          · skip
            have d5 := of_decide_eq_true c5
            refine ok_seq ?_
            refine ok_region ?_
            refine o_pure rfl rfl (pu_move (.inr rfl) (ev_int (inR_lit rfl))) rfl rfl ?_
            refine ops_nil ?_
            refine then_n ?_
            refine ok_ret ?_
            refine blk_r ?_
            refine then_r ?_
            refine then_r ?_
            refine blk_r ?_
            refine then_r ?_
            refine fin1 (res_tmp rfl) (eqI ?_)
            exfalso; omega
          · skip
            have d5 := of_decide_eq_false c5
            refine ok_skip ?_
            refine blk_n ?_
            refine then_n ?_
            refine ok_region ?_
            refine o_pure rfl rfl (pu_move (.inl rfl) (ev_tmp rfl)) rfl rfl ?_
            refine o_pure rfl rfl (pu_addR rfl (ev_tmp rfl) (ev_int (inR_lit rfl)) (inR64 (by omega) (by omega))) rfl rfl ?_
            refine o_pure rfl rfl (pu_move (.inr rfl) (ev_tmp rfl)) rfl rfl ?_
            refine ops_nil ?_
            refine then_n ?_
            refine ⟨j + 1, ?_, ?_, weak_sub ⟨rfl, (eqSlotI (by omega)), rfl, trivial⟩ trivial trivial rfl⟩
            · omega
            · omega
  · skip
    have d1 := of_decide_eq_false c1
    refine ok_exit ?_
    refine then_e ?_
    refine then_e ?_
    refine blk_e rfl ?_
    refine then_n ?_
    refine ok_seq ?_
    refine ok_region ?_
    refine o_pure rfl rfl (pu_move (.inl rfl) (ev_tmp rfl)) rfl rfl ?_
    refine o_pure rfl rfl (pu_move (.inr rfl) (ev_tmp rfl)) rfl rfl ?_
    refine ops_nil ?_
    refine then_n ?_
    refine ok_ret ?_
    refine fin1 (res_tmp rfl) (eqI ?_)
    have hq := wSum_all cItem x j (by omega); omega
set_option maxRecDepth 100000 in
theorem ok_laws_markRecord {x : RecT} {k : Int} (h0 : 0 ≤ k) (h1 : (k) + (wSum cField (x) : Int) ≤ 4611686018427387904) : WFn Try.prog 42 [.agg [(.key 0)], .one (.dv [] (.int .i64 (k)))] (.one (.dv [] (.int .i64 ((k) + (wSum cField (x) : Int))))) [(0, kcOf true (.sl 109 2 ((x).length) ((x).flatMap eField)))] [(0, kcOf true (fieldsD (mkL mkField cField (x) (k))))] := by
  refine ⟨fn_intro Try.func42 rfl Try.ntmps42 Try.results42 rfl (fun C => ?_)⟩
  refine ok_fact (x := .tmp 1) (ev_tmp rfl) (fun (f1 : -9223372036854775808 ≤ (k) ∧ (k) ≤ 9223372036854775807) => ?_)
  refine ok_seq ?_
  refine ok_region ?_
  refine o_box rfl rfl rfl (ev_tmp rfl) rfl rfl rfl rfl ?_
  refine o_pure rfl rfl (pu_move (.inr rfl) (ev_int (inR_lit rfl))) rfl rfl ?_
  refine ops_nil ?_
  refine then_n ?_
  refine ok_seq ?_
  refine ok_region ?_
  refine o_pure rfl rfl (pu_fieldBox hT rfl rfl rfl (ev_tmp rfl)) rfl rfl ?_
  refine o_pure rfl rfl (pu_loadBox1 hT rfl rfl (ev_tmp rfl) rfl rfl) rfl rfl ?_
  refine o_pure rfl rfl (pu_move (.inl rfl) (ev_tmp rfl)) rfl rfl ?_
  refine o_callW [(0, 0, ⟨true, _, _, _, _⟩, ⟨true, _, _, _, _⟩)] rfl rfl rfl Try.call55 (ok_laws_markFieldS (x := x) (by omega) (by omega)) ⟨rfl, trivial⟩ rfl (aw_cons (ev_tmp rfl) (aw_one (awc_key rfl)) (aw_cons (ev_tmp rfl) (aw_one (awc_dv rfl)) aw_nil)) rfl rfl ?_
  simp only [killT, killB, SV.kill, CV.kill, List.map_cons, List.map_nil, List.any_cons, List.any_nil, List.contains_cons, List.contains_nil, List.nil_append, List.cons_append, Nat.reduceBEq, Bool.or_false, Bool.false_or, Bool.or_true, Bool.true_or, cond_true, cond_false]
  refine o_pure rfl rfl (pu_move (.inr rfl) (ev_tmp rfl)) rfl rfl ?_
  refine ops_nil ?_
  refine then_n ?_
  refine ok_seq ?_
  refine ok_region ?_
  refine o_pure rfl rfl (pu_move (.inl rfl) (ev_tmp rfl)) rfl rfl ?_
  refine o_pure rfl rfl (pu_move (.inr rfl) (ev_tmp rfl)) rfl rfl ?_
  refine ops_nil ?_
  refine then_n ?_
  refine ok_weak (σ' := ⟨[(4, .one (.dv [] (.int .i64 ((k) + (wSum cField (x) : Int)))))], [], [(0, some (kcOf true (fieldsD (mkL mkField cField (x) (k)))))]⟩) (weak_sub ⟨rfl, trivial⟩ trivial ⟨rfl, trivial⟩ rfl) ?_
  refine ok_ret ?_
  refine fin1 (res_tmp rfl) ⟨eqI ?_, w1_ok rfl⟩
  rfl
set_option maxRecDepth 100000 in
theorem ok_laws_heldRecord {x y : RecT} {k : Int} (hy : y = mvRecord x k) (h0 : 0 ≤ k) (h1 : (k) + (wSum cField (x) : Int) ≤ 4611686018427387904) : PFn Try.prog 64 [.agg [(.dv [] (fieldsD (y)))], .one (.dv [] (.int .i64 (k)))] (.one (.dv [] (.int .i64 ((k) + (wSum cField (x) : Int))))) := by
  refine ⟨fn_intro Try.func64 rfl Try.ntmps64 Try.results64 rfl (fun C => ?_)⟩
  refine ok_factA (x := .tmp 0) 0 (ev_tmp rfl) rfl (fun (f0_0 : ((y)).length ≤ 9223372036854775807) => ?_)
  refine ok_fact (x := .tmp 1) (ev_tmp rfl) (fun (f1 : -9223372036854775808 ≤ (k) ∧ (k) ≤ 9223372036854775807) => ?_)
  refine ok_seq ?_
  refine ok_region ?_
  refine o_box rfl rfl rfl (ev_tmp rfl) rfl rfl rfl rfl ?_
  refine o_pure rfl rfl (pu_move (.inr rfl) (ev_int (inR_lit rfl))) rfl rfl ?_
  refine ops_nil ?_
  refine then_n ?_
  refine ok_seq ?_
  refine ok_region ?_
  refine o_pure rfl rfl (pu_fieldBox hT rfl rfl rfl (ev_tmp rfl)) rfl rfl ?_
  refine o_pure rfl rfl (pu_loadBox1 hT rfl rfl (ev_tmp rfl) rfl rfl) rfl rfl ?_
  refine o_pure rfl rfl (pu_move (.inl rfl) (ev_tmp rfl)) rfl rfl ?_
  refine o_call rfl rfl rfl Try.call56 (ok_laws_heldFieldS (x := x) (by rw [hy]; rfl) (by omega) (by omega)) (as_cons (ev_tmp rfl) (ag_one ac_dv) (as_cons (ev_tmp rfl) (ag_one ac_dv) as_nil)) rfl rfl ?_
  refine o_pure rfl rfl (pu_move (.inr rfl) (ev_tmp rfl)) rfl rfl ?_
  refine ops_nil ?_
  refine then_n ?_
  refine ok_seq ?_
  refine ok_seq ?_
  refine ok_region ?_
  refine o_pure rfl rfl (pu_move (.inl rfl) (ev_tmp rfl)) rfl rfl ?_
  refine o_pure rfl rfl (pu_lss rfl (ev_tmp rfl) (ev_int (inR_lit rfl))) rfl rfl ?_
  refine ops_nil ?_
  refine then_n ?_
  refine ok_cond (ev_tmp rfl) (fun c1 => ?_) (fun c1 => ?_)
  · skip
    have d1 := of_decide_eq_true c1
    refine ok_seq ?_
    refine ok_region ?_
    refine o_pure rfl rfl (pu_move (.inr rfl) (ev_int (inR_lit rfl))) rfl rfl ?_
    refine ops_nil ?_
    refine then_n ?_
    refine ok_ret ?_
    refine then_r ?_
    refine fin1 (res_tmp rfl) (eqI ?_)
    exfalso; omega
  · skip
    have d1 := of_decide_eq_false c1
    refine ok_skip ?_
    refine then_n ?_
    refine ok_seq ?_
    refine ok_region ?_
    refine o_pure rfl rfl (pu_move (.inl rfl) (ev_tmp rfl)) rfl rfl ?_
    refine o_pure rfl rfl (pu_move (.inr rfl) (ev_tmp rfl)) rfl rfl ?_
    refine ops_nil ?_
    refine then_n ?_
    refine ok_ret ?_
    refine fin1 (res_tmp rfl) (eqI ?_)
    rfl
set_option maxRecDepth 100000 in
theorem ok_laws_markItem {x : ItemT} {k : Int} (h0 : 0 ≤ k) (h1 : (k) + (wSum cField (x.2) : Int) ≤ 4611686018427387904) : WFn Try.prog 26 [.agg [(.dv [] (.int .i64 (x.1.1))), (.dv [] (.int .i64 (x.1.2.1))), (.dv [] (.str (x.1.2.2))), (.key 0)], .one (.dv [] (.int .i64 (k)))] (.one (.dv [] (.int .i64 ((k) + (wSum cField (x.2) : Int))))) [(0, kcOf true (.sl 109 2 ((x.2).length) ((x.2).flatMap eField)))] [(0, kcOf true (fieldsD (mkL mkField cField (x.2) (k))))] := by
  refine ⟨fn_intro Try.func26 rfl Try.ntmps26 Try.results26 rfl (fun C => ?_)⟩
  refine ok_factA (x := .tmp 0) 0 (ev_tmp rfl) rfl (fun (f0_0 : -9223372036854775808 ≤ (x.1.1) ∧ (x.1.1) ≤ 9223372036854775807) => ?_)
  refine ok_factA (x := .tmp 0) 1 (ev_tmp rfl) rfl (fun (f0_1 : -9223372036854775808 ≤ (x.1.2.1) ∧ (x.1.2.1) ≤ 9223372036854775807) => ?_)
  refine ok_factA (x := .tmp 0) 2 (ev_tmp rfl) rfl (fun (f0_2 : (x.1.2.2).size ≤ 9223372036854775807) => ?_)
  refine ok_fact (x := .tmp 1) (ev_tmp rfl) (fun (f1 : -9223372036854775808 ≤ (k) ∧ (k) ≤ 9223372036854775807) => ?_)
  refine ok_seq ?_
  refine ok_region ?_
  refine o_box rfl rfl rfl (ev_tmp rfl) rfl rfl rfl rfl ?_
  refine o_pure rfl rfl (pu_move (.inr rfl) (ev_int (inR_lit rfl))) rfl rfl ?_
  refine ops_nil ?_
  refine then_n ?_
  refine ok_seq ?_
  refine ok_region ?_
  refine o_pure rfl rfl (pu_fieldBox hT rfl rfl rfl (ev_tmp rfl)) rfl rfl ?_
  refine o_pure rfl rfl (pu_loadBoxA hT rfl rfl (ev_tmp rfl) rfl rfl) rfl rfl ?_
  refine o_pure rfl rfl (pu_move (.inl rfl) (ev_tmp rfl)) rfl rfl ?_
  refine o_callW [(0, 0, ⟨true, _, _, _, _⟩, ⟨true, _, _, _, _⟩)] rfl rfl rfl Try.call42 (ok_laws_markRecord (x := x.2) (by omega) (by omega)) ⟨rfl, trivial⟩ rfl (aw_cons (ev_tmp rfl) (aw_agg (awc_cons (awc_key rfl) awc_nil)) (aw_cons (ev_tmp rfl) (aw_one (awc_dv rfl)) aw_nil)) rfl rfl ?_
  simp only [killT, killB, SV.kill, CV.kill, List.map_cons, List.map_nil, List.any_cons, List.any_nil, List.contains_cons, List.contains_nil, List.nil_append, List.cons_append, Nat.reduceBEq, Bool.or_false, Bool.false_or, Bool.or_true, Bool.true_or, cond_true, cond_false]
  refine o_pure rfl rfl (pu_move (.inr rfl) (ev_tmp rfl)) rfl rfl ?_
  refine ops_nil ?_
  refine then_n ?_
  refine ok_seq ?_
  refine ok_region ?_
  refine o_pure rfl rfl (pu_move (.inl rfl) (ev_tmp rfl)) rfl rfl ?_
  refine o_pure rfl rfl (pu_move (.inr rfl) (ev_tmp rfl)) rfl rfl ?_
  refine ops_nil ?_
  refine then_n ?_
  refine ok_weak (σ' := ⟨[(4, .one (.dv [] (.int .i64 ((k) + (wSum cField (x.2) : Int)))))], [], [(0, some (kcOf true (fieldsD (mkL mkField cField (x.2) (k)))))]⟩) (weak_sub ⟨rfl, trivial⟩ trivial ⟨rfl, trivial⟩ rfl) ?_
  refine ok_ret ?_
  refine fin1 (res_tmp rfl) ⟨eqI ?_, w1_ok rfl⟩
  rfl
set_option maxRecDepth 100000 in
theorem ok_laws_heldItem {x y : ItemT} {k : Int} (hy : y = mvItem x k) (h0 : 0 ≤ k) (h1 : (k) + (wSum cField (x.2) : Int) ≤ 4611686018427387904) : PFn Try.prog 27 [.agg [(.dv [] (.int .i64 (y.1.1))), (.dv [] (.int .i64 (y.1.2.1))), (.dv [] (.str (y.1.2.2))), (.dv [] (fieldsD (y.2)))], .one (.dv [] (.int .i64 (k)))] (.one (.dv [] (.int .i64 ((k) + (wSum cField (x.2) : Int))))) := by
  refine ⟨fn_intro Try.func27 rfl Try.ntmps27 Try.results27 rfl (fun C => ?_)⟩
  refine ok_factA (x := .tmp 0) 0 (ev_tmp rfl) rfl (fun (f0_0 : -9223372036854775808 ≤ (y.1.1) ∧ (y.1.1) ≤ 9223372036854775807) => ?_)
  refine ok_factA (x := .tmp 0) 1 (ev_tmp rfl) rfl (fun (f0_1 : -9223372036854775808 ≤ (y.1.2.1) ∧ (y.1.2.1) ≤ 9223372036854775807) => ?_)
  refine ok_factA (x := .tmp 0) 2 (ev_tmp rfl) rfl (fun (f0_2 : (y.1.2.2).size ≤ 9223372036854775807) => ?_)
  refine ok_factA (x := .tmp 0) 3 (ev_tmp rfl) rfl (fun (f0_3 : ((y.2)).length ≤ 9223372036854775807) => ?_)
  refine ok_fact (x := .tmp 1) (ev_tmp rfl) (fun (f1 : -9223372036854775808 ≤ (k) ∧ (k) ≤ 9223372036854775807) => ?_)
  refine ok_seq ?_
  refine ok_region ?_
  refine o_box rfl rfl rfl (ev_tmp rfl) rfl rfl rfl rfl ?_
  refine o_pure rfl rfl (pu_move (.inr rfl) (ev_int (inR_lit rfl))) rfl rfl ?_
  refine ops_nil ?_
  refine then_n ?_
  refine ok_seq ?_
  refine ok_region ?_
  refine o_pure rfl rfl (pu_fieldBox hT rfl rfl rfl (ev_tmp rfl)) rfl rfl ?_
  refine o_pure rfl rfl (pu_loadBoxA hT rfl rfl (ev_tmp rfl) rfl rfl) rfl rfl ?_
  refine o_pure rfl rfl (pu_move (.inl rfl) (ev_tmp rfl)) rfl rfl ?_
  refine o_call rfl rfl rfl Try.call64 (ok_laws_heldRecord (x := x.2) (by rw [hy]; rfl) (by omega) (by omega)) (as_cons (ev_tmp rfl) (ag_agg (ag_cons ac_dv ag_nil)) (as_cons (ev_tmp rfl) (ag_one ac_dv) as_nil)) rfl rfl ?_
  refine o_pure rfl rfl (pu_move (.inr rfl) (ev_tmp rfl)) rfl rfl ?_
  refine ops_nil ?_
  refine then_n ?_
  refine ok_seq ?_
  refine ok_seq ?_
  refine ok_region ?_
  refine o_pure rfl rfl (pu_move (.inl rfl) (ev_tmp rfl)) rfl rfl ?_
  refine o_pure rfl rfl (pu_lss rfl (ev_tmp rfl) (ev_int (inR_lit rfl))) rfl rfl ?_
  refine ops_nil ?_
  refine then_n ?_
  refine ok_cond (ev_tmp rfl) (fun c1 => ?_) (fun c1 => ?_)
  · skip
    have d1 := of_decide_eq_true c1
    refine ok_seq ?_
    refine ok_region ?_
    refine o_pure rfl rfl (pu_move (.inr rfl) (ev_int (inR_lit rfl))) rfl rfl ?_
    refine ops_nil ?_
    refine then_n ?_
    refine ok_ret ?_
    refine then_r ?_
    refine fin1 (res_tmp rfl) (eqI ?_)
    exfalso; omega
  · skip
    have d1 := of_decide_eq_false c1
    refine ok_skip ?_
    refine then_n ?_
    refine ok_seq ?_
    refine ok_region ?_
    refine o_pure rfl rfl (pu_move (.inl rfl) (ev_tmp rfl)) rfl rfl ?_
    refine o_pure rfl rfl (pu_move (.inr rfl) (ev_tmp rfl)) rfl rfl ?_
    refine ops_nil ?_
    refine then_n ?_
    refine ok_ret ?_
    refine fin1 (res_tmp rfl) (eqI ?_)
    rfl
end Go.Proofs.Ytbmgommbmhmbgaa
