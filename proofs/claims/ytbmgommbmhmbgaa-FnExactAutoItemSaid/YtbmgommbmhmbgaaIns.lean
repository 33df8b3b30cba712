/-
  slices.Insert of one element, at structs: what it leaves, on all its roads.
-/
import Derived.Test.YtbmgommbmhmbgaaSCmp
import Derived.Laws.CopyRow
import Derived.Lib.Overlaps
import Derived.Lib.AppendZerosOnto
import Derived.Laws.Externs
import Derived.Shelf.RegionOpenPlain
import Derived.Shelf.Spec.SlicesInsert
namespace Go.Proofs.Ytbmgommbmhmbgaa
open Go.RowKit
open Go.Proofs
set_option linter.unusedVariables false
set_option linter.unusedSimpArgs false

section
variable {P : Program}
theorem run_copyR (w : World) (dT sT ty elem : TypeId) (sz g o dLen dCap : Nat) (a : Addr) (sLen sCap : Nat) (cur : Array Value) (t : TypeId) (cs : List Value)
    (hu : P.underlying dT = some (.slice elem)) (hs : (P.info? elem).map (·.size) = some sz)
    (hg : w.heap[g]? = some (.cells cur t (0, 0))) (hn : cs.length = Nat.min sLen dLen * sz)
    (hsrc : ∀ j v, cs[j]? = some v → w.cell? (a.add j) = some v) (hfit : o + cs.length ≤ cur.size) (h1 : ∀ v ∈ cs, v.oneCell' = true) :
    (Builtin.copy_ #[dT, sT] ty #[.slice (some ⟨g, o, none⟩) dLen dCap, .slice (some a) sLen sCap]).run P w =
      .ok (goInt (Nat.min sLen dLen)) (w.setRow g (cur.toList.take o ++ cs ++ cur.toList.drop (o + cs.length)).toArray) := by
  have hl := run_loadCells_list (P := P) w a cs hsrc
  have hst := run_storeCells_at P g o t cs 0 cur w hg (by simpa using hfit) h1
  cases hq : P.info? elem with
  | none => simp [hq] at hs
  | some i =>
    have hi : i.size = sz := by simpa [hq] using hs
    simp [Builtin.copy_, run_underlying hu, Builtin.lenOf, Builtin.firstCells, sizeOf, typeInfo, hq, hi, ← hn, hl, hst]
end
/-- what an insertion leaves -/
def InsQ (w : World) (v : Value) (e sz n i : Nat) (xs us : List Value) (ex : Ending) (w' : World) : Prop :=
  ∃ A' c', ex = .returned (.slice A' (n + 1) c') ∧ w'.ownsRow 0 e sz (.slice A' (n + 1) c') (n + 1) (xs.take (i * sz) ++ us ++ xs.drop (i * sz)) ∧
    Chg v.ownBlock.toList w w' ∧ (v.ownBlock = (Value.slice A' (n + 1) c').ownBlock ∨ (Value.slice A' (n + 1) c').ownBlock = some w.heap.size)

set_option maxHeartbeats 4000000 in
set_option maxRecDepth 100000 in
/-- at the end -/
theorem ins_end {e sz by_ n vc : Nat} {z : Value} {v : Value} {xs us : List Value} {va : Addr} {w : World} (ht : Try.prog.underlying 26 = some (.slice e)) (hinfo : (Try.prog.info? e).map (fun i => (i.zero, i.size, i.bytes)) = some (some z, sz, by_)) (hzs : z.cells.size = sz) (hsz : 0 < sz)
    (hown : w.ownsRow 0 e sz v n xs) (hsrc : RowRd w (some va) 1 sz us) (h1 : ∀ u ∈ us, u.oneCell' = true) (h63 : n + 1 ≤ maxLen) (hb : (n + 1) * by_ ≤ 140737488355328) :
    Calls Try.prog 67 #[v, .int .i64 n, .slice (some va) 1 vc] w (InsQ w v e sz n n xs us) := by
  have hm : n ≤ 9223372036854775807 := by unfold maxLen at h63; omega
  have hx1 : xs.length = n * sz := hown.1
  have hso : ∀ w, (Go.sizeOf e).run Try.prog w = .ok sz w := fun w => by
    obtain ⟨i0, q1, q2, q3, q4⟩ := info_parts hinfo
    simp [sizeOf, typeInfo, q1, q3]
  have hfin : ∀ A' c' w', w'.ownsRow 0 e sz (.slice A' (n + 1) c') (n + 1) (xs ++ us) → Chg v.ownBlock.toList w w' → (v.ownBlock = (Value.slice A' (n + 1) c').ownBlock ∨ (Value.slice A' (n + 1) c').ownBlock = some w.heap.size) → InsQ w v e sz n n xs us (.returned (.slice A' (n + 1) c')) w' := fun A' c' w' g1 g2 g3 =>
    ⟨A', c', rfl, by rw [← hx1]; simpa using g1, g2, g3⟩
  rcases hown.2 with ⟨rfl, rfl⟩ | ⟨g, cap, cur, rfl, _, hg, hnc, hcm, hcs, htk⟩
  · have HO := Lib.hid hown
    have HF := Lib.hid hfin
    have HS := Lib.hid hsrc
    have H1 := Lib.hid h1
    clear hown hfin hsrc h1 hx1
    go_enter Try.func67, Try.ntmps67
    go_wp2_with (at_builtin; refine wpList_app _ rfl _ _ 26 rfl e z sz by_ ht hinfo hzs hsz _ 0 xs rfl HO (some va) 1 vc us rfl HS H1 h63 hb ?_; intro A' c' w' h9 hchg hblk)
    all_goals (go_ret; exact HF _ _ _ h9 hchg hblk)
  · have HO := Lib.hid hown
    have HF := Lib.hid hfin
    have HS := Lib.hid hsrc
    have H1 := Lib.hid h1
    have HG := Lib.hid hg
    have HT := Lib.hid htk
    have hc63 : cap ≤ 9223372036854775807 := by unfold maxLen at hcm; omega
    clear hown hfin hsrc h1 hx1 hg htk
    go_enter Try.func67, Try.ntmps67
    go_wp2_with (at_builtin; refine wpList_app _ rfl _ _ 26 rfl e z sz by_ ht hinfo hzs hsz _ n xs rfl HO (some va) 1 vc us rfl HS H1 h63 hb ?_; intro A' c' w' h9 hchg hblk)
    all_goals (go_ret; exact HF _ _ _ h9 hchg hblk)

theorem setRow_chg {w : World} {g : Nat} {cur : Array Value} : Chg [g] w (w.setRow g cur) := by
  refine ⟨rfl, rfl, rfl, by simp [World.setRow], fun k hk hn => ?_⟩
  simp only [World.setRow]
  rw [Array.getElem?_modify, if_neg (by simpa using fun e => hn (by simp [e]))]
set_option maxHeartbeats 4000000 in
set_option maxRecDepth 100000 in
/-- in place -/
theorem ins_shift {e sz by_ n i cap vb vcap e2 : Nat} {z : Value} {g : Nat} {xs us : List Value} {w : World} {cur curv : Array Value} (ht : Try.prog.underlying 26 = some (.slice e)) (hinfo : (Try.prog.info? e).map (fun i => (i.zero, i.size, i.bytes)) = some (some z, sz, by_)) (hsz : 0 < sz)
    (hxl : xs.length = n * sz) (hg : w.heap[g]? = some (.cells cur e (0, 0))) (hcm : cap ≤ maxLen) (hcs : cur.size = cap * sz) (htk : cur.toList.take (n * sz) = xs) (hx1 : ∀ u ∈ xs, u.oneCell' = true)
    (hgv : w.heap[vb]? = some (.cells curv e2 (0, 0))) (hul : us.length = sz) (hvs : curv.toList.take sz = us) (h1 : ∀ u ∈ us, u.oneCell' = true) (hne : vb ≠ g) (hi : i < n) (hroom : n + 1 ≤ cap) :
    Calls Try.prog 67 #[.slice (some ⟨g, 0, none⟩) n cap, .int .i64 i, .slice (some ⟨vb, 0, none⟩) 1 vcap] w (InsQ w (.slice (some ⟨g, 0, none⟩) n cap) e sz n i xs us) := by
  have hso : ∀ w, (Go.sizeOf e).run Try.prog w = .ok sz w := fun w => by
    obtain ⟨i0, q1, q2, q3, q4⟩ := info_parts hinfo
    simp [sizeOf, typeInfo, q1, q3]
  have hsi : (Try.prog.info? e).map (·.size) = some sz := by
    obtain ⟨i0, q1, q2, q3, q4⟩ := info_parts hinfo
    rw [q1]; simp [q3]
  have hc63 : cap ≤ 9223372036854775807 := by unfold maxLen at hcm; omega
  have hz2 : ¬ ((i : Int) = (n : Int)) := by omega
  have hw1 : IntKind.i64.wrap ((i : Int) + 1) = (i : Int) + 1 := by rw [IntKind.wrap_i64]; omega
  have hw2 : IntKind.i64.wrap ((n : Int) + 1) = (n : Int) + 1 := by rw [IntKind.wrap_i64]; omega
  have hb1 : (0 : Int) ≤ (i : Int) + 1 := by omega
  have hin : i ≤ n := by omega
  have htn : ((i : Int) + 1).toNat = i + 1 := by omega
  have htn2 : ((n : Int) + 1).toNat = n + 1 := by omega
  have hb2 : ¬ (cap = i + 1) := by omega
  have hb3 : (i : Int) ≤ (n : Int) + 1 := by omega
  have hb4 : ¬ (cap = i) := by omega
  have hov : ∀ off lb cb, (callFunc 89 #[.slice (some ⟨vb, 0, none⟩) 1 vcap, .slice (some ⟨g, off, none⟩) lb cb]).run Try.prog w = .ok (.value (.bool false)) w := fun off lb cb => by
    rw [run_callFunc_extern Try.func89 (by kernel_rfl) (by kernel_rfl) (by kernel_rfl) (e := Extern.SlicesOverlaps.overlaps #[26, 26] #[4]) (by kernel_rfl),
      Lib.run_overlaps_apart w 26 4 e ht sz hso ⟨vb, 0, none⟩ ⟨g, off, none⟩ 1 vcap lb cb hne e2 e curv.size cur.size (by simp [World.shape?, hgv]) (by simp [World.shape?, hg]) (by rw [hcs]; exact Nat.ne_of_gt (Nat.mul_pos (by omega) hsz)) (by simp [World.frozen?, hgv]) (by simp [World.frozen?, hgv])]
    rfl
  have mixed : Try.prog.follows .mixedOrders = true := by kernel_rfl
  have hdl : (xs.drop (i * sz)).length = (n - i) * sz := by rw [List.length_drop, hxl, Nat.sub_mul]
  have m1 : (n + 1) * sz ≤ cap * sz := Nat.mul_le_mul_right _ hroom
  have m2 : (i + 1) * sz + (n - i) * sz = (n + 1) * sz := by rw [← Nat.add_mul]; congr 1; omega
  have m3 : i * sz + (n - i) * sz = n * sz := by rw [← Nat.add_mul]; congr 1; omega
  have m4 : (i + 1) * sz = i * sz + sz := by rw [Nat.add_mul, Nat.one_mul]
  have m5 : (n + 1) * sz = n * sz + sz := by rw [Nat.add_mul, Nat.one_mul]
  have hcur : ∀ j, j < n * sz → cur[j]? = xs[j]? := fun j hj => by rw [← htk, List.getElem?_take, if_pos hj, Array.getElem?_toList]
  obtain ⟨cur1, hcur1⟩ : ∃ cur1 : Array Value, cur1 = (cur.toList.take ((i + 1) * sz) ++ xs.drop (i * sz) ++ cur.toList.drop ((i + 1) * sz + (xs.drop (i * sz)).length)).toArray := ⟨_, rfl⟩
  obtain ⟨cur2, hcur2⟩ : ∃ cur2 : Array Value, cur2 = (cur1.toList.take (i * sz) ++ us ++ cur1.toList.drop (i * sz + us.length)).toArray := ⟨_, rfl⟩
  have hs1 : cur1.size = cap * sz := by
    rw [hcur1]
    simp only [List.size_toArray, List.length_append, List.length_take, List.length_drop, Array.length_toList, hcs, hxl]
    omega
  have hs2 : cur2.size = cap * sz := by
    rw [hcur2]
    simp only [List.size_toArray, List.length_append, List.length_take, List.length_drop, Array.length_toList, hs1, hul]
    omega
  have htk2 : cur2.toList.take ((n + 1) * sz) = xs.take (i * sz) ++ us ++ xs.drop (i * sz) := by
    have e1 : cur1.toList.take (i * sz) = xs.take (i * sz) := by
      rw [hcur1, ← htk, List.take_take, List.append_assoc, List.take_append_of_le_length (by simp only [List.length_take, Array.length_toList, hcs]; omega), List.take_take]
      congr 1; omega
    have e2 : (cur1.toList.drop (i * sz + us.length)).take ((n - i) * sz) = xs.drop (i * sz) := by
      rw [hcur1, hul, ← m4]
      have l1 : (cur.toList.take ((i + 1) * sz)).length = (i + 1) * sz := by simp only [List.length_take, Array.length_toList, hcs]; omega
      simp only [List.append_assoc]
      rw [List.drop_append_of_le_length (by omega), List.drop_eq_nil_of_le (by omega), List.nil_append, List.take_append_of_le_length (by omega), List.take_of_length_le (by omega)]
    rw [hcur2, e1]
    simp only []
    rw [← m2, m4, List.take_append, List.take_of_length_le (by simp only [List.length_append, List.length_take, hxl, hul]; omega)]
    congr 1
    rw [← e2]
    congr 1
    simp only [List.length_append, List.length_take, hxl, hul]
    omega
  have hcp1 : ∀ ty dc sc, (Builtin.copy_ #[26, 26] ty #[.slice (some ⟨g, (i + 1) * sz, none⟩) (n - i) dc, .slice (some ⟨g, i * sz, none⟩) (n + 1 - i) sc]).run Try.prog w.drew = .ok (goInt (Nat.min (n + 1 - i) (n - i))) (w.drew.setRow g cur1) := fun ty dc sc => by
    rw [hcur1]
    refine run_copyR w.drew _ _ ty e sz g ((i + 1) * sz) _ dc ⟨g, i * sz, none⟩ _ sc cur e (xs.drop (i * sz)) ht hsi hg (by rw [hdl]; congr 1; simp only [Nat.min_def]; split <;> omega) (fun j v hj => ?_) (by rw [hdl, hcs]; omega) (fun v hv => hx1 v (List.mem_of_mem_drop hv))
    rw [Addr.add_lit]
    rw [List.getElem?_drop] at hj
    have hj' := (List.getElem?_eq_some_iff.1 hj).1
    exact (cell_of_row w.drew g (i * sz + j) cur e (0, 0) hg).trans ((hcur _ (by omega)).trans hj)
  obtain ⟨W1, hW1⟩ : ∃ W1, W1 = w.drew.setRow g cur1 := ⟨_, rfl⟩
  have hgW : W1.heap[g]? = some (.cells cur1 e (0, 0)) := by rw [hW1]; exact setRow_heap _ g cur cur1 e _ hg
  have hgV : W1.heap[vb]? = some (.cells curv e2 (0, 0)) := by rw [hW1, (setRow_chg (w := w.drew)).block vb (Array.getElem?_eq_some_iff.1 hgv).1 (by simpa using hne)]; exact hgv
  have hcp2 : ∀ ty dc, (Builtin.copy_ #[26, 26] ty #[.slice (some ⟨g, i * sz, none⟩) (n + 1 - i) dc, .slice (some ⟨vb, 0, none⟩) 1 vcap]).run Try.prog W1 = .ok (goInt (Nat.min 1 (n + 1 - i))) (W1.setRow g cur2) := fun ty dc => by
    rw [hcur2]
    refine run_copyR W1 _ _ ty e sz g (i * sz) _ dc ⟨vb, 0, none⟩ _ vcap cur1 e us ht hsi hgW (by rw [hul]; simp only [Nat.min_def]; split <;> first | omega | rfl | simp) (fun j v hj => ?_) (by rw [hul, hs1]; omega) h1
    rw [Addr.add_lit, cell_of_row _ vb _ curv e2 (0, 0) hgV, Nat.zero_add]
    have hj' := (List.getElem?_eq_some_iff.1 hj).1
    rw [← hvs, List.getElem?_take, if_pos (by omega), Array.getElem?_toList] at hj
    exact hj
  have hfin : InsQ w (.slice (some ⟨g, 0, none⟩) n cap) e sz n i xs us (.returned (.slice (some ⟨g, 0, none⟩) (n + 1) cap)) (W1.setRow g cur2) := by
    refine ⟨_, _, rfl, ⟨?_, .inr ⟨g, cap, cur2, rfl, Nat.zero_le _, setRow_heap _ g cur1 cur2 e _ hgW, hroom, hcm, hs2, htk2⟩⟩, ?_, .inl rfl⟩
    · simp only [List.length_append, List.length_take, List.length_drop, hxl, hul]; omega
    · rw [hW1]
      exact ((Chg.refl [g] w).drew.trans setRow_chg).trans setRow_chg
  rw [← hW1] at hcp1
  have HF := Lib.hid hfin
  clear hcur1 hcur2 hfin hgW hgV htk2 hs2 hs1 hcur hx1 h1 hvs htk hxl hdl m1 m2 m3 m4 m5 hgv hg hcs hcm hinfo hsi hW1 hul
  go_enter Try.func67, Try.ntmps67
  go_wp2_with (simp only [hov])
  go_region_law_o (refine step_copy_runI rfl _ _ 26 26 rfl _ _ (by simp [Act.eval, Act.put]) (by simp [Act.eval, Act.put]) (hcp1 _ _ _) ?_)
  go_wp2_with (at_builtin; refine wpList_copy_runI _ rfl _ _ 26 26 rfl _ _ rfl rfl (hcp2 _ _) ?_)
  go_ret
  exact HF

set_option maxHeartbeats 4000000 in
set_option maxRecDepth 100000 in
/-- no room -/
theorem ins_grow {e sz by_ n i vb vcap e2 : Nat} {z : Value} {g : Nat} {xs us : List Value} {w : World} {cur curv : Array Value} (ht : Try.prog.underlying 26 = some (.slice e)) (hinfo : (Try.prog.info? e).map (fun i => (i.zero, i.size, i.bytes)) = some (some z, sz, by_)) (hzs : z.cells.size = sz) (hsz : 0 < sz)
    (hxl : xs.length = n * sz) (hg : w.heap[g]? = some (.cells cur e (0, 0))) (hcm : n ≤ maxLen) (hcs : cur.size = n * sz) (htk : cur.toList.take (n * sz) = xs) (hx1 : ∀ u ∈ xs, u.oneCell' = true)
    (hgv : w.heap[vb]? = some (.cells curv e2 (0, 0))) (hul : us.length = sz) (hvs : curv.toList.take sz = us) (h1 : ∀ u ∈ us, u.oneCell' = true) (hi : i < n) (h63 : n + 1 ≤ maxLen) (hb : (n + 1) * by_ ≤ 140737488355328) :
    Calls Try.prog 67 #[.slice (some ⟨g, 0, none⟩) n n, .int .i64 i, .slice (some ⟨vb, 0, none⟩) 1 vcap] w (InsQ w (.slice (some ⟨g, 0, none⟩) n n) e sz n i xs us) := by
  obtain ⟨i0, q1, q2, q3, q4⟩ := info_parts hinfo
  have hso : ∀ w, (Go.sizeOf e).run Try.prog w = .ok sz w := fun w => by
    simp [sizeOf, typeInfo, q1, q3]
  have hsi : (Try.prog.info? e).map (·.size) = some sz := by
    rw [q1]; simp [q3]
  have hc63 : n + 1 ≤ 9223372036854775807 := by unfold maxLen at h63; omega
  have mixed : Try.prog.follows .mixedOrders = true := by kernel_rfl
  have hz2 : ¬ ((i : Int) = (n : Int)) := by omega
  have hw1 : IntKind.i64.wrap ((i : Int) + 1) = (i : Int) + 1 := by rw [IntKind.wrap_i64]; omega
  have hw2 : IntKind.i64.wrap ((n : Int) + 1) = (n : Int) + 1 := by rw [IntKind.wrap_i64]; omega
  have hw3 : IntKind.i64.wrap ((n : Int) + 1 - (i : Int)) = (n : Int) + 1 - (i : Int) := by rw [IntKind.wrap_i64]; omega
  have hb1 : (0 : Int) ≤ (i : Int) + 1 := by omega
  have hin : i ≤ n := by omega
  have htn : ((i : Int) + 1).toNat = i + 1 := by omega
  have hni : ¬ (n = i) := by omega
  have hkk : (n : Int) + 1 - (i : Int) = ((n + 1 - i : Nat) : Int) := by omega
  have hik : i + (n + 1 - i) = n + 1 := by omega
  have hdl : (xs.drop (i * sz)).length = (n - i) * sz := by rw [List.length_drop, hxl, Nat.sub_mul]
  have m2 : (i + 1) * sz + (n - i) * sz = (n + 1) * sz := by rw [← Nat.add_mul]; congr 1; omega
  have m3 : i * sz + (n - i) * sz = n * sz := by rw [← Nat.add_mul]; congr 1; omega
  have m4 : (i + 1) * sz = i * sz + sz := by rw [Nat.add_mul, Nat.one_mul]
  have m5 : (n + 1) * sz = n * sz + sz := by rw [Nat.add_mul, Nat.one_mul]
  have hcur : ∀ j, j < n * sz → cur[j]? = xs[j]? := fun j hj => by rw [← htk, List.getElem?_take, if_pos hj, Array.getElem?_toList]
  have htl : (xs.take (i * sz)).length = i * sz := by rw [List.length_take, hxl]; omega
  have hold : (Builtin.firstCells i0.size i (.slice (some ⟨g, 0, none⟩) i n)).run Try.prog w.drew = .ok (xs.take (i * sz)).toArray w.drew := by
    rw [q3]
    refine run_firstCells_some w.drew sz i ⟨g, 0, none⟩ i n (xs.take (i * sz)) (by rw [htl]) (fun j v hj => ?_)
    rw [Addr.add_lit, Nat.zero_add]
    rw [List.getElem?_take] at hj
    split at hj
    · exact (cell_of_row w.drew g j cur e (0, 0) hg).trans ((hcur _ (by omega)).trans hj)
    · cases hj
  obtain ⟨G, hG⟩ : ∃ G, G = grownCap w (n + 1) n e := ⟨_, rfl⟩
  have hGn : n + 1 ≤ G := by rw [hG]; exact grownCap_ge w _ _ _
  have hGm : G ≤ maxLen := by rw [hG]; exact grownCap_le_maxLen w (n + 1) n e h63
  obtain ⟨ROW, hROW⟩ : ∃ ROW : Array Value, ROW = (xs.take (i * sz)).toArray ++ Builtin.zeroCells z.cells (n + 1 - i) ++ Builtin.zeroCells z.cells (G - (n + 1)) := ⟨_, rfl⟩
  have hzl : ∀ k, (Builtin.zeroCells z.cells k).size = k * sz := fun k => by simp [Builtin.zeroCells, hzs]
  have hRs : ROW.size = G * sz := by
    rw [hROW]
    simp only [Array.size_append, List.size_toArray, htl, hzl]
    rw [← Nat.add_mul, ← Nat.add_mul]
    congr 1; omega
  obtain ⟨W1, hW1⟩ : ∃ W1, W1 = w.drew.alloc (.cells ROW e) := ⟨_, rfl⟩
  have hrz : ∀ ty, (Builtin.append_ #[26, 3] ty #[.slice (some ⟨g, 0, none⟩) i n, .int .i64 ((n : Int) + 1 - (i : Int))]).run Try.prog w =
      .ok (.slice (some ⟨w.heap.size, 0, none⟩) (n + 1) G) W1 := fun ty => by
    have h := Lib.run_append_grow_zeros (P := Try.prog) w 26 3 ty e i0 z .i64 .i64 ht (by kernel_rfl) q1 q2 (some ⟨g, 0, none⟩) i n (xs.take (i * sz)) hold (n + 1 - i) (by omega) (by omega) (by omega) (by omega) (by
      rw [q4]
      have : (n + 1 - i) * by_ ≤ (n + 1) * by_ := Nat.mul_le_mul_right _ (by omega)
      omega) (by rw [q4, hik]; exact growslice_fits (by omega) hb)
    rw [hik] at h
    rw [hkk, hW1, hROW, hG]
    exact h
  have hgW0 : W1.heap[w.heap.size]? = some (.cells ROW e (0, 0)) := by rw [hW1]; exact heap_alloc_new w.drew _
  have hgl : g < w.heap.size := (Array.getElem?_eq_some_iff.1 hg).1
  have hvl : vb < w.heap.size := (Array.getElem?_eq_some_iff.1 hgv).1
  have hc1 : Chg [] w W1 := by rw [hW1]; exact (Chg.refl [] w).drew.alloc _
  have hgV : W1.heap[vb]? = some (.cells curv e2 (0, 0)) := by rw [hc1.block vb hvl (by simp)]; exact hgv
  have hm1 : (n + 1) * sz ≤ G * sz := Nat.mul_le_mul_right _ hGn
  obtain ⟨R1, hR1⟩ : ∃ R1 : Array Value, R1 = (ROW.toList.take (i * sz) ++ us ++ ROW.toList.drop (i * sz + us.length)).toArray := ⟨_, rfl⟩
  have hs1 : R1.size = G * sz := by
    rw [hR1]
    simp only [List.size_toArray, List.length_append, List.length_take, List.length_drop, Array.length_toList, hRs, hul]
    omega
  obtain ⟨W2, hW2⟩ : ∃ W2, W2 = W1.setRow w.heap.size R1 := ⟨_, rfl⟩
  have hcpA : ∀ ty dc, (Builtin.copy_ #[26, 26] ty #[.slice (some ⟨w.heap.size, i * sz, none⟩) (n + 1 - i) dc, .slice (some ⟨vb, 0, none⟩) 1 vcap]).run Try.prog W1 = .ok (goInt (Nat.min 1 (n + 1 - i))) W2 := fun ty dc => by
    rw [hW2, hR1]
    refine run_copyR W1 _ _ ty e sz w.heap.size (i * sz) _ dc ⟨vb, 0, none⟩ _ vcap ROW e us ht hsi hgW0 (by rw [hul]; simp only [Nat.min_def]; split <;> first | omega | rfl | simp) (fun j v hj => ?_) (by rw [hul, hRs]; omega) h1
    rw [Addr.add_lit, cell_of_row _ vb _ curv e2 (0, 0) hgV, Nat.zero_add]
    have hj' := (List.getElem?_eq_some_iff.1 hj).1
    rw [← hvs, List.getElem?_take, if_pos (by omega), Array.getElem?_toList] at hj
    exact hj
  have hgW2 : W2.heap[w.heap.size]? = some (.cells R1 e (0, 0)) := by rw [hW2]; exact setRow_heap _ _ ROW R1 e _ hgW0
  have hgG : W2.heap[g]? = some (.cells cur e (0, 0)) := by
    rw [hW2, (setRow_chg (w := W1) (g := w.heap.size)).block g (Nat.lt_of_lt_of_le hgl hc1.size) (by simp; omega), hc1.block g hgl (by simp)]; exact hg
  obtain ⟨R2, hR2⟩ : ∃ R2 : Array Value, R2 = (R1.toList.take ((i + 1) * sz) ++ xs.drop (i * sz) ++ R1.toList.drop ((i + 1) * sz + (xs.drop (i * sz)).length)).toArray := ⟨_, rfl⟩
  have hs2 : R2.size = G * sz := by
    rw [hR2]
    simp only [List.size_toArray, List.length_append, List.length_take, List.length_drop, Array.length_toList, hs1, hxl]
    omega
  obtain ⟨W3, hW3⟩ : ∃ W3, W3 = W2.drew.setRow w.heap.size R2 := ⟨_, rfl⟩
  have hcpB : ∀ ty dc sc, (Builtin.copy_ #[26, 26] ty #[.slice (some ⟨w.heap.size, (i + 1) * sz, none⟩) (n - i) dc, .slice (some ⟨g, i * sz, none⟩) (n - i) sc]).run Try.prog W2.drew = .ok (goInt (Nat.min (n - i) (n - i))) W3 := fun ty dc sc => by
    rw [hW3, hR2]
    refine run_copyR W2.drew _ _ ty e sz w.heap.size ((i + 1) * sz) _ dc ⟨g, i * sz, none⟩ _ sc R1 e (xs.drop (i * sz)) ht hsi hgW2 (by rw [hdl]; congr 1; simp) (fun j v hj => ?_) (by rw [hdl, hs1]; omega) (fun v hv => hx1 v (List.mem_of_mem_drop hv))
    rw [Addr.add_lit]
    rw [List.getElem?_drop] at hj
    have hj' := (List.getElem?_eq_some_iff.1 hj).1
    exact (cell_of_row W2.drew g (i * sz + j) cur e (0, 0) hgG).trans ((hcur _ (by omega)).trans hj)
  have htk2 : R2.toList.take ((n + 1) * sz) = xs.take (i * sz) ++ us ++ xs.drop (i * sz) := by
    have e1 : R1.toList.take ((i + 1) * sz) = xs.take (i * sz) ++ us := by
      rw [hR1, m4]
      simp only []
      rw [List.take_append_of_le_length (by simp only [List.length_append, List.length_take, Array.length_toList, hRs, hul]; omega), List.take_of_length_le (by simp only [List.length_append, List.length_take, Array.length_toList, hRs, hul]; omega)]
      congr 1
      rw [hROW]
      simp only [Array.toList_append, List.append_assoc]
      rw [List.take_append_of_le_length (by rw [htl]; exact Nat.le_refl _), List.take_of_length_le (by rw [htl]; exact Nat.le_refl _)]
    rw [hR2, e1]
    simp only []
    rw [List.take_append_of_le_length (by simp only [List.length_append, List.length_take, List.length_drop, hxl, hul]; omega), List.take_of_length_le (by simp only [List.length_append, List.length_take, List.length_drop, hxl, hul]; omega)]
  have hfin : InsQ w (.slice (some ⟨g, 0, none⟩) n n) e sz n i xs us (.returned (.slice (some ⟨w.heap.size, 0, none⟩) (n + 1) G)) W3 := by
    refine ⟨_, _, rfl, ⟨?_, .inr ⟨w.heap.size, G, R2, rfl, Nat.zero_le _, by rw [hW3]; exact setRow_heap _ _ R1 R2 e _ hgW2, hGn, hGm, hs2, htk2⟩⟩, ?_, .inr rfl⟩
    · simp only [List.length_append, List.length_take, List.length_drop, hxl, hul]; omega
    · have c3 : Chg [w.heap.size] W1 W3 := by rw [hW3, hW2]; exact (setRow_chg.drew).trans setRow_chg
      refine ⟨c3.os.trans hc1.os, c3.tape.trans hc1.tape, c3.output.trans hc1.output, Nat.le_trans hc1.size c3.size, fun k hk hn => ?_⟩
      rw [c3.block k (Nat.lt_of_lt_of_le hk hc1.size) (by simp; omega), hc1.block k hk (by simp)]
  have HF := Lib.hid hfin
  have hGi : ¬ (G = i) := by omega
  have hGim : ¬ (G = i + 1) := by omega
  have hG63 : G ≤ 9223372036854775807 := by unfold maxLen at hGm; omega
  obtain ⟨H, hH⟩ : ∃ H, H = w.heap.size := ⟨_, rfl⟩
  rw [← hH] at hrz hcpA hcpB HF
  clear hH hfin hgW0 hgV hgW2 hgG htk2 hs2 hs1 hcur hx1 h1 hvs htk hxl hdl m2 m3 m4 m5 hgv hg hcs hcm hinfo hsi hW1 hW2 hW3 hul hR1 hR2 hROW hRs hzl hold htl hc1 hgl hvl hm1 hkk hik hG q1 q2 q3 q4 hzs
  go_enter Try.func67, Try.ntmps67
  go_wp2_with (first
    | (at_builtin; refine Lib.wpList_append_run _ rfl _ _ _ _ rfl _ _ rfl rfl _ _ (hrz _) ?_)
    | (at_builtin; refine wpList_copy_runI _ rfl _ _ 26 26 rfl _ _ rfl rfl (hcpA _ _) ?_))
  go_region_law_o (refine step_copy_runI rfl _ _ 26 26 rfl _ _ (by simp [Act.eval, Act.put]) (by simp [Act.eval, Act.put]) (hcpB _ _ _) ?_)
  go_wp2
  go_ret
  exact HF

/-- one element at place i, on all roads -/
theorem ins_row {e sz by_ n i e2 : Nat} {z : Value} {v u : Value} {xs us : List Value} {w : World} (ht : Try.prog.underlying 26 = some (.slice e)) (hinfo : (Try.prog.info? e).map (fun i => (i.zero, i.size, i.bytes)) = some (some z, sz, by_)) (hzs : z.cells.size = sz) (hsz : 0 < sz)
    (hown : w.ownsRow 0 e sz v n xs) (hx1 : ∀ u ∈ xs, u.oneCell' = true) (hv : w.ownsRow 0 e2 sz u 1 us) (h1 : ∀ u ∈ us, u.oneCell' = true) (hne : ∀ b, v.ownBlock = some b → u.ownBlock ≠ some b) (hi : i ≤ n) (h63 : n + 1 ≤ maxLen) (hb : (n + 1) * by_ ≤ 140737488355328) :
    Calls Try.prog 67 #[v, .int .i64 i, u] w (InsQ w v e sz n i xs us) := by
  have hul : us.length = sz := by rw [hv.1, Nat.one_mul]
  rcases hv.2 with ⟨_, h⟩ | ⟨vb, vcap, curv, rfl, _, hgv, hvc, _, _, hvt⟩
  · cases h
  · rw [Nat.one_mul] at hvt
    rcases Nat.lt_or_ge i n with hlt | hge
    · rcases hown.2 with ⟨_, h⟩ | ⟨g, cap, cur, rfl, _, hg, hnc, hcm, hcs, htk⟩
      · omega
      · rcases Nat.lt_or_ge n cap with h | h
        · exact ins_shift ht hinfo hsz hown.1 hg hcm hcs htk hx1 hgv hul hvt h1 (fun e => hne g rfl (by rw [e]; rfl)) hlt h
        · have e1 : cap = n := by omega
          subst e1
          exact ins_grow ht hinfo hzs hsz hown.1 hg hcm hcs htk hx1 hgv hul hvt h1 hlt h63 hb
    · have e1 : i = n := by omega
      subst e1
      refine ins_end ht hinfo hzs hsz hown ⟨by rw [Nat.one_mul]; exact hul, fun _ => ⟨vb, 0, rfl, fun j x hj => ?_⟩⟩ h1 h63 hb
      rw [Nat.zero_add, cell_of_row _ vb _ curv e2 (0, 0) hgv]
      have hj' := (List.getElem?_eq_some_iff.1 hj).1
      rw [← hvt, List.getElem?_take, if_pos (by omega), Array.getElem?_toList] at hj
      exact hj
section
variable {P : Program} {C : Ctx} {nt : Nat} {σ : St} {L : Lyt} {a : Act} {w : World} {o : Oper} {x y y2 : Operand} {T : TT}
theorem ownL_cut {w : World} : ∀ (k : Nat) {ds : List DV} {vs : List Value} {f : List Nat}, OwnL w ds vs f → ∃ f1 f2, f = f1 ++ f2 ∧ OwnL w (ds.take k) (vs.take k) f1 ∧ OwnL w (ds.drop k) (vs.drop k) f2
  | 0, ds, vs, f, h => ⟨[], f, rfl, by simp [OwnL], by simpa using h⟩
  | k + 1, [], vs, f, h => by
    simp only [OwnL] at h
    obtain ⟨rfl, rfl⟩ := h
    exact ⟨[], [], rfl, by simp [OwnL], by simp [OwnL]⟩
  | k + 1, d :: ds, _, _, h => by
    simp only [OwnL] at h
    obtain ⟨v, vs', f1, f2, rfl, rfl, h1, h2⟩ := h
    obtain ⟨g1, g2, rfl, h3, h4⟩ := ownL_cut k h2
    refine ⟨f1 ++ g1, g2, by simp, ?_, by simpa using h4⟩
    simp only [List.take_succ_cons, OwnL]
    exact ⟨v, _, f1, g1, rfl, rfl, h1, h3⟩
def insL (c : List DV) (p : Nat) (us : List DV) : List DV := c.take p ++ us ++ c.drop p
/-- an insertion's contract, at a type -/
structure InsOk (P : Program) (f e sz by_ : Nat) : Prop where
  pos : 0 < sz
  lt : e < 1000000
  run : ∀ {n i e2 : Nat} {v u : Value} {xs us : List Value} {w : World}, w.ownsRow 0 e sz v n xs → (∀ u ∈ xs, u.oneCell' = true) → w.ownsRow 0 e2 sz u 1 us → (∀ u ∈ us, u.oneCell' = true) → (∀ b, v.ownBlock = some b → u.ownBlock ≠ some b) → i ≤ n → n + 1 ≤ maxLen → (n + 1) * by_ ≤ 140737488355328 →
    Calls P f #[v, .int .i64 i, u] w (InsQ w v e sz n i xs us)
theorem ef_insert {f e sz by_ d k j : Nat} {ats : Array TypeId} {c c2 : KC} {J : List Nat} {p : Int} (hf : InsOk P f e sz by_) (ho : o.op = .call { callee := .value (.func f), args := #[x, y, y2], argTypes := ats }) (hc : ∀ (args : Array Value) (w : World), (callFunc f args).run P w = .ok (.enter f args) w) (hd : o.dst = some d) (hnt : Nat.blt d nt = true)
    (hx : Ev P C nt σ x (.one (.key k))) (hk : lkk σ k = some c) (hce : c.e = e) (hcs : c.sz = sz) (hp : Ev P C nt σ y (.one (.dv J (.int .i64 p)))) (hp0 : 0 ≤ p) (hp1 : p ≤ c.n) (hy : Ev P C nt σ y2 (.one (.key j))) (hj : lkk σ j = some c2) (hcs2 : c2.sz = sz) (hn2 : c2.n = 1) (he2 : Nat.blt c2.e 1000000 = true) (hkj : k ∉ [j]) (hb : (c.n + 1) * by_ ≤ 140737488355328) (h63 : c.n + 1 ≤ 9223372036854775807) :
    Ef P C nt o σ (fun σ' => σ' = (σ.mut k [j] false ⟨false, e, sz, c.n + 1, insL c.cs (p.toNat * sz) c2.cs⟩).put d (.one (.key k))) := Ef.mk fun L a w hr K Q hK => by
  have hd' : d < nt := by simpa [Nat.blt_eq] using hnt
  have hkj' : k ≠ j := by simpa using hkj
  have e1 := hx.run L a w hr
  have e2 := hp.run L a w hr
  have e3 := hy.run L a w hr
  simp only [SVr, CVr, Lay] at e1 e2 e3
  have ho1 := (hr.ks k c hk).1
  have ho2 := (hr.ks j c2 hj).1
  simp only [Own] at ho1 ho2
  obtain ⟨vs, f1, q1, q2, q3, q4, q5⟩ := ho1
  obtain ⟨us, f2, r1, r2, r3, r4, r5⟩ := ho2
  subst hce; subst hcs
  have hrow := q4.1 hf.lt
  have hrow2 := r4.1 (by simpa [Nat.blt_eq] using he2)
  rw [hn2, hcs2] at hrow2
  have hkn := hr.kn k c hk
  have hjn := hr.kn j c2 hj
  have hkk := hr.kk k j c c2 hk hj hkj'
  rw [q1] at hkn; rw [r1] at hjn
  obtain ⟨n1, n2, n3⟩ := List.nodup_append.1 hkn
  obtain ⟨_, n5, _⟩ := List.nodup_append.1 hjn
  have one : ∀ {ds : List DV} {vs : List Value} {f : List Nat}, OwnL w ds vs f → ∀ u ∈ vs, u.oneCell' = true := fun h => layL_one (ok := fun _ => True) _ _ (ownL_lay _ _ _ h (fun _ _ => trivial))
  have hpn : ((p.toNat : Nat) : Int) = p := Int.toNat_of_nonneg hp0
  refine wp_callGo (xs := [x, y, y2]) ho hc ?_
  simp only [List.map_cons, List.map_nil, e1, e2.1, e3]
  rw [← hpn]
  refine (hf.run (i := p.toNat) hrow (one q5) hrow2 (one r5) (fun b hb' hb2 => hkk b (by rw [q1, hb']; simp) (by rw [r1, hb2]; simp)) (by omega) (by simpa [maxLen] using h63) hb).mono ?_
  rintro ex w' ⟨A', c', rfl, g1, g2, g3⟩
  refine ⟨_, rfl, ?_⟩
  obtain ⟨fa, fb, rfl, t1, t2⟩ := ownL_cut (p.toNat * c.sz) q5
  have hlt1 : ∀ b ∈ fa ++ fb, b < w.heap.size := ownL_lt _ _ _ q5
  have hlt2 : ∀ b ∈ f2, b < w.heap.size := ownL_lt _ _ _ r5
  have hf2k : ∀ b ∈ f2, b ∉ L.fp k := fun b hb' hm => hkk b hm (by rw [r1]; simp [hb'])
  have keep : ∀ b ∈ fa ++ fb, w'.heap[b]? = w.heap[b]? := fun b hb' => g2.block b (hlt1 b hb') (fun hm => n3 b hm b hb' rfl)
  have keep2 : ∀ b ∈ f2, w'.heap[b]? = w.heap[b]? := fun b hb' => g2.block b (hlt2 b hb') (fun hm => hf2k b hb' (by rw [q1]; simp [hm]))
  have k1 := ownL_keep _ _ _ t1 (fun b hb' => keep b (by simp [hb']))
  have k2 := ownL_keep _ _ _ t2 (fun b hb' => keep b (by simp [hb']))
  have k3 := ownL_keep _ _ _ r5 keep2
  have hlen : (insL c.cs (p.toNat * c.sz) c2.cs).length = (c.n + 1) * c.sz := by
    have : c2.cs.length = c.sz := by rw [r3, hn2, Nat.one_mul, hcs2]
    have m : p.toNat * c.sz ≤ c.n * c.sz := Nat.mul_le_mul_right _ (by omega)
    simp only [insL, List.length_append, List.length_take, List.length_drop, this, q3, Nat.add_mul, Nat.one_mul]
    omega
  have hown' : Own w' (.sl c.e c.sz (c.n + 1) (insL c.cs (p.toNat * c.sz) c2.cs)) (.slice A' (c.n + 1) c') ((Value.slice A' (c.n + 1) c').ownBlock.toList ++ (fa ++ f2 ++ fb)) := by
    unfold Own
    exact ⟨_, fa ++ f2 ++ fb, rfl, q2, hlen, rowE_of hf.lt g1, ownL_append _ _ _ _ _ _ (ownL_append _ _ _ _ _ _ k1 k3) k2⟩
  obtain ⟨p1, p2, p3⟩ := List.nodup_append.1 n2
  have hnod : (fa ++ f2 ++ fb).Nodup := by
    refine List.nodup_append.2 ⟨List.nodup_append.2 ⟨p1, n5, fun x hx' y hy' e' => hf2k y hy' (by rw [q1, ← e']; simp [hx'])⟩, p2, fun x hx' y hy' e' => ?_⟩
    rcases List.mem_append.1 hx' with hx' | hx'
    · exact p3 x hx' y hy' e'
    · exact hf2k x hx' (by rw [q1, e']; simp [hy'])
  have hset := hr.setkey (k := k) (c := c) (c' := ⟨false, c.e, c.sz, c.n + 1, insL c.cs (p.toNat * c.sz) c2.cs⟩) (js := [j]) (same := false) hk hkj (g2.mono (fun b hb' => by rw [q1]; simp [hb'])) hown'
    (by
      refine List.nodup_append.2 ⟨?_, hnod, fun x hx' y hy' e' => ?_⟩
      · cases (Value.slice A' (c.n + 1) c').ownBlock <;> simp
      · subst e'
        rcases g3 with hb' | hb'
        · rw [← hb'] at hx'
          rcases List.mem_append.1 hy' with hy' | hy'
          · rcases List.mem_append.1 hy' with hy' | hy'
            · exact n3 x hx' x (by simp [hy']) rfl
            · exact hf2k x hy' (by rw [q1]; simp [hx'])
          · exact n3 x hx' x (by simp [hy']) rfl
        · rw [hb'] at hx'
          simp only [Option.toList_some, List.mem_singleton] at hx'
          subst hx'
          rcases List.mem_append.1 hy' with hy' | hy'
          · rcases List.mem_append.1 hy' with hy' | hy'
            · exact absurd (hlt1 w.heap.size (by simp [hy'])) (by omega)
            · exact absurd (hlt2 _ hy') (by omega)
          · exact absurd (hlt1 w.heap.size (by simp [hy'])) (by omega))
    (fun b hb' => by
      rcases List.mem_append.1 hb' with hb' | hb'
      · rcases g3 with hbl | hbl
        · rw [← hbl] at hb'; exact .inl (by rw [q1]; simp [hb'])
        · rw [hbl] at hb'
          simp only [Option.toList_some, List.mem_singleton] at hb'
          exact .inr (.inr (by omega))
      · rcases List.mem_append.1 hb' with hb' | hb'
        · rcases List.mem_append.1 hb' with hb' | hb'
          · exact .inl (by rw [q1]; simp [hb'])
          · exact .inr (.inl ⟨j, by simp, by rw [r1]; simp [hb']⟩)
        · exact .inl (by rw [q1]; simp [hb'])) (by simp [hj]) (by simp) (by simp)
  refine hK { L with fp := fun i => if i = k then (Value.slice A' (c.n + 1) c').ownBlock.toList ++ (fa ++ f2 ++ fb) else L.fp i, rv := fun i => if i = k then .slice A' (c.n + 1) c' else L.rv i } _ _ _ rfl ?_
  rw [hd]
  exact hset.put (v := .one (.key k)) (r := .slice A' (c.n + 1) c') hd' (by simp [SVr, CVr]) (by simp [SV.keys, CV.keys, mut_key]) (by simp [SV.boxes])
theorem o_insert {Q : Exit → St → Prop} {all : Array Oper} {rest : List Oper} {tm : List (Nat × SV)} {bx : List (Nat × TypeId × List CV)} {ks : List (Nat × Option KC)} {f e sz by_ d k j n : Nat} {ats : Array TypeId} {c c2 : KC} {J : List Nat} {p : Int} {cs : List DV} (hf : InsOk P f e sz by_) (hg : o.guard = none) (ho : o.op = .call { callee := .value (.func f), args := #[x, y, y2], argTypes := ats }) (hc : ∀ (args : Array Value) (w : World), (callFunc f args).run P w = .ok (.enter f args) w) (hd : o.dst = some d) (hnt : Nat.blt d nt = true)
    (hx : Ev P C nt ⟨tm, bx, ks⟩ x (.one (.key k))) (hk : lkk ⟨tm, bx, ks⟩ k = some c) (hce : c.e = e) (hcs : c.sz = sz) (hp : Ev P C nt ⟨tm, bx, ks⟩ y (.one (.dv J (.int .i64 p)))) (hp0 : 0 ≤ p) (hp1 : p ≤ c.n) (hy : Ev P C nt ⟨tm, bx, ks⟩ y2 (.one (.key j))) (hj : lkk ⟨tm, bx, ks⟩ j = some c2) (hcs2 : c2.sz = sz) (hn2 : c2.n = 1) (he2 : Nat.blt c2.e 1000000 = true) (hkj : k ∉ [j]) (hb : (c.n + 1) * by_ ≤ 140737488355328) (h63 : c.n + 1 ≤ 9223372036854775807) (hn : c.n + 1 = n) (hcc : insL c.cs (p.toNat * sz) c2.cs = cs)
    (h : Ops P C nt Q all rest ⟨(d, .one (.key k)) :: killT [k, j] [k, j] tm, killB [k, j] [k, j] bx, (k, some ⟨false, e, sz, n, cs⟩) :: (j, none) :: ks⟩) : Ops P C nt Q all (o :: rest) ⟨tm, bx, ks⟩ :=
  ops_ef1 hg (ef_insert hf ho hc hd hnt hx hk hce hcs hp hp0 hp1 hy hj hcs2 hn2 he2 hkj hb h63) (by subst hn; subst hcc; exact h)
end
theorem ev_keyv' {P : Program} {C : Ctx} {nt : Nat} {σ : St} {x : Operand} {k : Nat} {c : KC} {d : DV} (h : Ev P C nt σ x (.one (.key k))) (hk : lkk σ k = some c) (hd : DV.sl c.e c.sz c.n c.cs = d) : Ev P C nt σ x (.one (.dv [k] d)) := by subst hd; exact ev_keyv h hk
/-- the contract at items -/
theorem insOk_Item {sz by_ : Nat} {zc : List CV} (he : look TTab.el 52 = some (sz, by_, zc)) (hl0 : zc.length = sz) (hpos : 0 < sz) : InsOk Try.prog 67 52 sz by_ := by
  obtain ⟨inf, z, g1, g2, g3, g4, g5⟩ := hT.el _ _ _ _ he
  refine ⟨hpos, hT.lt _ _ he, fun hown hx1 hv h1 hne hi h63 hb => ins_row (z := z) (by kernel_rfl) (by rw [g1]; simp [g2, g3, g4]) (by
    have := zL_len g5
    simp only [Array.length_toList] at this
    rw [this, hl0]) hpos hown hx1 hv h1 hne hi h63 hb⟩
end Go.Proofs.Ytbmgommbmhmbgaa
