/-
  The rules of a small program logic over abstract states: no program is in sight but in the table of its types. Conditions: none.
-/
import Derived.Laws.CopyRow
import Derived.Laws.Externs
import Derived.Lib.AppendStr
import Derived.Lib.AppendZerosOnto
import Derived.Lib.Overlaps
import Derived.LoopN
import Derived.Shelf.RegionOpenPlain
import Derived.Shelf.Spec.SlicesInsert
import Derived.Test.YtfejjkndbpejbaaGreatU2
namespace Go.Proofs.YtfejjkndbpejbaaGreat
open Go.RowKit
open Go.Proofs
set_option linter.unusedVariables false
set_option linter.unusedSimpArgs false
section
variable {P : Program}
theorem a6S (w : World) (dT sT ty elem : TypeId) (sz g o dLen dCap : Nat) (a : Addr) (sLen sCap : Nat) (cur : Array Value) (t : TypeId) (cs : List Value)
  (hu : P.underlying dT = some (.slice elem)) (hs : (P.info? elem).map (·.size) = some sz)
  (hg : w.heap[g]? = some (.cells cur t (0, 0))) (hn : cs.length = Nat.min sLen dLen * sz)
  (hsrc : ∀ j v, cs[j]? = some v → w.cell? (a.add j) = some v) (hfit : o + cs.length ≤ cur.size) (h1 : ∀ v ∈ cs, v.oneCell' = true) :
  (Builtin.copy_ #[dT, sT] ty #[.slice (some ⟨g, o, none⟩) dLen dCap, .slice (some a) sLen sCap]).run P w =
   .ok (goInt (Nat.min sLen dLen)) (w.setRow g (cur.toList.take o ++ cs ++ cur.toList.drop (o + cs.length)).toArray) := by
 have hl := run_loadCells_list (P := P) w a cs hsrc
 have hst := run_storeCells_at P g o t cs 0 cur w hg (by simpa using hfit) h1
 cases hq : P.info? elem with
 | none => simp [hq] at hs
 | some i =>
  have hi : i.size = sz := by simpa [hq] using hs
  simp [Builtin.copy_, run_underlying hu, Builtin.lenOf, Builtin.firstCells, sizeOf, typeInfo, hq, hi, ← hn, hl, hst]
end
def a4j (w : World) (v : Value) (e sz n i : Nat) (xs us : List Value) (ex : Ending) (w' : World) : Prop :=
 ∃ A' c', ex = .returned (.slice A' (n + 1) c') ∧ w'.ownsRow 0 e sz (.slice A' (n + 1) c') (n + 1) (xs.take (i * sz) ++ us ++ xs.drop (i * sz)) ∧
  Chg v.ownBlock.toList w w' ∧ (v.ownBlock = (Value.slice A' (n + 1) c').ownBlock ∨ (Value.slice A' (n + 1) c').ownBlock = some w.heap.size)
set_option maxHeartbeats 4000000 in
set_option maxRecDepth 100000 in
theorem c3x {e sz by_ n vc : Nat} {z : Value} {v : Value} {xs us : List Value} {va : Addr} {w : World} (ht : Tryz.prog.underlying 65 = some (.slice e)) (hinfo : (Tryz.prog.info? e).map (fun i => (i.zero, i.size, i.bytes)) = some (some z, sz, by_)) (hzs : z.cells.size = sz) (hsz : 0 < sz)
  (hown : w.ownsRow 0 e sz v n xs) (hsrc : a2z w (some va) 1 sz us) (h1 : ∀ u ∈ us, u.oneCell' = true) (h63 : n + 1 ≤ maxLen) (hb : (n + 1) * by_ ≤ 140737488355328) :
  Calls Tryz.prog 145 #[v, .int .i64 n, .slice (some va) 1 vc] w (a4j w v e sz n n xs us) := by
 have hm : n ≤ 9223372036854775807 := by unfold maxLen at h63; omega
 have hx1 : xs.length = n * sz := hown.1
 have hso : ∀ w, (Go.sizeOf e).run Tryz.prog w = .ok sz w := fun w => by
  obtain ⟨i0, q1, q2, q3, q4⟩ := info_parts hinfo
  simp [sizeOf, typeInfo, q1, q3]
 have hfin : ∀ A' c' w', w'.ownsRow 0 e sz (.slice A' (n + 1) c') (n + 1) (xs ++ us) → Chg v.ownBlock.toList w w' → (v.ownBlock = (Value.slice A' (n + 1) c').ownBlock ∨ (Value.slice A' (n + 1) c').ownBlock = some w.heap.size) → a4j w v e sz n n xs us (.returned (.slice A' (n + 1) c')) w' := fun A' c' w' g1 g2 g3 =>
  ⟨A', c', rfl, by rw [← hx1]; simpa using g1, g2, g3⟩
 rcases hown.2 with ⟨rfl, rfl⟩ | ⟨g, cap, cur, rfl, _, hg, hnc, hcm, hcs, htk⟩
 ·have HO := Lib.hid hown
  have HF := Lib.hid hfin
  have HS := Lib.hid hsrc
  have H1 := Lib.hid h1
  clear hown hfin hsrc h1 hx1
  go_enter Tryz.func145, Tryz.ntmps145
  go_wp2_with (at_builtin; refine a9X _ rfl _ _ 65 rfl e z sz by_ ht hinfo hzs hsz _ 0 xs rfl HO (some va) 1 vc us rfl HS H1 h63 hb ?_; intro A' c' w' h9 hchg hblk)
  all_goals (go_ret; exact HF _ _ _ h9 hchg hblk)
 ·have HO := Lib.hid hown
  have HF := Lib.hid hfin
  have HS := Lib.hid hsrc
  have H1 := Lib.hid h1
  have HG := Lib.hid hg
  have HT := Lib.hid htk
  have hc63 : cap ≤ 9223372036854775807 := by unfold maxLen at hcm; omega
  clear hown hfin hsrc h1 hx1 hg htk
  go_enter Tryz.func145, Tryz.ntmps145
  go_wp2_with (at_builtin; refine a9X _ rfl _ _ 65 rfl e z sz by_ ht hinfo hzs hsz _ n xs rfl HO (some va) 1 vc us rfl HS H1 h63 hb ?_; intro A' c' w' h9 hchg hblk)
  all_goals (go_ret; exact HF _ _ _ h9 hchg hblk)
theorem a4H {w : World} {g : Nat} {cur : Array Value} : Chg [g] w (w.setRow g cur) := by
 refine ⟨rfl, rfl, rfl, by simp [World.setRow], fun k hk hn => ?_⟩
 simp only [World.setRow]
 rw [Array.getElem?_modify, if_neg (by simpa using fun e => hn (by simp [e]))]
set_option maxHeartbeats 4000000 in
set_option maxRecDepth 100000 in
theorem c1p {e sz by_ n i cap vb vcap e2 : Nat} {z : Value} {g : Nat} {xs us : List Value} {w : World} {cur curv : Array Value} (ht : Tryz.prog.underlying 65 = some (.slice e)) (hinfo : (Tryz.prog.info? e).map (fun i => (i.zero, i.size, i.bytes)) = some (some z, sz, by_)) (hsz : 0 < sz)
  (hxl : xs.length = n * sz) (hg : w.heap[g]? = some (.cells cur e (0, 0))) (hcm : cap ≤ maxLen) (hcs : cur.size = cap * sz) (htk : cur.toList.take (n * sz) = xs) (hx1 : ∀ u ∈ xs, u.oneCell' = true)
  (hgv : w.heap[vb]? = some (.cells curv e2 (0, 0))) (hul : us.length = sz) (hvs : curv.toList.take sz = us) (h1 : ∀ u ∈ us, u.oneCell' = true) (hne : vb ≠ g) (hi : i < n) (hroom : n + 1 ≤ cap) :
  Calls Tryz.prog 145 #[.slice (some ⟨g, 0, none⟩) n cap, .int .i64 i, .slice (some ⟨vb, 0, none⟩) 1 vcap] w (a4j w (.slice (some ⟨g, 0, none⟩) n cap) e sz n i xs us) := by
 have hso : ∀ w, (Go.sizeOf e).run Tryz.prog w = .ok sz w := fun w => by
  obtain ⟨i0, q1, q2, q3, q4⟩ := info_parts hinfo
  simp [sizeOf, typeInfo, q1, q3]
 have hsi : (Tryz.prog.info? e).map (·.size) = some sz := by
  obtain ⟨i0, q1, q2, q3, q4⟩ := info_parts hinfo
  rw [q1]; simp [q3]
 have hc63 : cap ≤ 9223372036854775807 := by unfold maxLen at hcm; omega
 have hz2 : ¬ ((i : Int) = (n : Int)) := by omega
 have hw1 : IntKind.i64.wrap ((i : Int) + 1) = (i : Int) + 1 := by rw [IntKind.wrap_i64]; omega
 have hw2 : IntKind.i64.wrap ((n : Int) + 1) = (n : Int) + 1 := by rw [IntKind.wrap_i64]; omega
 have hb1 : (0 : Int) ≤ (i : Int) + 1 := by omega
 have hin : i ≤ n := by omega
 have htn : ((i : Int) + 1).toNat = i + 1 := by omega
 have htn2 : ((n : Int) + 1).toNat = n + 1 := by omega
 have hb2 : ¬ (cap = i + 1) := by omega
 have hb3 : (i : Int) ≤ (n : Int) + 1 := by omega
 have hb4 : ¬ (cap = i) := by omega
 have hov : ∀ off lb cb, (callFunc 160 #[.slice (some ⟨vb, 0, none⟩) 1 vcap, .slice (some ⟨g, off, none⟩) lb cb]).run Tryz.prog w = .ok (.value (.bool false)) w := fun off lb cb => by
  rw [run_callFunc_extern Tryz.func160 (by kernel_rfl) (by kernel_rfl) (by kernel_rfl) (e := Extern.SlicesOverlaps.overlaps #[65, 65] #[4]) (by kernel_rfl),
   Lib.run_overlaps_apart w 65 4 e ht sz hso ⟨vb, 0, none⟩ ⟨g, off, none⟩ 1 vcap lb cb hne e2 e curv.size cur.size (by simp [World.shape?, hgv]) (by simp [World.shape?, hg]) (by rw [hcs]; exact Nat.ne_of_gt (Nat.mul_pos (by omega) hsz)) (by simp [World.frozen?, hgv]) (by simp [World.frozen?, hgv])]
  rfl
 have mixed : Tryz.prog.follows .mixedOrders = true := by kernel_rfl
 have hdl : (xs.drop (i * sz)).length = (n - i) * sz := by rw [List.length_drop, hxl, Nat.sub_mul]
 have m1 : (n + 1) * sz ≤ cap * sz := Nat.mul_le_mul_right _ hroom
 have m2 : (i + 1) * sz + (n - i) * sz = (n + 1) * sz := by rw [← Nat.add_mul]; congr 1; omega
 have m3 : i * sz + (n - i) * sz = n * sz := by rw [← Nat.add_mul]; congr 1; omega
 have m4 : (i + 1) * sz = i * sz + sz := by rw [Nat.add_mul, Nat.one_mul]
 have m5 : (n + 1) * sz = n * sz + sz := by rw [Nat.add_mul, Nat.one_mul]
 have hcur : ∀ j, j < n * sz → cur[j]? = xs[j]? := fun j hj => by rw [← htk, List.getElem?_take, if_pos hj, Array.getElem?_toList]
 obtain ⟨cur1, hcur1⟩ : ∃ cur1 : Array Value, cur1 = (cur.toList.take ((i + 1) * sz) ++ xs.drop (i * sz) ++ cur.toList.drop ((i + 1) * sz + (xs.drop (i * sz)).length)).toArray := ⟨_, rfl⟩
 obtain ⟨cur2, hcur2⟩ : ∃ cur2 : Array Value, cur2 = (cur1.toList.take (i * sz) ++ us ++ cur1.toList.drop (i * sz + us.length)).toArray := ⟨_, rfl⟩
 have hs1 : cur1.size = cap * sz := by
  rw [hcur1]
  simp only [List.size_toArray, List.length_append, List.length_take, List.length_drop, Array.length_toList, hcs, hxl]
  omega
 have hs2 : cur2.size = cap * sz := by
  rw [hcur2]
  simp only [List.size_toArray, List.length_append, List.length_take, List.length_drop, Array.length_toList, hs1, hul]
  omega
 have htk2 : cur2.toList.take ((n + 1) * sz) = xs.take (i * sz) ++ us ++ xs.drop (i * sz) := by
  have e1 : cur1.toList.take (i * sz) = xs.take (i * sz) := by
   rw [hcur1, ← htk, List.take_take, List.append_assoc, List.take_append_of_le_length (by simp only [List.length_take, Array.length_toList, hcs]; omega), List.take_take]
   congr 1; omega
  have e2 : (cur1.toList.drop (i * sz + us.length)).take ((n - i) * sz) = xs.drop (i * sz) := by
   rw [hcur1, hul, ← m4]
   have l1 : (cur.toList.take ((i + 1) * sz)).length = (i + 1) * sz := by simp only [List.length_take, Array.length_toList, hcs]; omega
   simp only [List.append_assoc]
   rw [List.drop_append_of_le_length (by omega), List.drop_eq_nil_of_le (by omega), List.nil_append, List.take_append_of_le_length (by omega), List.take_of_length_le (by omega)]
  rw [hcur2, e1]
  simp only []
  rw [← m2, m4, List.take_append, List.take_of_length_le (by simp only [List.length_append, List.length_take, hxl, hul]; omega)]
  congr 1
  rw [← e2]
  congr 1
  simp only [List.length_append, List.length_take, hxl, hul]
  omega
 have hcp1 : ∀ ty dc sc, (Builtin.copy_ #[65, 65] ty #[.slice (some ⟨g, (i + 1) * sz, none⟩) (n - i) dc, .slice (some ⟨g, i * sz, none⟩) (n + 1 - i) sc]).run Tryz.prog w.drew = .ok (goInt (Nat.min (n + 1 - i) (n - i))) (w.drew.setRow g cur1) := fun ty dc sc => by
  rw [hcur1]
  refine a6S w.drew _ _ ty e sz g ((i + 1) * sz) _ dc ⟨g, i * sz, none⟩ _ sc cur e (xs.drop (i * sz)) ht hsi hg (by rw [hdl]; congr 1; simp only [Nat.min_def]; split <;> omega) (fun j v hj => ?_) (by rw [hdl, hcs]; omega) (fun v hv => hx1 v (List.mem_of_mem_drop hv))
  rw [Addr.add_lit]
  rw [List.getElem?_drop] at hj
  have hj' := (List.getElem?_eq_some_iff.1 hj).1
  exact (cell_of_row w.drew g (i * sz + j) cur e (0, 0) hg).trans ((hcur _ (by omega)).trans hj)
 obtain ⟨W1, hW1⟩ : ∃ W1, W1 = w.drew.setRow g cur1 := ⟨_, rfl⟩
 have hgW : W1.heap[g]? = some (.cells cur1 e (0, 0)) := by rw [hW1]; exact setRow_heap _ g cur cur1 e _ hg
 have hgV : W1.heap[vb]? = some (.cells curv e2 (0, 0)) := by rw [hW1, (a4H (w := w.drew)).block vb (Array.getElem?_eq_some_iff.1 hgv).1 (by simpa using hne)]; exact hgv
 have hcp2 : ∀ ty dc, (Builtin.copy_ #[65, 65] ty #[.slice (some ⟨g, i * sz, none⟩) (n + 1 - i) dc, .slice (some ⟨vb, 0, none⟩) 1 vcap]).run Tryz.prog W1 = .ok (goInt (Nat.min 1 (n + 1 - i))) (W1.setRow g cur2) := fun ty dc => by
  rw [hcur2]
  refine a6S W1 _ _ ty e sz g (i * sz) _ dc ⟨vb, 0, none⟩ _ vcap cur1 e us ht hsi hgW (by rw [hul]; simp only [Nat.min_def]; split <;> first | omega | rfl | simp) (fun j v hj => ?_) (by rw [hul, hs1]; omega) h1
  rw [Addr.add_lit, cell_of_row _ vb _ curv e2 (0, 0) hgV, Nat.zero_add]
  have hj' := (List.getElem?_eq_some_iff.1 hj).1
  rw [← hvs, List.getElem?_take, if_pos (by omega), Array.getElem?_toList] at hj
  exact hj
 have hfin : a4j w (.slice (some ⟨g, 0, none⟩) n cap) e sz n i xs us (.returned (.slice (some ⟨g, 0, none⟩) (n + 1) cap)) (W1.setRow g cur2) := by
  refine ⟨_, _, rfl, ⟨?_, .inr ⟨g, cap, cur2, rfl, Nat.zero_le _, setRow_heap _ g cur1 cur2 e _ hgW, hroom, hcm, hs2, htk2⟩⟩, ?_, .inl rfl⟩
  ·simp only [List.length_append, List.length_take, List.length_drop, hxl, hul]; omega
  ·rw [hW1]
   exact ((Chg.refl [g] w).drew.trans a4H).trans a4H
 rw [← hW1] at hcp1
 have HF := Lib.hid hfin
 clear hcur1 hcur2 hfin hgW hgV htk2 hs2 hs1 hcur hx1 h1 hvs htk hxl hdl m1 m2 m3 m4 m5 hgv hg hcs hcm hinfo hsi hW1 hul
 go_enter Tryz.func145, Tryz.ntmps145
 go_wp2_with (simp only [hov])
 go_region_law_o (refine step_copy_runI rfl _ _ 65 65 rfl _ _ (by simp [Act.eval, Act.put]) (by simp [Act.eval, Act.put]) (hcp1 _ _ _) ?_)
 go_wp2_with (at_builtin; refine wpList_copy_runI _ rfl _ _ 65 65 rfl _ _ rfl rfl (hcp2 _ _) ?_)
 go_ret
 exact HF
set_option maxHeartbeats 4000000 in
set_option maxRecDepth 100000 in
theorem c4j {e sz by_ n i vb vcap e2 : Nat} {z : Value} {g : Nat} {xs us : List Value} {w : World} {cur curv : Array Value} (ht : Tryz.prog.underlying 65 = some (.slice e)) (hinfo : (Tryz.prog.info? e).map (fun i => (i.zero, i.size, i.bytes)) = some (some z, sz, by_)) (hzs : z.cells.size = sz) (hsz : 0 < sz)
  (hxl : xs.length = n * sz) (hg : w.heap[g]? = some (.cells cur e (0, 0))) (hcm : n ≤ maxLen) (hcs : cur.size = n * sz) (htk : cur.toList.take (n * sz) = xs) (hx1 : ∀ u ∈ xs, u.oneCell' = true)
  (hgv : w.heap[vb]? = some (.cells curv e2 (0, 0))) (hul : us.length = sz) (hvs : curv.toList.take sz = us) (h1 : ∀ u ∈ us, u.oneCell' = true) (hi : i < n) (h63 : n + 1 ≤ maxLen) (hb : (n + 1) * by_ ≤ 140737488355328) :
  Calls Tryz.prog 145 #[.slice (some ⟨g, 0, none⟩) n n, .int .i64 i, .slice (some ⟨vb, 0, none⟩) 1 vcap] w (a4j w (.slice (some ⟨g, 0, none⟩) n n) e sz n i xs us) := by
 obtain ⟨i0, q1, q2, q3, q4⟩ := info_parts hinfo
 have hso : ∀ w, (Go.sizeOf e).run Tryz.prog w = .ok sz w := fun w => by
  simp [sizeOf, typeInfo, q1, q3]
 have hsi : (Tryz.prog.info? e).map (·.size) = some sz := by
  rw [q1]; simp [q3]
 have hc63 : n + 1 ≤ 9223372036854775807 := by unfold maxLen at h63; omega
 have mixed : Tryz.prog.follows .mixedOrders = true := by kernel_rfl
 have hz2 : ¬ ((i : Int) = (n : Int)) := by omega
 have hw1 : IntKind.i64.wrap ((i : Int) + 1) = (i : Int) + 1 := by rw [IntKind.wrap_i64]; omega
 have hw2 : IntKind.i64.wrap ((n : Int) + 1) = (n : Int) + 1 := by rw [IntKind.wrap_i64]; omega
 have hw3 : IntKind.i64.wrap ((n : Int) + 1 - (i : Int)) = (n : Int) + 1 - (i : Int) := by rw [IntKind.wrap_i64]; omega
 have hb1 : (0 : Int) ≤ (i : Int) + 1 := by omega
 have hin : i ≤ n := by omega
 have htn : ((i : Int) + 1).toNat = i + 1 := by omega
 have hni : ¬ (n = i) := by omega
 have hkk : (n : Int) + 1 - (i : Int) = ((n + 1 - i : Nat) : Int) := by omega
 have hik : i + (n + 1 - i) = n + 1 := by omega
 have hdl : (xs.drop (i * sz)).length = (n - i) * sz := by rw [List.length_drop, hxl, Nat.sub_mul]
 have m2 : (i + 1) * sz + (n - i) * sz = (n + 1) * sz := by rw [← Nat.add_mul]; congr 1; omega
 have m3 : i * sz + (n - i) * sz = n * sz := by rw [← Nat.add_mul]; congr 1; omega
 have m4 : (i + 1) * sz = i * sz + sz := by rw [Nat.add_mul, Nat.one_mul]
 have m5 : (n + 1) * sz = n * sz + sz := by rw [Nat.add_mul, Nat.one_mul]
 have hcur : ∀ j, j < n * sz → cur[j]? = xs[j]? := fun j hj => by rw [← htk, List.getElem?_take, if_pos hj, Array.getElem?_toList]
 have htl : (xs.take (i * sz)).length = i * sz := by rw [List.length_take, hxl]; omega
 have hold : (Builtin.firstCells i0.size i (.slice (some ⟨g, 0, none⟩) i n)).run Tryz.prog w.drew = .ok (xs.take (i * sz)).toArray w.drew := by
  rw [q3]
  refine run_firstCells_some w.drew sz i ⟨g, 0, none⟩ i n (xs.take (i * sz)) (by rw [htl]) (fun j v hj => ?_)
  rw [Addr.add_lit, Nat.zero_add]
  rw [List.getElem?_take] at hj
  split at hj
  ·exact (cell_of_row w.drew g j cur e (0, 0) hg).trans ((hcur _ (by omega)).trans hj)
  ·cases hj
 obtain ⟨G, hG⟩ : ∃ G, G = grownCap w (n + 1) n e := ⟨_, rfl⟩
 have hGn : n + 1 ≤ G := by rw [hG]; exact grownCap_ge w _ _ _
 have hGm : G ≤ maxLen := by rw [hG]; exact grownCap_le_maxLen w (n + 1) n e h63
 obtain ⟨ROW, hROW⟩ : ∃ ROW : Array Value, ROW = (xs.take (i * sz)).toArray ++ Builtin.zeroCells z.cells (n + 1 - i) ++ Builtin.zeroCells z.cells (G - (n + 1)) := ⟨_, rfl⟩
 have hzl : ∀ k, (Builtin.zeroCells z.cells k).size = k * sz := fun k => by simp [Builtin.zeroCells, hzs]
 have hRs : ROW.size = G * sz := by
  rw [hROW]
  simp only [Array.size_append, List.size_toArray, htl, hzl]
  rw [← Nat.add_mul, ← Nat.add_mul]
  congr 1; omega
 obtain ⟨W1, hW1⟩ : ∃ W1, W1 = w.drew.alloc (.cells ROW e) := ⟨_, rfl⟩
 have hrz : ∀ ty, (Builtin.append_ #[65, 3] ty #[.slice (some ⟨g, 0, none⟩) i n, .int .i64 ((n : Int) + 1 - (i : Int))]).run Tryz.prog w =
   .ok (.slice (some ⟨w.heap.size, 0, none⟩) (n + 1) G) W1 := fun ty => by
  have h := Lib.run_append_grow_zeros (P := Tryz.prog) w 65 3 ty e i0 z .i64 .i64 ht (by kernel_rfl) q1 q2 (some ⟨g, 0, none⟩) i n (xs.take (i * sz)) hold (n + 1 - i) (by omega) (by omega) (by omega) (by omega) (by
   rw [q4]
   have : (n + 1 - i) * by_ ≤ (n + 1) * by_ := Nat.mul_le_mul_right _ (by omega)
   omega) (by rw [q4, hik]; exact growslice_fits (by omega) hb)
  rw [hik] at h
  rw [hkk, hW1, hROW, hG]
  exact h
 have hgW0 : W1.heap[w.heap.size]? = some (.cells ROW e (0, 0)) := by rw [hW1]; exact heap_alloc_new w.drew _
 have hgl : g < w.heap.size := (Array.getElem?_eq_some_iff.1 hg).1
 have hvl : vb < w.heap.size := (Array.getElem?_eq_some_iff.1 hgv).1
 have hc1 : Chg [] w W1 := by rw [hW1]; exact (Chg.refl [] w).drew.alloc _
 have hgV : W1.heap[vb]? = some (.cells curv e2 (0, 0)) := by rw [hc1.block vb hvl (by simp)]; exact hgv
 have hm1 : (n + 1) * sz ≤ G * sz := Nat.mul_le_mul_right _ hGn
 obtain ⟨R1, hR1⟩ : ∃ R1 : Array Value, R1 = (ROW.toList.take (i * sz) ++ us ++ ROW.toList.drop (i * sz + us.length)).toArray := ⟨_, rfl⟩
 have hs1 : R1.size = G * sz := by
  rw [hR1]
  simp only [List.size_toArray, List.length_append, List.length_take, List.length_drop, Array.length_toList, hRs, hul]
  omega
 obtain ⟨W2, hW2⟩ : ∃ W2, W2 = W1.setRow w.heap.size R1 := ⟨_, rfl⟩
 have hcpA : ∀ ty dc, (Builtin.copy_ #[65, 65] ty #[.slice (some ⟨w.heap.size, i * sz, none⟩) (n + 1 - i) dc, .slice (some ⟨vb, 0, none⟩) 1 vcap]).run Tryz.prog W1 = .ok (goInt (Nat.min 1 (n + 1 - i))) W2 := fun ty dc => by
  rw [hW2, hR1]
  refine a6S W1 _ _ ty e sz w.heap.size (i * sz) _ dc ⟨vb, 0, none⟩ _ vcap ROW e us ht hsi hgW0 (by rw [hul]; simp only [Nat.min_def]; split <;> first | omega | rfl | simp) (fun j v hj => ?_) (by rw [hul, hRs]; omega) h1
  rw [Addr.add_lit, cell_of_row _ vb _ curv e2 (0, 0) hgV, Nat.zero_add]
  have hj' := (List.getElem?_eq_some_iff.1 hj).1
  rw [← hvs, List.getElem?_take, if_pos (by omega), Array.getElem?_toList] at hj
  exact hj
 have hgW2 : W2.heap[w.heap.size]? = some (.cells R1 e (0, 0)) := by rw [hW2]; exact setRow_heap _ _ ROW R1 e _ hgW0
 have hgG : W2.heap[g]? = some (.cells cur e (0, 0)) := by
  rw [hW2, (a4H (w := W1) (g := w.heap.size)).block g (Nat.lt_of_lt_of_le hgl hc1.size) (by simp; omega), hc1.block g hgl (by simp)]; exact hg
 obtain ⟨R2, hR2⟩ : ∃ R2 : Array Value, R2 = (R1.toList.take ((i + 1) * sz) ++ xs.drop (i * sz) ++ R1.toList.drop ((i + 1) * sz + (xs.drop (i * sz)).length)).toArray := ⟨_, rfl⟩
 have hs2 : R2.size = G * sz := by
  rw [hR2]
  simp only [List.size_toArray, List.length_append, List.length_take, List.length_drop, Array.length_toList, hs1, hxl]
  omega
 obtain ⟨W3, hW3⟩ : ∃ W3, W3 = W2.drew.setRow w.heap.size R2 := ⟨_, rfl⟩
 have hcpB : ∀ ty dc sc, (Builtin.copy_ #[65, 65] ty #[.slice (some ⟨w.heap.size, (i + 1) * sz, none⟩) (n - i) dc, .slice (some ⟨g, i * sz, none⟩) (n - i) sc]).run Tryz.prog W2.drew = .ok (goInt (Nat.min (n - i) (n - i))) W3 := fun ty dc sc => by
  rw [hW3, hR2]
  refine a6S W2.drew _ _ ty e sz w.heap.size ((i + 1) * sz) _ dc ⟨g, i * sz, none⟩ _ sc R1 e (xs.drop (i * sz)) ht hsi hgW2 (by rw [hdl]; congr 1; simp) (fun j v hj => ?_) (by rw [hdl, hs1]; omega) (fun v hv => hx1 v (List.mem_of_mem_drop hv))
  rw [Addr.add_lit]
  rw [List.getElem?_drop] at hj
  have hj' := (List.getElem?_eq_some_iff.1 hj).1
  exact (cell_of_row W2.drew g (i * sz + j) cur e (0, 0) hgG).trans ((hcur _ (by omega)).trans hj)
 have htk2 : R2.toList.take ((n + 1) * sz) = xs.take (i * sz) ++ us ++ xs.drop (i * sz) := by
  have e1 : R1.toList.take ((i + 1) * sz) = xs.take (i * sz) ++ us := by
   rw [hR1, m4]
   simp only []
   rw [List.take_append_of_le_length (by simp only [List.length_append, List.length_take, Array.length_toList, hRs, hul]; omega), List.take_of_length_le (by simp only [List.length_append, List.length_take, Array.length_toList, hRs, hul]; omega)]
   congr 1
   rw [hROW]
   simp only [Array.toList_append, List.append_assoc]
   rw [List.take_append_of_le_length (by rw [htl]; exact Nat.le_refl _), List.take_of_length_le (by rw [htl]; exact Nat.le_refl _)]
  rw [hR2, e1]
  simp only []
  rw [List.take_append_of_le_length (by simp only [List.length_append, List.length_take, List.length_drop, hxl, hul]; omega), List.take_of_length_le (by simp only [List.length_append, List.length_take, List.length_drop, hxl, hul]; omega)]
 have hfin : a4j w (.slice (some ⟨g, 0, none⟩) n n) e sz n i xs us (.returned (.slice (some ⟨w.heap.size, 0, none⟩) (n + 1) G)) W3 := by
  refine ⟨_, _, rfl, ⟨?_, .inr ⟨w.heap.size, G, R2, rfl, Nat.zero_le _, by rw [hW3]; exact setRow_heap _ _ R1 R2 e _ hgW2, hGn, hGm, hs2, htk2⟩⟩, ?_, .inr rfl⟩
  ·simp only [List.length_append, List.length_take, List.length_drop, hxl, hul]; omega
  ·have c3 : Chg [w.heap.size] W1 W3 := by rw [hW3, hW2]; exact (a4H.drew).trans a4H
   refine ⟨c3.os.trans hc1.os, c3.tape.trans hc1.tape, c3.output.trans hc1.output, Nat.le_trans hc1.size c3.size, fun k hk hn => ?_⟩
   rw [c3.block k (Nat.lt_of_lt_of_le hk hc1.size) (by simp; omega), hc1.block k hk (by simp)]
 have HF := Lib.hid hfin
 have hGi : ¬ (G = i) := by omega
 have hGim : ¬ (G = i + 1) := by omega
 have hG63 : G ≤ 9223372036854775807 := by unfold maxLen at hGm; omega
 obtain ⟨H, hH⟩ : ∃ H, H = w.heap.size := ⟨_, rfl⟩
 rw [← hH] at hrz hcpA hcpB HF
 clear hH hfin hgW0 hgV hgW2 hgG htk2 hs2 hs1 hcur hx1 h1 hvs htk hxl hdl m2 m3 m4 m5 hgv hg hcs hcm hinfo hsi hW1 hW2 hW3 hul hR1 hR2 hROW hRs hzl hold htl hc1 hgl hvl hm1 hkk hik hG q1 q2 q3 q4 hzs
 go_enter Tryz.func145, Tryz.ntmps145
 go_wp2_with (first
  | (at_builtin; refine Lib.wpList_append_run _ rfl _ _ _ _ rfl _ _ rfl rfl _ _ (hrz _) ?_)
  | (at_builtin; refine wpList_copy_runI _ rfl _ _ 65 65 rfl _ _ rfl rfl (hcpA _ _) ?_))
 go_region_law_o (refine step_copy_runI rfl _ _ 65 65 rfl _ _ (by simp [Act.eval, Act.put]) (by simp [Act.eval, Act.put]) (hcpB _ _ _) ?_)
 go_wp2
 go_ret
 exact HF
theorem c5B {e sz by_ n i e2 : Nat} {z : Value} {v u : Value} {xs us : List Value} {w : World} (ht : Tryz.prog.underlying 65 = some (.slice e)) (hinfo : (Tryz.prog.info? e).map (fun i => (i.zero, i.size, i.bytes)) = some (some z, sz, by_)) (hzs : z.cells.size = sz) (hsz : 0 < sz)
  (hown : w.ownsRow 0 e sz v n xs) (hx1 : ∀ u ∈ xs, u.oneCell' = true) (hv : w.ownsRow 0 e2 sz u 1 us) (h1 : ∀ u ∈ us, u.oneCell' = true) (hne : ∀ b, v.ownBlock = some b → u.ownBlock ≠ some b) (hi : i ≤ n) (h63 : n + 1 ≤ maxLen) (hb : (n + 1) * by_ ≤ 140737488355328) :
  Calls Tryz.prog 145 #[v, .int .i64 i, u] w (a4j w v e sz n i xs us) := by
 have hul : us.length = sz := by rw [hv.1, Nat.one_mul]
 rcases hv.2 with ⟨_, h⟩ | ⟨vb, vcap, curv, rfl, _, hgv, hvc, _, _, hvt⟩
 ·cases h
 ·rw [Nat.one_mul] at hvt
  rcases Nat.lt_or_ge i n with hlt | hge
  ·rcases hown.2 with ⟨_, h⟩ | ⟨g, cap, cur, rfl, _, hg, hnc, hcm, hcs, htk⟩
   ·omega
   ·rcases Nat.lt_or_ge n cap with h | h
    ·exact c1p ht hinfo hsz hown.1 hg hcm hcs htk hx1 hgv hul hvt h1 (fun e => hne g rfl (by rw [e]; rfl)) hlt h
    ·have e1 : cap = n := by omega
     subst e1
     exact c4j ht hinfo hzs hsz hown.1 hg hcm hcs htk hx1 hgv hul hvt h1 hlt h63 hb
  ·have e1 : i = n := by omega
   subst e1
   refine c3x ht hinfo hzs hsz hown ⟨by rw [Nat.one_mul]; exact hul, fun _ => ⟨vb, 0, rfl, fun j x hj => ?_⟩⟩ h1 h63 hb
   rw [Nat.zero_add, cell_of_row _ vb _ curv e2 (0, 0) hgv]
   have hj' := (List.getElem?_eq_some_iff.1 hj).1
   rw [← hvt, List.getElem?_take, if_pos (by omega), Array.getElem?_toList] at hj
   exact hj
section
variable {P : Program} {C : Ctx} {nt : Nat} {σ : St} {L : Lyt} {a : Act} {w : World} {o : Oper} {x y y2 : Operand} {T : TT}
theorem a7e {w : World} : ∀ (k : Nat) {ds : List DV} {vs : List Value} {f : List Nat}, a0I w ds vs f → ∃ f1 f2, f = f1 ++ f2 ∧ a0I w (ds.take k) (vs.take k) f1 ∧ a0I w (ds.drop k) (vs.drop k) f2
 | 0, ds, vs, f, h => ⟨[], f, rfl, by simp [a0I], by simpa using h⟩
 | k + 1, [], vs, f, h => by
  simp only [a0I] at h
  obtain ⟨rfl, rfl⟩ := h
  exact ⟨[], [], rfl, by simp [a0I], by simp [a0I]⟩
 | k + 1, d :: ds, _, _, h => by
  simp only [a0I] at h
  obtain ⟨v, vs', f1, f2, rfl, rfl, h1, h2⟩ := h
  obtain ⟨g1, g2, rfl, h3, h4⟩ := a7e k h2
  refine ⟨f1 ++ g1, g2, by simp, ?_, by simpa using h4⟩
  simp only [List.take_succ_cons, a0I]
  exact ⟨v, _, f1, g1, rfl, rfl, h1, h3⟩
def a5A (c : List DV) (p : Nat) (us : List DV) : List DV := c.take p ++ us ++ c.drop p
structure InsOk (P : Program) (f e sz by_ : Nat) : Prop where
 pos : 0 < sz
 lt : e < 1000000
 run : ∀ {n i e2 : Nat} {v u : Value} {xs us : List Value} {w : World}, w.ownsRow 0 e sz v n xs → (∀ u ∈ xs, u.oneCell' = true) → w.ownsRow 0 e2 sz u 1 us → (∀ u ∈ us, u.oneCell' = true) → (∀ b, v.ownBlock = some b → u.ownBlock ≠ some b) → i ≤ n → n + 1 ≤ maxLen → (n + 1) * by_ ≤ 140737488355328 →
  Calls P f #[v, .int .i64 i, u] w (a4j w v e sz n i xs us)
theorem c2g {f e sz by_ d k j : Nat} {ats : Array TypeId} {c c2 : KC} {J : List Nat} {p : Int} (hf : InsOk P f e sz by_) (ho : o.op = .call { callee := .value (.func f), args := #[x, y, y2], argTypes := ats }) (hc : ∀ (args : Array Value) (w : World), (callFunc f args).run P w = .ok (.enter f args) w) (hd : o.dst = some d) (hnt : Nat.blt d nt = true)
  (hx : Ev P C nt σ x (.one (.key k))) (hk : lkk σ k = some c) (hce : c.e = e) (hcs : c.sz = sz) (hp : Ev P C nt σ y (.one (.dv J (.int .i64 p)))) (hp0 : 0 ≤ p) (hp1 : p ≤ c.n) (hy : Ev P C nt σ y2 (.one (.key j))) (hj : lkk σ j = some c2) (hcs2 : c2.sz = sz) (hn2 : c2.n = 1) (he2 : Nat.blt c2.e 1000000 = true) (hkj : k ∉ [j]) (hb : (c.n + 1) * by_ ≤ 140737488355328) (h63 : c.n + 1 ≤ 9223372036854775807) :
  Ef P C nt o σ (fun σ' => σ' = (σ.mut k [j] false ⟨false, e, sz, c.n + 1, a5A c.cs (p.toNat * sz) c2.cs⟩).put d (.one (.key k))) := Ef.mk fun L a w hr K Q hK => by
 have hd' : d < nt := by simpa [Nat.blt_eq] using hnt
 have hkj' : k ≠ j := by simpa using hkj
 have e1 := hx.run L a w hr
 have e2 := hp.run L a w hr
 have e3 := hy.run L a w hr
 simp only [SVr, CVr, Lay] at e1 e2 e3
 have ho1 := (hr.ks k c hk).1
 have ho2 := (hr.ks j c2 hj).1
 simp only [Own] at ho1 ho2
 obtain ⟨vs, f1, q1, q2, q3, q4, q5⟩ := ho1
 obtain ⟨us, f2, r1, r2, r3, r4, r5⟩ := ho2
 subst hce; subst hcs
 have hrow := q4.1 hf.lt
 have hrow2 := r4.1 (by simpa [Nat.blt_eq] using he2)
 rw [hn2, hcs2] at hrow2
 have hkn := hr.kn k c hk
 have hjn := hr.kn j c2 hj
 have hkk := hr.kk k j c c2 hk hj hkj'
 rw [q1] at hkn; rw [r1] at hjn
 obtain ⟨n1, n2, n3⟩ := List.nodup_append.1 hkn
 obtain ⟨_, n5, _⟩ := List.nodup_append.1 hjn
 have one : ∀ {ds : List DV} {vs : List Value} {f : List Nat}, a0I w ds vs f → ∀ u ∈ vs, u.oneCell' = true := fun h => a8M (ok := fun _ => True) _ _ (a7p _ _ _ h (fun _ _ => trivial))
 have hpn : ((p.toNat : Nat) : Int) = p := Int.toNat_of_nonneg hp0
 refine a7T (xs := [x, y, y2]) ho hc ?_
 simp only [List.map_cons, List.map_nil, e1, e2.1, e3]
 rw [← hpn]
 refine (hf.run (i := p.toNat) hrow (one q5) hrow2 (one r5) (fun b hb' hb2 => hkk b (by rw [q1, hb']; simp) (by rw [r1, hb2]; simp)) (by omega) (by simpa [maxLen] using h63) hb).mono ?_
 rintro ex w' ⟨A', c', rfl, g1, g2, g3⟩
 refine ⟨_, rfl, ?_⟩
 obtain ⟨fa, fb, rfl, t1, t2⟩ := a7e (p.toNat * c.sz) q5
 have hlt1 : ∀ b ∈ fa ++ fb, b < w.heap.size := a5b _ _ _ q5
 have hlt2 : ∀ b ∈ f2, b < w.heap.size := a5b _ _ _ r5
 have hf2k : ∀ b ∈ f2, b ∉ L.fp k := fun b hb' hm => hkk b hm (by rw [r1]; simp [hb'])
 have keep : ∀ b ∈ fa ++ fb, w'.heap[b]? = w.heap[b]? := fun b hb' => g2.block b (hlt1 b hb') (fun hm => n3 b hm b hb' rfl)
 have keep2 : ∀ b ∈ f2, w'.heap[b]? = w.heap[b]? := fun b hb' => g2.block b (hlt2 b hb') (fun hm => hf2k b hb' (by rw [q1]; simp [hm]))
 have k1 := a3h _ _ _ t1 (fun b hb' => keep b (by simp [hb']))
 have k2 := a3h _ _ _ t2 (fun b hb' => keep b (by simp [hb']))
 have k3 := a3h _ _ _ r5 keep2
 have hlen : (a5A c.cs (p.toNat * c.sz) c2.cs).length = (c.n + 1) * c.sz := by
  have : c2.cs.length = c.sz := by rw [r3, hn2, Nat.one_mul, hcs2]
  have m : p.toNat * c.sz ≤ c.n * c.sz := Nat.mul_le_mul_right _ (by omega)
  simp only [a5A, List.length_append, List.length_take, List.length_drop, this, q3, Nat.add_mul, Nat.one_mul]
  omega
 have hown' : Own w' (.sl c.e c.sz (c.n + 1) (a5A c.cs (p.toNat * c.sz) c2.cs)) (.slice A' (c.n + 1) c') ((Value.slice A' (c.n + 1) c').ownBlock.toList ++ (fa ++ f2 ++ fb)) := by
  unfold Own
  exact ⟨_, fa ++ f2 ++ fb, rfl, q2, hlen, a3T hf.lt g1, a3m _ _ _ _ _ _ (a3m _ _ _ _ _ _ k1 k3) k2⟩
 obtain ⟨p1, p2, p3⟩ := List.nodup_append.1 n2
 have hnod : (fa ++ f2 ++ fb).Nodup := by
  refine List.nodup_append.2 ⟨List.nodup_append.2 ⟨p1, n5, fun x hx' y hy' e' => hf2k y hy' (by rw [q1, ← e']; simp [hx'])⟩, p2, fun x hx' y hy' e' => ?_⟩
  rcases List.mem_append.1 hx' with hx' | hx'
  ·exact p3 x hx' y hy' e'
  ·exact hf2k x hx' (by rw [q1, e']; simp [hy'])
 have hset := hr.setkey (k := k) (c := c) (c' := ⟨false, c.e, c.sz, c.n + 1, a5A c.cs (p.toNat * c.sz) c2.cs⟩) (js := [j]) (same := false) hk hkj (g2.mono (fun b hb' => by rw [q1]; simp [hb'])) hown'
  (by
   refine List.nodup_append.2 ⟨?_, hnod, fun x hx' y hy' e' => ?_⟩
   ·cases (Value.slice A' (c.n + 1) c').ownBlock <;> simp
   ·subst e'
    rcases g3 with hb' | hb'
    ·rw [← hb'] at hx'
     rcases List.mem_append.1 hy' with hy' | hy'
     ·rcases List.mem_append.1 hy' with hy' | hy'
      ·exact n3 x hx' x (by simp [hy']) rfl
      ·exact hf2k x hy' (by rw [q1]; simp [hx'])
     ·exact n3 x hx' x (by simp [hy']) rfl
    ·rw [hb'] at hx'
     simp only [Option.toList_some, List.mem_singleton] at hx'
     subst hx'
     rcases List.mem_append.1 hy' with hy' | hy'
     ·rcases List.mem_append.1 hy' with hy' | hy'
      ·exact absurd (hlt1 w.heap.size (by simp [hy'])) (by omega)
      ·exact absurd (hlt2 _ hy') (by omega)
     ·exact absurd (hlt1 w.heap.size (by simp [hy'])) (by omega))
  (fun b hb' => by
   rcases List.mem_append.1 hb' with hb' | hb'
   ·rcases g3 with hbl | hbl
    ·rw [← hbl] at hb'; exact .inl (by rw [q1]; simp [hb'])
    ·rw [hbl] at hb'
     simp only [Option.toList_some, List.mem_singleton] at hb'
     exact .inr (.inr (by omega))
   ·rcases List.mem_append.1 hb' with hb' | hb'
    ·rcases List.mem_append.1 hb' with hb' | hb'
     ·exact .inl (by rw [q1]; simp [hb'])
     ·exact .inr (.inl ⟨j, by simp, by rw [r1]; simp [hb']⟩)
    ·exact .inl (by rw [q1]; simp [hb'])) (by simp [hj]) (by simp) (by simp)
 refine hK { L with fp := fun i => if i = k then (Value.slice A' (c.n + 1) c').ownBlock.toList ++ (fa ++ f2 ++ fb) else L.fp i, rv := fun i => if i = k then .slice A' (c.n + 1) c' else L.rv i } _ _ _ rfl ?_
 rw [hd]
 exact hset.put (v := .one (.key k)) (r := .slice A' (c.n + 1) c') hd' (by simp [SVr, CVr]) (by simp [SV.keys, CV.keys, a6j]) (by simp [SV.boxes])
theorem b2T {Q : Exit → St → Prop} {all : Array Oper} {rest : List Oper} {tm : List (Nat × SV)} {bx : List (Nat × TypeId × List CV)} {ks : List (Nat × Option KC)} {f e sz by_ d k j n : Nat} {ats : Array TypeId} {c c2 : KC} {J : List Nat} {p : Int} {cs : List DV} (hf : InsOk P f e sz by_) (hg : o.guard = none) (ho : o.op = .call { callee := .value (.func f), args := #[x, y, y2], argTypes := ats }) (hc : ∀ (args : Array Value) (w : World), (callFunc f args).run P w = .ok (.enter f args) w) (hd : o.dst = some d) (hnt : Nat.blt d nt = true)
  (hx : Ev P C nt ⟨tm, bx, ks⟩ x (.one (.key k))) (hk : lkk ⟨tm, bx, ks⟩ k = some c) (hce : c.e = e) (hcs : c.sz = sz) (hp : Ev P C nt ⟨tm, bx, ks⟩ y (.one (.dv J (.int .i64 p)))) (hp0 : 0 ≤ p) (hp1 : p ≤ c.n) (hy : Ev P C nt ⟨tm, bx, ks⟩ y2 (.one (.key j))) (hj : lkk ⟨tm, bx, ks⟩ j = some c2) (hcs2 : c2.sz = sz) (hn2 : c2.n = 1) (he2 : Nat.blt c2.e 1000000 = true) (hkj : k ∉ [j]) (hb : (c.n + 1) * by_ ≤ 140737488355328) (h63 : c.n + 1 ≤ 9223372036854775807) (hn : c.n + 1 = n) (hcc : a5A c.cs (p.toNat * sz) c2.cs = cs)
  (h : Ops P C nt Q all rest ⟨(d, .one (.key k)) :: a0l [k, j] [k, j] tm, a0j [k, j] [k, j] bx, (k, some ⟨false, e, sz, n, cs⟩) :: (j, none) :: ks⟩) : Ops P C nt Q all (o :: rest) ⟨tm, bx, ks⟩ :=
 a3x hg (c2g hf ho hc hd hnt hx hk hce hcs hp hp0 hp1 hy hj hcs2 hn2 he2 hkj hb h63) (by subst hn; subst hcc; exact h)
end
theorem a3I {P : Program} {C : Ctx} {nt : Nat} {σ : St} {x : Operand} {k : Nat} {c : KC} {d : DV} (h : Ev P C nt σ x (.one (.key k))) (hk : lkk σ k = some c) (hd : DV.sl c.e c.sz c.n c.cs = d) : Ev P C nt σ x (.one (.dv [k] d)) := by subst hd; exact a6e h hk
theorem b6Y {sz by_ : Nat} {zc : List CV} (he : look a4v.el 107 = some (sz, by_, zc)) (hl0 : zc.length = sz) (hpos : 0 < sz) : InsOk Tryz.prog 145 107 sz by_ := by
 obtain ⟨inf, z, g1, g2, g3, g4, g5⟩ := hT.el _ _ _ _ he
 refine ⟨hpos, hT.lt _ _ he, fun hown hx1 hv h1 hne hi h63 hb => c5B (z := z) (by kernel_rfl) (by rw [g1]; simp [g2, g3, g4]) (by
  have := a6L g5
  simp only [Array.length_toList] at this
  rw [this, hl0]) hpos hown hx1 hv h1 hne hi h63 hb⟩
section
variable {P : Program} {C : Ctx} {nt : Nat} {σ : St} {L : Lyt} {a : Act} {w : World} {o o1 o2 : Oper} {x y : Operand} {T : TT}
theorem b2a {t : Array Value} {i d : Nat} {r : Value} (e : i ≠ d) : (t.setIfInBounds d r).getD i undef = t.getD i undef := by
 rw [Array.getD_eq_getD_getElem?, Array.getD_eq_getD_getElem?, Array.getElem?_setIfInBounds_ne (fun e' => e e'.symm)]
theorem b2W {vs rs : List Nat} {i : Nat} {x : TypeId × List CV} : ∀ {bx : List (Nat × TypeId × List CV)}, look (a0j vs rs bx) i = some x → ∃ y, look bx i = some y
 | [], h => by simp [a0j, look] at h
 | p :: bx, h => by
  simp only [a0j, List.map_cons, a0U] at h
  obtain ⟨b, q⟩ := p
  rw [a0U]
  split
  ·exact ⟨_, rfl⟩
  ·rename_i e
   rw [if_neg e] at h
   exact b2W h
structure SlOk (P : Program) (C : Ctx) (nt : Nat) (σ : St) (o : Oper) (j sz lo hi : Nat) : Prop where
 run : ∀ L a w, Rel P C nt L σ a w → ∀ A n c, L.rv j = .slice A n c → ∀ w', (execOp a.eval o).run P w' = .ok (.value (sliced A lo hi c sz)) w'
theorem b9S {j : Nat} {c2 : KC} (hr : Rel P C nt L σ a w) (hj : lkk σ j = some c2) {A : Option Addr} {n c : Nat} (e : L.rv j = .slice A n c) : n = c2.n ∧ c2.n ≤ c := by
 have ho := (hr.ks j c2 hj).1
 simp only [Own] at ho
 obtain ⟨vs, f, _, _, _, q4, _⟩ := ho
 rcases (a6c q4).2 with ⟨g1, g2⟩ | ⟨g, cap, cur, t, fz, g1, g2, g3, g4, g5, g6⟩
 ·rw [e] at g1
  simp only [Value.slice.injEq] at g1
  exact ⟨by rw [g2]; exact g1.2.1, by omega⟩
 ·rw [e] at g1
  simp only [Value.slice.injEq] at g1
  exact ⟨g1.2.1, by omega⟩
theorem b3H (hT : TTOk P T) {t e sz by_ j : Nat} {zc : List CV} {c2 : KC} {J : List Nat} {z : Int} (ho : o.op = .slice t x none (some y) none) (h : look T.sl t = some e) (he : look T.el e = some (sz, by_, zc)) (hx : Ev P C nt σ x (.one (.key j))) (hj : lkk σ j = some c2) (hy : Ev P C nt σ y (.one (.dv J (.int .i64 z)))) (h0 : 0 ≤ z) (h1 : z ≤ c2.n) : SlOk P C nt σ o j sz 0 z.toNat := ⟨fun L a w hr A n c e1 w' => by
 have h2 := hx.run L a w hr
 have h3 := hy.run L a w hr
 simp only [SVr, CVr, Lay] at h2 h3
 obtain ⟨k1, k2⟩ := b0N (hT.sl t e h)
 obtain ⟨q1, q2⟩ := b9S hr hj e1
 rw [e1] at h2
 unfold execOp
 simp only [ho, Option.map_none, Option.map_some, h2, h3.1, Sem.run_bind, run_sliceAt_slice _ _ _ _ _ _ k1, run_slice_h w' t A n c k1 .i64 z h0 (by omega), k2, b1B hT he, Result.andThen_ok, Sem.run_pure]⟩
theorem b2Z (hT : TTOk P T) {t e sz by_ j : Nat} {zc : List CV} {c2 : KC} {J : List Nat} {z : Int} (ho : o.op = .slice t x (some y) none none) (h : look T.sl t = some e) (he : look T.el e = some (sz, by_, zc)) (hx : Ev P C nt σ x (.one (.key j))) (hj : lkk σ j = some c2) (hy : Ev P C nt σ y (.one (.dv J (.int .i64 z)))) (h0 : 0 ≤ z) (h1 : z ≤ c2.n) : SlOk P C nt σ o j sz z.toNat c2.n := ⟨fun L a w hr A n c e1 w' => by
 have h2 := hx.run L a w hr
 have h3 := hy.run L a w hr
 simp only [SVr, CVr, Lay] at h2 h3
 obtain ⟨k1, k2⟩ := b0N (hT.sl t e h)
 obtain ⟨q1, q2⟩ := b9S hr hj e1
 rw [e1] at h2
 unfold execOp
 rw [← q1]
 simp only [ho, Option.map_none, Option.map_some, h2, h3.1, Sem.run_bind, run_sliceAt_slice _ _ _ _ _ _ k1, run_slice_l w' t A n c k1 .i64 z h0 (by omega), k2, b1B hT he, Result.andThen_ok, Sem.run_pure]⟩
def a5H (cs : List DV) (l m : Nat) : List DV := cs.take l ++ (List.replicate m .hole ++ (cs.drop l).drop m)
theorem b0r {w : World} : ∀ (vs : List Value), (∀ v ∈ vs, v.oneCell' = true) → a0I w (List.replicate vs.length .hole) vs []
 | [], _ => by simp [a0I]
 | v :: vs, h => by
  simp only [List.length_cons, List.replicate_succ, a0I]
  exact ⟨v, vs, [], [], rfl, rfl, by simp [Own, h v (by simp)], b0r vs fun u hu => h u (by simp [hu])⟩
theorem b4m {Q : Exit → St → Prop} {all : Array Oper} {rest : List Oper} {tm : List (Nat × SV)} {bx : List (Nat × TypeId × List CV)} {ks : List (Nat × Option KC)} {t e sz by_ d d1 k j s lo hi n : Nat} {zc : List CV} {c c2 : KC} {cs c2s : List DV} (hT : TTOk P T)
  (hg1 : o1.guard = none) (hd1 : o1.dst = some d1) (hn1 : Nat.blt d1 nt = true) (hs : SlOk P C nt ⟨tm, bx, ks⟩ o1 j sz lo hi)
  (hg2 : o2.guard = none) (hd : o2.dst = some d) (ho : o2.op = .call { callee := .builtin .append, args := #[x, .tmp d1], argTypes := #[t, t] }) (hnt : Nat.blt d nt = true) (ht : look T.sl t = some e) (he : look T.el e = some (sz, by_, zc)) (hl0 : zc.length = sz)
  (hx : Ev P C nt ⟨(d1, .any) :: tm, bx, ks⟩ x (.one (.key k))) (hk : lkk ⟨tm, bx, ks⟩ k = some c) (hce : c.e = e) (hcs : c.sz = sz) (hj : lkk ⟨tm, bx, ks⟩ j = some c2) (hcs2 : c2.sz = sz) (he2 : Nat.blt c2.e 1000000 = true) (hkj : k ∉ [j]) (hh : c2.h = false)
  (hsl : look tm s = some (.one (.key j))) (hsd : Nat.beq s d1 = false ∧ Nat.beq s d = false) (hlh : lo ≤ hi) (hhi : hi ≤ c2.n) (hb : (c.n + (hi - lo)) * by_ ≤ 140737488355328) (h63 : c.n + (hi - lo) ≤ 9223372036854775807) (hn : c.n + (hi - lo) = n) (hcc : c.cs ++ sub (lo * sz) ((hi - lo) * sz) c2.cs = cs) (hcc2 : a5H c2.cs (lo * sz) ((hi - lo) * sz) = c2s)
  (h : Ops P C nt Q all rest ⟨(s, .one (.key j)) :: (d, .one (.key k)) :: a0l [k, j] [k, j] ((d1, .any) :: tm), a0j [k, j] [k, j] bx, (j, some ⟨false, c2.e, sz, c2.n, c2s⟩) :: (k, some ⟨false, e, sz, n, cs⟩) :: (j, none) :: ks⟩) : Ops P C nt Q all (o1 :: o2 :: rest) ⟨tm, bx, ks⟩ := Ops.mk fun L a w hr => by
 subst hn; subst hcc; subst hcc2
 have hkj' : k ≠ j := by simpa using hkj
 refine wpList_plain hg1 fun K1 hK1 => ?_
 -- what stands in memory
 have ho1 := (hr.ks k c hk).1
 have ho2 := (hr.ks j c2 hj).1
 simp only [Own] at ho1 ho2
 obtain ⟨vs, f1, q1, q2, q3, q4, q5⟩ := ho1
 obtain ⟨us, f2, r1, r2, r3, r4, r5⟩ := ho2
 subst hce; subst hcs
 obtain ⟨inf, z, g1, g2, g3, g4, g5⟩ := hT.el c.e c.sz by_ zc he
 have hE : c.e < 1000000 := hT.lt _ _ he
 have hrow := q4.1 hE
 have hE2 : c2.e < 1000000 := by simpa [Nat.blt_eq] using he2
 have hrow2 := r4.1 hE2
 rw [hcs2] at hrow2 r3
 have hul : us.length = c2.n * c.sz := hrow2.1
 have one : ∀ {ds : List DV} {vs : List Value} {f : List Nat}, a0I w ds vs f → ∀ u ∈ vs, u.oneCell' = true := fun h => a8M (ok := fun _ => True) _ _ (a7p _ _ _ h (fun _ _ => trivial))
 obtain ⟨A, m, cap, hA⟩ : ∃ A m cap, L.rv j = .slice A m cap := by
  rcases hrow2.2 with ⟨g, _⟩ | ⟨g, cap, cur, g, _⟩
  ·exact ⟨_, _, _, g⟩
  ·exact ⟨_, _, _, g⟩
 have hrun := hs.run L a w hr A m cap hA w
 have hm1 : (hi - lo) * c.sz + lo * c.sz = hi * c.sz := by rw [← Nat.add_mul]; congr 1; omega
 have hm2 : hi * c.sz ≤ c2.n * c.sz := Nat.mul_le_mul_right _ hhi
 have hm3 : hi * c.sz + (c2.n - hi) * c.sz = c2.n * c.sz := by rw [← Nat.add_mul]; congr 1; omega
 obtain ⟨A1, c1, e1, hrd⟩ : ∃ A1 c1, sliced A lo hi cap c.sz = .slice A1 (hi - lo) c1 ∧ a2z w A1 (hi - lo) c.sz (sub (lo * c.sz) ((hi - lo) * c.sz) us) := by
  refine ⟨_, _, rfl, by rw [a4A _ _ _ (by omega)], fun hpos => ?_⟩
  rcases hrow2.2 with ⟨g1, g2⟩ | ⟨g, cap', cur, g1, _, g3, g4, g5, g6, g7⟩
  ·omega
  ·rw [hA] at g1
   simp only [Value.slice.injEq] at g1
   obtain ⟨rfl, rfl, rfl⟩ := g1
   have hne : ¬ cap = lo := by omega
   refine ⟨g, lo * c.sz, by rw [if_neg hne]; simp only [Option.map_some, a4Z, Nat.zero_add], fun i v hi' => ?_⟩
   have hlt : i < (hi - lo) * c.sz := by
    have := (List.getElem?_eq_some_iff.1 hi').1
    rw [a4A _ _ _ (by omega)] at this
    exact this
   rw [a9m _ _ _ _ hlt] at hi'
   rw [cell_of_row _ g _ cur c2.e (0, 0) g3]
   rw [← g7, List.getElem?_take, if_pos (by omega), Array.getElem?_toList] at hi'
   exact hi'
 refine a5c hrun (hK1 _ _ ?_)
 have hr1 : Rel P C nt L ⟨(d1, .any) :: tm, bx, ks⟩ (a.put o1.dst (sliced A lo hi cap c.sz)) w := by
  rw [hd1]
  exact hr.put (v := .any) (by simpa [Nat.blt_eq] using hn1) (by simp only [SVr]) (by simp [SV.keys]) (by simp [SV.boxes])
 have ex := hx.run L _ w hr1
 simp only [SVr, CVr] at ex
 have ey : (a.put o1.dst (sliced A lo hi cap c.sz)).eval (.tmp d1) = .slice A1 (hi - lo) c1 := by
  rw [hd1, ← e1]
  have hsz := hr.sz
  have hlt : d1 < nt := by simpa [Nat.blt_eq] using hn1
  simp [Act.eval, Act.put, hsz, hlt]
 refine wpList_plain hg2 fun K hK => ?_
 have hzs : z.cells.size = c.sz := by
  have := a6L g5
  simp only [Array.length_toList] at this
  rw [this, hl0]
 refine b0D w x (.tmp d1) t ho c.e z c.sz by_ (hT.sl t c.e ht) (by rw [g1]; simp [g2, g3, g4]) hzs q2 (L.rv k) c.n vs ex hrow A1 (hi - lo) c1 _ ey hrd (fun u hu => one r5 u (List.mem_of_mem_drop (List.mem_of_mem_take hu))) (by simpa [maxLen] using h63) hb ?_
 intro A' c' w' h9 hchg hblk
 refine hK _ _ ?_
 -- the parts
 obtain ⟨fa, fr, rfl, ta, tr⟩ := a7e (lo * c.sz) r5
 obtain ⟨fb, fc, rfl, tb, tc⟩ := a7e ((hi - lo) * c.sz) tr
 have hkn := hr.kn k c hk
 have hjn := hr.kn j c2 hj
 have hkk := hr.kk k j c c2 hk hj hkj'
 rw [q1] at hkn; rw [r1] at hjn
 obtain ⟨n1, n2, n3⟩ := List.nodup_append.1 hkn
 obtain ⟨p1, p2, p3⟩ := List.nodup_append.1 hjn
 obtain ⟨pa, pbc, p4⟩ := List.nodup_append.1 p2
 obtain ⟨pb, pc, p5⟩ := List.nodup_append.1 pbc
 have hltk : ∀ b ∈ L.fp k, b < w.heap.size := fun b hb' => hr.k_lt hk b hb'
 have hltj : ∀ b ∈ L.fp j, b < w.heap.size := fun b hb' => hr.k_lt hj b hb'
 have inj : ∀ b, b ∈ fa ++ (fb ++ fc) → b ∈ L.fp j := fun b hb' => by rw [r1]; simp only [List.mem_append] at hb' ⊢; exact .inr hb'
 have ink : ∀ b, b ∈ f1 → b ∈ L.fp k := fun b hb' => by rw [q1]; simp [hb']
 have keepk : ∀ b ∈ f1, w'.heap[b]? = w.heap[b]? := fun b hb' => hchg.block b (hltk b (ink b hb')) (fun hm => n3 b hm b hb' rfl)
 have keepj : ∀ b ∈ L.fp j, w'.heap[b]? = w.heap[b]? := fun b hb' => hchg.block b (hltj b hb') (fun hm => hkk b (by rw [q1]; simp [hm]) hb')
 have k1 := a3h _ _ _ q5 keepk
 have k2 := a3h _ _ _ tb (fun b hb' => keepj b (inj b (by simp [hb'])))
 have hbl : ∀ b, b ∈ (Value.slice A' (c.n + (hi - lo)) c').ownBlock.toList → b ∈ (L.rv k).ownBlock.toList ∨ b = w.heap.size := fun b hb' => by
  rcases hblk with g | g
  ·rw [← g] at hb'; exact .inl hb'
  ·rw [g] at hb'; simp only [Option.toList_some, List.mem_singleton] at hb'; exact .inr hb'
 have hown' : Own w' (.sl c.e c.sz (c.n + (hi - lo)) (c.cs ++ sub (lo * c.sz) ((hi - lo) * c.sz) c2.cs)) (.slice A' (c.n + (hi - lo)) c') ((Value.slice A' (c.n + (hi - lo)) c').ownBlock.toList ++ (f1 ++ fb)) := by
  unfold Own
  refine ⟨_, f1 ++ fb, rfl, q2, ?_, a3T hE h9, a3m _ _ _ _ _ _ k1 k2⟩
  rw [List.length_append, q3, a4A _ _ _ (by rw [r3]; omega), Nat.add_mul]
 have hset := hr1.setkey (k := k) (c := c) (c' := ⟨false, c.e, c.sz, c.n + (hi - lo), c.cs ++ sub (lo * c.sz) ((hi - lo) * c.sz) c2.cs⟩) (js := [j]) (same := false) hk hkj (hchg.mono (fun b hb' => by rw [q1]; simp [hb'])) hown'
  (by
   refine List.nodup_append.2 ⟨?_, List.nodup_append.2 ⟨n2, pb, fun x hx' y hy' e' => hkk x (ink x hx') (inj x (by rw [e']; simp [hy']))⟩, fun x hx' y hy' e' => ?_⟩
   ·cases (Value.slice A' (c.n + (hi - lo)) c').ownBlock <;> simp
   ·subst e'
    rcases hbl x hx' with g | g
    ·rcases List.mem_append.1 hy' with hy' | hy'
     ·exact n3 x g x hy' rfl
     ·exact hkk x (by rw [q1]; simp [g]) (inj x (by simp [hy']))
    ·rcases List.mem_append.1 hy' with hy' | hy'
     ·have := hltk x (ink x hy'); omega
     ·have := hltj x (inj x (by simp [hy'])); omega)
  (fun b hb' => by
   rcases List.mem_append.1 hb' with hb' | hb'
   ·rcases hbl b hb' with g | g
    ·exact .inl (by rw [q1]; simp [g])
    ·exact .inr (.inr (by omega))
   ·rcases List.mem_append.1 hb' with hb' | hb'
    ·exact .inl (ink b hb')
    ·exact .inr (.inl ⟨j, by simp, inj b (by simp [hb'])⟩)) (by intro i hi'; simp only [List.mem_singleton] at hi'; subst hi'; exact Option.isSome_iff_exists.2 ⟨c2, hj⟩) (by simp) (by simp)
 -- key j again, with holes
 have hone2 : ∀ u ∈ us, u.oneCell' = true := one r5
 have hrow3 : w'.ownsRow 0 c2.e c.sz (L.rv j) c2.n us := by
  refine ⟨hrow2.1, ?_⟩
  rcases hrow2.2 with g | ⟨g, cap', cur, g1, g2, g3, g4⟩
  ·exact .inl g
  ·refine .inr ⟨g, cap', cur, g1, g2, ?_, g4⟩
   rw [keepj g (by rw [r1, g1]; simp [Value.ownBlock])]; exact g3
 have hown2 : Own w' (.sl c2.e c.sz c2.n (a5H c2.cs (lo * c.sz) ((hi - lo) * c.sz))) (L.rv j) ((L.rv j).ownBlock.toList ++ (fa ++ ([] ++ fc))) := by
  unfold Own
  have ta' := a3h _ _ _ ta (fun b hb' => keepj b (inj b (by simp [hb'])))
  have tc' := a3h _ _ _ tc (fun b hb' => keepj b (inj b (by simp [hb'])))
  have th : a0I w' (List.replicate ((hi - lo) * c.sz) .hole) ((us.drop (lo * c.sz)).take ((hi - lo) * c.sz)) [] := by
   have := b0r (w := w') ((us.drop (lo * c.sz)).take ((hi - lo) * c.sz)) (fun v hv => hone2 v (List.mem_of_mem_drop (List.mem_of_mem_take hv)))
   have e' : ((us.drop (lo * c.sz)).take ((hi - lo) * c.sz)).length = (hi - lo) * c.sz := by rw [List.length_take, List.length_drop]; omega
   rwa [e'] at this
  have hall := a3m _ _ _ _ _ _ ta' (a3m _ _ _ _ _ _ th tc')
  rw [List.take_append_drop, List.take_append_drop] at hall
  refine ⟨us, _, rfl, q2, ?_, a3T hE2 hrow3, hall⟩
  simp only [a5H, List.length_append, List.length_take, List.length_replicate, List.length_drop, r3]
  omega
 have hlk : ∀ i, lkk (St.mut ⟨(d1, .any) :: tm, bx, ks⟩ k [j] false ⟨false, c.e, c.sz, c.n + (hi - lo), c.cs ++ sub (lo * c.sz) ((hi - lo) * c.sz) c2.cs⟩) i = if i = k then some ⟨false, c.e, c.sz, c.n + (hi - lo), c.cs ++ sub (lo * c.sz) ((hi - lo) * c.sz) c2.cs⟩ else if i = j then none else lkk ⟨tm, bx, ks⟩ i := fun i => by
  simp only [lkk, St.mut, List.map_cons, List.map_nil, List.cons_append, List.nil_append, a0U]
  split
  ·rfl
  ·split <;> rfl
 have inj2 : ∀ b, b ∈ (L.rv j).ownBlock.toList ++ (fa ++ ([] ++ fc)) → b ∈ L.fp j := fun b hb' => by
  rw [r1]; simp only [List.mem_append, List.nil_append] at hb' ⊢
  rcases hb' with g | g | g
  ·exact .inl g
  ·exact .inr (.inl g)
  ·exact .inr (.inr (.inr g))
 have hnew := hset.newkey (k := j) (c := ⟨false, c2.e, c.sz, c2.n, a5H c2.cs (lo * c.sz) ((hi - lo) * c.sz)⟩) (v := L.rv j) (f := (L.rv j).ownBlock.toList ++ (fa ++ ([] ++ fc))) (by rw [hlk, if_neg (fun e => hkj' e.symm), if_pos rfl]) hown2 rfl
  (by
   rw [List.nil_append]
   refine List.nodup_append.2 ⟨p1, List.nodup_append.2 ⟨pa, pc, fun x hx' y hy' => p4 x hx' y (by simp [hy'])⟩, fun x hx' y hy' => p3 x hx' y (by
    simp only [List.mem_append] at hy' ⊢
    rcases hy' with g | g
    ·exact .inl g
    ·exact .inr (.inr g))⟩)
  (fun b hb' => hr.k1 j c2 hj b (inj2 b hb'))
  (fun b hb' i x hx' e' => by
   obtain ⟨y, hy⟩ := b2W hx'
   exact hr.bk i j y c2 hy hj (by rw [show L.bb i = b from e']; exact inj2 b hb'))
  (fun b hb' i q hq hm => by
   rw [hlk] at hq
   by_cases hik : i = k
   ·subst hik
    simp only [if_true] at hm
    rcases List.mem_append.1 hm with hm | hm
    ·rcases hbl b hm with g | g
     ·exact hkk b (by rw [q1]; simp [g]) (inj2 b hb')
     ·have := hltj b (inj2 b hb'); omega
    ·rcases List.mem_append.1 hm with hm | hm
     ·exact hkk b (ink b hm) (inj2 b hb')
     ·rw [List.nil_append] at hb'
      rcases List.mem_append.1 hb' with g | g
      ·exact p3 b g b (by simp [hm]) rfl
      ·rcases List.mem_append.1 g with g | g
       ·exact p4 b g b (by simp [hm]) rfl
       ·exact p5 b hm b g rfl
   ·rw [if_neg hik] at hq
    by_cases hij : i = j
    ·rw [if_pos hij] at hq; cases hq
    ·rw [if_neg hij] at hq
     simp only [if_neg hik] at hm
     exact hr.kk i j q c2 hq hj hij b hm (inj2 b hb'))
 have hd' : d < nt := by simpa [Nat.blt_eq] using hnt
 have hput := hnew.put (d := d) (v := .one (.key k)) (r := .slice A' (c.n + (hi - lo)) c') hd' (by simp only [SVr, CVr]; rw [if_neg hkj']; simp) (by
  simp only [SV.keys, CV.keys, List.mem_singleton, forall_eq]
  simp [lkk, a0U, hkj', St.mut]) (by simp [SV.boxes])
 have hsv := hr.tm s _ hsl
 simp only [SVr, CVr] at hsv
 have n1' : s ≠ d1 := Nat.ne_of_beq_eq_false hsd.1
 have n2' : s ≠ d := Nat.ne_of_beq_eq_false hsd.2
 have hval : ((a.put o1.dst (sliced A lo hi cap c.sz)).put (some d) (.slice A' (c.n + (hi - lo)) c')).tmps.getD s undef = L.rv j := by
  rw [← hsv, hd1]
  simp only [Act.put]
  rw [b2a n2', b2a n1']
 have hal := hput.also (d := s) (v := .one (.key j)) (by simp only [SVr, CVr, if_true]; exact hval) (by simp [SV.keys, CV.keys, lkk, a0U, St.put]) (by simp [SV.boxes])
 rw [hd]
 exact h.run _ _ _ hal
theorem a8j {tm : List (Nat × SV)} {bx : List (Nat × TypeId × List CV)} {ks : List (Nat × Option KC)} {s k k' : Nat} {c c' : KC} (hs : look tm s = some (.one (.key k))) (hk : lkk ⟨tm, bx, ks⟩ k = some c) (hk' : lkk ⟨tm, bx, ks⟩ k' = some c') (hne : k' ∉ [k]) (hh : c.h = false) :
  Weak P C nt ⟨tm, bx, ks⟩ ⟨(s, .one (.key k')) :: a0l [k', k] [k', k] tm, a0j [k', k] [k', k] bx, (k', some c) :: (k, none) :: ks⟩ := Weak.mk fun L a w hr => by
 have ho := (hr.ks k c hk).1
 have hsv := hr.tm s _ hs
 simp only [SVr, CVr] at hsv
 have hset := hr.setkey (k := k') (c := c') (c' := c) (js := [k]) (same := false) hk' hne (Chg.refl _ w) ho (hr.kn k c hk) (fun b hb => .inr (.inl ⟨k, by simp, hb⟩)) (by intro i hi'; simp only [List.mem_singleton] at hi'; subst hi'; exact Option.isSome_iff_exists.2 ⟨c, hk⟩) (by simp) (fun h => by rw [hh] at h; cases h)
 exact ⟨_, hset.also (d := s) (v := .one (.key k')) (by simp only [SVr, CVr, if_true]; exact hsv) (by simp [SV.keys, CV.keys, a6j]) (by simp [SV.boxes])⟩
/-! ### keys in boxes -/
theorem b6q {L : Lyt} {w : World} {c' : CV} {v : Value} : ∀ {cs : List CV} {vs : List Value} {i : Nat}, CVL C L w cs vs → vs[i]? = some v → CVr C L w c' v → CVL C L w (cs.set i c') vs
 | [], _, _, h, _, _ => by simpa using h
 | x :: xs, _, 0, ⟨u, vs', e, h1, h2⟩, hv, hc => by
  subst e
  simp only [List.getElem?_cons_zero, Option.some.injEq] at hv
  subst hv
  exact ⟨u, vs', rfl, hc, h2⟩
 | x :: xs, _, i + 1, ⟨u, vs', e, h1, h2⟩, hv, hc => by
  subst e
  exact ⟨u, vs', rfl, h1, b6q h2 (by simpa using hv) hc⟩
theorem b4n {L : Lyt} {w : World} {c : CV} : ∀ {cs : List CV} {vs : List Value} {i : Nat}, CVL C L w cs vs → cs[i]? = some c → ∃ v, vs[i]? = some v ∧ CVr C L w c v
 | [], _, _, _, h => by simp at h
 | x :: xs, _, 0, ⟨u, vs', e, h1, h2⟩, h => by
  subst e
  simp only [List.getElem?_cons_zero, Option.some.injEq] at h
  subst h
  exact ⟨u, by simp, h1⟩
 | x :: xs, _, i + 1, ⟨u, vs', e, h1, h2⟩, h => by
  subst e
  simpa using b4n h2 (by simpa using h)
theorem Rel.alsoK (h : Rel P C nt L σ a w) {b t i k : Nat} {cs : List CV} (hb : look σ.bx b = some (t, cs)) (hv : ∀ vs : List Value, w.heap[L.bb b]? = some (.cells vs.toArray t (0, 0)) → vs[i]? = some (L.rv k)) (hk : (lkk σ k).isSome = true) (hok : (cs.flatMap CV.keys).all (fun j => (lkk σ j).isSome) = true) : Rel P C nt L ⟨σ.tm, (b, t, cs.set i (.key k)) :: σ.bx, σ.ks⟩ a w :=
 have hx : ∀ z x, look ((b, t, cs.set i (.key k)) :: σ.bx) z = some x → ∃ y, look σ.bx z = some y := fun z x hx => by
  simp only [a0U] at hx
  split at hx
  ·rename_i e; exact ⟨_, by rw [e]; exact hb⟩
  ·exact ⟨_, hx⟩
 { h with
  tm := h.tm
  bx := fun i' t' cs'' hx => by
   simp only [a0U] at hx
   split at hx
   ·rename_i e
    simp only [Option.some.injEq, Prod.mk.injEq] at hx
    obtain ⟨rfl, rfl⟩ := hx
    obtain ⟨vs, h1, h2⟩ := h.bx b _ _ hb
    exact ⟨vs, by rw [e]; exact h1, b6q h2 (hv vs h1) (by simp [CVr])⟩
   ·exact h.bx i' t' cs'' hx
  ks := h.ks
  b1 := fun z x h' => by obtain ⟨y, hy⟩ := hx z x h'; exact h.b1 z y hy
  k1 := h.k1
  kn := h.kn
  bb := fun z j x y h1 h2 => by
   obtain ⟨x', h1'⟩ := hx z x h1
   obtain ⟨y', h2'⟩ := hx j y h2
   exact h.bb z j x' y' h1' h2'
  bk := fun z k2 x c h' hc => by obtain ⟨y, hy⟩ := hx z x h'; exact h.bk z k2 y c hy hc
  kk := h.kk
  lk := fun j hm => by
   simp only [St.tk, List.flatMap_cons, List.mem_append] at hm
   rcases hm with hm | hm | hm
   ·exact h.lk j (by simp only [St.tk, List.mem_append]; exact .inl hm)
   ·obtain ⟨c, hc, hj⟩ := List.mem_flatMap.1 hm
    rcases List.mem_or_eq_of_mem_set hc with hc | hc
    ·exact List.all_eq_true.1 hok j (List.mem_flatMap.2 ⟨c, hc, hj⟩)
    ·rw [hc] at hj
     simp only [CV.keys, List.mem_singleton] at hj
     rw [hj]; exact hk
   ·exact h.lk j (by simp only [St.tk, List.mem_append]; exact .inr hm)
  lb := fun b' hm => by
   have := h.lb b' hm
   simp only [a0U]
   split
   ·rfl
   ·exact this }
theorem b2H {vs rs : List Nat} {i : Nat} : ∀ {bx : List (Nat × TypeId × List CV)}, look (a0j vs rs bx) i = (look bx i).map fun q => (q.1, q.2.map (CV.kill vs rs))
 | [] => by simp [a0j, look]
 | p :: bx => by
  obtain ⟨b, q⟩ := p
  have ih := b2H (vs := vs) (rs := rs) (i := i) (bx := bx)
  simp only [a0j] at ih
  simp only [a0j, List.map_cons, a0U]
  split
  ·rfl
  ·exact ih
theorem a5i {tm : List (Nat × SV)} {bx : List (Nat × TypeId × List CV)} {ks : List (Nat × Option KC)} {b i t k k' : Nat} {cs : List CV} {c c' : KC} (hb : look bx b = some (t, cs)) (hi : cs[i]? = some (.key k)) (hk : lkk ⟨tm, bx, ks⟩ k = some c) (hk' : lkk ⟨tm, bx, ks⟩ k' = some c') (hne : k' ∉ [k]) (hh : c.h = false)
  (hok : ((cs.map (CV.kill [k', k] [k', k])).flatMap CV.keys).all (fun j => (lkk ⟨a0l [k', k] [k', k] tm, a0j [k', k] [k', k] bx, (k', some c) :: (k, none) :: ks⟩ j).isSome) = true) :
  Weak P C nt ⟨tm, bx, ks⟩ ⟨a0l [k', k] [k', k] tm, (b, t, (cs.map (CV.kill [k', k] [k', k])).set i (.key k')) :: a0j [k', k] [k', k] bx, (k', some c) :: (k, none) :: ks⟩ := Weak.mk fun L a w hr => by
 have ho := (hr.ks k c hk).1
 obtain ⟨vs0, h1, h2⟩ := hr.bx b t cs hb
 obtain ⟨v, h3, h4⟩ := b4n h2 hi
 simp only [CVr] at h4
 have hset := hr.setkey (k := k') (c := c') (c' := c) (js := [k]) (same := false) hk' hne (Chg.refl _ w) ho (hr.kn k c hk) (fun b hb => .inr (.inl ⟨k, by simp, hb⟩)) (by intro i hi'; simp only [List.mem_singleton] at hi'; subst hi'; exact Option.isSome_iff_exists.2 ⟨c, hk⟩) (by simp) (fun h => by rw [hh] at h; cases h)
 refine ⟨_, hset.alsoK (b := b) (t := t) (i := i) (k := k') (cs := cs.map (CV.kill [k', k] [k', k])) (by show look (a0j [k', k] [k', k] bx) b = _; rw [b2H, hb]; rfl) (fun vs hvs => ?_) (by rw [a6j]; rfl) hok⟩
 have e : vs = vs0 := by
  have : some (Obj.cells vs.toArray t (0, 0)) = some (Obj.cells vs0.toArray t (0, 0)) := hvs.symm.trans h1
  simpa using this
 subst e
 simp only [if_true]
 rw [h3, h4]
theorem c5W {Q : Exit → St → Prop} {all : Array Oper} {rest : List Oper} {tm : List (Nat × SV)} {bx : List (Nat × TypeId × List CV)} {ks : List (Nat × Option KC)} {t e sz by_ d d1 k j s lo hi n : Nat} {zc : List CV} {c c2 : KC} {cs c2s : List DV} {b8 t8 i8 : Nat} {cs8 : List CV} (hT : TTOk P T)
  (hg1 : o1.guard = none) (hd1 : o1.dst = some d1) (hn1 : Nat.blt d1 nt = true) (hs : SlOk P C nt ⟨tm, bx, ks⟩ o1 j sz lo hi)
  (hg2 : o2.guard = none) (hd : o2.dst = some d) (ho : o2.op = .call { callee := .builtin .append, args := #[x, .tmp d1], argTypes := #[t, t] }) (hnt : Nat.blt d nt = true) (ht : look T.sl t = some e) (he : look T.el e = some (sz, by_, zc)) (hl0 : zc.length = sz)
  (hx : Ev P C nt ⟨(d1, .any) :: tm, bx, ks⟩ x (.one (.key k))) (hk : lkk ⟨tm, bx, ks⟩ k = some c) (hce : c.e = e) (hcs : c.sz = sz) (hj : lkk ⟨tm, bx, ks⟩ j = some c2) (hcs2 : c2.sz = sz) (he2 : Nat.blt c2.e 1000000 = true) (hkj : k ∉ [j]) (hh : c2.h = false)
  (hsl : look tm s = some (.one (.key j))) (hsd : Nat.beq s d1 = false ∧ Nat.beq s d = false) (hlh : lo ≤ hi) (hhi : hi ≤ c2.n) (hb : (c.n + (hi - lo)) * by_ ≤ 140737488355328) (h63 : c.n + (hi - lo) ≤ 9223372036854775807) (hn : c.n + (hi - lo) = n) (hcc : c.cs ++ sub (lo * sz) ((hi - lo) * sz) c2.cs = cs) (hcc2 : a5H c2.cs (lo * sz) ((hi - lo) * sz) = c2s)
  (hb8 : look bx b8 = some (t8, cs8)) (hi8 : cs8[i8]? = some (.key j)) (hok8 : ((cs8.map (CV.kill [k, j] [k, j])).flatMap CV.keys).all (fun i => (lkk ⟨(s, .one (.key j)) :: (d, .one (.key k)) :: a0l [k, j] [k, j] ((d1, .any) :: tm), a0j [k, j] [k, j] bx, (j, some ⟨false, c2.e, sz, c2.n, c2s⟩) :: (k, some ⟨false, e, sz, n, cs⟩) :: (j, none) :: ks⟩ i).isSome) = true)
  (h : Ops P C nt Q all rest ⟨(s, .one (.key j)) :: (d, .one (.key k)) :: a0l [k, j] [k, j] ((d1, .any) :: tm), (b8, t8, (cs8.map (CV.kill [k, j] [k, j])).set i8 (.key j)) :: a0j [k, j] [k, j] bx, (j, some ⟨false, c2.e, sz, c2.n, c2s⟩) :: (k, some ⟨false, e, sz, n, cs⟩) :: (j, none) :: ks⟩) : Ops P C nt Q all (o1 :: o2 :: rest) ⟨tm, bx, ks⟩ := Ops.mk fun L a w hr => by
 subst hn; subst hcc; subst hcc2
 have hkj' : k ≠ j := by simpa using hkj
 refine wpList_plain hg1 fun K1 hK1 => ?_
 -- what stands in memory
 have ho1 := (hr.ks k c hk).1
 have ho2 := (hr.ks j c2 hj).1
 simp only [Own] at ho1 ho2
 obtain ⟨vs, f1, q1, q2, q3, q4, q5⟩ := ho1
 obtain ⟨us, f2, r1, r2, r3, r4, r5⟩ := ho2
 subst hce; subst hcs
 obtain ⟨inf, z, g1, g2, g3, g4, g5⟩ := hT.el c.e c.sz by_ zc he
 have hE : c.e < 1000000 := hT.lt _ _ he
 have hrow := q4.1 hE
 have hE2 : c2.e < 1000000 := by simpa [Nat.blt_eq] using he2
 have hrow2 := r4.1 hE2
 rw [hcs2] at hrow2 r3
 have hul : us.length = c2.n * c.sz := hrow2.1
 have one : ∀ {ds : List DV} {vs : List Value} {f : List Nat}, a0I w ds vs f → ∀ u ∈ vs, u.oneCell' = true := fun h => a8M (ok := fun _ => True) _ _ (a7p _ _ _ h (fun _ _ => trivial))
 obtain ⟨A, m, cap, hA⟩ : ∃ A m cap, L.rv j = .slice A m cap := by
  rcases hrow2.2 with ⟨g, _⟩ | ⟨g, cap, cur, g, _⟩
  ·exact ⟨_, _, _, g⟩
  ·exact ⟨_, _, _, g⟩
 have hrun := hs.run L a w hr A m cap hA w
 have hm1 : (hi - lo) * c.sz + lo * c.sz = hi * c.sz := by rw [← Nat.add_mul]; congr 1; omega
 have hm2 : hi * c.sz ≤ c2.n * c.sz := Nat.mul_le_mul_right _ hhi
 have hm3 : hi * c.sz + (c2.n - hi) * c.sz = c2.n * c.sz := by rw [← Nat.add_mul]; congr 1; omega
 obtain ⟨A1, c1, e1, hrd⟩ : ∃ A1 c1, sliced A lo hi cap c.sz = .slice A1 (hi - lo) c1 ∧ a2z w A1 (hi - lo) c.sz (sub (lo * c.sz) ((hi - lo) * c.sz) us) := by
  refine ⟨_, _, rfl, by rw [a4A _ _ _ (by omega)], fun hpos => ?_⟩
  rcases hrow2.2 with ⟨g1, g2⟩ | ⟨g, cap', cur, g1, _, g3, g4, g5, g6, g7⟩
  ·omega
  ·rw [hA] at g1
   simp only [Value.slice.injEq] at g1
   obtain ⟨rfl, rfl, rfl⟩ := g1
   have hne : ¬ cap = lo := by omega
   refine ⟨g, lo * c.sz, by rw [if_neg hne]; simp only [Option.map_some, a4Z, Nat.zero_add], fun i v hi' => ?_⟩
   have hlt : i < (hi - lo) * c.sz := by
    have := (List.getElem?_eq_some_iff.1 hi').1
    rw [a4A _ _ _ (by omega)] at this
    exact this
   rw [a9m _ _ _ _ hlt] at hi'
   rw [cell_of_row _ g _ cur c2.e (0, 0) g3]
   rw [← g7, List.getElem?_take, if_pos (by omega), Array.getElem?_toList] at hi'
   exact hi'
 refine a5c hrun (hK1 _ _ ?_)
 have hr1 : Rel P C nt L ⟨(d1, .any) :: tm, bx, ks⟩ (a.put o1.dst (sliced A lo hi cap c.sz)) w := by
  rw [hd1]
  exact hr.put (v := .any) (by simpa [Nat.blt_eq] using hn1) (by simp only [SVr]) (by simp [SV.keys]) (by simp [SV.boxes])
 have ex := hx.run L _ w hr1
 simp only [SVr, CVr] at ex
 have ey : (a.put o1.dst (sliced A lo hi cap c.sz)).eval (.tmp d1) = .slice A1 (hi - lo) c1 := by
  rw [hd1, ← e1]
  have hsz := hr.sz
  have hlt : d1 < nt := by simpa [Nat.blt_eq] using hn1
  simp [Act.eval, Act.put, hsz, hlt]
 refine wpList_plain hg2 fun K hK => ?_
 have hzs : z.cells.size = c.sz := by
  have := a6L g5
  simp only [Array.length_toList] at this
  rw [this, hl0]
 refine b0D w x (.tmp d1) t ho c.e z c.sz by_ (hT.sl t c.e ht) (by rw [g1]; simp [g2, g3, g4]) hzs q2 (L.rv k) c.n vs ex hrow A1 (hi - lo) c1 _ ey hrd (fun u hu => one r5 u (List.mem_of_mem_drop (List.mem_of_mem_take hu))) (by simpa [maxLen] using h63) hb ?_
 intro A' c' w' h9 hchg hblk
 refine hK _ _ ?_
 -- the parts
 obtain ⟨fa, fr, rfl, ta, tr⟩ := a7e (lo * c.sz) r5
 obtain ⟨fb, fc, rfl, tb, tc⟩ := a7e ((hi - lo) * c.sz) tr
 have hkn := hr.kn k c hk
 have hjn := hr.kn j c2 hj
 have hkk := hr.kk k j c c2 hk hj hkj'
 rw [q1] at hkn; rw [r1] at hjn
 obtain ⟨n1, n2, n3⟩ := List.nodup_append.1 hkn
 obtain ⟨p1, p2, p3⟩ := List.nodup_append.1 hjn
 obtain ⟨pa, pbc, p4⟩ := List.nodup_append.1 p2
 obtain ⟨pb, pc, p5⟩ := List.nodup_append.1 pbc
 have hltk : ∀ b ∈ L.fp k, b < w.heap.size := fun b hb' => hr.k_lt hk b hb'
 have hltj : ∀ b ∈ L.fp j, b < w.heap.size := fun b hb' => hr.k_lt hj b hb'
 have inj : ∀ b, b ∈ fa ++ (fb ++ fc) → b ∈ L.fp j := fun b hb' => by rw [r1]; simp only [List.mem_append] at hb' ⊢; exact .inr hb'
 have ink : ∀ b, b ∈ f1 → b ∈ L.fp k := fun b hb' => by rw [q1]; simp [hb']
 have keepk : ∀ b ∈ f1, w'.heap[b]? = w.heap[b]? := fun b hb' => hchg.block b (hltk b (ink b hb')) (fun hm => n3 b hm b hb' rfl)
 have keepj : ∀ b ∈ L.fp j, w'.heap[b]? = w.heap[b]? := fun b hb' => hchg.block b (hltj b hb') (fun hm => hkk b (by rw [q1]; simp [hm]) hb')
 have k1 := a3h _ _ _ q5 keepk
 have k2 := a3h _ _ _ tb (fun b hb' => keepj b (inj b (by simp [hb'])))
 have hbl : ∀ b, b ∈ (Value.slice A' (c.n + (hi - lo)) c').ownBlock.toList → b ∈ (L.rv k).ownBlock.toList ∨ b = w.heap.size := fun b hb' => by
  rcases hblk with g | g
  ·rw [← g] at hb'; exact .inl hb'
  ·rw [g] at hb'; simp only [Option.toList_some, List.mem_singleton] at hb'; exact .inr hb'
 have hown' : Own w' (.sl c.e c.sz (c.n + (hi - lo)) (c.cs ++ sub (lo * c.sz) ((hi - lo) * c.sz) c2.cs)) (.slice A' (c.n + (hi - lo)) c') ((Value.slice A' (c.n + (hi - lo)) c').ownBlock.toList ++ (f1 ++ fb)) := by
  unfold Own
  refine ⟨_, f1 ++ fb, rfl, q2, ?_, a3T hE h9, a3m _ _ _ _ _ _ k1 k2⟩
  rw [List.length_append, q3, a4A _ _ _ (by rw [r3]; omega), Nat.add_mul]
 have hset := hr1.setkey (k := k) (c := c) (c' := ⟨false, c.e, c.sz, c.n + (hi - lo), c.cs ++ sub (lo * c.sz) ((hi - lo) * c.sz) c2.cs⟩) (js := [j]) (same := false) hk hkj (hchg.mono (fun b hb' => by rw [q1]; simp [hb'])) hown'
  (by
   refine List.nodup_append.2 ⟨?_, List.nodup_append.2 ⟨n2, pb, fun x hx' y hy' e' => hkk x (ink x hx') (inj x (by rw [e']; simp [hy']))⟩, fun x hx' y hy' e' => ?_⟩
   ·cases (Value.slice A' (c.n + (hi - lo)) c').ownBlock <;> simp
   ·subst e'
    rcases hbl x hx' with g | g
    ·rcases List.mem_append.1 hy' with hy' | hy'
     ·exact n3 x g x hy' rfl
     ·exact hkk x (by rw [q1]; simp [g]) (inj x (by simp [hy']))
    ·rcases List.mem_append.1 hy' with hy' | hy'
     ·have := hltk x (ink x hy'); omega
     ·have := hltj x (inj x (by simp [hy'])); omega)
  (fun b hb' => by
   rcases List.mem_append.1 hb' with hb' | hb'
   ·rcases hbl b hb' with g | g
    ·exact .inl (by rw [q1]; simp [g])
    ·exact .inr (.inr (by omega))
   ·rcases List.mem_append.1 hb' with hb' | hb'
    ·exact .inl (ink b hb')
    ·exact .inr (.inl ⟨j, by simp, inj b (by simp [hb'])⟩)) (by intro i hi'; simp only [List.mem_singleton] at hi'; subst hi'; exact Option.isSome_iff_exists.2 ⟨c2, hj⟩) (by simp) (by simp)
 -- key j again, with holes
 have hone2 : ∀ u ∈ us, u.oneCell' = true := one r5
 have hrow3 : w'.ownsRow 0 c2.e c.sz (L.rv j) c2.n us := by
  refine ⟨hrow2.1, ?_⟩
  rcases hrow2.2 with g | ⟨g, cap', cur, g1, g2, g3, g4⟩
  ·exact .inl g
  ·refine .inr ⟨g, cap', cur, g1, g2, ?_, g4⟩
   rw [keepj g (by rw [r1, g1]; simp [Value.ownBlock])]; exact g3
 have hown2 : Own w' (.sl c2.e c.sz c2.n (a5H c2.cs (lo * c.sz) ((hi - lo) * c.sz))) (L.rv j) ((L.rv j).ownBlock.toList ++ (fa ++ ([] ++ fc))) := by
  unfold Own
  have ta' := a3h _ _ _ ta (fun b hb' => keepj b (inj b (by simp [hb'])))
  have tc' := a3h _ _ _ tc (fun b hb' => keepj b (inj b (by simp [hb'])))
  have th : a0I w' (List.replicate ((hi - lo) * c.sz) .hole) ((us.drop (lo * c.sz)).take ((hi - lo) * c.sz)) [] := by
   have := b0r (w := w') ((us.drop (lo * c.sz)).take ((hi - lo) * c.sz)) (fun v hv => hone2 v (List.mem_of_mem_drop (List.mem_of_mem_take hv)))
   have e' : ((us.drop (lo * c.sz)).take ((hi - lo) * c.sz)).length = (hi - lo) * c.sz := by rw [List.length_take, List.length_drop]; omega
   rwa [e'] at this
  have hall := a3m _ _ _ _ _ _ ta' (a3m _ _ _ _ _ _ th tc')
  rw [List.take_append_drop, List.take_append_drop] at hall
  refine ⟨us, _, rfl, q2, ?_, a3T hE2 hrow3, hall⟩
  simp only [a5H, List.length_append, List.length_take, List.length_replicate, List.length_drop, r3]
  omega
 have hlk : ∀ i, lkk (St.mut ⟨(d1, .any) :: tm, bx, ks⟩ k [j] false ⟨false, c.e, c.sz, c.n + (hi - lo), c.cs ++ sub (lo * c.sz) ((hi - lo) * c.sz) c2.cs⟩) i = if i = k then some ⟨false, c.e, c.sz, c.n + (hi - lo), c.cs ++ sub (lo * c.sz) ((hi - lo) * c.sz) c2.cs⟩ else if i = j then none else lkk ⟨tm, bx, ks⟩ i := fun i => by
  simp only [lkk, St.mut, List.map_cons, List.map_nil, List.cons_append, List.nil_append, a0U]
  split
  ·rfl
  ·split <;> rfl
 have inj2 : ∀ b, b ∈ (L.rv j).ownBlock.toList ++ (fa ++ ([] ++ fc)) → b ∈ L.fp j := fun b hb' => by
  rw [r1]; simp only [List.mem_append, List.nil_append] at hb' ⊢
  rcases hb' with g | g | g
  ·exact .inl g
  ·exact .inr (.inl g)
  ·exact .inr (.inr (.inr g))
 have hnew := hset.newkey (k := j) (c := ⟨false, c2.e, c.sz, c2.n, a5H c2.cs (lo * c.sz) ((hi - lo) * c.sz)⟩) (v := L.rv j) (f := (L.rv j).ownBlock.toList ++ (fa ++ ([] ++ fc))) (by rw [hlk, if_neg (fun e => hkj' e.symm), if_pos rfl]) hown2 rfl
  (by
   rw [List.nil_append]
   refine List.nodup_append.2 ⟨p1, List.nodup_append.2 ⟨pa, pc, fun x hx' y hy' => p4 x hx' y (by simp [hy'])⟩, fun x hx' y hy' => p3 x hx' y (by
    simp only [List.mem_append] at hy' ⊢
    rcases hy' with g | g
    ·exact .inl g
    ·exact .inr (.inr g))⟩)
  (fun b hb' => hr.k1 j c2 hj b (inj2 b hb'))
  (fun b hb' i x hx' e' => by
   obtain ⟨y, hy⟩ := b2W hx'
   exact hr.bk i j y c2 hy hj (by rw [show L.bb i = b from e']; exact inj2 b hb'))
  (fun b hb' i q hq hm => by
   rw [hlk] at hq
   by_cases hik : i = k
   ·subst hik
    simp only [if_true] at hm
    rcases List.mem_append.1 hm with hm | hm
    ·rcases hbl b hm with g | g
     ·exact hkk b (by rw [q1]; simp [g]) (inj2 b hb')
     ·have := hltj b (inj2 b hb'); omega
    ·rcases List.mem_append.1 hm with hm | hm
     ·exact hkk b (ink b hm) (inj2 b hb')
     ·rw [List.nil_append] at hb'
      rcases List.mem_append.1 hb' with g | g
      ·exact p3 b g b (by simp [hm]) rfl
      ·rcases List.mem_append.1 g with g | g
       ·exact p4 b g b (by simp [hm]) rfl
       ·exact p5 b hm b g rfl
   ·rw [if_neg hik] at hq
    by_cases hij : i = j
    ·rw [if_pos hij] at hq; cases hq
    ·rw [if_neg hij] at hq
     simp only [if_neg hik] at hm
     exact hr.kk i j q c2 hq hj hij b hm (inj2 b hb'))
 have hd' : d < nt := by simpa [Nat.blt_eq] using hnt
 have hput := hnew.put (d := d) (v := .one (.key k)) (r := .slice A' (c.n + (hi - lo)) c') hd' (by simp only [SVr, CVr]; rw [if_neg hkj']; simp) (by
  simp only [SV.keys, CV.keys, List.mem_singleton, forall_eq]
  simp [lkk, a0U, hkj', St.mut]) (by simp [SV.boxes])
 have hsv := hr.tm s _ hsl
 simp only [SVr, CVr] at hsv
 have n1' : s ≠ d1 := Nat.ne_of_beq_eq_false hsd.1
 have n2' : s ≠ d := Nat.ne_of_beq_eq_false hsd.2
 have hval : ((a.put o1.dst (sliced A lo hi cap c.sz)).put (some d) (.slice A' (c.n + (hi - lo)) c')).tmps.getD s undef = L.rv j := by
  rw [← hsv, hd1]
  simp only [Act.put]
  rw [b2a n2', b2a n1']
 have hal := hput.also (d := s) (v := .one (.key j)) (by simp only [SVr, CVr, if_true]; exact hval) (by simp [SV.keys, CV.keys, lkk, a0U, St.put]) (by simp [SV.boxes])
 rw [hd]
 obtain ⟨vs0, z1, z2⟩ := hr.bx b8 t8 cs8 hb8
 obtain ⟨v8, z3, z4⟩ := b4n z2 hi8
 simp only [CVr] at z4
 have hbk := hr.bk b8 k _ c hb8 hk
 refine h.run _ _ _ (hal.alsoK (b := b8) (t := t8) (i := i8) (k := j) (cs := cs8.map (CV.kill [k, j] [k, j])) (by show look (a0j [k, j] [k, j] bx) b8 = _; rw [b2H, hb8]; rfl) (fun vs2 hvs2 => ?_) (by simp [lkk, a0U, St.put]) hok8)
 have hkeep : w'.heap[L.bb b8]? = w.heap[L.bb b8]? := hchg.block _ (hr.bx_lt hb8) (fun hm => hbk (by rw [q1]; simp [hm]))
 have e8 : vs2 = vs0 := by
  have : some (Obj.cells vs2.toArray t8 (0, 0)) = some (Obj.cells vs0.toArray t8 (0, 0)) := hvs2.symm.trans (hkeep.trans z1)
  simpa using this
 subst e8
 simp only [if_true]
 rw [z3, z4]
end
def SWX (b : Nat) (wb w : World) : Prop := wb.heap.size ≤ w.heap.size ∧ ∀ k, k < wb.heap.size → k ≠ b → w.heap[k]? = wb.heap[k]?
theorem SWX.refl (b : Nat) (w : World) : SWX b w w := ⟨Nat.le_refl _, fun _ _ _ => rfl⟩
theorem SWX.chg {b : Nat} {wb w w' : World} (h : SWX b wb w) (hc : Chg [b] w w') : SWX b wb w' := ⟨Nat.le_trans h.1 hc.size, fun k hk hn => (hc.block k (Nat.lt_of_lt_of_le hk h.1) (by simpa using hn)).trans (h.2 k hk hn)⟩
def c2R (o : Oper) : Bool := match o.op with | .store _ _ _ => true | _ => false
def hdW (ops : Array Oper) (i : Nat) : Bool := (ops.toList.take i).all b1f && (match ops[i]? with | some o => b1f o || c2R o | none => true)
structure OpsW (P : Program) (C : Ctx) (nt : Nat) (Q : Exit → St → Prop) (all : Array Oper) (oB oK : List Nat) (b : Nat) (listed : Array Bool) (fuel : Nat) (σ : St) : Prop where
 run : ∀ wb L a w, Rel P C nt L σ a w → SWX (L.bb b) wb w → C.w0.heap.size ≤ wb.heap.size → (∀ i ∈ oB, L.bb i < wb.heap.size) → (∀ k ∈ oK, ∀ b ∈ L.fp k, b < wb.heap.size) → a2u P .any all (QQ P C nt Q) (SWX (L.bb b) wb) (hdW all) fuel listed a w
section
variable {P : Program} {C : Ctx} {nt : Nat} {Q : Exit → St → Prop} {all : Array Oper} {oB oK : List Nat} {listed : Array Bool} {fuel b : Nat} {tm : List (Nat × SV)} {bx : List (Nat × TypeId × List CV)} {ks : List (Nat × Option KC)} {o : Oper} {d : Nat} {v X : SV} {Ks Bs : List Nat} {g : Bool} {x y : Operand} {T : TT}
theorem b0s (b : Nat) {id : Nat} {l : List Oper} (hm : P.follows .mixedOrders = true) (hb : (oB.all fun i => (look bx i).isSome) = true) (hk : (oK.all fun k => (lkk ⟨tm, bx, ks⟩ k).isSome) = true)
  (h : OpsW P C nt Q l.toArray oB oK b (Array.replicate l.length false) l.length ⟨tm, bx, ks⟩) : Ok P C nt Q (.region id l.toArray true) ⟨tm, bx, ks⟩ := Ok.mk fun L a w hr => by
 have hr' := b1d hr
 refine b1n (SWX (L.bb b) w.drew) (hdW l.toArray) hm ?_
 have := h.run w.drew L a w.drew hr' (SWX.refl _ _) hr'.chg.size (fun i hi => ?_) (fun k hk' b hb' => ?_)
 ·simpa using this
 ·obtain ⟨x, hx⟩ := Option.isSome_iff_exists.1 (List.all_eq_true.1 hb i hi)
  exact hr'.bx_lt hx
 ·obtain ⟨c, hc⟩ := Option.isSome_iff_exists.1 (List.all_eq_true.1 hk k hk')
  exact hr'.k_lt hc b hb'
theorem a1F (i : Nat) (hi : all[i]? = some o) (ht : a5m .any all (hdW all) listed i = true) (hg : o.guard = none) (hd : o.dst = some d) (hp : Pu P C nt o ⟨tm, bx, ks⟩ v Ks Bs) (h1 : (Ks.all fun k => oK.contains k && (lkk ⟨tm, bx, ks⟩ k).isSome) = true) (h2 : (Bs.all fun k => oB.contains k && (!(Nat.beq k b) && (look bx k).isSome)) = true) (h3 : (look bx b).isSome = true) (hn : Nat.blt d nt = true) (hk : a1v ⟨tm, bx, ks⟩ v = true)
  (h : OpsW P C nt Q all oB oK b (listed.setIfInBounds i true) fuel ⟨(d, v) :: tm, bx, ks⟩) : OpsW P C nt Q all oB oK b listed (fuel + 1) ⟨tm, bx, ks⟩ := ⟨fun wb L a w hr hs hw hB hK => by
 obtain ⟨r, q3, q4⟩ := hp.run L a w hr
 obtain ⟨xb, hxb⟩ := Option.isSome_iff_exists.1 h3
 have hy : ∀ w', SWX (L.bb b) wb w' → (execOp a.eval o).run P w' = .ok (.value r) w' := fun w' hs' => q4 w' fun z _ hu => by
  have hz : z < wb.heap.size ∧ z ≠ L.bb b := by
   rcases hu with (⟨h5, h6⟩ | ⟨k, hk, hb⟩) | ⟨i, hi, rfl⟩
   ·refine ⟨by omega, fun e => ?_⟩
    rcases hr.b1 b xb hxb with g | g
    ·omega
    ·exact h6 (by rw [e]; exact g)
   ·have := List.all_eq_true.1 h1 k hk
    simp only [Bool.and_eq_true, List.contains_iff_mem] at this
    obtain ⟨c, hc⟩ := Option.isSome_iff_exists.1 this.2
    exact ⟨hK k this.1 z hb, fun e => hr.bk b k xb c hxb hc (by rw [← e]; exact hb)⟩
   ·have := List.all_eq_true.1 h2 i hi
    simp only [Bool.and_eq_true, List.contains_iff_mem, Bool.not_eq_true'] at this
    obtain ⟨c, hc⟩ := Option.isSome_iff_exists.1 this.2.2
    exact ⟨hB i this.1, hr.bb i b c xb hc hxb (Nat.ne_of_beq_eq_false this.2.1)⟩
  rw [hs'.2 z hz.1 hz.2, hs.2 z hz.1 hz.2]
 refine a7g i (v := r) hi ht (fun _ _ _ h => h) hs (.inl ⟨by simp [Region.wanted, hg], hy⟩) ?_
 rw [hd]
 exact h.run wb L _ w (hr.put (by simpa [Nat.blt_eq] using hn) q3 (a2d hk).1 (a2d hk).2) hs hw hB hK⟩
theorem a9n (i : Nat) {t j t' sz by_ : Nat} {zc cs : List CV} {p : Bool × List CV} (hi : all[i]? = some o) (ht : (Region.ready .any all listed == [i]) = true) (hg : o.guard = none) (hT : TTOk P T) (ho : o.op = .store t x y) (hd : o.dst = none) (hte : look T.el t = some (sz, by_, zc)) (hx : Ev P C nt ⟨tm, bx, ks⟩ x (.box b j)) (hy : Ev P C nt ⟨tm, bx, ks⟩ y v) (hp : v.part = some p) (hk : a1v ⟨tm, bx, ks⟩ v = true)
  (hb : look bx b = some (t', cs)) (hl : p.2.length = sz) (hle : Nat.ble (j + sz) cs.length = true) (hkc : (cs.flatMap CV.keys).all (fun k => (lkk ⟨tm, bx, ks⟩ k).isSome) = true)
  (h : OpsW P C nt Q all oB oK b (listed.setIfInBounds i true) fuel ⟨tm, (b, t', a1a j p.2 cs) :: bx, ks⟩) : OpsW P C nt Q all oB oK b listed (fuel + 1) ⟨tm, bx, ks⟩ := ⟨fun wb L a w hr hs hw hB hK => by
 refine a7R i hi hg ht fun K hK' => ?_
 obtain ⟨us, h1, h2, h3⟩ := a5p hr hp hk (hy.run L a w hr)
 have h4 := hx.run L a w hr
 simp only [SVr] at h4
 obtain ⟨vs, h5, h6⟩ := hr.bx b t' cs hb
 obtain ⟨inf, z, g1, g2, _⟩ := hT.el t sz by_ zc hte
 have hrun := a7L (z := z) g1 g2 h1 (by rw [a3j h2]; exact hl) h3 h5 (off := j) (by rw [a3j h6]; simpa [Nat.ble_eq] using hle)
 unfold Oper.wp execOp
 simp only [ho, h4, Sem.run_bind, hrun, Result.andThen_ok, Sem.run_pure, Oper.upon, hd, Act.put]
 have hs' := hs.chg (a7H w (L.bb b) (a1a j us vs).toArray)
 refine hK' _ _ (fun _ => hs') (h.run wb L _ _ (hr.setbox hb (a7H _ _ _) (setRow_heap _ _ _ _ _ _ h5) (b1X j h6 h2) ?_) hs' hw hB hK)
 intro k hm
 simp only [a1a, List.flatMap_append, List.mem_append, or_assoc] at hm
 simp only [List.all_eq_true] at hkc
 rcases hm with hm | hm | hm
 ·exact hkc k (by
   obtain ⟨c, hc, hk'⟩ := List.mem_flatMap.1 hm
   exact List.mem_flatMap.2 ⟨c, List.mem_of_mem_take hc, hk'⟩)
 ·rw [a5r hp] at hm; exact (a2d hk).1 k hm
 ·exact hkc k (by
   obtain ⟨c, hc, hk'⟩ := List.mem_flatMap.1 hm
   exact List.mem_flatMap.2 ⟨c, List.mem_of_mem_drop hc, hk'⟩)⟩
theorem a9o (is : List Nat) (hm : (is.all fun i => (all[i]?).isSome) = true) (hf : Nat.ble is.length fuel = true) (hc : a8B .any all (hdW all) is listed = true) (h : Ops P C nt Q all (is.filterMap fun i => all[i]?) ⟨tm, bx, ks⟩) : OpsW P C nt Q all oB oK b listed fuel ⟨tm, bx, ks⟩ := ⟨fun wb L a w hr _ _ _ _ =>
 b0I is _ listed fuel a w (b1h hm) (by simpa [Nat.ble_eq] using hf) hc (h.run L a w hr)⟩
theorem a5L {k : Nat} {c c' : KC} (hk : lkk ⟨tm, bx, ks⟩ k = some c) (e : c = c') (ho : (⟨tm, bx, ks⟩ : St).okB = true) : Weak P C nt ⟨tm, bx, ks⟩ ⟨tm, bx, (k, some c') :: ks⟩ := Weak.mk fun L a w hr => by
 subst e
 have hl : ∀ i q, lkk ⟨tm, bx, (k, some c) :: ks⟩ i = some q → lkk ⟨tm, bx, ks⟩ i = some q := fun i q h => by
  simp only [lkk, a0U] at h
  split at h
  ·rename_i e; simp only [Option.join_some, Option.some.injEq] at h; rw [e, ← h]; exact hk
  ·exact h
 refine ⟨L, hr.sub' (fun _ _ h => h) (fun _ _ h => h) hl ?_⟩
 simp only [St.okB, Bool.and_eq_true, List.all_eq_true] at ho ⊢
 refine ⟨fun i hi => ?_, ho.2⟩
 have := ho.1 i hi
 simp only [lkk, a0U]
 split
 ·rfl
 ·exact this
theorem b1C {σ : St} {k : Nat} {c : KC} {dd : DV} (h : Pu P C nt o σ (.one (.key k)) Ks Bs) (hk : lkk σ k = some c) (hd : DV.sl c.e c.sz c.n c.cs = dd) : Pu P C nt o σ (.one (.dv [k] dd)) Ks Bs := Pu.mk fun L a w hr => by
 subst hd
 obtain ⟨r, h1, h2⟩ := h.run L a w hr
 simp only [SVr, CVr] at h1
 refine ⟨r, ?_, h2⟩
 simp only [SVr, CVr]
 rw [h1]
 exact a4Q _ _ _ (hr.ks k c hk).1 (fun b hb => .inr ⟨k, by simp, hb⟩)
theorem a7c {oB oK : List Nat} {hd' : Nat → Bool} {tm : List (Nat × SV)} {bx : List (Nat × TypeId × List CV)} {ks : List (Nat × Option KC)} (i : Nat) (hT : TTOk P T) {t e sz by_ d k : Nat} {zc : List CV} {v : SV} {p : Bool × List CV} {ds : List DV} {js : List Nat} (hi : all[i]? = some o) (ht' : (Region.ready .any all listed == [i]) = true) (hg : o.guard = none) (ho : o.op = .buildSlice t 1 #[(0, x)]) (hd : o.dst = some d) (hn : Nat.blt d nt = true) (ht : look T.sl t = some e) (he : look T.el e = some (sz, by_, zc)) (hl0 : zc.length = sz) (hsz : Nat.blt 0 sz = true) (hsm : Nat.ble sz 16777216 = true)
  (hx : Ev P C nt ⟨tm, bx, ks⟩ x v) (hp : v.part = some p) (hkv : a1v ⟨tm, bx, ks⟩ v = true) (how : a3Z ⟨tm, bx, ks⟩ p.2 ds js) (hnj : js.Nodup) (hkj : k ∉ js) (hl : p.2.length = sz) (hk : lkk ⟨tm, bx, ks⟩ k = none) (hnk : k ∉ oK)
  (h : OpsD P C nt Q all oB oK hd' (listed.setIfInBounds i true) fuel ⟨(d, .one (.key k)) :: a0l (k :: js) (k :: js) tm, a0j (k :: js) (k :: js) bx, (k, some ⟨false, e, sz, 1, ds⟩) :: ((js.map fun j => (j, none)) ++ (k, some ⟨false, e, sz, 0, []⟩) :: ks)⟩) : OpsD P C nt Q all oB oK hd' listed (fuel + 1) ⟨tm, bx, ks⟩ := ⟨fun wb L a w hr hs hw hB hK => by
 refine a7R i hi hg ht' fun K hK' => ?_
 have hpos : 0 < sz := by simpa [Nat.blt_eq] using hsz
 obtain ⟨us, h1, h2, h3⟩ := a5p hr hp hkv (hx.run L a w hr)
 have hus : us.length = sz := by rw [a3j h2]; exact hl
 obtain ⟨o1, o2, o3⟩ := a7X hr how h2
 have hchg : Chg [] w (w.alloc (.cells us.toArray e)) := (Chg.refl [] w).alloc _
 have hr1 := hr.newkey (k := k) (c := ⟨false, e, sz, 0, []⟩) (v := .slice none 0 0) (f := []) hk (a7J w e sz hpos) rfl (by simp) (by simp) (by simp) (by simp)
 have hlj : ∀ j ∈ js, (lkk { (⟨tm, bx, ks⟩ : St) with ks := (k, some ⟨false, e, sz, 0, []⟩) :: ks } j).isSome = true := fun j hj => by
  have hjk : j ≠ k := fun e' => hkj (by rw [← e']; exact hj)
  have := o2 j hj
  simp only [lkk, a0U, if_neg hjk] at this ⊢
  exact this
 have hlt : ∀ b ∈ js.flatMap L.fp, b < w.heap.size := a5b _ _ _ o1
 have o1' : a0I (w.alloc (.cells us.toArray e)) ds us (js.flatMap L.fp) := a3h _ _ _ o1 (fun b hb => hchg.block b (hlt b hb) (by simp))
 have hset := hr1.setkey (k := k) (c := ⟨false, e, sz, 0, []⟩) (c' := ⟨false, e, sz, 1, ds⟩) (js := js) (same := false) (w' := w.alloc (.cells us.toArray e)) (v' := .slice (some ⟨w.heap.size, 0, none⟩) 1 1) (f' := w.heap.size :: js.flatMap L.fp)
  (by simp [lkk, a0U]) hkj (by simpa using hchg)
  (by
   unfold Own
   refine ⟨us, js.flatMap L.fp, rfl, hpos, by rw [o3, hl, Nat.one_mul], a3T (hT.lt e _ he) ⟨by rw [hus, Nat.one_mul], .inr ⟨w.heap.size, 1, us.toArray, rfl, Nat.zero_le _, a9W w _, Nat.le_refl _, by simp [maxLen], by simp [hus], by rw [Nat.one_mul, ← hus]; simp⟩⟩, o1'⟩)
  (by
   rw [List.nodup_cons]
   exact ⟨fun hm => absurd (hlt _ hm) (by omega), b0n hr hnj o2⟩)
  (fun b hb => by
   rcases List.mem_cons.1 hb with hb | hb
   ·exact .inr (.inr (by omega))
   ·obtain ⟨j, hj, hb'⟩ := List.mem_flatMap.1 hb
    have hjk : j ≠ k := fun e' => hkj (by rw [← e']; exact hj)
    exact .inr (.inl ⟨j, hj, by simpa [hjk] using hb'⟩)) hlj (by simp) (by simp)
 refine a5c (v := .slice (some ⟨w.heap.size, 0, none⟩) 1 1) (w' := w.alloc (.cells us.toArray e)) ?_ ?_
 ·unfold execOp
  simp only [ho, List.map_toArray, List.map_cons, List.map_nil, b6r (P := P) (w := w) hT ht he hl0 hpos (by simpa [Nat.ble_eq] using hsm) h1 hus, Sem.run_bind, Result.andThen_ok, Sem.run_pure]
 ·rw [hd]
  refine hK' _ _ (fun _ => hs.chg hchg) (h.run wb _ _ _ (hset.put (v := .one (.key k)) (r := .slice (some ⟨w.heap.size, 0, none⟩) 1 1) (by simpa [Nat.blt_eq] using hn) (by simp [SVr, CVr]) (by simp [SV.keys, CV.keys, a6j]) (by simp [SV.boxes])) (hs.chg hchg) hw hB fun z hz b hb => ?_)
  have hzk : z ≠ k := fun e' => hnk (by rw [← e']; exact hz)
  simp only [if_neg hzk] at hb
  exact hK z hz b hb⟩
end
section
variable {P : Program} {C : Ctx} {nt : Nat} {σ : St} {o : Oper} {x y : Operand}
theorem b1R (a : Nat) (ha : a < 9223372036854775808) : (BitVec.ofInt 64 (a : Int)).toNat = a := by
 rw [BitVec.ofInt_natCast, BitVec.toNat_ofNat]; exact Nat.mod_eq_of_lt (by omega)
theorem c0l (a b : Nat) (ha : a < 9223372036854775808) (hb : b < 9223372036854775808) : bits .and .i64 (a : Int) (b : Int) = ((a &&& b : Nat) : Int) := by
 have hx : a &&& b < 2 ^ 63 := Nat.and_lt_two_pow _ (by omega)
 show IntKind.i64.wrap ((BitVec.ofInt 64 (a : Int) &&& BitVec.ofInt 64 (b : Int)).toNat : Int) = _
 rw [BitVec.toNat_and, b1R a ha, b1R b hb, IntKind.wrap_i64]
 omega
theorem b5i (a b : Nat) (ha : a < 9223372036854775808) (hb : b < 9223372036854775808) : bits .or .i64 (a : Int) (b : Int) = ((a ||| b : Nat) : Int) := by
 have hx : a ||| b < 2 ^ 63 := Nat.or_lt_two_pow (by omega) (by omega)
 show IntKind.i64.wrap ((BitVec.ofInt 64 (a : Int) ||| BitVec.ofInt 64 (b : Int)).toNat : Int) = _
 rw [BitVec.toNat_or, b1R a ha, b1R b hb, IntKind.wrap_i64]
 omega
theorem c5U {m : Int} (h0 : 0 ≤ m) (h1 : m ≤ 9223372036854775807) : bits .and .i64 m 127 = m % 128 := by
 obtain ⟨k, rfl⟩ := Int.eq_ofNat_of_zero_le h0
 rw [show (127 : Int) = ((127 : Nat) : Int) from rfl, c0l k 127 (by omega) (by omega), show (127 : Nat) = 2 ^ 7 - 1 from rfl, Nat.and_two_pow_sub_one_eq_mod]
 omega
theorem c5o {m : Int} (h0 : 0 ≤ m) (h1 : m ≤ 9223372036854775807) : bits .and .i64 m 255 = m % 256 := by
 obtain ⟨k, rfl⟩ := Int.eq_ofNat_of_zero_le h0
 rw [show (255 : Int) = ((255 : Nat) : Int) from rfl, c0l k 255 (by omega) (by omega), show (255 : Nat) = 2 ^ 8 - 1 from rfl, Nat.and_two_pow_sub_one_eq_mod]
 omega
theorem c6F {m : Int} (h0 : 0 ≤ m) (h1 : m < 128) : bits .or .i64 m 128 = m + 128 := by
 obtain ⟨k, rfl⟩ := Int.eq_ofNat_of_zero_le h0
 have h := Nat.two_pow_add_eq_or_of_lt (i := 7) (b := k) (by omega) 1
 rw [show (128 : Int) = ((128 : Nat) : Int) from rfl, b5i k 128 (by omega) (by omega), Nat.or_comm]
 rw [show (2 : Nat) ^ 7 * 1 = 128 from rfl] at h
 rw [← h]
 omega
theorem b5b {t ty : TypeId} {K J : List Nat} {m n q : Int} (ho : o.op = .binOp .or t x y ty) (hx : Ev P C nt σ x (.one (.dv K (.int .i64 m)))) (hy : Ev P C nt σ y (.one (.dv J (.int .i64 n)))) (e : bits .or .i64 m n = q) (hq : InR .i64 q) : Pu P C nt o σ (.one (.dv [] (.int .i64 q))) [] [] :=
 a4z ho hx hy fun _ _ => ⟨_, fun ok w => by unfold Lay; exact ⟨rfl, hq⟩, fun w => by simp [binOp, Op.intBits, ← e, bits]⟩
theorem b6U {t ty : TypeId} {K J : List Nat} {m n q : Int} (ho : o.op = .binOp .and t x y ty) (hx : Ev P C nt σ x (.one (.dv K (.int .i64 m)))) (hy : Ev P C nt σ y (.one (.dv J (.int .i64 n)))) (e : bits .and .i64 m n = q) (hq : InR .i64 q) : Pu P C nt o σ (.one (.dv [] (.int .i64 q))) [] [] :=
 a4z ho hx hy fun _ _ => ⟨_, fun ok w => by unfold Lay; exact ⟨rfl, hq⟩, fun w => by simp [binOp, Op.intBits, ← e, bits]⟩
end
section
variable {P : Program} {C : Ctx} {nt : Nat} {σ : St} {L : Lyt} {a : Act} {w : World} {o : Oper} {x y : Operand} {T : TT}
theorem c3t {e : TypeId} {z : Value} {sz by_ : Nat} (h : (P.info? e).map (fun i => (i.zero, i.size, i.bytes)) = some (some z, sz, by_)) : ∃ i, P.info? e = some i ∧ i.zero = some z ∧ i.size = sz ∧ i.bytes = by_ := by
 cases hi : P.info? e with
 | none => rw [hi] at h; cases h
 | some i =>
  rw [hi] at h
  simp only [Option.map_some, Option.some.injEq, Prod.mk.injEq] at h
  exact ⟨i, rfl, h.1, h.2.1, h.2.2⟩
theorem c3T (w : World) (t u ty e : TypeId) (ht : P.underlying t = some (.slice e)) (hu : P.underlying u = some .string) (hinfo : (P.info? e).map (fun i => (i.zero, i.size, i.bytes)) = some (some (.int .u8 0), 1, 1))
  (v : Value) (n : Nat) (xs : List Value) (hown : w.ownsRow 0 e 1 v n xs) (s : ByteArray) (h63 : n + s.size ≤ maxLen) (hbytes : n + s.size ≤ 140737488355328) :
  ∃ A' c' w', (Builtin.append_ #[t, u] ty #[v, .string s]).run P w = .ok (.slice A' (n + s.size) c') w' ∧ w'.ownsRow 0 e 1 (.slice A' (n + s.size) c') (n + s.size) (xs ++ Lib.strCells s) ∧ Chg v.ownBlock.toList w w' ∧
   (v.ownBlock = (Value.slice A' (n + s.size) c').ownBlock ∨ (Value.slice A' (n + s.size) c').ownBlock = some w.heap.size) := by
 obtain ⟨i, hi, hz, hs, hb⟩ := c3t hinfo
 obtain ⟨v', w', hr, h2, h3, h4⟩ := Lib.run_append_own_string (P := P) w 0 t u ty e i ht hu hi hz hs hb v n xs hown s h63 hbytes (Nat.zero_le _)
 have hsmall : n + s.size ≤ 9223372036854775807 := by simp only [maxLen] at h63; omega
 have hk : v'.ownBlock = v.ownBlock ∨ v'.ownBlock = some w.heap.size := by
  rcases hown.2 with ⟨rfl, rfl⟩ | ⟨g, cap, cur, rfl, hbg, hg, hnc, hcm, hcs, htake⟩
  ·by_cases hm : s.size = 0
   ·rw [h4.2 ⟨rfl, hm⟩]; exact .inl rfl
   ·have hr' := run_append_nil_string (P := P) w t u ty e i (.int .u8 0) ht hu hi hz s (by omega) (by omega) (by rw [hb]; omega)
    rw [hr'] at hr
    simp only [Result.ok.injEq] at hr
    rw [← hr.1]; exact .inr rfl
  ·by_cases hroom : n + s.size ≤ cap
   ·have hr' := Lib.run_append_room_string (P := P) w t u ty e i ht hu hi hs g n cap cur hg s hroom (by omega)
    rw [hr'] at hr
    simp only [Result.ok.injEq] at hr
    rw [← hr.1]; exact .inl rfl
   ·have hr' := Lib.run_append_grow_string (P := P) w t u ty e i (.int .u8 0) ht hu hi hz ⟨g, 0, none⟩ n cap xs (by rw [hs]; simpa using hown.1) (hown.cells (g := g) rfl) s (by omega) (by omega) (by rw [hb]; exact growslice_fits (by omega) (by omega))
    rw [hr'] at hr
    simp only [Result.ok.injEq] at hr
    rw [← hr.1]; exact .inr rfl
 obtain ⟨A', c', rfl, _⟩ := b7k h2
 refine ⟨A', c', w', hr, h2, (Chg.refl _ w).grown h3 (fun g hg => .inl (by rw [hg]; simp)), ?_⟩
 rcases hk with hk | hk
 ·exact .inl hk.symm
 ·exact .inr hk
theorem c4C (hT : TTOk P T) {t u e d k : Nat} {q : Unit} {c : KC} {J : List Nat} {s : ByteArray} (ho : o.op = .call { callee := .builtin .append, args := #[x, y], argTypes := #[t, u] }) (hd : o.dst = some d) (hnt : Nat.blt d nt = true) (ht : look T.sl t = some e) (hu : look T.st u = some q) (hinfo : (P.info? e).map (fun i => (i.zero, i.size, i.bytes)) = some (some (.int .u8 0), 1, 1)) (he : Nat.blt e 1000000 = true)
  (hx : Ev P C nt σ x (.one (.key k))) (hk : lkk σ k = some c) (hce : c.e = e) (hcs : c.sz = 1) (hy : Ev P C nt σ y (.one (.dv J (.str s)))) (hb : c.n + s.size ≤ 140737488355328) :
  Ef P C nt o σ (fun σ' => σ' = (σ.mut k [] false ⟨false, e, 1, c.n + s.size, c.cs ++ s.data.toList.flatMap fun b : UInt8 => [DV.int .u8 (b.toNat : Int)]⟩).put d (.one (.key k))) := Ef.mk fun L a w hr K Q hK => by
 have h1 := hx.run L a w hr
 have h2 := hy.run L a w hr
 simp only [SVr, CVr, Lay] at h1 h2
 subst hce
 have hE' : c.e < 1000000 := by simpa [Nat.blt_eq] using he
 have hown := (hr.ks k c hk).1
 simp only [Own] at hown
 obtain ⟨vs, f, e3, h5, h6, h7, h8⟩ := hown
 have h7 := h7.1 hE'
 rw [hcs] at h7
 have hcells : Lib.strCells s = s.data.toList.map fun b => Value.int .u8 (b.toNat : Int) := rfl
 obtain ⟨A', c', w', hrun, g2, g3, g4⟩ := c3T (P := P) w t u o.type c.e (hT.sl t c.e ht) (hT.st u q hu) hinfo (L.rv k) c.n vs h7 s (by simp only [maxLen]; omega) hb
 unfold Oper.wp execOp
 simp only [ho, resolve, invoke, builtin, Sem.run_bind, Sem.run_pure, Result.andThen_ok, List.map_toArray, List.map_cons, List.map_nil, h1, h2.1, hrun]
 have hl : (s.data.toList.flatMap fun b : UInt8 => [DV.int .u8 (b.toNat : Int)]).length = s.size * c.sz := by rw [hcs, Nat.mul_one, b8e]; rfl
 rw [hcells, ← hcs] at g2
 exact c3W (js := []) (m := s.size) (us := s.data.toList.map fun b => Value.int .u8 (b.toNat : Int)) (ds := s.data.toList.flatMap fun b : UInt8 => [DV.int .u8 (b.toNat : Int)]) (f2 := []) hd (by simpa [Nat.blt_eq] using hnt) hr hk hE' (by simp) (by simp) hl (b1F w _) (by simp) (by simp) e3 h5 h6 h8 g2 g3 g4 (fun L' a' w' h => hK L' _ _ _ (by rw [hcs]) h)
theorem b8I {t ty : TypeId} {K J : List Nat} {k : IntKind} {m n : Int} (ho : o.op = .binOp .mul t x y ty) (hx : Ev P C nt σ x (.one (.dv K (.int k m)))) (hy : Ev P C nt σ y (.one (.dv J (.int k n)))) (h : InR k (m * n)) : Pu P C nt o σ (.one (.dv [] (.int k (m * n)))) [] [] := by
 have := c3N ho hx hy
 rwa [b1l h] at this
/-! slices with several elements -/
def a5Z (P : Program) (C : Ctx) (nt : Nat) (σ : St) (sz : Nat) : Nat → List (Nat × Operand) → List CV → Prop
 | _, [], cs => cs = []
 | i, (j, x) :: ps, cs => ∃ v p cs', j = i ∧ Ev P C nt σ x v ∧ v.part = some p ∧ a1v σ v = true ∧ p.2.length = sz ∧ cs = p.2 ++ cs' ∧ a5Z P C nt σ sz (i + 1) ps cs'
theorem a4f {sz i : Nat} : a5Z P C nt σ sz i [] [] := rfl
theorem a1y {sz i : Nat} {v : SV} {p : Bool × List CV} {ps : List (Nat × Operand)} {cs' : List CV} (hx : Ev P C nt σ x v) (hp : v.part = some p) (hk : a1v σ v = true) (hl : p.2.length = sz) (h : a5Z P C nt σ sz (i + 1) ps cs') : a5Z P C nt σ sz i ((i, x) :: ps) (p.2 ++ cs') := ⟨v, p, cs', rfl, hx, hp, hk, hl, rfl, h⟩
theorem b5V (hr : Rel P C nt L σ a w) {sz : Nat} : ∀ {ps : List (Nat × Operand)} {i : Nat} {cs : List CV} {done rest : List Value}, a5Z P C nt σ sz i ps cs → done.length = i * sz → rest.length = ps.length * sz →
  ∃ us, Instr.fill (fun i => some (i * sz, sz)) (done ++ rest).toArray (ps.map fun q => (q.1, a.eval q.2)) = some (done ++ us).toArray ∧ CVL C L w cs us
 | [], i, cs, done, rest, h, hd, hl => by
  simp only [a5Z] at h; subst h
  have : rest = [] := List.eq_nil_of_length_eq_zero (by simpa using hl)
  subst this
  exact ⟨[], rfl, rfl⟩
 | (j, x) :: ps, i, cs, done, rest, ⟨v, p, cs', e, h1, h2, h3, h4, h5, h6⟩, hd, hl => by
  subst e; subst h5
  obtain ⟨xs, k1, k2, k3⟩ := a5p hr h2 h3 (h1.run L a w hr)
  have hxl : xs.length = sz := by rw [a3j k2]; exact h4
  rw [List.length_cons, Nat.add_mul, Nat.one_mul] at hl
  obtain ⟨us, g1, g2⟩ := b5V hr (done := done ++ xs) (rest := rest.drop sz) h6 (by rw [List.length_append, hd, hxl, Nat.add_mul, Nat.one_mul]) (by rw [List.length_drop]; omega)
  refine ⟨xs ++ us, ?_, b0v k2 g2⟩
  rw [List.map_cons, b3E (off := j * sz) (sz := sz) rfl k1 hxl (by rw [List.length_append]; omega)]
  have e : a1a (j * sz) xs (done ++ rest) = done ++ xs ++ rest.drop sz := by
   unfold a1a
   rw [← hd, List.take_left, hxl, List.drop_append]
   simp
  rw [e, g1, List.append_assoc]
theorem c0t (hT : TTOk P T) {t e sz by_ d k n : Nat} {zc cs : List CV} {ds : List DV} {js : List Nat} {ps : List (Nat × Operand)} (ho : o.op = .buildSlice t n ps.toArray) (hd : o.dst = some d) (hn : Nat.blt d nt = true) (ht : look T.sl t = some e) (he : look T.el e = some (sz, by_, zc)) (hl0 : zc.length = sz) (hsz : Nat.blt 0 sz = true) (hsm : Nat.ble (n * sz) 16777216 = true) (hps : ps.length = n) (hn0 : Nat.blt 0 n = true)
  (hx : a5Z P C nt σ sz 0 ps cs) (how : a3Z σ cs ds js) (hnj : js.Nodup) (hkj : k ∉ js) (hcl : cs.length = n * sz) (hk : lkk σ k = none) :
  EfG P C nt o σ (fun σ' => σ' = (St.mut { σ with ks := (k, some ⟨false, e, sz, 0, []⟩) :: σ.ks } k js false ⟨false, e, sz, n, ds⟩).put d (.one (.key k))) := EfG.mk fun L a w hr K Q hK => by
 have hpos : 0 < sz := by simpa [Nat.blt_eq] using hsz
 have hnp : 0 < n := by simpa [Nat.blt_eq] using hn0
 have hsm' : n * sz ≤ 16777216 := by simpa [Nat.ble_eq] using hsm
 obtain ⟨inf, z, g1, g2, g3, g4, g5⟩ := hT.el e sz by_ zc he
 obtain ⟨us, f1, h2⟩ := b5V hr (sz := sz) (done := []) (rest := ((List.range (n * sz)).map fun j => z.cells[j % z.cells.size]!)) hx (by simp) (by simp [hps])
 have hus : us.length = n * sz := by rw [a3j h2]; exact hcl
 obtain ⟨o1, o2, o3⟩ := a7X hr how h2
 have hchg : Chg [] w (w.alloc (.cells us.toArray e)) := (Chg.refl [] w).alloc _
 have hr1 := hr.newkey (k := k) (c := ⟨false, e, sz, 0, []⟩) (v := .slice none 0 0) (f := []) hk (a7J w e sz hpos) rfl (by simp) (by simp) (by simp) (by simp)
 have hlj : ∀ j ∈ js, (lkk { σ with ks := (k, some ⟨false, e, sz, 0, []⟩) :: σ.ks } j).isSome = true := fun j hj => by
  have hjk : j ≠ k := fun e' => hkj (by rw [← e']; exact hj)
  have := o2 j hj
  simp only [lkk, a0U, if_neg hjk] at this ⊢
  exact this
 have hlt : ∀ b ∈ js.flatMap L.fp, b < w.heap.size := a5b _ _ _ o1
 have o1' : a0I (w.alloc (.cells us.toArray e)) ds us (js.flatMap L.fp) := a3h _ _ _ o1 (fun b hb => hchg.block b (hlt b hb) (by simp))
 have hset := hr1.setkey (k := k) (c := ⟨false, e, sz, 0, []⟩) (c' := ⟨false, e, sz, n, ds⟩) (js := js) (same := false) (w' := w.alloc (.cells us.toArray e)) (v' := .slice (some ⟨w.heap.size, 0, none⟩) n n) (f' := w.heap.size :: js.flatMap L.fp)
  (by simp [lkk, a0U]) hkj (by simpa using hchg)
  (by
   unfold Own
   have hnm : n ≤ maxLen := by
    have : n * 1 ≤ n * sz := Nat.mul_le_mul_left _ hpos
    simp only [maxLen]; omega
   refine ⟨us, js.flatMap L.fp, rfl, hpos, by rw [o3, hcl], a3T (hT.lt e _ he) ⟨hus, .inr ⟨w.heap.size, n, us.toArray, rfl, Nat.zero_le _, a9W w _, Nat.le_refl _, hnm, by simp [hus], by rw [← hus]; simp⟩⟩, o1'⟩)
  (by
   rw [List.nodup_cons]
   exact ⟨fun hm => absurd (hlt _ hm) (by omega), b0n hr hnj o2⟩)
  (fun b hb => by
   rcases List.mem_cons.1 hb with hb | hb
   ·exact .inr (.inr (by omega))
   ·obtain ⟨j, hj, hb'⟩ := List.mem_flatMap.1 hb
    have hjk : j ≠ k := fun e' => hkj (by rw [← e']; exact hj)
    exact .inr (.inl ⟨j, hj, by simpa [hjk] using hb'⟩)) hlj (by simp) (by simp)
 have hrun : (Instr.buildSlice t n (ps.map fun q => (q.1, a.eval q.2)).toArray).run P w = .ok (.slice (some ⟨w.heap.size, 0, none⟩) n n) (w.alloc (.cells us.toArray e)) := by
  refine run_buildSlice w t e n _ us.toArray inf z (hT.sl t e ht) g1 g4 (by rw [g2]; omega) (by rw [g2]; have := Nat.mul_pos hnp hpos; omega) ?_
  rw [g2]
  have e1 : ((Array.range (n * sz)).map fun j => z.cells[j % z.cells.size]!) = (((List.range (n * sz)).map fun j => z.cells[j % z.cells.size]!)).toArray := by
   apply Array.ext'
   simp
  rw [e1]
  simpa using f1
 refine a5c (v := .slice (some ⟨w.heap.size, 0, none⟩) n n) (w' := w.alloc (.cells us.toArray e)) ?_ ?_
 ·unfold execOp
  simp only [ho, List.map_toArray, hrun, Sem.run_bind, Result.andThen_ok, Sem.run_pure]
 ·rw [hd]
  refine hK _ _ _ _ rfl (hset.put (v := .one (.key k)) (r := .slice (some ⟨w.heap.size, 0, none⟩) n n) (by simpa [Nat.blt_eq] using hn) (by simp [SVr, CVr]) (by simp [SV.keys, CV.keys, a6j]) (by simp [SV.boxes])) ⟨hchg, fun i c hc => ?_, fun _ _ _ => rfl⟩
  have : i ≠ k := fun e => by rw [e, hk] at hc; cases hc
  simp [this]
end
section
variable {P : Program} {C : Ctx} {nt : Nat} {o : Oper} {x y : Operand} {T : TT} {Q : Exit → St → Prop} {all : Array Oper} {rest : List Oper} {tm : List (Nat × SV)} {bx : List (Nat × TypeId × List CV)} {ks : List (Nat × Option KC)}
theorem b6k (hT : TTOk P T) {t u e d k : Nat} {q : Unit} {c : KC} {J : List Nat} {s : ByteArray} {cs : List DV} (hg : o.guard = none) (hd : o.dst = some d) (ho : o.op = .call { callee := .builtin .append, args := #[x, y], argTypes := #[t, u] }) (hnt : Nat.blt d nt = true) (ht : look T.sl t = some e) (hu : look T.st u = some q) (hinfo : (P.info? e).map (fun i => (i.zero, i.size, i.bytes)) = some (some (.int .u8 0), 1, 1)) (he : Nat.blt e 1000000 = true)
  (hx : Ev P C nt ⟨tm, bx, ks⟩ x (.one (.key k))) (hk : lkk ⟨tm, bx, ks⟩ k = some c) (hce : c.e = e) (hcs : c.sz = 1) (hy : Ev P C nt ⟨tm, bx, ks⟩ y (.one (.dv J (.str s)))) (hb : c.n + s.size ≤ 140737488355328) {n : Nat} (hn : c.n + s.size = n) (hcc : (c.cs ++ s.data.toList.flatMap fun b : UInt8 => [DV.int .u8 (b.toNat : Int)]) = cs)
  (h : Ops P C nt Q all rest ⟨(d, .one (.key k)) :: a0l [k] [k] tm, a0j [k] [k] bx, (k, some ⟨false, e, 1, n, cs⟩) :: ks⟩) : Ops P C nt Q all (o :: rest) ⟨tm, bx, ks⟩ :=
 a3x hg (c4C hT ho hd hnt ht hu hinfo he hx hk hce hcs hy hb) (by subst hn; subst hcc; exact h)
end
section
variable {P : Program} {C : Ctx} {nt : Nat} {o : Oper} {x y : Operand} {T : TT} {Q : Exit → St → Prop} {all : Array Oper} {tm : List (Nat × SV)} {bx : List (Nat × TypeId × List CV)} {ks : List (Nat × Option KC)} {oB oK : List Nat} {hd' : Nat → Bool} {listed : Array Bool} {fuel : Nat}
theorem a6a (i : Nat) (hT : TTOk P T) {s t e d k : Nat} {u : Unit} {J : List Nat} {v : ByteArray} (hi : all[i]? = some o) (hy : (Region.ready .any all listed == [i]) = true) (hg : o.guard = none) (hd : o.dst = some d) (ho : o.op = .convert s t x) (hn : Nat.blt d nt = true) (hs : look T.st s = some u) (ht : look T.sl t = some e) (he : look T.it e = some .u8)
  (hx : Ev P C nt ⟨tm, bx, ks⟩ x (.one (.dv J (.str v)))) (hk : lkk ⟨tm, bx, ks⟩ k = none) (hb : (oB.all fun i => (look bx i).isSome) = true) (hk' : (oK.all fun k => (lkk ⟨tm, bx, ks⟩ k).isSome) = true)
  (h : OpsD P C nt Q all oB oK hd' (listed.setIfInBounds i true) fuel ⟨(d, .one (.key k)) :: tm, bx, (k, some ⟨false, 1000005, 1, v.data.toList.length, v.data.toList.flatMap fun b : UInt8 => [DV.int .u8 (b.toNat : Int)]⟩) :: ks⟩) : OpsD P C nt Q all oB oK hd' listed (fuel + 1) ⟨tm, bx, ks⟩ :=
 b0w i hi hy hg (b3X hT ho hd hn hs ht he hx hk) hb hk' fun σ' e => by rw [e]; exact h
theorem a4J (i : Nat) (hT : TTOk P T) {t e sz by_ d k n : Nat} {zc cs : List CV} {ds : List DV} {js : List Nat} {ps : List (Nat × Operand)} (hi : all[i]? = some o) (hy : (Region.ready .any all listed == [i]) = true) (hg : o.guard = none) (hd : o.dst = some d) (ho : o.op = .buildSlice t n ps.toArray) (hn : Nat.blt d nt = true) (ht : look T.sl t = some e) (he : look T.el e = some (sz, by_, zc)) (hl0 : zc.length = sz) (hsz : Nat.blt 0 sz = true) (hsm : Nat.ble (n * sz) 16777216 = true) (hps : ps.length = n) (hn0 : Nat.blt 0 n = true)
  (hx : a5Z P C nt ⟨tm, bx, ks⟩ sz 0 ps cs) (how : a3Z ⟨tm, bx, ks⟩ cs ds js) (hnj : js.Nodup) (hkj : k ∉ js) (hcl : cs.length = n * sz) (hk : lkk ⟨tm, bx, ks⟩ k = none)
  (hb : (oB.all fun i => (look bx i).isSome) = true) (hk' : (oK.all fun k => (lkk ⟨tm, bx, ks⟩ k).isSome) = true)
  (h : OpsD P C nt Q all oB oK hd' (listed.setIfInBounds i true) fuel ⟨(d, .one (.key k)) :: a0l (k :: js) (k :: js) tm, a0j (k :: js) (k :: js) bx, (k, some ⟨false, e, sz, n, ds⟩) :: ((js.map fun j => (j, none)) ++ (k, some ⟨false, e, sz, 0, []⟩) :: ks)⟩) : OpsD P C nt Q all oB oK hd' listed (fuel + 1) ⟨tm, bx, ks⟩ :=
 b0w i hi hy hg (c0t hT ho hd hn ht he hl0 hsz hsm hps hn0 hx how hnj hkj hcl hk) hb hk' fun σ' e => by rw [e]; exact h
end
structure OpsJ (P : Program) (C : Ctx) (nt : Nat) (Q : Exit → St → Prop) (all : Array Oper) (oB oK : List Nat) (hd : Nat → Bool) (listed : Array Bool) (fuel : Nat) (i : Nat) (σ : St) : Prop where
 run : ∀ wb L a w, Rel P C nt L σ a w → SW wb w → C.w0.heap.size ≤ wb.heap.size → (∀ i ∈ oB, L.bb i < wb.heap.size) → (∀ k ∈ oK, ∀ b ∈ L.fp k, b < wb.heap.size) →
  wpOp P all (QQ P C nt Q) i (fun a' w' => (hd i = true → SW wb w') ∧ a2u P .any all (QQ P C nt Q) (SW wb) hd fuel (listed.setIfInBounds i true) a' w') a w
def b3f (P : Program) (C : Ctx) (nt : Nat) (Q : Exit → St → Prop) (all : Array Oper) (oB oK : List Nat) (hd : Nat → Bool) (listed : Array Bool) (fuel : Nat) (σ : St) : List Nat → Prop
 | [] => True
 | i :: is => OpsJ P C nt Q all oB oK hd listed fuel i σ ∧ b3f P C nt Q all oB oK hd listed fuel σ is
section
variable {P : Program} {C : Ctx} {nt : Nat} {Q : Exit → St → Prop} {all : Array Oper} {oB oK : List Nat} {listed : Array Bool} {fuel : Nat} {hd' : Nat → Bool} {tm : List (Nat × SV)} {bx : List (Nat × TypeId × List CV)} {ks : List (Nat × Option KC)} {o : Oper} {d : Nat} {v X : SV} {Ks Bs : List Nat} {g : Bool} {σ : St} {x : Operand} {T : TT}
theorem b6G : ∀ {is : List Nat}, b3f P C nt Q all oB oK hd' listed fuel σ is → ∀ i ∈ is, OpsJ P C nt Q all oB oK hd' listed fuel i σ
 | [], _, _, hi => by cases hi
 | j :: is, h, i, hi => by
  rcases List.mem_cons.1 hi with rfl | hi
  ·exact h.1
  ·exact b6G h.2 i hi
theorem a5z (i : Nat) (is : List Nat) (hr : (Region.ready .any all listed == i :: is) = true) (h : b3f P C nt Q all oB oK hd' listed fuel σ (i :: is)) : OpsD P C nt Q all oB oK hd' listed (fuel + 1) σ := ⟨fun wb L a w hrel hs hw hB hK => by
 have hr' : Region.ready .any all listed = i :: is := by simpa using hr
 refine ⟨fun h0 => (by rw [hr'] at h0; cases h0), fun j hj => ?_⟩
 rw [hr'] at hj
 exact (b6G h j hj).run wb L a w hrel hs hw hB hK⟩
theorem c0a (i : Nat) {R : St → Prop} (hi : all[i]? = some o) (hg : o.guard = none) (hp : EfG P C nt o ⟨tm, bx, ks⟩ R) (hb : (oB.all fun i => (look bx i).isSome) = true) (hk : (oK.all fun k => (lkk ⟨tm, bx, ks⟩ k).isSome) = true)
  (h : ∀ σ', R σ' → OpsD P C nt Q all oB oK hd' (listed.setIfInBounds i true) fuel σ') : OpsJ P C nt Q all oB oK hd' listed fuel i ⟨tm, bx, ks⟩ := ⟨fun wb L a w hr hs hw hB hK => by
 unfold wpOp
 simp only [hi]
 have hw' : Region.wanted o (yielded all a.tmps) = true := by simp [Region.wanted, hg]
 rw [if_pos hw']
 refine .inl (hp.run L a w hr _ _ fun L' σ' a' w' h1 h2 h3 => ⟨fun _ => hs.chg h3.chg, (h σ' h1).run wb L' a' w' h2 (hs.chg h3.chg) hw (fun j hj => ?_) (fun k hk' => ?_)⟩)
 ·obtain ⟨x, hx⟩ := Option.isSome_iff_exists.1 (List.all_eq_true.1 hb j hj)
  rw [h3.box j x hx]; exact hB j hj
 ·obtain ⟨c, hc⟩ := Option.isSome_iff_exists.1 (List.all_eq_true.1 hk k hk')
  rw [h3.key k c hc]; exact hK k hk'⟩
theorem a5W (m i : Nat) {f : FuncId} {xs : List Operand} {ats : Array TypeId} {us : List SV} {kk : List (Nat × Option KC)} (hi : all[i]? = some o) (hg : o.guard = none) (hd : o.dst = some d) (ho : o.op = .call { callee := .value (.func f), args := xs.toArray, argTypes := ats })
  (hc : ∀ (args : Array Value) (w : World), (callFunc f args).run P w = .ok (.enter f args) w) (hf : KFn P f us v kk) (ha : a2i P C nt ⟨tm, bx, ks⟩ xs us) (hn : Nat.blt d nt = true) (hres : v.retOk = true) (hfree : (kk.all fun q => (lkk ⟨tm, bx, ks⟩ (m + q.1)).isNone) = true)
  (hb : (oB.all fun i => (look bx i).isSome) = true) (hk : (oK.all fun k => (lkk ⟨tm, bx, ks⟩ k).isSome) = true)
  (h : OpsD P C nt Q all oB oK hd' (listed.setIfInBounds i true) fuel ⟨(d, v.sh m) :: tm, bx, shK m kk ++ ks⟩) : OpsJ P C nt Q all oB oK hd' listed fuel i ⟨tm, bx, ks⟩ :=
 c0a i hi hg (a9e (ι := Unit) (v := fun _ => v) (kk := fun _ => kk) (p := fun _ => True) m ho hd hn hc hf.ok ha (fun u σ' h => ⟨(), h.1, h.2, trivial⟩) (fun _ => hres) (fun _ => hfree)) hb hk fun σ' ⟨_, _, e⟩ => by rw [e]; exact h
theorem a4u (i : Nat) (hT : TTOk P T) {s t e d k : Nat} {u : Unit} {J : List Nat} {v : ByteArray} (hi : all[i]? = some o) (hg : o.guard = none) (hd : o.dst = some d) (ho : o.op = .convert s t x) (hn : Nat.blt d nt = true) (hs : look T.st s = some u) (ht : look T.sl t = some e) (he : look T.it e = some .u8)
  (hx : Ev P C nt ⟨tm, bx, ks⟩ x (.one (.dv J (.str v)))) (hk : lkk ⟨tm, bx, ks⟩ k = none) (hb : (oB.all fun i => (look bx i).isSome) = true) (hk' : (oK.all fun k => (lkk ⟨tm, bx, ks⟩ k).isSome) = true)
  (h : OpsD P C nt Q all oB oK hd' (listed.setIfInBounds i true) fuel ⟨(d, .one (.key k)) :: tm, bx, (k, some ⟨false, 1000005, 1, v.data.toList.length, v.data.toList.flatMap fun b : UInt8 => [DV.int .u8 (b.toNat : Int)]⟩) :: ks⟩) : OpsJ P C nt Q all oB oK hd' listed fuel i ⟨tm, bx, ks⟩ :=
 c0a i hi hg (b3X hT ho hd hn hs ht he hx hk) hb hk' fun σ' e => by rw [e]; exact h
inductive DSame : DV → DV → Prop where
 | refl (d : DV) : DSame d d
 | sl (e e' sz n : Nat) (cs cs' : List DV) (hl : cs.length = cs'.length) (h : ∀ (i : Nat) d d', cs[i]? = some d → cs'[i]? = some d' → DSame d d') : DSame (.sl e sz n cs) (.sl e' sz n cs')
theorem c6k {ok : Nat → Prop} {w : World} {d d' : DV} (h : DSame d d') : ∀ {v : Value}, Lay ok w d v → Lay ok w d' v := by
 induction h with
 | refl d => exact fun h => h
 | sl e e' sz n cs cs' hl h ih =>
  intro v hv
  simp only [Lay] at hv ⊢
  obtain ⟨A, c, vs, h1, h2, h3, h4, h5, h6, h7⟩ := hv
  refine ⟨A, c, vs, h1, h2, h3, h4, hl ▸ h5, ?_, h7⟩
  clear h5 h7 h1
  induction cs generalizing cs' vs with
  | nil =>
   cases cs' with
   | nil => exact h6
   | cons x xs => simp at hl
  | cons x xs ih2 =>
   cases cs' with
   | nil => simp at hl
   | cons y ys =>
    simp only [a1g] at h6 ⊢
    obtain ⟨v, vs', rfl, k1, k2⟩ := h6
    exact ⟨v, vs', rfl, ih 0 x y rfl rfl k1, ih2 ys (by simpa using hl) (fun i d d' hd hd' => h (i + 1) d d' (by simpa using hd) (by simpa using hd')) (fun i d d' hd hd' => ih (i + 1) d d' (by simpa using hd) (by simpa using hd')) vs' k2⟩
def a7x : List DV → List DV → Prop
 | [], [] => True
 | d :: ds, d' :: ds' => DSame d d' ∧ a7x ds ds'
 | _, _ => False
theorem b4Q : ∀ {cs cs' : List DV}, a7x cs cs' → cs.length = cs'.length
 | [], [], _ => rfl
 | _ :: _, _ :: _, h => by simp [b4Q h.2]
 | [], _ :: _, h => h.elim
 | _ :: _, [], h => h.elim
theorem b5R : ∀ {cs cs' : List DV}, a7x cs cs' → ∀ (i : Nat) d d', cs[i]? = some d → cs'[i]? = some d' → DSame d d'
 | [], [], _, i, _, _, h, _ => by simp at h
 | x :: xs, y :: ys, h, 0, d, d', h1, h2 => by
  simp only [List.getElem?_cons_zero, Option.some.injEq] at h1 h2
  rw [← h1, ← h2]; exact h.1
 | x :: xs, y :: ys, h, i + 1, d, d', h1, h2 => b5R h.2 i d d' (by simpa using h1) (by simpa using h2)
 | [], _ :: _, h, _, _, _, _, _ => h.elim
 | _ :: _, [], h, _, _, _, _, _ => h.elim
theorem c0L {e e' sz n : Nat} {cs cs' : List DV} (h : a7x cs cs') : DSame (.sl e sz n cs) (.sl e' sz n cs') := .sl e e' sz n cs cs' (b4Q h) (b5R h)
theorem b0J {e e' sz n : Nat} {cs : List DV} : DSame (.sl e sz n cs) (.sl e' sz n cs) := .sl e e' sz n cs cs rfl (fun i d d' h1 h2 => by rw [h1] at h2; cases h2; exact .refl d)
theorem c3C : a7x [] [] := trivial
theorem b0K {d d' : DV} {ds ds' : List DV} (h : DSame d d') (h2 : a7x ds ds') : a7x (d :: ds) (d' :: ds') := ⟨h, h2⟩
theorem c7P {d k : Nat} {c : KC} {dd : DV} (hd : look σ.tm d = some (.one (.key k))) (hk : lkk σ k = some c) (hs : DSame (.sl c.e c.sz c.n c.cs) dd) : Weak P C nt σ (σ.put d (.one (.dv [k] dd))) := Weak.mk fun L a w hr => by
 have hv := hr.tm d _ hd
 simp only [SVr, CVr] at hv
 have h1 := c6k hs (a4Q (ok := okB C L [k]) _ _ _ (hr.ks k c hk).1 (fun b hb => .inr ⟨k, by simp, hb⟩))
 exact ⟨_, hr.also (v := .one (.dv [k] dd)) (by simp only [SVr, CVr]; rw [hv]; exact h1) (by simp [SV.keys, CV.keys, hk]) (by simp [SV.boxes])⟩
theorem a5O {c c' : Code} {σ' : St} (h1 : Ok P C nt (a5h (fun τ => Weak P C nt τ σ') Q) c σ) (h2 : Ok P C nt Q c' σ') : Ok P C nt Q (.seq c c') σ :=
 a0q ⟨fun L a w hr => wp_mono (h1.run L a w hr) (b6x fun e τ hq => by
  cases e with
  | normal => exact a0h hq h2
  | _ => exact hq)⟩
end
structure OpsN (P : Program) (C : Ctx) (nt : Nat) (Q : Exit → St → Prop) (all : Array Oper) (oB oK nK : List Nat) (hd : Nat → Bool) (listed : Array Bool) (fuel : Nat) (σ : St) : Prop where
 run : ∀ wb L a w, Rel P C nt L σ a w → SW wb w → C.w0.heap.size ≤ wb.heap.size → (∀ i ∈ oB, L.bb i < wb.heap.size) → (∀ k ∈ oK, ∀ b ∈ L.fp k, b < wb.heap.size) → (∀ k ∈ nK, ∀ b ∈ L.fp k, wb.heap.size ≤ b) →
  a2u P .any all (QQ P C nt Q) (SW wb) hd fuel listed a w
structure OpsNJ (P : Program) (C : Ctx) (nt : Nat) (Q : Exit → St → Prop) (all : Array Oper) (oB oK nK : List Nat) (hd : Nat → Bool) (listed : Array Bool) (fuel : Nat) (i : Nat) (σ : St) : Prop where
 run : ∀ wb L a w, Rel P C nt L σ a w → SW wb w → C.w0.heap.size ≤ wb.heap.size → (∀ i ∈ oB, L.bb i < wb.heap.size) → (∀ k ∈ oK, ∀ b ∈ L.fp k, b < wb.heap.size) → (∀ k ∈ nK, ∀ b ∈ L.fp k, wb.heap.size ≤ b) →
  wpOp P all (QQ P C nt Q) i (fun a' w' => (hd i = true → SW wb w') ∧ a2u P .any all (QQ P C nt Q) (SW wb) hd fuel (listed.setIfInBounds i true) a' w') a w
def b4p (P : Program) (C : Ctx) (nt : Nat) (Q : Exit → St → Prop) (all : Array Oper) (oB oK nK : List Nat) (hd : Nat → Bool) (listed : Array Bool) (fuel : Nat) (σ : St) : List Nat → Prop
 | [] => True
 | i :: is => OpsNJ P C nt Q all oB oK nK hd listed fuel i σ ∧ b4p P C nt Q all oB oK nK hd listed fuel σ is
structure EfN (P : Program) (C : Ctx) (nt : Nat) (o : Oper) (σ : St) (k : Nat) (R : St → Prop) : Prop where
 run : ∀ L a w, Rel P C nt L σ a w → ∀ K Q, (∀ L' σ' a' w', R σ' → Rel P C nt L' σ' a' w' → Gr σ L L' w w' → (∀ b ∈ L'.fp k, w.heap.size ≤ b) → K a' w') → o.wp P a w K Q
section
variable {P : Program} {C : Ctx} {nt : Nat} {Q : Exit → St → Prop} {all : Array Oper} {oB oK nK : List Nat} {listed : Array Bool} {fuel : Nat} {hd' : Nat → Bool} {tm : List (Nat × SV)} {bx : List (Nat × TypeId × List CV)} {ks : List (Nat × Option KC)} {o : Oper} {d : Nat} {v X : SV} {Ks Bs : List Nat} {σ : St} {x y : Operand} {T : TT}
theorem b4e (h : OpsN P C nt Q all oB oK [] hd' listed fuel σ) : OpsD P C nt Q all oB oK hd' listed fuel σ := ⟨fun wb L a w hr hs hw hB hK => h.run wb L a w hr hs hw hB hK (by simp)⟩
theorem b9L : ∀ {is : List Nat}, b4p P C nt Q all oB oK nK hd' listed fuel σ is → ∀ i ∈ is, OpsNJ P C nt Q all oB oK nK hd' listed fuel i σ
 | [], _, _, hi => by cases hi
 | j :: is, h, i, hi => by
  rcases List.mem_cons.1 hi with rfl | hi
  ·exact h.1
  ·exact b9L h.2 i hi
theorem a2e (i : Nat) (is : List Nat) (hr : (Region.ready .any all listed == i :: is) = true) (h : b4p P C nt Q all oB oK nK hd' listed fuel σ (i :: is)) : OpsN P C nt Q all oB oK nK hd' listed (fuel + 1) σ := ⟨fun wb L a w hrel hs hw hB hK hN => by
 have hr' : Region.ready .any all listed = i :: is := by simpa using hr
 refine ⟨fun h0 => (by rw [hr'] at h0; cases h0), fun j hj => ?_⟩
 rw [hr'] at hj
 exact (b9L h j hj).run wb L a w hrel hs hw hB hK hN⟩
theorem a5x (i : Nat) (hi : all[i]? = some o) (ht : a5m .any all hd' listed i = true) (hg : o.guard = none) (hd : o.dst = some d) (hp : Pu P C nt o ⟨tm, bx, ks⟩ v Ks Bs) (h1 : (Ks.all fun k => oK.contains k) = true) (h2 : (Bs.all fun k => oB.contains k) = true) (hn : Nat.blt d nt = true) (hk : a1v ⟨tm, bx, ks⟩ v = true)
  (h : OpsN P C nt Q all oB oK nK hd' (listed.setIfInBounds i true) fuel ⟨(d, v) :: tm, bx, ks⟩) : OpsN P C nt Q all oB oK nK hd' listed (fuel + 1) ⟨tm, bx, ks⟩ := ⟨fun wb L a w hr hs hw hB hK hN => by
 obtain ⟨r, h3, h4⟩ := b0L hr hs hw hB hK hp h1 h2
 refine a7g i (v := r) hi ht (fun _ _ _ h => h) hs (.inl ⟨by simp [Region.wanted, hg], h4⟩) ?_
 rw [hd]
 exact h.run wb L _ w (hr.put (by simpa [Nat.blt_eq] using hn) h3 (a2d hk).1 (a2d hk).2) hs hw hB hK hN⟩
theorem b1a (i : Nat) (hi : all[i]? = some o) (hg : o.guard = none) (h : ∀ wb L a w, Rel P C nt L σ a w → SW wb w → C.w0.heap.size ≤ wb.heap.size → (∀ i ∈ oB, L.bb i < wb.heap.size) → (∀ k ∈ oK, ∀ b ∈ L.fp k, b < wb.heap.size) → (∀ k ∈ nK, ∀ b ∈ L.fp k, wb.heap.size ≤ b) →
   o.wp P a w (fun a' w' => (hd' i = true → SW wb w') ∧ a2u P .any all (QQ P C nt Q) (SW wb) hd' fuel (listed.setIfInBounds i true) a' w') (QQ P C nt Q)) : OpsNJ P C nt Q all oB oK nK hd' listed fuel i σ := ⟨fun wb L a w hr hs hw hB hK hN => by
 unfold wpOp
 simp only [hi]
 have hw' : Region.wanted o (yielded all a.tmps) = true := by simp [Region.wanted, hg]
 rw [if_pos hw']
 exact .inl (h wb L a w hr hs hw hB hK hN)⟩
theorem b9q (i : Nat) {R : St → Prop} (hi : all[i]? = some o) (hg : o.guard = none) (hp : EfG P C nt o ⟨tm, bx, ks⟩ R) (hb : (oB.all fun i => (look bx i).isSome) = true) (hk : (oK.all fun k => (lkk ⟨tm, bx, ks⟩ k).isSome) = true) (hn : (nK.all fun k => (lkk ⟨tm, bx, ks⟩ k).isSome) = true)
  (h : ∀ σ', R σ' → OpsN P C nt Q all oB oK nK hd' (listed.setIfInBounds i true) fuel σ') : OpsNJ P C nt Q all oB oK nK hd' listed fuel i ⟨tm, bx, ks⟩ :=
 b1a i hi hg fun wb L a w hr hs hw hB hK hN => hp.run L a w hr _ _ fun L' σ' a' w' h1 h2 h3 => ⟨fun _ => hs.chg h3.chg, (h σ' h1).run wb L' a' w' h2 (hs.chg h3.chg) hw
  (fun j hj => by
   obtain ⟨x, hx⟩ := Option.isSome_iff_exists.1 (List.all_eq_true.1 hb j hj)
   rw [h3.box j x hx]; exact hB j hj)
  (fun k hk' => by
   obtain ⟨c, hc⟩ := Option.isSome_iff_exists.1 (List.all_eq_true.1 hk k hk')
   rw [h3.key k c hc]; exact hK k hk')
  (fun k hk' => by
   obtain ⟨c, hc⟩ := Option.isSome_iff_exists.1 (List.all_eq_true.1 hn k hk')
   rw [h3.key k c hc]; exact hN k hk')⟩
theorem a8N (i : Nat) (hT : TTOk P T) {t d sz by_ : Nat} {zc : List CV} (hi : all[i]? = some o) (hg : o.guard = none) (hd : o.dst = some d) (ho : o.op = .alloc t) (ht : look T.el t = some (sz, by_, zc)) (hn : Nat.blt d nt = true) (hx : look bx d = none)
  (hb : (oB.all fun i => (look bx i).isSome) = true) (hk : (oK.all fun k => (lkk ⟨tm, bx, ks⟩ k).isSome) = true) (hn' : (nK.all fun k => (lkk ⟨tm, bx, ks⟩ k).isSome) = true)
  (h : OpsN P C nt Q all oB oK nK hd' (listed.setIfInBounds i true) fuel ⟨(d, .box d 0) :: tm, (d, t, zc) :: bx, ks⟩) : OpsNJ P C nt Q all oB oK nK hd' listed fuel i ⟨tm, bx, ks⟩ :=
 b9q i hi hg (b3W hT ho hd hn ht hx) hb hk hn' fun σ' e => by rw [e]; exact h
theorem c6i (hT : TTOk P T) {t e sz by_ d k : Nat} {zc : List CV} (ho : o.op = .buildSlice t 0 #[]) (hd : o.dst = some d) (hn : Nat.blt d nt = true) (ht : look T.sl t = some e) (he : look T.el e = some (sz, by_, zc)) (hsz : Nat.blt 0 sz = true) (hk : lkk σ k = none) :
  EfN P C nt o σ k (fun σ' => σ' = { σ with ks := (k, some ⟨false, e, sz, 0, []⟩) :: σ.ks }.put d (.one (.key k))) := EfN.mk fun L a w hr K Q hK => by
 have hpos : 0 < sz := by simpa [Nat.blt_eq] using hsz
 have hchg : Chg [] w (w.alloc (.cells #[] e)) := (Chg.refl [] w).alloc _
 refine a5c (v := .slice (some ⟨w.heap.size, 0, none⟩) 0 0) (w' := w.alloc (.cells #[] e)) ?_ ?_
 ·unfold execOp
  simp only [ho, List.map_toArray, List.map_nil, b8u (P := P) (w := w) hT ht he, Sem.run_bind, Result.andThen_ok, Sem.run_pure]
 ·have hb := hr.newkey' hchg (c := ⟨false, e, sz, 0, []⟩) (v := .slice (some ⟨w.heap.size, 0, none⟩) 0 0) (f := [w.heap.size]) hk
   (by
    unfold Own
    exact ⟨[], [], rfl, hpos, by simp, a3T (hT.lt e _ he) ⟨by simp, .inr ⟨w.heap.size, 0, #[], rfl, Nat.zero_le _, a9W w _, Nat.le_refl _, Nat.zero_le _, by simp, by simp⟩⟩, by simp [a0I]⟩) rfl (by simp) (by simp)
  refine hK { L with fp := fun j => if j = k then [w.heap.size] else L.fp j, rv := fun j => if j = k then .slice (some ⟨w.heap.size, 0, none⟩) 0 0 else L.rv j } _ _ _ rfl (by rw [hd]; exact hb.put (v := .one (.key k)) (r := .slice (some ⟨w.heap.size, 0, none⟩) 0 0) (by simpa [Nat.blt_eq] using hn) (by simp [SVr, CVr]) (by simp [SV.keys, CV.keys, lkk, a0U]) (by simp [SV.boxes])) ⟨hchg, fun i c hc => ?_, fun _ _ _ => rfl⟩ (by simp)
  have : i ≠ k := fun e => by rw [e, hk] at hc; cases hc
  simp [this]
theorem a8W (i : Nat) (hT : TTOk P T) {t e sz by_ d k : Nat} {zc : List CV} (hi : all[i]? = some o) (hg : o.guard = none) (hd : o.dst = some d) (ho : o.op = .buildSlice t 0 #[]) (hn : Nat.blt d nt = true) (ht : look T.sl t = some e) (he : look T.el e = some (sz, by_, zc)) (hsz : Nat.blt 0 sz = true) (hk : lkk ⟨tm, bx, ks⟩ k = none)
  (hb : (oB.all fun i => (look bx i).isSome) = true) (hk' : (oK.all fun k => (lkk ⟨tm, bx, ks⟩ k).isSome) = true) (hn' : (nK.all fun k => (lkk ⟨tm, bx, ks⟩ k).isSome) = true)
  (h : OpsN P C nt Q all oB oK (k :: nK) hd' (listed.setIfInBounds i true) fuel ⟨(d, .one (.key k)) :: tm, bx, (k, some ⟨false, e, sz, 0, []⟩) :: ks⟩) : OpsNJ P C nt Q all oB oK nK hd' listed fuel i ⟨tm, bx, ks⟩ :=
 b1a i hi hg fun wb L a w hr hs hw hB hK hN => (c6i hT ho hd hn ht he hsz hk).run L a w hr _ _ fun L' σ' a' w' h1 h2 h3 h4 => ⟨fun _ => hs.chg h3.chg, h.run wb L' a' w' (by rw [h1] at h2; exact h2) (hs.chg h3.chg) hw
  (fun j hj => by
   obtain ⟨x, hx⟩ := Option.isSome_iff_exists.1 (List.all_eq_true.1 hb j hj)
   rw [h3.box j x hx]; exact hB j hj)
  (fun j hj => by
   obtain ⟨c, hc⟩ := Option.isSome_iff_exists.1 (List.all_eq_true.1 hk' j hj)
   rw [h3.key j c hc]; exact hK j hj)
  (fun j hj => by
   rcases List.mem_cons.1 hj with rfl | hj
   ·exact fun b hb' => Nat.le_trans hs.1 (h4 b hb')
   ·obtain ⟨c, hc⟩ := Option.isSome_iff_exists.1 (List.all_eq_true.1 hn' j hj)
    rw [h3.key j c hc]; exact hN j hj)⟩
theorem a4c (i : Nat) (hT : TTOk P T) {t e sz by_ d k m : Nat} {zc : List CV} {c : KC} {J : List Nat} {e2 : Nat} {ds cs : List DV} (hi : all[i]? = some o) (hg : o.guard = none) (hd : o.dst = some d) (ho : o.op = .call { callee := .builtin .append, args := #[x, y], argTypes := #[t, t] }) (hnt : Nat.blt d nt = true) (ht : look T.sl t = some e) (he : look T.el e = some (sz, by_, zc)) (hl0 : zc.length = sz)
  (hx : Ev P C nt ⟨tm, bx, ks⟩ x (.one (.key k))) (hk : lkk ⟨tm, bx, ks⟩ k = some c) (hce : c.e = e) (hcs : c.sz = sz) (hy : Ev P C nt ⟨tm, bx, ks⟩ y (.one (.dv J (.sl e2 sz m ds)))) (hp : ds.all DV.plain = true) (hb : (c.n + m) * by_ ≤ 140737488355328) (h63 : c.n + m ≤ 9223372036854775807) {n : Nat} (hn : c.n + m = n) (hcc : c.cs ++ ds = cs)
  (hkn : nK.contains k = true) (hko : oK.contains k = false)
  (h : OpsN P C nt Q all oB oK nK hd' (listed.setIfInBounds i true) fuel ⟨(d, .one (.key k)) :: a0l [k] [k] tm, a0j [k] [k] bx, (k, some ⟨false, e, sz, n, cs⟩) :: ks⟩) : OpsNJ P C nt Q all oB oK nK hd' listed fuel i ⟨tm, bx, ks⟩ :=
 b1a i hi hg fun wb L a w hr hs hw hB hK hN => by
  have h1 := hx.run L a w hr
  have h2 := hy.run L a w hr
  simp only [SVr, CVr] at h1 h2
  obtain ⟨A, cap, vs, e1, hrow, hlay⟩ := b3L h2
  subst hn; subst hcc
  have hkn' : k ∈ nK := by simpa using hkn
  refine c0m hT ho hd (by simpa [Nat.blt_eq] using hnt) ht he hl0 hr hk hce hcs h1 e1 (js := []) (by simp) (by simp) hrow (b3A hp hlay) (by simp) (by simp) (by simpa [maxLen] using h63) hb (fun L' a' w' hr' hf => ?_)
  have hs' : SW wb w' := ⟨Nat.le_trans hs.1 hf.chg.size, fun b hb' => (hf.chg.block b (Nat.lt_of_lt_of_le hb' hs.1) (fun hm => absurd (hN k hkn' b hm) (by omega))).trans (hs.2 b hb')⟩
  exact ⟨fun _ => hs', h.run wb L' a' w' hr' hs' hw (fun j hj => by rw [hf.bb]; exact hB j hj)
   (fun j hj => by
    have hjk : j ≠ k := fun e => by rw [e] at hj; rw [List.contains_iff_mem.2 hj] at hko; cases hko
    rw [hf.fp j hjk]; exact hK j hj)
   (fun j hj b hb' => by
    by_cases hjk : j = k
    ·subst hjk
     rcases hf.new b hb' with h5 | ⟨q, hq, _⟩ | h5
     ·exact hN j hj b h5
     ·simp at hq
     ·exact Nat.le_trans hs.1 h5
    ·rw [hf.fp j hjk] at hb'; exact hN j hj b hb')⟩
theorem a5V (i : Nat) {σ₁ : St} (hi : all[i]? = some o) (hg : o.guard = none) (hh : hd' i = false) (hp : Ef P C nt o ⟨tm, bx, ks⟩ (fun σ' => σ' = σ₁)) (he : (Region.ready .any all (listed.setIfInBounds i true)).isEmpty = true)
  (h : Q .normal σ₁) : OpsNJ P C nt Q all oB oK nK hd' listed fuel i ⟨tm, bx, ks⟩ :=
 b1a i hi hg fun wb L a w hr hs hw hB hK hN => hp.run L a w hr _ _ fun L' σ' a' w' h1 h2 => ⟨fun e => absurd e (by rw [hh]; simp), b1v he ⟨L', σ', h2, by rw [h1]; exact h⟩ fuel⟩
end
section
variable {P : Program} {C : Ctx} {nt : Nat} {σ : St} {o : Oper} {x y : Operand}
end
section
variable {P : Program} {C : Ctx} {nt : Nat} {σ : St} {L : Lyt} {a : Act} {w : World} {o : Oper} {x y u : Operand} {T : TT}
theorem b4P (hr : Rel P C nt L σ a w) {k : Nat} {c : KC} (hk : lkk σ k = some c) : (L.rv k = .slice none 0 0 ∧ c.n = 0) ∨ ∃ g cap, L.rv k = .slice (some ⟨g, 0, none⟩) c.n cap ∧ c.n ≤ cap := by
 have ho := (hr.ks k c hk).1
 simp only [Own] at ho
 obtain ⟨vs, f, _, _, _, q4, _⟩ := ho
 rcases (a6c q4).2 with ⟨g1, g2⟩ | ⟨g, cap, cur, t, fz, g1, g2, g3, g4, g5, g6⟩
 ·exact .inl ⟨g1, g2⟩
 ·exact .inr ⟨g, cap, g1, g3⟩
theorem b1A (hr : Rel P C nt L σ a w) {k : Nat} {c : KC} (hk : lkk σ k = some c) (hE : c.e < 1000000) : 0 < c.sz ∧ c.cs.length = c.n * c.sz ∧ ((L.rv k = .slice none 0 0 ∧ c.n = 0) ∨
  ∃ g cap cur vs f, L.rv k = .slice (some ⟨g, 0, none⟩) c.n cap ∧ w.heap[g]? = some (.cells cur c.e (0, 0)) ∧ c.n ≤ cap ∧ cap ≤ maxLen ∧ cur.size = cap * c.sz ∧ cur.toList.take (c.n * c.sz) = vs ∧ L.fp k = g :: f ∧ a0I w c.cs vs f) := by
 have ho := (hr.ks k c hk).1
 simp only [Own] at ho
 obtain ⟨vs, f, q1, q2, q3, q4, q5⟩ := ho
 refine ⟨q2, q3, ?_⟩
 rcases (q4.1 hE).2 with ⟨g1, g2⟩ | ⟨g, cap, cur, g1, _, g3, g4, g5, g6, g7⟩
 ·exact .inl ⟨g1, g2⟩
 ·exact .inr ⟨g, cap, cur, vs, f, g1, g3, g4, g5, g6, g7, by rw [q1, g1]; simp [Value.ownBlock], q5⟩
theorem b6N {j sz lo hi : Nat} {c2 : KC} (hs : SlOk P C nt σ o j sz lo hi) (hj : lkk σ j = some c2) : Pu P C nt o σ (.ksl j lo hi sz) [] [] := Pu.mk fun L a w hr => by
 rcases b4P hr hj with ⟨h, _⟩ | ⟨g, cap, h, _⟩
 ·exact ⟨_, by simp only [SVr]; exact ⟨_, _, _, h, rfl⟩, fun w' _ => hs.run L a w hr _ _ _ h w'⟩
 ·exact ⟨_, by simp only [SVr]; exact ⟨_, _, _, h, rfl⟩, fun w' _ => hs.run L a w hr _ _ _ h w'⟩
theorem c2z {A : Option Addr} {n c sz : Nat} {hi : Nat} (h : A = none ∨ ∃ g, A = some ⟨g, 0, none⟩) : sliced A 0 hi c sz = .slice A hi c := by
 rcases h with rfl | ⟨g, rfl⟩
 ·simp [sliced]
 ·by_cases hc : c = 0
  ·simp [sliced, hc]
  ·simp [sliced, hc, Addr.add]
theorem c5Z (hr : Rel P C nt L σ a w) {k : Nat} {c : KC} (hk : lkk σ k = some c) {A : Option Addr} {n cap : Nat} (h : L.rv k = .slice A n cap) : (A = none ∨ ∃ g, A = some ⟨g, 0, none⟩) ∧ n = c.n ∧ c.n ≤ cap := by
 rcases b4P hr hk with ⟨h1, h2⟩ | ⟨g, cap', h1, h2⟩
 ·rw [h] at h1
  simp only [Value.slice.injEq] at h1
  obtain ⟨rfl, rfl, rfl⟩ := h1
  exact ⟨.inl rfl, h2.symm, by omega⟩
 ·rw [h] at h1
  simp only [Value.slice.injEq] at h1
  obtain ⟨rfl, rfl, rfl⟩ := h1
  exact ⟨.inr ⟨g, rfl⟩, rfl, h2⟩
theorem c7e (hT : TTOk P T) {t e sz by_ j n hi : Nat} {zc : List CV} {c2 : KC} {J : List Nat} {z : Int} (ho : o.op = .slice t x none (some y) none) (h : look T.sl t = some e) (he : look T.el e = some (sz, by_, zc)) (hx : Ev P C nt σ x (.one (.key j))) (hj : lkk σ j = some c2) (hy : Ev P C nt σ y (.one (.dv J (.int .i64 z)))) (hn : c2.n = n) (hh : z.toNat = hi) (h0 : 0 ≤ z) (h1 : z ≤ n) : Pu P C nt o σ (.ksl j 0 hi sz) [] [] := by
 subst hn; subst hh
 exact b6N (b3H hT ho h he hx hj hy h0 h1) hj
theorem c2H (hT : TTOk P T) {t e sz by_ j n lo : Nat} {zc : List CV} {c2 : KC} {J : List Nat} {z : Int} (ho : o.op = .slice t x (some y) none none) (h : look T.sl t = some e) (he : look T.el e = some (sz, by_, zc)) (hx : Ev P C nt σ x (.one (.key j))) (hj : lkk σ j = some c2) (hy : Ev P C nt σ y (.one (.dv J (.int .i64 z)))) (hn : c2.n = n) (hl : z.toNat = lo) (h0 : 0 ≤ z) (h1 : z ≤ n) : Pu P C nt o σ (.ksl j lo n sz) [] [] := by
 subst hn; subst hl
 exact b6N (b2Z hT ho h he hx hj hy h0 h1) hj
theorem Rel.wrow (hr : Rel P C nt L σ a w) {k g cap off : Nat} {c : KC} {cur : Array Value} {us : List Value} {cs' : List DV} {f' : List Nat} (hk : lkk σ k = some c) (hE : c.e < 1000000) (e1 : L.rv k = .slice (some ⟨g, 0, none⟩) c.n cap) (hg : w.heap[g]? = some (.cells cur c.e (0, 0))) (hnc : c.n ≤ cap) (hcm : cap ≤ maxLen) (hsz : cur.size = cap * c.sz) (hpos : 0 < c.sz)
  (hle : off + us.length ≤ c.n * c.sz) (hown : a0I w cs' (a1a off us (cur.toList.take (c.n * c.sz))) f') (hf : ∀ b ∈ f', b ∈ L.fp k ∧ b ≠ g) (hgk : g ∈ L.fp k) (hn : f'.Nodup) (hl : cs'.length = c.n * c.sz) :
  Rel P C nt { L with fp := fun i => if i = k then g :: f' else L.fp i, rv := fun i => if i = k then L.rv k else L.rv i } (σ.mut k [] true { c with cs := cs' }) a (w.setRow g (a1a off us cur.toList).toArray) := by
 let w' := w.setRow g (a1a off us cur.toList).toArray
 have hchg : Chg [g] w w' := a7H w g _
 have hle2 : c.n * c.sz ≤ cap * c.sz := Nat.mul_le_mul_right _ hnc
 have hcl : c.n * c.sz ≤ cur.toList.length := by rw [Array.length_toList, hsz]; exact hle2
 have hown2 : a0I w' cs' (a1a off us (cur.toList.take (c.n * c.sz))) f' := a3h _ _ _ hown (fun b hb => hchg.block b (hr.k_lt hk b (hf b hb).1) (by simpa using (hf b hb).2))
 have hown' : Own w' (.sl c.e c.sz c.n cs') (L.rv k) (g :: f') := by
  unfold Own
  refine ⟨_, f', by rw [e1]; simp [Value.ownBlock], hpos, hl, ?_, hown2⟩
  rw [e1]
  refine a3T hE ⟨by rw [a5P (by rw [List.length_take]; omega), List.length_take]; omega, .inr ⟨g, cap, (a1a off us cur.toList).toArray, rfl, Nat.zero_le _, setRow_heap _ _ _ _ _ _ hg, hnc, hcm, ?_, ?_⟩⟩
  ·rw [List.size_toArray, a5P (by omega), Array.length_toList, hsz]
  ·rw [List.toList_toArray]
   unfold a1a
   apply List.ext_getElem?
   intro i
   simp only [List.getElem?_take, List.getElem?_append, List.getElem?_drop, List.length_append, List.length_take]
   have hm1 : min off cur.toList.length = off := by omega
   have hm2 : min off (min (c.n * c.sz) cur.toList.length) = off := by omega
   rw [hm1, hm2]
   by_cases hi : i < c.n * c.sz
   ·simp only [hi, if_true]
    by_cases hi2 : i < off + us.length
    ·simp only [hi2, if_true]
    ·simp only [hi2, if_false]
     have : off + us.length + (i - (off + us.length)) < c.n * c.sz := by omega
     simp only [this, if_true]
   ·have h9 : ¬ i < off + us.length := by omega
    have h10 : ¬ i < off := by omega
    have h11 : ¬ off + us.length + (i - (off + us.length)) < c.n * c.sz := by omega
    simp only [hi, h9, h11, if_false]
 refine hr.setkey hk (by simp) (hchg.mono (by simpa using hgk)) hown' ?_ ?_ (by simp) (fun _ => rfl) (fun e => ⟨e, rfl⟩)
 ·rw [List.nodup_cons]
  exact ⟨fun hm => (hf g hm).2 rfl, hn⟩
 ·intro b hb
  rcases List.mem_cons.1 hb with rfl | hb
  ·exact .inl hgk
  ·exact .inl (hf b hb).1
theorem a6U {α : Type} {A B us D : List α} {off : Nat} (ho : off = A.length) (hB : us.length = B.length) : a1a off us (A ++ (B ++ D)) = A ++ (us ++ D) := by
 subst ho
 unfold a1a
 rw [List.take_left, hB, ← List.append_assoc A B D, ← List.length_append, List.drop_left, List.append_assoc]
theorem b2F {k g n cap : Nat} (e1 : L.rv k = .slice (some ⟨g, 0, none⟩) n cap) : ∀ {ds : List DV} {vs us : List Value} {f : List Nat} {off : Nat}, a0I w ds vs f → CVL C L w (a3f k off ds) us → (∀ j u, vs[j]? = some u → w.cell? ⟨g, off + j, none⟩ = some u) → a0I w ds us f
 | [], _, _, _, _, h, hc, _ => by
  simp only [a3f, CVL] at hc
  simp only [a0I] at h ⊢
  exact ⟨hc, h.2⟩
 | d :: ds, _, _, _, off, h, hc, hcell => by
  simp only [a0I] at h
  obtain ⟨v, vs', f1, f2, rfl, rfl, h1, h2⟩ := h
  simp only [a3f, CVL] at hc
  obtain ⟨u, us', rfl, k1, k2⟩ := hc
  have hrest := b2F e1 h2 k2 (fun j z hz => by have := hcell (j + 1) z (by simpa using hz); rwa [show off + 1 + j = off + (j + 1) by omega])
  simp only [a0I]
  refine ⟨u, us', f1, f2, rfl, rfl, ?_, hrest⟩
  cases hp : d.plain with
  | true =>
   simp only [dvE, hp, cond_true, CVr] at k1
   have := a8a (w' := w) hp k1
   have hf : f1 = [] := by
    cases d with
    | int => simp only [Own] at h1; exact h1.2.2
    | bool => simp only [Own] at h1; exact h1.2
    | str => simp only [Own] at h1; exact h1.2.2
    | sl => simp [DV.plain] at hp
    | hole => simp only [Own] at h1; exact h1.2
   rw [hf]; exact this
  | false =>
   simp only [dvE, hp, cond_false, CVr] at k1
   obtain ⟨_, g', n', c', e2, _, e3⟩ := k1
   rw [e1] at e2
   simp only [Value.slice.injEq, Option.some.injEq, Addr.mk.injEq, and_true, true_and] at e2
   obtain ⟨rfl, _, _⟩ := e2
   have := hcell 0 v rfl
   rw [Nat.add_zero, e3] at this
   simp only [Option.some.injEq] at this
   rw [this]; exact h1
theorem c6u (hT : TTOk P T) {t k off src sz by_ : Nat} {zc : List CV} {c : KC} {ds : List DV} (ho : o.op = .store t x y) (hd : o.dst = none) (ht : look T.el t = some (sz, by_, zc)) (hx : Ev P C nt σ x (.eptr k off)) (hy : Ev P C nt σ y (.agg (a3f k src ds)))
  (hk : lkk σ k = some c) (hE : Nat.blt c.e 1000000 = true) (hds : sub src sz c.cs = ds) (hlt : off + sz ≤ src) (hle : src + sz ≤ c.cs.length) : Ef P C nt o σ (fun σ' => σ' = σ.mut k [] true { c with cs := a1a off ds (a1a src (List.replicate sz .hole) c.cs) }) := Ef.mk fun L a w hr K Q hK => by
 have hE' : c.e < 1000000 := by simpa [Nat.blt_eq] using hE
 have hdl : ds.length = sz := by rw [← hds, a4A _ _ _ hle]
 have hkv : a1v σ (.agg (a3f k src ds)) = true := by
  simp only [a1v, SV.keys, SV.boxes, List.all_nil, Bool.and_true, List.all_eq_true]
  intro j hj
  rw [b3s j hj, hk]; rfl
 obtain ⟨us, h1, h2, h3⟩ := a5p (p := (true, a3f k src ds)) hr rfl hkv (hy.run L a w hr)
 have h4 := hx.run L a w hr
 simp only [SVr] at h4
 obtain ⟨g0, n0, cap0, e1, e2⟩ := h4
 obtain ⟨hpos, hcl, hro⟩ := b1A hr hk hE'
 rcases hro with ⟨e3, _⟩ | ⟨g, cap, cur, vs, f, e3, hg, hnc, hcm, hsz, htake, hfp, hown⟩
 ·rw [e1] at e3; cases e3
 rw [e1] at e3
 simp only [Value.slice.injEq, Option.some.injEq, Addr.mk.injEq, and_true, true_and] at e3
 obtain ⟨rfl, rfl, rfl⟩ := e3
 obtain ⟨inf, z, g1, g2, _⟩ := hT.el t sz by_ zc ht
 have hvl : vs.length = c.cs.length := a2L _ _ _ hown
 have hcur : c.cs.length ≤ cur.toList.length := by rw [hcl, Array.length_toList, hsz]; exact Nat.mul_le_mul_right _ hnc
 have hdvl : ∀ (ds : List DV) (off : Nat), (a3f k off ds).length = ds.length := fun ds => by
  induction ds with
  | nil => intro _; rfl
  | cons d ds ih => intro off; simp [a3f, ih]
 have hus : us.length = sz := by rw [a3j h2]; simp only [hdvl, hdl]
 have hcell : ∀ j v, vs[j]? = some v → w.cell? ⟨g0, j, none⟩ = some v := fun j v hj => by
  rw [cell_of_row w g0 j cur c.e (0, 0) hg]
  rw [← htake, List.getElem?_take] at hj
  split at hj
  ·simpa using hj
  ·cases hj
 -- the parts
 have hX : c.cs = c.cs.take off ++ ((c.cs.drop off).take sz ++ (((c.cs.drop (off + sz)).take (src - (off + sz))) ++ (ds ++ c.cs.drop (src + sz)))) := by
  rw [← hds]
  unfold sub
  have q1 : (c.cs.drop src).take sz ++ c.cs.drop (src + sz) = c.cs.drop src := by rw [← List.drop_drop, List.take_append_drop]
  rw [q1]
  have q2 : (c.cs.drop (off + sz)).take (src - (off + sz)) ++ c.cs.drop src = c.cs.drop (off + sz) := by
   have : c.cs.drop src = (c.cs.drop (off + sz)).drop (src - (off + sz)) := by rw [List.drop_drop]; congr 1; omega
   rw [this, List.take_append_drop]
  rw [q2, ← List.drop_drop, List.take_append_drop, List.take_append_drop]
 obtain ⟨A, hA⟩ : ∃ A, A = c.cs.take off := ⟨_, rfl⟩
 obtain ⟨B, hB⟩ : ∃ B, B = (c.cs.drop off).take sz := ⟨_, rfl⟩
 obtain ⟨M, hM⟩ : ∃ M, M = (c.cs.drop (off + sz)).take (src - (off + sz)) := ⟨_, rfl⟩
 obtain ⟨D, hD⟩ : ∃ D, D = c.cs.drop (src + sz) := ⟨_, rfl⟩
 have lA : A.length = off := by rw [hA, List.length_take]; omega
 have lB : B.length = sz := by rw [hB, List.length_take, List.length_drop]; omega
 have lM : M.length = src - (off + sz) := by rw [hM, List.length_take, List.length_drop]; omega
 rw [← hA, ← hB, ← hM, ← hD] at hX
 have hown2 := hown
 rw [hX] at hown2
 obtain ⟨v1, r1, f1, s1, rfl, rfl, o1, t1⟩ := a5f _ _ _ _ hown2
 obtain ⟨v2, r2, f2, s2, rfl, rfl, o2, t2⟩ := a5f _ _ _ _ t1
 obtain ⟨v3, r3, f3, s3, rfl, rfl, o3, t3⟩ := a5f _ _ _ _ t2
 obtain ⟨v4, v5, f4, f5, rfl, rfl, o4, o5⟩ := a5f _ _ _ _ t3
 have l1 := a2L _ _ _ o1
 have l2 := a2L _ _ _ o2
 have l3 := a2L _ _ _ o3
 have l4 := a2L _ _ _ o4
 have o4' : a0I w ds us f4 := b2F e1 o4 h2 (fun j v hj => hcell (src + j) v (by
  have hj' := (List.getElem?_eq_some_iff.1 hj).1
  rw [List.getElem?_append_right (by omega), List.getElem?_append_right (by omega), List.getElem?_append_right (by omega), List.getElem?_append_left (by omega), show src + j - v1.length - v2.length - v3.length = j by omega]
  exact hj))
 have one4 : ∀ v ∈ v4, v.oneCell' = true := a8M (ok := fun _ => True) _ _ (a7p _ _ _ o4 (fun _ _ => trivial))
 have o4h : a0I w (List.replicate sz .hole) v4 [] := by
  have := b0r (w := w) v4 one4
  rwa [l4, hdl] at this
 have hnew : a0I w (A ++ (ds ++ (M ++ (List.replicate sz .hole ++ D)))) (v1 ++ (us ++ (v3 ++ (v4 ++ v5)))) (f1 ++ (f4 ++ (f3 ++ ([] ++ f5)))) :=
  a3m _ _ _ _ _ _ o1 (a3m _ _ _ _ _ _ o4' (a3m _ _ _ _ _ _ o3 (a3m _ _ _ _ _ _ o4h o5)))
 have ecs : a1a off ds (a1a src (List.replicate sz .hole) c.cs) = A ++ (ds ++ (M ++ (List.replicate sz .hole ++ D))) := by
  have q1 : a1a src (List.replicate sz DV.hole) c.cs = A ++ (B ++ (M ++ (List.replicate sz .hole ++ D))) := by
   have := a6U (A := A ++ (B ++ M)) (B := ds) (us := List.replicate sz DV.hole) (D := D) (off := src) (by simp only [List.length_append]; omega) (by simp [hdl])
   simp only [List.append_assoc] at this
   rw [hX]; exact this
  rw [q1]
  exact a6U lA.symm (by omega)
 have evs : a1a off us (cur.toList.take (c.n * c.sz)) = v1 ++ (us ++ (v3 ++ (v4 ++ v5))) := by
  rw [htake]
  exact a6U (by omega) (by omega)
 have hnd := hr.kn k c hk
 rw [hfp, List.nodup_cons] at hnd
 have hperm : (f1 ++ (f4 ++ (f3 ++ ([] ++ f5)))).Nodup := by
  have hs : (f1 ++ (f3 ++ (f4 ++ f5))).Sublist (f1 ++ (f2 ++ (f3 ++ (f4 ++ f5)))) := List.Sublist.append (List.Sublist.refl _) (List.sublist_append_right _ _)
  have hn2 := hs.nodup hnd.2
  refine (List.Perm.nodup_iff ?_).1 hn2
  refine List.Perm.append_left _ ?_
  rw [List.nil_append, ← List.append_assoc, ← List.append_assoc]
  exact List.Perm.append_right _ List.perm_append_comm
 have hsub : ∀ b ∈ f1 ++ (f4 ++ (f3 ++ ([] ++ f5))), b ∈ f1 ++ (f2 ++ (f3 ++ (f4 ++ f5))) := fun b hb => by
  simp only [List.mem_append, List.nil_append] at hb ⊢
  rcases hb with h | h | h | h
  ·exact .inl h
  ·exact .inr (.inr (.inr (.inl h)))
  ·exact .inr (.inr (.inl h))
  ·exact .inr (.inr (.inr (.inr h)))
 have hrun := a7L (P := P) (vs := cur.toList) (z := z) (off := off) (t' := c.e) g1 g2 h1 hus h3 (by simpa using hg) (by omega)
 have hrel := hr.wrow (off := off) (us := us) (cs' := a1a off ds (a1a src (List.replicate sz .hole) c.cs)) (f' := f1 ++ (f4 ++ (f3 ++ ([] ++ f5)))) hk hE' e1 hg hnc hcm hsz hpos (by rw [← hcl]; omega) (by rw [evs, ecs]; exact hnew)
  (fun b hb => ⟨by rw [hfp]; exact List.mem_cons_of_mem _ (hsub b hb), fun e => hnd.1 (by rw [← e]; exact hsub b hb)⟩) (by rw [hfp]; simp) hperm (by rw [a5P (by rw [a5P (by simp; omega)]; omega), a5P (by simp; omega)]; exact hcl)
 unfold Oper.wp execOp
 simp only [ho, e2, Sem.run_bind, hrun, Result.andThen_ok, Sem.run_pure, Oper.upon, hd, Act.put]
 exact hK _ _ _ _ rfl hrel
theorem c4k (hT : TTOk P T) {t e k lo hi sz by_ : Nat} {zc : List CV} {c : KC} (ho : o.op = .call { callee := .builtin .clear, args := #[x], argTypes := #[t] }) (hd : o.dst = none) (ht : look T.sl t = some e) (he : look T.el e = some (sz, by_, zc)) (hl0 : zc.length = sz) (hx : Ev P C nt σ x (.ksl k lo hi sz))
  (hk : lkk σ k = some c) (hce : c.e = e) (hcs : c.sz = sz) (hlh : lo ≤ hi) (hhi : hi ≤ c.n) : Ef P C nt o σ (fun σ' => σ' = σ.mut k [] true { c with cs := a1a (lo * sz) (List.replicate ((hi - lo) * sz) .hole) c.cs }) := Ef.mk fun L a w hr K Q hK => by
 subst hce; subst hcs
 have hE' : c.e < 1000000 := hT.lt _ _ he
 have h4 := hx.run L a w hr
 simp only [SVr] at h4
 obtain ⟨A, n0, cap0, e1, e2⟩ := h4
 obtain ⟨hpos, hcl, hro⟩ := b1A hr hk hE'
 obtain ⟨inf, z, g1, g2, g3, g4, g5⟩ := hT.el c.e c.sz by_ zc he
 obtain ⟨_, _, z1⟩ := a8T (C := C) (L := L) (w := w) g5
 have hzs : z.cells.size = c.sz := by have := a6L g5; simp only [Array.length_toList] at this; rw [this, hl0]
 have hzv : ∀ w, (zeroValue c.e).run P w = .ok z w := fun w => by simp [zeroValue, typeInfo, g1, g4]
 have hm1 : (hi - lo) * c.sz + lo * c.sz = hi * c.sz := by rw [← Nat.add_mul]; congr 1; omega
 have hm2 : hi * c.sz ≤ c.n * c.sz := Nat.mul_le_mul_right _ hhi
 -- nothing to clear
 have same : hi = lo → Rel P C nt L (σ.mut k [] true { c with cs := a1a (lo * c.sz) (List.replicate ((hi - lo) * c.sz) .hole) c.cs }) a w := fun h => by
  have : a1a (lo * c.sz) (List.replicate ((hi - lo) * c.sz) DV.hole) c.cs = c.cs := by
   subst h
   simp [a1a]
  rw [this]
  have := hr.setkey (k := k) (c := c) (c' := c) (js := []) (same := true) (v' := L.rv k) (f' := L.fp k) hk (by simp) ((Chg.refl [] w).mono (by simp)) (hr.ks k c hk).1 (hr.kn k c hk) (fun b hb => .inl hb) (by simp) (fun _ => rfl) (fun h => ⟨h, rfl⟩)
  have eL : ({ L with fp := fun i => if i = k then L.fp k else L.fp i, rv := fun i => if i = k then L.rv k else L.rv i } : Lyt) = L := by
   cases L
   simp only [Lyt.mk.injEq, true_and]
   constructor <;> (funext i; split <;> simp_all)
  rwa [eL] at this
 have hclr0 : ∀ A c', (Builtin.clear_ #[t] o.type #[.slice A 0 c']).run P w = .ok (.tuple #[]) w := fun A c' => by
  cases A <;> simp [Builtin.clear_, run_underlying (hT.sl t c.e ht)]
 rcases Nat.eq_or_lt_of_le hlh with heq | hlt
 ·have e3 : a.eval x = .slice (if cap0 = lo then A else A.map (·.add (lo * c.sz))) 0 (cap0 - lo) := by rw [e2, sliced, heq, Nat.sub_self]
  unfold Oper.wp execOp
  simp only [ho, resolve, invoke, builtin, Sem.run_bind, Sem.run_pure, Result.andThen_ok, List.map_toArray, List.map_cons, List.map_nil, e3, hclr0, Oper.upon, hd, Act.put]
  exact hK _ _ _ _ rfl (same heq.symm)
 rcases hro with ⟨e3, h0⟩ | ⟨g, cap, cur, vs, f, e3, hg, hnc, hcm, hsz, htake, hfp, hown⟩
 ·omega
 rw [e1] at e3
 simp only [Value.slice.injEq] at e3
 obtain ⟨rfl, rfl, rfl⟩ := e3
 have hcur : c.n * c.sz ≤ cur.toList.length := by rw [Array.length_toList, hsz]; exact Nat.mul_le_mul_right _ hnc
 have hvl : vs.length = c.n * c.sz := by rw [a2L _ _ _ hown, hcl]
 obtain ⟨zs, hzz⟩ : ∃ zs, zs = (Builtin.zeroCells z.cells (hi - lo)).toList := ⟨_, rfl⟩
 have hzl : zs.length = (hi - lo) * c.sz := by rw [hzz]; simp [Builtin.zeroCells, hzs]
 have hz1 : ∀ v ∈ zs, v.oneCell' = true := fun v hv => by
  rw [hzz] at hv
  simp only [Builtin.zeroCells, Array.toList_map, List.mem_map] at hv
  obtain ⟨i, _, rfl⟩ := hv
  have hlt2 : i % z.cells.size < z.cells.size := Nat.mod_lt _ (by omega)
  rw [getElem!_pos z.cells _ hlt2]
  exact z1 _ (by simp)
 have hst := run_storeCells_at P g (lo * c.sz) c.e zs 0 cur w hg (by rw [← Array.length_toList]; omega) hz1
 simp only [Nat.add_zero] at hst
 have hne : ¬ cap0 = lo := by omega
 have e4 : a.eval x = .slice (some ⟨g, lo * c.sz, none⟩) (hi - lo) (cap0 - lo) := by
  rw [e2, sliced, if_neg hne]
  simp [a4Z]
 have hclr : (Builtin.clear_ #[t] o.type #[.slice (some ⟨g, lo * c.sz, none⟩) (hi - lo) (cap0 - lo)]).run P w = .ok (.tuple #[]) (w.setRow g (a1a (lo * c.sz) zs cur.toList).toArray) := by
  obtain ⟨m, hm⟩ : ∃ m, hi - lo = m + 1 := ⟨hi - lo - 1, by omega⟩
  rw [hzz, hm] at hst
  rw [hm]
  simp [Builtin.clear_, run_underlying (hT.sl t c.e ht), hzv, hst, a1a, hzz, hm]
 have ohole : a0I w (List.replicate ((hi - lo) * c.sz) .hole) zs [] := by
  have := b0r (w := w) zs hz1
  rwa [hzl] at this
 obtain ⟨f1, f3, s1, s2, s3⟩ := b5l hown ohole (off := lo * c.sz) (by simp only [List.length_replicate]; omega)
 have hnd := hr.kn k c hk
 rw [hfp, List.nodup_cons] at hnd
 have hrel := hr.wrow (off := lo * c.sz) (us := zs) (cs' := a1a (lo * c.sz) (List.replicate ((hi - lo) * c.sz) .hole) c.cs) (f' := f1 ++ f3) hk hE' e1 hg hnc hcm hsz hpos (by omega) (by rw [htake]; simpa using s3)
  (fun b hb => ⟨by rw [hfp]; exact List.mem_cons_of_mem _ (s1 b hb), fun e => hnd.1 (by rw [← e]; exact s1 b hb)⟩) (by rw [hfp]; simp) (s2 hnd.2) (by rw [a5P (by simp only [List.length_replicate]; omega)]; exact hcl)
 unfold Oper.wp execOp
 simp only [ho, resolve, invoke, builtin, Sem.run_bind, Sem.run_pure, Result.andThen_ok, List.map_toArray, List.map_cons, List.map_nil, e4, hclr, Oper.upon, hd, Act.put]
 exact hK _ _ _ _ rfl hrel
theorem c1f {tm : List (Nat × SV)} {bx : List (Nat × TypeId × List CV)} {ks : List (Nat × Option KC)} {s k m sz : Nat} {c : KC} {cs : List DV} (hs : look tm s = some (.ksl k 0 m sz)) (hk : lkk ⟨tm, bx, ks⟩ k = some c) (hE : Nat.blt c.e 1000000 = true) (hcs : c.sz = sz) (hm : m ≤ c.n) (hcc : c.cs.take (m * sz) = cs) :
  Weak P C nt ⟨tm, bx, ks⟩ ⟨(s, .one (.key k)) :: a0l [k] [k] tm, a0j [k] [k] bx, (k, some ⟨false, c.e, sz, m, cs⟩) :: ks⟩ := Weak.mk fun L a w hr => by
 subst hcs; subst hcc
 have hE' : c.e < 1000000 := by simpa [Nat.blt_eq] using hE
 have hsv := hr.tm s _ hs
 simp only [SVr] at hsv
 obtain ⟨A, n0, cap0, e1, e2⟩ := hsv
 obtain ⟨r1, rfl, r3⟩ := c5Z hr hk e1
 rw [c2z (n := c.n) r1] at e2
 obtain ⟨hpos, hcl, hro⟩ := b1A hr hk hE'
 have hm2 : m * c.sz ≤ c.n * c.sz := Nat.mul_le_mul_right _ hm
 have hfin : ∀ f', Own w (.sl c.e c.sz m (c.cs.take (m * c.sz))) (.slice A m cap0) f' → f'.Nodup → (∀ b ∈ f', b ∈ L.fp k) → ∃ L', Rel P C nt L' ⟨(s, .one (.key k)) :: a0l [k] [k] tm, a0j [k] [k] bx, (k, some ⟨false, c.e, c.sz, m, c.cs.take (m * c.sz)⟩) :: ks⟩ a w := fun f' ho hn hf => by
  have hset := hr.setkey (k := k) (c := c) (c' := ⟨false, c.e, c.sz, m, c.cs.take (m * c.sz)⟩) (js := []) (same := false) (v' := .slice A m cap0) (f' := f') hk (by simp) ((Chg.refl [] w).mono (by simp)) ho hn (fun b hb => .inl (hf b hb)) (by simp) (by simp) (by simp)
  exact ⟨_, hset.also (d := s) (v := .one (.key k)) (by simp only [SVr, CVr, if_true]; exact e2) (by simp [SV.keys, CV.keys, a6j]) (by simp [SV.boxes])⟩
 rcases hro with ⟨e4, h0⟩ | ⟨g, cap, cur, vs, f, e4, hg, hnc, hcm, hsz, htake, hfp, hown⟩
 ·rw [e1] at e4
  simp only [Value.slice.injEq] at e4
  obtain ⟨rfl, h0', rfl⟩ := e4
  have hm0 : m = 0 := by omega
  subst hm0
  refine hfin [] ?_ (by simp) (by simp)
  rw [Nat.zero_mul, List.take_zero]
  exact a7J w c.e c.sz hpos
 ·rw [e1] at e4
  simp only [Value.slice.injEq] at e4
  obtain ⟨rfl, _, rfl⟩ := e4
  obtain ⟨fa, fb, hf, ta, tb⟩ := a7e (m * c.sz) hown
  have hnd := hr.kn k c hk
  rw [hfp, List.nodup_cons] at hnd
  have hvl : vs.length = c.n * c.sz := by rw [a2L _ _ _ hown, hcl]
  refine hfin (g :: fa) ?_ ?_ ?_
  ·unfold Own
   refine ⟨vs.take (m * c.sz), fa, by simp [Value.ownBlock], hpos, by rw [List.length_take]; omega, a3T hE' ⟨by rw [List.length_take]; omega, .inr ⟨g, cap0, cur, rfl, Nat.zero_le _, hg, by omega, hcm, hsz, ?_⟩⟩, ta⟩
   rw [← htake, List.take_take]
   congr 1; omega
  ·rw [List.nodup_cons]
   rw [hf] at hnd
   exact ⟨fun h => hnd.1 (by simp [h]), (List.nodup_append.1 hnd.2).1⟩
  ·intro b hb
   rw [hfp, hf]
   rcases List.mem_cons.1 hb with rfl | hb
   ·simp
   ·simp [hb]
end
/-! ### calls that change a key and hand it back -/
structure MFn (P : Program) (f : FuncId) (us : List SV) (c0 c1 : KC) : Prop where
 ok : a7l P f [] [(0, some c0)] (.one (.key 0) :: us) fun v σ' => v = .one (.key 0) ∧ σ'.ks = [(0, some c1)]
def a7Q (σ : St) : SV → SV → Prop
 | .one (.dv _ d), u => d.plain = true ∧ u = .one (.dv [] d)
 | .clo f bs, u => ∃ caps, a4o σ bs caps ∧ u = .fn f caps
 | _, _ => False
def a6C (P : Program) (C : Ctx) (nt : Nat) (σ : St) : List Operand → List SV → Prop
 | [], us => us = []
 | x :: xs, us => ∃ v u us', us = u :: us' ∧ Ev P C nt σ x v ∧ a7Q σ v u ∧ a6C P C nt σ xs us'
section
variable {P : Program} {C : Ctx} {nt : Nat} {σ : St} {L : Lyt} {a : Act} {w : World} {o : Oper} {x y u : Operand} {T : TT}
theorem c4c : a6C P C nt σ [] [] := rfl
theorem c7g {v u : SV} {xs : List Operand} {us : List SV} (hx : Ev P C nt σ x v) (h : a7Q σ v u) (h2 : a6C P C nt σ xs us) : a6C P C nt σ (x :: xs) (u :: us) := ⟨v, u, us, rfl, hx, h, h2⟩
theorem c2B {f : FuncId} {bs : List Nat} {caps : List (List DV)} (h : a4o σ bs caps) : a7Q σ (.clo f bs) (.fn f caps) := ⟨caps, h, rfl⟩
def a6i (L : Lyt) (k : Nat) : Lyt := { bb := fun _ => 0, fp := fun i => if i = 0 then L.fp k else [], rv := fun i => if i = 0 then L.rv k else .bool false }
theorem c4W (hr : Rel P C nt L σ a w) {k : Nat} {c : KC} (hk : lkk σ k = some c) {L' : Lyt} {rv : Nat → Value} : ∀ b, b < w.heap.size → okB C L [] b → okB ⟨w, L.fp k, rv⟩ L' [] b ∧ w.heap[b]? = w.heap[b]? := fun b hb h => by
 rcases h with ⟨h1, h2⟩ | ⟨_, h1, _⟩
 ·refine ⟨.inl ⟨hb, fun hm => ?_⟩, rfl⟩
  rcases hr.k1 k c hk b hm with h3 | h3
  ·omega
  ·exact h2 h3
 ·cases h1
theorem b8p (hr : Rel P C nt L σ a w) {k : Nat} {c : KC} (hk : lkk σ k = some c) (L' : Lyt) {rv : Nat → Value} : ∀ {bs : List Nat} {dss : List (List DV)}, a4o σ bs dss → a4U ⟨w, L.fp k, rv⟩ L' w dss (bs.map fun b => Value.pointer (some ⟨L.bb b, 0, none⟩))
 | [], _, h => by simp only [a4o] at h; subst h; rfl
 | b :: bs, _, ⟨ds, dss', t, e, h1, h2⟩ => by
  subst e
  obtain ⟨vs, h3, h4⟩ := hr.bx b t _ h1
  refine ⟨_, _, rfl, ⟨L.bb b, 0, vs, rfl, fun _ => .inl ⟨a6l h3, hr.bk b k _ c h1 hk⟩, a6y (c4W hr hk) _ _ (c0n h4), fun j u hu => ?_⟩, b8p hr hk L' h2⟩
  rw [Nat.zero_add, cell_of_row w _ j vs.toArray t (0, 0) h3]
  simpa using hu
theorem c6L (hr : Rel P C nt L σ a w) {k : Nat} {c : KC} (hk : lkk σ k = some c) (L' : Lyt) {rv : Nat → Value} {v u : SV} {r : Value} (h : a7Q σ v u) (hv : SVr P C L w v r) : SVr P ⟨w, L.fp k, rv⟩ L' w u r ∧ u.keys = [] ∧ u.boxes = [] := by
 cases v with
 | one c0 =>
  cases c0 with
  | dv K d =>
   obtain ⟨h1, rfl⟩ := h
   simp only [SVr, CVr] at hv ⊢
   exact ⟨b3P h1 hv, rfl, rfl⟩
  | _ => simp [a7Q] at h
 | clo f bs =>
  obtain ⟨caps, h1, rfl⟩ := h
  simp only [SVr] at hv ⊢
  exact ⟨⟨_, hv, b8p hr hk L' h1⟩, rfl, rfl⟩
 | _ => simp [a7Q] at h
theorem b8s (hr : Rel P C nt L σ a w) {k : Nat} {c : KC} (hk : lkk σ k = some c) (L' : Lyt) {rv : Nat → Value} : ∀ {xs : List Operand} {us : List SV}, a6C P C nt σ xs us → xs.length = us.length ∧ (∀ u ∈ us, u.keys = [] ∧ u.boxes = []) ∧ ∀ (i : Nat) u, us[i]? = some u → ∃ x, xs[i]? = some x ∧ SVr P ⟨w, L.fp k, rv⟩ L' w u (a.eval x)
 | [], _, h => by simp only [a6C] at h; subst h; simp
 | x :: xs, _, ⟨v, u, us', e, h1, h2, h3⟩ => by
  subst e
  obtain ⟨g1, g2, g3⟩ := b8s hr hk L' (rv := rv) h3
  obtain ⟨q1, q2, q3⟩ := c6L hr hk L' (rv := rv) h2 (h1.run L a w hr)
  refine ⟨by simp [g1], fun z hz => ?_, fun i z hz => ?_⟩
  ·rcases List.mem_cons.1 hz with rfl | hz
   ·exact ⟨q2, q3⟩
   ·exact g2 z hz
  ·cases i with
   | zero => simp only [List.getElem?_cons_zero, Option.some.injEq] at hz; subst hz; exact ⟨x, rfl, q1⟩
   | succ i => simpa using g3 i z (by simpa using hz)
theorem c4F {f : FuncId} {xs : List Operand} {ats : Array TypeId} {us : List SV} {k d : Nat} {c c0 c1 : KC} (ho : o.op = .call { callee := .value (.func f), args := (x :: xs).toArray, argTypes := ats }) (hd : o.dst = some d) (hn : Nat.blt d nt = true)
  (hc : ∀ (args : Array Value) (w : World), (callFunc f args).run P w = .ok (.enter f args) w) (hf : MFn P f us c0 c1) (hx : Ev P C nt σ x (.one (.key k))) (hk : lkk σ k = some c) (hc0 : (⟨false, c.e, c.sz, c.n, c.cs⟩ : KC) = c0) (hc1 : c1.h = false) (ha : a6C P C nt σ xs us) :
  Ef P C nt o σ (fun σ' => σ' = (σ.mut k [] false c1).put d (.one (.key k))) := Ef.mk fun L a w hr K Q hK => by
 subst hc0
 have e1 := hx.run L a w hr
 simp only [SVr, CVr] at e1
 obtain ⟨g1, g2, g3⟩ := b8s hr hk (a6i L k) (rv := (a6i L k).rv) ha
 refine a7T (xs := x :: xs) ho hc ?_
 have hall : ∀ q ∈ (.one (.key 0) :: us : List SV), (∀ j ∈ q.keys, j = 0) ∧ q.boxes = [] := fun q hq => by
  rcases List.mem_cons.1 hq with rfl | hq
  ·exact ⟨by simp [SV.keys, CV.keys], rfl⟩
  ·obtain ⟨h1, h2⟩ := g2 q hq
   exact ⟨by simp [h1], h2⟩
 have hlk : ∀ (tm : List (Nat × SV)) j c', lkk ⟨tm, [], [(0, some (⟨false, c.e, c.sz, c.n, c.cs⟩ : KC))]⟩ j = some c' → j = 0 ∧ c' = ⟨false, c.e, c.sz, c.n, c.cs⟩ := fun tm j c' h => by
  simp only [lkk, a0U] at h
  split at h
  ·rename_i e; exact ⟨e, by simpa using h.symm⟩
  ·simp [look] at h
 have hen : ∀ (us : List SV) (j : Nat), (∀ q ∈ us, (∀ j ∈ q.keys, j = 0) ∧ q.boxes = []) → (∀ i ∈ (a2s j us).flatMap fun p => p.2.keys, i = 0) ∧ ((a2s j us).flatMap fun p => p.2.boxes) = [] := fun us => by
  induction us with
  | nil => intro j _; simp [a2s]
  | cons q us ih =>
   intro j h
   obtain ⟨h1, h2⟩ := ih (j + 1) (fun z hz => h z (by simp [hz]))
   obtain ⟨h3, h4⟩ := h q (by simp)
   refine ⟨fun i hi => ?_, by simp [a2s, h2, h4]⟩
   simp only [a2s, List.flatMap_cons, List.mem_append] at hi
   rcases hi with hi | hi
   ·exact h3 i hi
   ·exact h1 i hi
 obtain ⟨t1, t2⟩ := hen _ 0 hall
 have hent : Rel P ⟨w, L.fp k, (a6i L k).rv⟩ (.one (.key 0) :: us : List SV).length (a6i L k) ⟨a2s 0 (.one (.key 0) :: us), [], [(0, some ⟨false, c.e, c.sz, c.n, c.cs⟩)]⟩ ⟨((x :: xs).map a.eval).toArray, []⟩ w := {
  df := rfl
  sz := by simp [g1]
  tm := fun i v hv => by
   obtain ⟨_, h4⟩ := a7k _ 0 i v hv
   rw [Nat.sub_zero] at h4
   cases i with
   | zero =>
    simp only [List.getElem?_cons_zero, Option.some.injEq] at h4
    subst h4
    simp [SVr, CVr, a6i, e1]
   | succ i =>
    obtain ⟨z, h5, h6⟩ := g3 i v (by simpa using h4)
    have : ((x :: xs).map a.eval).toArray.getD (i + 1) undef = a.eval z := by simp [Array.getD_eq_getD_getElem?, h5]
    rw [this]; exact h6
  bx := fun i t cs h => by cases h
  ks := fun j c' h => by
   obtain ⟨rfl, rfl⟩ := hlk _ j c' h
   refine ⟨?_, by simp⟩
   simpa [a6i] using (hr.ks k c hk).1
  b1 := fun i x h => by cases h
  k1 := fun j c' h => by
   obtain ⟨rfl, rfl⟩ := hlk _ j c' h
   intro b hb
   exact .inr (by simpa [a6i] using hb)
  kn := fun j c' h => by
   obtain ⟨rfl, rfl⟩ := hlk _ j c' h
   simpa [a6i] using hr.kn k c hk
  bb := fun i j x y h => by cases h
  bk := fun i k x c h => by cases h
  kk := fun i j c' d' h1 h2 hij => by
   obtain ⟨rfl, _⟩ := hlk _ i c' h1
   obtain ⟨rfl, _⟩ := hlk _ j d' h2
   exact absurd rfl hij
  lk := fun j hj => by
   simp only [St.tk, List.flatMap_nil, List.append_nil] at hj
   rw [t1 j hj]; simp [lkk, a0U]
  lb := fun b hb => by simp only [St.tb, t2] at hb; cases hb
  s0 := fun b hb => hr.k_lt hk b hb
  chg := Chg.refl _ _ }
 refine (hf.ok w (L.fp k) (a6i L k) ((x :: xs).map a.eval) (by simp [g1]) hent).mono ?_
 rintro e' w' ⟨r, res, σ', L', rfl, ⟨rfl, hks⟩, h3⟩
 have hlk' : lkk { σ' with tm := [(0, SV.one (.key 0))] } 0 = some c1 := by simp [lkk, hks, a0U]
 have hro := (h3.ks 0 c1 hlk').1
 have hrr := h3.tm 0 (.one (.key 0)) (by simp [a0U])
 simp only [SVr, CVr] at hrr
 have hrr : r = L'.rv 0 := by simpa using hrr
 have hset := hr.setkey (k := k) (c := c) (c' := c1) (js := []) (same := false) (v' := L'.rv 0) (f' := L'.fp 0) hk (by simp) h3.chg hro (h3.kn 0 c1 hlk') (fun b hb => by
  rcases h3.k1 0 c1 hlk' b hb with h | h
  ·exact .inr (.inr h)
  ·exact .inl h) (by simp) (by simp) (fun h => by rw [hc1] at h; cases h)
 refine ⟨r, rfl, hK { L with fp := fun i => if i = k then L'.fp 0 else L.fp i, rv := fun i => if i = k then L'.rv 0 else L.rv i } _ _ _ rfl ?_⟩
 rw [hd]
 exact hset.put (d := d) (v := .one (.key k)) (r := r) (by simpa [Nat.blt_eq] using hn) (by simp [SVr, CVr, hrr]) (by simp [SV.keys, CV.keys, a6j]) (by simp [SV.boxes])
/-! over states that are written out -/
section
variable {Q : Exit → St → Prop} {all : Array Oper} {rest : List Oper} {tm : List (Nat × SV)} {bx : List (Nat × TypeId × List CV)} {ks : List (Nat × Option KC)} {d : Nat}
theorem c5E (hT : TTOk P T) {t k off src sz by_ : Nat} {zc : List CV} {c : KC} {ds cs : List DV} (hg : o.guard = none) (hd : o.dst = none) (ho : o.op = .store t x y) (ht : look T.el t = some (sz, by_, zc)) (hx : Ev P C nt ⟨tm, bx, ks⟩ x (.eptr k off)) (hy : Ev P C nt ⟨tm, bx, ks⟩ y (.agg (a3f k src ds)))
  (hk : lkk ⟨tm, bx, ks⟩ k = some c) (hE : Nat.blt c.e 1000000 = true) (hds : sub src sz c.cs = ds) (hlt : off + sz ≤ src) (hle : src + sz ≤ c.cs.length) (hcs : a1a off ds (a1a src (List.replicate sz .hole) c.cs) = cs)
  (h : Ops P C nt Q all rest ⟨a0l [k] [] tm, a0j [k] [] bx, (k, some { c with cs := cs }) :: ks⟩) : Ops P C nt Q all (o :: rest) ⟨tm, bx, ks⟩ := a3x hg (c6u hT ho hd ht hx hy hk hE hds hlt hle) (by subst hcs; exact h)
theorem c7Y (hT : TTOk P T) {t e k lo hi sz by_ : Nat} {zc : List CV} {c : KC} {cs : List DV} (hg : o.guard = none) (hd : o.dst = none) (ho : o.op = .call { callee := .builtin .clear, args := #[x], argTypes := #[t] }) (ht : look T.sl t = some e) (he : look T.el e = some (sz, by_, zc)) (hl0 : zc.length = sz) (hx : Ev P C nt ⟨tm, bx, ks⟩ x (.ksl k lo hi sz))
  (hk : lkk ⟨tm, bx, ks⟩ k = some c) (hce : c.e = e) (hcz : c.sz = sz) (hlh : lo ≤ hi) (hhi : hi ≤ c.n) (hcs : a1a (lo * sz) (List.replicate ((hi - lo) * sz) .hole) c.cs = cs)
  (h : Ops P C nt Q all rest ⟨a0l [k] [] tm, a0j [k] [] bx, (k, some { c with cs := cs }) :: ks⟩) : Ops P C nt Q all (o :: rest) ⟨tm, bx, ks⟩ := a3x hg (c4k hT ho hd ht he hl0 hx hk hce hcz hlh hhi) (by subst hcs; exact h)
theorem c5A {f : FuncId} {xs : List Operand} {ats : Array TypeId} {us : List SV} {k : Nat} {c c0 c1 : KC} (hg : o.guard = none) (hd : o.dst = some d) (ho : o.op = .call { callee := .value (.func f), args := (x :: xs).toArray, argTypes := ats }) (hn : Nat.blt d nt = true)
  (hc : ∀ (args : Array Value) (w : World), (callFunc f args).run P w = .ok (.enter f args) w) (hf : MFn P f us c0 c1) (hx : Ev P C nt ⟨tm, bx, ks⟩ x (.one (.key k))) (hk : lkk ⟨tm, bx, ks⟩ k = some c) (hc0 : (⟨false, c.e, c.sz, c.n, c.cs⟩ : KC) = c0) (hc1 : c1.h = false) (ha : a6C P C nt ⟨tm, bx, ks⟩ xs us)
  (h : Ops P C nt Q all rest ⟨(d, .one (.key k)) :: a0l [k] [k] tm, a0j [k] [k] bx, (k, some c1) :: ks⟩) : Ops P C nt Q all (o :: rest) ⟨tm, bx, ks⟩ := a3x hg (c4F ho hd hn hc hf hx hk hc0 hc1 ha) h
end
end
section
variable {P : Program} {C : Ctx} {nt : Nat} {o : Oper} {x y : Operand} {T : TT} {Q : Exit → St → Prop} {all : Array Oper} {tm : List (Nat × SV)} {bx : List (Nat × TypeId × List CV)} {ks : List (Nat × Option KC)} {oB oK nK : List Nat} {hd' : Nat → Bool} {listed : Array Bool} {fuel : Nat}
theorem b2U (i : Nat) (hT : TTOk P T) {t e sz by_ d k n : Nat} {zc cs : List CV} {ds : List DV} {js : List Nat} {ps : List (Nat × Operand)} (hi : all[i]? = some o) (hg : o.guard = none) (hd : o.dst = some d) (ho : o.op = .buildSlice t n ps.toArray) (hn : Nat.blt d nt = true) (ht : look T.sl t = some e) (he : look T.el e = some (sz, by_, zc)) (hl0 : zc.length = sz) (hsz : Nat.blt 0 sz = true) (hsm : Nat.ble (n * sz) 16777216 = true) (hps : ps.length = n) (hn0 : Nat.blt 0 n = true)
  (hx : a5Z P C nt ⟨tm, bx, ks⟩ sz 0 ps cs) (how : a3Z ⟨tm, bx, ks⟩ cs ds js) (hnj : js.Nodup) (hkj : k ∉ js) (hcl : cs.length = n * sz) (hk : lkk ⟨tm, bx, ks⟩ k = none)
  (hb : (oB.all fun i => (look bx i).isSome) = true) (hk' : (oK.all fun k => (lkk ⟨tm, bx, ks⟩ k).isSome) = true) (hn' : (nK.all fun k => (lkk ⟨tm, bx, ks⟩ k).isSome) = true)
  (h : OpsN P C nt Q all oB oK nK hd' (listed.setIfInBounds i true) fuel ⟨(d, .one (.key k)) :: a0l (k :: js) (k :: js) tm, a0j (k :: js) (k :: js) bx, (k, some ⟨false, e, sz, n, ds⟩) :: ((js.map fun j => (j, none)) ++ (k, some ⟨false, e, sz, 0, []⟩) :: ks)⟩) : OpsNJ P C nt Q all oB oK nK hd' listed fuel i ⟨tm, bx, ks⟩ :=
 b9q i hi hg (c0t hT ho hd hn ht he hl0 hsz hsm hps hn0 hx how hnj hkj hcl hk) hb hk' hn' fun σ' e => by rw [e]; exact h
end
theorem c2T {P : Program} {C : Ctx} {nt : Nat} {σ σ' : St} {x y : Code} {Q1 Q2 : Exit → St → Prop} (h1 : Ok P C nt (a5h (fun σ1 => Weak P C nt σ1 σ') Q2) x σ) (h2 : Ok P C nt Q1 y σ') : Ok P C nt (a5h (Ok P C nt Q1 y) Q2) x σ := Ok.mk fun L a w hr =>
 wp_mono (h1.run L a w hr) (b6x fun e σ1 h => by
  cases e with
  | normal => exact a0h h h2
  | _ => exact h)
section
variable {P : Program} {C : Ctx} {nt : Nat} {σ : St} {L : Lyt} {a : Act} {w : World} {o : Oper} {x y : Operand} {T : TT}
theorem b0R {C C' : Ctx} {L L' : Lyt} {w : World} {c : CV} {v : Value} (hp : c.plain = true) (h : CVr C' L' w c v) : CVr C L w c v := by
 obtain ⟨h1, h2, h3⟩ := b0y hp
 have := b4z (C := C) (L := L) (m := 0) h1 (by rw [h2]; simp) h
 rwa [h3] at this
theorem c6d {f : FuncId} {xs : List Operand} {ats : Array TypeId} {us : List SV} {d : Nat} {a1 c a2 u1 u2 p q r1 r2 : CV} {dd : DV} (ho : o.op = .call { callee := .value (.func f), args := (x :: xs).toArray, argTypes := ats }) (hd : o.dst = some d) (hn : Nat.blt d nt = true)
  (hc : ∀ (args : Array Value) (w : World), (callFunc f args).run P w = .ok (.enter f args) w) (hf : PFn P f (.agg [u1, .arg 0 dd, u2] :: us) (.tup [(true, [p, .arg 0 dd, q]), (false, [r1]), (false, [r2])]))
  (hx : Ev P C nt σ x (.agg [a1, c, a2])) (h1 : a2G σ a1 u1) (hcc : a2G σ c (.dv [] dd)) (h2 : a2G σ a2 u2) (ha : a2i P C nt σ xs us) (hp : p.plain = true) (hq : q.plain = true) (hr1 : r1.plain = true) (hr2 : r2.plain = true) (hck : (c.keys.all fun k => (lkk σ k).isSome) = true) :
  EfG P C nt o σ (fun σ' => σ' = σ.put d (.tup [(true, [p, c, q]), (false, [r1]), (false, [r2])])) := EfG.mk fun L a w hr K Q hK => by
 have e1 := hx.run L a w hr
 simp only [SVr, CVL] at e1
 obtain ⟨vs, ex, v1, vs1, rfl, k1, vc, vs2, rfl, k2, v2, vs3, rfl, k3, rfl⟩ := e1
 let L0 : Lyt := { L with rv := fun _ => vc }
 obtain ⟨g1, g2⟩ := a9H hr L0 h1 k1
 obtain ⟨g3, g4⟩ := a9H hr L0 hcc k2
 obtain ⟨g5, g6⟩ := a9H hr L0 h2 k3
 obtain ⟨l1, l2⟩ := a8q hr L0 xs us ha
 refine a7T (xs := x :: xs) ho hc ?_
 have hent := b8K (P := P) (w := w) (L := L0) (us := .agg [u1, .arg 0 dd, u2] :: us) (vs := (x :: xs).map a.eval) (by simp [l1]) (fun i u hu => by
  cases i with
  | zero =>
   simp only [List.getElem?_cons_zero, Option.some.injEq] at hu
   subst hu
   refine ⟨a.eval x, rfl, ?_, ?_, rfl⟩
   ·rw [ex]
    simp only [SVr, CVL]
    refine ⟨_, rfl, v1, _, rfl, g1, vc, _, rfl, ?_, v2, _, rfl, g5, rfl⟩
    simp only [CVr] at g3 ⊢
    exact ⟨rfl, g3⟩
   ·have g0 : (CV.arg 0 dd).keys = [] := rfl
    simp only [SV.keys, List.flatMap_cons, List.flatMap_nil, g2, g6, g0, List.append_nil]
  | succ i =>
   obtain ⟨z, h5, h6, h7⟩ := l2 i u (by simpa using hu)
   exact ⟨a.eval z, by simp [h5], h6, h7⟩)
 refine (hf.ok w [] L0 ((x :: xs).map a.eval) (by simp [l1]) hent).mono ?_
 rintro e' w' ⟨r, res, σ', L', rfl, rfl, h3⟩
 have hg := hr.grow h3.chg
 have ht := h3.tm 0 _ (by simp [a0U]; rfl)
 have e2 := hx.run L a w' hg
 simp only [SVr, CVL] at e2
 rw [ex] at e2
 obtain ⟨vs', ex', z1, zs1, rfl, _, zc, zs2, rfl, m2, z2, zs3, rfl, _, rfl⟩ := e2
 simp only [Value.agg.injEq, Array.mk.injEq, List.cons.injEq, and_true] at ex'
 obtain ⟨rfl, rfl, rfl⟩ := ex'
 have hrr : (#[r] : Array Value).getD 0 undef = r := rfl
 rw [hrr] at ht
 simp only [SVr, TVL, CVL, if_true] at ht
 obtain ⟨rs, rfl, us1, t1, rs1, rfl, ⟨p', pl, rfl, q1, c', pl2, rfl, q2, q', pl3, rfl, q3, rfl⟩, rfl, us2, t2, rs2, rfl, ⟨n', nl, rfl, q4, rfl⟩, e5, us3, t3, rs3, rfl, ⟨b', bl, rfl, q5, rfl⟩, e6, rfl⟩ := ht
 have q2 : c' = vc := by simp only [CVr] at q2; exact q2.1
 subst q2
 refine ⟨_, rfl, hK L _ _ _ rfl ?_ ⟨h3.chg, fun _ _ _ => rfl, fun _ _ _ => rfl⟩⟩
 rw [hd]
 refine hg.put (v := .tup [(true, [p, c, q]), (false, [r1]), (false, [r2])]) (by simpa [Nat.blt_eq] using hn) ?_ ?_ (by simp [SV.boxes])
 ·simp only [SVr, TVL, CVL, if_true]
  exact ⟨_, rfl, _, _, _, rfl, ⟨p', _, rfl, b0R hp q1, c', _, rfl, m2, q', _, rfl, b0R hq q3, rfl⟩, rfl, _, _, _, rfl, ⟨n', _, rfl, b0R hr1 q4, rfl⟩, by simpa using e5, _, _, _, rfl, ⟨b', _, rfl, b0R hr2 q5, rfl⟩, by simpa using e6, rfl⟩
 ·intro k hk
  have kp : ∀ {z : CV}, z.plain = true → z.keys = [] := fun h => (b0y h).2.1
  simp only [SV.keys, List.flatMap_cons, List.flatMap_nil, List.append_nil, kp hp, kp hq, kp hr1, kp hr2, List.nil_append] at hk
  exact List.all_eq_true.1 hck k hk
section
variable {Q : Exit → St → Prop} {all : Array Oper} {rest : List Oper} {tm : List (Nat × SV)} {bx : List (Nat × TypeId × List CV)} {ks : List (Nat × Option KC)} {oB oK : List Nat} {hd' : Nat → Bool} {listed : Array Bool} {fuel : Nat}
theorem c7w {A : a1P} (i : Nat) {f : FuncId} {xs : List Operand} {ats : Array TypeId} {us : List SV} {d : Nat} {a1 c a2 u1 u2 p q r1 r2 : CV} {dd : DV} (hi : all[i]? = some o) (ht : b0O all listed A i = true) (hiA : (nos A).contains i = false) (hg : o.guard = none) (hd : o.dst = some d) (hv : VOk P all nt A ⟨tm, bx, ks⟩) (hv1 : VOk P all nt A ⟨(d, .tup [(true, [p, c, q]), (false, [r1]), (false, [r2])]) :: tm, bx, ks⟩) (ho : o.op = .call { callee := .value (.func f), args := (x :: xs).toArray, argTypes := ats }) (hn : Nat.blt d nt = true)
  (hc : ∀ (args : Array Value) (w : World), (callFunc f args).run P w = .ok (.enter f args) w) (hf : PFn P f (.agg [u1, .arg 0 dd, u2] :: us) (.tup [(true, [p, .arg 0 dd, q]), (false, [r1]), (false, [r2])]))
  (hx : Ev P C nt ⟨tm, bx, ks⟩ x (.agg [a1, c, a2])) (h1 : a2G ⟨tm, bx, ks⟩ a1 u1) (hcc : a2G ⟨tm, bx, ks⟩ c (.dv [] dd)) (h2 : a2G ⟨tm, bx, ks⟩ a2 u2) (ha : a2i P C nt ⟨tm, bx, ks⟩ xs us) (hp : p.plain = true) (hq : q.plain = true) (hr1 : r1.plain = true) (hr2 : r2.plain = true) (hck : (c.keys.all fun k => (lkk ⟨tm, bx, ks⟩ k).isSome) = true)
  (hb : (oB.all fun i => (look bx i).isSome) = true) (hk' : (oK.all fun k => (lkk ⟨tm, bx, ks⟩ k).isSome) = true)
  (h : OpsA P C nt Q all oB oK hd' A (listed.setIfInBounds i true) fuel ⟨(d, .tup [(true, [p, c, q]), (false, [r1]), (false, [r2])]) :: tm, bx, ks⟩) : OpsA P C nt Q all oB oK hd' A listed (fuel + 1) ⟨tm, bx, ks⟩ :=
 b4i i hi hg hv hiA hb hk' ht (fun B hB => EfG.mk fun L a w hr K Q' hk => by
  have he : Ext P C nt ⟨tm, bx, ks⟩ (St.adds ⟨tm, bx, ks⟩ B) := hv.ext hB
  exact (c6d (σ := St.adds ⟨tm, bx, ks⟩ B) ho hd hn hc hf (he.ev hx) (he.argC h1) (he.argC hcc) (he.argC h2) (he.args ha) hp hq hr1 hr2 (by simpa only [he.lkk] using hck)).run L a w hr K Q' fun L' σ' a' w' h1 h2 h3 => hk L' σ' a' w' (.inr (by
   subst h1
   exact fun L a w hr => hv1.perm hB hr)) h2 h3) h
end
theorem c4T (hT : TTOk P T) {t k off sz by_ : Nat} {zc : List CV} {c : KC} {ds : List DV} (ho : o.op = .store t x y) (hd : o.dst = none) (ht : look T.el t = some (sz, by_, zc)) (hx : Ev P C nt σ x (.eptr k off)) (hy : Ev P C nt σ y (.agg (a3f k off ds)))
  (hk : lkk σ k = some c) (hE : Nat.blt c.e 1000000 = true) (hds : sub off sz c.cs = ds) (hle : off + sz ≤ c.cs.length) : Ef P C nt o σ (fun σ' => σ' = σ.mut k [] true c) := Ef.mk fun L a w hr K Q hK => by
 have hE' : c.e < 1000000 := by simpa [Nat.blt_eq] using hE
 have hdl : ds.length = sz := by rw [← hds, a4A _ _ _ hle]
 have hkv : a1v σ (.agg (a3f k off ds)) = true := by
  simp only [a1v, SV.keys, SV.boxes, List.all_nil, Bool.and_true, List.all_eq_true]
  intro j hj
  rw [b3s j hj, hk]; rfl
 obtain ⟨us, h1, h2, h3⟩ := a5p (p := (true, a3f k off ds)) hr rfl hkv (hy.run L a w hr)
 have h4 := hx.run L a w hr
 simp only [SVr] at h4
 obtain ⟨g0, n0, cap0, e1, e2⟩ := h4
 obtain ⟨hpos, hcl, hro⟩ := b1A hr hk hE'
 rcases hro with ⟨e3, _⟩ | ⟨g, cap, cur, vs, f, e3, hg, hnc, hcm, hsz, htake, hfp, hown⟩
 ·rw [e1] at e3; cases e3
 rw [e1] at e3
 simp only [Value.slice.injEq, Option.some.injEq, Addr.mk.injEq, and_true, true_and] at e3
 obtain ⟨rfl, rfl, rfl⟩ := e3
 obtain ⟨inf, z, g1, g2, _⟩ := hT.el t sz by_ zc ht
 have hvl : vs.length = c.cs.length := a2L _ _ _ hown
 have hcur : c.cs.length ≤ cur.toList.length := by rw [hcl, Array.length_toList, hsz]; exact Nat.mul_le_mul_right _ hnc
 have hdvl : ∀ (ds : List DV) (off : Nat), (a3f k off ds).length = ds.length := fun ds => by
  induction ds with
  | nil => intro _; rfl
  | cons d ds ih => intro off; simp [a3f, ih]
 have hus : us.length = sz := by rw [a3j h2]; simp only [hdvl, hdl]
 have hcell : ∀ j v, vs[j]? = some v → w.cell? ⟨g0, j, none⟩ = some v := fun j v hj => by
  rw [cell_of_row w g0 j cur c.e (0, 0) hg]
  rw [← htake, List.getElem?_take] at hj
  split at hj
  ·simpa using hj
  ·cases hj
 have hX : c.cs = c.cs.take off ++ (ds ++ c.cs.drop (off + sz)) := by
  rw [← hds]
  unfold sub
  rw [← List.drop_drop, List.take_append_drop, List.take_append_drop]
 have hown2 := hown
 rw [hX] at hown2
 obtain ⟨v1, r1, f1, s1, rfl, rfl, o1, t1⟩ := a5f _ _ _ _ hown2
 obtain ⟨v2, v3, f2, f3, rfl, rfl, o2, o3⟩ := a5f _ _ _ _ t1
 have l1 := a2L _ _ _ o1
 have l2 := a2L _ _ _ o2
 have lA : (c.cs.take off).length = off := by rw [List.length_take]; omega
 have o2' : a0I w ds us f2 := b2F e1 o2 h2 (fun j v hj => hcell (off + j) v (by
  have hj' := (List.getElem?_eq_some_iff.1 hj).1
  rw [List.getElem?_append_right (by omega), List.getElem?_append_left (by omega), show off + j - v1.length = j by omega]
  exact hj))
 have hnew : a0I w c.cs (v1 ++ (us ++ v3)) (f1 ++ (f2 ++ f3)) := by
  rw [hX]
  exact a3m _ _ _ _ _ _ o1 (a3m _ _ _ _ _ _ o2' o3)
 have evs : a1a off us (cur.toList.take (c.n * c.sz)) = v1 ++ (us ++ v3) := by
  rw [htake]
  exact a6U (by omega) (by omega)
 have hnd := hr.kn k c hk
 rw [hfp, List.nodup_cons] at hnd
 have hrun := a7L (P := P) (vs := cur.toList) (z := z) (off := off) (t' := c.e) g1 g2 h1 hus h3 (by simpa using hg) (by omega)
 have hrel := hr.wrow (off := off) (us := us) (cs' := c.cs) (f' := f1 ++ (f2 ++ f3)) hk hE' e1 hg hnc hcm hsz hpos (by rw [← hcl]; omega) (by rw [evs]; exact hnew)
  (fun b hb => ⟨by rw [hfp]; exact List.mem_cons_of_mem _ hb, fun e => hnd.1 (by rw [← e]; exact hb)⟩) (by rw [hfp]; simp) hnd.2 hcl
 unfold Oper.wp execOp
 simp only [ho, e2, Sem.run_bind, hrun, Result.andThen_ok, Sem.run_pure, Oper.upon, hd, Act.put]
 exact hK _ _ _ _ rfl hrel
theorem c3w {Q : Exit → St → Prop} {all : Array Oper} {rest : List Oper} {tm : List (Nat × SV)} {bx : List (Nat × TypeId × List CV)} {ks : List (Nat × Option KC)} (hT : TTOk P T) {t k off sz by_ : Nat} {zc : List CV} {c : KC} {ds : List DV} (hg : o.guard = none) (hd : o.dst = none) (ho : o.op = .store t x y) (ht : look T.el t = some (sz, by_, zc)) (hx : Ev P C nt ⟨tm, bx, ks⟩ x (.eptr k off)) (hy : Ev P C nt ⟨tm, bx, ks⟩ y (.agg (a3f k off ds)))
  (hk : lkk ⟨tm, bx, ks⟩ k = some c) (hE : Nat.blt c.e 1000000 = true) (hds : sub off sz c.cs = ds) (hle : off + sz ≤ c.cs.length)
  (h : Ops P C nt Q all rest ⟨a0l [k] [] tm, a0j [k] [] bx, (k, some c) :: ks⟩) : Ops P C nt Q all (o :: rest) ⟨tm, bx, ks⟩ := a3x hg (c4T hT ho hd ht hx hy hk hE hds hle) h
end
structure OpsX (P : Program) (C : Ctx) (nt : Nat) (Q : Exit → St → Prop) (all : Array Oper) (oB oK : List Nat) (b : Nat) (hd' : Nat → Bool) (listed : Array Bool) (fuel : Nat) (σ : St) : Prop where
 run : ∀ wb L a w, Rel P C nt L σ a w → SWX (L.bb b) wb w → C.w0.heap.size ≤ wb.heap.size → (∀ i ∈ oB, L.bb i < wb.heap.size) → (∀ k ∈ oK, ∀ b ∈ L.fp k, b < wb.heap.size) → a2u P .any all (QQ P C nt Q) (SWX (L.bb b) wb) hd' fuel listed a w
section
variable {P : Program} {C : Ctx} {nt : Nat} {Q : Exit → St → Prop} {all : Array Oper} {oB oK : List Nat} {hd' : Nat → Bool} {listed : Array Bool} {fuel b : Nat} {tm : List (Nat × SV)} {bx : List (Nat × TypeId × List CV)} {ks : List (Nat × Option KC)} {o : Oper} {d : Nat} {v X : SV} {Ks Bs : List Nat} {g : Bool} {x y : Operand} {T : TT}
theorem b8l (b : Nat) (hs : List Nat) {id : Nat} {l : List Oper} (hm : P.follows .mixedOrders = true) (hb : (oB.all fun i => (look bx i).isSome) = true) (hk : (oK.all fun k => (lkk ⟨tm, bx, ks⟩ k).isSome) = true)
  (h : OpsX P C nt Q l.toArray oB oK b (fun i => hs.contains i) (Array.replicate l.length false) l.length ⟨tm, bx, ks⟩) : Ok P C nt Q (.region id l.toArray true) ⟨tm, bx, ks⟩ := Ok.mk fun L a w hr => by
 have hr' := b1d hr
 refine b1n (SWX (L.bb b) w.drew) (fun i => hs.contains i) hm ?_
 have := h.run w.drew L a w.drew hr' (SWX.refl _ _) hr'.chg.size (fun i hi => ?_) (fun k hk' b hb' => ?_)
 ·simpa using this
 ·obtain ⟨x, hx⟩ := Option.isSome_iff_exists.1 (List.all_eq_true.1 hb i hi)
  exact hr'.bx_lt hx
 ·obtain ⟨c, hc⟩ := Option.isSome_iff_exists.1 (List.all_eq_true.1 hk k hk')
  exact hr'.k_lt hc b hb'
theorem a4X (i : Nat) (hi : all[i]? = some o) (ht : a5m .any all hd' listed i = true) (hg : o.guard = none) (hd : o.dst = some d) (hp : Pu P C nt o ⟨tm, bx, ks⟩ v Ks Bs) (h1 : (Ks.all fun k => oK.contains k && (lkk ⟨tm, bx, ks⟩ k).isSome) = true) (h2 : (Bs.all fun k => oB.contains k && (!(Nat.beq k b) && (look bx k).isSome)) = true) (h3 : (look bx b).isSome = true) (hn : Nat.blt d nt = true) (hk : a1v ⟨tm, bx, ks⟩ v = true)
  (h : OpsX P C nt Q all oB oK b hd' (listed.setIfInBounds i true) fuel ⟨(d, v) :: tm, bx, ks⟩) : OpsX P C nt Q all oB oK b hd' listed (fuel + 1) ⟨tm, bx, ks⟩ := ⟨fun wb L a w hr hs hw hB hK => by
 obtain ⟨r, q3, q4⟩ := hp.run L a w hr
 obtain ⟨xb, hxb⟩ := Option.isSome_iff_exists.1 h3
 have hy : ∀ w', SWX (L.bb b) wb w' → (execOp a.eval o).run P w' = .ok (.value r) w' := fun w' hs' => q4 w' fun z _ hu => by
  have hz : z < wb.heap.size ∧ z ≠ L.bb b := by
   rcases hu with (⟨h5, h6⟩ | ⟨k, hk, hb⟩) | ⟨i, hi, rfl⟩
   ·refine ⟨by omega, fun e => ?_⟩
    rcases hr.b1 b xb hxb with g | g
    ·omega
    ·exact h6 (by rw [e]; exact g)
   ·have := List.all_eq_true.1 h1 k hk
    simp only [Bool.and_eq_true, List.contains_iff_mem] at this
    obtain ⟨c, hc⟩ := Option.isSome_iff_exists.1 this.2
    exact ⟨hK k this.1 z hb, fun e => hr.bk b k xb c hxb hc (by rw [← e]; exact hb)⟩
   ·have := List.all_eq_true.1 h2 i hi
    simp only [Bool.and_eq_true, List.contains_iff_mem, Bool.not_eq_true'] at this
    obtain ⟨c, hc⟩ := Option.isSome_iff_exists.1 this.2.2
    exact ⟨hB i this.1, hr.bb i b c xb hc hxb (Nat.ne_of_beq_eq_false this.2.1)⟩
  rw [hs'.2 z hz.1 hz.2, hs.2 z hz.1 hz.2]
 refine a7g i (v := r) hi ht (fun _ _ _ h => h) hs (.inl ⟨by simp [Region.wanted, hg], hy⟩) ?_
 rw [hd]
 exact h.run wb L _ w (hr.put (by simpa [Nat.blt_eq] using hn) q3 (a2d hk).1 (a2d hk).2) hs hw hB hK⟩
theorem b7G (i : Nat) {t j t' sz by_ : Nat} {zc cs : List CV} {p : Bool × List CV} (hi : all[i]? = some o) (ht : (Region.ready .any all listed == [i]) = true) (hg : o.guard = none) (hT : TTOk P T) (ho : o.op = .store t x y) (hd : o.dst = none) (hte : look T.el t = some (sz, by_, zc)) (hx : Ev P C nt ⟨tm, bx, ks⟩ x (.box b j)) (hy : Ev P C nt ⟨tm, bx, ks⟩ y v) (hp : v.part = some p) (hk : a1v ⟨tm, bx, ks⟩ v = true)
  (hb : look bx b = some (t', cs)) (hl : p.2.length = sz) (hle : Nat.ble (j + sz) cs.length = true) (hkc : (cs.flatMap CV.keys).all (fun k => (lkk ⟨tm, bx, ks⟩ k).isSome) = true)
  (h : OpsX P C nt Q all oB oK b hd' (listed.setIfInBounds i true) fuel ⟨tm, (b, t', a1a j p.2 cs) :: bx, ks⟩) : OpsX P C nt Q all oB oK b hd' listed (fuel + 1) ⟨tm, bx, ks⟩ := ⟨fun wb L a w hr hs hw hB hK => by
 refine a7R i hi hg ht fun K hK' => ?_
 obtain ⟨us, h1, h2, h3⟩ := a5p hr hp hk (hy.run L a w hr)
 have h4 := hx.run L a w hr
 simp only [SVr] at h4
 obtain ⟨vs, h5, h6⟩ := hr.bx b t' cs hb
 obtain ⟨inf, z, g1, g2, _⟩ := hT.el t sz by_ zc hte
 have hrun := a7L (z := z) g1 g2 h1 (by rw [a3j h2]; exact hl) h3 h5 (off := j) (by rw [a3j h6]; simpa [Nat.ble_eq] using hle)
 unfold Oper.wp execOp
 simp only [ho, h4, Sem.run_bind, hrun, Result.andThen_ok, Sem.run_pure, Oper.upon, hd, Act.put]
 have hs' := hs.chg (a7H w (L.bb b) (a1a j us vs).toArray)
 refine hK' _ _ (fun _ => hs') (h.run wb L _ _ (hr.setbox hb (a7H _ _ _) (setRow_heap _ _ _ _ _ _ h5) (b1X j h6 h2) ?_) hs' hw hB hK)
 intro k hm
 simp only [a1a, List.flatMap_append, List.mem_append, or_assoc] at hm
 simp only [List.all_eq_true] at hkc
 rcases hm with hm | hm | hm
 ·exact hkc k (by
   obtain ⟨c, hc, hk'⟩ := List.mem_flatMap.1 hm
   exact List.mem_flatMap.2 ⟨c, List.mem_of_mem_take hc, hk'⟩)
 ·rw [a5r hp] at hm; exact (a2d hk).1 k hm
 ·exact hkc k (by
   obtain ⟨c, hc, hk'⟩ := List.mem_flatMap.1 hm
   exact List.mem_flatMap.2 ⟨c, List.mem_of_mem_drop hc, hk'⟩)⟩
theorem b7v (is : List Nat) (hm : (is.all fun i => (all[i]?).isSome) = true) (hf : Nat.ble is.length fuel = true) (hc : a8B .any all hd' is listed = true) (h : Ops P C nt Q all (is.filterMap fun i => all[i]?) ⟨tm, bx, ks⟩) : OpsX P C nt Q all oB oK b hd' listed fuel ⟨tm, bx, ks⟩ := ⟨fun wb L a w hr _ _ _ _ =>
 b0I is _ listed fuel a w (b1h hm) (by simpa [Nat.ble_eq] using hf) hc (h.run L a w hr)⟩
theorem b9c (i : Nat) {R : St → Prop} (hi : all[i]? = some o) (ht : (Region.ready .any all listed == [i]) = true) (hg : o.guard = none) (hp : EfG P C nt o ⟨tm, bx, ks⟩ R) (hb : (oB.all fun i => (look bx i).isSome) = true) (hk : (oK.all fun k => (lkk ⟨tm, bx, ks⟩ k).isSome) = true) (hbb : (look bx b).isSome = true)
  (h : ∀ σ', R σ' → OpsX P C nt Q all oB oK b hd' (listed.setIfInBounds i true) fuel σ') : OpsX P C nt Q all oB oK b hd' listed (fuel + 1) ⟨tm, bx, ks⟩ := ⟨fun wb L a w hr hs hw hB hK => by
 refine a7R i hi hg ht fun K hK' => hp.run L a w hr _ _ fun L' σ' a' w' h1 h2 h3 => ?_
 obtain ⟨xb, hxb⟩ := Option.isSome_iff_exists.1 hbb
 have eb : L'.bb b = L.bb b := h3.box b xb hxb
 have hs' : SWX (L.bb b) wb w' := hs.chg (h3.chg.mono (by simp))
 refine hK' _ _ (fun _ => hs') ?_
 have := (h σ' h1).run wb L' a' w' h2 (by rw [eb]; exact hs') hw (fun j hj => ?_) (fun k hk' => ?_)
 ·rwa [eb] at this
 ·obtain ⟨x, hx⟩ := Option.isSome_iff_exists.1 (List.all_eq_true.1 hb j hj)
  rw [h3.box j x hx]; exact hB j hj
 ·obtain ⟨c, hc⟩ := Option.isSome_iff_exists.1 (List.all_eq_true.1 hk k hk')
  rw [h3.key k c hc]; exact hK k hk'⟩
theorem c4l (i : Nat) {f : FuncId} {xs : List Operand} {ats : Array TypeId} {us : List SV} (hi : all[i]? = some o) (ht : (Region.ready .any all listed == [i]) = true) (hg : o.guard = none) (hd : o.dst = some d) (ho : o.op = .call { callee := .value (.func f), args := xs.toArray, argTypes := ats })
  (hc : ∀ (args : Array Value) (w : World), (callFunc f args).run P w = .ok (.enter f args) w) (hf : PFn P f us X) (ha : a2i P C nt ⟨tm, bx, ks⟩ xs us) (hp : X.plain = true) (hn : Nat.blt d nt = true)
  (hb : (oB.all fun i => (look bx i).isSome) = true) (hk : (oK.all fun k => (lkk ⟨tm, bx, ks⟩ k).isSome) = true) (hbb : (look bx b).isSome = true)
  (h : OpsX P C nt Q all oB oK b hd' (listed.setIfInBounds i true) fuel ⟨(d, X) :: tm, bx, ks⟩) : OpsX P C nt Q all oB oK b hd' listed (fuel + 1) ⟨tm, bx, ks⟩ :=
 b9c i hi ht hg ((a8l ho hc hf hp ha).efg hd hn) hb hk hbb fun σ' ⟨v, hv, e⟩ => by rw [e, hv]; exact h
theorem c3r (m i : Nat) {f : FuncId} {xs : List Operand} {ats : Array TypeId} {us : List SV} {kk : List (Nat × Option KC)} (hi : all[i]? = some o) (ht : (Region.ready .any all listed == [i]) = true) (hg : o.guard = none) (hd : o.dst = some d) (ho : o.op = .call { callee := .value (.func f), args := xs.toArray, argTypes := ats })
  (hc : ∀ (args : Array Value) (w : World), (callFunc f args).run P w = .ok (.enter f args) w) (hf : KFn P f us v kk) (ha : a2i P C nt ⟨tm, bx, ks⟩ xs us) (hn : Nat.blt d nt = true) (hres : v.retOk = true) (hfree : (kk.all fun q => (lkk ⟨tm, bx, ks⟩ (m + q.1)).isNone) = true)
  (hb : (oB.all fun i => (look bx i).isSome) = true) (hk : (oK.all fun k => (lkk ⟨tm, bx, ks⟩ k).isSome) = true) (hbb : (look bx b).isSome = true)
  (h : OpsX P C nt Q all oB oK b hd' (listed.setIfInBounds i true) fuel ⟨(d, v.sh m) :: tm, bx, shK m kk ++ ks⟩) : OpsX P C nt Q all oB oK b hd' listed (fuel + 1) ⟨tm, bx, ks⟩ :=
 b9c i hi ht hg (a9e (ι := Unit) (v := fun _ => v) (kk := fun _ => kk) (p := fun _ => True) m ho hd hn hc hf.ok ha (fun u σ' h => ⟨(), h.1, h.2, trivial⟩) (fun _ => hres) (fun _ => hfree)) hb hk hbb fun σ' ⟨_, _, e⟩ => by rw [e]; exact h
end
section
variable {P : Program} {C : Ctx} {nt : Nat} {o : Oper} {x y : Operand} {T : TT} {Q : Exit → St → Prop} {N : St → Prop} {all : Array Oper} {rest : List Oper} {σ : St} {tm : List (Nat × SV)} {bx : List (Nat × TypeId × List CV)} {ks : List (Nat × Option KC)} {d t : Nat} {v : SV} {ty : TypeId} {ps : String} {af : Array Edge}
theorem yA (e : o = { dst := some d, op := .move (.tmp t), type := ty, pos := ps, after := af, guard := none }) (hl : look tm t = some v) (hk : (Nat.blt d nt && a1v ⟨tm, bx, ks⟩ v) = true) (h : Ops P C nt Q all rest ⟨(d, v) :: tm, bx, ks⟩) : Ops P C nt Q all (o :: rest) ⟨tm, bx, ks⟩ := a6n (by rw [e]) (by rw [e]) (a2c (.inl (by rw [e])) (a0a hl)) (Bool.and_eq_true_iff.1 hk).1 (Bool.and_eq_true_iff.1 hk).2 h
theorem yB (e : o = { dst := some d, op := .assign (.tmp t), type := ty, pos := ps, after := af, guard := none }) (hl : look tm t = some v) (hk : (Nat.blt d nt && a1v ⟨tm, bx, ks⟩ v) = true) (h : Ops P C nt Q all rest ⟨(d, v) :: tm, bx, ks⟩) : Ops P C nt Q all (o :: rest) ⟨tm, bx, ks⟩ := a6n (by rw [e]) (by rw [e]) (a2c (.inr (by rw [e])) (a0a hl)) (Bool.and_eq_true_iff.1 hk).1 (Bool.and_eq_true_iff.1 hk).2 h
theorem yC {s f off b i : Nat} (hT : TTOk P T) (e : o = { dst := some d, op := .fieldAddr s (.tmp t) f, type := ty, pos := ps, after := af, guard := none }) (h1 : look T.of (1000 * s + f) = some off) (hf : Nat.blt f 1000 = true) (hl : look tm t = some (.box b i)) (hk : (Nat.blt d nt && a1v ⟨tm, bx, ks⟩ (.box b (i + off))) = true) (h : Ops P C nt Q all rest ⟨(d, .box b (i + off)) :: tm, bx, ks⟩) : Ops P C nt Q all (o :: rest) ⟨tm, bx, ks⟩ := a6n (by rw [e]) (by rw [e]) (a6w hT (by rw [e]) h1 hf (a0a hl)) (Bool.and_eq_true_iff.1 hk).1 (Bool.and_eq_true_iff.1 hk).2 h
theorem yD {s n b i t' : Nat} {cs : List CV} (hT : TTOk P T) (e : o = { dst := some d, op := .load s (.tmp t), type := ty, pos := ps, after := af, guard := none }) (h1 : look T.ag s = some n) (hl : look tm t = some (.box b i)) (hb : look bx b = some (t', cs)) (h2 : Nat.ble (i + n) cs.length = true) (hk : (Nat.blt d nt && a1v ⟨tm, bx, ks⟩ (.agg (sub i n cs))) = true) (h : Ops P C nt Q all rest ⟨(d, .agg (sub i n cs)) :: tm, bx, ks⟩) : Ops P C nt Q all (o :: rest) ⟨tm, bx, ks⟩ := a6n (by rw [e]) (by rw [e]) (a6B hT (by rw [e]) h1 (a0a hl) hb h2) (Bool.and_eq_true_iff.1 hk).1 (Bool.and_eq_true_iff.1 hk).2 h
theorem yE {s b i t' : Nat} {cs : List CV} {c : CV} {u : Unit} (hT : TTOk P T) (e : o = { dst := some d, op := .load s (.tmp t), type := ty, pos := ps, after := af, guard := none }) (h1 : look T.on s = some u) (hl : look tm t = some (.box b i)) (hb : look bx b = some (t', cs)) (h2 : cs[i]? = some c) (hk : (Nat.blt d nt && a1v ⟨tm, bx, ks⟩ (.one c)) = true) (h : Ops P C nt Q all rest ⟨(d, .one c) :: tm, bx, ks⟩) : Ops P C nt Q all (o :: rest) ⟨tm, bx, ks⟩ := a6n (by rw [e]) (by rw [e]) (a4N hT (by rw [e]) h1 (a0a hl) hb h2) (Bool.and_eq_true_iff.1 hk).1 (Bool.and_eq_true_iff.1 hk).2 h
theorem yG {k : IntKind} {n : Int} (e : o = { dst := some d, op := .assign (.const (.int k n)), type := ty, pos := ps, after := af, guard := none }) (h1 : (decide (k.min ≤ n) && decide (n ≤ k.max)) = true) (hk : (Nat.blt d nt && a1v ⟨tm, bx, ks⟩ (.one (.dv [] (.int k n)))) = true) (h : Ops P C nt Q all rest ⟨(d, .one (.dv [] (.int k n))) :: tm, bx, ks⟩) : Ops P C nt Q all (o :: rest) ⟨tm, bx, ks⟩ := a6n (by rw [e]) (by rw [e]) (a2c (.inr (by rw [e])) (a0p (a0o h1))) (Bool.and_eq_true_iff.1 hk).1 (Bool.and_eq_true_iff.1 hk).2 h
theorem yH {b : Bool} (e : o = { dst := some d, op := .assign (.const (.bool b)), type := ty, pos := ps, after := af, guard := none }) (hk : (Nat.blt d nt && a1v ⟨tm, bx, ks⟩ (.one (.dv [] (.bool b)))) = true) (h : Ops P C nt Q all rest ⟨(d, .one (.dv [] (.bool b))) :: tm, bx, ks⟩) : Ops P C nt Q all (o :: rest) ⟨tm, bx, ks⟩ := a6n (by rw [e]) (by rw [e]) (a2c (.inr (by rw [e])) a0J) (Bool.and_eq_true_iff.1 hk).1 (Bool.and_eq_true_iff.1 hk).2 h
theorem yR {id : Nat} {l : List Oper} {c : Code} (h : Ops P C nt (a5h (Ok P C nt Q c) Q) l.toArray l σ) : Ok P C nt Q (.seq (.region id l.toArray false) c) σ := a0q (a0k h)
theorem yN (h : N σ) : Ops P C nt (a5h N Q) all [] σ := a1t (a2p h)
theorem yO {Ks Bs : List Nat} (hg : o.guard = none) (hd : o.dst = some d) (hp : Pu P C nt o ⟨tm, bx, ks⟩ v Ks Bs) (hk : (Nat.blt d nt && a1v ⟨tm, bx, ks⟩ v) = true) (h : Ops P C nt Q all rest ⟨(d, v) :: tm, bx, ks⟩) : Ops P C nt Q all (o :: rest) ⟨tm, bx, ks⟩ := a6n hg hd hp (Bool.and_eq_true_iff.1 hk).1 (Bool.and_eq_true_iff.1 hk).2 h
theorem yS {s b i t' t2 sz by_ : Nat} {zc cs : List CV} {p : Bool × List CV} (hT : TTOk P T) (e : o = { dst := none, op := .store s (.tmp t) (.tmp t2), type := ty, pos := ps, after := af, guard := none }) (ht : look T.el s = some (sz, by_, zc)) (hx : look tm t = some (.box b i)) (hy : look tm t2 = some v) (hp : v.part = some p)
  (hb : look bx b = some (t', cs)) (hl : p.2.length = sz) (hk : (a1v ⟨tm, bx, ks⟩ v && (Nat.ble (i + sz) cs.length && (cs.flatMap CV.keys).all (fun k => (lkk ⟨tm, bx, ks⟩ k).isSome))) = true) (h : Ops P C nt Q all rest ⟨tm, (b, t', a1a i p.2 cs) :: bx, ks⟩) : Ops P C nt Q all (o :: rest) ⟨tm, bx, ks⟩ := by
 simp only [Bool.and_eq_true] at hk
 exact c4s hT (by rw [e]) (by rw [e]) (by rw [e]) ht (a0a hx) (a0a hy) hp hk.1 hb hl hk.2.1 hk.2.2 h
theorem yF {c : Code} {cs : List CV} {K : List Nat} {dd : DV} (t i : Nat) (hl : look σ.tm t = some (.agg cs)) (hi : cs[i]? = some (.dv K dd)) (h : a9R dd → Ok P C nt Q c σ) : Ok P C nt Q c σ := c3e (x := .tmp t) i (a0a hl) hi h
theorem yX {s : TypeId} {p : Bool × List CV} (e : o = { dst := some d, op := .box s (.tmp t), type := ty, pos := ps, after := af, guard := none }) (hl : look tm t = some v) (hp : v.part = some p) (hk : a1v ⟨tm, bx, ks⟩ v = true) (hn : Nat.blt d nt = true) (hi : look bx d = none)
  (h : Ops P C nt Q all rest ⟨(d, .box d 0) :: tm, (d, s, p.2) :: bx, ks⟩) : Ops P C nt Q all (o :: rest) ⟨tm, bx, ks⟩ := c0Y (by rw [e]) (by rw [e]) (by rw [e]) (a0a hl) hp hk hn hi h
theorem kk : (∀ (α β : Type) (f : α → β) (a : α) (l : List α), (a :: l).map f = f a :: l.map f) ∧ (∀ (α β : Type) (f : α → β), ([] : List α).map f = []) ∧ (∀ (p : Nat → Bool) (a : Nat) (l : List Nat), (a :: l).any p = (p a || l.any p)) ∧ (∀ p : Nat → Bool, ([] : List Nat).any p = false) ∧ (∀ (a b : Nat) (l : List Nat), (a :: l).contains b = (b == a || l.contains b)) ∧ (∀ b : Nat, ([] : List Nat).contains b = false) ∧
  (∀ (α : Type) (l : List α), [] ++ l = l) ∧ (∀ (α : Type) (a : α) (l m : List α), a :: l ++ m = a :: (l ++ m)) ∧ (∀ b, (b || false) = b) ∧ (∀ b, (false || b) = b) ∧ (∀ b, (b || true) = true) ∧ (∀ b, (true || b) = true) ∧ (∀ (α : Type) (a b : α), (bif true then a else b) = a) ∧ (∀ (α : Type) (a b : α), (bif false then a else b) = b) := by
 refine ⟨fun _ _ _ _ _ => rfl, fun _ _ _ => rfl, fun _ _ _ => rfl, fun _ => rfl, fun a b l => List.contains_cons, fun _ => rfl, fun _ _ => rfl, fun _ _ _ _ => rfl, ?_, ?_, ?_, ?_, fun _ _ _ => rfl, fun _ _ _ => rfl⟩ <;> (intro b; cases b <;> rfl)
theorem yQ {c c' : Code} {K : List Nat} {b : Bool} (hl : look σ.tm t = some (.one (.dv K (.bool b)))) (h1 : b = true → Ok P C nt Q c σ) (h2 : b = false → Ok P C nt Q c' σ) : Ok P C nt Q (.cond (.tmp t) c c') σ := c6X (a0a hl) h1 h2
theorem yP {ty' s : TypeId} {K : List Nat} {m n : Int} (e : o = { dst := some d, op := .binOp .add s (.tmp t) (.const (.int .i64 n)) ty', type := ty, pos := ps, after := af, guard := none }) (hl : look tm t = some (.one (.dv K (.int .i64 m)))) (hi : (decide (IntKind.i64.min ≤ n) && decide (n ≤ IntKind.i64.max)) = true) (h1 : -9223372036854775808 ≤ m + n) (h2 : m + n ≤ 9223372036854775807) (hk : (Nat.blt d nt && a1v ⟨tm, bx, ks⟩ (.one (.dv [] (.int .i64 (m + n))))) = true) (h : Ops P C nt Q all rest ⟨(d, .one (.dv [] (.int .i64 (m + n)))) :: tm, bx, ks⟩) : Ops P C nt Q all (o :: rest) ⟨tm, bx, ks⟩ := a6n (by rw [e]) (by rw [e]) (a3Q (by rw [e]) (a0a hl) (a0p (a0o hi)) (a2y h1 h2)) (Bool.and_eq_true_iff.1 hk).1 (Bool.and_eq_true_iff.1 hk).2 h
end
set_option maxHeartbeats 4000000 in
set_option maxRecDepth 100000 in
theorem c4g {e sz by_ n vc : Nat} {z : Value} {v : Value} {xs us : List Value} {va : Addr} {w : World} (ht : Tryz.prog.underlying 76 = some (.slice e)) (hinfo : (Tryz.prog.info? e).map (fun i => (i.zero, i.size, i.bytes)) = some (some z, sz, by_)) (hzs : z.cells.size = sz) (hsz : 0 < sz)
  (hown : w.ownsRow 0 e sz v n xs) (hsrc : a2z w (some va) 1 sz us) (h1 : ∀ u ∈ us, u.oneCell' = true) (h63 : n + 1 ≤ maxLen) (hb : (n + 1) * by_ ≤ 140737488355328) :
  Calls Tryz.prog 152 #[v, .int .i64 n, .slice (some va) 1 vc] w (a4j w v e sz n n xs us) := by
 have hm : n ≤ 9223372036854775807 := by unfold maxLen at h63; omega
 have hx1 : xs.length = n * sz := hown.1
 have hso : ∀ w, (Go.sizeOf e).run Tryz.prog w = .ok sz w := fun w => by
  obtain ⟨i0, q1, q2, q3, q4⟩ := info_parts hinfo
  simp [sizeOf, typeInfo, q1, q3]
 have hfin : ∀ A' c' w', w'.ownsRow 0 e sz (.slice A' (n + 1) c') (n + 1) (xs ++ us) → Chg v.ownBlock.toList w w' → (v.ownBlock = (Value.slice A' (n + 1) c').ownBlock ∨ (Value.slice A' (n + 1) c').ownBlock = some w.heap.size) → a4j w v e sz n n xs us (.returned (.slice A' (n + 1) c')) w' := fun A' c' w' g1 g2 g3 =>
  ⟨A', c', rfl, by rw [← hx1]; simpa using g1, g2, g3⟩
 rcases hown.2 with ⟨rfl, rfl⟩ | ⟨g, cap, cur, rfl, _, hg, hnc, hcm, hcs, htk⟩
 ·have HO := Lib.hid hown
  have HF := Lib.hid hfin
  have HS := Lib.hid hsrc
  have H1 := Lib.hid h1
  clear hown hfin hsrc h1 hx1
  go_enter Tryz.func152, Tryz.ntmps152
  go_wp2_with (at_builtin; refine a9X _ rfl _ _ 76 rfl e z sz by_ ht hinfo hzs hsz _ 0 xs rfl HO (some va) 1 vc us rfl HS H1 h63 hb ?_; intro A' c' w' h9 hchg hblk)
  all_goals (go_ret; exact HF _ _ _ h9 hchg hblk)
 ·have HO := Lib.hid hown
  have HF := Lib.hid hfin
  have HS := Lib.hid hsrc
  have H1 := Lib.hid h1
  have HG := Lib.hid hg
  have HT := Lib.hid htk
  have hc63 : cap ≤ 9223372036854775807 := by unfold maxLen at hcm; omega
  clear hown hfin hsrc h1 hx1 hg htk
  go_enter Tryz.func152, Tryz.ntmps152
  go_wp2_with (at_builtin; refine a9X _ rfl _ _ 76 rfl e z sz by_ ht hinfo hzs hsz _ n xs rfl HO (some va) 1 vc us rfl HS H1 h63 hb ?_; intro A' c' w' h9 hchg hblk)
  all_goals (go_ret; exact HF _ _ _ h9 hchg hblk)
set_option maxHeartbeats 4000000 in
set_option maxRecDepth 100000 in
theorem c3b {e sz by_ n i cap vb vcap e2 : Nat} {z : Value} {g : Nat} {xs us : List Value} {w : World} {cur curv : Array Value} (ht : Tryz.prog.underlying 76 = some (.slice e)) (hinfo : (Tryz.prog.info? e).map (fun i => (i.zero, i.size, i.bytes)) = some (some z, sz, by_)) (hsz : 0 < sz)
  (hxl : xs.length = n * sz) (hg : w.heap[g]? = some (.cells cur e (0, 0))) (hcm : cap ≤ maxLen) (hcs : cur.size = cap * sz) (htk : cur.toList.take (n * sz) = xs) (hx1 : ∀ u ∈ xs, u.oneCell' = true)
  (hgv : w.heap[vb]? = some (.cells curv e2 (0, 0))) (hul : us.length = sz) (hvs : curv.toList.take sz = us) (h1 : ∀ u ∈ us, u.oneCell' = true) (hne : vb ≠ g) (hi : i < n) (hroom : n + 1 ≤ cap) :
  Calls Tryz.prog 152 #[.slice (some ⟨g, 0, none⟩) n cap, .int .i64 i, .slice (some ⟨vb, 0, none⟩) 1 vcap] w (a4j w (.slice (some ⟨g, 0, none⟩) n cap) e sz n i xs us) := by
 have hso : ∀ w, (Go.sizeOf e).run Tryz.prog w = .ok sz w := fun w => by
  obtain ⟨i0, q1, q2, q3, q4⟩ := info_parts hinfo
  simp [sizeOf, typeInfo, q1, q3]
 have hsi : (Tryz.prog.info? e).map (·.size) = some sz := by
  obtain ⟨i0, q1, q2, q3, q4⟩ := info_parts hinfo
  rw [q1]; simp [q3]
 have hc63 : cap ≤ 9223372036854775807 := by unfold maxLen at hcm; omega
 have hz2 : ¬ ((i : Int) = (n : Int)) := by omega
 have hw1 : IntKind.i64.wrap ((i : Int) + 1) = (i : Int) + 1 := by rw [IntKind.wrap_i64]; omega
 have hw2 : IntKind.i64.wrap ((n : Int) + 1) = (n : Int) + 1 := by rw [IntKind.wrap_i64]; omega
 have hb1 : (0 : Int) ≤ (i : Int) + 1 := by omega
 have hin : i ≤ n := by omega
 have htn : ((i : Int) + 1).toNat = i + 1 := by omega
 have htn2 : ((n : Int) + 1).toNat = n + 1 := by omega
 have hb2 : ¬ (cap = i + 1) := by omega
 have hb3 : (i : Int) ≤ (n : Int) + 1 := by omega
 have hb4 : ¬ (cap = i) := by omega
 have hov : ∀ off lb cb, (callFunc 164 #[.slice (some ⟨vb, 0, none⟩) 1 vcap, .slice (some ⟨g, off, none⟩) lb cb]).run Tryz.prog w = .ok (.value (.bool false)) w := fun off lb cb => by
  rw [run_callFunc_extern Tryz.func164 (by kernel_rfl) (by kernel_rfl) (by kernel_rfl) (e := Extern.SlicesOverlaps.overlaps #[76, 76] #[4]) (by kernel_rfl),
   Lib.run_overlaps_apart w 76 4 e ht sz hso ⟨vb, 0, none⟩ ⟨g, off, none⟩ 1 vcap lb cb hne e2 e curv.size cur.size (by simp [World.shape?, hgv]) (by simp [World.shape?, hg]) (by rw [hcs]; exact Nat.ne_of_gt (Nat.mul_pos (by omega) hsz)) (by simp [World.frozen?, hgv]) (by simp [World.frozen?, hgv])]
  rfl
 have mixed : Tryz.prog.follows .mixedOrders = true := by kernel_rfl
 have hdl : (xs.drop (i * sz)).length = (n - i) * sz := by rw [List.length_drop, hxl, Nat.sub_mul]
 have m1 : (n + 1) * sz ≤ cap * sz := Nat.mul_le_mul_right _ hroom
 have m2 : (i + 1) * sz + (n - i) * sz = (n + 1) * sz := by rw [← Nat.add_mul]; congr 1; omega
 have m3 : i * sz + (n - i) * sz = n * sz := by rw [← Nat.add_mul]; congr 1; omega
 have m4 : (i + 1) * sz = i * sz + sz := by rw [Nat.add_mul, Nat.one_mul]
 have m5 : (n + 1) * sz = n * sz + sz := by rw [Nat.add_mul, Nat.one_mul]
 have hcur : ∀ j, j < n * sz → cur[j]? = xs[j]? := fun j hj => by rw [← htk, List.getElem?_take, if_pos hj, Array.getElem?_toList]
 obtain ⟨cur1, hcur1⟩ : ∃ cur1 : Array Value, cur1 = (cur.toList.take ((i + 1) * sz) ++ xs.drop (i * sz) ++ cur.toList.drop ((i + 1) * sz + (xs.drop (i * sz)).length)).toArray := ⟨_, rfl⟩
 obtain ⟨cur2, hcur2⟩ : ∃ cur2 : Array Value, cur2 = (cur1.toList.take (i * sz) ++ us ++ cur1.toList.drop (i * sz + us.length)).toArray := ⟨_, rfl⟩
 have hs1 : cur1.size = cap * sz := by
  rw [hcur1]
  simp only [List.size_toArray, List.length_append, List.length_take, List.length_drop, Array.length_toList, hcs, hxl]
  omega
 have hs2 : cur2.size = cap * sz := by
  rw [hcur2]
  simp only [List.size_toArray, List.length_append, List.length_take, List.length_drop, Array.length_toList, hs1, hul]
  omega
 have htk2 : cur2.toList.take ((n + 1) * sz) = xs.take (i * sz) ++ us ++ xs.drop (i * sz) := by
  have e1 : cur1.toList.take (i * sz) = xs.take (i * sz) := by
   rw [hcur1, ← htk, List.take_take, List.append_assoc, List.take_append_of_le_length (by simp only [List.length_take, Array.length_toList, hcs]; omega), List.take_take]
   congr 1; omega
  have e2 : (cur1.toList.drop (i * sz + us.length)).take ((n - i) * sz) = xs.drop (i * sz) := by
   rw [hcur1, hul, ← m4]
   have l1 : (cur.toList.take ((i + 1) * sz)).length = (i + 1) * sz := by simp only [List.length_take, Array.length_toList, hcs]; omega
   simp only [List.append_assoc]
   rw [List.drop_append_of_le_length (by omega), List.drop_eq_nil_of_le (by omega), List.nil_append, List.take_append_of_le_length (by omega), List.take_of_length_le (by omega)]
  rw [hcur2, e1]
  simp only []
  rw [← m2, m4, List.take_append, List.take_of_length_le (by simp only [List.length_append, List.length_take, hxl, hul]; omega)]
  congr 1
  rw [← e2]
  congr 1
  simp only [List.length_append, List.length_take, hxl, hul]
  omega
 have hcp1 : ∀ ty dc sc, (Builtin.copy_ #[76, 76] ty #[.slice (some ⟨g, (i + 1) * sz, none⟩) (n - i) dc, .slice (some ⟨g, i * sz, none⟩) (n + 1 - i) sc]).run Tryz.prog w.drew = .ok (goInt (Nat.min (n + 1 - i) (n - i))) (w.drew.setRow g cur1) := fun ty dc sc => by
  rw [hcur1]
  refine a6S w.drew _ _ ty e sz g ((i + 1) * sz) _ dc ⟨g, i * sz, none⟩ _ sc cur e (xs.drop (i * sz)) ht hsi hg (by rw [hdl]; congr 1; simp only [Nat.min_def]; split <;> omega) (fun j v hj => ?_) (by rw [hdl, hcs]; omega) (fun v hv => hx1 v (List.mem_of_mem_drop hv))
  rw [Addr.add_lit]
  rw [List.getElem?_drop] at hj
  have hj' := (List.getElem?_eq_some_iff.1 hj).1
  exact (cell_of_row w.drew g (i * sz + j) cur e (0, 0) hg).trans ((hcur _ (by omega)).trans hj)
 obtain ⟨W1, hW1⟩ : ∃ W1, W1 = w.drew.setRow g cur1 := ⟨_, rfl⟩
 have hgW : W1.heap[g]? = some (.cells cur1 e (0, 0)) := by rw [hW1]; exact setRow_heap _ g cur cur1 e _ hg
 have hgV : W1.heap[vb]? = some (.cells curv e2 (0, 0)) := by rw [hW1, (a4H (w := w.drew)).block vb (Array.getElem?_eq_some_iff.1 hgv).1 (by simpa using hne)]; exact hgv
 have hcp2 : ∀ ty dc, (Builtin.copy_ #[76, 76] ty #[.slice (some ⟨g, i * sz, none⟩) (n + 1 - i) dc, .slice (some ⟨vb, 0, none⟩) 1 vcap]).run Tryz.prog W1 = .ok (goInt (Nat.min 1 (n + 1 - i))) (W1.setRow g cur2) := fun ty dc => by
  rw [hcur2]
  refine a6S W1 _ _ ty e sz g (i * sz) _ dc ⟨vb, 0, none⟩ _ vcap cur1 e us ht hsi hgW (by rw [hul]; simp only [Nat.min_def]; split <;> first | omega | rfl | simp) (fun j v hj => ?_) (by rw [hul, hs1]; omega) h1
  rw [Addr.add_lit, cell_of_row _ vb _ curv e2 (0, 0) hgV, Nat.zero_add]
  have hj' := (List.getElem?_eq_some_iff.1 hj).1
  rw [← hvs, List.getElem?_take, if_pos (by omega), Array.getElem?_toList] at hj
  exact hj
 have hfin : a4j w (.slice (some ⟨g, 0, none⟩) n cap) e sz n i xs us (.returned (.slice (some ⟨g, 0, none⟩) (n + 1) cap)) (W1.setRow g cur2) := by
  refine ⟨_, _, rfl, ⟨?_, .inr ⟨g, cap, cur2, rfl, Nat.zero_le _, setRow_heap _ g cur1 cur2 e _ hgW, hroom, hcm, hs2, htk2⟩⟩, ?_, .inl rfl⟩
  ·simp only [List.length_append, List.length_take, List.length_drop, hxl, hul]; omega
  ·rw [hW1]
   exact ((Chg.refl [g] w).drew.trans a4H).trans a4H
 rw [← hW1] at hcp1
 have HF := Lib.hid hfin
 clear hcur1 hcur2 hfin hgW hgV htk2 hs2 hs1 hcur hx1 h1 hvs htk hxl hdl m1 m2 m3 m4 m5 hgv hg hcs hcm hinfo hsi hW1 hul
 go_enter Tryz.func152, Tryz.ntmps152
 go_wp2_with (simp only [hov])
 go_region_law_o (refine step_copy_runI rfl _ _ 76 76 rfl _ _ (by simp [Act.eval, Act.put]) (by simp [Act.eval, Act.put]) (hcp1 _ _ _) ?_)
 go_wp2_with (at_builtin; refine wpList_copy_runI _ rfl _ _ 76 76 rfl _ _ rfl rfl (hcp2 _ _) ?_)
 go_ret
 exact HF
set_option maxHeartbeats 4000000 in
set_option maxRecDepth 100000 in
theorem c5r {e sz by_ n i vb vcap e2 : Nat} {z : Value} {g : Nat} {xs us : List Value} {w : World} {cur curv : Array Value} (ht : Tryz.prog.underlying 76 = some (.slice e)) (hinfo : (Tryz.prog.info? e).map (fun i => (i.zero, i.size, i.bytes)) = some (some z, sz, by_)) (hzs : z.cells.size = sz) (hsz : 0 < sz)
  (hxl : xs.length = n * sz) (hg : w.heap[g]? = some (.cells cur e (0, 0))) (hcm : n ≤ maxLen) (hcs : cur.size = n * sz) (htk : cur.toList.take (n * sz) = xs) (hx1 : ∀ u ∈ xs, u.oneCell' = true)
  (hgv : w.heap[vb]? = some (.cells curv e2 (0, 0))) (hul : us.length = sz) (hvs : curv.toList.take sz = us) (h1 : ∀ u ∈ us, u.oneCell' = true) (hi : i < n) (h63 : n + 1 ≤ maxLen) (hb : (n + 1) * by_ ≤ 140737488355328) :
  Calls Tryz.prog 152 #[.slice (some ⟨g, 0, none⟩) n n, .int .i64 i, .slice (some ⟨vb, 0, none⟩) 1 vcap] w (a4j w (.slice (some ⟨g, 0, none⟩) n n) e sz n i xs us) := by
 obtain ⟨i0, q1, q2, q3, q4⟩ := info_parts hinfo
 have hso : ∀ w, (Go.sizeOf e).run Tryz.prog w = .ok sz w := fun w => by
  simp [sizeOf, typeInfo, q1, q3]
 have hsi : (Tryz.prog.info? e).map (·.size) = some sz := by
  rw [q1]; simp [q3]
 have hc63 : n + 1 ≤ 9223372036854775807 := by unfold maxLen at h63; omega
 have mixed : Tryz.prog.follows .mixedOrders = true := by kernel_rfl
 have hz2 : ¬ ((i : Int) = (n : Int)) := by omega
 have hw1 : IntKind.i64.wrap ((i : Int) + 1) = (i : Int) + 1 := by rw [IntKind.wrap_i64]; omega
 have hw2 : IntKind.i64.wrap ((n : Int) + 1) = (n : Int) + 1 := by rw [IntKind.wrap_i64]; omega
 have hw3 : IntKind.i64.wrap ((n : Int) + 1 - (i : Int)) = (n : Int) + 1 - (i : Int) := by rw [IntKind.wrap_i64]; omega
 have hb1 : (0 : Int) ≤ (i : Int) + 1 := by omega
 have hin : i ≤ n := by omega
 have htn : ((i : Int) + 1).toNat = i + 1 := by omega
 have hni : ¬ (n = i) := by omega
 have hkk : (n : Int) + 1 - (i : Int) = ((n + 1 - i : Nat) : Int) := by omega
 have hik : i + (n + 1 - i) = n + 1 := by omega
 have hdl : (xs.drop (i * sz)).length = (n - i) * sz := by rw [List.length_drop, hxl, Nat.sub_mul]
 have m2 : (i + 1) * sz + (n - i) * sz = (n + 1) * sz := by rw [← Nat.add_mul]; congr 1; omega
 have m3 : i * sz + (n - i) * sz = n * sz := by rw [← Nat.add_mul]; congr 1; omega
 have m4 : (i + 1) * sz = i * sz + sz := by rw [Nat.add_mul, Nat.one_mul]
 have m5 : (n + 1) * sz = n * sz + sz := by rw [Nat.add_mul, Nat.one_mul]
 have hcur : ∀ j, j < n * sz → cur[j]? = xs[j]? := fun j hj => by rw [← htk, List.getElem?_take, if_pos hj, Array.getElem?_toList]
 have htl : (xs.take (i * sz)).length = i * sz := by rw [List.length_take, hxl]; omega
 have hold : (Builtin.firstCells i0.size i (.slice (some ⟨g, 0, none⟩) i n)).run Tryz.prog w.drew = .ok (xs.take (i * sz)).toArray w.drew := by
  rw [q3]
  refine run_firstCells_some w.drew sz i ⟨g, 0, none⟩ i n (xs.take (i * sz)) (by rw [htl]) (fun j v hj => ?_)
  rw [Addr.add_lit, Nat.zero_add]
  rw [List.getElem?_take] at hj
  split at hj
  ·exact (cell_of_row w.drew g j cur e (0, 0) hg).trans ((hcur _ (by omega)).trans hj)
  ·cases hj
 obtain ⟨G, hG⟩ : ∃ G, G = grownCap w (n + 1) n e := ⟨_, rfl⟩
 have hGn : n + 1 ≤ G := by rw [hG]; exact grownCap_ge w _ _ _
 have hGm : G ≤ maxLen := by rw [hG]; exact grownCap_le_maxLen w (n + 1) n e h63
 obtain ⟨ROW, hROW⟩ : ∃ ROW : Array Value, ROW = (xs.take (i * sz)).toArray ++ Builtin.zeroCells z.cells (n + 1 - i) ++ Builtin.zeroCells z.cells (G - (n + 1)) := ⟨_, rfl⟩
 have hzl : ∀ k, (Builtin.zeroCells z.cells k).size = k * sz := fun k => by simp [Builtin.zeroCells, hzs]
 have hRs : ROW.size = G * sz := by
  rw [hROW]
  simp only [Array.size_append, List.size_toArray, htl, hzl]
  rw [← Nat.add_mul, ← Nat.add_mul]
  congr 1; omega
 obtain ⟨W1, hW1⟩ : ∃ W1, W1 = w.drew.alloc (.cells ROW e) := ⟨_, rfl⟩
 have hrz : ∀ ty, (Builtin.append_ #[76, 3] ty #[.slice (some ⟨g, 0, none⟩) i n, .int .i64 ((n : Int) + 1 - (i : Int))]).run Tryz.prog w =
   .ok (.slice (some ⟨w.heap.size, 0, none⟩) (n + 1) G) W1 := fun ty => by
  have h := Lib.run_append_grow_zeros (P := Tryz.prog) w 76 3 ty e i0 z .i64 .i64 ht (by kernel_rfl) q1 q2 (some ⟨g, 0, none⟩) i n (xs.take (i * sz)) hold (n + 1 - i) (by omega) (by omega) (by omega) (by omega) (by
   rw [q4]
   have : (n + 1 - i) * by_ ≤ (n + 1) * by_ := Nat.mul_le_mul_right _ (by omega)
   omega) (by rw [q4, hik]; exact growslice_fits (by omega) hb)
  rw [hik] at h
  rw [hkk, hW1, hROW, hG]
  exact h
 have hgW0 : W1.heap[w.heap.size]? = some (.cells ROW e (0, 0)) := by rw [hW1]; exact heap_alloc_new w.drew _
 have hgl : g < w.heap.size := (Array.getElem?_eq_some_iff.1 hg).1
 have hvl : vb < w.heap.size := (Array.getElem?_eq_some_iff.1 hgv).1
 have hc1 : Chg [] w W1 := by rw [hW1]; exact (Chg.refl [] w).drew.alloc _
 have hgV : W1.heap[vb]? = some (.cells curv e2 (0, 0)) := by rw [hc1.block vb hvl (by simp)]; exact hgv
 have hm1 : (n + 1) * sz ≤ G * sz := Nat.mul_le_mul_right _ hGn
 obtain ⟨R1, hR1⟩ : ∃ R1 : Array Value, R1 = (ROW.toList.take (i * sz) ++ us ++ ROW.toList.drop (i * sz + us.length)).toArray := ⟨_, rfl⟩
 have hs1 : R1.size = G * sz := by
  rw [hR1]
  simp only [List.size_toArray, List.length_append, List.length_take, List.length_drop, Array.length_toList, hRs, hul]
  omega
 obtain ⟨W2, hW2⟩ : ∃ W2, W2 = W1.setRow w.heap.size R1 := ⟨_, rfl⟩
 have hcpA : ∀ ty dc, (Builtin.copy_ #[76, 76] ty #[.slice (some ⟨w.heap.size, i * sz, none⟩) (n + 1 - i) dc, .slice (some ⟨vb, 0, none⟩) 1 vcap]).run Tryz.prog W1 = .ok (goInt (Nat.min 1 (n + 1 - i))) W2 := fun ty dc => by
  rw [hW2, hR1]
  refine a6S W1 _ _ ty e sz w.heap.size (i * sz) _ dc ⟨vb, 0, none⟩ _ vcap ROW e us ht hsi hgW0 (by rw [hul]; simp only [Nat.min_def]; split <;> first | omega | rfl | simp) (fun j v hj => ?_) (by rw [hul, hRs]; omega) h1
  rw [Addr.add_lit, cell_of_row _ vb _ curv e2 (0, 0) hgV, Nat.zero_add]
  have hj' := (List.getElem?_eq_some_iff.1 hj).1
  rw [← hvs, List.getElem?_take, if_pos (by omega), Array.getElem?_toList] at hj
  exact hj
 have hgW2 : W2.heap[w.heap.size]? = some (.cells R1 e (0, 0)) := by rw [hW2]; exact setRow_heap _ _ ROW R1 e _ hgW0
 have hgG : W2.heap[g]? = some (.cells cur e (0, 0)) := by
  rw [hW2, (a4H (w := W1) (g := w.heap.size)).block g (Nat.lt_of_lt_of_le hgl hc1.size) (by simp; omega), hc1.block g hgl (by simp)]; exact hg
 obtain ⟨R2, hR2⟩ : ∃ R2 : Array Value, R2 = (R1.toList.take ((i + 1) * sz) ++ xs.drop (i * sz) ++ R1.toList.drop ((i + 1) * sz + (xs.drop (i * sz)).length)).toArray := ⟨_, rfl⟩
 have hs2 : R2.size = G * sz := by
  rw [hR2]
  simp only [List.size_toArray, List.length_append, List.length_take, List.length_drop, Array.length_toList, hs1, hxl]
  omega
 obtain ⟨W3, hW3⟩ : ∃ W3, W3 = W2.drew.setRow w.heap.size R2 := ⟨_, rfl⟩
 have hcpB : ∀ ty dc sc, (Builtin.copy_ #[76, 76] ty #[.slice (some ⟨w.heap.size, (i + 1) * sz, none⟩) (n - i) dc, .slice (some ⟨g, i * sz, none⟩) (n - i) sc]).run Tryz.prog W2.drew = .ok (goInt (Nat.min (n - i) (n - i))) W3 := fun ty dc sc => by
  rw [hW3, hR2]
  refine a6S W2.drew _ _ ty e sz w.heap.size ((i + 1) * sz) _ dc ⟨g, i * sz, none⟩ _ sc R1 e (xs.drop (i * sz)) ht hsi hgW2 (by rw [hdl]; congr 1; simp) (fun j v hj => ?_) (by rw [hdl, hs1]; omega) (fun v hv => hx1 v (List.mem_of_mem_drop hv))
  rw [Addr.add_lit]
  rw [List.getElem?_drop] at hj
  have hj' := (List.getElem?_eq_some_iff.1 hj).1
  exact (cell_of_row W2.drew g (i * sz + j) cur e (0, 0) hgG).trans ((hcur _ (by omega)).trans hj)
 have htk2 : R2.toList.take ((n + 1) * sz) = xs.take (i * sz) ++ us ++ xs.drop (i * sz) := by
  have e1 : R1.toList.take ((i + 1) * sz) = xs.take (i * sz) ++ us := by
   rw [hR1, m4]
   simp only []
   rw [List.take_append_of_le_length (by simp only [List.length_append, List.length_take, Array.length_toList, hRs, hul]; omega), List.take_of_length_le (by simp only [List.length_append, List.length_take, Array.length_toList, hRs, hul]; omega)]
   congr 1
   rw [hROW]
   simp only [Array.toList_append, List.append_assoc]
   rw [List.take_append_of_le_length (by rw [htl]; exact Nat.le_refl _), List.take_of_length_le (by rw [htl]; exact Nat.le_refl _)]
  rw [hR2, e1]
  simp only []
  rw [List.take_append_of_le_length (by simp only [List.length_append, List.length_take, List.length_drop, hxl, hul]; omega), List.take_of_length_le (by simp only [List.length_append, List.length_take, List.length_drop, hxl, hul]; omega)]
 have hfin : a4j w (.slice (some ⟨g, 0, none⟩) n n) e sz n i xs us (.returned (.slice (some ⟨w.heap.size, 0, none⟩) (n + 1) G)) W3 := by
  refine ⟨_, _, rfl, ⟨?_, .inr ⟨w.heap.size, G, R2, rfl, Nat.zero_le _, by rw [hW3]; exact setRow_heap _ _ R1 R2 e _ hgW2, hGn, hGm, hs2, htk2⟩⟩, ?_, .inr rfl⟩
  ·simp only [List.length_append, List.length_take, List.length_drop, hxl, hul]; omega
  ·have c3 : Chg [w.heap.size] W1 W3 := by rw [hW3, hW2]; exact (a4H.drew).trans a4H
   refine ⟨c3.os.trans hc1.os, c3.tape.trans hc1.tape, c3.output.trans hc1.output, Nat.le_trans hc1.size c3.size, fun k hk hn => ?_⟩
   rw [c3.block k (Nat.lt_of_lt_of_le hk hc1.size) (by simp; omega), hc1.block k hk (by simp)]
 have HF := Lib.hid hfin
 have hGi : ¬ (G = i) := by omega
 have hGim : ¬ (G = i + 1) := by omega
 have hG63 : G ≤ 9223372036854775807 := by unfold maxLen at hGm; omega
 obtain ⟨H, hH⟩ : ∃ H, H = w.heap.size := ⟨_, rfl⟩
 rw [← hH] at hrz hcpA hcpB HF
 clear hH hfin hgW0 hgV hgW2 hgG htk2 hs2 hs1 hcur hx1 h1 hvs htk hxl hdl m2 m3 m4 m5 hgv hg hcs hcm hinfo hsi hW1 hW2 hW3 hul hR1 hR2 hROW hRs hzl hold htl hc1 hgl hvl hm1 hkk hik hG q1 q2 q3 q4 hzs
 go_enter Tryz.func152, Tryz.ntmps152
 go_wp2_with (first
  | (at_builtin; refine Lib.wpList_append_run _ rfl _ _ _ _ rfl _ _ rfl rfl _ _ (hrz _) ?_)
  | (at_builtin; refine wpList_copy_runI _ rfl _ _ 76 76 rfl _ _ rfl rfl (hcpA _ _) ?_))
 go_region_law_o (refine step_copy_runI rfl _ _ 76 76 rfl _ _ (by simp [Act.eval, Act.put]) (by simp [Act.eval, Act.put]) (hcpB _ _ _) ?_)
 go_wp2
 go_ret
 exact HF
theorem c3k {e sz by_ n i e2 : Nat} {z : Value} {v u : Value} {xs us : List Value} {w : World} (ht : Tryz.prog.underlying 76 = some (.slice e)) (hinfo : (Tryz.prog.info? e).map (fun i => (i.zero, i.size, i.bytes)) = some (some z, sz, by_)) (hzs : z.cells.size = sz) (hsz : 0 < sz)
  (hown : w.ownsRow 0 e sz v n xs) (hx1 : ∀ u ∈ xs, u.oneCell' = true) (hv : w.ownsRow 0 e2 sz u 1 us) (h1 : ∀ u ∈ us, u.oneCell' = true) (hne : ∀ b, v.ownBlock = some b → u.ownBlock ≠ some b) (hi : i ≤ n) (h63 : n + 1 ≤ maxLen) (hb : (n + 1) * by_ ≤ 140737488355328) :
  Calls Tryz.prog 152 #[v, .int .i64 i, u] w (a4j w v e sz n i xs us) := by
 have hul : us.length = sz := by rw [hv.1, Nat.one_mul]
 rcases hv.2 with ⟨_, h⟩ | ⟨vb, vcap, curv, rfl, _, hgv, hvc, _, _, hvt⟩
 ·cases h
 ·rw [Nat.one_mul] at hvt
  rcases Nat.lt_or_ge i n with hlt | hge
  ·rcases hown.2 with ⟨_, h⟩ | ⟨g, cap, cur, rfl, _, hg, hnc, hcm, hcs, htk⟩
   ·omega
   ·rcases Nat.lt_or_ge n cap with h | h
    ·exact c3b ht hinfo hsz hown.1 hg hcm hcs htk hx1 hgv hul hvt h1 (fun e => hne g rfl (by rw [e]; rfl)) hlt h
    ·have e1 : cap = n := by omega
     subst e1
     exact c5r ht hinfo hzs hsz hown.1 hg hcm hcs htk hx1 hgv hul hvt h1 hlt h63 hb
  ·have e1 : i = n := by omega
   subst e1
   refine c4g ht hinfo hzs hsz hown ⟨by rw [Nat.one_mul]; exact hul, fun _ => ⟨vb, 0, rfl, fun j x hj => ?_⟩⟩ h1 h63 hb
   rw [Nat.zero_add, cell_of_row _ vb _ curv e2 (0, 0) hgv]
   have hj' := (List.getElem?_eq_some_iff.1 hj).1
   rw [← hvt, List.getElem?_take, if_pos (by omega), Array.getElem?_toList] at hj
   exact hj
theorem c5H {sz by_ : Nat} {zc : List CV} (he : look a4v.el 128 = some (sz, by_, zc)) (hl0 : zc.length = sz) (hpos : 0 < sz) : InsOk Tryz.prog 152 128 sz by_ := by
 obtain ⟨inf, z, g1, g2, g3, g4, g5⟩ := hT.el _ _ _ _ he
 refine ⟨hpos, hT.lt _ _ he, fun hown hx1 hv h1 hne hi h63 hb => c3k (z := z) (by kernel_rfl) (by rw [g1]; simp [g2, g3, g4]) (by
  have := a6L g5
  simp only [Array.length_toList] at this
  rw [this, hl0]) hpos hown hx1 hv h1 hne hi h63 hb⟩
section
variable {P : Program} {C : Ctx} {nt : Nat} {Q : Exit → St → Prop} {all : Array Oper} {oB oK : List Nat} {hd' : Nat → Bool} {listed : Array Bool} {fuel b : Nat} {tm : List (Nat × SV)} {bx : List (Nat × TypeId × List CV)} {ks : List (Nat × Option KC)} {o : Oper} {d : Nat} {v X : SV} {Ks Bs : List Nat} {g : Bool} {x y : Operand} {T : TT}
def SWL (Bs : List Nat) (wb w : World) : Prop := wb.heap.size ≤ w.heap.size ∧ ∀ k, k < wb.heap.size → k ∉ Bs → w.heap[k]? = wb.heap[k]?
theorem SWL.refl (Bs : List Nat) (w : World) : SWL Bs w w := ⟨Nat.le_refl _, fun _ _ _ => rfl⟩
theorem SWL.chg {Bs cs : List Nat} {wb w w' : World} (h : SWL Bs wb w) (hc : Chg cs w w') (hs : ∀ x ∈ cs, x ∈ Bs) : SWL Bs wb w' := ⟨Nat.le_trans h.1 hc.size, fun k hk hn => (hc.block k (Nat.lt_of_lt_of_le hk h.1) (fun hm => hn (hs k hm))).trans (h.2 k hk hn)⟩
section
variable {bs : List Nat}
end
end
section
variable {P : Program} {C : Ctx} {nt : Nat} {σ : St} {o : Oper} {x y : Operand}
end
section
variable {P : Program} {C : Ctx} {nt : Nat} {Q : Exit → St → Prop} {all : Array Oper} {rest : List Oper} {σ : St} {o : Oper} {g : Bool}
theorem c3v {T : TT} (hT : TTOk P T) {t sz by_ len e : Nat} {zc : List CV} (ho : o.op = .build t #[]) (ht : look T.el t = some (sz, by_, zc)) (hu : P.underlying t = some (.array len e)) (hi : (P.info? e).isSome = true) : Pu P C nt o σ (.agg zc) [] [] := Pu.mk fun L a w hr => by
 obtain ⟨inf, z, g1, g2, g3, g4, g5⟩ := hT.el t sz by_ zc ht
 obtain ⟨c1, _, _⟩ := a8T (C := C) (L := L) (w := w) g5
 obtain ⟨i, hi⟩ := Option.isSome_iff_exists.1 hi
 refine ⟨.agg z.cells, by simp only [SVr]; exact ⟨z.cells.toList, by simp, c1⟩, fun w' _ => ?_⟩
 unfold execOp
 simp [ho, Instr.build, zeroValue, typeInfo, g1, g4, run_underlying hu, sizeOf, hi, Instr.fill]
theorem a6V {x y : Operand} {t len e sz b i : Nat} {J : List Nat} {z : Int} (ho : o.op = .indexAddr t x y) (hu : P.underlying t = some (.array len e)) (hi : (P.info? e).map (·.size) = some sz) (hlen : Nat.blt 1 len = true) (hx : Ev P C nt σ x (.box b i)) (hy : Ev P C nt σ y (.one (.dv J (.int .i64 z)))) (h0 : 0 ≤ z) (h1 : z < (len : Int)) : Pu P C nt o σ (.box b (i + z.toNat * sz)) [] [] := Pu.mk fun L a w hr => by
 have h2 := hx.run L a w hr
 have h3 := hy.run L a w hr
 simp only [SVr, CVr, Lay] at h2 h3
 cases hq : P.info? e with
 | none => rw [hq] at hi; cases hi
 | some inf =>
  rw [hq] at hi
  simp only [Option.map_some, Option.some.injEq] at hi
  subst hi
  refine ⟨.pointer (some ⟨L.bb b, i + z.toNat * inf.size, none⟩), by simp only [SVr], fun w' _ => ?_⟩
  unfold execOp
  simp only [ho, h2, h3.1, Instr.indexAt, asIntOf, Instr.sureAddr, Sem.run_bind, Sem.run_pure, Result.andThen_ok, run_underlying hu, Sem.run_ite, if_pos (show 0 ≤ z ∧ z < (len : Int) from ⟨h0, h1⟩), sizeOf, typeInfo, run_program, hq, a4Z]
structure OkRd (P : Program) (C : Ctx) (nt : Nat) (Q : Exit → St → Prop) (c : Code) (n : Nat) (σ : St) : Prop where
 run : ∀ L a w, Rel P C nt L σ a w → Code.rounds P c (QQ P C nt Q) n a w
theorem c3H (n : Nat) {c : Code} (h : OkRd P C nt Q c n σ) : Ok P C nt Q (.loop c) σ := Ok.mk fun L a w hr => wp_loop_rounds n (h.run L a w hr)
theorem a4m {n : Nat} {c : Code} (h : Ok P C nt (a5h (OkRd P C nt Q c n) Q) c σ) : OkRd P C nt Q c (n + 1) σ := OkRd.mk fun L a w hr => by
 rw [rounds_succ]
 refine wp_mono (h.run L a w hr) ?_
 intro e a w hq
 cases e with
 | normal => obtain ⟨L, σ, h1, h2⟩ := hq; exact h2.run L a w h1
 | exit => exact hq
 | goto => exact hq
 | ret => exact hq
 | panic => exact hq
 | outgrown => exact hq
section
variable {tm : List (Nat × SV)} {bx : List (Nat × TypeId × List CV)} {ks : List (Nat × Option KC)} {oB oK : List Nat} {hd' : Nat → Bool} {listed : Array Bool} {fuel : Nat} {d : Nat} {v X : SV} {Ks Bs : List Nat}
end
end
section
variable {C : Ctx} {nt : Nat} {x y : Operand} {σ : St} {ty0 : TypeId} {ps : String} {af : Array Edge} {dd : Option Tmp} {gg : Option (Nat × Bool)}
theorem qA {v : SV} (hx : Ev Tryz.prog C nt σ x v) : Pu Tryz.prog C nt ⟨dd, .move x, ty0, ps, af, gg⟩ σ v [] [] := a2c (.inl rfl) hx
theorem qB {v : SV} (hx : Ev Tryz.prog C nt σ x v) : Pu Tryz.prog C nt ⟨dd, .assign x, ty0, ps, af, gg⟩ σ v [] [] := a2c (.inr rfl) hx
theorem qC {s f off b i : Nat} (hx : Ev Tryz.prog C nt σ x (.box b i)) (h : look a4v.of (1000 * s + f) = some off) (hf : Nat.blt f 1000 = true) : Pu Tryz.prog C nt ⟨dd, .fieldAddr s x f, ty0, ps, af, gg⟩ σ (.box b (i + off)) [] [] := a6w hT rfl h hf hx
theorem qC2 {s f off : Nat} {K : List Nat} {ds : List DV} (hx : Ev Tryz.prog C nt σ x (.ref K ds)) (h : look a4v.of (1000 * s + f) = some off) (hf : Nat.blt f 1000 = true) : Pu Tryz.prog C nt ⟨dd, .fieldAddr s x f, ty0, ps, af, gg⟩ σ (.ref K (ds.drop off)) [] [] := a6f hT rfl h hf hx
theorem qC3 {s f off k i : Nat} (hx : Ev Tryz.prog C nt σ x (.eptr k i)) (h : look a4v.of (1000 * s + f) = some off) (hf : Nat.blt f 1000 = true) : Pu Tryz.prog C nt ⟨dd, .fieldAddr s x f, ty0, ps, af, gg⟩ σ (.eptr k (i + off)) [] [] := c4S hT rfl h hf hx
theorem qD {t n b i t' : Nat} {cs : List CV} (ht : look a4v.ag t = some n) (hx : Ev Tryz.prog C nt σ x (.box b i)) (hb : look σ.bx b = some (t', cs)) (hl : Nat.ble (i + n) cs.length = true) : Pu Tryz.prog C nt ⟨dd, .load t x, ty0, ps, af, gg⟩ σ (.agg (sub i n cs)) [] [b] := a6B hT rfl ht hx hb hl
theorem qD2 {t b i t' : Nat} {cs : List CV} {c : CV} {u : Unit} (ht : look a4v.on t = some u) (hx : Ev Tryz.prog C nt σ x (.box b i)) (hb : look σ.bx b = some (t', cs)) (hl : cs[i]? = some c) : Pu Tryz.prog C nt ⟨dd, .load t x, ty0, ps, af, gg⟩ σ (.one c) [] [b] := a4N hT rfl ht hx hb hl
theorem qD3 {t n : Nat} {K : List Nat} {ds : List DV} (ht : look a4v.ag t = some n) (hx : Ev Tryz.prog C nt σ x (.ref K ds)) (hl : Nat.ble n ds.length = true) : Pu Tryz.prog C nt ⟨dd, .load t x, ty0, ps, af, gg⟩ σ (.agg ((ds.take n).map (dvK K))) K [] := b0q hT rfl ht hx hl
theorem qD4 {t : Nat} {K : List Nat} {dv : DV} {ds : List DV} {u : Unit} (ht : look a4v.on t = some u) (hx : Ev Tryz.prog C nt σ x (.ref K ds)) (hd : ds[0]? = some dv) : Pu Tryz.prog C nt ⟨dd, .load t x, ty0, ps, af, gg⟩ σ (.one (dvK K dv)) K [] := b3n hT rfl ht hx hd
theorem qE {i : Nat} {ts : List (Bool × List CV)} {c : CV} (hx : Ev Tryz.prog C nt σ x (.tup ts)) (h : ts[i]? = some (false, [c])) : Pu Tryz.prog C nt ⟨dd, .extract x i, ty0, ps, af, gg⟩ σ (.one c) [] [] := a5k rfl hx h
theorem qE2 {i : Nat} {ts : List (Bool × List CV)} {cs : List CV} (hx : Ev Tryz.prog C nt σ x (.tup ts)) (h : ts[i]? = some (true, cs)) : Pu Tryz.prog C nt ⟨dd, .extract x i, ty0, ps, af, gg⟩ σ (.agg cs) [] [] := a5N rfl hx h
theorem qN {t : TypeId} {K : List Nat} {b : Bool} (hx : Ev Tryz.prog C nt σ x (.one (.dv K (.bool b)))) : Pu Tryz.prog C nt ⟨dd, .unOp .not t x, ty0, ps, af, gg⟩ σ (.one (.dv [] (.bool (!b)))) [] [] := c7u rfl hx
theorem qG {c : Operand} {K J : List Nat} {b b2 : Bool} (hc : Ev Tryz.prog C nt σ c (.one (.dv K (.bool b)))) (hy : b = true → Ev Tryz.prog C nt σ y (.one (.dv J (.bool b2)))) : Pu Tryz.prog C nt ⟨dd, .pick c y (.const (.bool false)), ty0, ps, af, gg⟩ σ (.one (.dv [] (.bool (b && b2)))) [] [] := c1j rfl hc hy
theorem qH {c : Operand} {K J : List Nat} {b b2 : Bool} (hc : Ev Tryz.prog C nt σ c (.one (.dv K (.bool b)))) (hy : b = false → Ev Tryz.prog C nt σ y (.one (.dv J (.bool b2)))) : Pu Tryz.prog C nt ⟨dd, .pick c (.const (.bool true)) y, ty0, ps, af, gg⟩ σ (.one (.dv [] (.bool (b || b2)))) [] [] := c6S rfl hc hy
theorem b8y {t ty : TypeId} {K J : List Nat} {k : IntKind} {m n : Int} (hx : Ev Tryz.prog C nt σ x (.one (.dv K (.int k m)))) (hy : Ev Tryz.prog C nt σ y (.one (.dv J (.int k n)))) : Pu Tryz.prog C nt ⟨dd, .binOp .lss t x y ty, ty0, ps, af, gg⟩ σ (.one (.dv [] (.bool (decide (m < n))))) [] [] := c5z rfl hx hy
theorem b7Z {t ty : TypeId} {K J : List Nat} {k : IntKind} {m n : Int} (hx : Ev Tryz.prog C nt σ x (.one (.dv K (.int k m)))) (hy : Ev Tryz.prog C nt σ y (.one (.dv J (.int k n)))) : Pu Tryz.prog C nt ⟨dd, .binOp .leq t x y ty, ty0, ps, af, gg⟩ σ (.one (.dv [] (.bool (decide (m ≤ n))))) [] [] := c3p rfl hx hy
theorem b6Z {t ty : TypeId} {K J : List Nat} {k : IntKind} {m n : Int} (hx : Ev Tryz.prog C nt σ x (.one (.dv K (.int k m)))) (hy : Ev Tryz.prog C nt σ y (.one (.dv J (.int k n)))) : Pu Tryz.prog C nt ⟨dd, .binOp .gtr t x y ty, ty0, ps, af, gg⟩ σ (.one (.dv [] (.bool (decide (n < m))))) [] [] := c7T rfl hx hy
theorem b5G {t ty : TypeId} {K J : List Nat} {k : IntKind} {m n : Int} (hx : Ev Tryz.prog C nt σ x (.one (.dv K (.int k m)))) (hy : Ev Tryz.prog C nt σ y (.one (.dv J (.int k n)))) : Pu Tryz.prog C nt ⟨dd, .binOp .geq t x y ty, ty0, ps, af, gg⟩ σ (.one (.dv [] (.bool (decide (n ≤ m))))) [] [] := c0E rfl hx hy
theorem b7s {t ty : TypeId} {K J : List Nat} {k : IntKind} {m n : Int} (hx : Ev Tryz.prog C nt σ x (.one (.dv K (.int k m)))) (hy : Ev Tryz.prog C nt σ y (.one (.dv J (.int k n)))) : Pu Tryz.prog C nt ⟨dd, .binOp .eql t x y ty, ty0, ps, af, gg⟩ σ (.one (.dv [] (.bool (decide (m = n))))) [] [] := c1k rfl hx hy
theorem b7i {t ty : TypeId} {K J : List Nat} {k : IntKind} {m n : Int} (hx : Ev Tryz.prog C nt σ x (.one (.dv K (.int k m)))) (hy : Ev Tryz.prog C nt σ y (.one (.dv J (.int k n)))) : Pu Tryz.prog C nt ⟨dd, .binOp .neq t x y ty, ty0, ps, af, gg⟩ σ (.one (.dv [] (.bool (!decide (m = n))))) [] [] := c1C rfl hx hy
theorem b8w {t ty : TypeId} {K J : List Nat} {m n : ByteArray} (hx : Ev Tryz.prog C nt σ x (.one (.dv K (.str m)))) (hy : Ev Tryz.prog C nt σ y (.one (.dv J (.str n)))) : Pu Tryz.prog C nt ⟨dd, .binOp .eql t x y ty, ty0, ps, af, gg⟩ σ (.one (.dv [] (.bool (sEq m n)))) [] [] := c6c rfl hx hy
theorem b8A {t ty : TypeId} {K J : List Nat} {m n : ByteArray} (hx : Ev Tryz.prog C nt σ x (.one (.dv K (.str m)))) (hy : Ev Tryz.prog C nt σ y (.one (.dv J (.str n)))) : Pu Tryz.prog C nt ⟨dd, .binOp .neq t x y ty, ty0, ps, af, gg⟩ σ (.one (.dv [] (.bool (!sEq m n)))) [] [] := c6A rfl hx hy
theorem b8V {t ty : TypeId} {K J : List Nat} {m n : ByteArray} (hx : Ev Tryz.prog C nt σ x (.one (.dv K (.str m)))) (hy : Ev Tryz.prog C nt σ y (.one (.dv J (.str n)))) : Pu Tryz.prog C nt ⟨dd, .binOp .lss t x y ty, ty0, ps, af, gg⟩ σ (.one (.dv [] (.bool (sLt m n)))) [] [] := c6h rfl hx hy
theorem b8h {t ty : TypeId} {K J : List Nat} {m n : ByteArray} (hx : Ev Tryz.prog C nt σ x (.one (.dv K (.str m)))) (hy : Ev Tryz.prog C nt σ y (.one (.dv J (.str n)))) : Pu Tryz.prog C nt ⟨dd, .binOp .leq t x y ty, ty0, ps, af, gg⟩ σ (.one (.dv [] (.bool (sLt m n || sEq m n)))) [] [] := c4t rfl hx hy
theorem b6o {t ty : TypeId} {K J : List Nat} {m n : ByteArray} (hx : Ev Tryz.prog C nt σ x (.one (.dv K (.str m)))) (hy : Ev Tryz.prog C nt σ y (.one (.dv J (.str n)))) : Pu Tryz.prog C nt ⟨dd, .binOp .gtr t x y ty, ty0, ps, af, gg⟩ σ (.one (.dv [] (.bool (!(sLt m n || sEq m n))))) [] [] := c3q rfl hx hy
theorem b5p {t ty : TypeId} {K J : List Nat} {m n : ByteArray} (hx : Ev Tryz.prog C nt σ x (.one (.dv K (.str m)))) (hy : Ev Tryz.prog C nt σ y (.one (.dv J (.str n)))) : Pu Tryz.prog C nt ⟨dd, .binOp .geq t x y ty, ty0, ps, af, gg⟩ σ (.one (.dv [] (.bool (!sLt m n)))) [] [] := c1X rfl hx hy
theorem b9T {t ty : TypeId} {K J : List Nat} {m n : Int} (hx : Ev Tryz.prog C nt σ x (.one (.dv K (.int .i64 m)))) (hy : Ev Tryz.prog C nt σ y (.one (.dv J (.int .i64 n)))) (h1 : -9223372036854775808 ≤ m + n) (h2 : m + n ≤ 9223372036854775807) : Pu Tryz.prog C nt ⟨dd, .binOp .add t x y ty, ty0, ps, af, gg⟩ σ (.one (.dv [] (.int .i64 (m + n)))) [] [] := a3Q rfl hx hy (a2y h1 h2)
theorem b6F {t ty : TypeId} {K J : List Nat} {m n : Int} (hx : Ev Tryz.prog C nt σ x (.one (.dv K (.int .i64 m)))) (hy : Ev Tryz.prog C nt σ y (.one (.dv J (.int .i64 n)))) (h1 : -9223372036854775808 ≤ m - n) (h2 : m - n ≤ 9223372036854775807) : Pu Tryz.prog C nt ⟨dd, .binOp .sub t x y ty, ty0, ps, af, gg⟩ σ (.one (.dv [] (.int .i64 (m - n)))) [] [] := a9y rfl hx hy (a2y h1 h2)
theorem qL {t e' e sz n : Nat} {K : List Nat} {cs : List DV} (hx : Ev Tryz.prog C nt σ x (.one (.dv K (.sl e sz n cs)))) (h : look a4v.sl t = some e') : Pu Tryz.prog C nt ⟨dd, .call { callee := .builtin .len, args := #[x], argTypes := #[t] }, ty0, ps, af, gg⟩ σ (.one (.dv [] (.int .i64 (n : Int)))) [] [] := a9s hT rfl h hx
theorem qL2 {t : Nat} {u : Unit} {s : ByteArray} {K : List Nat} (hx : Ev Tryz.prog C nt σ x (.one (.dv K (.str s)))) (h : look a4v.st t = some u) : Pu Tryz.prog C nt ⟨dd, .call { callee := .builtin .len, args := #[x], argTypes := #[t] }, ty0, ps, af, gg⟩ σ (.one (.dv [] (.int .i64 (s.size : Int)))) [] [] := c3l hT rfl h hx
theorem qL3 {t e' : Nat} (hx : Ev Tryz.prog C nt σ x (.one .nil)) (h : look a4v.sl t = some e') : Pu Tryz.prog C nt ⟨dd, .call { callee := .builtin .len, args := #[x], argTypes := #[t] }, ty0, ps, af, gg⟩ σ (.one (.dv [] (.int .i64 0))) [] [] := c5D hT rfl h hx
end
section
variable {P : Program} {C : Ctx} {nt : Nat} {o : Oper} {x y : Operand} {T : TT} {Q : Exit → St → Prop} {N : St → Prop} {all : Array Oper} {rest : List Oper} {σ : St} {tm : List (Nat × SV)} {bx : List (Nat × TypeId × List CV)} {ks : List (Nat × Option KC)} {d t : Nat} {v X : SV} {ty : TypeId} {ps : String} {af : Array Edge} {Ks Bs oB oK : List Nat} {g : Bool} {listed : Array Bool} {fuel : Nat} {hd' : Nat → Bool}
theorem zp (hp : Pu P C nt o σ v Ks Bs := by
  first
  | (apply qA; (first | exact a0a rfl | exact a0p (a0o rfl) | exact a0J | exact a0M (a0N rfl) | exact a0K | exact a0O))
  | (apply qB; (first | exact a0a rfl | exact a0p (a0o rfl) | exact a0J | exact a0M (a0N rfl) | exact a0K | exact a0O))
  | (apply qC; (first | exact a0a rfl | exact a0p (a0o rfl) | exact a0J | exact a0M (a0N rfl) | exact a0K | exact a0O); exact rfl; exact rfl)
  | (apply qC2; (first | exact a0a rfl | exact a0p (a0o rfl) | exact a0J | exact a0M (a0N rfl) | exact a0K | exact a0O); exact rfl; exact rfl)
  | (apply qC3; (first | exact a0a rfl | exact a0p (a0o rfl) | exact a0J | exact a0M (a0N rfl) | exact a0K | exact a0O); exact rfl; exact rfl)
  | (apply qD; exact rfl; (first | exact a0a rfl | exact a0p (a0o rfl) | exact a0J | exact a0M (a0N rfl) | exact a0K | exact a0O); exact rfl; exact rfl)
  | (apply qD2; exact rfl; (first | exact a0a rfl | exact a0p (a0o rfl) | exact a0J | exact a0M (a0N rfl) | exact a0K | exact a0O); exact rfl; exact rfl)
  | (apply qD3; exact rfl; (first | exact a0a rfl | exact a0p (a0o rfl) | exact a0J | exact a0M (a0N rfl) | exact a0K | exact a0O); exact rfl)
  | (apply qD4; exact rfl; (first | exact a0a rfl | exact a0p (a0o rfl) | exact a0J | exact a0M (a0N rfl) | exact a0K | exact a0O); exact rfl)
  | (apply qE; (first | exact a0a rfl | exact a0p (a0o rfl) | exact a0J | exact a0M (a0N rfl) | exact a0K | exact a0O); exact rfl)
  | (apply qE2; (first | exact a0a rfl | exact a0p (a0o rfl) | exact a0J | exact a0M (a0N rfl) | exact a0K | exact a0O); exact rfl)
  | (apply qN; (first | exact a0a rfl | exact a0p (a0o rfl) | exact a0J | exact a0M (a0N rfl) | exact a0K | exact a0O))
  | (apply qG; (first | exact a0a rfl | exact a0p (a0o rfl) | exact a0J | exact a0M (a0N rfl) | exact a0K | exact a0O); (intro hb; first | (refine a0C rfl ?_; first | exact a6O hb | exact a7b hb) | exact a0a rfl | exact a0p (a0o rfl) | exact a0J | exact a0M (a0N rfl) | exact a0K | exact a0O))
  | (apply qH; (first | exact a0a rfl | exact a0p (a0o rfl) | exact a0J | exact a0M (a0N rfl) | exact a0K | exact a0O); (intro hb; first | (refine a0C rfl ?_; first | exact a6O hb | exact a7b hb) | exact a0a rfl | exact a0p (a0o rfl) | exact a0J | exact a0M (a0N rfl) | exact a0K | exact a0O))
  | (apply b8y; (first | exact a0a rfl | exact a0p (a0o rfl) | exact a0J | exact a0M (a0N rfl) | exact a0K | exact a0O); (first | exact a0a rfl | exact a0p (a0o rfl) | exact a0J | exact a0M (a0N rfl) | exact a0K | exact a0O))
  | (apply b7Z; (first | exact a0a rfl | exact a0p (a0o rfl) | exact a0J | exact a0M (a0N rfl) | exact a0K | exact a0O); (first | exact a0a rfl | exact a0p (a0o rfl) | exact a0J | exact a0M (a0N rfl) | exact a0K | exact a0O))
  | (apply b6Z; (first | exact a0a rfl | exact a0p (a0o rfl) | exact a0J | exact a0M (a0N rfl) | exact a0K | exact a0O); (first | exact a0a rfl | exact a0p (a0o rfl) | exact a0J | exact a0M (a0N rfl) | exact a0K | exact a0O))
  | (apply b5G; (first | exact a0a rfl | exact a0p (a0o rfl) | exact a0J | exact a0M (a0N rfl) | exact a0K | exact a0O); (first | exact a0a rfl | exact a0p (a0o rfl) | exact a0J | exact a0M (a0N rfl) | exact a0K | exact a0O))
  | (apply b7s; (first | exact a0a rfl | exact a0p (a0o rfl) | exact a0J | exact a0M (a0N rfl) | exact a0K | exact a0O); (first | exact a0a rfl | exact a0p (a0o rfl) | exact a0J | exact a0M (a0N rfl) | exact a0K | exact a0O))
  | (apply b7i; (first | exact a0a rfl | exact a0p (a0o rfl) | exact a0J | exact a0M (a0N rfl) | exact a0K | exact a0O); (first | exact a0a rfl | exact a0p (a0o rfl) | exact a0J | exact a0M (a0N rfl) | exact a0K | exact a0O))
  | (apply b8w; (first | exact a0a rfl | exact a0p (a0o rfl) | exact a0J | exact a0M (a0N rfl) | exact a0K | exact a0O); (first | exact a0a rfl | exact a0p (a0o rfl) | exact a0J | exact a0M (a0N rfl) | exact a0K | exact a0O))
  | (apply b8A; (first | exact a0a rfl | exact a0p (a0o rfl) | exact a0J | exact a0M (a0N rfl) | exact a0K | exact a0O); (first | exact a0a rfl | exact a0p (a0o rfl) | exact a0J | exact a0M (a0N rfl) | exact a0K | exact a0O))
  | (apply b8V; (first | exact a0a rfl | exact a0p (a0o rfl) | exact a0J | exact a0M (a0N rfl) | exact a0K | exact a0O); (first | exact a0a rfl | exact a0p (a0o rfl) | exact a0J | exact a0M (a0N rfl) | exact a0K | exact a0O))
  | (apply b8h; (first | exact a0a rfl | exact a0p (a0o rfl) | exact a0J | exact a0M (a0N rfl) | exact a0K | exact a0O); (first | exact a0a rfl | exact a0p (a0o rfl) | exact a0J | exact a0M (a0N rfl) | exact a0K | exact a0O))
  | (apply b6o; (first | exact a0a rfl | exact a0p (a0o rfl) | exact a0J | exact a0M (a0N rfl) | exact a0K | exact a0O); (first | exact a0a rfl | exact a0p (a0o rfl) | exact a0J | exact a0M (a0N rfl) | exact a0K | exact a0O))
  | (apply b5p; (first | exact a0a rfl | exact a0p (a0o rfl) | exact a0J | exact a0M (a0N rfl) | exact a0K | exact a0O); (first | exact a0a rfl | exact a0p (a0o rfl) | exact a0J | exact a0M (a0N rfl) | exact a0K | exact a0O))
  | (apply b9T; (first | exact a0a rfl | exact a0p (a0o rfl) | exact a0J | exact a0M (a0N rfl) | exact a0K | exact a0O); (first | exact a0a rfl | exact a0p (a0o rfl) | exact a0J | exact a0M (a0N rfl) | exact a0K | exact a0O); omega; omega)
  | (apply b6F; (first | exact a0a rfl | exact a0p (a0o rfl) | exact a0J | exact a0M (a0N rfl) | exact a0K | exact a0O); (first | exact a0a rfl | exact a0p (a0o rfl) | exact a0J | exact a0M (a0N rfl) | exact a0K | exact a0O); omega; omega)
  | (apply qL; (first | exact a0a rfl | exact a0p (a0o rfl) | exact a0J | exact a0M (a0N rfl) | exact a0K | exact a0O); exact rfl)
  | (apply qL2; (first | exact a0a rfl | exact a0p (a0o rfl) | exact a0J | exact a0M (a0N rfl) | exact a0K | exact a0O); exact rfl)
  | (apply qL3; (first | exact a0a rfl | exact a0p (a0o rfl) | exact a0J | exact a0M (a0N rfl) | exact a0K | exact a0O); exact rfl)
  | exact a6o hT rfl rfl rfl (by first | exact a0a rfl | exact a0p (a0o rfl) | exact a0J | exact a0M (a0N rfl) | exact a0K | exact a0O) (by first | exact a0a rfl | exact a0p (a0o rfl) | exact a0J | exact a0M (a0N rfl) | exact a0K | exact a0O) (fun _ => rfl) (by omega) (by omega)
  | exact b5L hT rfl rfl (by first | exact a0a rfl | exact a0p (a0o rfl) | exact a0J | exact a0M (a0N rfl) | exact a0K | exact a0O) (by first | exact a0a rfl | exact a0p (a0o rfl) | exact a0J | exact a0M (a0N rfl) | exact a0K | exact a0O) (by omega) (by omega)) : Pu P C nt o σ v Ks Bs := hp
theorem zq {g : Bool} (hg : g = true) (hp : Pu P C nt o σ v Ks Bs := by
  first
  | (apply qA; (first | (refine a0C rfl ?_; first | exact hg | exact a0f hg | exact a0f (a0f hg) | exact a0f (a0f (a0f hg))) | exact a0a rfl | exact a0p (a0o rfl) | exact a0J | exact a0M (a0N rfl) | exact a0K | exact a0O))
  | (apply qB; (first | (refine a0C rfl ?_; first | exact hg | exact a0f hg | exact a0f (a0f hg) | exact a0f (a0f (a0f hg))) | exact a0a rfl | exact a0p (a0o rfl) | exact a0J | exact a0M (a0N rfl) | exact a0K | exact a0O))
  | (apply qC; (first | (refine a0C rfl ?_; first | exact hg | exact a0f hg | exact a0f (a0f hg) | exact a0f (a0f (a0f hg))) | exact a0a rfl | exact a0p (a0o rfl) | exact a0J | exact a0M (a0N rfl) | exact a0K | exact a0O); exact rfl; exact rfl)
  | (apply qC2; (first | (refine a0C rfl ?_; first | exact hg | exact a0f hg | exact a0f (a0f hg) | exact a0f (a0f (a0f hg))) | exact a0a rfl | exact a0p (a0o rfl) | exact a0J | exact a0M (a0N rfl) | exact a0K | exact a0O); exact rfl; exact rfl)
  | (apply qC3; (first | (refine a0C rfl ?_; first | exact hg | exact a0f hg | exact a0f (a0f hg) | exact a0f (a0f (a0f hg))) | exact a0a rfl | exact a0p (a0o rfl) | exact a0J | exact a0M (a0N rfl) | exact a0K | exact a0O); exact rfl; exact rfl)
  | (apply qD; exact rfl; (first | (refine a0C rfl ?_; first | exact hg | exact a0f hg | exact a0f (a0f hg) | exact a0f (a0f (a0f hg))) | exact a0a rfl | exact a0p (a0o rfl) | exact a0J | exact a0M (a0N rfl) | exact a0K | exact a0O); exact rfl; exact rfl)
  | (apply qD2; exact rfl; (first | (refine a0C rfl ?_; first | exact hg | exact a0f hg | exact a0f (a0f hg) | exact a0f (a0f (a0f hg))) | exact a0a rfl | exact a0p (a0o rfl) | exact a0J | exact a0M (a0N rfl) | exact a0K | exact a0O); exact rfl; exact rfl)
  | (apply qD3; exact rfl; (first | (refine a0C rfl ?_; first | exact hg | exact a0f hg | exact a0f (a0f hg) | exact a0f (a0f (a0f hg))) | exact a0a rfl | exact a0p (a0o rfl) | exact a0J | exact a0M (a0N rfl) | exact a0K | exact a0O); exact rfl)
  | (apply qD4; exact rfl; (first | (refine a0C rfl ?_; first | exact hg | exact a0f hg | exact a0f (a0f hg) | exact a0f (a0f (a0f hg))) | exact a0a rfl | exact a0p (a0o rfl) | exact a0J | exact a0M (a0N rfl) | exact a0K | exact a0O); exact rfl)
  | (apply qE; (first | (refine a0C rfl ?_; first | exact hg | exact a0f hg | exact a0f (a0f hg) | exact a0f (a0f (a0f hg))) | exact a0a rfl | exact a0p (a0o rfl) | exact a0J | exact a0M (a0N rfl) | exact a0K | exact a0O); exact rfl)
  | (apply qE2; (first | (refine a0C rfl ?_; first | exact hg | exact a0f hg | exact a0f (a0f hg) | exact a0f (a0f (a0f hg))) | exact a0a rfl | exact a0p (a0o rfl) | exact a0J | exact a0M (a0N rfl) | exact a0K | exact a0O); exact rfl)
  | (apply qN; (first | (refine a0C rfl ?_; first | exact hg | exact a0f hg | exact a0f (a0f hg) | exact a0f (a0f (a0f hg))) | exact a0a rfl | exact a0p (a0o rfl) | exact a0J | exact a0M (a0N rfl) | exact a0K | exact a0O))
  | (apply qG; (first | (refine a0C rfl ?_; first | exact hg | exact a0f hg | exact a0f (a0f hg) | exact a0f (a0f (a0f hg))) | exact a0a rfl | exact a0p (a0o rfl) | exact a0J | exact a0M (a0N rfl) | exact a0K | exact a0O); (intro hb; first | (refine a0C rfl ?_; first | exact a6O hb | exact a7b hb | exact a6r hg (a6O hb) | exact a6r hg (a7b hb) | exact a6r (a0f hg) (a6O hb) | exact a6r (a0f hg) (a7b hb) | exact hg | exact a0f hg) | exact a0a rfl | exact a0p (a0o rfl) | exact a0J | exact a0M (a0N rfl) | exact a0K | exact a0O))
  | (apply qH; (first | (refine a0C rfl ?_; first | exact hg | exact a0f hg | exact a0f (a0f hg) | exact a0f (a0f (a0f hg))) | exact a0a rfl | exact a0p (a0o rfl) | exact a0J | exact a0M (a0N rfl) | exact a0K | exact a0O); (intro hb; first | (refine a0C rfl ?_; first | exact a6O hb | exact a7b hb | exact a6r hg (a6O hb) | exact a6r hg (a7b hb) | exact a6r (a0f hg) (a6O hb) | exact a6r (a0f hg) (a7b hb) | exact hg | exact a0f hg) | exact a0a rfl | exact a0p (a0o rfl) | exact a0J | exact a0M (a0N rfl) | exact a0K | exact a0O))
  | (apply b8y; (first | (refine a0C rfl ?_; first | exact hg | exact a0f hg | exact a0f (a0f hg) | exact a0f (a0f (a0f hg))) | exact a0a rfl | exact a0p (a0o rfl) | exact a0J | exact a0M (a0N rfl) | exact a0K | exact a0O); (first | (refine a0C rfl ?_; first | exact hg | exact a0f hg | exact a0f (a0f hg) | exact a0f (a0f (a0f hg))) | exact a0a rfl | exact a0p (a0o rfl) | exact a0J | exact a0M (a0N rfl) | exact a0K | exact a0O))
  | (apply b7Z; (first | (refine a0C rfl ?_; first | exact hg | exact a0f hg | exact a0f (a0f hg) | exact a0f (a0f (a0f hg))) | exact a0a rfl | exact a0p (a0o rfl) | exact a0J | exact a0M (a0N rfl) | exact a0K | exact a0O); (first | (refine a0C rfl ?_; first | exact hg | exact a0f hg | exact a0f (a0f hg) | exact a0f (a0f (a0f hg))) | exact a0a rfl | exact a0p (a0o rfl) | exact a0J | exact a0M (a0N rfl) | exact a0K | exact a0O))
  | (apply b6Z; (first | (refine a0C rfl ?_; first | exact hg | exact a0f hg | exact a0f (a0f hg) | exact a0f (a0f (a0f hg))) | exact a0a rfl | exact a0p (a0o rfl) | exact a0J | exact a0M (a0N rfl) | exact a0K | exact a0O); (first | (refine a0C rfl ?_; first | exact hg | exact a0f hg | exact a0f (a0f hg) | exact a0f (a0f (a0f hg))) | exact a0a rfl | exact a0p (a0o rfl) | exact a0J | exact a0M (a0N rfl) | exact a0K | exact a0O))
  | (apply b5G; (first | (refine a0C rfl ?_; first | exact hg | exact a0f hg | exact a0f (a0f hg) | exact a0f (a0f (a0f hg))) | exact a0a rfl | exact a0p (a0o rfl) | exact a0J | exact a0M (a0N rfl) | exact a0K | exact a0O); (first | (refine a0C rfl ?_; first | exact hg | exact a0f hg | exact a0f (a0f hg) | exact a0f (a0f (a0f hg))) | exact a0a rfl | exact a0p (a0o rfl) | exact a0J | exact a0M (a0N rfl) | exact a0K | exact a0O))
  | (apply b7s; (first | (refine a0C rfl ?_; first | exact hg | exact a0f hg | exact a0f (a0f hg) | exact a0f (a0f (a0f hg))) | exact a0a rfl | exact a0p (a0o rfl) | exact a0J | exact a0M (a0N rfl) | exact a0K | exact a0O); (first | (refine a0C rfl ?_; first | exact hg | exact a0f hg | exact a0f (a0f hg) | exact a0f (a0f (a0f hg))) | exact a0a rfl | exact a0p (a0o rfl) | exact a0J | exact a0M (a0N rfl) | exact a0K | exact a0O))
  | (apply b7i; (first | (refine a0C rfl ?_; first | exact hg | exact a0f hg | exact a0f (a0f hg) | exact a0f (a0f (a0f hg))) | exact a0a rfl | exact a0p (a0o rfl) | exact a0J | exact a0M (a0N rfl) | exact a0K | exact a0O); (first | (refine a0C rfl ?_; first | exact hg | exact a0f hg | exact a0f (a0f hg) | exact a0f (a0f (a0f hg))) | exact a0a rfl | exact a0p (a0o rfl) | exact a0J | exact a0M (a0N rfl) | exact a0K | exact a0O))
  | (apply b8w; (first | (refine a0C rfl ?_; first | exact hg | exact a0f hg | exact a0f (a0f hg) | exact a0f (a0f (a0f hg))) | exact a0a rfl | exact a0p (a0o rfl) | exact a0J | exact a0M (a0N rfl) | exact a0K | exact a0O); (first | (refine a0C rfl ?_; first | exact hg | exact a0f hg | exact a0f (a0f hg) | exact a0f (a0f (a0f hg))) | exact a0a rfl | exact a0p (a0o rfl) | exact a0J | exact a0M (a0N rfl) | exact a0K | exact a0O))
  | (apply b8A; (first | (refine a0C rfl ?_; first | exact hg | exact a0f hg | exact a0f (a0f hg) | exact a0f (a0f (a0f hg))) | exact a0a rfl | exact a0p (a0o rfl) | exact a0J | exact a0M (a0N rfl) | exact a0K | exact a0O); (first | (refine a0C rfl ?_; first | exact hg | exact a0f hg | exact a0f (a0f hg) | exact a0f (a0f (a0f hg))) | exact a0a rfl | exact a0p (a0o rfl) | exact a0J | exact a0M (a0N rfl) | exact a0K | exact a0O))
  | (apply b8V; (first | (refine a0C rfl ?_; first | exact hg | exact a0f hg | exact a0f (a0f hg) | exact a0f (a0f (a0f hg))) | exact a0a rfl | exact a0p (a0o rfl) | exact a0J | exact a0M (a0N rfl) | exact a0K | exact a0O); (first | (refine a0C rfl ?_; first | exact hg | exact a0f hg | exact a0f (a0f hg) | exact a0f (a0f (a0f hg))) | exact a0a rfl | exact a0p (a0o rfl) | exact a0J | exact a0M (a0N rfl) | exact a0K | exact a0O))
  | (apply b8h; (first | (refine a0C rfl ?_; first | exact hg | exact a0f hg | exact a0f (a0f hg) | exact a0f (a0f (a0f hg))) | exact a0a rfl | exact a0p (a0o rfl) | exact a0J | exact a0M (a0N rfl) | exact a0K | exact a0O); (first | (refine a0C rfl ?_; first | exact hg | exact a0f hg | exact a0f (a0f hg) | exact a0f (a0f (a0f hg))) | exact a0a rfl | exact a0p (a0o rfl) | exact a0J | exact a0M (a0N rfl) | exact a0K | exact a0O))
  | (apply b6o; (first | (refine a0C rfl ?_; first | exact hg | exact a0f hg | exact a0f (a0f hg) | exact a0f (a0f (a0f hg))) | exact a0a rfl | exact a0p (a0o rfl) | exact a0J | exact a0M (a0N rfl) | exact a0K | exact a0O); (first | (refine a0C rfl ?_; first | exact hg | exact a0f hg | exact a0f (a0f hg) | exact a0f (a0f (a0f hg))) | exact a0a rfl | exact a0p (a0o rfl) | exact a0J | exact a0M (a0N rfl) | exact a0K | exact a0O))
  | (apply b5p; (first | (refine a0C rfl ?_; first | exact hg | exact a0f hg | exact a0f (a0f hg) | exact a0f (a0f (a0f hg))) | exact a0a rfl | exact a0p (a0o rfl) | exact a0J | exact a0M (a0N rfl) | exact a0K | exact a0O); (first | (refine a0C rfl ?_; first | exact hg | exact a0f hg | exact a0f (a0f hg) | exact a0f (a0f (a0f hg))) | exact a0a rfl | exact a0p (a0o rfl) | exact a0J | exact a0M (a0N rfl) | exact a0K | exact a0O))
  | (apply b9T; (first | (refine a0C rfl ?_; first | exact hg | exact a0f hg | exact a0f (a0f hg) | exact a0f (a0f (a0f hg))) | exact a0a rfl | exact a0p (a0o rfl) | exact a0J | exact a0M (a0N rfl) | exact a0K | exact a0O); (first | (refine a0C rfl ?_; first | exact hg | exact a0f hg | exact a0f (a0f hg) | exact a0f (a0f (a0f hg))) | exact a0a rfl | exact a0p (a0o rfl) | exact a0J | exact a0M (a0N rfl) | exact a0K | exact a0O); omega; omega)
  | (apply b6F; (first | (refine a0C rfl ?_; first | exact hg | exact a0f hg | exact a0f (a0f hg) | exact a0f (a0f (a0f hg))) | exact a0a rfl | exact a0p (a0o rfl) | exact a0J | exact a0M (a0N rfl) | exact a0K | exact a0O); (first | (refine a0C rfl ?_; first | exact hg | exact a0f hg | exact a0f (a0f hg) | exact a0f (a0f (a0f hg))) | exact a0a rfl | exact a0p (a0o rfl) | exact a0J | exact a0M (a0N rfl) | exact a0K | exact a0O); omega; omega)
  | (apply qL; (first | (refine a0C rfl ?_; first | exact hg | exact a0f hg | exact a0f (a0f hg) | exact a0f (a0f (a0f hg))) | exact a0a rfl | exact a0p (a0o rfl) | exact a0J | exact a0M (a0N rfl) | exact a0K | exact a0O); exact rfl)
  | (apply qL2; (first | (refine a0C rfl ?_; first | exact hg | exact a0f hg | exact a0f (a0f hg) | exact a0f (a0f (a0f hg))) | exact a0a rfl | exact a0p (a0o rfl) | exact a0J | exact a0M (a0N rfl) | exact a0K | exact a0O); exact rfl)
  | (apply qL3; (first | (refine a0C rfl ?_; first | exact hg | exact a0f hg | exact a0f (a0f hg) | exact a0f (a0f (a0f hg))) | exact a0a rfl | exact a0p (a0o rfl) | exact a0J | exact a0M (a0N rfl) | exact a0K | exact a0O); exact rfl)
  | exact a6o hT rfl rfl rfl (by first | (refine a0C rfl ?_; first | exact hg | exact a0f hg | exact a0f (a0f hg) | exact a0f (a0f (a0f hg))) | exact a0a rfl | exact a0p (a0o rfl) | exact a0J | exact a0M (a0N rfl) | exact a0K | exact a0O) (by first | (refine a0C rfl ?_; first | exact hg | exact a0f hg | exact a0f (a0f hg) | exact a0f (a0f (a0f hg))) | exact a0a rfl | exact a0p (a0o rfl) | exact a0J | exact a0M (a0N rfl) | exact a0K | exact a0O) (fun _ => rfl) (by first | omega | (simp only [Bool.and_eq_true, Bool.or_eq_true, Bool.or_eq_false_iff, Bool.and_eq_false_iff, Bool.not_eq_true', Bool.not_eq_false', beq_iff_eq, decide_eq_true_eq, decide_eq_false_iff_not] at hg; omega) | (have hh := of_decide_eq_true (a4W hg); omega) | (have hh := of_decide_eq_true (a4W (a7M hg)); omega)) (by first | omega | (simp only [Bool.and_eq_true, Bool.or_eq_true, Bool.or_eq_false_iff, Bool.and_eq_false_iff, Bool.not_eq_true', Bool.not_eq_false', beq_iff_eq, decide_eq_true_eq, decide_eq_false_iff_not] at hg; omega) | (have hh := of_decide_eq_true (a4W hg); omega) | (have hh := of_decide_eq_true (a4W (a7M hg)); omega))
  | exact b5L hT rfl rfl (by first | (refine a0C rfl ?_; first | exact hg | exact a0f hg | exact a0f (a0f hg) | exact a0f (a0f (a0f hg))) | exact a0a rfl | exact a0p (a0o rfl) | exact a0J | exact a0M (a0N rfl) | exact a0K | exact a0O) (by first | (refine a0C rfl ?_; first | exact hg | exact a0f hg | exact a0f (a0f hg) | exact a0f (a0f (a0f hg))) | exact a0a rfl | exact a0p (a0o rfl) | exact a0J | exact a0M (a0N rfl) | exact a0K | exact a0O) (by first | omega | (simp only [Bool.and_eq_true, Bool.or_eq_true, Bool.or_eq_false_iff, Bool.and_eq_false_iff, Bool.not_eq_true', Bool.not_eq_false', beq_iff_eq, decide_eq_true_eq, decide_eq_false_iff_not] at hg; omega) | (have hh := of_decide_eq_true (a4W hg); omega) | (have hh := of_decide_eq_true (a4W (a7M hg)); omega)) (by first | omega | (simp only [Bool.and_eq_true, Bool.or_eq_true, Bool.or_eq_false_iff, Bool.and_eq_false_iff, Bool.not_eq_true', Bool.not_eq_false', beq_iff_eq, decide_eq_true_eq, decide_eq_false_iff_not] at hg; omega) | (have hh := of_decide_eq_true (a4W hg); omega) | (have hh := of_decide_eq_true (a4W (a7M hg)); omega))) : Pu P C nt o σ v Ks Bs := hp
theorem zr {xs : List Operand} {us : List SV} (ha : a2i P C nt σ xs us := by repeat' (first | exact a0m | refine a0g (by first | exact a0a rfl | exact a0p (a0o rfl) | exact a0J | exact a0M (a0N rfl) | exact a0K | exact a0O) ?_ ?_ | exact a0D a0c | exact a0D (a0Q rfl rfl) | exact a0D (a5D rfl rfl) | exact a0D a9c | exact a0D b9Z | refine a0s ?_ | exact a0r | refine a0d ?_ ?_ | exact a0c | exact a0Q rfl rfl | exact a5D rfl rfl | exact a9c | exact b9Z)) : a2i P C nt σ xs us := ha
theorem zO (h : Ops P C nt Q all rest ⟨(d, v) :: tm, bx, ks⟩) (hg : o.guard = none := by exact rfl) (hd : o.dst = some d := by exact rfl) (hp : Pu P C nt o ⟨tm, bx, ks⟩ v Ks Bs := by
  exact zp) (hk : (Nat.blt d nt && a1v ⟨tm, bx, ks⟩ v) = true := by exact rfl) : Ops P C nt Q all (o :: rest) ⟨tm, bx, ks⟩ := yO hg hd hp hk h
theorem zG (h : Ops P C nt Q all rest ⟨(d, .opt g v) :: tm, bx, ks⟩) (hd : o.dst = some d := by exact rfl) (hG : Gd P C nt ⟨tm, bx, ks⟩ all o g := by first | exact a1A rfl rfl rfl rfl rfl | exact a4i rfl rfl rfl rfl rfl) (hp : g = true → Pu P C nt o ⟨tm, bx, ks⟩ v Ks Bs := by
  intro hg
  exact zq hg) (hk : (Nat.blt d nt && a1v ⟨tm, bx, ks⟩ v) = true := by exact rfl) : Ops P C nt Q all (o :: rest) ⟨tm, bx, ks⟩ := b5g hG hd hp (Bool.and_eq_true_iff.1 hk).1 (Bool.and_eq_true_iff.1 hk).2 h
theorem zD (i : Nat) (h : OpsD P C nt Q all oB oK hd' (listed.setIfInBounds i true) fuel ⟨(d, v) :: tm, bx, ks⟩) (hi : all[i]? = some o := by exact rfl) (hg : o.guard = none := by exact rfl) (hd : o.dst = some d := by exact rfl) (hp : Pu P C nt o ⟨tm, bx, ks⟩ v Ks Bs := by
  exact zp) (hk : (Nat.blt d nt && a1v ⟨tm, bx, ks⟩ v) = true := by exact rfl) (h1 : (Ks.all fun k => oK.contains k) = true := by exact rfl) (h2 : (Bs.all fun k => oB.contains k) = true := by exact rfl) (ht : a5m .any all hd' listed i = true := by kernel_rfl) : OpsD P C nt Q all oB oK hd' listed (fuel + 1) ⟨tm, bx, ks⟩ := a2F i hi ht hg hd hp h1 h2 (Bool.and_eq_true_iff.1 hk).1 (Bool.and_eq_true_iff.1 hk).2 h
theorem zDG (i : Nat) (h : OpsD P C nt Q all oB oK hd' (listed.setIfInBounds i true) fuel ⟨(d, .opt g v) :: tm, bx, ks⟩) (hi : all[i]? = some o := by exact rfl) (hd : o.dst = some d := by exact rfl) (hG : Gd P C nt ⟨tm, bx, ks⟩ all o g := by first | exact a1A rfl rfl rfl rfl rfl | exact a4i rfl rfl rfl rfl rfl) (hp : g = true → Pu P C nt o ⟨tm, bx, ks⟩ v Ks Bs := by
  intro hg
  exact zq hg) (hk : (Nat.blt d nt && a1v ⟨tm, bx, ks⟩ v) = true := by exact rfl) (h1 : (Ks.all fun k => oK.contains k) = true := by exact rfl) (h2 : (Bs.all fun k => oB.contains k) = true := by exact rfl) (ht : a5m .any all hd' listed i = true := by kernel_rfl) : OpsD P C nt Q all oB oK hd' listed (fuel + 1) ⟨tm, bx, ks⟩ := b0g i hi ht hG hd hp h1 h2 (Bool.and_eq_true_iff.1 hk).1 (Bool.and_eq_true_iff.1 hk).2 h
theorem zDX (i : Nat) (h : OpsD P C nt Q all oB oK hd' (listed.setIfInBounds i true) fuel ⟨(d, v) :: tm, bx, ks⟩) (hi : all[i]? = some o := by exact rfl) (hg : o.guard = none := by exact rfl) (hd : o.dst = some d := by exact rfl) (hp : Pu P C nt o ⟨tm, bx, ks⟩ v Ks Bs := by
  exact zp) (hk : (Nat.blt d nt && a1v ⟨tm, bx, ks⟩ v) = true := by exact rfl) (hx : a8k o = true := by exact rfl) (ht : a8Z .any all hd' listed i = true := by kernel_rfl) : OpsD P C nt Q all oB oK hd' listed (fuel + 1) ⟨tm, bx, ks⟩ := c5T i hi ht hx hg hd hp (Bool.and_eq_true_iff.1 hk).1 (Bool.and_eq_true_iff.1 hk).2 h
theorem zN {nK : List Nat} (i : Nat) (h : OpsN P C nt Q all oB oK nK hd' (listed.setIfInBounds i true) fuel ⟨(d, v) :: tm, bx, ks⟩) (hi : all[i]? = some o := by exact rfl) (hg : o.guard = none := by exact rfl) (hd : o.dst = some d := by exact rfl) (hp : Pu P C nt o ⟨tm, bx, ks⟩ v Ks Bs := by
  exact zp) (hk : (Nat.blt d nt && a1v ⟨tm, bx, ks⟩ v) = true := by exact rfl) (h1 : (Ks.all fun k => oK.contains k) = true := by exact rfl) (h2 : (Bs.all fun k => oB.contains k) = true := by exact rfl) (ht : a5m .any all hd' listed i = true := by kernel_rfl) : OpsN P C nt Q all oB oK nK hd' listed (fuel + 1) ⟨tm, bx, ks⟩ := a5x i hi ht hg hd hp h1 h2 (Bool.and_eq_true_iff.1 hk).1 (Bool.and_eq_true_iff.1 hk).2 h
theorem zC {f : FuncId} {xs : List Operand} {ats : Array TypeId} {us : List SV} (hc : ∀ (args : Array Value) (w : World), (callFunc f args).run P w = .ok (.enter f args) w) (h : Ops P C nt Q all rest ⟨(d, X) :: tm, bx, ks⟩) (hg : o.guard = none := by exact rfl) (hd : o.dst = some d := by exact rfl) (ho : o.op = .call { callee := .value (.func f), args := xs.toArray, argTypes := ats } := by exact rfl)
  (ha : a2i P C nt ⟨tm, bx, ks⟩ xs us := by exact zr) (hf : PFn P f us X) (hp : X.plain = true := by exact rfl) (hn : Nat.blt d nt = true := by exact rfl) : Ops P C nt Q all (o :: rest) ⟨tm, bx, ks⟩ := a3a hg hd ho hc hf ha hp hn h
theorem zK {f : FuncId} {xs : List Operand} {ats : Array TypeId} {us : List SV} {kk : List (Nat × Option KC)} (m : Nat) (hc : ∀ (args : Array Value) (w : World), (callFunc f args).run P w = .ok (.enter f args) w) (h : Ops P C nt Q all rest ⟨(d, v.sh m) :: tm, bx, shK m kk ++ ks⟩) (hg : o.guard = none := by exact rfl) (hd : o.dst = some d := by exact rfl) (ho : o.op = .call { callee := .value (.func f), args := xs.toArray, argTypes := ats } := by exact rfl)
  (ha : a2i P C nt ⟨tm, bx, ks⟩ xs us := by exact zr) (hf : KFn P f us v kk) (hn : Nat.blt d nt = true := by exact rfl) (hres : v.retOk = true := by exact rfl) (hfree : (kk.all fun q => (lkk ⟨tm, bx, ks⟩ (m + q.1)).isNone) = true := by exact rfl) : Ops P C nt Q all (o :: rest) ⟨tm, bx, ks⟩ := a2J m hg hd ho hc hf ha hn hres hfree h
theorem z {p q : Prop} (h : q) (s : q → p := by
  first
  | with_reducible exact yN
  | with_reducible exact yR
  | with_reducible exact a0q
  | with_reducible exact a2p
  | with_reducible exact c3d
  | with_reducible exact c1u
  | with_reducible exact c5k
  | with_reducible exact c5w
  | with_reducible exact c0F
  | with_reducible exact c1G
  | with_reducible exact c5V
  | with_reducible exact c8b
  | (with_reducible refine fun h => c1I ?_ h) <;> exact rfl
  | (with_reducible refine fun h => c4o ?_ h) <;> exact rfl
  | exact fun h => yA rfl rfl rfl h
  | exact fun h => yX rfl rfl rfl rfl rfl rfl h
  | exact fun h => c4V hT rfl rfl rfl rfl rfl rfl h
  | exact fun h => yS hT rfl rfl rfl rfl rfl rfl rfl rfl h
  | exact fun h => zO h
  | exact fun h => zG h
  | exact yN
  | exact fun h => a1p (a0i rfl) (eqB h)
  | exact fun h => a1p (a0i rfl) (eqI h)
  | exact fun h => a1p (a0i rfl) (eqS h)
  | exact fun h => b3v (a0i rfl) (eqB h)
  | exact fun h => b3v (a0i rfl) (eqI h)
  | exact fun h => b3v (a0i rfl) (eqS h)) : p := s h
end
end Go.Proofs.YtfejjkndbpejbaaGreat
