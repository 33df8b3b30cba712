/-
  Laws for the walk: append onto an owned row from any source, at a plain region's list and at a step of a drawn region; slices that read as lists.
-/
import Derived.Test.YtbmgommbmhmbgaaBase
import Derived.RegionTactic
import Derived.OwnWalk
namespace Go.Proofs.Ytbmgommbmhmbgaa
open Go.RowKit

/-- cells that a slice value reads -/
def RowRd (w : World) (A : Option Addr) (m size : Nat) (news : List Value) : Prop :=
  news.length = m * size ∧ (0 < m → ∃ b off, A = some ⟨b, off, none⟩ ∧ ∀ j u, news[j]? = some u → w.cell? ⟨b, off + j, none⟩ = some u)

theorem add_row (b off j : Nat) : (⟨b, off, none⟩ : Addr).add j = ⟨b, off + j, none⟩ := by
  unfold Addr.add
  split
  · subst_vars; rfl
  · rfl

/-- an owned value, its shape -/
theorem own_form {w : World} {base e size n : Nat} {v : Value} {xs : List Value} (h : w.ownsRow base e size v n xs) : ∃ A c, v = .slice A n c ∧ n ≤ c := by
  rcases h.2 with ⟨rfl, rfl⟩ | ⟨g, cap, cur, rfl, _, _, hc, _⟩
  · exact ⟨none, 0, rfl, Nat.le_refl _⟩
  · exact ⟨_, _, rfl, hc⟩

section
variable {P : Program}
theorem run_append_nil_src (w : World) (base : Nat) (t ty e : TypeId) (i : TypeInfo) (size : Nat) (ht : P.underlying t = some (.slice e)) (hi : P.info? e = some i)
    (v : Value) (n : Nat) (xs : List Value) (hown : w.ownsRow base e size v n xs) (c : Nat) : (Builtin.append_ #[t, t] ty #[v, .slice none 0 c]).run P w = .ok v w := by
  rcases hown.2 with ⟨rfl, rfl⟩ | ⟨g, cap, cur, rfl, _, _, hnc, _⟩
  · simp [Builtin.append_, run_underlying ht, sizeOf, typeInfo, hi, Builtin.lenOf, Builtin.firstCells]
  · simp [Builtin.append_, run_underlying ht, sizeOf, typeInfo, hi, Builtin.lenOf, Builtin.firstCells, hnc, storeCells]

theorem run_append_src (w : World) (t ty e : TypeId) (z : Value) (size bytes : Nat) (ht : P.underlying t = some (.slice e)) (hinfo : (P.info? e).map (fun i => (i.zero, i.size, i.bytes)) = some (some z, size, bytes))
    (hzs : z.cells.size = size) (hsz : 0 < size)
    (v : Value) (n : Nat) (xs : List Value) (hown : w.ownsRow 0 e size v n xs)
    (A : Option Addr) (m c : Nat) (news : List Value) (hr : RowRd w A m size news) (h1 : ∀ u ∈ news, u.oneCell' = true)
    (h63 : n + m ≤ maxLen) (hbytes : (n + m) * bytes ≤ 140737488355328) :
    ∃ A' c' w', (Builtin.append_ #[t, t] ty #[v, .slice A m c]).run P w = .ok (.slice A' (n + m) c') w' ∧ w'.ownsRow 0 e size (.slice A' (n + m) c') (n + m) (xs ++ news) ∧ Chg v.ownBlock.toList w w' ∧
      (v.ownBlock = (Value.slice A' (n + m) c').ownBlock ∨ (Value.slice A' (n + m) c').ownBlock = some w.heap.size) := by
  obtain ⟨i, hi, hz, hs, hb⟩ := info_parts hinfo
  have key : ∃ v' w', (Builtin.append_ #[t, t] ty #[v, .slice A m c]).run P w = .ok v' w' ∧ w'.ownsRow 0 e size v' (n + m) (xs ++ news) ∧ w.grownBy w' v.ownBlock ∧
      (v'.ownBlock = v.ownBlock ∨ v'.ownBlock = some w.heap.size) := by
    have main : ∀ ad : Addr, A = some ad → (∀ j u, news[j]? = some u → w.cell? (ad.add j) = some u) → ∃ v' w', (Builtin.append_ #[t, t] ty #[v, .slice A m c]).run P w = .ok v' w' ∧
        w'.ownsRow 0 e size v' (n + m) (xs ++ news) ∧ w.grownBy w' v.ownBlock ∧ (v'.ownBlock = v.ownBlock ∨ v'.ownBlock = some w.heap.size) := by
      intro ad hA hcells
      obtain ⟨v', w', hrun, h2, h3, _, h5⟩ := run_append_own_at (P := P) w 0 t ty e i z size bytes ht hi hz hs hb hzs hsz v n xs hown ad m c news hr.1 hcells h1 h63 hbytes (Nat.zero_le _)
      subst hA
      exact ⟨v', w', hrun, h2, h3, h5⟩
    rcases Nat.eq_zero_or_pos m with h0 | h0
    · subst h0
      have hn : news = [] := List.eq_nil_of_length_eq_zero (by simpa using hr.1)
      subst hn
      rcases A with _ | ad
      · exact ⟨v, w, run_append_nil_src w 0 t ty e i size ht hi v n xs hown c, by simpa using hown, World.grownBy.refl w _, .inl rfl⟩
      · exact main ad rfl (fun j u hu => by simp at hu)
    · obtain ⟨b, off, rfl, hc⟩ := hr.2 h0
      exact main _ rfl (fun j u hu => by rw [add_row]; exact hc j u hu)
  obtain ⟨v', w', hrun, h2, h3, h4⟩ := key
  obtain ⟨A', c', rfl, _⟩ := own_form h2
  refine ⟨A', c', w', hrun, h2, (Chg.refl _ w).grown h3 (fun g hg => .inl (by rw [hg]; simp)), ?_⟩
  rcases h4 with h4 | h4
  · exact .inl h4.symm
  · exact .inr h4

theorem wp_app (w : World) {o : Oper} {a : Act} {K : Act → World → Prop} {Q : Exit → Act → World → Prop} (s x : Operand) (t : TypeId)
    (ho : o.op = .call { callee := .builtin .append, args := #[s, x], argTypes := #[t, t] })
    (e : TypeId) (z : Value) (size bytes : Nat) (ht : P.underlying t = some (.slice e)) (hinfo : (P.info? e).map (fun i => (i.zero, i.size, i.bytes)) = some (some z, size, bytes))
    (hzs : z.cells.size = size) (hsz : 0 < size)
    (v : Value) (n : Nat) (xs : List Value) (hs : a.eval s = v) (hown : w.ownsRow 0 e size v n xs)
    (A : Option Addr) (m c : Nat) (news : List Value) (hx : a.eval x = .slice A m c) (hr : RowRd w A m size news) (h1 : ∀ u ∈ news, u.oneCell' = true)
    (h63 : n + m ≤ maxLen) (hbytes : (n + m) * bytes ≤ 140737488355328)
    (h : ∀ A' c' w', w'.ownsRow 0 e size (.slice A' (n + m) c') (n + m) (xs ++ news) → Chg v.ownBlock.toList w w' → (v.ownBlock = (Value.slice A' (n + m) c').ownBlock ∨ (Value.slice A' (n + m) c').ownBlock = some w.heap.size) →
      K (a.put o.dst (.slice A' (n + m) c')) w') : o.wp P a w K Q := by
  obtain ⟨A', c', w', hrun, h2, h3, h4⟩ := run_append_src (P := P) w t o.type e z size bytes ht hinfo hzs hsz v n xs hown A m c news hr h1 h63 hbytes
  unfold Oper.wp execOp
  simp only [ho, resolve, invoke, builtin, Sem.run_bind, Sem.run_pure, Result.andThen_ok, List.map_toArray, List.map_cons, List.map_nil, hs, hx, hrun]
  exact h A' c' w' h2 h3 h4

theorem wpList_app (w : World) {ops : Array Oper} {rest : List Oper} {o : Oper} {a : Act} {Q : Exit → Act → World → Prop} (hgd : o.guard = none) (s x : Operand) (t : TypeId)
    (ho : o.op = .call { callee := .builtin .append, args := #[s, x], argTypes := #[t, t] })
    (e : TypeId) (z : Value) (size bytes : Nat) (ht : P.underlying t = some (.slice e)) (hinfo : (P.info? e).map (fun i => (i.zero, i.size, i.bytes)) = some (some z, size, bytes))
    (hzs : z.cells.size = size) (hsz : 0 < size)
    (v : Value) (n : Nat) (xs : List Value) (hs : a.eval s = v) (hown : w.ownsRow 0 e size v n xs)
    (A : Option Addr) (m c : Nat) (news : List Value) (hx : a.eval x = .slice A m c) (hr : RowRd w A m size news) (h1 : ∀ u ∈ news, u.oneCell' = true)
    (h63 : n + m ≤ maxLen) (hbytes : (n + m) * bytes ≤ 140737488355328)
    (h : ∀ A' c' w', w'.ownsRow 0 e size (.slice A' (n + m) c') (n + m) (xs ++ news) → Chg v.ownBlock.toList w w' → (v.ownBlock = (Value.slice A' (n + m) c').ownBlock ∨ (Value.slice A' (n + m) c').ownBlock = some w.heap.size) →
      wpList P ops Q rest (a.put o.dst (.slice A' (n + m) c')) w') : wpList P ops Q (o :: rest) a w :=
  wpList_plain hgd fun _ hK => wp_app w s x t ho e z size bytes ht hinfo hzs hsz v n xs hs hown A m c news hx hr h1 h63 hbytes fun A' c' w' h2 h3 h4 => hK _ _ (h A' c' w' h2 h3 h4)

theorem step_app {ops : Array Oper} {w : World} {o : Oper} {a : Act} {K : Act → World → Prop} {Q : Exit → Act → World → Prop} {E : Prop} (hgd : o.guard = none) (s x : Operand) (t : TypeId)
    (ho : o.op = .call { callee := .builtin .append, args := #[s, x], argTypes := #[t, t] })
    (e : TypeId) (z : Value) (size bytes : Nat) (ht : P.underlying t = some (.slice e)) (hinfo : (P.info? e).map (fun i => (i.zero, i.size, i.bytes)) = some (some z, size, bytes))
    (hzs : z.cells.size = size) (hsz : 0 < size)
    (v : Value) (n : Nat) (xs : List Value) (hs : a.eval s = v) (hown : w.ownsRow 0 e size v n xs)
    (A : Option Addr) (m c : Nat) (news : List Value) (hx : a.eval x = .slice A m c) (hr : RowRd w A m size news) (h1 : ∀ u ∈ news, u.oneCell' = true)
    (h63 : n + m ≤ maxLen) (hbytes : (n + m) * bytes ≤ 140737488355328)
    (h : ∀ A' c' w', w'.ownsRow 0 e size (.slice A' (n + m) c') (n + m) (xs ++ news) → Chg v.ownBlock.toList w w' → (v.ownBlock = (Value.slice A' (n + m) c').ownBlock ∨ (Value.slice A' (n + m) c').ownBlock = some w.heap.size) →
      K (a.put o.dst (.slice A' (n + m) c')) w') : if Region.wanted o (yielded ops a.tmps) = true then Oper.wp P o a w K Q else E := by
  have hw : Region.wanted o (yielded ops a.tmps) = true := by simp [Region.wanted, hgd]
  rw [if_pos hw]
  exact wp_app w s x t ho e z size bytes ht hinfo hzs hsz v n xs hs hown A m c news hx hr h1 h63 hbytes h
end
/-- an empty row that was made just now -/
theorem own_empty {w : World} {g e size : Nat} (h : w.heap[g]? = some (.cells #[] e (0, 0))) : w.ownsRow 0 e size (.slice (some ⟨g, 0, none⟩) 0 0) 0 [] :=
  ⟨by simp, .inr ⟨g, 0, #[], rfl, Nat.zero_le _, h, Nat.le_refl _, by simp [maxLen], by simp, by simp⟩⟩

/-- cells without memory of their own -/
def Plain {α : Type} (C : Cod α) : Prop := ∀ w B x cs, C.Rd w B x cs → ∀ w', C.Own w' x cs []
theorem plain_int : Plain intC := fun _ _ _ _ h _ => ⟨h.1, rfl, h.2⟩
theorem plain_byte : Plain byteC := fun _ _ _ _ h _ => ⟨h, rfl⟩
theorem plain_str : Plain strC := fun _ _ _ _ h _ => ⟨h.1, rfl, h.2⟩
theorem plain_prod {α β : Type} {A : Cod α} {B : Cod β} (ha : Plain A) (hb : Plain B) : Plain (prodC A B) :=
  fun _ _ _ _ ⟨c1, c2, e, h1, h2⟩ w' => ⟨c1, c2, [], [], e, rfl, ha _ _ _ _ h1 w', hb _ _ _ _ h2 w'⟩
theorem plain_all {α : Type} {C : Cod α} (hp : Plain C) {w : World} {B : Nat} (w' : World) : ∀ (xs : List α) (cs : List Value), AllR (C.Rd w B) xs cs → AllO (C.Own w') xs cs []
  | [], _, h => ⟨h, rfl⟩
  | _ :: xs, _, ⟨c1, c2, e, h1, h2⟩ => ⟨c1, c2, [], [], e, rfl, hp _ _ _ _ h1 w', plain_all hp w' xs c2 h2⟩

/-- a slice that reads: its cells as a row -/
theorem rd_row {α : Type} {e : TypeId} {C : Cod α} {w : World} {B : Nat} {xs : List α} {A : Option Addr} {n c : Nat} (h : (sliceC e C).Rd w B xs [.slice A n c]) :
    n = xs.length ∧ n ≤ c ∧ c ≤ maxLen ∧ ∃ cells, AllR (C.Rd w B) xs cells ∧ RowRd w A n C.size cells ∧ (0 < n → ∃ b off, A = some ⟨b, off, none⟩ ∧ b < B) := by
  obtain ⟨A', c', cells, e1, h2, h3, h4, h5⟩ := h
  simp only [List.cons.injEq, Value.slice.injEq, and_true] at e1
  obtain ⟨rfl, rfl, rfl⟩ := e1
  refine ⟨rfl, h2, h3, cells, h4, ⟨AllR.len (fun _ _ hr => C.rd_len hr) _ _ h4, fun hn => ?_⟩, fun hn => ?_⟩
  · obtain ⟨b, off, e1, _, e3⟩ := h5 hn
    exact ⟨b, off, e1, e3⟩
  · obtain ⟨b, off, e1, e2, _⟩ := h5 hn
    exact ⟨b, off, e1, e2⟩
theorem RowRd.keep {w w' : World} {A : Option Addr} {m size : Nat} {news : List Value} (h : RowRd w A m size news) (hk : 0 < m → ∀ a, A = some a → w'.heap[a.block]? = w.heap[a.block]?) : RowRd w' A m size news :=
  ⟨h.1, fun hm => by
    obtain ⟨b, off, e, hc⟩ := h.2 hm
    exact ⟨b, off, e, fun j u hu => (World.cell?_of_block (a := ⟨b, off + j, none⟩) (hk hm ⟨b, off, none⟩ e)).trans (hc j u hu)⟩⟩
/-- an element of a slice that reads -/
theorem rd_at {α : Type} {e : TypeId} {C : Cod α} {w : World} {B : Nat} {xs : List α} {A : Option Addr} {n c : Nat} (h : (sliceC e C).Rd w B xs [.slice A n c]) {i : Nat} {x : α} (hx : xs[i]? = some x) :
    ∃ b off ci, A = some ⟨b, off, none⟩ ∧ b < B ∧ C.Rd w B x ci ∧ ∀ j u, ci[j]? = some u → w.cell? ⟨b, off + (i * C.size + j), none⟩ = some u := by
  obtain ⟨rfl, _, _, cells, h4, h5, h6⟩ := rd_row h
  have hi : i < xs.length := (List.getElem?_eq_some_iff.1 hx).1
  obtain ⟨b, off, rfl, hb⟩ := h6 (by omega)
  obtain ⟨b', off', e1, hc⟩ := h5.2 (by omega)
  simp only [Option.some.injEq, Addr.mk.injEq, and_true] at e1
  obtain ⟨rfl, rfl⟩ := e1
  obtain ⟨ci, hr, hj⟩ := AllR.get (n := C.size) (fun _ _ hr => C.rd_len hr) _ _ i x h4 hx
  refine ⟨b, off, ci, rfl, hb, hr, fun j u hu => hc _ _ ?_⟩
  have hjl : j < C.size := by rw [← C.rd_len hr]; exact (List.getElem?_eq_some_iff.1 hu).1
  rw [hj j hjl, hu]
/-- blocks from n on, none twice -/
def Fresh (n : Nat) (fp : List Nat) : Prop := fp.Nodup ∧ ∀ b ∈ fp, n ≤ b
theorem Fresh.nil (n : Nat) : Fresh n [] := ⟨List.nodup_nil, by simp⟩
theorem Fresh.mono {n m : Nat} {fp : List Nat} (h : Fresh n fp) (hm : m ≤ n) : Fresh m fp := ⟨h.1, fun b hb => Nat.le_trans hm (h.2 b hb)⟩
theorem Fresh.append {n m : Nat} {f g : List Nat} (h : Fresh n f) (hg : Fresh m g) (hf : ∀ b ∈ f, b < m) (hn : n ≤ m) : Fresh n (f ++ g) :=
  ⟨List.nodup_append.2 ⟨h.1, hg.1, fun a ha b hb e => by have := hf a ha; have := hg.2 b hb; omega⟩, fun b hb => by
    rw [List.mem_append] at hb
    rcases hb with hb | hb
    · exact h.2 b hb
    · exact Nat.le_trans hn (hg.2 b hb)⟩
/-- a value that hangs on no memory -/
def Ret (v : Value) (w : World) (e : Ending) (w' : World) : Prop := e = .returned v ∧ Chg [] w w'
/-- a struct, fresh and owned -/
def RetS {α : Type} (C : Cod α) (x : α) (w : World) (e : Ending) (w' : World) : Prop :=
  ∃ cs fp, e = .returned (.agg cs.toArray) ∧ C.Own w' x cs fp ∧ Fresh w.heap.size fp ∧ Chg [] w w'
/-- a slice, fresh and owned -/
def RetV {α : Type} (C : Cod (List α)) (x : List α) (w : World) (e : Ending) (w' : World) : Prop :=
  ∃ A n c fp, e = .returned (.slice A n c) ∧ C.Own w' x [.slice A n c] fp ∧ Fresh w.heap.size fp ∧ Chg [] w w'
theorem nodup_own (v : Value) : v.ownBlock.toList.Nodup := by cases v.ownBlock <;> simp
theorem heap_alloc_eq {w : World} {o : Obj} {k : Nat} (h : k = w.heap.size) : (w.alloc o).heap[k]? = some o := by subst h; exact heap_alloc_new w o
theorem RowRd.chg {w w' : World} {A : Option Addr} {m size B : Nat} {news : List Value} (h : RowRd w A m size news) (hlt : 0 < m → ∃ b off, A = some ⟨b, off, none⟩ ∧ b < B) (hB : B ≤ w.heap.size) (hc : Chg [] w w') : RowRd w' A m size news :=
  h.keep (fun hm a ha => by
    obtain ⟨b, off, e, hb⟩ := hlt hm
    rw [e] at ha
    cases ha
    exact hc.block b (by omega) (by simp))
/-- a row of new cells at the head of a new block -/
theorem RowRd.new (w : World) (cs : List Value) (m size : Nat) (e : TypeId) (h : cs.length = m * size) {k : Nat} (hk : k = w.heap.size) : RowRd (w.alloc (.cells cs.toArray e)) (some ⟨k, 0, none⟩) m size cs :=
  ⟨h, fun _ => ⟨k, 0, rfl, fun j u hu => by
    rw [cell_of_row _ k (0 + j) cs.toArray e (0, 0) (heap_alloc_eq hk)]
    simpa using hu⟩⟩

section
variable {P : Program}
/-- append onto an owned slice, whatever the elements: what is owned behind it -/
theorem own_app {α : Type} {C : Cod α} {e : TypeId} {w w' : World} {xs ys : List α} {A A' : Option Addr} {n c c' m : Nat} {fp f2 : List Nat} {news : List Value}
    (hown : (sliceC e C).Own w xs [.slice A n c] fp) (hys : AllO (C.Own w) ys news f2) (hnd : (fp ++ f2).Nodup) (hm : m = ys.length)
    {cells : List Value} {f : List Nat} (hfp : fp = (Value.slice A n c).ownBlock.toList ++ f) (hall : AllO (C.Own w) xs cells f)
    (hrow : w'.ownsRow 0 e C.size (.slice A' (n + m) c') (n + m) (cells ++ news)) (hchg : Chg (Value.slice A n c).ownBlock.toList w w')
    (hat : (Value.slice A n c).ownBlock = (Value.slice A' (n + m) c').ownBlock ∨ (Value.slice A' (n + m) c').ownBlock = some w.heap.size) :
    ∃ fp', (sliceC e C).Own w' (xs ++ ys) [.slice A' (n + m) c'] fp' ∧ fp'.Nodup ∧ (∀ b ∈ fp', b ∈ fp ∨ b ∈ f2 ∨ b = w.heap.size) ∧ Chg fp w w' := by
  have hn : n = xs.length := by
    obtain ⟨v, cells', f', e1, _, h3, _⟩ := hown
    simp only [List.cons.injEq, and_true] at e1
    subst e1
    rcases h3.2 with ⟨e2, h0⟩ | ⟨g, cap, cur, e2, _⟩
    · simp only [Value.slice.injEq] at e2; omega
    · simp only [Value.slice.injEq] at e2; omega
  have hlt := (sliceC e C).own_lt hown
  have hlt2 : ∀ b ∈ f2, b < w.heap.size := AllO.mem (fun _ _ _ ho => C.own_lt ho) _ _ _ hys
  subst hfp
  have hdis : ∀ b ∈ f ++ f2, b ∉ (Value.slice A n c).ownBlock.toList := by
    intro b hb hv
    rw [List.append_assoc, List.nodup_append] at hnd
    exact hnd.2.2 b hv b hb rfl
  have hkeep : ∀ b ∈ f ++ f2, w'.heap[b]? = w.heap[b]? := fun b hb => hchg.block b (by
    rw [List.mem_append] at hb
    rcases hb with hb | hb
    · exact hlt b (by simp [hb])
    · exact hlt2 b hb) (hdis b hb)
  have h1 : AllO (C.Own w') xs cells f := AllO.keep _ _ _ hall (fun _ _ _ hf ho => C.own_keep ho (fun b hb => hkeep b (by simp [hf b hb])))
  have h2 : AllO (C.Own w') ys news f2 := AllO.keep _ _ _ hys (fun _ _ _ hf ho => C.own_keep ho (fun b hb => hkeep b (by simp [hf b hb])))
  refine ⟨(Value.slice A' (n + m) c').ownBlock.toList ++ (f ++ f2), ⟨_, _, _, rfl, rfl, ?_, AllO.append _ _ _ _ _ _ h1 h2⟩, ?_, ?_, hchg.mono (fun k hk => by simp [hk])⟩
  · rw [List.length_append, ← hn, ← hm]; exact hrow
  · rw [List.append_assoc, List.nodup_append] at hnd
    refine List.nodup_append.2 ⟨nodup_own _, hnd.2.1, fun a ha b hb e => ?_⟩
    subst e
    rcases hat with h | h
    · rw [← h] at ha; exact hdis a hb ha
    · rw [h] at ha
      simp only [Option.toList_some, List.mem_singleton] at ha
      have := hkeep a hb
      rw [List.mem_append] at hb
      rcases hb with hb | hb
      · have := hlt a (by simp [hb]); omega
      · have := hlt2 a hb; omega
  · intro b hb
    rw [List.mem_append, List.mem_append] at hb
    rcases hb with hb | hb | hb
    · rcases hat with h | h
      · rw [← h] at hb; exact .inl (by simp [hb])
      · rw [h] at hb; simp only [Option.toList_some, List.mem_singleton] at hb; exact .inr (.inr hb)
    · exact .inl (by simp [hb])
    · exact .inr (.inl hb)

theorem wpList_push {α : Type} (C : Cod α) (w : World) {ops : Array Oper} {rest : List Oper} {o : Oper} {a : Act} {Q : Exit → Act → World → Prop} (hgd : o.guard = none) (s x : Operand) (t : TypeId)
    (ho : o.op = .call { callee := .builtin .append, args := #[s, x], argTypes := #[t, t] })
    (e : TypeId) (z : Value) (bytes : Nat) (ht : P.underlying t = some (.slice e)) (hinfo : (P.info? e).map (fun i => (i.zero, i.size, i.bytes)) = some (some z, C.size, bytes))
    (hzs : z.cells.size = C.size)
    (A : Option Addr) (n c : Nat) (hs : a.eval s = .slice A n c) (xs : List α) (fp : List Nat) (hown : (sliceC e C).Own w xs [.slice A n c] fp)
    (B : Option Addr) (m d : Nat) (hx : a.eval x = .slice B m d) (ys : List α) (f2 : List Nat) (news : List Value) (hr : RowRd w B m C.size news) (hys : AllO (C.Own w) ys news f2)
    (hm : m = ys.length) (hnd : (fp ++ f2).Nodup)
    (h63 : n + m ≤ maxLen) (hbytes : (n + m) * bytes ≤ 140737488355328)
    (h : ∀ A' c' w' fp', (sliceC e C).Own w' (xs ++ ys) [.slice A' (n + m) c'] fp' → fp'.Nodup → (∀ b ∈ fp', b ∈ fp ∨ b ∈ f2 ∨ b = w.heap.size) → Chg fp w w' →
      wpList P ops Q rest (a.put o.dst (.slice A' (n + m) c')) w') : wpList P ops Q (o :: rest) a w := by
  obtain ⟨v, cells, f, e1, e2, h3, h4⟩ := id hown
  simp only [List.cons.injEq, and_true] at e1
  subst e1
  have hn : n = xs.length := by
    rcases h3.2 with ⟨e2, h0⟩ | ⟨g, cap, cur, e2, _⟩
    · simp only [Value.slice.injEq] at e2; omega
    · simp only [Value.slice.injEq] at e2; omega
  rw [← hn] at h3
  refine wpList_app w hgd s x t ho e z C.size bytes ht hinfo hzs C.pos _ n cells hs h3 B m d news hx hr (AllO.memc (fun _ _ _ ho => C.one ho) _ _ _ hys) h63 hbytes ?_
  intro A' c' w' hrow hchg hat
  obtain ⟨fp', g1, g2, g3, g4⟩ := own_app hown hys hnd hm e2 h4 hrow hchg hat
  exact h A' c' w' fp' g1 g2 g3 g4
theorem wp_push {α : Type} (C : Cod α) (w : World) {o : Oper} {a : Act} {K : Act → World → Prop} {Q : Exit → Act → World → Prop} (s x : Operand) (t : TypeId)
    (ho : o.op = .call { callee := .builtin .append, args := #[s, x], argTypes := #[t, t] })
    (e : TypeId) (z : Value) (bytes : Nat) (ht : P.underlying t = some (.slice e)) (hinfo : (P.info? e).map (fun i => (i.zero, i.size, i.bytes)) = some (some z, C.size, bytes))
    (hzs : z.cells.size = C.size)
    (A : Option Addr) (n c : Nat) (hs : a.eval s = .slice A n c) (xs : List α) (fp : List Nat) (hown : (sliceC e C).Own w xs [.slice A n c] fp)
    (B : Option Addr) (m d : Nat) (hx : a.eval x = .slice B m d) (ys : List α) (f2 : List Nat) (news : List Value) (hr : RowRd w B m C.size news) (hys : AllO (C.Own w) ys news f2)
    (hm : m = ys.length) (hnd : (fp ++ f2).Nodup)
    (h63 : n + m ≤ maxLen) (hbytes : (n + m) * bytes ≤ 140737488355328)
    (h : ∀ A' c' w' fp', (sliceC e C).Own w' (xs ++ ys) [.slice A' (n + m) c'] fp' → fp'.Nodup → (∀ b ∈ fp', b ∈ fp ∨ b ∈ f2 ∨ b = w.heap.size) → Chg fp w w' →
      K (a.put o.dst (.slice A' (n + m) c')) w') : o.wp P a w K Q := by
  obtain ⟨v, cells, f, e1, e2, h3, h4⟩ := id hown
  simp only [List.cons.injEq, and_true] at e1
  subst e1
  have hn : n = xs.length := by
    rcases h3.2 with ⟨e2, h0⟩ | ⟨g, cap, cur, e2, _⟩
    · simp only [Value.slice.injEq] at e2; omega
    · simp only [Value.slice.injEq] at e2; omega
  rw [← hn] at h3
  refine wp_app w s x t ho e z C.size bytes ht hinfo hzs C.pos _ n cells hs h3 B m d news hx hr (AllO.memc (fun _ _ _ ho => C.one ho) _ _ _ hys) h63 hbytes ?_
  intro A' c' w' hrow hchg hat
  obtain ⟨fp', g1, g2, g3, g4⟩ := own_app hown hys hnd hm e2 h4 hrow hchg hat
  exact h A' c' w' fp' g1 g2 g3 g4
end
/-! readings in the world at hand, whatever lies there -/
section
variable {α : Type} {C : Cod α} {w w' : World} {x : α} {cs : List Value} {fp : List Nat}
theorem rd_chg (h : C.Rd w w.heap.size x cs) (hc : Chg [] w w') : C.Rd w' w'.heap.size x cs :=
  C.rd_le (C.rd_keep h (fun b hb => hc.block b hb (by simp))) hc.size
theorem rd_own (h : C.Own w x cs fp) : C.Rd w w.heap.size x cs := C.own_rd h (C.own_lt h)
theorem own_chg (h : C.Own w x cs fp) {S : List Nat} (hc : Chg S w w') (hs : ∀ b ∈ fp, b ∉ S) : C.Own w' x cs fp :=
  C.own_keep h (fun b hb => hc.block b (C.own_lt h b hb) (hs b hb))
theorem own_chg0 (h : C.Own w x cs fp) (hc : Chg [] w w') : C.Own w' x cs fp := own_chg h hc (by simp)
end
/-- a slice that reads: its length, and each element -/
theorem rds_len {α : Type} {e : TypeId} {C : Cod α} {w : World} {B : Nat} {xs : List α} {A : Option Addr} {n c : Nat} (h : (sliceC e C).Rd w B xs [.slice A n c]) : n = xs.length := (rd_row h).1
theorem own_len {α : Type} {e : TypeId} {C : Cod α} {w : World} {xs : List α} {A : Option Addr} {n c : Nat} {fp : List Nat} (h : (sliceC e C).Own w xs [.slice A n c] fp) : n = xs.length := rds_len (rd_own h)
/-- an owned slice is nil and empty, or a row of its own -/
theorem own_cases {α : Type} {e : TypeId} {C : Cod α} {w : World} {xs : List α} {cs : List Value} {fp : List Nat} (h : (sliceC e C).Own w xs cs fp) :
    (cs = [.slice none 0 0] ∧ xs = [] ∧ fp = []) ∨ ∃ g cap cells spare f, cs = [.slice (some ⟨g, 0, none⟩) xs.length cap] ∧ fp = g :: f ∧ Blk w g e (cells ++ spare).toArray ∧ AllO (C.Own w) xs cells f ∧
      xs.length ≤ cap ∧ cap ≤ maxLen ∧ (cells ++ spare).length = cap * C.size := by
  obtain ⟨v, cells, f, e1, e2, h3, h4⟩ := h
  rcases h3.2 with ⟨rfl, hn⟩ | ⟨g, cap, cur, rfl, _, hg, hnc, hcm, hsz, htake⟩
  · have hx : xs = [] := List.eq_nil_of_length_eq_zero hn
    subst hx
    have hf : f = [] := h4.2
    exact .inl ⟨e1, rfl, by rw [e2, hf]; rfl⟩
  · refine .inr ⟨g, cap, cells, cur.toList.drop (xs.length * C.size), f, e1, e2, ?_, h4, hnc, hcm, ?_⟩
    · rw [← htake, List.take_append_drop]; exact hg
    · rw [← htake, List.take_append_drop, Array.length_toList, hsz]
theorem own_mk {α : Type} {e : TypeId} {C : Cod α} {w : World} {xs : List α} {g cap : Nat} {cells spare : List Value} {f : List Nat} (hb : Blk w g e (cells ++ spare).toArray) (ha : AllO (C.Own w) xs cells f)
    (hn : xs.length ≤ cap) (hc : cap ≤ maxLen) (hl : (cells ++ spare).length = cap * C.size) : (sliceC e C).Own w xs [.slice (some ⟨g, 0, none⟩) xs.length cap] (g :: f) := by
  have hlen := AllO.len (n := C.size) (fun _ _ _ ho => C.own_len ho) _ _ _ ha
  refine ⟨_, cells, f, rfl, rfl, ⟨hlen, .inr ⟨g, cap, _, rfl, Nat.zero_le _, hb, hn, hc, by simpa using hl, ?_⟩⟩, ha⟩
  rw [← hlen]; simp
/-- the row of an owned slice -/
theorem own_row {α : Type} {e : TypeId} {C : Cod α} {w : World} {xs : List α} {A : Option Addr} {n c : Nat} {fp : List Nat} (h : (sliceC e C).Own w xs [.slice A n c] fp) (hnd : fp.Nodup) :
    ∃ cells f, RowRd w A n C.size cells ∧ AllO (C.Own w) xs cells f ∧ (∀ b ∈ f, b ∈ fp) ∧ f.Nodup := by
  have hn := own_len h
  rcases own_cases h with ⟨e1, rfl, rfl⟩ | ⟨g, cap, cells, spare, f, e1, rfl, hblk, hall, hnc, hcm, hlen⟩
  · simp only [List.cons.injEq, Value.slice.injEq, and_true] at e1
    obtain ⟨rfl, rfl, rfl⟩ := e1
    exact ⟨[], [], ⟨by simp, fun h => by omega⟩, ⟨rfl, rfl⟩, by simp, by simp⟩
  · simp only [List.cons.injEq, Value.slice.injEq, and_true] at e1
    obtain ⟨rfl, _, rfl⟩ := e1
    have hl := AllO.len (n := C.size) (fun _ _ _ ho => C.own_len ho) _ _ _ hall
    refine ⟨cells, f, ⟨by rw [hl, hn], fun _ => ⟨g, 0, rfl, fun j u hu => ?_⟩⟩, hall, fun b hb => by simp [hb], (List.nodup_cons.1 hnd).2⟩
    rw [Nat.zero_add, hblk.cell, List.getElem?_toArray, List.getElem?_append_left (List.getElem?_eq_some_iff.1 hu).1, hu]
end Go.Proofs.Ytbmgommbmhmbgaa
