/-
  The rules of a small program logic over abstract states: no program is in sight but in the table of its types. Conditions: none.
-/
import Derived.Deep.AppendLies
import Derived.Deep.Draws
import Derived.Deep.LoopGhost
import Derived.Laws.BytesString
import Derived.Laws.OwnMore
import Derived.Lib.Hide
import Derived.Maps.AppendAt
import Derived.OrdersHeld
import Derived.OwnWalk
import Derived.RegionTactic
import Derived.WalkKit
namespace Go.Proofs.YteellmjlalgjaaaGreat
open Go.RowKit
theorem c5p {p : Prop} [Decidable p] (h : decide p = true) : p := of_decide_eq_true h
theorem c5q {p : Prop} [Decidable p] (h : decide p = false) : ¬p := of_decide_eq_false h
theorem c5r {α : Type _} {x : Option α} : x.isSome = true ↔ ∃ a, x = some a := Option.isSome_iff_exists
theorem c5s {α : Type _} {x y : List α} : (x ++ y).length = x.length + y.length := List.length_append
theorem c5t {α : Type _} {i : Nat} {x : List α} : (x.take i).length = min i x.length := List.length_take
structure Chg (S : List Nat) (w w' : World) : Prop where
 os : w'.os = w.os
 tape : w'.tape = w.tape
 output : w'.output = w.output
 size : w.heap.size ≤ w'.heap.size
 block : ∀ k, k < w.heap.size → k ∉ S → w'.heap[k]? = w.heap[k]?
theorem Chg.refl (S : List Nat) (w : World) : Chg S w w := ⟨rfl, rfl, rfl, Nat.le_refl _, fun _ _ _ => rfl⟩
theorem Chg.trans {S : List Nat} {a b c : World} (h : Chg S a b) (k : Chg S b c) : Chg S a c :=
 ⟨k.os.trans h.os, k.tape.trans h.tape, k.output.trans h.output, Nat.le_trans h.size k.size, fun i hi hn => (k.block i (Nat.lt_of_lt_of_le hi h.size) hn).trans (h.block i hi hn)⟩
theorem Chg.mono {S T : List Nat} {a b : World} (h : Chg S a b) (hs : ∀ k ∈ S, k ∈ T) : Chg T a b :=
 ⟨h.os, h.tape, h.output, h.size, fun i hi hn => h.block i hi (fun hm => hn (hs i hm))⟩
theorem Chg.drew {S : List Nat} {a w : World} (h : Chg S a w) : Chg S a w.drew := ⟨h.os, h.tape, h.output, h.size, h.block⟩
theorem Chg.alloc {S : List Nat} {a w : World} (h : Chg S a w) (o : Obj) : Chg S a (w.alloc o) :=
 ⟨h.os, h.tape, h.output, Nat.le_trans h.size (by simp), fun i hi hn => (Below.heap_alloc w o i (Nat.lt_of_lt_of_le hi h.size)).trans (h.block i hi hn)⟩
theorem Chg.grown {S : List Nat} {a w w' : World} {row : Option Nat} (h : Chg S a w) (hg : w.grownBy w' row) (hr : ∀ g, row = some g → g ∈ S ∨ a.heap.size ≤ g) : Chg S a w' :=
 ⟨hg.os.trans h.os, hg.tape.trans h.tape, hg.output.trans h.output, Nat.le_trans h.size hg.size, fun i hi hn => (hg.block i (Nat.lt_of_lt_of_le hi h.size) (fun e => by
  rcases hr _ e.symm with h1 | h1
  ·exact hn h1
  ·omega)).trans (h.block i hi hn)⟩
theorem Chg.below {a w : World} (h : Chg [] a w) : Below a.heap.size a w := ⟨h.os, h.tape, h.output, h.size, fun i hi => h.block i hi (by simp)⟩
theorem Chg.andThen {S T : List Nat} {a b c : World} (h : Chg S a b) (k : Chg T b c) (ht : ∀ x ∈ T, x ∈ S ∨ a.heap.size ≤ x) : Chg S a c :=
 ⟨k.os.trans h.os, k.tape.trans h.tape, k.output.trans h.output, Nat.le_trans h.size k.size, fun i hi hn => (k.block i (Nat.lt_of_lt_of_le hi h.size) (fun hm => by
  rcases ht i hm with h1 | h1
  ·exact hn h1
  ·omega)).trans (h.block i hi hn)⟩
structure Cod (α : Type) where
 size : Nat
 zero : α
 zcells : List Value
 Rd : World → Nat → α → List Value → Prop
 Own : World → α → List Value → List Nat → Prop
 pos : 0 < size
 rd_len : ∀ {w B x cs}, Rd w B x cs → cs.length = size
 own_len : ∀ {w x cs fp}, Own w x cs fp → cs.length = size
 rd_keep : ∀ {w w' B x cs}, Rd w B x cs → (∀ b, b < B → w'.heap[b]? = w.heap[b]?) → Rd w' B x cs
 rd_le : ∀ {w B B' x cs}, Rd w B x cs → B ≤ B' → Rd w B' x cs
 a8h : ∀ {w w' x cs fp}, Own w x cs fp → (∀ b, b ∈ fp → w'.heap[b]? = w.heap[b]?) → Own w' x cs fp
 own_lt : ∀ {w x cs fp}, Own w x cs fp → ∀ b ∈ fp, b < w.heap.size
 own_rd : ∀ {w B x cs fp}, Own w x cs fp → (∀ b ∈ fp, b < B) → Rd w B x cs
 one : ∀ {w x cs fp}, Own w x cs fp → ∀ u ∈ cs, u.oneCell' = true
 own_zero : ∀ w, Own w zero zcells []
def a5X {α : Type} (r : α → List Value → Prop) : List α → List Value → Prop
 | [], cs => cs = []
 | x :: xs, cs => ∃ c1 c2, cs = c1 ++ c2 ∧ r x c1 ∧ a5X r xs c2
def a2C {α : Type} (r : α → List Value → List Nat → Prop) : List α → List Value → List Nat → Prop
 | [], cs, fp => cs = [] ∧ fp = []
 | x :: xs, cs, fp => ∃ c1 c2 f1 f2, cs = c1 ++ c2 ∧ fp = f1 ++ f2 ∧ r x c1 f1 ∧ a2C r xs c2 f2
section
variable {α : Type} {r r' : α → List Value → Prop} {o o' : α → List Value → List Nat → Prop}
theorem a5X.weak (h : ∀ x c, r x c → r' x c) : ∀ (xs : List α) (cs : List Value), a5X r xs cs → a5X r' xs cs
 | [], _, hc => hc
 | _ :: xs, _, ⟨c1, c2, e, h1, h2⟩ => ⟨c1, c2, e, h _ _ h1, a5X.weak h xs c2 h2⟩
theorem a5X.len {n : Nat} (h : ∀ x c, r x c → c.length = n) : ∀ (xs : List α) (cs : List Value), a5X r xs cs → cs.length = xs.length * n
 | [], _, hc => by simp [a5X] at hc; simp [hc]
 | _ :: xs, _, ⟨c1, c2, e, h1, h2⟩ => by
  have h3 := a5X.len h xs c2 h2
  have h4 := h _ _ h1
  simp [e, h3, h4, Nat.add_mul]; omega
theorem a2C.weak (h : ∀ x c f, o x c f → o' x c f) : ∀ (xs : List α) (cs : List Value) (fp : List Nat), a2C o xs cs fp → a2C o' xs cs fp
 | [], _, _, hc => hc
 | _ :: xs, _, _, ⟨c1, c2, f1, f2, e, ef, h1, h2⟩ => ⟨c1, c2, f1, f2, e, ef, h _ _ _ h1, a2C.weak h xs c2 f2 h2⟩
theorem a2C.keep : ∀ (xs : List α) (cs : List Value) (fp : List Nat), a2C o xs cs fp → (∀ x c f, (∀ b ∈ f, b ∈ fp) → o x c f → o' x c f) → a2C o' xs cs fp
 | [], _, _, hc, _ => hc
 | _ :: xs, _, _, ⟨c1, c2, f1, f2, e, ef, h1, h2⟩, h => ⟨c1, c2, f1, f2, e, ef, h _ _ _ (by intro b hb; rw [ef]; simp [hb]) h1,
   a2C.keep xs c2 f2 h2 (fun x c f hf ho => h x c f (fun b hb => by rw [ef]; simp [hf b hb]) ho)⟩
theorem a2C.len {n : Nat} (h : ∀ x c f, o x c f → c.length = n) : ∀ (xs : List α) (cs : List Value) (fp : List Nat), a2C o xs cs fp → cs.length = xs.length * n
 | [], _, _, hc => by simp [a2C] at hc; simp [hc]
 | _ :: xs, _, _, ⟨c1, c2, f1, f2, e, ef, h1, h2⟩ => by
  have h3 := a2C.len h xs c2 f2 h2
  have h4 := h _ _ _ h1
  simp [e, h3, h4, Nat.add_mul]; omega
theorem a2C.mem {p : Nat → Prop} (h : ∀ x c f, o x c f → ∀ b ∈ f, p b) : ∀ (xs : List α) (cs : List Value) (fp : List Nat), a2C o xs cs fp → ∀ b ∈ fp, p b
 | [], _, _, hc, b, hb => by rw [hc.2] at hb; simp at hb
 | _ :: xs, _, _, ⟨c1, c2, f1, f2, e, ef, h1, h2⟩, b, hb => by
  rw [ef, List.mem_append] at hb
  rcases hb with hb | hb
  ·exact h _ _ _ h1 b hb
  ·exact a2C.mem h xs c2 f2 h2 b hb
theorem a2C.append : ∀ (xs ys : List α) (c1 c2 : List Value) (f1 f2 : List Nat), a2C o xs c1 f1 → a2C o ys c2 f2 → a2C o (xs ++ ys) (c1 ++ c2) (f1 ++ f2)
 | [], _, _, _, _, _, h1, h2 => by obtain ⟨rfl, rfl⟩ := h1; exact h2
 | x :: xs, ys, _, c2, _, f2, ⟨a1, a2, g1, g2, e, ef, h1, h2⟩, hy => by
  subst e; subst ef
  exact ⟨a1, a2 ++ c2, g1, g2 ++ f2, by simp, by simp, h1, a2C.append xs ys a2 c2 g2 f2 h2 hy⟩
theorem a2C.one {x : α} {c : List Value} {f : List Nat} (h : o x c f) : a2C o [x] c f := ⟨c, [], f, [], by simp, by simp, h, rfl, rfl⟩
theorem a2C.split : ∀ (xs ys : List α) (cs : List Value) (fp : List Nat), a2C o (xs ++ ys) cs fp → ∃ c1 c2 f1 f2, cs = c1 ++ c2 ∧ fp = f1 ++ f2 ∧ a2C o xs c1 f1 ∧ a2C o ys c2 f2
 | [], _, cs, fp, h => ⟨[], cs, [], fp, by simp, by simp, ⟨rfl, rfl⟩, h⟩
 | x :: xs, ys, _, _, ⟨a1, a2, g1, g2, e, ef, h1, h2⟩ => by
  obtain ⟨c1, c2, f1, f2, rfl, rfl, h3, h4⟩ := a2C.split xs ys a2 g2 h2
  exact ⟨a1 ++ c1, c2, g1 ++ f1, f2, by simp [e], by simp [ef], ⟨a1, c1, g1, f1, rfl, rfl, h1, h3⟩, h4⟩
end
def Blk (w : World) (g : Nat) (t : TypeId) (cs : Array Value) : Prop := w.heap[g]? = some (.cells cs t (0, 0))
section
variable {w w' : World} {g : Nat} {t : TypeId} {cs : Array Value}
theorem Blk.lt (h : Blk w g t cs) : g < w.heap.size := by
 rcases Nat.lt_or_ge g w.heap.size with hlt | hge
 ·exact hlt
 ·unfold Blk at h; rw [Array.getElem?_eq_none hge] at h; cases h
theorem Blk.cell (h : Blk w g t cs) (i : Nat) : w.cell? ⟨g, i, none⟩ = cs[i]? := cell_of_row w g i cs t (0, 0) h
theorem Blk.frozen (h : Blk w g t cs) (i : Nat) : w.frozen? ⟨g, i, none⟩ = false := by
 unfold Blk at h
 simp [World.frozen?, h]
theorem Blk.new (w : World) (t : TypeId) (cs : Array Value) : Blk (w.alloc (.cells cs t)) w.heap.size t cs := heap_alloc_new w _
theorem Blk.drew (h : Blk w g t cs) : Blk w.drew g t cs := h
theorem Blk.alloc (h : Blk w g t cs) (o : Obj) : Blk (w.alloc o) g t cs := (Below.heap_alloc w o g h.lt).trans h
theorem Blk.keep (h : Blk w g t cs) (hk : w'.heap[g]? = w.heap[g]?) : Blk w' g t cs := hk.trans h
theorem Blk.chg {S : List Nat} (h : Blk w g t cs) (hc : Chg S w w') (hg : g ∉ S) : Blk w' g t cs := (hc.block g h.lt hg).trans h
end
theorem Chg.cell {S : List Nat} {w w' : World} (h : Chg S w w') {b off : Nat} (hb : b < w.heap.size) (hs : b ∉ S) : w'.cell? ⟨b, off, none⟩ = w.cell? ⟨b, off, none⟩ :=
 World.cell?_of_block (h.block b hb hs)
theorem Chg.frozen {S : List Nat} {w w' : World} (h : Chg S w w') {b off : Nat} (hb : b < w.heap.size) (hs : b ∉ S) : w'.frozen? ⟨b, off, none⟩ = w.frozen? ⟨b, off, none⟩ :=
 World.frozen?_of_block (h.block b hb hs)
abbrev Str := ByteArray
abbrev a3n := Str × Int
abbrev a0J := List a3n
abbrev a1g := Int × Int × Str
abbrev a0Q := a1g × a0J
abbrev a0I := Str × List a0Q × Int
abbrev a2M := Str × Str
abbrev c5o := Int × Str × Str
abbrev DbT := Str × Int × List a0I × List a2M
abbrev OpT := Int × Str × a1g × a0J × Str
abbrev TxT := Int × List OpT × Int × Int × List a0I
def a3w (w : World) (A : Option Addr) (m size : Nat) (news : List Value) : Prop :=
 news.length = m * size ∧ (0 < m → ∃ b off, A = some ⟨b, off, none⟩ ∧ ∀ j u, news[j]? = some u → w.cell? ⟨b, off + j, none⟩ = some u)
theorem a5M (b off j : Nat) : (⟨b, off, none⟩ : Addr).add j = ⟨b, off + j, none⟩ := by
 unfold Addr.add
 split
 ·subst_vars; rfl
 ·rfl
theorem b9H {w : World} {base e size n : Nat} {v : Value} {xs : List Value} (h : w.ownsRow base e size v n xs) : ∃ A c, v = .slice A n c ∧ n ≤ c := by
 rcases h.2 with ⟨rfl, rfl⟩ | ⟨g, cap, cur, rfl, _, _, hc, _⟩
 ·exact ⟨none, 0, rfl, Nat.le_refl _⟩
 ·exact ⟨_, _, rfl, hc⟩
section
variable {P : Program}
theorem c2P (w : World) (base : Nat) (t ty e : TypeId) (i : TypeInfo) (size : Nat) (ht : P.underlying t = some (.slice e)) (hi : P.info? e = some i)
  (v : Value) (n : Nat) (xs : List Value) (hown : w.ownsRow base e size v n xs) (c : Nat) : (Builtin.append_ #[t, t] ty #[v, .slice none 0 c]).run P w = .ok v w := by
 rcases hown.2 with ⟨rfl, rfl⟩ | ⟨g, cap, cur, rfl, _, _, hnc, _⟩
 ·simp [Builtin.append_, run_underlying ht, sizeOf, typeInfo, hi, Builtin.lenOf, Builtin.firstCells]
 ·simp [Builtin.append_, run_underlying ht, sizeOf, typeInfo, hi, Builtin.lenOf, Builtin.firstCells, hnc, storeCells]
theorem b9I (w : World) (t ty e : TypeId) (z : Value) (size bytes : Nat) (ht : P.underlying t = some (.slice e)) (hinfo : (P.info? e).map (fun i => (i.zero, i.size, i.bytes)) = some (some z, size, bytes))
  (hzs : z.cells.size = size) (hsz : 0 < size)
  (v : Value) (n : Nat) (xs : List Value) (hown : w.ownsRow 0 e size v n xs)
  (A : Option Addr) (m c : Nat) (news : List Value) (hr : a3w w A m size news) (h1 : ∀ u ∈ news, u.oneCell' = true)
  (h63 : n + m ≤ maxLen) (hbytes : (n + m) * bytes ≤ 140737488355328) :
  ∃ A' c' w', (Builtin.append_ #[t, t] ty #[v, .slice A m c]).run P w = .ok (.slice A' (n + m) c') w' ∧ w'.ownsRow 0 e size (.slice A' (n + m) c') (n + m) (xs ++ news) ∧ Chg v.ownBlock.toList w w' ∧
   (v.ownBlock = (Value.slice A' (n + m) c').ownBlock ∨ (Value.slice A' (n + m) c').ownBlock = some w.heap.size) := by
 obtain ⟨i, hi, hz, hs, hb⟩ := info_parts hinfo
 have key : ∃ v' w', (Builtin.append_ #[t, t] ty #[v, .slice A m c]).run P w = .ok v' w' ∧ w'.ownsRow 0 e size v' (n + m) (xs ++ news) ∧ w.grownBy w' v.ownBlock ∧
   (v'.ownBlock = v.ownBlock ∨ v'.ownBlock = some w.heap.size) := by
  have main : ∀ ad : Addr, A = some ad → (∀ j u, news[j]? = some u → w.cell? (ad.add j) = some u) → ∃ v' w', (Builtin.append_ #[t, t] ty #[v, .slice A m c]).run P w = .ok v' w' ∧
    w'.ownsRow 0 e size v' (n + m) (xs ++ news) ∧ w.grownBy w' v.ownBlock ∧ (v'.ownBlock = v.ownBlock ∨ v'.ownBlock = some w.heap.size) := by
   intro ad hA hcells
   obtain ⟨v', w', hrun, h2, h3, _, h5⟩ := run_append_own_at (P := P) w 0 t ty e i z size bytes ht hi hz hs hb hzs hsz v n xs hown ad m c news hr.1 hcells h1 h63 hbytes (Nat.zero_le _)
   subst hA
   exact ⟨v', w', hrun, h2, h3, h5⟩
  rcases Nat.eq_zero_or_pos m with h0 | h0
  ·subst h0
   have hn : news = [] := List.eq_nil_of_length_eq_zero (by simpa using hr.1)
   subst hn
   rcases A with _ | ad
   ·exact ⟨v, w, c2P w 0 t ty e i size ht hi v n xs hown c, by simpa using hown, World.grownBy.refl w _, .inl rfl⟩
   ·exact main ad rfl (fun j u hu => by simp at hu)
  ·obtain ⟨b, off, rfl, hc⟩ := hr.2 h0
   exact main _ rfl (fun j u hu => by rw [a5M]; exact hc j u hu)
 obtain ⟨v', w', hrun, h2, h3, h4⟩ := key
 obtain ⟨A', c', rfl, _⟩ := b9H h2
 refine ⟨A', c', w', hrun, h2, (Chg.refl _ w).grown h3 (fun g hg => .inl (by rw [hg]; simp)), ?_⟩
 rcases h4 with h4 | h4
 ·exact .inl h4.symm
 ·exact .inr h4
theorem b1a (w : World) {o : Oper} {a : Act} {K : Act → World → Prop} {Q : Exit → Act → World → Prop} (s x : Operand) (t : TypeId)
  (ho : o.op = .call { callee := .builtin .append, args := #[s, x], argTypes := #[t, t] })
  (e : TypeId) (z : Value) (size bytes : Nat) (ht : P.underlying t = some (.slice e)) (hinfo : (P.info? e).map (fun i => (i.zero, i.size, i.bytes)) = some (some z, size, bytes))
  (hzs : z.cells.size = size) (hsz : 0 < size)
  (v : Value) (n : Nat) (xs : List Value) (hs : a.eval s = v) (hown : w.ownsRow 0 e size v n xs)
  (A : Option Addr) (m c : Nat) (news : List Value) (hx : a.eval x = .slice A m c) (hr : a3w w A m size news) (h1 : ∀ u ∈ news, u.oneCell' = true)
  (h63 : n + m ≤ maxLen) (hbytes : (n + m) * bytes ≤ 140737488355328)
  (h : ∀ A' c' w', w'.ownsRow 0 e size (.slice A' (n + m) c') (n + m) (xs ++ news) → Chg v.ownBlock.toList w w' → (v.ownBlock = (Value.slice A' (n + m) c').ownBlock ∨ (Value.slice A' (n + m) c').ownBlock = some w.heap.size) →
   K (a.put o.dst (.slice A' (n + m) c')) w') : o.wp P a w K Q := by
 obtain ⟨A', c', w', hrun, h2, h3, h4⟩ := b9I (P := P) w t o.type e z size bytes ht hinfo hzs hsz v n xs hown A m c news hr h1 h63 hbytes
 unfold Oper.wp execOp
 simp only [ho, resolve, invoke, builtin, Sem.run_bind, Sem.run_pure, Result.andThen_ok, List.map_toArray, List.map_cons, List.map_nil, hs, hx, hrun]
 exact h A' c' w' h2 h3 h4
theorem a9Z (w : World) {ops : Array Oper} {rest : List Oper} {o : Oper} {a : Act} {Q : Exit → Act → World → Prop} (hgd : o.guard = none) (s x : Operand) (t : TypeId)
  (ho : o.op = .call { callee := .builtin .append, args := #[s, x], argTypes := #[t, t] })
  (e : TypeId) (z : Value) (size bytes : Nat) (ht : P.underlying t = some (.slice e)) (hinfo : (P.info? e).map (fun i => (i.zero, i.size, i.bytes)) = some (some z, size, bytes))
  (hzs : z.cells.size = size) (hsz : 0 < size)
  (v : Value) (n : Nat) (xs : List Value) (hs : a.eval s = v) (hown : w.ownsRow 0 e size v n xs)
  (A : Option Addr) (m c : Nat) (news : List Value) (hx : a.eval x = .slice A m c) (hr : a3w w A m size news) (h1 : ∀ u ∈ news, u.oneCell' = true)
  (h63 : n + m ≤ maxLen) (hbytes : (n + m) * bytes ≤ 140737488355328)
  (h : ∀ A' c' w', w'.ownsRow 0 e size (.slice A' (n + m) c') (n + m) (xs ++ news) → Chg v.ownBlock.toList w w' → (v.ownBlock = (Value.slice A' (n + m) c').ownBlock ∨ (Value.slice A' (n + m) c').ownBlock = some w.heap.size) →
   wpList P ops Q rest (a.put o.dst (.slice A' (n + m) c')) w') : wpList P ops Q (o :: rest) a w :=
 wpList_plain hgd fun _ hK => b1a w s x t ho e z size bytes ht hinfo hzs hsz v n xs hs hown A m c news hx hr h1 h63 hbytes fun A' c' w' h2 h3 h4 => hK _ _ (h A' c' w' h2 h3 h4)
end
theorem a3w.keep {w w' : World} {A : Option Addr} {m size : Nat} {news : List Value} (h : a3w w A m size news) (hk : 0 < m → ∀ a, A = some a → w'.heap[a.block]? = w.heap[a.block]?) : a3w w' A m size news :=
 ⟨h.1, fun hm => by
  obtain ⟨b, off, e, hc⟩ := h.2 hm
  exact ⟨b, off, e, fun j u hu => (World.cell?_of_block (a := ⟨b, off + j, none⟩) (hk hm ⟨b, off, none⟩ e)).trans (hc j u hu)⟩⟩
def a6o (n : Nat) (fp : List Nat) : Prop := fp.Nodup ∧ ∀ b ∈ fp, n ≤ b
theorem a6o.nil (n : Nat) : a6o n [] := ⟨List.nodup_nil, by simp⟩
theorem a6o.mono {n m : Nat} {fp : List Nat} (h : a6o n fp) (hm : m ≤ n) : a6o m fp := ⟨h.1, fun b hb => Nat.le_trans hm (h.2 b hb)⟩
theorem a6o.append {n m : Nat} {f g : List Nat} (h : a6o n f) (hg : a6o m g) (hf : ∀ b ∈ f, b < m) (hn : n ≤ m) : a6o n (f ++ g) :=
 ⟨List.nodup_append.2 ⟨h.1, hg.1, fun a ha b hb e => by have := hf a ha; have := hg.2 b hb; omega⟩, fun b hb => by
  rw [List.mem_append] at hb
  rcases hb with hb | hb
  ·exact h.2 b hb
  ·exact Nat.le_trans hn (hg.2 b hb)⟩
def Ret (v : Value) (w : World) (e : Ending) (w' : World) : Prop := e = .returned v ∧ Chg [] w w'
theorem c3o {w : World} {o : Obj} {k : Nat} (h : k = w.heap.size) : (w.alloc o).heap[k]? = some o := by subst h; exact heap_alloc_new w o
theorem a3w.chg {w w' : World} {A : Option Addr} {m size B : Nat} {news : List Value} (h : a3w w A m size news) (hlt : 0 < m → ∃ b off, A = some ⟨b, off, none⟩ ∧ b < B) (hB : B ≤ w.heap.size) (hc : Chg [] w w') : a3w w' A m size news :=
 h.keep (fun hm a ha => by
  obtain ⟨b, off, e, hb⟩ := hlt hm
  rw [e] at ha
  cases ha
  exact hc.block b (by omega) (by simp))
theorem a3w.new (w : World) (cs : List Value) (m size : Nat) (e : TypeId) (h : cs.length = m * size) {k : Nat} (hk : k = w.heap.size) : a3w (w.alloc (.cells cs.toArray e)) (some ⟨k, 0, none⟩) m size cs :=
 ⟨h, fun _ => ⟨k, 0, rfl, fun j u hu => by
  rw [cell_of_row _ k (0 + j) cs.toArray e (0, 0) (c3o hk)]
  simpa using hu⟩⟩
section
variable {P : Program}
end
/-! readings in the world at hand, whatever lies there -/
section
variable {α : Type} {C : Cod α} {w w' : World} {x : α} {cs : List Value} {fp : List Nat}
end
section
variable {P : Program} {ops : Array Oper} {Q : Exit → Act → World → Prop} {md : Region.Mode} {S : World → Prop} {hd : Nat → Bool}
def behind (md : Region.Mode) (ops : Array Oper) : Nat → Nat → Nat → Bool
 | 0, _, _ => false
 | f + 1, j, i => match ops[j]? with
  | none => false
  | some oj => oj.after.any fun e => Region.binds md e && (e.on == i || behind md ops f e.on i)
def b1O (md : Region.Mode) (ops : Array Oper) (listed : Array Bool) : Bool :=
 (List.range ops.size).all fun j => !listed.getD j false || (match ops[j]? with
  | none => true
  | some oj => oj.after.all fun e => !Region.binds md e || listed.getD e.on false)
def a7X (md : Region.Mode) (ops : Array Oper) (listed : Array Bool) : Prop :=
 ∀ j oj, ops[j]? = some oj → listed.getD j false = true → ∀ e ∈ oj.after, Region.binds md e = true → listed.getD e.on false = true
theorem b7o {listed : Array Bool} (h : b1O md ops listed = true) : a7X md ops listed := by
 intro j oj hj hl e he hb
 have h1 := List.all_eq_true.1 h j (List.mem_range.2 (Array.getElem?_eq_some_iff.1 hj).1)
 simp only [hl, hj, Bool.not_true, Bool.false_or] at h1
 have h2 := Array.all_eq_true'.1 h1 e he
 simpa [hb] using h2
theorem b4g {listed : Array Bool} {i : Nat} (hc : a7X md ops listed) (hi : i ∈ Region.ready md ops listed) : a7X md ops (listed.setIfInBounds i true) := by
 obtain ⟨_, oi, hoi, hall⟩ := mem_ready.1 hi
 intro j oj hj hl e he hb
 by_cases hij : i = j
 ·subst hij
  have : oj = oi := Option.some.inj (hj.symm.trans hoi)
  subst this
  exact getD_set_true (hall e he hb)
 ·rw [getD_set_ne false hij] at hl
  exact getD_set_true (hc j oj hj hl e he hb)
theorem b6m {listed : Array Bool} {i : Nat} (hc : a7X md ops listed) (hun : listed.getD i true = false) : ∀ (f j : Nat) (oj : Oper), ops[j]? = some oj →
  (∀ e ∈ oj.after, Region.binds md e = true → listed.getD e.on false = true) → behind md ops f j i = false
 | 0, _, _, _, _ => rfl
 | f + 1, j, oj, hj, hall => by
  simp only [behind, hj]
  rw [Array.any_eq_false']
  intro e he
  cases hb : Region.binds md e with
  | false => simp
  | true =>
   have hl := hall e he hb
   have hne : (e.on == i) = false := by
    rw [beq_eq_false_iff_ne]
    rintro rfl
    rcases Nat.lt_or_ge e.on listed.size with h' | h'
    ·simp [h'] at hun hl; rw [hun] at hl; cases hl
    ·simp [Array.getElem?_eq_none h'] at hun
   have hbeh : behind md ops f e.on i = false := by
    cases ho : ops[e.on]? with
    | none => cases f <;> simp [behind, ho]
    | some oe => exact b6m hc hun f e.on oe ho (fun e' he' hb' => hc e.on oe ho hl e' he' hb')
   simp [hne, hbeh]
def c4N (md : Region.Mode) (ops : Array Oper) (hd : Nat → Bool) (listed : Array Bool) (i : Nat) : Bool :=
 (List.range ops.size).all fun j => j == i || listed.getD j true || hd j || behind md ops ops.size j i
def a2q (P : Program) (md : Region.Mode) (ops : Array Oper) (Q : Exit → Act → World → Prop) (S : World → Prop) (hd : Nat → Bool) : Nat → Array Bool → Act → World → Prop
 | 0, listed, a, w => Region.ready md ops listed = [] ∧ Q .normal a w
 | fuel + 1, listed, a, w =>
  (Region.ready md ops listed = [] → Q .normal a w) ∧
  ∀ i ∈ Region.ready md ops listed, wpOp P ops Q i (fun a' w' => (hd i = true → S w') ∧ a2q P md ops Q S hd fuel (listed.setIfInBounds i true) a' w') a w
theorem b3R : ∀ (fuel : Nat) (listed : Array Bool) (a : Act) (w : World), a2q P md ops Q S hd fuel listed a w → wpAny P md ops Q fuel listed a w
 | 0, _, _, _, h => h
 | fuel + 1, _, _, _, h => ⟨h.1, fun i hi => wpOp_mono (fun a' w' h' => b3R fuel _ a' w' h'.2) (h.2 i hi)⟩
theorem c0m {i : Nat} {oi : Oper} {v : Value} (hi : ops[i]? = some oi) (hsel : ∀ (j : Nat) (o : Oper) cs b, ops[j]? = some o → o.op ≠ .select cs b)
  (hQ : ∀ c a w, Q (.panic c) (a.put oi.dst v) w → Q (.panic c) a w) :
  ∀ (fuel : Nat) (listed : Array Bool) (a : Act) (w : World), a7X md ops listed →
   (∀ j, j < ops.size → j ≠ i → listed.getD j true = false → hd j = true ∨ behind md ops ops.size j i = true) →
   (∀ j oj, ops[j]? = some oj → j ≠ i → listed.getD j true = false → (∀ e ∈ oj.after, Region.binds md e = true → e.on ≠ i) → oi.apart ops oj = true) →
   i ∈ Region.ready md ops listed → YieldsIf P ops S oi v a → S w →
   a2q P md ops Q S hd fuel (listed.setIfInBounds i true) (a.put oi.dst v) w → a2q P md ops Q S hd (fuel + 1) listed a w := by
 intro fuel
 induction fuel with
 | zero =>
  intro listed a w _ _ hfree hr hy hS H
  refine ⟨fun h => (by rw [h] at hr; cases hr), fun j hj => ?_⟩
  by_cases hji : j = i
  ·subst hji; exact hy.wpOp hi hS ⟨fun _ => hS, H⟩
  ·have := ready_mono hj hji
   rw [H.1] at this
   cases this
 | succ fuel ih =>
  intro listed a w hcl hcalm hfree hr hy hS H
  refine ⟨fun h => (by rw [h] at hr; cases hr), fun j hj => ?_⟩
  by_cases hji : j = i
  ·subst hji; exact hy.wpOp hi hS ⟨fun _ => hS, H⟩
  ·have h1 := H.2 j (ready_mono hj hji)
   obtain ⟨hjun, oj, hoj, hall⟩ := mem_ready.1 hj
   have hnot : ∀ e ∈ oj.after, Region.binds md e = true → e.on ≠ i := fun e he hb heq => by
    have h1 := hall e he hb
    have h0 := (mem_ready.1 hr).1
    rw [heq] at h1
    rcases Nat.lt_or_ge i listed.size with h' | h'
    ·simp [h'] at h0 h1; rw [h0] at h1; cases h1
    ·simp [Array.getElem?_eq_none h'] at h1
   have hdj : hd j = true := by
    rcases hcalm j (Array.getElem?_eq_some_iff.1 hoj).1 hji hjun with h | h
    ·exact h
    ·rw [b6m hcl (mem_ready.1 hr).1 ops.size j oj hoj hall] at h
     cases h
   have h2 := wpOp_putIf hoj (hfree j oj hoj hji hjun hnot) (fun cs b => hsel i oi cs b hi) (fun cs b => hsel j oj cs b hoj) hQ hy h1
   have hfree' : ∀ k ok, ops[k]? = some ok → k ≠ i → (listed.setIfInBounds j true).getD k true = false →
     (∀ e ∈ ok.after, Region.binds md e = true → e.on ≠ i) → oi.apart ops ok = true := fun k ok hk hki hun hno => by
    refine hfree k ok hk hki ?_ hno
    by_cases hjk : j = k
    ·subst hjk; exact hjun
    ·rw [getD_set_ne true hjk] at hun; exact hun
   have hcalm' : ∀ k, k < ops.size → k ≠ i → (listed.setIfInBounds j true).getD k true = false → hd k = true ∨ behind md ops ops.size k i = true := fun k hk hki hun => by
    refine hcalm k hk hki ?_
    by_cases hjk : j = k
    ·subst hjk; exact hjun
    ·rw [getD_set_ne true hjk] at hun; exact hun
   refine wpOp_mono (fun a' w' h3 => ⟨h3.2.1, ih (listed.setIfInBounds j true) a' w' (b4g hcl hj) hcalm' hfree' (ready_mono hr (Ne.symm hji)) h3.1 (h3.2.1 hdj) ?_⟩) h2
   rw [Array.setIfInBounds_comm _ _ hji]
   exact h3.2.2
theorem c1E {i : Nat} {oi : Oper} {v : Value} (hi : ops[i]? = some oi) (hsel : ∀ (j : Nat) (o : Oper) cs b, ops[j]? = some o → o.op ≠ .select cs b)
  (hQ : ∀ c a w, Q (.panic c) (a.put oi.dst v) w → Q (.panic c) a w) (hdi : hd i = false) :
  ∀ (fuel : Nat) (listed : Array Bool) (a : Act) (w : World), a7X md ops listed →
   (∀ j oj, ops[j]? = some oj → j ≠ i → listed.getD j true = false → (∀ e ∈ oj.after, Region.binds md e = true → e.on ≠ i) → oi.apart ops oj = true) →
   i ∈ Region.ready md ops listed → YieldsIf P ops (fun _ => True) oi v a →
   a2q P md ops Q S hd fuel (listed.setIfInBounds i true) (a.put oi.dst v) w → a2q P md ops Q S hd (fuel + 1) listed a w := by
 intro fuel
 induction fuel with
 | zero =>
  intro listed a w _ hfree hr hy H
  refine ⟨fun h => (by rw [h] at hr; cases hr), fun j hj => ?_⟩
  by_cases hji : j = i
  ·subst hji; exact hy.wpOp hi trivial ⟨fun e => (by rw [hdi] at e; cases e), H⟩
  ·have := ready_mono hj hji
   rw [H.1] at this
   cases this
 | succ fuel ih =>
  intro listed a w hcl hfree hr hy H
  refine ⟨fun h => (by rw [h] at hr; cases hr), fun j hj => ?_⟩
  by_cases hji : j = i
  ·subst hji; exact hy.wpOp hi trivial ⟨fun e => (by rw [hdi] at e; cases e), H⟩
  ·have h1 := H.2 j (ready_mono hj hji)
   obtain ⟨hjun, oj, hoj, hall⟩ := mem_ready.1 hj
   have hnot : ∀ e ∈ oj.after, Region.binds md e = true → e.on ≠ i := fun e he hb heq => by
    have h1 := hall e he hb
    have h0 := (mem_ready.1 hr).1
    rw [heq] at h1
    rcases Nat.lt_or_ge i listed.size with h' | h'
    ·simp [h'] at h0 h1; rw [h0] at h1; cases h1
    ·simp [Array.getElem?_eq_none h'] at h1
   have h2 := wpOp_putIf hoj (hfree j oj hoj hji hjun hnot) (fun cs b => hsel i oi cs b hi) (fun cs b => hsel j oj cs b hoj) hQ hy h1
   have hfree' : ∀ k ok, ops[k]? = some ok → k ≠ i → (listed.setIfInBounds j true).getD k true = false →
     (∀ e ∈ ok.after, Region.binds md e = true → e.on ≠ i) → oi.apart ops ok = true := fun k ok hk hki hun hno => by
    refine hfree k ok hk hki ?_ hno
    by_cases hjk : j = k
    ·subst hjk; exact hjun
    ·rw [getD_set_ne true hjk] at hun; exact hun
   refine wpOp_mono (fun a' w' h3 => ⟨h3.2.1, ih (listed.setIfInBounds j true) a' w' (b4g hcl hj) hfree' (ready_mono hr (Ne.symm hji)) h3.1 ?_⟩) h2
   rw [Array.setIfInBounds_comm _ _ hji]
   exact h3.2.2
def a8S (md : Region.Mode) (ops : Array Oper) (hd : Nat → Bool) (listed : Array Bool) (i : Nat) : Bool :=
 Region.noSelect ops && Region.free md ops listed i && (Region.ready md ops listed).contains i && b1O md ops listed && !(hd i)
theorem b6B (i : Nat) {oi : Oper} {v : Value} {fuel : Nat} {listed : Array Bool} {a : Act} {w : World} (hi : ops[i]? = some oi)
  (hb : a8S md ops hd listed i = true)
  (hQ : ∀ c a w, Q (.panic c) (a.put oi.dst v) w → Q (.panic c) a w) (hy : YieldsIf P ops (fun _ => True) oi v a)
  (h : a2q P md ops Q S hd fuel (listed.setIfInBounds i true) (a.put oi.dst v) w) : a2q P md ops Q S hd (fuel + 1) listed a w := by
 simp only [a8S, Bool.and_eq_true, Bool.not_eq_true'] at hb
 obtain ⟨⟨⟨⟨hs, hf⟩, hr⟩, hc⟩, hca⟩ := hb
 exact c1E hi (Region.noSelect_spec hs) hQ hca fuel listed a w (b7o hc) (Region.free_spec hi hf) (by simpa using hr) hy h
def a4T (md : Region.Mode) (ops : Array Oper) (hd : Nat → Bool) (listed : Array Bool) (i : Nat) : Bool :=
 Region.noSelect ops && Region.free md ops listed i && (Region.ready md ops listed).contains i && b1O md ops listed && c4N md ops hd listed i
theorem a6w (i : Nat) {oi : Oper} {v : Value} {fuel : Nat} {listed : Array Bool} {a : Act} {w : World} (hi : ops[i]? = some oi)
  (hb : a4T md ops hd listed i = true)
  (hQ : ∀ c a w, Q (.panic c) (a.put oi.dst v) w → Q (.panic c) a w) (hS : S w) (hy : YieldsIf P ops S oi v a)
  (h : a2q P md ops Q S hd fuel (listed.setIfInBounds i true) (a.put oi.dst v) w) : a2q P md ops Q S hd (fuel + 1) listed a w := by
 simp only [a4T, Bool.and_eq_true] at hb
 obtain ⟨⟨⟨⟨hs, hf⟩, hr⟩, hc⟩, hca⟩ := hb
 refine c0m hi (Region.noSelect_spec hs) hQ fuel listed a w (b7o hc) (fun j hj hne hun => ?_) (Region.free_spec hi hf) (by simpa using hr) hy hS h
 have h1 := List.all_eq_true.1 hca j (List.mem_range.2 hj)
 simp only [Bool.or_eq_true, beq_iff_eq, hne, false_or, hun, Bool.false_eq_true] at h1
 exact h1
theorem a8D (i : Nat) {oi : Oper} {fuel : Nat} {listed : Array Bool} {a : Act} {w : World} (hi : ops[i]? = some oi) (hg : oi.guard = none)
  (hr : (Region.ready md ops listed == [i]) = true)
  (h : ∀ K : Act → World → Prop, (∀ a' w', (hd i = true → S w') → a2q P md ops Q S hd fuel (listed.setIfInBounds i true) a' w' → K a' w') → oi.wp P a w K Q) :
  a2q P md ops Q S hd (fuel + 1) listed a w := by
 have hr' : Region.ready md ops listed = [i] := by simpa using hr
 refine ⟨fun h0 => (by rw [hr'] at h0; cases h0), fun j hj => ?_⟩
 rw [hr', List.mem_singleton] at hj
 subst hj
 unfold wpOp
 simp only [hi]
 have hw : Region.wanted oi (yielded ops a.tmps) = true := by simp [Region.wanted, hg]
 rw [if_pos hw]
 exact .inl (h _ (fun a' w' h1 h2 => ⟨h1, h2⟩))
theorem a9k {listed : Array Bool} {a : Act} {w : World} (hr : (Region.ready md ops listed).isEmpty = true) (h : Q .normal a w) :
  ∀ fuel, a2q P md ops Q S hd fuel listed a w
 | 0 => ⟨by simpa using hr, h⟩
 | _ + 1 => ⟨fun _ => h, by rw [show Region.ready md ops listed = [] by simpa using hr]; simp⟩
def a7K (md : Region.Mode) (ops : Array Oper) (hd : Nat → Bool) : List Nat → Array Bool → Bool
 | [], listed => (Region.ready md ops listed).isEmpty
 | i :: is, listed => (Region.ready md ops listed == [i]) && !hd i && a7K md ops hd is (listed.setIfInBounds i true)
theorem a9h : ∀ (is : List Nat) (rest : List Oper) (listed : Array Bool) (fuel : Nat) (a : Act) (w : World), is.map (fun i => ops[i]?) = rest.map some → is.length ≤ fuel → a7K md ops hd is listed = true → wpList P ops Q rest a w → a2q P md ops Q S hd fuel listed a w
 | [], rest, listed, fuel, a, w, hm, _, hc, h => by
  have : rest = [] := by cases rest <;> simp_all
  subst this
  exact a9k hc h fuel
 | i :: is, rest, listed, fuel, a, w, hm, hf, hc, h => by
  cases rest with
  | nil => simp at hm
  | cons o rest =>
   simp only [List.map_cons, List.cons.injEq] at hm
   cases fuel with
   | zero => simp at hf
   | succ fuel =>
    simp only [a7K, Bool.and_eq_true, Bool.not_eq_true'] at hc
    obtain ⟨⟨h1, h2⟩, h3⟩ := hc
    have hr' : Region.ready md ops listed = [i] := by simpa using h1
    refine ⟨fun h0 => (by rw [hr'] at h0; cases h0), fun j hj => ?_⟩
    rw [hr', List.mem_singleton] at hj
    subst hj
    have ih : ∀ a' w', wpList P ops Q rest a' w' → (hd j = true → S w') ∧ a2q P md ops Q S hd fuel (listed.setIfInBounds j true) a' w' := fun a' w' h' =>
     ⟨fun e => (by rw [h2] at e; cases e), a9h is rest _ fuel a' w' hm.2 (by simpa using hf) h3 h'⟩
    unfold wpOp
    simp only [hm.1]
    unfold wpList at h
    split
    ·rename_i e
     rw [if_pos e] at h
     rcases h with h | h
     ·exact .inl (Oper.wp_mono ih h)
     ·exact .inr h
    ·rename_i e
     rw [if_neg e] at h
     exact ih _ _ h
theorem a9K (S : World → Prop) (hd : Nat → Bool) {id : Nat} {a : Act} {w : World} (hm : P.follows .mixedOrders = true)
  (h : a2q P .any ops Q S hd ops.size (Array.replicate ops.size false) a w.drew) : (Code.region id ops true).wp P Q a w :=
 wp_region_any hm (b3R _ _ _ _ h)
end
def a6y (W w : World) : Prop := ∀ b off, b < W.heap.size → w.cell? ⟨b, off, none⟩ = W.cell? ⟨b, off, none⟩
theorem Chg.keeps {W w : World} (h : Chg [] W w) : a6y W w := fun _ _ hb => h.cell hb (by simp)
theorem a6y.refl (W : World) : a6y W W := fun _ _ _ => rfl
theorem a6y.drew (W : World) : a6y W W.drew := fun _ _ _ => rfl
theorem a6y.chg {W w w' : World} (h : a6y W w) (hs : W.heap.size ≤ w.heap.size) (hc : Chg [] w w') : a6y W w' := fun b off hb => (hc.cell (by omega) (by simp)).trans (h b off hb)
inductive DV where
 | int (k : IntKind) (n : Int)
 | bool (b : Bool)
 | str (s : ByteArray)
 | sl (e : TypeId) (sz n : Nat) (cs : List DV)
 | hole
 deriving Inhabited
def InR (k : IntKind) (n : Int) : Prop := k.min ≤ n ∧ n ≤ k.max
mutual
def Lay (ok : Nat → Prop) (w : World) : DV → Value → Prop
 | .int k n, v => v = .int k n ∧ InR k n
 | .bool b, v => v = .bool b
 | .str s, v => v = .string s ∧ s.size ≤ 9223372036854775807
 | .sl _ sz n cs, v => ∃ A c vs, v = .slice A n c ∧ n ≤ c ∧ c ≤ maxLen ∧ 0 < sz ∧ cs.length = n * sz ∧ a1n ok w cs vs ∧
   (0 < n → ∃ b off, A = some ⟨b, off, none⟩ ∧ ok b ∧ ∀ j u, vs[j]? = some u → w.cell? ⟨b, off + j, none⟩ = some u)
 | .hole, v => v.oneCell' = true
def a1n (ok : Nat → Prop) (w : World) : List DV → List Value → Prop
 | [], vs => vs = []
 | d :: ds, vs => ∃ v vs', vs = v :: vs' ∧ Lay ok w d v ∧ a1n ok w ds vs'
end
def a7t (w : World) (e sz : Nat) (v : Value) (n : Nat) (vs : List Value) : Prop :=
 (e < 1000000 → w.ownsRow 0 e sz v n vs) ∧
 (¬ e < 1000000 → vs.length = n * sz ∧ ((v = .slice none 0 0 ∧ n = 0) ∨ ∃ g cap cur t fz, v = .slice (some ⟨g, 0, none⟩) n cap ∧ w.heap[g]? = some (.cells cur t fz) ∧ n ≤ cap ∧ cap ≤ maxLen ∧ n * sz ≤ cur.size ∧ cur.toList.take (n * sz) = vs))
theorem a3H {w : World} {e sz n : Nat} {v : Value} {vs : List Value} (he : e < 1000000) (h : w.ownsRow 0 e sz v n vs) : a7t w e sz v n vs := ⟨fun _ => h, fun h' => absurd he h'⟩
theorem a5o {w : World} {e sz n : Nat} {v : Value} {vs : List Value} (h : a7t w e sz v n vs) : vs.length = n * sz ∧ ((v = .slice none 0 0 ∧ n = 0) ∨ ∃ g cap cur t fz, v = .slice (some ⟨g, 0, none⟩) n cap ∧ w.heap[g]? = some (.cells cur t fz) ∧ n ≤ cap ∧ cap ≤ maxLen ∧ n * sz ≤ cur.size ∧ cur.toList.take (n * sz) = vs) := by
 by_cases he : e < 1000000
 ·obtain ⟨h1, h2⟩ := h.1 he
  refine ⟨h1, ?_⟩
  rcases h2 with h2 | ⟨g, cap, cur, k1, _, k2, k3, k4, k5, k6⟩
  ·exact .inl h2
  ·exact .inr ⟨g, cap, cur, e, (0, 0), k1, k2, k3, k4, by rw [k5]; exact Nat.mul_le_mul_right _ k3, k6⟩
 ·exact h.2 he
theorem c3F {w w' : World} {e sz n : Nat} {v : Value} {vs : List Value} (h : a7t w e sz v n vs) (hk : ∀ b ∈ v.ownBlock.toList, w'.heap[b]? = w.heap[b]?) : a7t w' e sz v n vs := by
 refine ⟨fun he => ?_, fun he => ?_⟩
 ·have h := h.1 he
  refine ⟨h.1, ?_⟩
  rcases h.2 with hn | ⟨g, cap, cur, rfl, hb, hgg, rest⟩
  ·exact .inl hn
  ·exact .inr ⟨g, cap, cur, rfl, hb, (hk g (by simp [Value.ownBlock])).trans hgg, rest⟩
 ·have h := h.2 he
  refine ⟨h.1, ?_⟩
  rcases h.2 with hn | ⟨g, cap, cur, t, fz, rfl, hgg, rest⟩
  ·exact .inl hn
  ·exact .inr ⟨g, cap, cur, t, fz, rfl, (hk g (by simp [Value.ownBlock])).trans hgg, rest⟩
theorem c1W {w : World} {e sz n : Nat} {v : Value} {vs : List Value} (h : a7t w e sz v n vs) : ∀ k, v.ownBlock = some k → k < w.heap.size := by
 intro k hk
 rcases (a5o h).2 with ⟨rfl, _⟩ | ⟨g, cap, cur, t, fz, rfl, hg, _⟩
 ·simp [Value.ownBlock] at hk
 ·simp only [Value.ownBlock, Option.some.injEq] at hk
  subst hk
  exact (Array.getElem?_eq_some_iff.1 hg).1
theorem b8D (w : World) (e sz : Nat) : a7t w e sz (.slice none 0 0) 0 [] := ⟨fun _ => World.ownsRow_nil w 0 e sz, fun _ => ⟨by simp, .inl ⟨rfl, rfl⟩⟩⟩
mutual
def Own (w : World) : DV → Value → List Nat → Prop
 | .int k n, v, fp => v = .int k n ∧ InR k n ∧ fp = []
 | .bool b, v, fp => v = .bool b ∧ fp = []
 | .str s, v, fp => v = .string s ∧ s.size ≤ 9223372036854775807 ∧ fp = []
 | .sl e sz n cs, v, fp => ∃ vs f, fp = v.ownBlock.toList ++ f ∧ 0 < sz ∧ cs.length = n * sz ∧ a7t w e sz v n vs ∧ a0N w cs vs f
 | .hole, v, fp => v.oneCell' = true ∧ fp = []
def a0N (w : World) : List DV → List Value → List Nat → Prop
 | [], vs, fp => vs = [] ∧ fp = []
 | d :: ds, vs, fp => ∃ v vs' f1 f2, vs = v :: vs' ∧ fp = f1 ++ f2 ∧ Own w d v f1 ∧ a0N w ds vs' f2
end
/-! ### reading -/
section
variable {ok ok' : Nat → Prop} {w w' : World}
theorem a5E {w : World} {a : Addr} {v : Value} (h : w.cell? a = some v) : a.block < w.heap.size := by
 rcases Nat.lt_or_ge a.block w.heap.size with h' | h'
 ·exact h'
 ·unfold World.cell? at h; rw [Array.getElem?_eq_none h'] at h; cases h
theorem a4w : ∀ (ds : List DV) (vs : List Value), a1n ok w ds vs → vs.length = ds.length
 | [], vs, h => by simp [a1n] at h; simp [h]
 | d :: ds, vs, h => by
  simp only [a1n] at h
  obtain ⟨v, vs', rfl, _, h2⟩ := h
  simp [a4w ds vs' h2]
mutual
theorem a8y (hk : ∀ b, b < w.heap.size → ok b → ok' b ∧ w'.heap[b]? = w.heap[b]?) : ∀ (d : DV) (v : Value), Lay ok w d v → Lay ok' w' d v
 | .int _ _, _, h => by simpa [Lay] using h
 | .bool _, _, h => by simpa [Lay] using h
 | .str _, _, h => by simpa [Lay] using h
 | .hole, _, h => by simpa [Lay] using h
 | .sl _ sz n cs, v, h => by
  simp only [Lay] at h ⊢
  obtain ⟨A, c, vs, h1, h2, h3, h4, h5, h6, h7⟩ := h
  refine ⟨A, c, vs, h1, h2, h3, h4, h5, a6O hk cs vs h6, fun hn => ?_⟩
  obtain ⟨b, off, e1, e2, e3⟩ := h7 hn
  have hv : vs.length = n * sz := by rw [a4w _ _ h6, h5]
  have hpos : 0 < vs.length := by rw [hv]; exact Nat.mul_pos hn h4
  have hlt : b < w.heap.size := a5E (e3 0 _ (List.getElem?_eq_getElem hpos))
  obtain ⟨k1, k2⟩ := hk b hlt e2
  exact ⟨b, off, e1, k1, fun j u hu => (World.cell?_of_block (a := ⟨b, off + j, none⟩) k2).trans (e3 j u hu)⟩
theorem a6O (hk : ∀ b, b < w.heap.size → ok b → ok' b ∧ w'.heap[b]? = w.heap[b]?) : ∀ (ds : List DV) (vs : List Value), a1n ok w ds vs → a1n ok' w' ds vs
 | [], _, h => by simpa [a1n] using h
 | d :: ds, _, h => by
  simp only [a1n] at h ⊢
  obtain ⟨v, vs', rfl, h1, h2⟩ := h
  exact ⟨v, vs', rfl, a8y hk d v h1, a6O hk ds vs' h2⟩
end
theorem a7R : ∀ (d : DV) (v : Value), Lay ok w d v → v.oneCell' = true
 | .int _ _, _, h => by simp only [Lay] at h; rw [h.1]; rfl
 | .bool _, _, h => by simp only [Lay] at h; rw [h]; rfl
 | .str _, _, h => by simp only [Lay] at h; rw [h.1]; rfl
 | .hole, _, h => by simpa only [Lay] using h
 | .sl _ _ _ _, _, h => by simp only [Lay] at h; obtain ⟨A, c, vs, rfl, _⟩ := h; rfl
theorem a8i : ∀ (ds : List DV) (vs : List Value), a1n ok w ds vs → ∀ u ∈ vs, u.oneCell' = true
 | [], _, h, u, hu => by simp only [a1n] at h; subst h; simp at hu
 | d :: ds, _, h, u, hu => by
  simp only [a1n] at h
  obtain ⟨v, vs', rfl, h1, h2⟩ := h
  rcases List.mem_cons.1 hu with rfl | hu
  ·exact a7R _ _ h1
  ·exact a8i ds vs' h2 u hu
theorem b2V : ∀ (xs ys : List DV) (us vs : List Value), a1n ok w xs us → a1n ok w ys vs → a1n ok w (xs ++ ys) (us ++ vs)
 | [], _, _, _, h1, h2 => by simp only [a1n] at h1; subst h1; exact h2
 | x :: xs, ys, _, vs, h1, h2 => by
  simp only [a1n] at h1
  obtain ⟨v, vs', rfl, h3, h4⟩ := h1
  simp only [List.cons_append, a1n]
  exact ⟨v, _, rfl, h3, b2V xs ys vs' vs h4 h2⟩
theorem b1H : ∀ (xs ys : List DV) (vs : List Value), a1n ok w (xs ++ ys) vs → ∃ u1 u2, vs = u1 ++ u2 ∧ a1n ok w xs u1 ∧ a1n ok w ys u2
 | [], _, vs, h => ⟨[], vs, rfl, by simp [a1n], h⟩
 | x :: xs, ys, _, h => by
  simp only [List.cons_append, a1n] at h
  obtain ⟨v, vs', rfl, h3, h4⟩ := h
  obtain ⟨u1, u2, rfl, h5, h6⟩ := b1H xs ys vs' h4
  exact ⟨v :: u1, u2, rfl, by simp only [a1n]; exact ⟨v, u1, rfl, h3, h5⟩, h6⟩
def sub {α : Type} (i m : Nat) (l : List α) : List α := (l.drop i).take m
theorem a9w {α : Type} (i m : Nat) (l : List α) (j : Nat) (hj : j < m) : (sub i m l)[j]? = l[i + j]? := by
 simp [sub, hj, List.getElem?_drop]
theorem a4B {α : Type} (i m : Nat) (l : List α) (h : i + m ≤ l.length) : (sub i m l).length = m := by
 simp [sub]; omega
theorem b0v (i m : Nat) {ds : List DV} {vs : List Value} (h : a1n ok w ds vs) : a1n ok w (sub i m ds) (sub i m vs) := by
 have hl := a4w _ _ h
 have e1 : ds = ds.take i ++ (sub i m ds ++ (ds.drop i).drop m) := by rw [sub, List.take_append_drop, List.take_append_drop]
 rw [e1] at h
 obtain ⟨u1, u2, rfl, h1, h2⟩ := b1H _ _ _ h
 obtain ⟨u3, u4, rfl, h3, h4⟩ := b1H _ _ _ h2
 have l1 := a4w _ _ h1
 have l3 := a4w _ _ h3
 by_cases hi : i ≤ ds.length
 ·have e : u1.length = i := by rw [l1]; simp; omega
  by_cases hm : m ≤ ds.length - i
  ·have e3 : u3.length = m := by rw [l3]; simp [sub]; omega
   have : sub i m (u1 ++ (u3 ++ u4)) = u3 := by
    simp only [sub]
    rw [List.drop_left' e, List.take_left' e3]
   rw [this]; exact h3
  ·have e4 : u4 = [] := by
    have h5 := a4w _ _ h4
    have h6 : ((ds.drop i).drop m).length = 0 := by simp; omega
    exact List.eq_nil_of_length_eq_zero (by omega)
   subst e4
   have : sub i m (u1 ++ (u3 ++ [])) = u3 := by
    simp only [sub, List.append_nil]
    rw [List.drop_left' e, List.take_of_length_le (by rw [l3]; simp [sub]; omega)]
   rw [this]; exact h3
 ·have e0 : sub i m ds = [] := by simp [sub, List.drop_eq_nil_of_le (by omega : ds.length ≤ i)]
  have e1 : sub i m (u1 ++ (u3 ++ u4)) = [] := by
   rw [show sub i m (u1 ++ (u3 ++ u4)) = ((u1 ++ (u3 ++ u4)).drop i).take m from rfl, List.drop_eq_nil_of_le (by omega)]
   simp
  rw [e0, e1]; simp [a1n]
theorem c4z {ds : List DV} {vs : List Value} (h : a1n ok w ds vs) (i : Nat) (d : DV) (hd : ds[i]? = some d) : ∃ v, vs[i]? = some v ∧ Lay ok w d v := by
 induction ds generalizing vs i with
 | nil => simp at hd
 | cons x xs ih =>
  simp only [a1n] at h
  obtain ⟨v, vs', rfl, h1, h2⟩ := h
  cases i with
  | zero => simp at hd; subst hd; exact ⟨v, rfl, h1⟩
  | succ i => simp at hd; simpa using ih h2 i hd
end
/-! ### owned -/
section
variable {w w' : World}
theorem a2n : ∀ (ds : List DV) (vs : List Value) (fp : List Nat), a0N w ds vs fp → vs.length = ds.length
 | [], vs, _, h => by simp [a0N] at h; simp [h]
 | d :: ds, vs, _, h => by
  simp only [a0N] at h
  obtain ⟨v, vs', f1, f2, rfl, rfl, _, h2⟩ := h
  simp [a2n ds vs' f2 h2]
mutual
theorem a8h : ∀ (d : DV) (v : Value) (fp : List Nat), Own w d v fp → (∀ b ∈ fp, w'.heap[b]? = w.heap[b]?) → Own w' d v fp
 | .int _ _, _, _, h, _ => by simpa [Own] using h
 | .bool _, _, _, h, _ => by simpa [Own] using h
 | .str _, _, _, h, _ => by simpa [Own] using h
 | .hole, _, _, h, _ => by simpa [Own] using h
 | .sl _ _ _ cs, v, _, h, hk => by
  simp only [Own] at h ⊢
  obtain ⟨vs, f, rfl, h1, h2, h3, h4⟩ := h
  exact ⟨vs, f, rfl, h1, h2, c3F h3 (fun b hb => hk b (by simp [hb])), a3g cs vs f h4 (fun b hb => hk b (by simp [hb]))⟩
theorem a3g : ∀ (ds : List DV) (vs : List Value) (fp : List Nat), a0N w ds vs fp → (∀ b ∈ fp, w'.heap[b]? = w.heap[b]?) → a0N w' ds vs fp
 | [], _, _, h, _ => by simpa [a0N] using h
 | d :: ds, _, _, h, hk => by
  simp only [a0N] at h ⊢
  obtain ⟨v, vs', f1, f2, rfl, rfl, h1, h2⟩ := h
  exact ⟨v, vs', f1, f2, rfl, rfl, a8h d v f1 h1 (fun b hb => hk b (by simp [hb])), a3g ds vs' f2 h2 (fun b hb => hk b (by simp [hb]))⟩
end
mutual
theorem b4n : ∀ (d : DV) (v : Value) (fp : List Nat), Own w d v fp → ∀ b ∈ fp, b < w.heap.size
 | .int _ _, _, _, h, b, hb => by simp only [Own] at h; rw [h.2.2] at hb; simp at hb
 | .bool _, _, _, h, b, hb => by simp only [Own] at h; rw [h.2] at hb; simp at hb
 | .str _, _, _, h, b, hb => by simp only [Own] at h; rw [h.2.2] at hb; simp at hb
 | .hole, _, _, h, b, hb => by simp only [Own] at h; rw [h.2] at hb; simp at hb
 | .sl _ _ _ cs, v, _, h, b, hb => by
  simp only [Own] at h
  obtain ⟨vs, f, rfl, h1, h2, h3, h4⟩ := h
  rw [List.mem_append] at hb
  rcases hb with hb | hb
  ·exact c1W h3 b (by simpa using hb)
  ·exact a5p cs vs f h4 b hb
theorem a5p : ∀ (ds : List DV) (vs : List Value) (fp : List Nat), a0N w ds vs fp → ∀ b ∈ fp, b < w.heap.size
 | [], _, _, h, b, hb => by simp only [a0N] at h; rw [h.2] at hb; simp at hb
 | d :: ds, _, _, h, b, hb => by
  simp only [a0N] at h
  obtain ⟨v, vs', f1, f2, rfl, rfl, h1, h2⟩ := h
  rw [List.mem_append] at hb
  rcases hb with hb | hb
  ·exact b4n d v f1 h1 b hb
  ·exact a5p ds vs' f2 h2 b hb
end
mutual
theorem a4O {ok : Nat → Prop} : ∀ (d : DV) (v : Value) (fp : List Nat), Own w d v fp → (∀ b ∈ fp, ok b) → Lay ok w d v
 | .int _ _, _, _, h, _ => by simp only [Own] at h; simp only [Lay]; exact ⟨h.1, h.2.1⟩
 | .bool _, _, _, h, _ => by simp only [Own] at h; simp only [Lay]; exact h.1
 | .str _, _, _, h, _ => by simp only [Own] at h; simp only [Lay]; exact ⟨h.1, h.2.1⟩
 | .hole, _, _, h, _ => by simp only [Own] at h; simp only [Lay]; exact h.1
 | .sl e sz n cs, v, _, h, hk => by
  simp only [Own] at h; simp only [Lay]
  obtain ⟨vs, f, rfl, h1, h2, h3, h4⟩ := h
  have hL := a7x (ok := ok) cs vs f h4 (fun b hb => hk b (by simp [hb]))
  rcases (a5o h3).2 with ⟨rfl, rfl⟩ | ⟨g, cap, cur, t, fz, rfl, hgg, hnc, hcm, hsz, htake⟩
  ·exact ⟨none, 0, vs, rfl, Nat.le_refl _, by simp [maxLen], h1, h2, hL, fun hp => by omega⟩
  ·refine ⟨_, _, vs, rfl, hnc, hcm, h1, h2, hL, fun _ => ⟨g, 0, rfl, hk g (by simp [Value.ownBlock]), fun j u hu => ?_⟩⟩
   rw [Nat.zero_add, cell_of_row _ g j cur t fz hgg]
   rw [← htake, List.getElem?_take] at hu
   split at hu
   ·simpa using hu
   ·cases hu
theorem a7x {ok : Nat → Prop} : ∀ (ds : List DV) (vs : List Value) (fp : List Nat), a0N w ds vs fp → (∀ b ∈ fp, ok b) → a1n ok w ds vs
 | [], _, _, h, _ => by simp only [a0N] at h; simp only [a1n]; exact h.1
 | d :: ds, _, _, h, hk => by
  simp only [a0N] at h; simp only [a1n]
  obtain ⟨v, vs', f1, f2, rfl, rfl, h1, h2⟩ := h
  exact ⟨v, vs', rfl, a4O d v f1 h1 (fun b hb => hk b (by simp [hb])), a7x ds vs' f2 h2 (fun b hb => hk b (by simp [hb]))⟩
end
theorem a3h : ∀ (xs ys : List DV) (us vs : List Value) (f g : List Nat), a0N w xs us f → a0N w ys vs g → a0N w (xs ++ ys) (us ++ vs) (f ++ g)
 | [], _, _, _, _, _, h1, h2 => by simp only [a0N] at h1; obtain ⟨rfl, rfl⟩ := h1; exact h2
 | x :: xs, ys, _, vs, _, g, h1, h2 => by
  simp only [a0N] at h1
  obtain ⟨v, vs', f1, f2, rfl, rfl, h3, h4⟩ := h1
  simp only [List.cons_append, a0N]
  exact ⟨v, _, f1, f2 ++ g, rfl, by simp, h3, a3h xs ys vs' vs f2 g h4 h2⟩
theorem a4N : ∀ (xs ys : List DV) (vs : List Value) (fp : List Nat), a0N w (xs ++ ys) vs fp → ∃ u1 u2 f1 f2, vs = u1 ++ u2 ∧ fp = f1 ++ f2 ∧ a0N w xs u1 f1 ∧ a0N w ys u2 f2
 | [], _, vs, fp, h => ⟨[], vs, [], fp, rfl, rfl, by simp [a0N], h⟩
 | x :: xs, ys, _, _, h => by
  simp only [List.cons_append, a0N] at h
  obtain ⟨v, vs', f1, f2, rfl, rfl, h3, h4⟩ := h
  obtain ⟨u1, u2, g1, g2, rfl, rfl, h5, h6⟩ := a4N xs ys vs' f2 h4
  exact ⟨v :: u1, u2, f1 ++ g1, g2, rfl, by simp, by simp only [a0N]; exact ⟨v, u1, f1, g1, rfl, rfl, h3, h5⟩, h6⟩
end
def DV.plain : DV → Bool
 | .sl _ _ _ _ => false
 | _ => true
theorem a8u {ok : Nat → Prop} {w w' : World} {d : DV} {v : Value} (hp : d.plain = true) (h : Lay ok w d v) : Own w' d v [] := by
 cases d with
 | int k n => simp only [Lay] at h; unfold Own; exact ⟨h.1, h.2, rfl⟩
 | bool b => simp only [Lay] at h; unfold Own; exact ⟨h, rfl⟩
 | str s => simp only [Lay] at h; unfold Own; exact ⟨h.1, h.2, rfl⟩
 | hole => simp only [Lay] at h; unfold Own; exact ⟨h, rfl⟩
 | sl => simp [DV.plain] at hp
theorem a7s (w : World) (e sz : Nat) (h : 0 < sz) : Own w (.sl e sz 0 []) (.slice none 0 0) [] := by
 simp only [Own]
 exact ⟨[], [], rfl, h, by simp, b8D w e sz, by simp [a0N]⟩
set_option linter.unusedVariables false
inductive CV where
 | dv (K : List Nat) (d : DV)
 | key (k : Nat)
 | nest (k o : Nat) (d : DV)
 | arg (i : Nat) (d : DV)
 | nil
 | any
inductive SV where
 | one (c : CV)
 | agg (cs : List CV)
 | tup (ts : List (Bool × List CV))
 | box (b off : Nat)
 | abox (b : Nat)
 | ref (K : List Nat) (cs : List DV)
 | eptr (k o : Nat)
 | ksl (k lo hi sz : Nat)
 | fn (f : FuncId) (caps : List (List DV))
 | clo (f : FuncId) (caps : List Nat)
 | opt (g : Bool) (v : SV)
 | any
structure Ctx where
 w0 : World
 S0 : List Nat
 rv0 : Nat → Value
structure Lyt where
 bb : Nat → Nat
 fp : Nat → List Nat
 rv : Nat → Value
structure KC where
 h : Bool
 e : TypeId
 sz : Nat
 n : Nat
 cs : List DV
structure St where
 tm : List (Nat × SV)
 bx : List (Nat × TypeId × List CV)
 ks : List (Nat × Option KC)
def look {α : Type} : List (Nat × α) → Nat → Option α
 | [], _ => none
 | (k, v) :: l, i => bif Nat.beq i k then some v else look l i
theorem a0Y {α : Type} (k : Nat) (v : α) (l : List (Nat × α)) (i : Nat) : look ((k, v) :: l) i = if i = k then some v else look l i := by
 simp only [look]
 by_cases h : i = k
 ·subst h; simp
 ·have : Nat.beq i k = false := by
   cases hb : Nat.beq i k with
   | false => rfl
   | true => exact absurd (Nat.eq_of_beq_eq_true hb) h
  simp [this, h]
theorem a4M {α β : Type} (f : α → β) (l : List (Nat × α)) (i : Nat) : look (l.map fun p => (p.1, f p.2)) i = (look l i).map f := by
 induction l with
 | nil => rfl
 | cons p l ih =>
  obtain ⟨k, v⟩ := p
  rw [List.map_cons, a0Y, a0Y]
  split <;> simp [ih]
def lkk (σ : St) (k : Nat) : Option KC := (look σ.ks k).join
def St.put (σ : St) (d : Nat) (v : SV) : St := { σ with tm := (d, v) :: σ.tm }
def okB (C : Ctx) (L : Lyt) (K : List Nat) (b : Nat) : Prop := (b < C.w0.heap.size ∧ b ∉ C.S0) ∨ ∃ k ∈ K, b ∈ L.fp k
section
variable (P : Program) (C : Ctx) (L : Lyt) (w : World)
def CVr : CV → Value → Prop
 | .dv K d, v => Lay (okB C L K) w d v
 | .key k, v => v = L.rv k
 | .nest k o d, v => Lay (okB C L [k]) w d v ∧ ∃ g n c, L.rv k = .slice (some ⟨g, 0, none⟩) n c ∧ g ∈ L.fp k ∧ w.cell? ⟨g, o, none⟩ = some v
 | .arg i d, v => v = C.rv0 i ∧ Lay (okB C L []) w d v
 | .nil, v => v = .slice none 0 0
 | .any, v => v.oneCell' = true
def CVL : List CV → List Value → Prop
 | [], vs => vs = []
 | c :: cs, vs => ∃ v vs', vs = v :: vs' ∧ CVr C L w c v ∧ CVL cs vs'
def TVL : List (Bool × List CV) → List Value → Prop
 | [], vs => vs = []
 | (g, cs) :: ts, vs => ∃ us v vs', vs = v :: vs' ∧ CVL C L w cs us ∧ (if g then v = .agg us.toArray else us = [v]) ∧ TVL ts vs'
def a8k (ds : List DV) (r : Value) : Prop := ∃ b off vs, r = .pointer (some ⟨b, off, none⟩) ∧ (vs ≠ [] → okB C L [] b) ∧ a1n (okB C L []) w ds vs ∧ ∀ j u, vs[j]? = some u → w.cell? ⟨b, off + j, none⟩ = some u
def a4Y : List (List DV) → List Value → Prop
 | [], vs => vs = []
 | ds :: dss, vs => ∃ v vs', vs = v :: vs' ∧ a8k C L w ds v ∧ a4Y dss vs'
end
def SVr (_P : Program) (C : Ctx) (L : Lyt) (w : World) : SV → Value → Prop
 | .one c, r => CVr C L w c r
 | .agg cs, r => ∃ vs, r = .agg vs.toArray ∧ CVL C L w cs vs
 | .tup ts, r => ∃ rs, r = .tuple rs.toArray ∧ TVL C L w ts rs
 | .box b off, r => r = .pointer (some ⟨L.bb b, off, none⟩)
 | .abox b, r => r = .pointer (some ⟨L.bb b, 0, none⟩) ∧ r = C.rv0 (900000 + b)
 | .ref K cs, r => ∃ b off vs, r = .pointer (some ⟨b, off, none⟩) ∧ (vs ≠ [] → okB C L K b) ∧ a1n (okB C L K) w cs vs ∧ ∀ j u, vs[j]? = some u → w.cell? ⟨b, off + j, none⟩ = some u
 | .eptr k o, r => ∃ g n c, L.rv k = .slice (some ⟨g, 0, none⟩) n c ∧ r = .pointer (some ⟨g, o, none⟩)
 | .ksl k lo hi sz, r => ∃ A n c, L.rv k = .slice A n c ∧ r = sliced A lo hi c sz
 | .fn f caps, r => ∃ vs, r = .func (.func f) #[] vs.toArray ∧ a4Y C L w caps vs
 | .clo f caps, r => r = .func (.func f) #[] (caps.map fun b => Value.pointer (some ⟨L.bb b, 0, none⟩)).toArray
 | .opt g v, r => (g = true → SVr _P C L w v r) ∧ (g = false → r = undef)
 | .any, _ => True
def CV.keys : CV → List Nat
 | .dv K _ => K
 | .key k => [k]
 | .nest k _ _ => [k]
 | _ => []
def SV.keys : SV → List Nat
 | .one c => c.keys
 | .agg cs => cs.flatMap CV.keys
 | .tup ts => ts.flatMap fun t => t.2.flatMap CV.keys
 | .ref K _ => K
 | .eptr k _ => [k]
 | .ksl k _ _ _ => [k]
 | .opt _ v => v.keys
 | _ => []
def SV.boxes : SV → List Nat
 | .box b _ => [b]
 | .abox b => [b]
 | .clo _ caps => caps
 | .opt _ v => v.boxes
 | _ => []
structure Keeps2 (C : Ctx) (L L' : Lyt) (w w' : World) (ks : List Nat) : Prop where
 key : ∀ k ∈ ks, L'.fp k = L.fp k ∧ L'.rv k = L.rv k ∧ ∀ b ∈ L.fp k, b < w.heap.size → w'.heap[b]? = w.heap[b]?
 old : ∀ b, b < C.w0.heap.size → b ∉ C.S0 → w'.heap[b]? = w.heap[b]?
section
variable {P : Program} {C : Ctx} {L L' : Lyt} {w w' : World}
theorem Keeps2.sub {ks js : List Nat} (h : Keeps2 C L L' w w' ks) (hs : ∀ k ∈ js, k ∈ ks) : Keeps2 C L L' w w' js := ⟨fun k hk => h.key k (hs k hk), h.old⟩
theorem Keeps2.ok {ks : List Nat} (h : Keeps2 C L L' w w' ks) : ∀ b, b < w.heap.size → okB C L ks b → okB C L' ks b ∧ w'.heap[b]? = w.heap[b]? := by
 intro b hlt hb
 rcases hb with ⟨h1, h2⟩ | ⟨k, hk, hb⟩
 ·exact ⟨.inl ⟨h1, h2⟩, h.old b h1 h2⟩
 ·obtain ⟨e1, _, e3⟩ := h.key k hk
  exact ⟨.inr ⟨k, hk, by rw [e1]; exact hb⟩, e3 b hb hlt⟩
theorem a8Y {c : CV} {v : Value} (h : Keeps2 C L L' w w' c.keys) (hc : CVr C L w c v) : CVr C L' w' c v := by
 cases c with
 | dv K d => exact a8y h.ok d v hc
 | key k => simp only [CVr] at hc ⊢; rw [hc, (h.key k (by simp [CV.keys])).2.1]
 | nest k o d =>
  obtain ⟨h1, g, n, c, h2, h3, h4⟩ := hc
  obtain ⟨e1, e2, e3⟩ := h.key k (by simp [CV.keys])
  refine ⟨a8y h.ok d v h1, g, n, c, by rw [e2]; exact h2, by rw [e1]; exact h3, ?_⟩
  exact (World.cell?_of_block (a := ⟨g, o, none⟩) (e3 g h3 (a5E h4))).trans h4
 | arg i d => exact ⟨hc.1, a8y (h.sub (js := []) (by simp)).ok d v hc.2⟩
 | nil => exact hc
 | any => exact hc
theorem a5x : ∀ {cs : List CV} {vs : List Value}, Keeps2 C L L' w w' (cs.flatMap CV.keys) → CVL C L w cs vs → CVL C L' w' cs vs
 | [], _, _, hc => hc
 | c :: cs, _, h, ⟨v, vs', e, h1, h2⟩ => ⟨v, vs', e, a8Y (h.sub (by intro k hk; simp only [List.flatMap_cons, List.mem_append]; exact .inl hk)) h1, a5x (h.sub (by intro k hk; simp only [List.flatMap_cons, List.mem_append]; exact .inr hk)) h2⟩
theorem b8n : ∀ {ts : List (Bool × List CV)} {vs : List Value}, Keeps2 C L L' w w' (ts.flatMap fun t => t.2.flatMap CV.keys) → TVL C L w ts vs → TVL C L' w' ts vs
 | [], _, _, hc => hc
 | (g, cs) :: ts, _, h, ⟨us, v, vs', e, h1, h2, h3⟩ => ⟨us, v, vs', e, a5x (h.sub (by intro k hk; simp only [List.flatMap_cons, List.mem_append]; exact .inl hk)) h1, h2, b8n (h.sub (by intro k hk; simp only [List.flatMap_cons, List.mem_append]; exact .inr hk)) h3⟩
theorem c0H {ds : List DV} {r : Value} (h : Keeps2 C L L' w w' []) (hs : a8k C L w ds r) : a8k C L' w' ds r := by
 obtain ⟨b, off, vs, e, h1, h2, h3⟩ := hs
 by_cases hv : vs = []
 ·subst hv
  exact ⟨b, off, [], e, fun h => absurd rfl h, a6O h.ok _ _ h2, by simp⟩
 ·have hpos : 0 < vs.length := List.length_pos_iff.2 hv
  have hlt : b < w.heap.size := a5E (h3 0 _ (List.getElem?_eq_getElem hpos))
  obtain ⟨k1, k2⟩ := h.ok b hlt (h1 hv)
  exact ⟨b, off, vs, e, fun _ => k1, a6O h.ok _ _ h2, fun j u hu => (World.cell?_of_block (a := ⟨b, off + j, none⟩) k2).trans (h3 j u hu)⟩
theorem b2O : ∀ {dss : List (List DV)} {vs : List Value}, Keeps2 C L L' w w' [] → a4Y C L w dss vs → a4Y C L' w' dss vs
 | [], _, _, hs => hs
 | ds :: dss, _, h, ⟨v, vs', e, h1, h2⟩ => ⟨v, vs', e, c0H h h1, b2O h h2⟩
theorem a7l : ∀ {s : SV} {r : Value}, Keeps2 C L L' w w' s.keys → (∀ b ∈ s.boxes, L'.bb b = L.bb b) → SVr P C L w s r → SVr P C L' w' s r
 | .one c, r, h, _, hs => by simp only [SVr] at hs ⊢; exact a8Y h hs
 | .agg cs, r, h, _, hs => by simp only [SVr] at hs ⊢; obtain ⟨vs, e, h1⟩ := hs; exact ⟨vs, e, a5x h h1⟩
 | .tup ts, r, h, _, hs => by simp only [SVr] at hs ⊢; obtain ⟨vs, e, h1⟩ := hs; exact ⟨vs, e, b8n h h1⟩
 | .box b off, r, _, hb, hs => by simp only [SVr] at hs ⊢; rw [hb b (by simp [SV.boxes])]; exact hs
 | .abox b, r, _, hb, hs => by simp only [SVr] at hs ⊢; rw [hb b (by simp [SV.boxes])]; exact hs
 | .ref K cs, r, h, _, hs => by
  simp only [SVr] at hs ⊢
  obtain ⟨b, off, vs, e, h1, h2, h3⟩ := hs
  by_cases hv : vs = []
  ·subst hv
   exact ⟨b, off, [], e, fun h => absurd rfl h, a6O h.ok _ _ h2, by simp⟩
  ·have hpos : 0 < vs.length := List.length_pos_iff.2 hv
   have hlt : b < w.heap.size := a5E (h3 0 _ (List.getElem?_eq_getElem hpos))
   obtain ⟨k1, k2⟩ := h.ok b hlt (h1 hv)
   exact ⟨b, off, vs, e, fun _ => k1, a6O h.ok _ _ h2, fun j u hu => (World.cell?_of_block (a := ⟨b, off + j, none⟩) k2).trans (h3 j u hu)⟩
 | .eptr k o, r, h, _, hs => by
  simp only [SVr] at hs ⊢
  obtain ⟨g, n, c, h1, h2⟩ := hs
  exact ⟨g, n, c, by rw [(h.key k (by simp [SV.keys])).2.1]; exact h1, h2⟩
 | .ksl k lo hi sz, r, h, _, hs => by
  simp only [SVr] at hs ⊢
  obtain ⟨A, n, c, h1, h2⟩ := hs
  exact ⟨A, n, c, by rw [(h.key k (by simp [SV.keys])).2.1]; exact h1, h2⟩
 | .fn f caps, r, h, _, hs => by simp only [SVr] at hs ⊢; obtain ⟨vs, e, h1⟩ := hs; exact ⟨vs, e, b2O h h1⟩
 | .clo f caps, r, _, hb, hs => by
  simp only [SVr] at hs ⊢
  rw [hs]
  congr 2
  exact List.map_congr_left fun b hm => by rw [hb b (by simpa [SV.boxes] using hm)]
 | .opt g v, r, h, hb, hs => by simp only [SVr] at hs ⊢; exact ⟨fun hg => a7l h hb (hs.1 hg), hs.2⟩
 | .any, _, _, _, _ => by simp only [SVr]
theorem a3f : ∀ {cs : List CV} {vs : List Value}, CVL C L w cs vs → vs.length = cs.length
 | [], _, h => by simp only [CVL] at h; simp [h]
 | c :: cs, _, ⟨v, vs', e, _, h2⟩ => by rw [e]; simp [a3f h2]
theorem c2I {c : CV} {v : Value} (hk : ∀ k ∈ c.keys, (L.rv k).oneCell' = true) (h : CVr C L w c v) : v.oneCell' = true := by
 cases c with
 | dv K d => exact a7R _ _ h
 | key k => simp only [CVr] at h; rw [h]; exact hk k (by simp [CV.keys])
 | nest k o d => exact a7R _ _ h.1
 | arg i d => exact a7R _ _ h.2
 | nil => simp only [CVr] at h; rw [h]; rfl
 | any => exact h
end
def St.tk (σ : St) : List Nat := (σ.tm.flatMap fun p => p.2.keys) ++ (σ.bx.flatMap fun p => p.2.2.flatMap CV.keys)
def St.tb (σ : St) : List Nat := σ.tm.flatMap fun p => p.2.boxes
def a7J (C : Ctx) (b : Nat) : Prop := C.w0.heap.size ≤ b ∨ b ∈ C.S0
structure Rel (P : Program) (C : Ctx) (nt : Nat) (L : Lyt) (σ : St) (a : Act) (w : World) : Prop where
 df : a.defers = []
 sz : a.tmps.size = nt
 tm : ∀ i v, look σ.tm i = some v → SVr P C L w v (a.tmps.getD i undef)
 bx : ∀ i t cs, look σ.bx i = some (t, cs) → ∃ vs, w.heap[L.bb i]? = some (.cells vs.toArray t (0, 0)) ∧ CVL C L w cs vs
 ks : ∀ k c, lkk σ k = some c → Own w (.sl c.e c.sz c.n c.cs) (L.rv k) (L.fp k) ∧ (c.h = true → L.rv k = C.rv0 k)
 b1 : ∀ i x, look σ.bx i = some x → a7J C (L.bb i)
 k1 : ∀ k c, lkk σ k = some c → ∀ b ∈ L.fp k, a7J C b
 kn : ∀ k c, lkk σ k = some c → (L.fp k).Nodup
 bb : ∀ i j x y, look σ.bx i = some x → look σ.bx j = some y → i ≠ j → L.bb i ≠ L.bb j
 bk : ∀ i k x c, look σ.bx i = some x → lkk σ k = some c → L.bb i ∉ L.fp k
 kk : ∀ k j c d, lkk σ k = some c → lkk σ j = some d → k ≠ j → ∀ b ∈ L.fp k, b ∉ L.fp j
 lk : ∀ k ∈ σ.tk, (lkk σ k).isSome = true
 lb : ∀ b ∈ σ.tb, (look σ.bx b).isSome = true
 s0 : ∀ b ∈ C.S0, b < C.w0.heap.size
 chg : Chg C.S0 C.w0 w
section
variable {P : Program} {C : Ctx} {nt : Nat} {L : Lyt} {σ : St} {a : Act} {w : World}
theorem Rel.put (h : Rel P C nt L σ a w) {d : Nat} (hd : d < nt) {v : SV} {r : Value} (hv : SVr P C L w v r) (hk : ∀ k ∈ v.keys, (lkk σ k).isSome = true) (hb : ∀ b ∈ v.boxes, (look σ.bx b).isSome = true) : Rel P C nt L (σ.put d v) (a.put (some d) r) w where
 df := h.df
 sz := by simp [Act.put, h.sz]
 tm := fun i u hu => by
  simp only [St.put, a0Y] at hu
  simp only [Act.put]
  split at hu
  ·rename_i e; subst e
   simp only [Option.some.injEq] at hu; subst hu
   simp [Array.getD, h.sz, hd]
   exact hv
  ·rename_i e
   have h1 := h.tm i u hu
   rw [show (a.tmps.setIfInBounds d r).getD i undef = a.tmps.getD i undef by
    rw [Array.getD_eq_getD_getElem?, Array.getD_eq_getD_getElem?, Array.getElem?_setIfInBounds_ne (fun e' => e e'.symm)]]
   exact h1
 bx := h.bx
 ks := h.ks
 b1 := h.b1
 k1 := h.k1
 kn := h.kn
 bb := h.bb
 bk := h.bk
 kk := h.kk
 lk := fun k hm => by
  simp only [St.tk, St.put, List.flatMap_cons, List.append_assoc, List.mem_append] at hm
  rcases hm with hm | hm | hm
  ·exact hk k hm
  ·exact h.lk k (by simp only [St.tk, List.mem_append]; exact .inl hm)
  ·exact h.lk k (by simp only [St.tk, List.mem_append]; exact .inr hm)
 lb := fun b hm => by
  simp only [St.tb, St.put, List.flatMap_cons, List.mem_append] at hm
  rcases hm with hm | hm
  ·exact hb b hm
  ·exact h.lb b hm
 s0 := h.s0
 chg := h.chg
theorem a3q {α : Type} {l : List (Nat × α)} {i : Nat} {v : α} (h : look l i = some v) : (i, v) ∈ l := by
 induction l with
 | nil => cases h
 | cons p l ih =>
  obtain ⟨k, u⟩ := p
  rw [a0Y] at h
  split at h
  ·rename_i e; subst e; simp only [Option.some.injEq] at h; subst h; simp
  ·exact List.mem_cons_of_mem _ (ih h)
theorem a7S {i : Nat} {v : SV} (h : look σ.tm i = some v) : ∀ k ∈ v.keys, k ∈ σ.tk := fun k hk => by
 simp only [St.tk, List.mem_append, List.mem_flatMap]
 exact .inl ⟨_, a3q h, hk⟩
theorem a8G {i : Nat} {t : TypeId} {cs : List CV} (h : look σ.bx i = some (t, cs)) : ∀ k ∈ cs.flatMap CV.keys, k ∈ σ.tk := fun k hk => by
 simp only [St.tk, List.mem_append, List.mem_flatMap]
 exact .inr ⟨_, a3q h, by simpa only [List.mem_flatMap] using hk⟩
theorem b5L {i : Nat} {v : SV} (h : look σ.tm i = some v) : ∀ b ∈ v.boxes, b ∈ σ.tb := fun b hb => by
 simp only [St.tb, List.mem_flatMap]
 exact ⟨_, a3q h, hb⟩
theorem a6a {w : World} {b : Nat} {o : Obj} (h : w.heap[b]? = some o) : b < w.heap.size := (Array.getElem?_eq_some_iff.1 h).1
theorem Rel.bx_lt (h : Rel P C nt L σ a w) {i : Nat} {x : TypeId × List CV} (hx : look σ.bx i = some x) : L.bb i < w.heap.size := by
 obtain ⟨vs, hv, _⟩ := h.bx i x.1 x.2 hx
 exact a6a hv
theorem Rel.k_lt (h : Rel P C nt L σ a w) {k : Nat} {c : KC} (hc : lkk σ k = some c) : ∀ b ∈ L.fp k, b < w.heap.size := b4n _ _ _ (h.ks k c hc).1
theorem Rel.grow (h : Rel P C nt L σ a w) {w' : World} (hc : Chg [] w w') : Rel P C nt L σ a w' := by
 have hK : ∀ ks, Keeps2 C L L w w' ks := fun ks => ⟨fun k _ => ⟨rfl, rfl, fun b _ hb => hc.block b hb (by simp)⟩, fun b hb _ => hc.block b (Nat.lt_of_lt_of_le hb h.chg.size) (by simp)⟩
 exact {
  df := h.df, sz := h.sz
  tm := fun i v hv => a7l (hK _) (fun _ _ => rfl) (h.tm i v hv)
  bx := fun i t cs hx => by
   obtain ⟨vs, h1, h2⟩ := h.bx i t cs hx
   exact ⟨vs, (hc.block _ (a6a h1) (by simp)).trans h1, a5x (hK _) h2⟩
  ks := fun k c hk => ⟨a8h _ _ _ (h.ks k c hk).1 (fun b hb => hc.block b (h.k_lt hk b hb) (by simp)), (h.ks k c hk).2⟩
  b1 := h.b1, k1 := h.k1, kn := h.kn, bb := h.bb, bk := h.bk, kk := h.kk, lk := h.lk, lb := h.lb, s0 := h.s0
  chg := h.chg.andThen hc (by simp) }
theorem Rel.newbox (h : Rel P C nt L σ a w) {i : Nat} {t : TypeId} {cs : List CV} {vs : List Value} (hi : look σ.bx i = none) (hv : CVL C L w cs vs) (hk : ∀ k ∈ cs.flatMap CV.keys, (lkk σ k).isSome = true) :
  Rel P C nt { L with bb := fun j => if j = i then w.heap.size else L.bb j } { σ with bx := (i, t, cs) :: σ.bx } a (w.alloc (.cells vs.toArray t)) := by
 have hg := h.grow ((Chg.refl [] w).alloc (.cells vs.toArray t))
 have hne : ∀ j x, look σ.bx j = some x → j ≠ i := fun j x hj e => by rw [e, hi] at hj; cases hj
 have hK : ∀ ks, Keeps2 C L { L with bb := fun j => if j = i then w.heap.size else L.bb j } (w.alloc (.cells vs.toArray t)) (w.alloc (.cells vs.toArray t)) ks := fun ks => ⟨fun k _ => ⟨rfl, rfl, fun b _ hb => rfl⟩, fun b hb _ => rfl⟩
 exact {
  df := h.df, sz := h.sz
  tm := fun j v hv => a7l (hK _) (fun b hb => by
   have h1 := h.lb b (b5L hv b hb)
   obtain ⟨x, hx⟩ := c5r.1 h1
   simp [hne b x hx]) (hg.tm j v hv)
  bx := fun j t' cs' hx => by
   simp only [a0Y] at hx
   split at hx
   ·rename_i e
    simp only [Option.some.injEq, Prod.mk.injEq] at hx
    obtain ⟨rfl, rfl⟩ := hx
    subst e
    refine ⟨vs, by simpa using heap_alloc_new w (.cells vs.toArray t), a5x (L := L) ⟨fun k _ => ⟨rfl, rfl, fun b _ hb => Below.heap_alloc w _ b hb⟩, fun b hb _ => Below.heap_alloc w _ b (Nat.lt_of_lt_of_le hb h.chg.size)⟩ hv⟩
   ·rename_i e
    obtain ⟨us, h1, h2⟩ := hg.bx j t' cs' hx
    exact ⟨us, by simpa [e] using h1, a5x (hK _) h2⟩
  ks := hg.ks
  b1 := fun j x hx => by
   simp only [a0Y] at hx
   split at hx
   ·rename_i e; simp only [e, if_true]; exact .inl h.chg.size
   ·rename_i e; simp only [e, if_false]; exact h.b1 j x hx
  k1 := h.k1, kn := h.kn
  bb := fun j l x y hx hy hjl => by
   simp only [a0Y] at hx hy
   split at hx <;> split at hy
   ·rename_i e1 e2; exact absurd (e1.trans e2.symm) hjl
   ·rename_i e1 e2; simp only [e1, e2, if_true, if_false]; have := h.bx_lt hy; omega
   ·rename_i e1 e2; simp only [e1, e2, if_true, if_false]; have := h.bx_lt hx; omega
   ·rename_i e1 e2; simp only [e1, e2, if_false]; exact h.bb j l x y hx hy hjl
  bk := fun j k x c hx hc => by
   simp only [a0Y] at hx
   split at hx
   ·rename_i e
    simp only [e, if_true]
    intro hm
    have := h.k_lt hc _ hm
    omega
   ·rename_i e; simp only [e, if_false]; exact h.bk j k x c hx hc
  kk := h.kk
  lk := fun k hm => by
   simp only [St.tk, List.flatMap_cons, List.mem_append] at hm
   rcases hm with hm | hm | hm
   ·exact h.lk k (by simp only [St.tk, List.mem_append]; exact .inl hm)
   ·exact hk k hm
   ·exact h.lk k (by simp only [St.tk, List.mem_append]; exact .inr hm)
  lb := fun b hm => by
   have h1 := h.lb b hm
   simp only [a0Y]
   split
   ·rfl
   ·exact h1
  s0 := h.s0
  chg := hg.chg }
theorem Rel.newkey (h : Rel P C nt L σ a w) {k : Nat} {c : KC} {v : Value} {f : List Nat} (hk : lkk σ k = none) (ho : Own w (.sl c.e c.sz c.n c.cs) v f) (hh : c.h = false) (hn : f.Nodup) (hf : ∀ b ∈ f, a7J C b)
  (h1 : ∀ b ∈ f, ∀ i x, look σ.bx i = some x → L.bb i ≠ b) (h2 : ∀ b ∈ f, ∀ j d, lkk σ j = some d → b ∉ L.fp j) :
  Rel P C nt { L with fp := fun j => if j = k then f else L.fp j, rv := fun j => if j = k then v else L.rv j } { σ with ks := (k, some c) :: σ.ks } a w := by
 have hl : ∀ j, lkk { σ with ks := (k, some c) :: σ.ks } j = if j = k then some c else lkk σ j := fun j => by
  simp only [lkk, a0Y]; split <;> rfl
 have hne : ∀ j, (lkk σ j).isSome = true → j ≠ k := fun j hj e => by rw [e, hk] at hj; cases hj
 have hK : ∀ ks, (∀ j ∈ ks, (lkk σ j).isSome = true) → Keeps2 C L { L with fp := fun j => if j = k then f else L.fp j, rv := fun j => if j = k then v else L.rv j } w w ks := fun ks hs =>
  ⟨fun j hj => ⟨by simp [hne j (hs j hj)], by simp [hne j (hs j hj)], fun b _ hb => rfl⟩, fun b hb _ => rfl⟩
 exact {
  df := h.df, sz := h.sz
  tm := fun j u hu => a7l (hK _ (fun l hl => h.lk l (a7S hu l hl))) (fun b hb => rfl) (h.tm j u hu)
  bx := fun j t cs hx => by
   obtain ⟨us, h3, h4⟩ := h.bx j t cs hx
   exact ⟨us, h3, a5x (hK _ (fun l hl => h.lk l (a8G hx l hl))) h4⟩
  ks := fun j d hd => by
   rw [hl] at hd
   split at hd
   ·rename_i e
    simp only [Option.some.injEq] at hd; subst hd
    simp only [e, if_true]
    exact ⟨ho, fun hc => by rw [hh] at hc; cases hc⟩
   ·rename_i e; simp only [e, if_false]; exact h.ks j d hd
  b1 := h.b1
  k1 := fun j d hd => by
   rw [hl] at hd
   split at hd
   ·rename_i e; simp only [e, if_true]; exact hf
   ·rename_i e; simp only [e, if_false]; exact h.k1 j d hd
  kn := fun j d hd => by
   rw [hl] at hd
   split at hd
   ·rename_i e; simp only [e, if_true]; exact hn
   ·rename_i e; simp only [e, if_false]; exact h.kn j d hd
  bb := h.bb
  bk := fun i j x d hx hd => by
   rw [hl] at hd
   split at hd
   ·rename_i e; simp only [e, if_true]; exact fun hm => h1 _ hm i x hx rfl
   ·rename_i e; simp only [e, if_false]; exact h.bk i j x d hx hd
  kk := fun i j x y hx hy hij => by
   rw [hl] at hx hy
   split at hx <;> split at hy
   ·rename_i e1 e2; exact absurd (e1.trans e2.symm) hij
   ·rename_i e1 e2; simp only [e1, e2, if_true, if_false]; exact fun b hb => h2 b hb j y hy
   ·rename_i e1 e2; simp only [e1, e2, if_true, if_false]; exact fun b hb hb' => h2 b hb' i x hx hb
   ·rename_i e1 e2; simp only [e1, e2, if_false]; exact h.kk i j x y hx hy hij
  lk := fun j hj => by
   rw [hl]
   split
   ·rfl
   ·exact h.lk j hj
  lb := h.lb
  s0 := h.s0
  chg := h.chg }
theorem Rel.newkey' {w' : World} (h : Rel P C nt L σ a w) (hc : Chg [] w w') {k : Nat} {c : KC} {v : Value} {f : List Nat} (hk : lkk σ k = none) (ho : Own w' (.sl c.e c.sz c.n c.cs) v f) (hh : c.h = false) (hn : f.Nodup) (hf : ∀ b ∈ f, w.heap.size ≤ b) :
  Rel P C nt { L with fp := fun j => if j = k then f else L.fp j, rv := fun j => if j = k then v else L.rv j } { σ with ks := (k, some c) :: σ.ks } a w' :=
 (h.grow hc).newkey hk ho hh hn (fun b hb => .inl (Nat.le_trans h.chg.size (hf b hb)))
  (fun b hb i x hx e => by have := h.bx_lt hx; have := hf b hb; omega)
  (fun b hb j d hd hm => by have := h.k_lt hd b hm; have := hf b hb; omega)
theorem Rel.setbox (h : Rel P C nt L σ a w) {i : Nat} {t : TypeId} {cs : List CV} {vs : List Value} {w' : World} {x : List CV} (hi : look σ.bx i = some (t, x)) (hc : Chg [L.bb i] w w')
  (hw : w'.heap[L.bb i]? = some (.cells vs.toArray t (0, 0))) (hv : CVL C L w cs vs) (hk : ∀ k ∈ cs.flatMap CV.keys, (lkk σ k).isSome = true) :
  Rel P C nt L { σ with bx := (i, t, cs) :: σ.bx } a w' := by
 have hK : ∀ ks, (∀ j ∈ ks, (lkk σ j).isSome = true) → Keeps2 C L L w w' ks := fun ks hs =>
  ⟨fun j hj => ⟨rfl, rfl, fun b hb hlt => hc.block b hlt (by
   obtain ⟨d, hd⟩ := c5r.1 (hs j hj)
   have := h.bk i j _ d hi hd
   simp only [List.mem_singleton]
   rintro rfl
   exact this hb)⟩, fun b hb hs0 => hc.block b (Nat.lt_of_lt_of_le hb h.chg.size) (by
   have := h.b1 i _ hi
   simp only [List.mem_singleton]
   rintro rfl
   rcases this with h1 | h1
   ·omega
   ·exact hs0 h1)⟩
 exact {
  df := h.df, sz := h.sz
  tm := fun j u hu => a7l (hK _ (fun l hl => h.lk l (a7S (σ := σ) hu l hl))) (fun b hb => rfl) (h.tm j u hu)
  bx := fun j t' cs' hx => by
   simp only [a0Y] at hx
   split at hx
   ·rename_i e
    simp only [Option.some.injEq, Prod.mk.injEq] at hx
    obtain ⟨rfl, rfl⟩ := hx
    subst e
    exact ⟨vs, hw, a5x (hK _ hk) hv⟩
   ·rename_i e
    obtain ⟨us, h3, h4⟩ := h.bx j t' cs' hx
    exact ⟨us, (hc.block _ (a6a h3) (by simpa using h.bb j i _ _ hx hi e)).trans h3, a5x (hK _ (fun l hl => h.lk l (a8G hx l hl))) h4⟩
  ks := fun j d hd => ⟨a8h _ _ _ (h.ks j d hd).1 (fun b hb => (hK [j] (by intro l hl; simp only [List.mem_singleton] at hl; subst hl; exact c5r.2 ⟨d, hd⟩)).key j (by simp) |>.2.2 b hb (h.k_lt hd b hb)), (h.ks j d hd).2⟩
  b1 := fun j x' hx => by
   simp only [a0Y] at hx
   split at hx
   ·rename_i e; rw [e]; exact h.b1 i _ hi
   ·exact h.b1 j _ hx
  k1 := h.k1, kn := h.kn
  bb := fun j l x' y' hx hy hjl => by
   have hh : ∀ j x', look ((i, t, cs) :: σ.bx) j = some x' → ∃ z, look σ.bx j = some z := fun j x' hx => by
    simp only [a0Y] at hx
    split at hx
    ·rename_i e; exact ⟨_, by rw [e]; exact hi⟩
    ·exact ⟨_, hx⟩
   obtain ⟨z1, hz1⟩ := hh j x' hx
   obtain ⟨z2, hz2⟩ := hh l y' hy
   exact h.bb j l z1 z2 hz1 hz2 hjl
  bk := fun j k x' c hx hcc => by
   simp only [a0Y] at hx
   split at hx
   ·rename_i e; rw [e]; exact h.bk i k _ c hi hcc
   ·exact h.bk j k _ c hx hcc
  kk := h.kk
  lk := fun k hm => by
   simp only [St.tk, List.flatMap_cons, List.mem_append] at hm
   rcases hm with hm | hm | hm
   ·exact h.lk k (by simp only [St.tk, List.mem_append]; exact .inl hm)
   ·exact hk k hm
   ·exact h.lk k (by simp only [St.tk, List.mem_append]; exact .inr hm)
  lb := fun b hm => by
   have h1 := h.lb b hm
   simp only [a0Y]
   split
   ·rfl
   ·exact h1
  s0 := h.s0
  chg := h.chg.andThen hc (fun x hx => by
   simp only [List.mem_singleton] at hx
   subst hx
   exact (h.b1 i _ hi).symm) }
def a5K {α : Type} : List (Nat × α) → List (Nat × α) → Prop
 | [], _ => True
 | (i, v) :: l', l => look l i = some v ∧ a5K l' l
theorem a5K.look {α : Type} : ∀ {l' l : List (Nat × α)}, a5K l' l → ∀ i v, look l' i = some v → look l i = some v
 | [], _, _, i, v, h => by cases h
 | (k, u) :: l', l, ⟨h1, h2⟩, i, v, h => by
  rw [a0Y] at h
  split at h
  ·rename_i e; simp only [Option.some.injEq] at h; subst h; rw [e]; exact h1
  ·exact a5K.look h2 i v h
def St.okB (σ : St) : Bool := (σ.tk.all fun k => (lkk σ k).isSome) && (σ.tb.all fun b => (look σ.bx b).isSome)
theorem Rel.weak (h : Rel P C nt L σ a w) {σ' : St} (h1 : a5K σ'.tm σ.tm) (h2 : a5K σ'.bx σ.bx) (h3 : a5K σ'.ks σ.ks) (h4 : σ'.okB = true) : Rel P C nt L σ' a w := by
 simp only [St.okB, Bool.and_eq_true, List.all_eq_true] at h4
 have hl : ∀ k c, lkk σ' k = some c → lkk σ k = some c := fun k c hc => by
  simp only [lkk] at hc ⊢
  cases hx : look σ'.ks k with
  | none => rw [hx] at hc; cases hc
  | some x => rw [hx] at hc; rw [h3.look k x hx]; exact hc
 exact {
  df := h.df, sz := h.sz
  tm := fun i v hv => h.tm i v (h1.look i v hv)
  bx := fun i t cs hx => h.bx i t cs (h2.look i _ hx)
  ks := fun k c hc => h.ks k c (hl k c hc)
  b1 := fun i x hx => h.b1 i x (h2.look i _ hx)
  k1 := fun k c hc => h.k1 k c (hl k c hc)
  kn := fun k c hc => h.kn k c (hl k c hc)
  bb := fun i j x y hx hy => h.bb i j x y (h2.look i _ hx) (h2.look j _ hy)
  bk := fun i k x c hx hc => h.bk i k x c (h2.look i _ hx) (hl k c hc)
  kk := fun k j c d hc hd => h.kk k j c d (hl k c hc) (hl j d hd)
  lk := h4.1, lb := h4.2
  s0 := h.s0, chg := h.chg }
end
set_option linter.unusedSimpArgs false
section
variable (P : Program) (C : Ctx) (nt : Nat)
def QQ (Q : Exit → St → Prop) : Exit → Act → World → Prop
 | .panic _, _, _ => False
 | .outgrown, _, _ => False
 | e, a, w => ∃ L σ, Rel P C nt L σ a w ∧ Q e σ
structure Ok (Q : Exit → St → Prop) (c : Code) (σ : St) : Prop where
 run : ∀ L a w, Rel P C nt L σ a w → c.wp P (QQ P C nt Q) a w
def a5i (N : St → Prop) (Q : Exit → St → Prop) : Exit → St → Prop
 | .normal, σ => N σ
 | e, σ => Q e σ
def a6S (id : Nat) (Q : Exit → St → Prop) : Exit → St → Prop
 | .exit i, σ => if i = id then Q .normal σ else Q (.exit i) σ
 | e, σ => Q e σ
structure Ev (σ : St) (x : Operand) (v : SV) : Prop where
 run : ∀ L a w, Rel P C nt L σ a w → SVr P C L w v (a.eval x)
structure Weak (σ σ' : St) : Prop where
 run : ∀ L a w, Rel P C nt L σ a w → ∃ L', Rel P C nt L' σ' a w
structure Pu (o : Oper) (σ : St) (v : SV) (Ks Bs : List Nat) : Prop where
 run : ∀ L a w, Rel P C nt L σ a w → ∃ r, SVr P C L w v r ∧
 ∀ w', (∀ b, b < w.heap.size → okB C L Ks b ∨ (∃ i ∈ Bs, b = L.bb i) → w'.heap[b]? = w.heap[b]?) → (execOp a.eval o).run P w' = .ok (.value r) w'
structure Gr (σ : St) (L L' : Lyt) (w w' : World) : Prop where
 chg : Chg [] w w'
 key : ∀ k c, lkk σ k = some c → L'.fp k = L.fp k
 box : ∀ i x, look σ.bx i = some x → L'.bb i = L.bb i
structure EfG (o : Oper) (σ : St) (R : St → Prop) : Prop where
 run : ∀ L a w, Rel P C nt L σ a w → ∀ K Q, (∀ L' σ' a' w', R σ' → Rel P C nt L' σ' a' w' → Gr σ L L' w w' → K a' w') → o.wp P a w K Q
structure Ef (o : Oper) (σ : St) (R : St → Prop) : Prop where
 run : ∀ L a w, Rel P C nt L σ a w → ∀ K Q, (∀ L' σ' a' w', R σ' → Rel P C nt L' σ' a' w' → K a' w') → o.wp P a w K Q
structure Pc (o : Oper) (σ : St) (R : SV → Prop) : Prop where
 run : ∀ L a w, Rel P C nt L σ a w → ∀ K Q, (∀ v r w', R v → v.keys = [] ∧ v.boxes = [] → SVr P C L w' v r → Chg [] w w' → K (a.put o.dst r) w') → o.wp P a w K Q
structure Ops (Q : Exit → St → Prop) (all : Array Oper) (rest : List Oper) (σ : St) : Prop where
 run : ∀ L a w, Rel P C nt L σ a w → wpList P all (QQ P C nt Q) rest a w
structure Gd (σ : St) (all : Array Oper) (o : Oper) (g : Bool) : Prop where
 run : ∀ L a w, Rel P C nt L σ a w → Region.wanted o (yielded all a.tmps) = g
end
def a1p (σ : St) (v : SV) : Bool := (v.keys.all fun k => (lkk σ k).isSome) && (v.boxes.all fun b => (look σ.bx b).isSome)
section
variable {P : Program} {C : Ctx} {nt : Nat} {Q : Exit → St → Prop} {σ : St}
theorem EfG.ef {o : Oper} {R : St → Prop} (h : EfG P C nt o σ R) : Ef P C nt o σ R := Ef.mk fun L a w hr K Q hk => h.run L a w hr K Q (fun L' σ' a' w' h1 h2 _ => hk L' σ' a' w' h1 h2)
theorem a2f {v : SV} (h : a1p σ v = true) : (∀ k ∈ v.keys, (lkk σ k).isSome = true) ∧ (∀ b ∈ v.boxes, (look σ.bx b).isSome = true) := by
 simpa only [a1p, Bool.and_eq_true, List.all_eq_true] using h
theorem b5E {Q' : Exit → St → Prop} (h : ∀ e σ, Q e σ → Q' e σ) : ∀ e a w, QQ P C nt Q e a w → QQ P C nt Q' e a w := by
 intro e a w hq
 cases e <;> first | exact hq | (obtain ⟨L, σ, h1, h2⟩ := hq; exact ⟨L, σ, h1, h _ _ h2⟩)
theorem a0r {σ' : St} {c : Code} (h : Weak P C nt σ σ') (k : Ok P C nt Q c σ') : Ok P C nt Q c σ := Ok.mk fun L a w hr => by
 obtain ⟨L', h1⟩ := h.run L a w hr
 exact k.run L' a w h1
theorem Weak.refl : Weak P C nt σ σ := Weak.mk fun L _ _ h => ⟨L, h⟩
theorem a0e {σ' : St} (h1 : a5K σ'.tm σ.tm) (h2 : a5K σ'.bx σ.bx) (h3 : a5K σ'.ks σ.ks) (h4 : σ'.okB = true) : Weak P C nt σ σ' := Weak.mk fun L _ _ h => ⟨L, h.weak h1 h2 h3 h4⟩
theorem a0p {x y : Code} (h : Ok P C nt (a5i (Ok P C nt Q y) Q) x σ) : Ok P C nt Q (.seq x y) σ := Ok.mk fun L a w hr => by
 refine wp_seq (wp_mono (h.run L a w hr) ?_)
 intro e a w hq
 cases e with
 | normal => obtain ⟨L, σ, h1, h2⟩ := hq; exact h2.run L a w h1
 | exit => exact hq
 | goto => exact hq
 | ret => exact hq
 | panic => exact hq
 | outgrown => exact hq
theorem c5m (h : Q .normal σ) : Ok P C nt Q .skip σ := Ok.mk fun L _ _ hr => wp_skip ⟨L, σ, hr, h⟩
theorem b9x {id : Nat} (h : Q (.exit id) σ) : Ok P C nt Q (.exit id) σ := Ok.mk fun L _ _ hr => wp_exit ⟨L, σ, hr, h⟩
theorem c0M (h : Q .ret σ) : Ok P C nt Q .ret σ := Ok.mk fun L _ _ hr => wp_ret ⟨L, σ, hr, h⟩
theorem c1K {id : Nat} {c : Code} (h : Ok P C nt (a6S id Q) c σ) : Ok P C nt Q (.block id c) σ := Ok.mk fun L a w hr => by
 refine wp_block (wp_mono (h.run L a w hr) ?_)
 intro e a w hq
 cases e with
 | exit i =>
  obtain ⟨L, σ, h1, h2⟩ := hq
  simp only [Exit.inBlock, a6S] at h2 ⊢
  split
  ·rename_i e; rw [if_pos e] at h2; exact ⟨L, σ, h1, h2⟩
  ·rename_i e; rw [if_neg e] at h2; exact ⟨L, σ, h1, h2⟩
 | normal => exact hq
 | goto => exact hq
 | ret => exact hq
 | panic => exact hq
 | outgrown => exact hq
theorem c2b {c : Operand} {x y : Code} {K : List Nat} {t : Bool} (hc : Ev P C nt σ c (.one (.dv K (.bool t)))) (h1 : t = true → Ok P C nt Q x σ) (h2 : t = false → Ok P C nt Q y σ) : Ok P C nt Q (.cond c x y) σ := Ok.mk fun L a w hr => by
 have h := hc.run L a w hr
 simp only [SVr, CVr, Lay] at h
 exact wp_cond_split h (fun ht => (h1 ht).run L a w hr) (fun ht => (h2 ht).run L a w hr)
theorem a0W {ι : Type} (f : ι → St) (I : ι → Prop) (μ : ι → Nat) (i0 : ι) {c : Code} (h0 : I i0) (hw : Weak P C nt σ (f i0))
  (round : ∀ i, I i → Ok P C nt (a5i (fun σ' => ∃ j, I j ∧ μ j < μ i ∧ Weak P C nt σ' (f j)) Q) c (f i)) : Ok P C nt Q (.loop c) σ := Ok.mk fun L a w hr => by
 obtain ⟨L', hr'⟩ := hw.run L a w hr
 refine wp_loop_ghost (fun n a w => ∃ i, I i ∧ μ i = n ∧ ∃ L, Rel P C nt L (f i) a w) (μ i0) ⟨i0, h0, rfl, L', hr'⟩ ?_
 rintro n a w ⟨i, hi, rfl, L, hr⟩
 refine wp_mono ((round i hi).run L a w hr) ?_
 intro e a w hq
 cases e with
 | normal =>
  obtain ⟨L, σ', h1, j, hj, hlt, hwk⟩ := hq
  obtain ⟨L', h2⟩ := hwk.run L a w h1
  exact ⟨μ j, hlt, j, hj, rfl, L', h2⟩
 | exit => exact hq
 | goto => exact hq
 | ret => exact hq
 | panic => exact hq
 | outgrown => exact hq
theorem a0j {id : Nat} {l : List Oper} (h : Ops P C nt Q l.toArray l σ) : Ok P C nt Q (.region id l.toArray false) σ := Ok.mk fun L a w hr => wp_region_lit (h.run L a w hr)
theorem a1j {all : Array Oper} (h : Q .normal σ) : Ops P C nt Q all [] σ := Ops.mk fun L _ _ hr => wpList_nil ⟨L, σ, hr, h⟩
theorem c0Y {all : Array Oper} {rest : List Oper} {o : Oper} {d : Nat} {v : SV} {Ks Bs : List Nat} (hg : o.guard = none) (hd : o.dst = some d) (hp : Pu P C nt o σ v Ks Bs) (hn : Nat.blt d nt = true) (hk : a1p σ v = true)
  (h : Ops P C nt Q all rest (σ.put d v)) : Ops P C nt Q all (o :: rest) σ := Ops.mk fun L a w hr => by
 refine wpList_plain hg fun K hK => ?_
 obtain ⟨r, h1, h2⟩ := hp.run L a w hr
 unfold Oper.wp
 rw [h2 w (fun _ _ _ => rfl)]
 simp only [Oper.upon]
 refine hK _ _ (h.run L _ w ?_)
 rw [hd]
 exact hr.put (by simpa [Nat.blt_eq] using hn) h1 (a2f hk).1 (a2f hk).2
theorem a9N {all : Array Oper} {rest : List Oper} {o : Oper} {R : St → Prop} (hg : o.guard = none) (hp : Ef P C nt o σ R) (h : ∀ σ', R σ' → Ops P C nt Q all rest σ') : Ops P C nt Q all (o :: rest) σ := Ops.mk fun L a w hr =>
 wpList_plain hg fun K hK => hp.run L a w hr _ _ fun L' σ' a' w' h1 h2 => hK _ _ ((h σ' h1).run L' a' w' h2)
theorem c1e {all : Array Oper} {rest : List Oper} {o : Oper} {d : Nat} {g : Bool} {v : SV} {Ks Bs : List Nat} (hG : Gd P C nt σ all o g) (hd : o.dst = some d) (hp : g = true → Pu P C nt o σ v Ks Bs) (hn : Nat.blt d nt = true) (hk : a1p σ v = true)
  (h : Ops P C nt Q all rest (σ.put d (.opt g v))) : Ops P C nt Q all (o :: rest) σ := Ops.mk fun L a w hr => by
 refine wpList_step fun K hK => ?_
 have hd' : d < nt := by simpa [Nat.blt_eq] using hn
 rw [hG.run L a w hr]
 split
 ·rename_i e
  obtain ⟨r, h1, h2⟩ := (hp e).run L a w hr
  unfold Oper.wp
  rw [h2 w (fun _ _ _ => rfl)]
  simp only [Oper.upon]
  refine hK _ _ (h.run L _ w ?_)
  rw [hd]
  exact hr.put hd' (by simp only [SVr]; exact ⟨fun _ => h1, fun e' => by rw [e] at e'; cases e'⟩) (a2f hk).1 (a2f hk).2
 ·rename_i e
  refine hK _ _ (h.run L _ w ?_)
  rw [hd]
  exact hr.put hd' (by simp only [SVr]; exact ⟨fun e' => absurd e' e, fun _ => trivial⟩) (a2f hk).1 (a2f hk).2
theorem c5f {all : Array Oper} {rest : List Oper} {o : Oper} {d : Nat} {g : Bool} {R : SV → Prop} {v : SV} (hG : Gd P C nt σ all o g) (hd : o.dst = some d) (hp : g = true → Pc P C nt o σ R) (hR : ∀ u, R u → u = v) (hn : Nat.blt d nt = true) (hk : a1p σ v = true)
  (h : Ops P C nt Q all rest (σ.put d (.opt g v))) : Ops P C nt Q all (o :: rest) σ := Ops.mk fun L a w hr => by
 refine wpList_step fun K hK => ?_
 have hd' : d < nt := by simpa [Nat.blt_eq] using hn
 rw [hG.run L a w hr]
 split
 ·rename_i e
  refine (hp e).run L a w hr _ _ fun u r w' hu _ h1 hc => hK _ _ (h.run L _ w' ?_)
  rw [hd]
  exact (hr.grow hc).put hd' (by simp only [SVr]; exact ⟨fun _ => by rw [← hR u hu]; exact h1, fun e' => by rw [e] at e'; cases e'⟩) (a2f hk).1 (a2f hk).2
 ·rename_i e
  refine hK _ _ (h.run L _ w ?_)
  rw [hd]
  exact hr.put hd' (by simp only [SVr]; exact ⟨fun e' => absurd e' e, fun _ => trivial⟩) (a2f hk).1 (a2f hk).2
theorem Pc.efg {o : Oper} {d : Nat} {R : SV → Prop} (hd : o.dst = some d) (hn : Nat.blt d nt = true) (hp : Pc P C nt o σ R) : EfG P C nt o σ (fun σ' => ∃ v, R v ∧ σ' = σ.put d v) := EfG.mk fun L a w hr K Q hk =>
 hp.run L a w hr K Q fun v r w' hv hkb h1 hc => hk L (σ.put d v) _ w' ⟨v, hv, rfl⟩ (by
  rw [hd]
  exact (hr.grow hc).put (by simpa [Nat.blt_eq] using hn) h1 (by rw [hkb.1]; simp) (by rw [hkb.2]; simp)) ⟨hc, fun _ _ _ => rfl, fun _ _ _ => rfl⟩
/-! ### guards -/
theorem a1l {all : Array Oper} {o oj : Oper} {j d : Nat} {want b : Bool} {K : List Nat} (h : o.guard = some (j, want)) (hj : all[j]? = some oj) (hd : oj.dst = some d) (hn : Nat.blt d nt = true) (hv : look σ.tm d = some (.one (.dv K (.bool b)))) : Gd P C nt σ all o (b == want) := Gd.mk fun L a w hr => by
 have h1 := hr.tm d _ hv
 simp only [SVr, CVr, Lay] at h1
 have hlt : d < a.tmps.size := by rw [hr.sz]; simpa [Nat.blt_eq] using hn
 have h2 : a.tmps[d]? = some (.bool b) := by
  rw [Array.getD_eq_getD_getElem?] at h1
  rw [Array.getElem?_eq_getElem hlt] at h1 ⊢
  simpa using h1
 have hy : yielded all a.tmps j = some b := by simp [yielded, hj, hd, h2]
 simp only [Region.wanted, h, hy]
 cases b <;> cases want <;> rfl
theorem a3G {all : Array Oper} {o oj : Oper} {j d : Nat} {want b g : Bool} {K : List Nat} (h : o.guard = some (j, want)) (hj : all[j]? = some oj) (hd : oj.dst = some d) (hn : Nat.blt d nt = true) (hv : look σ.tm d = some (.opt g (.one (.dv K (.bool b))))) : Gd P C nt σ all o (g && (b == want)) := Gd.mk fun L a w hr => by
 have h1 := hr.tm d _ hv
 simp only [SVr, CVr, Lay] at h1
 have hlt : d < a.tmps.size := by rw [hr.sz]; simpa [Nat.blt_eq] using hn
 cases g with
 | true =>
  have h2 : a.tmps[d]? = some (.bool b) := by
   have h1 := h1.1 rfl
   rw [Array.getD_eq_getD_getElem?] at h1
   rw [Array.getElem?_eq_getElem hlt] at h1 ⊢
   simpa using h1
  have hy : yielded all a.tmps j = some b := by simp [yielded, hj, hd, h2]
  simp only [Region.wanted, h, hy]
  cases b <;> cases want <;> rfl
 | false =>
  have h2 : a.tmps[d]? = some undef := by
   have h1 := h1.2 rfl
   rw [Array.getD_eq_getD_getElem?] at h1
   rw [Array.getElem?_eq_getElem hlt] at h1 ⊢
   simpa using h1
  have hy : yielded all a.tmps j = none := by simp [yielded, hj, hd, h2, undef]
  simp only [Region.wanted, h, hy]
  rfl
/-! ### operands -/
theorem a0a {t : Nat} {v : SV} (h : look σ.tm t = some v) : Ev P C nt σ (.tmp t) v := Ev.mk fun _ _ _ hr => hr.tm t v h
theorem a0x {t : Nat} {g : Bool} {v : SV} (h : look σ.tm t = some (.opt g v)) (hg : g = true) : Ev P C nt σ (.tmp t) v := Ev.mk fun _ _ _ hr => by
 have h1 := hr.tm t _ h
 simp only [SVr] at h1
 exact h1.1 hg
theorem a0y {k : IntKind} {n : Int} (h : InR k n) : Ev P C nt σ (.const (.int k n)) (.one (.dv [] (.int k n))) := Ev.mk fun _ _ _ _ => by simp only [SVr, CVr, Lay]; exact ⟨rfl, h⟩
theorem a0P {b : Bool} : Ev P C nt σ (.const (.bool b)) (.one (.dv [] (.bool b))) := Ev.mk fun _ _ _ _ => by simp only [SVr, CVr, Lay]; rfl
theorem a0R {s : ByteArray} (h : s.size ≤ 9223372036854775807) : Ev P C nt σ (.const (.string s)) (.one (.dv [] (.str s))) := Ev.mk fun _ _ _ _ => by simp only [SVr, CVr, Lay]; exact ⟨rfl, h⟩
theorem a0O : Ev P C nt σ (.const (.slice none 0 0)) (.one .nil) := Ev.mk fun _ _ _ _ => by simp only [SVr, CVr]; rfl
theorem b2h {x : Operand} {k : Nat} {c : KC} (h : Ev P C nt σ x (.one (.key k))) (hk : lkk σ k = some c) : Ev P C nt σ x (.one (.dv [k] (.sl c.e c.sz c.n c.cs))) := Ev.mk fun L a w hr => by
 have h1 := h.run L a w hr
 simp only [SVr, CVr] at h1 ⊢
 rw [h1]
 exact a4O _ _ _ (hr.ks k c hk).1 (fun b hb => .inr ⟨k, by simp, hb⟩)
theorem b4W {x : Operand} {i : Nat} {d : DV} (h : Ev P C nt σ x (.one (.arg i d))) : Ev P C nt σ x (.one (.dv [] d)) := Ev.mk fun L a w hr => by
 have h1 := h.run L a w hr
 simp only [SVr, CVr] at h1 ⊢
 exact h1.2
theorem a5f {x : Operand} {k o : Nat} {d : DV} (h : Ev P C nt σ x (.one (.nest k o d))) : Ev P C nt σ x (.one (.dv [k] d)) := Ev.mk fun L a w hr => by
 have h1 := h.run L a w hr
 simp only [SVr, CVr] at h1 ⊢
 exact h1.1
end
def a2w : Nat → List SV → List (Nat × SV)
 | _, [] => []
 | i, v :: vs => (i, v) :: a2w (i + 1) vs
def a7r (P : Program) (f : FuncId) (bx0 : List (Nat × TypeId × List CV)) (ks0 : List (Nat × Option KC)) (args : List SV) (Q : SV → St → Prop) : Prop :=
 ∀ (w : World) (S0 : List Nat) (L : Lyt) (vals : List Value), vals.length = args.length →
  Rel P ⟨w, S0, L.rv⟩ args.length L ⟨a2w 0 args, bx0, ks0⟩ ⟨vals.toArray, []⟩ w →
  Calls P f vals.toArray w fun e w' => ∃ r res σ' L', e = .returned r ∧ Q res σ' ∧ Rel P ⟨w, S0, L.rv⟩ 1 L' { σ' with tm := [(0, res)] } ⟨#[r], []⟩ w'
def c0b (P : Program) (f : FuncId) (bx0 : List (Nat × TypeId × List CV)) (ks0 : List (Nat × Option KC)) (args : List SV) (Q : SV → St → Prop) : Prop :=
 ∀ (w : World) (S0 : List Nat) (L : Lyt) (vals : List Value), vals.length = args.length →
  Rel P ⟨w, S0, L.rv⟩ args.length L ⟨a2w 0 args, bx0, ks0⟩ ⟨vals.toArray, []⟩ w →
  Calls P f vals.toArray w fun e w' => ∃ r res σ' L', e = .returned r ∧ Q res σ' ∧ Rel P ⟨w, S0, L.rv⟩ 1 L' { σ' with tm := [(0, res)] } ⟨#[r], []⟩ w' ∧ ∃ nt a, Rel P ⟨w, S0, L.rv⟩ nt L' σ' a w'
def a7y : TypeDesc → Bool
 | .struct _ | .array _ _ => true
 | _ => false
def b0G (P : Program) (ty : TypeId) (n : Nat) : Prop := (∃ d, P.underlying ty = some d ∧ a7y d = true) ∧ (P.info? ty).map (·.size) = some n
def a3z (P : Program) (σ : St) : ResultVar → SV → Prop
 | .tmp t, v => look σ.tm t = some v
 | .cell p ty, v => ∃ b t cs, look σ.tm p = some (.box b 0) ∧ look σ.bx b = some (t, cs) ∧ b0G P ty cs.length ∧ v = .agg cs
def SV.part : SV → Option (Bool × List CV)
 | .one c => some (false, [c])
 | .agg cs => some (true, cs)
 | _ => none
def Fin (P : Program) (rs : List ResultVar) (Post : SV → St → Prop) : Exit → St → Prop
 | .normal, σ | .ret, σ => match rs with
  | [x] => ∃ v, a3z P σ x v ∧ Post v σ
  | [x, y] => ∃ u v p q, a3z P σ x u ∧ a3z P σ y v ∧ u.part = some p ∧ v.part = some q ∧ Post (.tup [p, q]) σ
  | [x, y, z] => ∃ u v t p q s, a3z P σ x u ∧ a3z P σ y v ∧ a3z P σ z t ∧ u.part = some p ∧ v.part = some q ∧ t.part = some s ∧ Post (.tup [p, q, s]) σ
  | _ => False
 | _, _ => False
section
variable {P : Program} {C : Ctx} {nt : Nat} {σ : St}
theorem a7Q : ∀ (args : List SV) (j i : Nat) (v : SV), look (a2w j args) i = some v → j ≤ i ∧ args[i - j]? = some v
 | [], _, _, _, h => by cases h
 | a :: as, j, i, v, h => by
  simp only [a2w, a0Y] at h
  split at h
  ·rename_i e; subst e; simp only [Option.some.injEq] at h; subst h; simp
  ·obtain ⟨h1, h2⟩ := a7Q as (j + 1) i v h
   refine ⟨by omega, ?_⟩
   rw [show i - j = (i - (j + 1)) + 1 by omega]
   simpa using h2
theorem a8g {L : Lyt} {w : World} {v : SV} {r : Value} {p : Bool × List CV} (h : SVr P C L w v r) (hp : v.part = some p) : ∃ us, CVL C L w p.2 us ∧ (if p.1 then r = .agg us.toArray else us = [r]) := by
 cases v with
 | one c =>
  simp only [SV.part, Option.some.injEq] at hp; subst hp
  simp only [SVr] at h
  exact ⟨[r], ⟨r, [], rfl, h, rfl⟩, by simp⟩
 | agg cs =>
  simp only [SV.part, Option.some.injEq] at hp; subst hp
  simp only [SVr] at h
  obtain ⟨us, e, h1⟩ := h
  exact ⟨us, h1, by simp [e]⟩
 | _ => simp [SV.part] at hp
theorem a5O {v : SV} {p : Bool × List CV} (hp : v.part = some p) : p.2.flatMap CV.keys = v.keys := by
 cases v with
 | one c => simp only [SV.part, Option.some.injEq] at hp; subst hp; simp [SV.keys]
 | agg cs => simp only [SV.part, Option.some.injEq] at hp; subst hp; simp [SV.keys]
 | _ => simp [SV.part] at hp
def b3A (tmps : Array Value) : ResultVar → Sem Value
 | .tmp t => pure (tmps.getD t undef)
 | .cell p t => do loadVar t (← asAddr (tmps.getD p undef))
theorem b2q (fn : Func) (tmps : Array Value) : results fn tmps = (do
  let vs ← fn.results.mapM (b3A tmps)
  pure (if h : vs.size = 1 then vs[0] else .tuple vs)) := rfl
theorem c0a {w : World} {g : Nat} {t ty : TypeId} {cs : Array Value} {fr : Nat × Nat} (hg : w.heap[g]? = some (.cells cs t fr)) (h : b0G P ty cs.size) : (loadVar ty ⟨g, 0, none⟩).run P w = .ok (.agg cs) w := by
 obtain ⟨⟨d, h3, h4⟩, h5⟩ := h
 exact run_loadVar_row w g t ty cs fr d hg h3 (by cases d <;> first | rfl | cases h4) h5
theorem a8w {L : Lyt} {a : Act} {w : World} (hr : Rel P C nt L σ a w) {x : ResultVar} {v : SV} (h : a3z P σ x v) : ∃ r, SVr P C L w v r ∧ (∀ k ∈ v.keys, (lkk σ k).isSome = true) ∧ (∀ b ∈ v.boxes, (look σ.bx b).isSome = true) ∧
  (b3A a.tmps x).run P w = .ok r w := by
 cases x with
 | tmp t =>
  simp only [a3z] at h
  exact ⟨_, hr.tm t v h, fun k hk => hr.lk k (a7S h k hk), fun b hb => hr.lb b (b5L h b hb), rfl⟩
 | cell p ty =>
  simp only [a3z] at h
  obtain ⟨b, t, cs, h1, h2, h3, rfl⟩ := h
  obtain ⟨vs, h6, h7⟩ := hr.bx b t cs h2
  have h8 := hr.tm p _ h1
  simp only [SVr] at h8
  have hl := a3f h7
  refine ⟨.agg vs.toArray, by simp only [SVr]; exact ⟨vs, rfl, h7⟩, fun k hk => hr.lk k (a8G h2 k hk), by simp [SV.boxes], ?_⟩
  simp only [b3A, h8, asAddr, Sem.run_bind, Sem.run_pure, Result.andThen_ok]
  exact c0a h6 (by rw [List.size_toArray, hl]; exact h3)
theorem c0K {f : FuncId} {fn : Func} {c : Code} {rs : List ResultVar} {bx0 : List (Nat × TypeId × List CV)} {ks0 : List (Nat × Option KC)} {args : List SV} {Post : SV → St → Prop} (hf : P.funcs[f]? = some fn) (hb : fn.body = some c) (hn : fn.ntmps = nt) (hrs : fn.results = rs.toArray) (hl : Nat.ble args.length nt = true)
  (h : ∀ C, Ok P C nt (Fin P rs Post) c ⟨a2w 0 args, bx0, ks0⟩) : c0b P f bx0 ks0 args Post := by
 intro w S0 L vals hlen hr
 refine calls_of_wp hf hb ?_
 have hl' : args.length ≤ nt := by simpa [Nat.ble_eq] using hl
 have hr' : Rel P ⟨w, S0, L.rv⟩ nt L ⟨a2w 0 args, bx0, ks0⟩ ⟨vals.toArray ++ Array.replicate (fn.ntmps - vals.toArray.size) undef, []⟩ w := {
  df := rfl
  sz := by simp [hn, hlen]; omega
  tm := fun i v hv => by
   have h1 := hr.tm i v hv
   obtain ⟨_, h2⟩ := a7Q args 0 i v hv
   have h3 : i < vals.toArray.size := by simp [hlen]; exact (List.getElem?_eq_some_iff.1 h2).1
   rw [Array.getD_eq_getD_getElem?] at h1 ⊢
   rwa [Array.getElem?_append_left h3]
  bx := hr.bx, ks := hr.ks, b1 := hr.b1, k1 := hr.k1, kn := hr.kn, bb := hr.bb, bk := hr.bk, kk := hr.kk, lk := hr.lk, lb := hr.lb, s0 := hr.s0, chg := hr.chg }
 refine wp_mono ((h ⟨w, S0, L.rv⟩).run L _ w hr') ?_
 intro e a w' hq
 have fin : ∀ (σ : St) (L' : Lyt) (v : SV) (r : Value), Rel P ⟨w, S0, L.rv⟩ nt L' σ a w' → SVr P ⟨w, S0, L.rv⟩ L' w' v r → (∀ k ∈ v.keys, (lkk σ k).isSome = true) → (∀ b ∈ v.boxes, (look σ.bx b).isSome = true) → Rel P ⟨w, S0, L.rv⟩ 1 L' { σ with tm := [(0, v)] } ⟨#[r], []⟩ w' := fun σ L' v r hr hv hk hb => {
  df := rfl
  sz := rfl
  tm := fun i u hu => by
   simp only [a0Y] at hu
   split at hu
   ·rename_i e; subst e; simp only [Option.some.injEq] at hu; subst hu; exact hv
   ·cases hu
  bx := hr.bx, ks := hr.ks, b1 := hr.b1, k1 := hr.k1, kn := hr.kn, bb := hr.bb, bk := hr.bk, kk := hr.kk
  lk := fun k hm => by
   simp only [St.tk, List.flatMap_cons, List.flatMap_nil, List.append_nil, List.mem_append] at hm
   rcases hm with hm | hm
   ·exact hk k hm
   ·exact hr.lk k (by simp only [St.tk, List.mem_append]; exact .inr hm)
  lb := fun b hm => by
   simp only [St.tb, List.flatMap_cons, List.flatMap_nil, List.append_nil] at hm
   exact hb b hm
  s0 := hr.s0, chg := hr.chg }
 have key : ∀ σ L', Rel P ⟨w, S0, L.rv⟩ nt L' σ a w' → Fin P rs Post .ret σ → a.defers = [] ∧ ∃ v, (results fn a.tmps).run P w' = .ok v w' ∧
   ∃ r res σ' L', Ending.returned v = .returned r ∧ Post res σ' ∧ Rel P ⟨w, S0, L.rv⟩ 1 L' { σ' with tm := [(0, res)] } ⟨#[r], []⟩ w' ∧ ∃ nt a, Rel P ⟨w, S0, L.rv⟩ nt L' σ' a w' := by
  intro σ L' hr hF
  refine ⟨hr.df, ?_⟩
  match rs, hrs, hF with
  | [x], hrs, ⟨v, h1, h2⟩ =>
   obtain ⟨r, g1, g2, g3, g4⟩ := a8w hr h1
   refine ⟨r, ?_, r, v, σ, L', rfl, h2, fin σ L' v r hr g1 g2 g3, nt, a, hr⟩
   simp [b2q, hrs, g4]
  | [x, y], hrs, ⟨u, v, p, q, h1, h2, h3, h4, h5⟩ =>
   obtain ⟨r1, g1, g2, g3, g4⟩ := a8w hr h1
   obtain ⟨r2, k1, k2, k3, k4⟩ := a8w hr h2
   obtain ⟨us, e1, e2⟩ := a8g g1 h3
   obtain ⟨vs, f1, f2⟩ := a8g k1 h4
   refine ⟨.tuple #[r1, r2], ?_, _, .tup [p, q], σ, L', rfl, h5, fin σ L' _ _ hr ?_ ?_ (by simp [SV.boxes]), nt, a, hr⟩
   ·simp [b2q, hrs, g4, k4]
   ·simp only [SVr]
    exact ⟨[r1, r2], rfl, us, r1, [r2], rfl, e1, e2, vs, r2, [], rfl, f1, f2, rfl⟩
   ·intro k hk
    simp only [SV.keys, List.flatMap_cons, List.flatMap_nil, List.append_nil, List.mem_append, a5O h3, a5O h4] at hk
    rcases hk with hk | hk
    ·exact g2 k hk
    ·exact k2 k hk
  | [x, y, z], hrs, ⟨u, v, t, p, q, s, h1, h2, h0, h3, h4, h6, h5⟩ =>
   obtain ⟨r1, g1, g2, g3, g4⟩ := a8w hr h1
   obtain ⟨r2, k1, k2, k3, k4⟩ := a8w hr h2
   obtain ⟨r3, l1, l2, l3, l4⟩ := a8w hr h0
   obtain ⟨us, e1, e2⟩ := a8g g1 h3
   obtain ⟨vs, f1, f2⟩ := a8g k1 h4
   obtain ⟨ts, j1, j2⟩ := a8g l1 h6
   refine ⟨.tuple #[r1, r2, r3], ?_, _, .tup [p, q, s], σ, L', rfl, h5, fin σ L' _ _ hr ?_ ?_ (by simp [SV.boxes]), nt, a, hr⟩
   ·simp [b2q, hrs, g4, k4, l4]
   ·simp only [SVr]
    exact ⟨[r1, r2, r3], rfl, us, r1, [r2, r3], rfl, e1, e2, vs, r2, [r3], rfl, f1, f2, ts, r3, [], rfl, j1, j2, rfl⟩
   ·intro k hk
    simp only [SV.keys, List.flatMap_cons, List.flatMap_nil, List.append_nil, List.mem_append, a5O h3, a5O h4, a5O h6] at hk
    rcases hk with hk | hk | hk
    ·exact g2 k hk
    ·exact k2 k hk
    ·exact l2 k hk
 cases e with
 | normal => obtain ⟨L', σ, h1, h2⟩ := hq; exact key σ L' h1 h2
 | ret => obtain ⟨L', σ, h1, h2⟩ := hq; exact key σ L' h1 h2
 | exit => obtain ⟨L', σ, h1, h2⟩ := hq; exact h2.elim
 | goto => obtain ⟨L', σ, h1, h2⟩ := hq; exact h2.elim
 | panic => exact hq.elim
 | outgrown => exact hq.elim
theorem a0u {f : FuncId} {fn : Func} {c : Code} {rs : List ResultVar} {bx0 : List (Nat × TypeId × List CV)} {ks0 : List (Nat × Option KC)} {args : List SV} {Post : SV → St → Prop} (hf : P.funcs[f]? = some fn) (hb : fn.body = some c) (hn : fn.ntmps = nt) (hrs : fn.results = rs.toArray) (hl : Nat.ble args.length nt = true)
  (h : ∀ C, Ok P C nt (Fin P rs Post) c ⟨a2w 0 args, bx0, ks0⟩) : a7r P f bx0 ks0 args Post := fun w S0 L vals hlen hr =>
 (c0K hf hb hn hrs hl h w S0 L vals hlen hr).mono fun _ _ ⟨r, res, σ', L', h1, h2, h3, _⟩ => ⟨r, res, σ', L', h1, h2, h3⟩
end
/-! ### arguments -/
def a2F (σ : St) : CV → CV → Prop
 | .dv _ d, u => u = .dv [] d
 | .nest _ _ d, u => u = .dv [] d
 | .arg _ d, u => u = .dv [] d
 | .key k, u => ∃ c e', lkk σ k = some c ∧ u = .dv [] (.sl e' c.sz c.n c.cs)
 | .nil, u => ∃ e sz, 0 < sz ∧ u = .dv [] (.sl e sz 0 [])
 | .any, u => u = .any
def a5z (σ : St) : List CV → List CV → Prop
 | [], us => us = []
 | c :: cs, us => ∃ u us', us = u :: us' ∧ a2F σ c u ∧ a5z σ cs us'
def a4s (σ : St) : List Nat → List (List DV) → Prop
 | [], dss => dss = []
 | b :: bs, dss => ∃ ds dss' t, dss = ds :: dss' ∧ look σ.bx b = some (t, ds.map (CV.dv [])) ∧ a4s σ bs dss'
def a4l (σ : St) : SV → SV → Prop
 | .one c, u => ∃ c', a2F σ c c' ∧ u = .one c'
 | .agg cs, u => ∃ cs', a5z σ cs cs' ∧ u = .agg cs'
 | .ref _ ds, u => u = .ref [] ds
 | .fn f caps, u => u = .fn f caps
 | .clo f bs, u => ∃ caps, a4s σ bs caps ∧ u = .fn f caps
 | _, _ => False
def a2t (P : Program) (C : Ctx) (nt : Nat) (σ : St) : List Operand → List SV → Prop
 | [], us => us = []
 | x :: xs, us => ∃ v u us', us = u :: us' ∧ Ev P C nt σ x v ∧ a4l σ v u ∧ a2t P C nt σ xs us'
section
variable {P : Program} {C : Ctx} {nt : Nat} {σ : St} {L : Lyt} {a : Act} {w : World}
theorem b0Q {ok : Nat → Prop} {d : DV} {v : Value} (L' : Lyt) (h : Lay ok w d v) : Lay (okB ⟨w, [], L'.rv⟩ L' []) w d v := a8y (fun b hb _ => ⟨.inl ⟨hb, by simp⟩, rfl⟩) d v h
theorem b1s {ok : Nat → Prop} {ds : List DV} {vs : List Value} (L' : Lyt) (h : a1n ok w ds vs) : a1n (okB ⟨w, [], L'.rv⟩ L' []) w ds vs := a6O (fun b hb _ => ⟨.inl ⟨hb, by simp⟩, rfl⟩) ds vs h
theorem a9G (hr : Rel P C nt L σ a w) (L' : Lyt) {c u : CV} {v : Value} (h : a2F σ c u) (hv : CVr C L w c v) : CVr ⟨w, [], L'.rv⟩ L' w u v ∧ u.keys = [] := by
 cases c with
 | dv K d => simp only [a2F] at h; subst h; exact ⟨b0Q L' hv, rfl⟩
 | nest k o d => simp only [a2F] at h; subst h; exact ⟨b0Q L' hv.1, rfl⟩
 | arg i d => simp only [a2F] at h; subst h; exact ⟨b0Q L' hv.2, rfl⟩
 | key k =>
  simp only [a2F] at h
  obtain ⟨c, e', h1, rfl⟩ := h
  simp only [CVr] at hv
  subst hv
  have h2 := a4O (ok := fun _ => True) _ _ _ (hr.ks k c h1).1 (fun _ _ => trivial)
  have h3 : Lay (fun _ => True) w (.sl e' c.sz c.n c.cs) (L.rv k) := by
   simp only [Lay] at h2 ⊢
   exact h2
  exact ⟨b0Q L' h3, rfl⟩
 | nil =>
  simp only [a2F] at h
  obtain ⟨e, sz, h1, rfl⟩ := h
  simp only [CVr] at hv
  subst hv
  simp only [CVr, Lay]
  exact ⟨⟨none, 0, [], rfl, Nat.le_refl _, by simp [maxLen], h1, by simp, by simp [a1n], fun h => by omega⟩, rfl⟩
 | any => simp only [a2F] at h; subst h; exact ⟨hv, rfl⟩
theorem b6a (hr : Rel P C nt L σ a w) (L' : Lyt) : ∀ {cs us : List CV} {vs : List Value}, a5z σ cs us → CVL C L w cs vs → CVL ⟨w, [], L'.rv⟩ L' w us vs ∧ us.flatMap CV.keys = []
 | [], _, _, h, hv => by simp only [a5z] at h; subst h; exact ⟨hv, rfl⟩
 | c :: cs, _, _, ⟨u, us', e, h1, h2⟩, ⟨v, vs', e', h3, h4⟩ => by
  subst e; subst e'
  obtain ⟨g1, g2⟩ := a9G hr L' h1 h3
  obtain ⟨k1, k2⟩ := b6a hr L' h2 h4
  exact ⟨⟨v, vs', rfl, g1, k1⟩, by simp only [List.flatMap_cons, g2, k2, List.append_nil]⟩
theorem b9u {ds : List DV} {r : Value} (L' : Lyt) (hv : a8k C L w ds r) : a8k ⟨w, [], L'.rv⟩ L' w ds r := by
 obtain ⟨b, off, vs, e, h1, h2, h3⟩ := hv
 refine ⟨b, off, vs, e, fun hvs => ?_, b1s L' h2, h3⟩
 have hlt : b < w.heap.size := a5E (h3 0 _ (List.getElem?_eq_getElem (List.length_pos_iff.2 hvs)))
 exact .inl ⟨hlt, by simp⟩
theorem b2n (L' : Lyt) : ∀ {dss : List (List DV)} {vs : List Value}, a4Y C L w dss vs → a4Y ⟨w, [], L'.rv⟩ L' w dss vs
 | [], _, h => h
 | ds :: dss, _, ⟨v, vs', e, h1, h2⟩ => ⟨v, vs', e, b9u L' h1, b2n L' h2⟩
theorem b6v {ds : List DV} : ∀ {vs : List Value}, CVL C L w (ds.map (CV.dv [])) vs → a1n (okB C L []) w ds vs := by
 induction ds with
 | nil => intro vs h; simpa [CVL, a1n] using h
 | cons d ds ih =>
  intro vs h
  simp only [List.map_cons, CVL] at h
  obtain ⟨v, vs', e, h1, h2⟩ := h
  exact ⟨v, vs', e, h1, ih h2⟩
theorem b7b (hr : Rel P C nt L σ a w) (L' : Lyt) : ∀ {bs : List Nat} {dss : List (List DV)}, a4s σ bs dss → a4Y ⟨w, [], L'.rv⟩ L' w dss (bs.map fun b => Value.pointer (some ⟨L.bb b, 0, none⟩))
 | [], _, h => by simp only [a4s] at h; subst h; rfl
 | b :: bs, _, ⟨ds, dss', t, e, h1, h2⟩ => by
  subst e
  obtain ⟨vs, h3, h4⟩ := hr.bx b t _ h1
  refine ⟨_, _, rfl, ⟨L.bb b, 0, vs, rfl, fun _ => .inl ⟨?_, by simp⟩, b1s L' (b6v h4), fun j u hu => ?_⟩, b7b hr L' h2⟩
  ·exact a6a h3
  ·rw [Nat.zero_add, cell_of_row w _ j vs.toArray t (0, 0) h3]
   simpa using hu
theorem b9v (hr : Rel P C nt L σ a w) (L' : Lyt) {v u : SV} {r : Value} (h : a4l σ v u) (hv : SVr P C L w v r) : SVr P ⟨w, [], L'.rv⟩ L' w u r ∧ u.keys = [] ∧ u.boxes = [] := by
 cases v with
 | one c =>
  simp only [a4l] at h
  obtain ⟨c', h1, rfl⟩ := h
  simp only [SVr] at hv ⊢
  obtain ⟨g1, g2⟩ := a9G hr L' h1 hv
  exact ⟨g1, by simpa [SV.keys] using g2, rfl⟩
 | agg cs =>
  simp only [a4l] at h
  obtain ⟨cs', h1, rfl⟩ := h
  simp only [SVr] at hv ⊢
  obtain ⟨vs, e, h2⟩ := hv
  obtain ⟨g1, g2⟩ := b6a hr L' h1 h2
  exact ⟨⟨vs, e, g1⟩, by simpa only [SV.keys] using g2, rfl⟩
 | ref K ds =>
  simp only [a4l] at h
  subst h
  simp only [SVr] at hv ⊢
  obtain ⟨b, off, vs, e, h1, h2, h3⟩ := hv
  refine ⟨⟨b, off, vs, e, fun hvs => ?_, b1s L' h2, h3⟩, rfl, rfl⟩
  have hlt : b < w.heap.size := a5E (h3 0 _ (List.getElem?_eq_getElem (List.length_pos_iff.2 hvs)))
  exact .inl ⟨hlt, by simp⟩
 | fn f caps =>
  simp only [a4l] at h
  subst h
  simp only [SVr] at hv ⊢
  obtain ⟨vs, e, h1⟩ := hv
  exact ⟨⟨vs, e, b2n L' h1⟩, rfl, rfl⟩
 | clo f bs =>
  simp only [a4l] at h
  obtain ⟨caps, h1, rfl⟩ := h
  simp only [SVr] at hv ⊢
  exact ⟨⟨_, hv, b7b hr L' h1⟩, rfl, rfl⟩
 | _ => simp only [a4l] at h
end
def CV.plain : CV → Bool
 | .dv K d => K.isEmpty && d.plain
 | _ => false
def SV.plain : SV → Bool
 | .one c => c.plain
 | .agg cs => cs.all CV.plain
 | .tup ts => ts.all fun t => t.2.all CV.plain
 | _ => false
def CV.retOk : CV → Bool
 | .dv K d => K.isEmpty && d.plain
 | .key _ => true
 | .any => true
 | _ => false
def SV.retOk : SV → Bool
 | .one c => c.retOk
 | .agg cs => cs.all CV.retOk
 | .tup ts => ts.all fun t => t.2.all CV.retOk
 | _ => false
def CV.sh (m : Nat) : CV → CV
 | .key k => .key (m + k)
 | c => c
def SV.sh (m : Nat) : SV → SV
 | .one c => .one (c.sh m)
 | .agg cs => .agg (cs.map (CV.sh m))
 | .tup ts => .tup (ts.map fun t => (t.1, t.2.map (CV.sh m)))
 | v => v
def KC.old (c : KC) : KC := { c with h := false }
def shK (m : Nat) (kk : List (Nat × Option KC)) : List (Nat × Option KC) := kk.map fun p => (m + p.1, p.2.map KC.old)
section
variable {P : Program} {C C' : Ctx} {nt : Nat} {σ : St} {L L' : Lyt} {a : Act} {w w' : World}
theorem b2G {ok ok' : Nat → Prop} {d : DV} {v : Value} (hp : d.plain = true) (h : Lay ok w d v) : Lay ok' w' d v := a4O _ _ _ (a8u (w' := w') hp h) (by simp)
theorem b2C {c : CV} {v : Value} {m : Nat} (hp : c.retOk = true) (hk : ∀ k ∈ c.keys, L.rv (m + k) = L'.rv k) (h : CVr C' L' w' c v) : CVr C L w' (c.sh m) v := by
 cases c with
 | dv K d =>
  simp only [CV.retOk, Bool.and_eq_true] at hp
  exact b2G hp.2 h
 | key k => simp only [CVr, CV.sh] at h ⊢; rw [h, hk k (by simp [CV.keys])]
 | any => exact h
 | _ => simp [CV.retOk] at hp
theorem b2T {m : Nat} : ∀ {cs : List CV} {vs : List Value}, cs.all CV.retOk = true → (∀ k ∈ cs.flatMap CV.keys, L.rv (m + k) = L'.rv k) → CVL C' L' w' cs vs → CVL C L w' (cs.map (CV.sh m)) vs
 | [], _, _, _, h => h
 | c :: cs, _, hp, hk, ⟨v, vs', e, h1, h2⟩ => by
  simp only [List.all_cons, Bool.and_eq_true] at hp
  exact ⟨v, vs', e, b2C hp.1 (fun k hm => hk k (by simp only [List.flatMap_cons, List.mem_append]; exact .inl hm)) h1, b2T hp.2 (fun k hm => hk k (by simp only [List.flatMap_cons, List.mem_append]; exact .inr hm)) h2⟩
theorem b5i {m : Nat} : ∀ {ts : List (Bool × List CV)} {vs : List Value}, (ts.all fun t => t.2.all CV.retOk) = true → (∀ k ∈ ts.flatMap (fun t => t.2.flatMap CV.keys), L.rv (m + k) = L'.rv k) → TVL C' L' w' ts vs → TVL C L w' (ts.map fun t => (t.1, t.2.map (CV.sh m))) vs
 | [], _, _, _, h => h
 | (g, cs) :: ts, _, hp, hk, ⟨us, v, vs', e, h1, h2, h3⟩ => by
  simp only [List.all_cons, Bool.and_eq_true] at hp
  exact ⟨us, v, vs', e, b2T hp.1 (fun k hm => hk k (by simp only [List.flatMap_cons, List.mem_append]; exact .inl hm)) h1, h2, b5i hp.2 (fun k hm => hk k (by simp only [List.flatMap_cons, List.mem_append]; exact .inr hm)) h3⟩
theorem a9Q {v : SV} {r : Value} {m : Nat} (hp : v.retOk = true) (hk : ∀ k ∈ v.keys, L.rv (m + k) = L'.rv k) (h : SVr P C' L' w' v r) : SVr P C L w' (v.sh m) r := by
 cases v with
 | one c => simp only [SVr, SV.sh] at h ⊢; exact b2C hp hk h
 | agg cs => simp only [SVr, SV.sh] at h ⊢; obtain ⟨vs, e, h1⟩ := h; exact ⟨vs, e, b2T hp hk h1⟩
 | tup ts => simp only [SVr, SV.sh] at h ⊢; obtain ⟨vs, e, h1⟩ := h; exact ⟨vs, e, b5i hp hk h1⟩
 | _ => simp [SV.retOk] at hp
theorem b0f {c : CV} (h : c.plain = true) : c.retOk = true ∧ c.keys = [] ∧ ∀ m, c.sh m = c := by
 cases c with
 | dv K d =>
  simp only [CV.plain, Bool.and_eq_true, List.isEmpty_iff] at h
  obtain ⟨rfl, h⟩ := h
  exact ⟨by simp [CV.retOk, h], rfl, fun _ => rfl⟩
 | _ => simp [CV.plain] at h
theorem b3y : ∀ {cs : List CV}, cs.all CV.plain = true → cs.all CV.retOk = true ∧ cs.flatMap CV.keys = [] ∧ ∀ m, cs.map (CV.sh m) = cs
 | [], _ => ⟨rfl, rfl, fun _ => rfl⟩
 | c :: cs, h => by
  simp only [List.all_cons, Bool.and_eq_true] at h
  obtain ⟨h1, h2, h3⟩ := b0f h.1
  obtain ⟨k1, k2, k3⟩ := b3y h.2
  exact ⟨by simp [h1, k1], by simp [h2, k2], fun m => by simp [h3 m, k3 m]⟩
theorem a8q {v : SV} (h : v.plain = true) : v.retOk = true ∧ v.keys = [] ∧ v.boxes = [] ∧ ∀ m, v.sh m = v := by
 cases v with
 | one c => obtain ⟨h1, h2, h3⟩ := b0f h; exact ⟨h1, h2, rfl, fun m => by simp [SV.sh, h3 m]⟩
 | agg cs => obtain ⟨h1, h2, h3⟩ := b3y h; exact ⟨h1, h2, rfl, fun m => by simp [SV.sh, h3 m]⟩
 | tup ts =>
  simp only [SV.plain] at h
  have : (ts.all fun t => t.2.all CV.retOk) = true ∧ (ts.flatMap fun t => t.2.flatMap CV.keys) = [] ∧ ∀ m, (ts.map fun t => (t.1, t.2.map (CV.sh m))) = ts := by
   induction ts with
   | nil => exact ⟨rfl, rfl, fun _ => rfl⟩
   | cons t ts ih =>
    simp only [List.all_cons, Bool.and_eq_true] at h
    obtain ⟨h1, h2, h3⟩ := b3y h.1
    obtain ⟨k1, k2, k3⟩ := ih h.2
    exact ⟨by simp [h1, k1], by simp [h2, k2], fun m => by simp [h3 m, k3 m]⟩
  exact ⟨this.1, this.2.1, rfl, fun m => by simp [SV.sh, this.2.2 m]⟩
 | _ => simp [SV.plain] at h
theorem b0M {m : Nat} : ∀ {cs : List CV}, cs.all CV.retOk = true → (cs.map (CV.sh m)).flatMap CV.keys = (cs.flatMap CV.keys).map (m + ·)
 | [], _ => rfl
 | c :: cs, h => by
  simp only [List.all_cons, Bool.and_eq_true] at h
  have h1 : (c.sh m).keys = c.keys.map (m + ·) := by
   cases c with
   | dv K d => simp only [CV.retOk, Bool.and_eq_true, List.isEmpty_iff] at h; obtain ⟨⟨rfl, _⟩, _⟩ := h; rfl
   | key k => rfl
   | any => rfl
   | _ => simp [CV.retOk] at h
  simp only [List.map_cons, List.flatMap_cons, List.map_append, h1, b0M h.2]
theorem b6e {m : Nat} {v : SV} (h : v.retOk = true) : (v.sh m).keys = v.keys.map (m + ·) ∧ (v.sh m).boxes = [] := by
 cases v with
 | one c =>
  have := b0M (m := m) (cs := [c]) (by simpa [SV.retOk] using h)
  simpa [SV.sh, SV.keys, SV.boxes] using this
 | agg cs => exact ⟨b0M h, rfl⟩
 | tup ts =>
  refine ⟨?_, rfl⟩
  simp only [SV.retOk] at h
  simp only [SV.sh, SV.keys]
  induction ts with
  | nil => rfl
  | cons t ts ih =>
   simp only [List.all_cons, Bool.and_eq_true] at h
   simp only [List.map_cons, List.flatMap_cons, List.map_append, b0M h.1]
   congr 1
   exact ih h.2
 | _ => simp [SV.retOk] at h
theorem a9L {α : Type} (l1 l2 : List (Nat × α)) (i : Nat) : look (l1 ++ l2) i = (look l1 i).or (look l2 i) := by
 induction l1 with
 | nil => rfl
 | cons p l ih =>
  obtain ⟨k, v⟩ := p
  rw [List.cons_append, a0Y, a0Y]
  split
  ·rfl
  ·exact ih
theorem b5z (m : Nat) (kk : List (Nat × Option KC)) (k : Nat) : look (shK m kk) (m + k) = (look kk k).map (Option.map KC.old) := by
 induction kk with
 | nil => rfl
 | cons p l ih =>
  obtain ⟨j, v⟩ := p
  simp only [shK, List.map_cons, a0Y] at ih ⊢
  by_cases h : k = j
  ·simp [h]
  ·have : ¬ m + k = m + j := by omega
   simp only [h, this, if_false]
   exact ih
theorem b6H (m : Nat) (kk : List (Nat × Option KC)) (j : Nat) (h : ∀ p ∈ kk, m + p.1 ≠ j) : look (shK m kk) j = none := by
 induction kk with
 | nil => rfl
 | cons p l ih =>
  obtain ⟨k, v⟩ := p
  simp only [shK, List.map_cons, a0Y] at ih ⊢
  have := h (k, v) (by simp)
  rw [if_neg (by intro e; exact this e.symm)]
  exact ih (fun p hp => h p (by simp [hp]))
theorem a8j (hr : Rel P C nt L σ a w) (L0 : Lyt) : ∀ (xs : List Operand) (us : List SV), a2t P C nt σ xs us →
  us.length = xs.length ∧ (∀ (i : Nat) u, us[i]? = some u → ∃ x, xs[i]? = some x ∧ SVr P ⟨w, [], L0.rv⟩ L0 w u (a.eval x) ∧ u.keys = [] ∧ u.boxes = [])
 | [], _, h => by simp only [a2t] at h; subst h; exact ⟨rfl, fun i u hu => by simp at hu⟩
 | x :: xs, _, ⟨v, u, us', e, h1, h2, h3⟩ => by
  subst e
  obtain ⟨k1, k2⟩ := a8j hr L0 xs us' h3
  refine ⟨by simp [k1], fun i u' hu => ?_⟩
  cases i with
  | zero => simp at hu; subst hu; exact ⟨x, rfl, b9v hr L0 h2 (h1.run L a w hr)⟩
  | succ i => simp at hu; simpa using k2 i u' hu
theorem b0d : ∀ (us : List SV) (j : Nat), (∀ u ∈ us, u.keys = [] ∧ u.boxes = []) → ((a2w j us).flatMap fun p => p.2.keys) = [] ∧ ((a2w j us).flatMap fun p => p.2.boxes) = []
 | [], _, _ => ⟨rfl, rfl⟩
 | u :: us, j, h => by
  obtain ⟨h1, h2⟩ := b0d us (j + 1) (fun u hu => h u (by simp [hu]))
  have := h u (by simp)
  simp [a2w, this.1, this.2, h1, h2]
theorem b5f (hr : Rel P C nt L σ a w) {xs : List Operand} {us : List SV} (h : a2t P C nt σ xs us) : Rel P ⟨w, [], L.rv⟩ us.length L ⟨a2w 0 us, [], []⟩ ⟨(xs.map a.eval).toArray, []⟩ w := by
 obtain ⟨h1, h2⟩ := a8j hr L xs us h
 have h3 : ∀ u ∈ us, u.keys = [] ∧ u.boxes = [] := fun u hu => by
  obtain ⟨i, hi⟩ := List.mem_iff_getElem?.1 hu
  obtain ⟨_, _, _, h4⟩ := h2 i u hi
  exact h4
 obtain ⟨t1, t2⟩ := b0d us 0 h3
 exact {
  df := rfl
  sz := by simp [h1]
  tm := fun i v hv => by
   obtain ⟨_, h4⟩ := a7Q us 0 i v hv
   obtain ⟨x, h5, h6, _⟩ := h2 i v (by simpa using h4)
   have : (List.map a.eval xs).toArray.getD i undef = a.eval x := by simp [Array.getD_eq_getD_getElem?, h5]
   rw [this]; exact h6
  bx := fun i t cs h => by cases h
  ks := fun k c h => by cases h
  b1 := fun i x h => by cases h
  k1 := fun k c h => by cases h
  kn := fun k c h => by cases h
  bb := fun i j x y h => by cases h
  bk := fun i k x c h => by cases h
  kk := fun k j c d h => by cases h
  lk := fun k hk => by simp only [St.tk, t1, List.flatMap_nil, List.append_nil] at hk; cases hk
  lb := fun b hb => by simp only [St.tb, t2] at hb; cases hb
  s0 := fun b hb => by cases hb
  chg := Chg.refl _ _ }
theorem Rel.ret0 {C' : Ctx} {B0 : Nat} (hg : Rel P C nt L σ a w') {res : SV} {r : Value} {bx' : List (Nat × TypeId × List CV)} {kk : List (Nat × Option KC)} (h' : Rel P C' 1 L' ⟨[(0, res)], bx', kk⟩ ⟨#[r], []⟩ w') (m : Nat)
  (hfree : ∀ p ∈ kk, lkk σ (m + p.1) = none) (hres : res.retOk = true) {d : Nat} (hd : d < nt) (hB0 : C.w0.heap.size ≤ B0) (hkl : ∀ k c, lkk σ k = some c → ∀ b ∈ L.fp k, b < B0) (hbl : ∀ i x, look σ.bx i = some x → L.bb i < B0)
  (hblk : ∀ k c', lkk ⟨[(0, res)], bx', kk⟩ k = some c' → ∀ b ∈ L'.fp k, B0 ≤ b) :
  ∃ L'', Rel P C nt L'' ({ σ with ks := shK m kk ++ σ.ks }.put d (res.sh m)) (a.put (some d) r) w' ∧ (∀ k c, lkk σ k = some c → L''.fp k = L.fp k) ∧ ∀ i, L''.bb i = L.bb i := by
 classical
 have hmem : ∀ {k x}, look kk k = some x → (∃ p ∈ kk, m + p.1 = m + k) := fun hx => ⟨_, a3q hx, rfl⟩
 let new : Nat → Prop := fun j => ∃ p ∈ kk, m + p.1 = j
 let L'' : Lyt := { bb := L.bb, fp := fun j => if new j then L'.fp (j - m) else L.fp j, rv := fun j => if new j then L'.rv (j - m) else L.rv j }
 have hnn : ∀ j c, lkk σ j = some c → ¬ new j := fun j c hc ⟨p, hp, e⟩ => by
  have := hfree p hp
  rw [e, hc] at this
  cases this
 have hl : ∀ j c, lkk { σ with ks := shK m kk ++ σ.ks } j = some c → (∃ k c', j = m + k ∧ lkk ⟨[(0, res)], bx', kk⟩ k = some c' ∧ c = c'.old ∧ new j) ∨ (lkk σ j = some c ∧ ¬ new j) := by
  intro j c hc
  by_cases hn : new j
  ·obtain ⟨p, hp, e⟩ := hn
   left
   refine ⟨p.1, ?_⟩
   simp only [lkk, a9L, ← e, b5z] at hc
   cases hx : look kk p.1 with
   | none =>
    exfalso
    rw [hx] at hc
    simp only [Option.map_none, Option.none_or] at hc
    have := hfree p hp
    simp only [lkk] at this
    rw [this] at hc; cases hc
   | some x =>
    rw [hx] at hc
    cases x with
    | none => simp at hc
    | some c' =>
     simp at hc
     exact ⟨c', e.symm, by simp [lkk, hx], hc.symm, ⟨p, hp, e⟩⟩
  ·right
   refine ⟨?_, hn⟩
   simp only [lkk, a9L] at hc ⊢
   rw [b6H m kk j (fun p hp e => hn ⟨p, hp, e⟩)] at hc
   simpa using hc
 have hlive : ∀ j, (lkk σ j).isSome = true → (lkk { σ with ks := shK m kk ++ σ.ks } j).isSome = true := by
  intro j hj
  obtain ⟨c, hc⟩ := c5r.1 hj
  simp only [lkk, a9L]
  rw [b6H m kk j (fun p hp e => hnn j c hc ⟨p, hp, e⟩)]
  simpa [lkk] using hj
 have hlive' : ∀ k, (lkk ⟨[(0, res)], bx', kk⟩ k).isSome = true → (lkk { σ with ks := shK m kk ++ σ.ks } (m + k)).isSome = true := by
  intro k hk
  obtain ⟨c, hc⟩ := c5r.1 hk
  simp only [lkk] at hc
  cases hx : look kk k with
  | none => rw [hx] at hc; cases hc
  | some x =>
   rw [hx] at hc
   simp only [Option.join_some] at hc
   subst hc
   simp [lkk, a9L, b5z, hx]
 have hK : ∀ ks, (∀ j ∈ ks, (lkk σ j).isSome = true) → Keeps2 C L L'' w' w' ks := fun ks hs =>
  ⟨fun j hj => by
   obtain ⟨c, hc⟩ := c5r.1 (hs j hj)
   have := hnn j c hc
   exact ⟨if_neg this, if_neg this, fun _ _ _ => rfl⟩, fun b _ _ => rfl⟩
 have hnew : ∀ k c', lkk ⟨[(0, res)], bx', kk⟩ k = some c' → new (m + k) := fun k c' hc => by
  simp only [lkk] at hc
  cases hx : look kk k with
  | none => rw [hx] at hc; cases hc
  | some x => exact hmem hx
 have hkey : ∀ k, new (m + k) → L''.fp (m + k) = L'.fp k ∧ L''.rv (m + k) = L'.rv k := fun k hn => by
  simp only [L'', if_pos hn, Nat.add_sub_cancel_left]
  exact ⟨trivial, trivial⟩
 refine ⟨L'', Rel.put (r := r) (v := res.sh m) ?_ hd ?_ ?_ ?_, fun k c hc => if_neg (hnn k c hc), fun _ => rfl⟩
 ·exact {
   df := hg.df, sz := hg.sz
   tm := fun j u hu => a7l (hK _ (fun l hl => hg.lk l (a7S hu l hl))) (fun b hb => rfl) (hg.tm j u hu)
   bx := fun j t cs hx => by
    obtain ⟨us, h3, h4⟩ := hg.bx j t cs hx
    exact ⟨us, h3, a5x (hK _ (fun l hl => hg.lk l (a8G hx l hl))) h4⟩
   ks := fun j c hc => by
    rcases hl j c hc with ⟨k, c', rfl, h1, rfl, hn⟩ | ⟨h1, hn⟩
    ·obtain ⟨e1, e2⟩ := hkey k hn
     rw [e1, e2]
     exact ⟨(h'.ks k c' h1).1, fun e => by cases e⟩
    ·have e1 : L''.fp j = L.fp j := if_neg hn
     have e2 : L''.rv j = L.rv j := if_neg hn
     rw [e1, e2]
     exact hg.ks j c h1
   b1 := hg.b1
   k1 := fun j c hc => by
    rcases hl j c hc with ⟨k, c', rfl, h1, rfl, hn⟩ | ⟨h1, hn⟩
    ·rw [(hkey k hn).1]
     exact fun b hb => .inl (Nat.le_trans hB0 (hblk k c' h1 b hb))
    ·rw [show L''.fp j = L.fp j from if_neg hn]; exact hg.k1 j c h1
   kn := fun j c hc => by
    rcases hl j c hc with ⟨k, c', rfl, h1, rfl, hn⟩ | ⟨h1, hn⟩
    ·rw [(hkey k hn).1]; exact h'.kn k c' h1
    ·rw [show L''.fp j = L.fp j from if_neg hn]; exact hg.kn j c h1
   bb := hg.bb
   bk := fun i j x c hx hc => by
    rcases hl j c hc with ⟨k, c', rfl, h1, rfl, hn⟩ | ⟨h1, hn⟩
    ·rw [(hkey k hn).1]
     intro hm
     have := hblk k c' h1 _ hm
     have h5 := hbl i x hx
     exact absurd h5 (by simpa [L''] using this)
    ·rw [show L''.fp j = L.fp j from if_neg hn]; exact hg.bk i j x c hx h1
   kk := fun i j x y hx hy hij b hb hb' => by
    rcases hl i x hx with ⟨k, c', rfl, h1, rfl, hn⟩ | ⟨h1, hn⟩ <;> rcases hl j y hy with ⟨k2, c2, rfl, h2, rfl, hn2⟩ | ⟨h2, hn2⟩
    ·rw [(hkey k hn).1] at hb
     rw [(hkey k2 hn2).1] at hb'
     exact h'.kk k k2 c' c2 h1 h2 (by omega) b hb hb'
    ·rw [(hkey k hn).1] at hb
     rw [show L''.fp j = L.fp j from if_neg hn2] at hb'
     have := hblk k c' h1 b hb
     have := hkl _ _ h2 b hb'
     omega
    ·rw [show L''.fp i = L.fp i from if_neg hn] at hb
     rw [(hkey k2 hn2).1] at hb'
     have := hblk k2 c2 h2 b hb'
     have := hkl _ _ h1 b hb
     omega
    ·rw [show L''.fp i = L.fp i from if_neg hn] at hb
     rw [show L''.fp j = L.fp j from if_neg hn2] at hb'
     exact hg.kk i j x y h1 h2 hij b hb hb'
   lk := fun j hj => hlive j (hg.lk j hj)
   lb := hg.lb
   s0 := hg.s0
   chg := hg.chg }
 ·refine a9Q hres (fun k hk => ?_) (h'.tm 0 res (by simp [a0Y]))
  have h1 := h'.lk k (by simp only [St.tk, List.flatMap_cons, List.mem_append]; exact .inl (.inl hk))
  obtain ⟨c', hc⟩ := c5r.1 h1
  exact (hkey k (hnew k c' hc)).2
 ·intro k hk
  rw [(b6e hres).1] at hk
  obtain ⟨j, hj, rfl⟩ := List.mem_map.1 hk
  exact hlive' j (h'.lk j (by simp only [St.tk, List.flatMap_cons, List.mem_append]; exact .inl (.inl hj)))
 ·intro b hb
  rw [(b6e hres).2] at hb
  cases hb
theorem Rel.ret (h : Rel P C nt L σ a w) {rv0 : Nat → Value} {res : SV} {r : Value} {bx' : List (Nat × TypeId × List CV)} {kk : List (Nat × Option KC)} (h' : Rel P ⟨w, [], rv0⟩ 1 L' ⟨[(0, res)], bx', kk⟩ ⟨#[r], []⟩ w') (m : Nat)
  (hfree : ∀ p ∈ kk, lkk σ (m + p.1) = none) (hres : res.retOk = true) {d : Nat} (hd : d < nt) :
  ∃ L'', Rel P C nt L'' ({ σ with ks := shK m kk ++ σ.ks }.put d (res.sh m)) (a.put (some d) r) w' ∧ Gr σ L L'' w w' := by
 obtain ⟨L'', h1, h2, h3⟩ := (h.grow h'.chg).ret0 (B0 := w.heap.size) h' m hfree hres hd h.chg.size (fun k c hc => h.k_lt hc) (fun i x hx => h.bx_lt hx) (fun k c' hc b hb => by
  rcases h'.k1 k c' hc b hb with h1 | h1
  ·exact h1
  ·cases h1)
 exact ⟨L'', h1, h'.chg, h2, fun i _ _ => h3 i⟩
/-! ### the calls -/
theorem a6B {o : Oper} {f : FuncId} {xs : List Operand} {ats : Array TypeId} {K : Act → World → Prop} {Q : Exit → Act → World → Prop} (ho : o.op = .call { callee := .value (.func f), args := xs.toArray, argTypes := ats })
  (hc : ∀ (args : Array Value) (w : World), (callFunc f args).run P w = .ok (.enter f args) w)
  (h : Calls P f (xs.map a.eval).toArray w fun e w' => ∃ r, e = .returned r ∧ K (a.put o.dst r) w') : o.wp P a w K Q := by
 unfold Oper.wp execOp
 have hi : ∀ args : Array Value, (invoke (.fn (.func f) #[]) args).run P w = .ok (.enter f args) w := fun args => by
  simp only [invoke, Array.append_empty]; exact hc _ w
 have he : ∀ args : Array Value, Deferred.ofValue (a.eval (.func f)) args = pure { target := .fn (.func f) #[], args := args } := fun args => by
  simp [Act.eval, Deferred.ofValue]
 simp only [ho, resolve, he, Sem.run_bind, Sem.run_pure, Result.andThen_ok, hi, Oper.upon]
 refine Calls.mono (by simpa using h) ?_
 rintro e w' ⟨r, rfl, h1⟩
 exact h1
theorem c4Q {o : Oper} {f : FuncId} {xs : List Operand} {ats : Array TypeId} {us : List SV} {Q : SV → St → Prop} {R : SV → Prop} (ho : o.op = .call { callee := .value (.func f), args := xs.toArray, argTypes := ats })
  (hc : ∀ (args : Array Value) (w : World), (callFunc f args).run P w = .ok (.enter f args) w) (hf : a7r P f [] [] us Q) (ha : a2t P C nt σ xs us) (hQ : ∀ v σ', Q v σ' → R v ∧ v.plain = true) : Pc P C nt o σ R := Pc.mk fun L a w hr K Q' hk => by
 refine a6B ho hc ?_
 have h1 := b5f hr ha
 refine (hf w [] L (xs.map a.eval) (by simp [(a8j hr L xs us ha).1]) h1).mono ?_
 rintro e w' ⟨r, res, σ', L', rfl, h2, h3⟩
 obtain ⟨h4, h5⟩ := hQ res σ' h2
 obtain ⟨p1, p2, p3, p4⟩ := a8q h5
 refine ⟨r, rfl, hk res r w' h4 ⟨p2, p3⟩ ?_ h3.chg⟩
 have := a9Q (C := C) (L := L) (m := 0) p1 (by rw [p2]; simp) (h3.tm 0 res (by simp [a0Y]))
 rwa [p4] at this
theorem a9p {o : Oper} {f : FuncId} {xs : List Operand} {ats : Array TypeId} {us : List SV} {Q : SV → St → Prop} {ι : Type} {v : ι → SV} {kk : ι → List (Nat × Option KC)} {p : ι → Prop} {d : Nat} (m : Nat) (ho : o.op = .call { callee := .value (.func f), args := xs.toArray, argTypes := ats }) (hd : o.dst = some d) (hn : Nat.blt d nt = true)
  (hc : ∀ (args : Array Value) (w : World), (callFunc f args).run P w = .ok (.enter f args) w) (hf : a7r P f [] [] us Q) (ha : a2t P C nt σ xs us) (hQ : ∀ u σ', Q u σ' → ∃ i, u = v i ∧ σ'.ks = kk i ∧ p i)
  (hres : ∀ i, (v i).retOk = true) (hfree : ∀ i, ((kk i).all fun q => (lkk σ (m + q.1)).isNone) = true) :
  EfG P C nt o σ (fun σ' => ∃ i, p i ∧ σ' = { σ with ks := shK m (kk i) ++ σ.ks }.put d ((v i).sh m)) := EfG.mk fun L a w hr K Q' hk => by
 refine a6B ho hc ?_
 have h1 := b5f hr ha
 refine (hf w [] L (xs.map a.eval) (by simp [(a8j hr L xs us ha).1]) h1).mono ?_
 rintro e w' ⟨r, res, σ', L', rfl, h2, h3⟩
 obtain ⟨i, rfl, h5, h6⟩ := hQ res σ' h2
 have hfr : ∀ q ∈ kk i, lkk σ (m + q.1) = none := fun q hq => by
  have := List.all_eq_true.1 (hfree i) q hq
  simpa using this
 obtain ⟨L'', g1, g2⟩ := hr.ret (kk := kk i) (by rw [← h5]; exact h3) m hfr (hres i) (show d < nt by simpa [Nat.blt_eq] using hn)
 refine ⟨r, rfl, hk L'' _ _ _ ⟨i, h6, rfl⟩ ?_ g2⟩
 rw [hd]; exact g1
end
structure TT where
 sl : List (Nat × Nat)
 ag : List (Nat × Nat)
 on : List (Nat × Unit)
 of : List (Nat × Nat)
 el : List (Nat × (Nat × Nat × List CV))
 st : List (Nat × Unit)
 bo : List (Nat × Unit)
 it : List (Nat × IntKind)
def zB : Value → CV → Bool
 | .int k n, .dv [] (.int k' n') => decide (k = k') && decide (n = n') && decide (k.min ≤ n ∧ n ≤ k.max)
 | .bool b, .dv [] (.bool b') => b == b'
 | .string s, .dv [] (.str s') => decide (s = s') && decide (s.size ≤ 9223372036854775807)
 | .slice none 0 0, .nil => true
 | _, _ => false
def zL : List Value → List CV → Bool
 | [], [] => true
 | v :: vs, c :: cs => zB v c && zL vs cs
 | _, _ => false
theorem b8F {C : Ctx} {L : Lyt} {w : World} {v : Value} {c : CV} (h : zB v c = true) : CVr C L w c v ∧ c.keys = [] ∧ v.oneCell' = true := by
 unfold zB at h
 split at h
 ·simp only [Bool.and_eq_true, decide_eq_true_eq] at h
  obtain ⟨⟨rfl, rfl⟩, h⟩ := h
  exact ⟨by unfold CVr Lay; exact ⟨rfl, h⟩, rfl, rfl⟩
 ·simp only [beq_iff_eq] at h
  subst h
  exact ⟨by simp only [CVr, Lay], rfl, rfl⟩
 ·simp only [Bool.and_eq_true, decide_eq_true_eq] at h
  obtain ⟨rfl, h⟩ := h
  exact ⟨by unfold CVr Lay; exact ⟨rfl, h⟩, rfl, rfl⟩
 ·exact ⟨by simp only [CVr], rfl, rfl⟩
 ·cases h
theorem a8P {C : Ctx} {L : Lyt} {w : World} : ∀ {vs : List Value} {cs : List CV}, zL vs cs = true → CVL C L w cs vs ∧ cs.flatMap CV.keys = [] ∧ ∀ u ∈ vs, u.oneCell' = true
 | [], [], _ => ⟨rfl, rfl, by simp⟩
 | [], _ :: _, h => by cases h
 | _ :: _, [], h => by cases h
 | v :: vs, c :: cs, h => by
  simp only [zL, Bool.and_eq_true] at h
  obtain ⟨h1, h2, h3⟩ := b8F (C := C) (L := L) (w := w) h.1
  obtain ⟨k1, k2, k3⟩ := a8P (C := C) (L := L) (w := w) h.2
  refine ⟨⟨v, vs, rfl, h1, k1⟩, by simp [h2, k2], fun u hu => ?_⟩
  rcases List.mem_cons.1 hu with rfl | hu
  ·exact h3
  ·exact k3 u hu
def TT.check (T : TT) (P : Program) : Bool :=
 (T.sl.all fun p => match P.underlying p.1 with | some (.slice e) => e == p.2 | _ => false) &&
 (T.ag.all fun p => match P.underlying p.1, P.info? p.1 with | some d, some i => a7y d && i.size == p.2 | _, _ => false) &&
 (T.on.all fun p => match P.underlying p.1 with | some d => !a7y d | _ => false) &&
 (T.of.all fun p => match P.underlying (p.1 / 1000) with
  | some (.struct fs) => (match fs[p.1 % 1000]? with | some fd => fd.offset == p.2 && (match P.info? fd.type with | some i => i.size != 0 | none => false) | none => false)
  | _ => false) &&
 (T.el.all fun p => match P.info? p.1 with | some i => i.size == p.2.1 && i.bytes == p.2.2.1 && (match i.zero with | some z => zL z.cells.toList p.2.2.2 | none => false) | none => false) &&
 (T.st.all fun p => match P.underlying p.1 with | some .string => true | _ => false) &&
 (T.bo.all fun p => match P.underlying p.1 with | some .bool => true | _ => false) &&
 (T.it.all fun p => match P.underlying p.1 with | some (.int k) => decide (k = p.2) | _ => false) &&
 (T.el.all fun p => Nat.blt p.1 1000000)
structure TTOk (P : Program) (T : TT) : Prop where
 sl : ∀ t e, look T.sl t = some e → P.underlying t = some (.slice e)
 ag : ∀ t n, look T.ag t = some n → b0G P t n
 on : ∀ t u, look T.on t = some u → ∃ d, P.underlying t = some d ∧ a7y d = false
 of : ∀ s f o, look T.of (1000 * s + f) = some o → f < 1000 → ∃ fs fd i, P.underlying s = some (.struct fs) ∧ fs[f]? = some fd ∧ fd.offset = o ∧ P.info? fd.type = some i ∧ i.size ≠ 0
 el : ∀ t sz by_ cs, look T.el t = some (sz, by_, cs) → ∃ i z, P.info? t = some i ∧ i.size = sz ∧ i.bytes = by_ ∧ i.zero = some z ∧ zL z.cells.toList cs = true
 st : ∀ t u, look T.st t = some u → P.underlying t = some .string
 bo : ∀ t u, look T.bo t = some u → P.underlying t = some .bool
 it : ∀ t k, look T.it t = some k → P.underlying t = some (.int k)
 lt : ∀ t x, look T.el t = some x → t < 1000000
theorem TT.ok {P : Program} {T : TT} (h : T.check P = true) : TTOk P T := by
 simp only [TT.check, Bool.and_eq_true, List.all_eq_true] at h
 obtain ⟨⟨⟨⟨⟨⟨⟨⟨h1, h2⟩, h3⟩, h4⟩, h5⟩, h6⟩, h7⟩, h8⟩, h9⟩ := h
 refine ⟨fun t e hl => ?_, fun t n hl => ?_, fun t u hl => ?_, fun s f o hl hf => ?_, fun t sz by_ cs hl => ?_, fun t u hl => ?_, fun t u hl => ?_, fun t k hl => ?_, fun t x hl => by have := h9 _ (a3q hl); simpa [Nat.blt_eq] using this⟩
 ·have := h1 _ (a3q hl)
  dsimp only at this
  split at this
  ·rename_i e' he; rw [he]; simp only [beq_iff_eq] at this; rw [this]
  ·cases this
 ·have := h2 _ (a3q hl)
  dsimp only at this
  split at this
  ·rename_i d i hd hi
   simp only [Bool.and_eq_true, beq_iff_eq] at this
   exact ⟨⟨d, hd, this.1⟩, by simp [hi, this.2]⟩
  ·cases this
 ·have := h3 _ (a3q hl)
  dsimp only at this
  split at this
  ·rename_i d hd; exact ⟨d, hd, by simpa using this⟩
  ·cases this
 ·have := h4 _ (a3q hl)
  dsimp only at this
  rw [show (1000 * s + f) / 1000 = s by omega, show (1000 * s + f) % 1000 = f by omega] at this
  split at this
  ·rename_i fs hfs
   split at this
   ·rename_i fd hfd
    simp only [Bool.and_eq_true, beq_iff_eq] at this
    obtain ⟨g1, g2⟩ := this
    split at g2
    ·rename_i i hi; exact ⟨fs, fd, i, hfs, hfd, g1, hi, by simpa using g2⟩
    ·cases g2
   ·cases this
  ·cases this
 ·have := h5 _ (a3q hl)
  dsimp only at this
  split at this
  ·rename_i i hi
   simp only [Bool.and_eq_true, beq_iff_eq] at this
   obtain ⟨⟨g1, g2⟩, g3⟩ := this
   split at g3
   ·rename_i z hz; exact ⟨i, z, hi, g1, g2, hz, g3⟩
   ·cases g3
  ·cases this
 ·have := h6 _ (a3q hl)
  dsimp only at this
  split at this
  ·assumption
  ·cases this
 ·have := h7 _ (a3q hl)
  dsimp only at this
  split at this
  ·assumption
  ·cases this
 ·have := h8 _ (a3q hl)
  dsimp only at this
  split at this
  ·rename_i k' hk; rw [hk]; simp only [decide_eq_true_eq] at this; rw [this]
  ·cases this
section
variable {P : Program} {C : Ctx} {nt : Nat} {σ : St} {T : TT} {o : Oper} {x y : Operand}
theorem a8U (k : IntKind) (z : Int) : InR k (k.wrap z) := by
 unfold InR
 cases k <;> simp [IntKind.wrap, IntKind.min, IntKind.max, IntKind.signed, IntKind.bits] <;> omega
theorem b2Y {k : IntKind} {z : Int} (h : InR k z) : k.wrap z = z := by
 unfold InR at h
 cases k <;> simp [IntKind.wrap, IntKind.min, IntKind.max, IntKind.signed, IntKind.bits] at h ⊢ <;> omega
theorem a1Q {v : SV} (ho : o.op = .move x ∨ o.op = .assign x) (hx : Ev P C nt σ x v) : Pu P C nt o σ v [] [] := Pu.mk fun L a w hr => by
 refine ⟨a.eval x, hx.run L a w hr, fun w' _ => ?_⟩
 rcases ho with ho | ho <;> (unfold execOp; simp only [ho]; rfl)
theorem c4e {t : TypeId} {K : List Nat} {b : Bool} (ho : o.op = .unOp .not t x) (hx : Ev P C nt σ x (.one (.dv K (.bool b)))) : Pu P C nt o σ (.one (.dv [] (.bool (!b)))) [] [] := Pu.mk fun L a w hr => by
 have h := hx.run L a w hr
 simp only [SVr, CVr, Lay] at h
 refine ⟨.bool (!b), by simp only [SVr, CVr, Lay], fun w' _ => ?_⟩
 unfold execOp
 simp only [ho, h]
 rfl
theorem c4K {c : Operand} {K J : List Nat} {b b2 : Bool} (ho : o.op = .pick c y (.const (.bool false))) (hc : Ev P C nt σ c (.one (.dv K (.bool b)))) (hy : b = true → Ev P C nt σ y (.one (.dv J (.bool b2)))) : Pu P C nt o σ (.one (.dv [] (.bool (b && b2)))) [] [] := Pu.mk fun L a w hr => by
 have h := hc.run L a w hr
 simp only [SVr, CVr, Lay] at h
 refine ⟨.bool (b && b2), by simp only [SVr, CVr, Lay], fun w' _ => ?_⟩
 unfold execOp
 simp only [ho, h]
 cases b with
 | true => have h2 := (hy rfl).run L a w hr; simp only [SVr, CVr, Lay] at h2; simp [asBool, h2]
 | false => simp [asBool, Act.eval]
theorem c1P {c : Operand} {K J : List Nat} {b b2 : Bool} (ho : o.op = .pick c (.const (.bool true)) y) (hc : Ev P C nt σ c (.one (.dv K (.bool b)))) (hy : b = false → Ev P C nt σ y (.one (.dv J (.bool b2)))) : Pu P C nt o σ (.one (.dv [] (.bool (b || b2)))) [] [] := Pu.mk fun L a w hr => by
 have h := hc.run L a w hr
 simp only [SVr, CVr, Lay] at h
 refine ⟨.bool (b || b2), by simp only [SVr, CVr, Lay], fun w' _ => ?_⟩
 unfold execOp
 simp only [ho, h]
 cases b with
 | false => have h2 := (hy rfl).run L a w hr; simp only [SVr, CVr, Lay] at h2; simp [asBool, h2]
 | true => simp [asBool, Act.eval]
/-! ### integers -/
theorem a5D {op : BinOp} {t ty : TypeId} {K J : List Nat} {k : IntKind} {m n : Int} {d : DV} (ho : o.op = .binOp op t x y ty) (hx : Ev P C nt σ x (.one (.dv K (.int k m)))) (hy : Ev P C nt σ y (.one (.dv J (.int k n))))
  (h : InR k m → InR k n → ∃ r, (∀ (ok : Nat → Prop) (w : World), Lay ok w d r) ∧ ∀ w : World, (binOp op t (.int k m) (.int k n)).run P w = .ok r w) : Pu P C nt o σ (.one (.dv [] d)) [] [] := Pu.mk fun L a w hr => by
 have h1 := hx.run L a w hr
 have h2 := hy.run L a w hr
 simp only [SVr, CVr, Lay] at h1 h2
 obtain ⟨r, h3, h4⟩ := h h1.2 h2.2
 refine ⟨r, by simp only [SVr, CVr]; exact h3 _ _, fun w' _ => ?_⟩
 unfold execOp
 simp only [ho, h1.1, h2.1, Sem.run_bind]
 have hg : (eqGuard op t x y (.int k m) (.int k n)).run P w' = .ok () w' := by
  unfold eqGuard
  cases op <;> rfl
 simp only [hg, Result.andThen_ok, h4 w', Sem.run_pure]
theorem b8T {t ty : TypeId} {K J : List Nat} {k : IntKind} {m n : Int} (ho : o.op = .binOp .add t x y ty) (hx : Ev P C nt σ x (.one (.dv K (.int k m)))) (hy : Ev P C nt σ y (.one (.dv J (.int k n)))) : Pu P C nt o σ (.one (.dv [] (.int k (k.wrap (m + n))))) [] [] :=
 a5D ho hx hy fun _ _ => ⟨_, fun ok w => by unfold Lay; exact ⟨rfl, a8U _ _⟩, fun w => by simp [binOp, Op.intArith]⟩
theorem b9i {t ty : TypeId} {K J : List Nat} {k : IntKind} {m n : Int} (ho : o.op = .binOp .sub t x y ty) (hx : Ev P C nt σ x (.one (.dv K (.int k m)))) (hy : Ev P C nt σ y (.one (.dv J (.int k n)))) : Pu P C nt o σ (.one (.dv [] (.int k (k.wrap (m - n))))) [] [] :=
 a5D ho hx hy fun _ _ => ⟨_, fun ok w => by unfold Lay; exact ⟨rfl, a8U _ _⟩, fun w => by simp [binOp, Op.intArith]⟩
theorem a5v {t ty : TypeId} {K J : List Nat} {k : IntKind} {m n : Int} (ho : o.op = .binOp .add t x y ty) (hx : Ev P C nt σ x (.one (.dv K (.int k m)))) (hy : Ev P C nt σ y (.one (.dv J (.int k n)))) (h : InR k (m + n)) : Pu P C nt o σ (.one (.dv [] (.int k (m + n)))) [] [] := by
 have := b8T ho hx hy
 rwa [b2Y h] at this
theorem a8W {t ty : TypeId} {K J : List Nat} {k : IntKind} {m n : Int} (ho : o.op = .binOp .sub t x y ty) (hx : Ev P C nt σ x (.one (.dv K (.int k m)))) (hy : Ev P C nt σ y (.one (.dv J (.int k n)))) (h : InR k (m - n)) : Pu P C nt o σ (.one (.dv [] (.int k (m - n)))) [] [] := by
 have := b9i ho hx hy
 rwa [b2Y h] at this
theorem c4j {t ty : TypeId} {K J : List Nat} {k : IntKind} {m n : Int} (ho : o.op = .binOp .quo t x y ty) (hx : Ev P C nt σ x (.one (.dv K (.int k m)))) (hy : Ev P C nt σ y (.one (.dv J (.int k n)))) (hn : n ≠ 0) : Pu P C nt o σ (.one (.dv [] (.int k (k.wrap (m.tdiv n))))) [] [] :=
 a5D ho hx hy fun _ _ => ⟨_, fun ok w => by unfold Lay; exact ⟨rfl, a8U _ _⟩, fun w => by simp [binOp, Op.intDiv, hn]⟩
theorem b9a {t ty : TypeId} {K J : List Nat} {k : IntKind} {m n : Int} (ho : o.op = .binOp .lss t x y ty) (hx : Ev P C nt σ x (.one (.dv K (.int k m)))) (hy : Ev P C nt σ y (.one (.dv J (.int k n)))) : Pu P C nt o σ (.one (.dv [] (.bool (decide (m < n))))) [] [] :=
 a5D ho hx hy fun _ _ => ⟨_, fun ok w => by unfold Lay; rfl, fun w => by simp [binOp, Op.intCmp]⟩
theorem c3l {t ty : TypeId} {K J : List Nat} {k : IntKind} {m n : Int} (ho : o.op = .binOp .leq t x y ty) (hx : Ev P C nt σ x (.one (.dv K (.int k m)))) (hy : Ev P C nt σ y (.one (.dv J (.int k n)))) : Pu P C nt o σ (.one (.dv [] (.bool (decide (m ≤ n))))) [] [] :=
 a5D ho hx hy fun _ _ => ⟨_, fun ok w => by unfold Lay; rfl, fun w => by simp [binOp, Op.intCmp]⟩
theorem c3y {t ty : TypeId} {K J : List Nat} {k : IntKind} {m n : Int} (ho : o.op = .binOp .gtr t x y ty) (hx : Ev P C nt σ x (.one (.dv K (.int k m)))) (hy : Ev P C nt σ y (.one (.dv J (.int k n)))) : Pu P C nt o σ (.one (.dv [] (.bool (decide (n < m))))) [] [] :=
 a5D ho hx hy fun _ _ => ⟨_, fun ok w => by unfold Lay; rfl, fun w => by simp [binOp, Op.intCmp]⟩
theorem c0h {t ty : TypeId} {K J : List Nat} {k : IntKind} {m n : Int} (ho : o.op = .binOp .geq t x y ty) (hx : Ev P C nt σ x (.one (.dv K (.int k m)))) (hy : Ev P C nt σ y (.one (.dv J (.int k n)))) : Pu P C nt o σ (.one (.dv [] (.bool (decide (n ≤ m))))) [] [] :=
 a5D ho hx hy fun _ _ => ⟨_, fun ok w => by unfold Lay; rfl, fun w => by simp [binOp, Op.intCmp]⟩
theorem c1Z {t ty : TypeId} {K J : List Nat} {k : IntKind} {m n : Int} (ho : o.op = .binOp .eql t x y ty) (hx : Ev P C nt σ x (.one (.dv K (.int k m)))) (hy : Ev P C nt σ y (.one (.dv J (.int k n)))) : Pu P C nt o σ (.one (.dv [] (.bool (decide (m = n))))) [] [] :=
 a5D ho hx hy fun _ _ => ⟨_, fun ok w => by unfold Lay; rfl, fun w => by simp [binOp, Op.intCmp]; rfl⟩
theorem c3W {t ty : TypeId} {K J : List Nat} {k : IntKind} {m n : Int} (ho : o.op = .binOp .neq t x y ty) (hx : Ev P C nt σ x (.one (.dv K (.int k m)))) (hy : Ev P C nt σ y (.one (.dv J (.int k n)))) : Pu P C nt o σ (.one (.dv [] (.bool (!decide (m = n))))) [] [] :=
 a5D ho hx hy fun _ _ => ⟨_, fun ok w => by unfold Lay; rfl, fun w => by simp [binOp, Op.intCmp]; rfl⟩
/-! ### strings -/
def sEq (s t : ByteArray) : Bool := s.toList == t.toList
def sLt (s t : ByteArray) : Bool := Op.bytesLess s.toList t.toList
theorem a7b {op : BinOp} {t ty : TypeId} {K J : List Nat} {m n : ByteArray} {d : DV} (ho : o.op = .binOp op t x y ty) (hx : Ev P C nt σ x (.one (.dv K (.str m)))) (hy : Ev P C nt σ y (.one (.dv J (.str n))))
  (h : ∃ r, (∀ (ok : Nat → Prop) (w : World), Lay ok w d r) ∧ ∀ w : World, (Op.stringOp op m n).run P w = .ok r w) (hop : op ≠ .shl ∧ op ≠ .shr) : Pu P C nt o σ (.one (.dv [] d)) [] [] := Pu.mk fun L a w hr => by
 have h1 := hx.run L a w hr
 have h2 := hy.run L a w hr
 simp only [SVr, CVr, Lay] at h1 h2
 obtain ⟨r, h3, h4⟩ := h
 refine ⟨r, by simp only [SVr, CVr]; exact h3 _ _, fun w' _ => ?_⟩
 unfold execOp
 simp only [ho, h1.1, h2.1, Sem.run_bind]
 have hg : (eqGuard op t x y (.string m) (.string n)).run P w' = .ok () w' := by
  unfold eqGuard
  cases op <;> rfl
 have hb : (binOp op t (.string m) (.string n)).run P w' = .ok r w' := by
  rw [← h4 w']
  cases op <;> first | rfl | exact absurd rfl hop.1 | exact absurd rfl hop.2
 simp only [hg, Result.andThen_ok, hb, Sem.run_pure]
theorem c3n {t ty : TypeId} {K J : List Nat} {m n : ByteArray} (ho : o.op = .binOp .eql t x y ty) (hx : Ev P C nt σ x (.one (.dv K (.str m)))) (hy : Ev P C nt σ y (.one (.dv J (.str n)))) : Pu P C nt o σ (.one (.dv [] (.bool (sEq m n)))) [] [] :=
 a7b ho hx hy ⟨.bool (sEq m n), fun ok w => by unfold Lay; rfl, fun w => rfl⟩ ⟨by simp, by simp⟩
theorem c2O {t ty : TypeId} {K J : List Nat} {m n : ByteArray} (ho : o.op = .binOp .neq t x y ty) (hx : Ev P C nt σ x (.one (.dv K (.str m)))) (hy : Ev P C nt σ y (.one (.dv J (.str n)))) : Pu P C nt o σ (.one (.dv [] (.bool (!sEq m n)))) [] [] :=
 a7b ho hx hy ⟨.bool (!sEq m n), fun ok w => by unfold Lay; rfl, fun w => rfl⟩ ⟨by simp, by simp⟩
theorem b9e {t ty : TypeId} {K J : List Nat} {m n : ByteArray} (ho : o.op = .binOp .lss t x y ty) (hx : Ev P C nt σ x (.one (.dv K (.str m)))) (hy : Ev P C nt σ y (.one (.dv J (.str n)))) : Pu P C nt o σ (.one (.dv [] (.bool (sLt m n)))) [] [] :=
 a7b ho hx hy ⟨.bool (sLt m n), fun ok w => by unfold Lay; rfl, fun w => rfl⟩ ⟨by simp, by simp⟩
theorem c0g {t ty : TypeId} {K J : List Nat} {m n : ByteArray} (ho : o.op = .binOp .leq t x y ty) (hx : Ev P C nt σ x (.one (.dv K (.str m)))) (hy : Ev P C nt σ y (.one (.dv J (.str n)))) : Pu P C nt o σ (.one (.dv [] (.bool (sLt m n || sEq m n)))) [] [] :=
 a7b ho hx hy ⟨.bool (sLt m n || sEq m n), fun ok w => by unfold Lay; rfl, fun w => rfl⟩ ⟨by simp, by simp⟩
theorem c3i {t ty : TypeId} {K J : List Nat} {m n : ByteArray} (ho : o.op = .binOp .gtr t x y ty) (hx : Ev P C nt σ x (.one (.dv K (.str m)))) (hy : Ev P C nt σ y (.one (.dv J (.str n)))) : Pu P C nt o σ (.one (.dv [] (.bool (!(sLt m n || sEq m n))))) [] [] :=
 a7b ho hx hy ⟨.bool (!(sLt m n || sEq m n)), fun ok w => by unfold Lay; rfl, fun w => rfl⟩ ⟨by simp, by simp⟩
theorem c4O {t ty : TypeId} {K J : List Nat} {m n : ByteArray} (ho : o.op = .binOp .geq t x y ty) (hx : Ev P C nt σ x (.one (.dv K (.str m)))) (hy : Ev P C nt σ y (.one (.dv J (.str n)))) : Pu P C nt o σ (.one (.dv [] (.bool (!sLt m n)))) [] [] :=
 a7b ho hx hy ⟨.bool (!sLt m n), fun ok w => by unfold Lay; rfl, fun w => rfl⟩ ⟨by simp, by simp⟩
/-! ### addresses and loads -/
theorem b2X (hT : TTOk P T) {s f off : Nat} (h : look T.of (1000 * s + f) = some off) (hf : Nat.blt f 1000 = true) (b i : Nat) (w : World) : (Instr.fieldAt s (.pointer (some ⟨b, i, none⟩)) f).run P w = .ok (.pointer (some ⟨b, i + off, none⟩)) w := by
 obtain ⟨fs, fd, inf, h1, h2, h3, h4, h5⟩ := hT.of s f off h (by simpa [Nat.blt_eq] using hf)
 simp only [Instr.fieldAt, Sem.run_bind, run_underlying h1, Result.andThen_ok, h2, Instr.sureAddr, Sem.run_pure, fieldPlace, sizeOf, typeInfo, run_program, h4, h5, if_false, h3, a5M]
theorem a4S (hT : TTOk P T) {s f off b i : Nat} (ho : o.op = .fieldAddr s x f) (h : look T.of (1000 * s + f) = some off) (hf : Nat.blt f 1000 = true) (hx : Ev P C nt σ x (.box b i)) : Pu P C nt o σ (.box b (i + off)) [] [] := Pu.mk fun L a w hr => by
 have h1 := hx.run L a w hr
 simp only [SVr] at h1
 refine ⟨.pointer (some ⟨L.bb b, i + off, none⟩), by simp only [SVr], fun w' _ => ?_⟩
 unfold execOp
 simp only [ho, h1, Sem.run_bind, b2X hT h hf, Result.andThen_ok, Sem.run_pure]
theorem a6i (hT : TTOk P T) {s f off : Nat} {K : List Nat} {ds : List DV} (ho : o.op = .fieldAddr s x f) (h : look T.of (1000 * s + f) = some off) (hf : Nat.blt f 1000 = true) (hx : Ev P C nt σ x (.ref K ds)) : Pu P C nt o σ (.ref K (ds.drop off)) [] [] := Pu.mk fun L a w hr => by
 have h1 := hx.run L a w hr
 simp only [SVr] at h1
 obtain ⟨b, i, vs, e, h2, h3, h4⟩ := h1
 refine ⟨.pointer (some ⟨b, i + off, none⟩), ?_, fun w' _ => ?_⟩
 ·simp only [SVr]
  have hl := a4w _ _ h3
  have h5 := b0v off (ds.length - off) h3
  have e1 : sub off (ds.length - off) ds = ds.drop off := by simp [sub, List.take_of_length_le]
  have e2 : sub off (ds.length - off) vs = vs.drop off := by rw [← hl]; simp [sub, List.take_of_length_le]
  rw [e1, e2] at h5
  refine ⟨b, i + off, vs.drop off, rfl, fun hv => h2 (fun e => hv (by rw [e]; simp)), h5, fun j u hu => ?_⟩
  rw [List.getElem?_drop] at hu
  rw [Nat.add_assoc]; exact h4 (off + j) u hu
 ·unfold execOp
  simp only [ho, e, Sem.run_bind, b2X hT h hf, Result.andThen_ok, Sem.run_pure]
theorem a6d (hT : TTOk P T) {s f off k i : Nat} (ho : o.op = .fieldAddr s x f) (h : look T.of (1000 * s + f) = some off) (hf : Nat.blt f 1000 = true) (hx : Ev P C nt σ x (.eptr k i)) : Pu P C nt o σ (.eptr k (i + off)) [] [] := Pu.mk fun L a w hr => by
 have h1 := hx.run L a w hr
 simp only [SVr] at h1
 obtain ⟨g, n, c, h2, e⟩ := h1
 refine ⟨_, by simp only [SVr]; exact ⟨g, n, c, h2, rfl⟩, fun w' _ => ?_⟩
 unfold execOp
 simp only [ho, e, Sem.run_bind, b2X hT h hf, Result.andThen_ok, Sem.run_pure]
theorem b1B {t n b off : Nat} {us : List Value} {w : World} (h : b0G P t n) (hl : us.length = n) (hc : ∀ j u, us[j]? = some u → w.cell? ⟨b, off + j, none⟩ = some u) : (loadVar t ⟨b, off, none⟩).run P w = .ok (.agg us.toArray) w := by
 obtain ⟨⟨d, h3, h4⟩, h5⟩ := h
 have hload : (loadCells ⟨b, off, none⟩ us.length).run P w = .ok us.toArray w :=
  run_loadCells_list (P := P) w ⟨b, off, none⟩ us (fun j v hv => by rw [a5M]; exact hc j v hv)
 cases hq : P.info? t with
 | none => simp [hq] at h5
 | some i =>
  have hs : i.size = us.length := by simpa [hq, hl] using h5
  have hagg : (isAgg t).run P w = .ok true w := by
   unfold isAgg
   rw [Sem.run_bind, run_underlying h3 w]
   cases d <;> simp_all [a7y]
  simp [loadVar, Sem.run_bind, hagg, sizeOf, typeInfo, hq, hs, hload]
theorem b3n {t b off : Nat} {u : Value} {w : World} (h : ∃ d, P.underlying t = some d ∧ a7y d = false) (hc : w.cell? ⟨b, off, none⟩ = some u) : (loadVar t ⟨b, off, none⟩).run P w = .ok u w := by
 obtain ⟨d, h1, h2⟩ := h
 have hagg : (isAgg t).run P w = .ok false w := by
  unfold isAgg
  rw [Sem.run_bind, run_underlying h1 w]
  cases d <;> simp_all [a7y]
 simp [loadVar, Sem.run_bind, hagg, hc]
theorem a9I {L : Lyt} {w : World} : ∀ (i m : Nat) {cs : List CV} {vs : List Value}, CVL C L w cs vs → CVL C L w (sub i m cs) (sub i m vs)
 | i, 0, cs, vs, _ => by simp [sub, CVL]
 | i, m + 1, [], vs, h => by simp only [CVL] at h; subst h; simp [sub, CVL]
 | 0, m + 1, c :: cs, _, ⟨v, vs', e, h1, h2⟩ => by
  subst e
  have := a9I 0 m h2
  simp only [sub, List.drop_zero, List.take_succ_cons] at this ⊢
  exact ⟨v, _, rfl, h1, this⟩
 | i + 1, m + 1, c :: cs, _, ⟨v, vs', e, h1, h2⟩ => by
  subst e
  have := a9I i (m + 1) h2
  simpa only [sub, List.drop_succ_cons] using this
theorem b2k {L : Lyt} {w : World} : ∀ {cs : List CV} {vs : List Value} (i : Nat) (c : CV), CVL C L w cs vs → cs[i]? = some c → ∃ v, vs[i]? = some v ∧ CVr C L w c v
 | [], _, i, c, _, h => by simp at h
 | x :: xs, _, 0, c, ⟨v, vs', e, h1, _⟩, h => by simp at h; subst h; subst e; exact ⟨v, rfl, h1⟩
 | x :: xs, _, i + 1, c, ⟨v, vs', e, _, h2⟩, h => by simp at h; subst e; simpa using b2k i c h2 h
theorem b6S {w' : World} {g t : Nat} {vs : List Value} (h : w'.heap[g]? = some (.cells vs.toArray t (0, 0))) : ∀ j u, vs[j]? = some u → w'.cell? ⟨g, j, none⟩ = some u := fun j u hu => by
 rw [cell_of_row w' g j vs.toArray t (0, 0) h]
 simpa using hu
theorem a2i (hT : TTOk P T) {t n b i t' : Nat} {cs : List CV} (ho : o.op = .load t x) (ht : look T.ag t = some n) (hx : Ev P C nt σ x (.box b i)) (hb : look σ.bx b = some (t', cs)) (hl : Nat.ble (i + n) cs.length = true) : Pu P C nt o σ (.agg (sub i n cs)) [] [b] := Pu.mk fun L a w hr => by
 have h1 := hx.run L a w hr
 simp only [SVr] at h1
 obtain ⟨vs, h2, h3⟩ := hr.bx b t' cs hb
 have hl' : i + n ≤ vs.length := by rw [a3f h3]; simpa [Nat.ble_eq] using hl
 refine ⟨.agg (sub i n vs).toArray, by simp only [SVr]; exact ⟨_, rfl, a9I i n h3⟩, fun w' hw => ?_⟩
 have h4 := b6S ((hw (L.bb b) (a6a h2) (.inr ⟨b, by simp, rfl⟩)).trans h2)
 unfold execOp
 simp only [ho, h1, Instr.loadAt, Instr.sureAddr, Sem.run_bind, Sem.run_pure, Result.andThen_ok]
 rw [b1B (hT.ag t n ht) (a4B i n vs hl') (fun j u hu => by
  have hj : j < n := by have := (List.getElem?_eq_some_iff.1 hu).1; rwa [a4B i n vs hl'] at this
  rw [a9w i n vs j hj] at hu
  exact h4 _ _ hu)]
 rfl
theorem a3C (hT : TTOk P T) {t b i t' : Nat} {cs : List CV} {c : CV} {u : Unit} (ho : o.op = .load t x) (ht : look T.on t = some u) (hx : Ev P C nt σ x (.box b i)) (hb : look σ.bx b = some (t', cs)) (hc : cs[i]? = some c) : Pu P C nt o σ (.one c) [] [b] := Pu.mk fun L a w hr => by
 have h1 := hx.run L a w hr
 simp only [SVr] at h1
 obtain ⟨vs, h2, h3⟩ := hr.bx b t' cs hb
 obtain ⟨v, h5, h6⟩ := b2k i c h3 hc
 refine ⟨v, by simp only [SVr]; exact h6, fun w' hw => ?_⟩
 have h4 := b6S ((hw (L.bb b) (a6a h2) (.inr ⟨b, by simp, rfl⟩)).trans h2)
 unfold execOp
 simp only [ho, h1, Instr.loadAt, Instr.sureAddr, Sem.run_bind, Sem.run_pure, Result.andThen_ok]
 rw [b3n (hT.on t u ht) (h4 i v h5)]
 rfl
def dvK (K : List Nat) (d : DV) : CV := bif d.plain then .dv [] d else .dv K d
theorem b8k {L : Lyt} {w : World} {K : List Nat} {d : DV} {v : Value} (h : Lay (okB C L K) w d v) : CVr C L w (dvK K d) v := by
 unfold dvK
 cases hp : d.plain with
 | true => exact b2G hp h
 | false => exact h
theorem b7c {L : Lyt} {w : World} {K : List Nat} : ∀ {ds : List DV} {vs : List Value}, a1n (okB C L K) w ds vs → CVL C L w (ds.map (dvK K)) vs
 | [], _, h => by simp only [a1n] at h; exact h
 | d :: ds, _, h => by
  simp only [a1n] at h
  obtain ⟨v, vs', rfl, h1, h2⟩ := h
  exact ⟨v, vs', rfl, b8k h1, b7c h2⟩
theorem b4l {L : Lyt} {w w' : World} {K : List Nat} {b off : Nat} {vs : List Value} (hw : ∀ b, b < w.heap.size → okB C L K b ∨ (∃ i ∈ ([] : List Nat), b = L.bb i) → w'.heap[b]? = w.heap[b]?) (h2 : vs ≠ [] → okB C L K b)
  (h4 : ∀ j u, vs[j]? = some u → w.cell? ⟨b, off + j, none⟩ = some u) : ∀ j u, vs[j]? = some u → w'.cell? ⟨b, off + j, none⟩ = some u := fun j u hu => by
 have h5 := h4 j u hu
 have hne : vs ≠ [] := fun e => by rw [e] at hu; simp at hu
 exact (World.cell?_of_block (a := ⟨b, off + j, none⟩) (hw b (a5E h5) (.inl (h2 hne)))).trans h5
theorem a7p (hT : TTOk P T) {t n : Nat} {K : List Nat} {ds : List DV} (ho : o.op = .load t x) (ht : look T.ag t = some n) (hx : Ev P C nt σ x (.ref K ds)) (hl : Nat.ble n ds.length = true) : Pu P C nt o σ (.agg ((ds.take n).map (dvK K))) K [] := Pu.mk fun L a w hr => by
 have h1 := hx.run L a w hr
 simp only [SVr] at h1
 obtain ⟨b, off, vs, e, h2, h3, h4⟩ := h1
 have hl' : n ≤ vs.length := by rw [a4w _ _ h3]; simpa [Nat.ble_eq] using hl
 have h5 := b0v 0 n h3
 simp only [sub, List.drop_zero] at h5
 refine ⟨.agg (vs.take n).toArray, by simp only [SVr]; exact ⟨_, rfl, b7c h5⟩, fun w' hw => ?_⟩
 have h6 := b4l hw h2 h4
 unfold execOp
 simp only [ho, e, Instr.loadAt, Instr.sureAddr, Sem.run_bind, Sem.run_pure, Result.andThen_ok]
 rw [b1B (us := vs.take n) (hT.ag t n ht) (by simp; omega) (fun j u hu => by
  rw [List.getElem?_take] at hu
  split at hu
  ·exact h6 _ _ hu
  ·cases hu)]
 rfl
theorem b2c (hT : TTOk P T) {t : Nat} {K : List Nat} {d : DV} {ds : List DV} {u : Unit} (ho : o.op = .load t x) (ht : look T.on t = some u) (hx : Ev P C nt σ x (.ref K ds)) (hd : ds[0]? = some d) : Pu P C nt o σ (.one (dvK K d)) K [] := Pu.mk fun L a w hr => by
 have h1 := hx.run L a w hr
 simp only [SVr] at h1
 obtain ⟨b, off, vs, e, h2, h3, h4⟩ := h1
 obtain ⟨v, h5, h6⟩ := c4z h3 0 d hd
 refine ⟨v, by simp only [SVr]; exact b8k h6, fun w' hw => ?_⟩
 have h7 := b4l hw h2 h4 0 v h5
 rw [Nat.add_zero] at h7
 unfold execOp
 simp only [ho, e, Instr.loadAt, Instr.sureAddr, Sem.run_bind, Sem.run_pure, Result.andThen_ok]
 rw [b3n (hT.on t u ht) h7]
 rfl
/-! ### elements, lengths, parts -/
theorem b7w (hT : TTOk P T) {t e sz by_ : Nat} {zc : List CV} (h : look T.sl t = some e) (he : look T.el e = some (sz, by_, zc)) {b off n c i : Nat} (hi : i < n) (w : World) :
  (Instr.indexAt t (.slice (some ⟨b, off, none⟩) n c) (.int .i64 (i : Int))).run P w = .ok (.pointer (some ⟨b, off + i * sz, none⟩)) w := by
 have h1 := hT.sl t e h
 obtain ⟨inf, z, h2, h3, _⟩ := hT.el e sz by_ zc he
 have hi' : (0 : Int) ≤ i ∧ (i : Int) < n := by omega
 simp only [Instr.indexAt, asIntOf, Sem.run_bind, Sem.run_pure, Result.andThen_ok, run_underlying h1, Sem.run_ite, if_pos hi', sizeOf, typeInfo, run_program, h2, h3, Int.toNat_natCast, a5M]
theorem b9L (hT : TTOk P T) {t e' sz by_ : Nat} {zc : List CV} {K J : List Nat} {e n i : Nat} {z : Int} {cs : List DV} (ho : o.op = .indexAddr t x y) (h : look T.sl t = some e') (he : look T.el e' = some (sz, by_, zc)) (hx : Ev P C nt σ x (.one (.dv K (.sl e sz n cs)))) (hy : Ev P C nt σ y (.one (.dv J (.int .i64 z))))
  (hz : z = (i : Int)) (hi : i < n) : Pu P C nt o σ (.ref K (sub (i * sz) sz cs)) [] [] := Pu.mk fun L a w hr => by
 subst hz
 have h1 := hx.run L a w hr
 have h2 := hy.run L a w hr
 simp only [SVr, CVr, Lay] at h1 h2
 obtain ⟨A, c, vs, e1, h3, h4, h5, h6, h7, h8⟩ := h1
 obtain ⟨b, off, rfl, h9, h10⟩ := h8 (by omega)
 refine ⟨.pointer (some ⟨b, off + i * sz, none⟩), ?_, fun w' _ => ?_⟩
 ·simp only [SVr]
  refine ⟨b, off + i * sz, _, rfl, fun _ => h9, b0v (i * sz) sz h7, fun j u hu => ?_⟩
  have hlen : i * sz + sz ≤ vs.length := by
   rw [a4w _ _ h7, h6]
   have : (i + 1) * sz ≤ n * sz := Nat.mul_le_mul_right sz hi
   rw [Nat.add_mul, Nat.one_mul] at this; exact this
  have hj : j < sz := by have := (List.getElem?_eq_some_iff.1 hu).1; rwa [a4B _ _ _ hlen] at this
  rw [a9w _ _ _ _ hj] at hu
  rw [Nat.add_assoc]; exact h10 _ _ hu
 ·unfold execOp
  simp only [ho, e1, h2.1, Sem.run_bind, b7w hT h he hi, Result.andThen_ok, Sem.run_pure]
theorem a1q (hT : TTOk P T) {t e' sz by_ : Nat} {zc : List CV} {J : List Nat} {k i : Nat} {z : Int} {c : KC} (ho : o.op = .indexAddr t x y) (h : look T.sl t = some e') (he : look T.el e' = some (sz, by_, zc)) (hx : Ev P C nt σ x (.one (.key k))) (hk : lkk σ k = some c) (hy : Ev P C nt σ y (.one (.dv J (.int .i64 z))))
  (hz : z = (i : Int)) (hi : i < c.n) : Pu P C nt o σ (.eptr k (i * sz)) [] [] := Pu.mk fun L a w hr => by
 subst hz
 have h1 := hx.run L a w hr
 have h2 := hy.run L a w hr
 simp only [SVr, CVr, Lay] at h1 h2
 have h3 := (hr.ks k c hk).1
 simp only [Own] at h3
 obtain ⟨vs, f, _, h5, h6, h7, h8⟩ := h3
 rcases (a5o h7).2 with ⟨e1, e2⟩ | ⟨g, cap, cur, _, _, e1, _⟩
 ·omega
 ·refine ⟨.pointer (some ⟨g, i * sz, none⟩), by simp only [SVr]; exact ⟨g, _, _, e1, rfl⟩, fun w' _ => ?_⟩
  unfold execOp
  simp only [ho, h1, e1, h2.1, Sem.run_bind, b7w hT h he hi, Result.andThen_ok, Sem.run_pure, Nat.zero_add]
theorem b3d (hT : TTOk P T) {t e : Nat} (h : look T.sl t = some e) (A : Option Addr) (n c : Nat) (w : World) : (Builtin.len_ #[t] 0 #[.slice A n c]).run P w = .ok (.int .i64 (n : Int)) w := by
 have h1 := hT.sl t e h
 simp [Builtin.len_, run_underlying h1, goInt]
theorem b0q {t : TypeId} {a : Act} {w : World} {v : Value} {n : Int} (ho : o.op = .call { callee := .builtin .len, args := #[x], argTypes := #[t] }) (hv : a.eval x = v) (h : ∀ ty, (Builtin.len_ #[t] ty #[v]).run P w = .ok (.int .i64 n) w) : (execOp a.eval o).run P w = .ok (.value (.int .i64 n)) w := by
 unfold execOp
 simp only [ho, resolve, invoke, builtin, Sem.run_bind, Sem.run_pure, Result.andThen_ok, List.map_toArray, List.map_cons, List.map_nil, hv, h]
theorem b0C {n : Nat} (h : n ≤ maxLen) : InR .i64 (n : Int) := by
 unfold InR; unfold maxLen at h
 simp [IntKind.min, IntKind.max, IntKind.signed, IntKind.bits]; omega
theorem a4H (hT : TTOk P T) {t e' e sz n : Nat} {K : List Nat} {cs : List DV} (ho : o.op = .call { callee := .builtin .len, args := #[x], argTypes := #[t] }) (h : look T.sl t = some e') (hx : Ev P C nt σ x (.one (.dv K (.sl e sz n cs)))) : Pu P C nt o σ (.one (.dv [] (.int .i64 (n : Int)))) [] [] := Pu.mk fun L a w hr => by
 have h1 := hx.run L a w hr
 simp only [SVr, CVr, Lay] at h1
 obtain ⟨A, c, vs, e1, h3, h4, _⟩ := h1
 exact ⟨_, by unfold SVr CVr Lay; exact ⟨rfl, b0C (Nat.le_trans h3 h4)⟩, fun w' _ => b0q ho e1 (fun ty => b3d hT h A n c w')⟩
theorem c3b (hT : TTOk P T) {t e' k : Nat} {c : KC} (ho : o.op = .call { callee := .builtin .len, args := #[x], argTypes := #[t] }) (h : look T.sl t = some e') (hx : Ev P C nt σ x (.one (.key k))) (hk : lkk σ k = some c) : Pu P C nt o σ (.one (.dv [] (.int .i64 (c.n : Int)))) [] [] := Pu.mk fun L a w hr => by
 have h1 := (b2h hx hk).run L a w hr
 simp only [SVr, CVr, Lay] at h1
 obtain ⟨A, c', vs, e1, h3, h4, _⟩ := h1
 exact ⟨_, by unfold SVr CVr Lay; exact ⟨rfl, b0C (Nat.le_trans h3 h4)⟩, fun w' _ => b0q ho e1 (fun ty => b3d hT h A c.n c' w')⟩
theorem c2S (hT : TTOk P T) {t e' : Nat} (ho : o.op = .call { callee := .builtin .len, args := #[x], argTypes := #[t] }) (h : look T.sl t = some e') (hx : Ev P C nt σ x (.one .nil)) : Pu P C nt o σ (.one (.dv [] (.int .i64 0))) [] [] := Pu.mk fun L a w hr => by
 have h1 := hx.run L a w hr
 simp only [SVr, CVr] at h1
 exact ⟨_, by unfold SVr CVr Lay; exact ⟨rfl, b0C (n := 0) (by simp)⟩, fun w' _ => b0q ho h1 (fun ty => b3d hT h none 0 0 w')⟩
theorem c3K (hT : TTOk P T) {t : Nat} {u : Unit} {s : ByteArray} {K : List Nat} (ho : o.op = .call { callee := .builtin .len, args := #[x], argTypes := #[t] }) (h : look T.st t = some u) (hx : Ev P C nt σ x (.one (.dv K (.str s)))) : Pu P C nt o σ (.one (.dv [] (.int .i64 (s.size : Int)))) [] [] := Pu.mk fun L a w hr => by
 have h1 := hx.run L a w hr
 simp only [SVr, CVr, Lay] at h1
 refine ⟨_, by unfold SVr CVr Lay; exact ⟨rfl, b0C (by unfold maxLen; omega)⟩, fun w' _ => b0q ho h1.1 (fun ty => ?_)⟩
 have h2 := hT.st t u h
 simp [Builtin.len_, run_underlying h2, goInt]
theorem b2a {L : Lyt} {w : World} : ∀ {ts : List (Bool × List CV)} {vs : List Value} (i : Nat) (g : Bool) (cs : List CV), TVL C L w ts vs → ts[i]? = some (g, cs) → ∃ v us, vs[i]? = some v ∧ CVL C L w cs us ∧ (if g then v = .agg us.toArray else us = [v])
 | [], _, i, g, cs, _, h => by simp at h
 | (g', cs') :: ts, _, 0, g, cs, ⟨us, v, vs', e, h1, h2, _⟩, h => by simp at h; obtain ⟨rfl, rfl⟩ := h; subst e; exact ⟨v, us, rfl, h1, h2⟩
 | (g', cs') :: ts, _, i + 1, g, cs, ⟨us, v, vs', e, _, _, h3⟩, h => by simp at h; subst e; simpa using b2a i g cs h3 h
theorem a4F {i : Nat} {ts : List (Bool × List CV)} {c : CV} (ho : o.op = .extract x i) (hx : Ev P C nt σ x (.tup ts)) (h : ts[i]? = some (false, [c])) : Pu P C nt o σ (.one c) [] [] := Pu.mk fun L a w hr => by
 have h1 := hx.run L a w hr
 simp only [SVr] at h1
 obtain ⟨rs, e, h2⟩ := h1
 obtain ⟨v, us, h3, h4, h5⟩ := b2a i false [c] h2 h
 simp only [Bool.false_eq_true, if_false] at h5
 subst h5
 obtain ⟨v', vs', e', h6, h7⟩ := h4
 simp only [List.cons.injEq] at e'
 obtain ⟨rfl, _⟩ := e'
 refine ⟨v, by simp only [SVr]; exact h6, fun w' _ => ?_⟩
 unfold execOp
 simp [ho, e, Instr.extract, h3]
theorem a4z {i : Nat} {ts : List (Bool × List CV)} {cs : List CV} (ho : o.op = .extract x i) (hx : Ev P C nt σ x (.tup ts)) (h : ts[i]? = some (true, cs)) : Pu P C nt o σ (.agg cs) [] [] := Pu.mk fun L a w hr => by
 have h1 := hx.run L a w hr
 simp only [SVr] at h1
 obtain ⟨rs, e, h2⟩ := h1
 obtain ⟨v, us, h3, h4, h5⟩ := b2a i true cs h2 h
 simp only [if_true] at h5
 refine ⟨v, by simp only [SVr]; exact ⟨us, h5, h4⟩, fun w' _ => ?_⟩
 unfold execOp
 simp [ho, e, Instr.extract, h3]
theorem c4l {f : FuncId} {caps : List Nat} {cxs : Array Operand} (ho : o.op = .makeFunc (.func f) #[] cxs) (hc : ∀ L a w, Rel P C nt L σ a w → cxs.map a.eval = (caps.map fun b => Value.pointer (some ⟨L.bb b, 0, none⟩)).toArray) : Pu P C nt o σ (.clo f caps) [] [] := Pu.mk fun L a w hr => by
 refine ⟨_, by simp only [SVr]; exact rfl, fun w' _ => ?_⟩
 unfold execOp
 simp only [ho, Instr.makeFunc, Sem.run_bind, Sem.run_pure, Result.andThen_ok, hc L a w hr, List.map_toArray, List.map_nil]
end
section
variable {P : Program} {C : Ctx} {nt : Nat} {σ : St} {T : TT} {o : Oper} {x y : Operand}
theorem c1B {w : World} {e sz n : Nat} {cs : List DV} {v : Value} {fp : List Nat} (h : Own w (.sl e sz n cs) v fp) : v.oneCell' = true := a7R _ _ (a4O (ok := fun _ => True) _ _ _ h (fun _ _ => trivial))
theorem b6t {L : Lyt} {a : Act} {w : World} (hr : Rel P C nt L σ a w) {c : CV} {v : Value} (hk : ∀ k ∈ c.keys, (lkk σ k).isSome = true) (h : CVr C L w c v) : v.oneCell' = true :=
 c2I (fun k hm => by
  obtain ⟨d, hd⟩ := c5r.1 (hk k hm)
  exact c1B (hr.ks k d hd).1) h
theorem a8l {L : Lyt} {a : Act} {w : World} (hr : Rel P C nt L σ a w) : ∀ {cs : List CV} {vs : List Value}, (∀ k ∈ cs.flatMap CV.keys, (lkk σ k).isSome = true) → CVL C L w cs vs → ∀ u ∈ vs, u.oneCell' = true
 | [], _, _, h, u, hu => by simp only [CVL] at h; subst h; simp at hu
 | c :: cs, _, hk, ⟨v, vs', e, h1, h2⟩, u, hu => by
  subst e
  rcases List.mem_cons.1 hu with rfl | hu
  ·exact b6t hr (fun k hm => hk k (by simp only [List.flatMap_cons, List.mem_append]; exact .inl hm)) h1
  ·exact a8l hr (fun k hm => hk k (by simp only [List.flatMap_cons, List.mem_append]; exact .inr hm)) h2 u hu
theorem c0F {v : Value} (h : v.oneCell' = true) : v.cells = #[v] := by cases v <;> first | rfl | cases h
theorem a4R {L : Lyt} {a : Act} {w : World} (hr : Rel P C nt L σ a w) {v : SV} {r : Value} {p : Bool × List CV} (hp : v.part = some p) (hk : a1p σ v = true) (h : SVr P C L w v r) : ∃ vs, r.cells = vs.toArray ∧ CVL C L w p.2 vs ∧ (∀ u ∈ vs, u.oneCell' = true) := by
 have hk' := (a2f hk).1
 rw [← a5O hp] at hk'
 obtain ⟨us, h1, h2⟩ := a8g h hp
 have h3 := a8l hr hk' h1
 obtain ⟨g, cs⟩ := p
 cases g with
 | true => simp only [if_true] at h2; subst h2; exact ⟨us, rfl, h1, h3⟩
 | false =>
  simp only [Bool.false_eq_true, if_false] at h2
  subst h2
  exact ⟨[r], by rw [c0F (h3 r (by simp))], h1, h3⟩
theorem a5u {a : Act} {w w' : World} {v : Value} {K : Act → World → Prop} {Q : Exit → Act → World → Prop} (h : (execOp a.eval o).run P w = .ok (.value v) w') (hk : K (a.put o.dst v) w') : o.wp P a w K Q := by
 unfold Oper.wp; rw [h]; exact hk
theorem b8O {t d : Nat} {v : SV} {p : Bool × List CV} (ho : o.op = .box t x) (hd : o.dst = some d) (hn : Nat.blt d nt = true) (hx : Ev P C nt σ x v) (hp : v.part = some p) (hk : a1p σ v = true) (hi : look σ.bx d = none) :
  EfG P C nt o σ (fun σ' => σ' = { σ with bx := (d, t, p.2) :: σ.bx }.put d (.box d 0)) := EfG.mk fun L a w hr K Q hK => by
 obtain ⟨vs, h1, h2, h3⟩ := a4R hr hp hk (hx.run L a w hr)
 refine a5u (v := .pointer (some ⟨w.heap.size, 0, none⟩)) (w' := w.alloc (.cells vs.toArray t)) ?_ ?_
 ·unfold execOp
  simp only [ho, Instr.box, newVar, newRow, Sem.run_bind, run_newObj, Result.andThen_ok, Sem.run_pure, h1, World.alloc_eq]
 ·have hb := hr.newbox (t := t) hi h2 (by rw [a5O hp]; exact (a2f hk).1)
  refine hK { L with bb := fun j => if j = d then w.heap.size else L.bb j } _ _ _ rfl (by rw [hd]; exact hb.put (v := .box d 0) (r := .pointer (some ⟨w.heap.size, 0, none⟩)) (by simpa [Nat.blt_eq] using hn) (by simp [SVr]) (by simp [SV.keys]) (by simp [SV.boxes, a0Y])) ⟨(Chg.refl _ _).alloc _, fun _ _ _ => rfl, fun i x hx => ?_⟩
  have : i ≠ d := fun e => by rw [e, hi] at hx; cases hx
  simp [this]
theorem b2l (hT : TTOk P T) {t d sz by_ : Nat} {zc : List CV} (ho : o.op = .alloc t) (hd : o.dst = some d) (hn : Nat.blt d nt = true) (ht : look T.el t = some (sz, by_, zc)) (hi : look σ.bx d = none) :
  EfG P C nt o σ (fun σ' => σ' = { σ with bx := (d, t, zc) :: σ.bx }.put d (.box d 0)) := EfG.mk fun L a w hr K Q hK => by
 obtain ⟨inf, z, h1, h2, h3, h4, h5⟩ := hT.el t sz by_ zc ht
 obtain ⟨h6, h7, h8⟩ := a8P (C := C) (L := L) (w := w) h5
 refine a5u (v := .pointer (some ⟨w.heap.size, 0, none⟩)) (w' := w.alloc (.cells z.cells t)) ?_ ?_
 ·unfold execOp
  simp [ho, Instr.alloc, newVar, newRow, zeroValue, typeInfo, h1, h4]
 ·have hb := hr.newbox (t := t) (vs := z.cells.toList) hi h6 (by rw [h7]; simp)
  simp only [Array.toArray_toList] at hb
  refine hK { L with bb := fun j => if j = d then w.heap.size else L.bb j } _ _ _ rfl (by rw [hd]; exact hb.put (v := .box d 0) (r := .pointer (some ⟨w.heap.size, 0, none⟩)) (by simpa [Nat.blt_eq] using hn) (by simp [SVr]) (by simp [SV.keys]) (by simp [SV.boxes, a0Y])) ⟨(Chg.refl _ _).alloc _, fun _ _ _ => rfl, fun i x hx => ?_⟩
  have : i ≠ d := fun e => by rw [e, hi] at hx; cases hx
  simp [this]
def a1c {α : Type} (off : Nat) (us cs : List α) : List α := cs.take off ++ us ++ cs.drop (off + us.length)
theorem a9X {L : Lyt} {w : World} : ∀ {cs ds : List CV} {vs us : List Value}, CVL C L w cs vs → CVL C L w ds us → CVL C L w (cs ++ ds) (vs ++ us)
 | [], _, _, _, h1, h2 => by simp only [CVL] at h1; subst h1; exact h2
 | c :: cs, ds, _, us, ⟨v, vs', e, h1, h3⟩, h2 => by subst e; exact ⟨v, _, rfl, h1, a9X h3 h2⟩
theorem c0r {L : Lyt} {w : World} {cs : List CV} {vs : List Value} (n : Nat) (h : CVL C L w cs vs) : CVL C L w (cs.take n) (vs.take n) := by
 have := a9I 0 n h
 simpa only [sub, List.drop_zero] using this
theorem c0U {L : Lyt} {w : World} {cs : List CV} {vs : List Value} (n : Nat) (h : CVL C L w cs vs) : CVL C L w (cs.drop n) (vs.drop n) := by
 have := a9I n cs.length h
 rw [show sub n cs.length cs = cs.drop n by simp [sub, List.take_of_length_le], show sub n cs.length vs = vs.drop n by rw [← a3f h]; simp [sub, List.take_of_length_le]] at this
 exact this
theorem b1i {L : Lyt} {w : World} {cs us : List CV} {vs xs : List Value} (off : Nat) (h : CVL C L w cs vs) (h2 : CVL C L w us xs) : CVL C L w (a1c off us cs) (a1c off xs vs) := by
 unfold a1c
 rw [a3f h2]
 exact a9X (a9X (c0r off h) h2) (c0U _ h)
theorem a7A (w : World) (g : Nat) (c : Array Value) : Chg [g] w (w.setRow g c) :=
 ⟨rfl, rfl, rfl, by simp, fun k _ hk => setRow_other w g k _ (by simpa using hk)⟩
theorem a7n {w : World} {t g off t' sz : Nat} {i : TypeInfo} {z : Value} {v : Value} {vs us : List Value} (hi : P.info? t = some i) (hs : i.size = sz) (hv : v.cells = us.toArray) (hl : us.length = sz) (h1 : ∀ u ∈ us, u.oneCell' = true)
  (hg : w.heap[g]? = some (.cells vs.toArray t' (0, 0))) (hb : off + sz ≤ vs.length) : (Instr.storeAt t (.pointer (some ⟨g, off, none⟩)) v).run P w = .ok () (w.setRow g (a1c off us vs).toArray) := by
 have h := run_storeCells_at (P := P) g off t' us 0 vs.toArray w hg (by simp; omega) h1
 simp only [Nat.add_zero, List.toList_toArray] at h
 simp only [Instr.storeAt, Instr.sureAddr, storeVar, sizeOf, typeInfo, Sem.run_bind, Sem.run_pure, run_program, Result.andThen_ok, hi, hv, List.size_toArray, hl, hs, ne_eq, not_true_eq_false, if_false, List.toList_toArray]
 exact h
theorem a4E (hT : TTOk P T) {t b i t' sz by_ : Nat} {zc cs : List CV} {v : SV} {p : Bool × List CV} (ho : o.op = .store t x y) (hd : o.dst = none) (ht : look T.el t = some (sz, by_, zc)) (hx : Ev P C nt σ x (.box b i)) (hy : Ev P C nt σ y v) (hp : v.part = some p) (hk : a1p σ v = true)
  (hb : look σ.bx b = some (t', cs)) (hl : p.2.length = sz) (hle : Nat.ble (i + sz) cs.length = true) (hkc : (cs.flatMap CV.keys).all (fun k => (lkk σ k).isSome) = true) :
  Ef P C nt o σ (fun σ' => σ' = { σ with bx := (b, t', a1c i p.2 cs) :: σ.bx }) := Ef.mk fun L a w hr K Q hK => by
 obtain ⟨us, h1, h2, h3⟩ := a4R hr hp hk (hy.run L a w hr)
 have h4 := hx.run L a w hr
 simp only [SVr] at h4
 obtain ⟨vs, h5, h6⟩ := hr.bx b t' cs hb
 obtain ⟨inf, z, g1, g2, _⟩ := hT.el t sz by_ zc ht
 have hrun := a7n (z := z) g1 g2 h1 (by rw [a3f h2]; exact hl) h3 h5 (off := i) (by rw [a3f h6]; simpa [Nat.ble_eq] using hle)
 unfold Oper.wp execOp
 simp only [ho, h4, Sem.run_bind, hrun, Result.andThen_ok, Sem.run_pure, Oper.upon, hd, Act.put]
 refine hK L _ _ _ rfl (hr.setbox hb (a7A _ _ _) (setRow_heap _ _ _ _ _ _ h5) (b1i i h6 h2) ?_)
 intro k hm
 simp only [a1c, List.flatMap_append, List.mem_append, or_assoc] at hm
 simp only [List.all_eq_true] at hkc
 rcases hm with hm | hm | hm
 ·exact hkc k (by
   obtain ⟨c, hc, hk'⟩ := List.mem_flatMap.1 hm
   exact List.mem_flatMap.2 ⟨c, List.mem_of_mem_take hc, hk'⟩)
 ·rw [a5O hp] at hm; exact (a2f hk).1 k hm
 ·exact hkc k (by
   obtain ⟨c, hc, hk'⟩ := List.mem_flatMap.1 hm
   exact List.mem_flatMap.2 ⟨c, List.mem_of_mem_drop hc, hk'⟩)
end
structure PFn (P : Program) (f : FuncId) (us : List SV) (X : SV) : Prop where
 ok : a7r P f [] [] us fun v _ => v = X
structure KFn (P : Program) (f : FuncId) (us : List SV) (v : SV) (kk : List (Nat × Option KC)) : Prop where
 ok : a7r P f [] [] us fun u σ' => u = v ∧ σ'.ks = kk
section
variable {P : Program} {C : Ctx} {nt : Nat} {σ : St} {o : Oper} {x y : Operand} {N : St → Prop} {Q : Exit → St → Prop}
theorem a3W (h : N σ) : a5i N Q .normal σ := h
theorem b9G {i : Nat} (h : Q (.exit i) σ) : a5i N Q (.exit i) σ := h
theorem c3v (h : Q .ret σ) : a5i N Q .ret σ := h
theorem c5k {id : Nat} (h : Q .normal σ) : a6S id Q .normal σ := h
theorem b9f {id : Nat} (h : Q .ret σ) : a6S id Q .ret σ := h
theorem c2C {id i : Nat} (hi : Nat.beq i id = true) (h : Q .normal σ) : a6S id Q (.exit i) σ := by
 have := Nat.eq_of_beq_eq_true hi
 simp only [a6S, this, if_true]; exact h
theorem c3C {id i : Nat} (hi : Nat.beq i id = false) (h : Q (.exit i) σ) : a6S id Q (.exit i) σ := by
 have : i ≠ id := fun e => by rw [e] at hi; simp at hi
 simp only [a6S, this, if_false]; exact h
theorem a6R {b : Bool} (h : b = true) : (b == true) = true := by rw [h]; rfl
theorem a6r {b : Bool} (h : b = false) : (b == false) = true := by rw [h]; rfl
theorem a6T {a b : Bool} (h : a = true) (k : b = true) : (a && b) = true := by rw [h, k]; rfl
theorem a0g {a b : Bool} (h : (a && b) = true) : a = true := by cases a <;> simp_all
theorem a8c {a b : Bool} (h : (a && b) = true) : b = true := by cases b <;> simp_all
theorem a4U {b : Bool} (h : (b == true) = true) : b = true := by cases b <;> simp_all
theorem a9y {f : FuncId} {xs : List Operand} {ats : Array TypeId} {us : List SV} {X : SV} (ho : o.op = .call { callee := .value (.func f), args := xs.toArray, argTypes := ats })
  (hc : ∀ (args : Array Value) (w : World), (callFunc f args).run P w = .ok (.enter f args) w) (hf : PFn P f us X) (hp : X.plain = true) (ha : a2t P C nt σ xs us) : Pc P C nt o σ (fun v => v = X) :=
 c4Q ho hc hf.ok ha fun v _ h => ⟨h, by rw [h]; exact hp⟩
theorem a3o {all : Array Oper} {rest : List Oper} {σ₁ : St} (hg : o.guard = none) (hp : Ef P C nt o σ (fun σ' => σ' = σ₁)) (h : Ops P C nt Q all rest σ₁) : Ops P C nt Q all (o :: rest) σ := a9N hg hp fun σ' e => by rw [e]; exact h
/-! over states that are written out -/
section
variable {all : Array Oper} {rest : List Oper} {tm : List (Nat × SV)} {bx : List (Nat × TypeId × List CV)} {ks : List (Nat × Option KC)} {T : TT} {d : Nat} {v X : SV} {Ks Bs : List Nat} {g : Bool}
theorem a6q (hg : o.guard = none) (hd : o.dst = some d) (hp : Pu P C nt o ⟨tm, bx, ks⟩ v Ks Bs) (hn : Nat.blt d nt = true) (hk : a1p ⟨tm, bx, ks⟩ v = true) (h : Ops P C nt Q all rest ⟨(d, v) :: tm, bx, ks⟩) : Ops P C nt Q all (o :: rest) ⟨tm, bx, ks⟩ := c0Y hg hd hp hn hk h
theorem a8V (hG : Gd P C nt ⟨tm, bx, ks⟩ all o g) (hd : o.dst = some d) (hp : g = true → Pu P C nt o ⟨tm, bx, ks⟩ v Ks Bs) (hn : Nat.blt d nt = true) (hk : a1p ⟨tm, bx, ks⟩ v = true) (h : Ops P C nt Q all rest ⟨(d, .opt g v) :: tm, bx, ks⟩) : Ops P C nt Q all (o :: rest) ⟨tm, bx, ks⟩ := c1e hG hd hp hn hk h
theorem a3k {f : FuncId} {xs : List Operand} {ats : Array TypeId} {us : List SV} (hg : o.guard = none) (hd : o.dst = some d) (ho : o.op = .call { callee := .value (.func f), args := xs.toArray, argTypes := ats })
  (hc : ∀ (args : Array Value) (w : World), (callFunc f args).run P w = .ok (.enter f args) w) (hf : PFn P f us X) (ha : a2t P C nt ⟨tm, bx, ks⟩ xs us) (hp : X.plain = true) (hn : Nat.blt d nt = true) (h : Ops P C nt Q all rest ⟨(d, X) :: tm, bx, ks⟩) : Ops P C nt Q all (o :: rest) ⟨tm, bx, ks⟩ :=
 a9N hg ((a9y ho hc hf hp ha).efg hd hn).ef fun σ' ⟨v, hv, e⟩ => by rw [e, hv]; exact h
theorem a1t {f : FuncId} {xs : List Operand} {ats : Array TypeId} {us : List SV} (hG : Gd P C nt ⟨tm, bx, ks⟩ all o g) (hd : o.dst = some d) (ho : o.op = .call { callee := .value (.func f), args := xs.toArray, argTypes := ats })
  (hc : ∀ (args : Array Value) (w : World), (callFunc f args).run P w = .ok (.enter f args) w) (hf : PFn P f us X) (ha : g = true → a2t P C nt ⟨tm, bx, ks⟩ xs us) (hp : X.plain = true) (hn : Nat.blt d nt = true) (h : Ops P C nt Q all rest ⟨(d, .opt g X) :: tm, bx, ks⟩) : Ops P C nt Q all (o :: rest) ⟨tm, bx, ks⟩ :=
 c5f hG hd (fun hg => a9y ho hc hf hp (ha hg)) (fun _ h => h) hn (by
  obtain ⟨_, h2, h3, _⟩ := a8q hp
  simp [a1p, h2, h3]) h
theorem a2U {f : FuncId} {xs : List Operand} {ats : Array TypeId} {us : List SV} {kk : List (Nat × Option KC)} (m : Nat) (hg : o.guard = none) (hd : o.dst = some d) (ho : o.op = .call { callee := .value (.func f), args := xs.toArray, argTypes := ats })
  (hc : ∀ (args : Array Value) (w : World), (callFunc f args).run P w = .ok (.enter f args) w) (hf : KFn P f us v kk) (ha : a2t P C nt ⟨tm, bx, ks⟩ xs us) (hn : Nat.blt d nt = true) (hres : v.retOk = true) (hfree : (kk.all fun q => (lkk ⟨tm, bx, ks⟩ (m + q.1)).isNone) = true)
  (h : Ops P C nt Q all rest ⟨(d, v.sh m) :: tm, bx, shK m kk ++ ks⟩) : Ops P C nt Q all (o :: rest) ⟨tm, bx, ks⟩ :=
 a9N hg (a9p (ι := Unit) (v := fun _ => v) (kk := fun _ => kk) (p := fun _ => True) m ho hd hn hc hf.ok ha (fun u σ' h => ⟨(), h.1, h.2, trivial⟩) (fun _ => hres) (fun _ => hfree)).ef fun σ' ⟨_, _, e⟩ => by rw [e]; exact h
theorem b9C {t : Nat} {p : Bool × List CV} (hg : o.guard = none) (hd : o.dst = some d) (ho : o.op = .box t x) (hx : Ev P C nt ⟨tm, bx, ks⟩ x v) (hp : v.part = some p) (hk : a1p ⟨tm, bx, ks⟩ v = true) (hn : Nat.blt d nt = true) (hi : look bx d = none)
  (h : Ops P C nt Q all rest ⟨(d, .box d 0) :: tm, (d, t, p.2) :: bx, ks⟩) : Ops P C nt Q all (o :: rest) ⟨tm, bx, ks⟩ := a3o hg (b8O ho hd hn hx hp hk hi).ef h
theorem c2F (hT : TTOk P T) {t sz by_ : Nat} {zc : List CV} (hg : o.guard = none) (hd : o.dst = some d) (ho : o.op = .alloc t) (ht : look T.el t = some (sz, by_, zc)) (hn : Nat.blt d nt = true) (hi : look bx d = none)
  (h : Ops P C nt Q all rest ⟨(d, .box d 0) :: tm, (d, t, zc) :: bx, ks⟩) : Ops P C nt Q all (o :: rest) ⟨tm, bx, ks⟩ := a3o hg (b2l hT ho hd hn ht hi).ef h
theorem a7D (hT : TTOk P T) {t b i t' sz by_ : Nat} {zc cs : List CV} {p : Bool × List CV} (hg : o.guard = none) (hd : o.dst = none) (ho : o.op = .store t x y) (ht : look T.el t = some (sz, by_, zc)) (hx : Ev P C nt ⟨tm, bx, ks⟩ x (.box b i)) (hy : Ev P C nt ⟨tm, bx, ks⟩ y v) (hp : v.part = some p) (hk : a1p ⟨tm, bx, ks⟩ v = true)
  (hb : look bx b = some (t', cs)) (hl : p.2.length = sz) (hle : Nat.ble (i + sz) cs.length = true) (hkc : (cs.flatMap CV.keys).all (fun k => (lkk ⟨tm, bx, ks⟩ k).isSome) = true)
  (h : Ops P C nt Q all rest ⟨tm, (b, t', a1c i p.2 cs) :: bx, ks⟩) : Ops P C nt Q all (o :: rest) ⟨tm, bx, ks⟩ := a3o hg (a4E hT ho hd ht hx hy hp hk hb hl hle hkc) h
end
theorem a0n : a2t P C nt σ [] [] := rfl
theorem a0f {xs : List Operand} {us : List SV} {v u : SV} (h1 : Ev P C nt σ x v) (h2 : a4l σ v u) (h3 : a2t P C nt σ xs us) : a2t P C nt σ (x :: xs) (u :: us) := ⟨v, u, us, rfl, h1, h2, h3⟩
theorem a0H {c c' : CV} (h : a2F σ c c') : a4l σ (.one c) (.one c') := ⟨c', h, rfl⟩
theorem a0l {cs cs' : List CV} (h : a5z σ cs cs') : a4l σ (.agg cs) (.agg cs') := ⟨cs', h, rfl⟩
theorem a0m : a5z σ [] [] := rfl
theorem a0c {c u : CV} {cs us : List CV} (h1 : a2F σ c u) (h2 : a5z σ cs us) : a5z σ (c :: cs) (u :: us) := ⟨u, us, rfl, h1, h2⟩
theorem a0b {K : List Nat} {d : DV} : a2F σ (.dv K d) (.dv [] d) := rfl
theorem a9l {k o : Nat} {d : DV} : a2F σ (.nest k o d) (.dv [] d) := rfl
theorem b8q {i : Nat} {d : DV} : a2F σ (.arg i d) (.dv [] d) := rfl
theorem b9p {k : Nat} {c : KC} {e' : TypeId} (h : lkk σ k = some c) : a2F σ (.key k) (.dv [] (.sl e' c.sz c.n c.cs)) := ⟨c, e', h, rfl⟩
theorem c4W {e sz : Nat} (h : Nat.blt 0 sz = true) : a2F σ .nil (.dv [] (.sl e sz 0 [])) := ⟨e, sz, by simpa [Nat.blt_eq] using h, rfl⟩
theorem a0w {k : IntKind} {n : Int} (h : (decide (k.min ≤ n) && decide (n ≤ k.max)) = true) : InR k n := by simpa [InR] using h
theorem a0S {s : ByteArray} (h : Nat.ble s.size 9223372036854775807 = true) : s.size ≤ 9223372036854775807 := by simpa [Nat.ble_eq] using h
theorem a0B {t : Nat} {v : SV} (h : look σ.tm t = some v) : a3z P σ (.tmp t) v := h
theorem a0K {T : TT} (hT : TTOk P T) {p ty b t n : Nat} {cs : List CV} (h1 : look σ.tm p = some (.box b 0)) (h2 : look σ.bx b = some (t, cs)) (h3 : look T.ag ty = some n) (h4 : Nat.beq cs.length n = true) : a3z P σ (.cell p ty) (.agg cs) :=
 ⟨b, t, cs, h1, h2, by rw [Nat.eq_of_beq_eq_true h4]; exact hT.ag ty n h3, rfl⟩
theorem a1B {rs : ResultVar} {v : SV} {Post : SV → St → Prop} (h : a3z P σ rs v) (k : Post v σ) : Fin P [rs] Post .ret σ := ⟨v, h, k⟩
theorem b3q {rs : ResultVar} {v : SV} {Post : SV → St → Prop} (h : a3z P σ rs v) (k : Post v σ) : Fin P [rs] Post .normal σ := ⟨v, h, k⟩
theorem a1W {r1 r2 : ResultVar} {u v : SV} {p q : Bool × List CV} {Post : SV → St → Prop} (h1 : a3z P σ r1 u) (h2 : a3z P σ r2 v) (hp : u.part = some p) (hq : v.part = some q) (k : Post (.tup [p, q]) σ) : Fin P [r1, r2] Post .ret σ := ⟨u, v, p, q, h1, h2, hp, hq, k⟩
theorem a1V {r1 r2 r3 : ResultVar} {u v t : SV} {p q s : Bool × List CV} {Post : SV → St → Prop} (h1 : a3z P σ r1 u) (h2 : a3z P σ r2 v) (h3 : a3z P σ r3 t) (hp : u.part = some p) (hq : v.part = some q) (hs : t.part = some s) (k : Post (.tup [p, q, s]) σ) : Fin P [r1, r2, r3] Post .ret σ := ⟨u, v, t, p, q, s, h1, h2, h3, hp, hq, hs, k⟩
end
theorem b4b {α : Type} [Inhabited α] (enc : α → List DV) (sz : Nat) (hs : ∀ x, (enc x).length = sz) : ∀ (xs : List α) (i : Nat), i < xs.length → sub (i * sz) sz (xs.flatMap enc) = enc (xs.getD i default)
 | [], i, h => by simp at h
 | x :: xs, 0, _ => by
  simp only [sub, Nat.zero_mul, List.drop_zero, List.flatMap_cons]
  rw [List.take_left' (hs x)]; rfl
 | x :: xs, i + 1, h => by
  have ih := b4b enc sz hs xs i (by simpa using h)
  simp only [sub, List.flatMap_cons] at ih ⊢
  rw [show (i + 1) * sz = (enc x).length + i * sz by rw [hs, Nat.add_mul]; omega, ← List.drop_drop, List.drop_left]
  simpa using ih
theorem a4t {P : Program} {C : Ctx} {nt : Nat} {σ : St} {o : Oper} {x y : Operand} {T : TT} (hT : TTOk P T) {α : Type} [Inhabited α] {t e' sz by_ : Nat} {zc : List CV} {K J : List Nat} {e : Nat} {z : Int} {xs : List α} {enc : α → List DV} (ho : o.op = .indexAddr t x y) (h : look T.sl t = some e') (he : look T.el e' = some (sz, by_, zc))
  (hx : Ev P C nt σ x (.one (.dv K (.sl e sz xs.length (xs.flatMap enc))))) (hy : Ev P C nt σ y (.one (.dv J (.int .i64 z)))) (hs : ∀ x, (enc x).length = sz) (h0 : 0 ≤ z) (h1 : z < xs.length) : Pu P C nt o σ (.ref K (enc (xs.getD z.toNat default))) [] [] := by
 have := b9L (i := z.toNat) hT ho h he hx hy (by omega) (by omega)
 rwa [b4b enc sz hs xs z.toNat (by omega)] at this
theorem a4c {z : Int} (h1 : -9223372036854775808 ≤ z) (h2 : z ≤ 9223372036854775807) : InR .i64 z := by
 unfold InR; simp only [IntKind.min, IntKind.max, IntKind.signed, IntKind.bits]; exact ⟨by simpa using h1, by simpa using h2⟩
@[reducible] def a0d (h : Bool) : DV → KC
 | .sl e sz n cs => ⟨h, e, sz, n, cs⟩
 | _ => ⟨h, 0, 1, 0, []⟩
theorem eqB {a b : Bool} (h : a = b) : SV.one (.dv [] (.bool a)) = SV.one (.dv [] (.bool b)) := by rw [h]
theorem eqI {k : IntKind} {a b : Int} (h : a = b) : SV.one (.dv [] (.int k a)) = SV.one (.dv [] (.int k b)) := by rw [h]
theorem eqS {a b : ByteArray} (h : a = b) : SV.one (.dv [] (.str a)) = SV.one (.dv [] (.str b)) := by rw [h]
def DV.len : DV → Nat
 | .sl _ _ n _ => n
 | _ => 0
@[reducible] def a9E : DV → Prop
 | .int .i64 n => -9223372036854775808 ≤ n ∧ n ≤ 9223372036854775807
 | .str s => s.size ≤ 9223372036854775807
 | .sl _ _ n _ => n ≤ 9223372036854775807
 | _ => True
theorem b5l {ok : Nat → Prop} {w : World} {d : DV} {v : Value} (h : Lay ok w d v) : a9E d := by
 cases d with
 | int k n =>
  simp only [Lay, InR] at h
  cases k <;> first | trivial | simpa [IntKind.min, IntKind.max, IntKind.signed, IntKind.bits] using h.2
 | str s => simp only [Lay] at h; exact h.2
 | sl e sz n cs => simp only [Lay] at h; obtain ⟨A, c, vs, _, h1, h2, _⟩ := h; simp only [a9E]; unfold maxLen at h2; omega
 | bool => trivial
 | hole => trivial
theorem a0G {P : Program} {C : Ctx} {nt : Nat} {Q : Exit → St → Prop} {c : Code} {σ : St} {x : Operand} {K : List Nat} {d : DV} (hx : Ev P C nt σ x (.one (.dv K d))) (h : a9E d → Ok P C nt Q c σ) : Ok P C nt Q c σ := Ok.mk fun L a w hr => by
 have h1 := hx.run L a w hr
 simp only [SVr, CVr] at h1
 exact (h (b5l h1)).run L a w hr
theorem b9M {P : Program} {C : Ctx} {nt : Nat} {Q : Exit → St → Prop} {c : Code} {σ : St} {x : Operand} {cs : List CV} {K : List Nat} {d : DV} (i : Nat) (hx : Ev P C nt σ x (.agg cs)) (hi : cs[i]? = some (.dv K d)) (h : a9E d → Ok P C nt Q c σ) : Ok P C nt Q c σ := Ok.mk fun L a w hr => by
 have h1 := hx.run L a w hr
 simp only [SVr] at h1
 obtain ⟨vs, _, h2⟩ := h1
 obtain ⟨v, _, h4⟩ := b2k i _ h2 hi
 exact (h (b5l h4)).run L a w hr
def SW (wb w : World) : Prop := wb.heap.size ≤ w.heap.size ∧ ∀ b, b < wb.heap.size → w.heap[b]? = wb.heap[b]?
theorem SW.refl (w : World) : SW w w := ⟨Nat.le_refl _, fun _ _ => rfl⟩
theorem SW.chg {wb w w' : World} (h : SW wb w) (hc : Chg [] w w') : SW wb w' := ⟨Nat.le_trans h.1 hc.size, fun b hb => (hc.block b (Nat.lt_of_lt_of_le hb h.1) (by simp)).trans (h.2 b hb)⟩
def b0F (o : Oper) : Bool := match o.op with | .store _ _ _ => false | .call { callee := .builtin .append, .. } => false | _ => true
def c0c (o : Oper) : Bool := match o.op with | .store _ _ _ | .extract _ _ | .alloc _ | .assign _ => true | _ => false
def a8A (o : Oper) : Bool := match o.op with | .extract _ _ => true | _ => false
def c0V (ops : Array Oper) (i : Nat) : Bool := (ops.toList.drop i).all c0c && (ops.toList.drop i).any (fun o => !(b0F o)) && (match ops[i]? with | some o => a8A o | none => false)
def hdF (ops : Array Oper) (i : Nat) : Bool := (ops.toList.take (i + 1)).all b0F && !(c0V ops i)
theorem b5C {P : Program} {o : Oper} {e : Operand → Value} {r : Value} {w : World} (ho : a8A o = true) (h : (execOp e o).run P w = .ok (.value r) w) (w' : World) : (execOp e o).run P w' = .ok (.value r) w' := by
 unfold a8A at ho
 split at ho
 ·rename_i x i hx
  unfold execOp at h ⊢
  simp only [hx, Instr.extract] at h ⊢
  revert h
  cases e x <;> simp
  rename_i vs
  intro h
  revert h
  split <;> simp
 ·cases ho
structure OpsD (P : Program) (C : Ctx) (nt : Nat) (Q : Exit → St → Prop) (all : Array Oper) (oB oK : List Nat) (hd : Nat → Bool) (listed : Array Bool) (fuel : Nat) (σ : St) : Prop where
 run : ∀ wb L a w, Rel P C nt L σ a w → SW wb w → C.w0.heap.size ≤ wb.heap.size → (∀ i ∈ oB, L.bb i < wb.heap.size) → (∀ k ∈ oK, ∀ b ∈ L.fp k, b < wb.heap.size) → a2q P .any all (QQ P C nt Q) (SW wb) hd fuel listed a w
section
variable {P : Program} {C : Ctx} {nt : Nat} {Q : Exit → St → Prop} {all : Array Oper} {oB oK : List Nat} {listed : Array Bool} {fuel : Nat} {hd' : Nat → Bool} {tm : List (Nat × SV)} {bx : List (Nat × TypeId × List CV)} {ks : List (Nat × Option KC)} {o : Oper} {d : Nat} {v X : SV} {Ks Bs : List Nat} {g : Bool}
theorem a9u {L : Lyt} {σ : St} {a : Act} {w : World} (h : Rel P C nt L σ a w) : Rel P C nt L σ a w.drew := h.grow ((Chg.refl [] w).drew)
theorem a1o {id : Nat} {l : List Oper} (hm : P.follows .mixedOrders = true) (hb : (oB.all fun i => (look bx i).isSome) = true) (hk : (oK.all fun k => (lkk ⟨tm, bx, ks⟩ k).isSome) = true)
  (h : OpsD P C nt Q l.toArray oB oK (hdF l.toArray) (Array.replicate l.length false) l.length ⟨tm, bx, ks⟩) : Ok P C nt Q (.region id l.toArray true) ⟨tm, bx, ks⟩ := Ok.mk fun L a w hr => by
 have hr' := a9u hr
 refine a9K (SW w.drew) (hdF l.toArray) hm ?_
 have := h.run w.drew L a w.drew hr' (SW.refl _) hr'.chg.size (fun i hi => ?_) (fun k hk' b hb' => ?_)
 ·simpa using this
 ·obtain ⟨x, hx⟩ := c5r.1 (List.all_eq_true.1 hb i hi)
  exact hr'.bx_lt hx
 ·obtain ⟨c, hc⟩ := c5r.1 (List.all_eq_true.1 hk k hk')
  exact hr'.k_lt hc b hb'
theorem a4G (hs : List Nat) {id : Nat} {l : List Oper} (hm : P.follows .mixedOrders = true) (hb : (oB.all fun i => (look bx i).isSome) = true) (hk : (oK.all fun k => (lkk ⟨tm, bx, ks⟩ k).isSome) = true)
  (h : OpsD P C nt Q l.toArray oB oK (fun i => hs.contains i) (Array.replicate l.length false) l.length ⟨tm, bx, ks⟩) : Ok P C nt Q (.region id l.toArray true) ⟨tm, bx, ks⟩ := Ok.mk fun L a w hr => by
 have hr' := a9u hr
 refine a9K (SW w.drew) (fun i => hs.contains i) hm ?_
 have := h.run w.drew L a w.drew hr' (SW.refl _) hr'.chg.size (fun i hi => ?_) (fun k hk' b hb' => ?_)
 ·simpa using this
 ·obtain ⟨x, hx⟩ := c5r.1 (List.all_eq_true.1 hb i hi)
  exact hr'.bx_lt hx
 ·obtain ⟨c, hc⟩ := c5r.1 (List.all_eq_true.1 hk k hk')
  exact hr'.k_lt hc b hb'
theorem a9O {L : Lyt} {σ : St} {a : Act} {w wb : World} (hr : Rel P C nt L σ a w) (hs : SW wb w) (hw : C.w0.heap.size ≤ wb.heap.size) (hB : ∀ i ∈ oB, L.bb i < wb.heap.size) (hK : ∀ k ∈ oK, ∀ b ∈ L.fp k, b < wb.heap.size) (hp : Pu P C nt o σ v Ks Bs)
  (h1 : (Ks.all fun k => oK.contains k) = true) (h2 : (Bs.all fun k => oB.contains k) = true) : ∃ r, SVr P C L w v r ∧ ∀ w', SW wb w' → (execOp a.eval o).run P w' = .ok (.value r) w' := by
 obtain ⟨r, h3, h4⟩ := hp.run L a w hr
 refine ⟨r, h3, fun w' hs' => h4 w' fun b _ hu => ?_⟩
 have hlt : b < wb.heap.size := by
  rcases hu with (⟨h5, _⟩ | ⟨k, hk, hb⟩) | ⟨i, hi, rfl⟩
  ·omega
  ·exact hK k (by simpa using List.all_eq_true.1 h1 k hk) b hb
  ·exact hB i (by simpa using List.all_eq_true.1 h2 i hi)
 rw [hs'.2 b hlt, hs.2 b hlt]
theorem a1X (i : Nat) (hi : all[i]? = some o) (ht : a4T .any all hd' listed i = true) (hg : o.guard = none) (hd : o.dst = some d) (hp : Pu P C nt o ⟨tm, bx, ks⟩ v Ks Bs) (h1 : (Ks.all fun k => oK.contains k) = true) (h2 : (Bs.all fun k => oB.contains k) = true) (hn : Nat.blt d nt = true) (hk : a1p ⟨tm, bx, ks⟩ v = true)
  (h : OpsD P C nt Q all oB oK hd' (listed.setIfInBounds i true) fuel ⟨(d, v) :: tm, bx, ks⟩) : OpsD P C nt Q all oB oK hd' listed (fuel + 1) ⟨tm, bx, ks⟩ := ⟨fun wb L a w hr hs hw hB hK => by
 obtain ⟨r, h3, h4⟩ := a9O hr hs hw hB hK hp h1 h2
 refine a6w i (v := r) hi ht (fun _ _ _ h => h) hs (.inl ⟨by simp [Region.wanted, hg], h4⟩) ?_
 rw [hd]
 exact h.run wb L _ w (hr.put (by simpa [Nat.blt_eq] using hn) h3 (a2f hk).1 (a2f hk).2) hs hw hB hK⟩
theorem c4i (i : Nat) (hi : all[i]? = some o) (ht : a8S .any all hd' listed i = true) (hx : a8A o = true) (hg : o.guard = none) (hd : o.dst = some d) (hp : Pu P C nt o ⟨tm, bx, ks⟩ v Ks Bs) (hn : Nat.blt d nt = true) (hk : a1p ⟨tm, bx, ks⟩ v = true)
  (h : OpsD P C nt Q all oB oK hd' (listed.setIfInBounds i true) fuel ⟨(d, v) :: tm, bx, ks⟩) : OpsD P C nt Q all oB oK hd' listed (fuel + 1) ⟨tm, bx, ks⟩ := ⟨fun wb L a w hr hs hw hB hK => by
 obtain ⟨r, h3, h4⟩ := hp.run L a w hr
 refine b6B i (v := r) hi ht (fun _ _ _ h => h) (.inl ⟨by simp [Region.wanted, hg], fun w' _ => b5C hx (h4 w fun _ _ _ => rfl) w'⟩) ?_
 rw [hd]
 exact h.run wb L _ w (hr.put (by simpa [Nat.blt_eq] using hn) h3 (a2f hk).1 (a2f hk).2) hs hw hB hK⟩
theorem a7k (i : Nat) (hi : all[i]? = some o) (ht : a4T .any all hd' listed i = true) (hG : Gd P C nt ⟨tm, bx, ks⟩ all o g) (hd : o.dst = some d) (hp : g = true → Pu P C nt o ⟨tm, bx, ks⟩ v Ks Bs) (h1 : (Ks.all fun k => oK.contains k) = true) (h2 : (Bs.all fun k => oB.contains k) = true) (hn : Nat.blt d nt = true) (hk : a1p ⟨tm, bx, ks⟩ v = true)
  (h : OpsD P C nt Q all oB oK hd' (listed.setIfInBounds i true) fuel ⟨(d, .opt g v) :: tm, bx, ks⟩) : OpsD P C nt Q all oB oK hd' listed (fuel + 1) ⟨tm, bx, ks⟩ := ⟨fun wb L a w hr hs hw hB hK => by
 have hG' := hG.run L a w hr
 have hd' : d < nt := by simpa [Nat.blt_eq] using hn
 cases hgv : g with
 | true =>
  obtain ⟨r, h3, h4⟩ := a9O hr hs hw hB hK (hp hgv) h1 h2
  refine a6w i (v := r) hi ht (fun _ _ _ h => h) hs (.inl ⟨by rw [hG', hgv], h4⟩) ?_
  rw [hd]
  exact h.run wb L _ w (hr.put hd' (by simp only [SVr]; exact ⟨fun _ => h3, fun e => by rw [hgv] at e; cases e⟩) (a2f hk).1 (a2f hk).2) hs hw hB hK
 | false =>
  refine a6w i (v := undef) hi ht (fun _ _ _ h => h) hs (.inr ⟨by rw [hG', hgv], rfl⟩) ?_
  rw [hd]
  exact h.run wb L _ w (hr.put hd' (by simp only [SVr]; exact ⟨fun e => (by rw [hgv] at e; cases e), fun _ => trivial⟩) (a2f hk).1 (a2f hk).2) hs hw hB hK⟩
theorem c1G {P : Program} {ops : Array Oper} {Q : Exit → Act → World → Prop} {md : Region.Mode} {S : World → Prop} {hd : Nat → Bool} (i : Nat) {oi : Oper} {fuel : Nat} {listed : Array Bool} {a : Act} {w : World} (hi : ops[i]? = some oi)
  (hr : (Region.ready md ops listed == [i]) = true)
  (h : ∀ K : Act → World → Prop, (∀ a' w', (hd i = true → S w') → a2q P md ops Q S hd fuel (listed.setIfInBounds i true) a' w' → K a' w') → if Region.wanted oi (yielded ops a.tmps) = true then oi.wp P a w K Q else K (a.put oi.dst undef) w) :
  a2q P md ops Q S hd (fuel + 1) listed a w := by
 have hr' : Region.ready md ops listed = [i] := by simpa using hr
 refine ⟨fun h0 => (by rw [hr'] at h0; cases h0), fun j hj => ?_⟩
 rw [hr', List.mem_singleton] at hj
 subst hj
 have h' := h (fun a' w' => (hd j = true → S w') ∧ a2q P md ops Q S hd fuel (listed.setIfInBounds j true) a' w') (fun a' w' h1 h2 => ⟨h1, h2⟩)
 unfold wpOp
 simp only [hi]
 split
 ·rename_i e; rw [if_pos e] at h'; exact .inl h'
 ·rename_i e; rw [if_neg e] at h'; exact h'
theorem b9z (i : Nat) {R : SV → Prop} (hi : all[i]? = some o) (ht : (Region.ready .any all listed == [i]) = true) (hG : Gd P C nt ⟨tm, bx, ks⟩ all o g) (hd : o.dst = some d) (hp : g = true → Pc P C nt o ⟨tm, bx, ks⟩ R) (hR : ∀ u, R u → u = v) (hv : v.keys = [] ∧ v.boxes = []) (hn : Nat.blt d nt = true)
  (h : OpsD P C nt Q all oB oK hd' (listed.setIfInBounds i true) fuel ⟨(d, .opt g v) :: tm, bx, ks⟩) : OpsD P C nt Q all oB oK hd' listed (fuel + 1) ⟨tm, bx, ks⟩ := ⟨fun wb L a w hr hs hw hB hK => by
 have hG' := hG.run L a w hr
 have hd' : d < nt := by simpa [Nat.blt_eq] using hn
 refine c1G i hi ht fun K hK' => ?_
 rw [hG']
 split
 ·rename_i e
  refine (hp e).run L a w hr _ _ fun u r w' hu _ h1 hc => hK' _ _ (fun _ => hs.chg hc) (h.run wb L _ w' ?_ (hs.chg hc) hw hB hK)
  rw [hd]
  exact (hr.grow hc).put hd' (by simp only [SVr]; exact ⟨fun _ => by rw [← hR u hu]; exact h1, fun e' => by rw [e] at e'; cases e'⟩) (by simp [SV.keys, hv.1]) (by simp [SV.boxes, hv.2])
 ·rename_i e
  refine hK' _ _ (fun _ => hs) (h.run wb L _ w ?_ hs hw hB hK)
  rw [hd]
  exact hr.put hd' (by simp only [SVr]; exact ⟨fun e' => absurd e' e, fun _ => trivial⟩) (by simp [SV.keys, hv.1]) (by simp [SV.boxes, hv.2])⟩
theorem a4f (i : Nat) {f : FuncId} {xs : List Operand} {ats : Array TypeId} {us : List SV} (hi : all[i]? = some o) (ht : (Region.ready .any all listed == [i]) = true) (hG : Gd P C nt ⟨tm, bx, ks⟩ all o g) (hd : o.dst = some d) (ho : o.op = .call { callee := .value (.func f), args := xs.toArray, argTypes := ats })
  (hc : ∀ (args : Array Value) (w : World), (callFunc f args).run P w = .ok (.enter f args) w) (hf : PFn P f us X) (ha : g = true → a2t P C nt ⟨tm, bx, ks⟩ xs us) (hp : X.plain = true) (hn : Nat.blt d nt = true)
  (h : OpsD P C nt Q all oB oK hd' (listed.setIfInBounds i true) fuel ⟨(d, .opt g X) :: tm, bx, ks⟩) : OpsD P C nt Q all oB oK hd' listed (fuel + 1) ⟨tm, bx, ks⟩ :=
 b9z i hi ht hG hd (fun hg => a9y ho hc hf hp (ha hg)) (fun _ h => h) (by obtain ⟨_, h2, h3, _⟩ := a8q hp; exact ⟨h2, h3⟩) hn h
theorem b7t (i : Nat) {R : St → Prop} (hi : all[i]? = some o) (ht : (Region.ready .any all listed == [i]) = true) (hg : o.guard = none) (hp : EfG P C nt o ⟨tm, bx, ks⟩ R) (hb : (oB.all fun i => (look bx i).isSome) = true) (hk : (oK.all fun k => (lkk ⟨tm, bx, ks⟩ k).isSome) = true)
  (h : ∀ σ', R σ' → OpsD P C nt Q all oB oK hd' (listed.setIfInBounds i true) fuel σ') : OpsD P C nt Q all oB oK hd' listed (fuel + 1) ⟨tm, bx, ks⟩ := ⟨fun wb L a w hr hs hw hB hK => by
 refine a8D i hi hg ht fun K hK' => hp.run L a w hr _ _ fun L' σ' a' w' h1 h2 h3 => hK' _ _ (fun _ => hs.chg h3.chg) ((h σ' h1).run wb L' a' w' h2 (hs.chg h3.chg) hw (fun j hj => ?_) (fun k hk' => ?_))
 ·obtain ⟨x, hx⟩ := c5r.1 (List.all_eq_true.1 hb j hj)
  rw [h3.box j x hx]; exact hB j hj
 ·obtain ⟨c, hc⟩ := c5r.1 (List.all_eq_true.1 hk k hk')
  rw [h3.key k c hc]; exact hK k hk'⟩
theorem a2v (i : Nat) {f : FuncId} {xs : List Operand} {ats : Array TypeId} {us : List SV} (hi : all[i]? = some o) (ht : (Region.ready .any all listed == [i]) = true) (hg : o.guard = none) (hd : o.dst = some d) (ho : o.op = .call { callee := .value (.func f), args := xs.toArray, argTypes := ats })
  (hc : ∀ (args : Array Value) (w : World), (callFunc f args).run P w = .ok (.enter f args) w) (hf : PFn P f us X) (ha : a2t P C nt ⟨tm, bx, ks⟩ xs us) (hp : X.plain = true) (hn : Nat.blt d nt = true)
  (hb : (oB.all fun i => (look bx i).isSome) = true) (hk : (oK.all fun k => (lkk ⟨tm, bx, ks⟩ k).isSome) = true)
  (h : OpsD P C nt Q all oB oK hd' (listed.setIfInBounds i true) fuel ⟨(d, X) :: tm, bx, ks⟩) : OpsD P C nt Q all oB oK hd' listed (fuel + 1) ⟨tm, bx, ks⟩ :=
 b7t i hi ht hg ((a9y ho hc hf hp ha).efg hd hn) hb hk fun σ' ⟨v, hv, e⟩ => by rw [e, hv]; exact h
theorem a3L (m i : Nat) {f : FuncId} {xs : List Operand} {ats : Array TypeId} {us : List SV} {kk : List (Nat × Option KC)} (hi : all[i]? = some o) (ht : (Region.ready .any all listed == [i]) = true) (hg : o.guard = none) (hd : o.dst = some d) (ho : o.op = .call { callee := .value (.func f), args := xs.toArray, argTypes := ats })
  (hc : ∀ (args : Array Value) (w : World), (callFunc f args).run P w = .ok (.enter f args) w) (hf : KFn P f us v kk) (ha : a2t P C nt ⟨tm, bx, ks⟩ xs us) (hn : Nat.blt d nt = true) (hres : v.retOk = true) (hfree : (kk.all fun q => (lkk ⟨tm, bx, ks⟩ (m + q.1)).isNone) = true)
  (hb : (oB.all fun i => (look bx i).isSome) = true) (hk : (oK.all fun k => (lkk ⟨tm, bx, ks⟩ k).isSome) = true)
  (h : OpsD P C nt Q all oB oK hd' (listed.setIfInBounds i true) fuel ⟨(d, v.sh m) :: tm, bx, shK m kk ++ ks⟩) : OpsD P C nt Q all oB oK hd' listed (fuel + 1) ⟨tm, bx, ks⟩ :=
 b7t i hi ht hg (a9p (ι := Unit) (v := fun _ => v) (kk := fun _ => kk) (p := fun _ => True) m ho hd hn hc hf.ok ha (fun u σ' h => ⟨(), h.1, h.2, trivial⟩) (fun _ => hres) (fun _ => hfree)) hb hk fun σ' ⟨_, _, e⟩ => by rw [e]; exact h
theorem a1R (ht : (Region.ready .any all listed).isEmpty = true) (h : Q .normal ⟨tm, bx, ks⟩) : OpsD P C nt Q all oB oK hd' listed fuel ⟨tm, bx, ks⟩ := ⟨fun _ L _ _ hr _ _ _ _ => a9k ht ⟨L, _, hr, h⟩ fuel⟩
theorem a9C {α : Type} {f : Nat → Option α} : ∀ {is : List Nat}, (is.all fun i => (f i).isSome) = true → is.map f = (is.filterMap f).map some
 | [], _ => rfl
 | i :: is, h => by
  simp only [List.all_cons, Bool.and_eq_true] at h
  obtain ⟨x, hx⟩ := c5r.1 h.1
  rw [List.map_cons, List.filterMap_cons, hx, List.map_cons, a9C h.2]
theorem a3c (is : List Nat) (hm : (is.all fun i => (all[i]?).isSome) = true) (hf : Nat.ble is.length fuel = true) (hc : a7K .any all hd' is listed = true) (h : Ops P C nt Q all (is.filterMap fun i => all[i]?) ⟨tm, bx, ks⟩) : OpsD P C nt Q all oB oK hd' listed fuel ⟨tm, bx, ks⟩ := ⟨fun wb L a w hr _ _ _ _ =>
 a9h is _ listed fuel a w (a9C hm) (by simpa [Nat.ble_eq] using hf) hc (h.run L a w hr)⟩
theorem b3g (i : Nat) {σ₁ : St} (hi : all[i]? = some o) (ht : (Region.ready .any all listed == [i]) = true) (hg : o.guard = none) (hh : hd' i = false) (hp : Ef P C nt o ⟨tm, bx, ks⟩ (fun σ' => σ' = σ₁)) (he : (Region.ready .any all (listed.setIfInBounds i true)).isEmpty = true)
  (h : Q .normal σ₁) : OpsD P C nt Q all oB oK hd' listed (fuel + 1) ⟨tm, bx, ks⟩ := ⟨fun _ L a w hr _ _ _ _ =>
 a8D i hi hg ht fun K hK' => hp.run L a w hr _ _ fun L' σ' a' w' h1 h2 => hK' _ _ (fun e => by rw [hh] at e; cases e) (a9k he ⟨L', σ', h2, by rw [h1]; exact h⟩ fuel)⟩
end
/-! ### bytes of strings; comparison of structs -/
def bAt (s : ByteArray) (n : Nat) : UInt8 := s.data.toList.getD n 0
theorem b6h {P : Program} {C : Ctx} {nt : Nat} {σ : St} {o : Oper} {x y : Operand} {T : TT} (hT : TTOk P T) {t : Nat} {u : Unit} {K J : List Nat} {s : ByteArray} {z : Int} (ho : o.op = .index t x y) (h : look T.st t = some u) (hx : Ev P C nt σ x (.one (.dv K (.str s)))) (hy : Ev P C nt σ y (.one (.dv J (.int .i64 z)))) (h0 : 0 ≤ z) (h1 : z < s.size) : Pu P C nt o σ (.one (.dv [] (.int .u8 ((bAt s z.toNat).toNat : Int)))) [] [] := Pu.mk fun L a w hr => by
 have h2 := hx.run L a w hr
 have h3 := hy.run L a w hr
 simp only [SVr, CVr, Lay] at h2 h3
 have h4 := hT.st t u h
 have hlt : z.toNat < s.size := by omega
 have hb : s[z.toNat]? = some (bAt s z.toNat) := by
  rw [getElem?_pos s z.toNat hlt]
  simp only [bAt, List.getD, Option.some.injEq]
  have : z.toNat < s.data.toList.length := by simpa using hlt
  rw [List.getElem?_eq_getElem this]
  rfl
 refine ⟨.int .u8 ((bAt s z.toNat).toNat : Int), by unfold SVr CVr Lay; exact ⟨rfl, by unfold InR; simp [IntKind.min, IntKind.max, IntKind.signed, IntKind.bits]; have := (bAt s z.toNat).toNat_lt; omega⟩, fun w' _ => ?_⟩
 unfold execOp
 simp only [ho, h2.1, h3.1, Instr.index, asIntOf, Sem.run_bind, Sem.run_pure, Result.andThen_ok, run_underlying h4, if_pos h0, hb]
def pv : CV → Option Value
 | .dv _ (.int k n) => some (.int k n)
 | .dv _ (.bool b) => some (.bool b)
 | .dv _ (.str s) => some (.string s)
 | _ => none
def pvs : List CV → Option (List Value)
 | [] => some []
 | c :: cs => match pv c, pvs cs with | some v, some vs => some (v :: vs) | _, _ => none
theorem b1N {C : Ctx} {L : Lyt} {w : World} : ∀ {cs : List CV} {vs us : List Value}, pvs cs = some us → CVL C L w cs vs → vs = us
 | [], vs, us, h, hv => by simp only [pvs, Option.some.injEq] at h; simp only [CVL] at hv; rw [← h, hv]
 | c :: cs, _, us, h, ⟨v, vs', e, h1, h2⟩ => by
  subst e
  simp only [pvs] at h
  split at h
  ·rename_i v' vs'' h3 h4
   simp only [Option.some.injEq] at h; subst h
   rw [b1N h4 h2]
   congr 1
   unfold pv at h3
   split at h3
   ·simp only [Option.some.injEq] at h3; subst h3; simp only [CVr, Lay] at h1; exact h1.1
   ·simp only [Option.some.injEq] at h3; subst h3; simp only [CVr, Lay] at h1; exact h1
   ·simp only [Option.some.injEq] at h3; subst h3; simp only [CVr, Lay] at h1; exact h1.1
   ·cases h3
  ·cases h
theorem b0c {P : Program} {C : Ctx} {nt : Nat} {σ : St} {o : Oper} {x y : Operand} {op : BinOp} {t ty : TypeId} {cs ds : List CV} {us vs : List Value} {b : Bool} (ho : o.op = .binOp op t x y ty) (hx : Ev P C nt σ x (.agg cs)) (hy : Ev P C nt σ y (.agg ds)) (h1 : pvs cs = some us) (h2 : pvs ds = some vs)
  (hg : P.eqGuardType P.depth t = false) (hrun : ∀ w : World, (binOp op t (.agg us.toArray) (.agg vs.toArray)).run P w = .ok (.bool b) w) : Pu P C nt o σ (.one (.dv [] (.bool b))) [] [] := Pu.mk fun L a w hr => by
 have h3 := hx.run L a w hr
 have h4 := hy.run L a w hr
 simp only [SVr] at h3 h4
 obtain ⟨us', e1, k1⟩ := h3
 obtain ⟨vs', e2, k2⟩ := h4
 have := b1N h1 k1; subst this
 have := b1N h2 k2; subst this
 refine ⟨.bool b, by simp only [SVr, CVr, Lay], fun w' _ => ?_⟩
 unfold execOp
 simp only [ho, e1, e2, Sem.run_bind, run_eqGuard_agg w' op t x y _ _ hg, Result.andThen_ok, hrun, Sem.run_pure]
def CV.kill (vs rs : List Nat) : CV → CV
 | .dv K d => bif K.any (fun k => vs.contains k) then .any else .dv K d
 | .key k => bif rs.contains k then .any else .key k
 | .nest k o d => bif vs.contains k then .any else .nest k o d
 | c => c
def SV.kill (vs rs : List Nat) : SV → SV
 | .one c => .one (c.kill vs rs)
 | .agg cs => .agg (cs.map (CV.kill vs rs))
 | .tup ts => .tup (ts.map fun t => (t.1, t.2.map (CV.kill vs rs)))
 | .ref K ds => bif K.any (fun k => vs.contains k) then .any else .ref K ds
 | .eptr k o => bif rs.contains k then .any else .eptr k o
 | .ksl k lo hi sz => bif rs.contains k then .any else .ksl k lo hi sz
 | .opt g v => .opt g (v.kill vs rs)
 | v => v
def a0i (vs rs : List Nat) (tm : List (Nat × SV)) : List (Nat × SV) := tm.map fun p => (p.1, p.2.kill vs rs)
def a0h (vs rs : List Nat) (bx : List (Nat × TypeId × List CV)) : List (Nat × TypeId × List CV) := bx.map fun p => (p.1, p.2.1, p.2.2.map (CV.kill vs rs))
section
variable {P : Program} {C : Ctx} {nt : Nat} {L L' : Lyt} {σ : St} {a : Act} {w w' : World} {vs rs : List Nat}
structure KillOk (C : Ctx) (L L' : Lyt) (w w' : World) (live : Nat → Prop) (vs rs : List Nat) : Prop where
 key : ∀ k, live k → k ∉ vs → L'.fp k = L.fp k ∧ ∀ b ∈ L.fp k, b < w.heap.size → w'.heap[b]? = w.heap[b]?
 root : ∀ k, live k → k ∉ rs → L'.rv k = L.rv k
 sub : ∀ k, k ∉ vs → k ∉ rs
 old : ∀ b, b < C.w0.heap.size → b ∉ C.S0 → w'.heap[b]? = w.heap[b]?
theorem KillOk.keeps {live : Nat → Prop} (h : KillOk C L L' w w' live vs rs) {ks : List Nat} (hl : ∀ k ∈ ks, live k) (hv : ∀ k ∈ ks, k ∉ vs) : Keeps2 C L L' w w' ks :=
 ⟨fun k hk => ⟨(h.key k (hl k hk) (hv k hk)).1, h.root k (hl k hk) (h.sub k (hv k hk)), (h.key k (hl k hk) (hv k hk)).2⟩, h.old⟩
theorem b0i {K vs : List Nat} (h : (K.any fun k => vs.contains k) = false) : ∀ k ∈ K, k ∉ vs := by
 intro k hk hv
 rw [List.any_eq_false] at h
 exact h k hk (by simpa using hv)
theorem b5d {live : Nat → Prop} (h : KillOk C L L' w w' live vs rs) {c : CV} {v : Value} (hl : ∀ k ∈ c.keys, live k) (h1 : v.oneCell' = true) (hc : CVr C L w c v) : CVr C L' w' (c.kill vs rs) v ∧ (c.kill vs rs).keys.all (fun k => c.keys.contains k && !rs.contains k) = true := by
 cases c with
 | dv K d =>
  simp only [CV.kill]
  cases hb : K.any fun k => vs.contains k with
  | true => exact ⟨h1, rfl⟩
  | false =>
   have h2 := b0i hb
   refine ⟨a8Y (c := .dv K d) (h.keeps hl h2) hc, ?_⟩
   rw [List.all_eq_true]
   intro k hk
   have := h.sub k (h2 k hk)
   simp only [cond_false, CV.keys] at hk
   simp [CV.keys, hk, this]
 | key k =>
  simp only [CV.kill]
  cases hb : rs.contains k with
  | true => exact ⟨h1, rfl⟩
  | false =>
   have h2 : k ∉ rs := by simpa using hb
   simp only [CVr] at hc
   refine ⟨?_, by simp [CV.keys, h2]⟩
   simp only [cond_false, CVr]
   rw [hc, h.root k (hl k (by simp [CV.keys])) h2]
 | nest k o d =>
  simp only [CV.kill]
  cases hb : vs.contains k with
  | true => exact ⟨h1, rfl⟩
  | false =>
   have h2 : k ∉ vs := by simpa using hb
   have h3 := h.sub k h2
   refine ⟨a8Y (c := .nest k o d) (h.keeps hl (by intro j hj; simp only [CV.keys, List.mem_singleton] at hj; rw [hj]; exact h2)) hc, by simp [CV.keys, h3]⟩
 | arg i d => exact ⟨a8Y (c := .arg i d) (h.keeps (ks := []) (by simp) (by simp)) hc, rfl⟩
 | nil => exact ⟨hc, rfl⟩
 | any => exact ⟨hc, rfl⟩
theorem a9j {live : Nat → Prop} (h : KillOk C L L' w w' live vs rs) : ∀ {cs : List CV} {us : List Value}, (∀ k ∈ cs.flatMap CV.keys, live k) → (∀ u ∈ us, u.oneCell' = true) → CVL C L w cs us → CVL C L' w' (cs.map (CV.kill vs rs)) us ∧ ∀ k ∈ (cs.map (CV.kill vs rs)).flatMap CV.keys, k ∈ cs.flatMap CV.keys ∧ k ∉ rs
 | [], _, _, _, hc => ⟨hc, by simp⟩
 | c :: cs, _, hl, h1, ⟨v, us', e, h2, h3⟩ => by
  subst e
  obtain ⟨g1, g2⟩ := b5d h (fun k hk => hl k (by simp only [List.flatMap_cons, List.mem_append]; exact .inl hk)) (h1 v (by simp)) h2
  obtain ⟨k1, k2⟩ := a9j h (fun k hk => hl k (by simp only [List.flatMap_cons, List.mem_append]; exact .inr hk)) (fun u hu => h1 u (by simp [hu])) h3
  refine ⟨⟨v, us', rfl, g1, k1⟩, fun k hk => ?_⟩
  simp only [List.map_cons, List.flatMap_cons, List.mem_append] at hk ⊢
  rcases hk with hk | hk
  ·have := List.all_eq_true.1 g2 k hk
   simp only [Bool.and_eq_true, List.contains_iff_mem, Bool.not_eq_true', ← Bool.not_eq_true] at this
   exact ⟨.inl this.1, this.2⟩
  ·exact ⟨.inr (k2 k hk).1, (k2 k hk).2⟩
theorem b6w {live : Nat → Prop} (h : KillOk C L L' w w' live vs rs) : ∀ {ts : List (Bool × List CV)} {us : List Value}, (∀ k ∈ ts.flatMap (fun t => t.2.flatMap CV.keys), live k) → (∀ g cs xs, (g, cs) ∈ ts → CVL C L w cs xs → ∀ u ∈ xs, u.oneCell' = true) → TVL C L w ts us →
  TVL C L' w' (ts.map fun t => (t.1, t.2.map (CV.kill vs rs))) us ∧ ∀ k ∈ (ts.map fun t => (t.1, t.2.map (CV.kill vs rs))).flatMap (fun t => t.2.flatMap CV.keys), k ∈ ts.flatMap (fun t => t.2.flatMap CV.keys) ∧ k ∉ rs
 | [], _, _, _, hc => ⟨hc, by simp⟩
 | (g, cs) :: ts, _, hl, h1, ⟨xs, v, us', e, h2, h3, h4⟩ => by
  subst e
  obtain ⟨g1, g2⟩ := a9j h (fun k hk => hl k (by simp only [List.flatMap_cons, List.mem_append]; exact .inl hk)) (h1 g cs xs (by simp) h2) h2
  obtain ⟨k1, k2⟩ := b6w h (fun k hk => hl k (by simp only [List.flatMap_cons, List.mem_append]; exact .inr hk)) (fun g' cs' xs' hm => h1 g' cs' xs' (by simp [hm])) h4
  refine ⟨⟨xs, v, us', rfl, g1, h3, k1⟩, fun k hk => ?_⟩
  simp only [List.map_cons, List.flatMap_cons, List.mem_append] at hk ⊢
  rcases hk with hk | hk
  ·exact ⟨.inl (g2 k hk).1, (g2 k hk).2⟩
  ·exact ⟨.inr (k2 k hk).1, (k2 k hk).2⟩
theorem b2U (hsub : ∀ k, k ∉ vs → k ∉ rs) (c : CV) : ∀ k ∈ (c.kill vs rs).keys, k ∈ c.keys ∧ k ∉ rs := by
 intro k hk
 cases c with
 | dv K d =>
  simp only [CV.kill] at hk
  cases hbb : K.any fun k => vs.contains k with
  | true => rw [hbb] at hk; simp [CV.keys] at hk
  | false => rw [hbb] at hk; simp only [cond_false] at hk; exact ⟨hk, hsub k (b0i hbb k hk)⟩
 | key j =>
  simp only [CV.kill] at hk
  cases hbb : rs.contains j with
  | true => rw [hbb] at hk; simp [CV.keys] at hk
  | false => rw [hbb] at hk; simp only [cond_false, CV.keys, List.mem_singleton] at hk ⊢; exact ⟨hk, by rw [hk]; simpa using hbb⟩
 | nest j o d =>
  simp only [CV.kill] at hk
  cases hbb : vs.contains j with
  | true => rw [hbb] at hk; simp [CV.keys] at hk
  | false => rw [hbb] at hk; simp only [cond_false, CV.keys, List.mem_singleton] at hk ⊢; exact ⟨hk, by rw [hk]; exact hsub j (by simpa using hbb)⟩
 | arg i d => simp [CV.kill, CV.keys] at hk
 | nil => simp [CV.kill, CV.keys] at hk
 | any => simp [CV.kill, CV.keys] at hk
theorem a9n (hsub : ∀ k, k ∉ vs → k ∉ rs) (cs : List CV) : ∀ k ∈ (cs.map (CV.kill vs rs)).flatMap CV.keys, k ∈ cs.flatMap CV.keys ∧ k ∉ rs := by
 intro k hk
 obtain ⟨c', hc', hk'⟩ := List.mem_flatMap.1 hk
 obtain ⟨c, hc, rfl⟩ := List.mem_map.1 hc'
 exact ⟨List.mem_flatMap.2 ⟨c, hc, (b2U hsub c k hk').1⟩, (b2U hsub c k hk').2⟩
theorem a9s (hsub : ∀ k, k ∉ vs → k ∉ rs) : ∀ s : SV, (∀ k ∈ (s.kill vs rs).keys, k ∈ s.keys ∧ k ∉ rs) ∧ (s.kill vs rs).boxes.all (fun b => s.boxes.contains b) = true
 | .one c => ⟨b2U hsub c, rfl⟩
 | .agg cs => ⟨a9n hsub cs, rfl⟩
 | .tup ts => by
  refine ⟨fun k hk => ?_, rfl⟩
  simp only [SV.kill, SV.keys] at hk ⊢
  obtain ⟨t', ht', hk'⟩ := List.mem_flatMap.1 hk
  obtain ⟨t, ht, rfl⟩ := List.mem_map.1 ht'
  exact ⟨List.mem_flatMap.2 ⟨t, ht, (a9n hsub t.2 k hk').1⟩, (a9n hsub t.2 k hk').2⟩
 | .box b off => ⟨by simp [SV.kill, SV.keys], by simp [SV.kill, SV.boxes]⟩
 | .abox b => ⟨by simp [SV.kill, SV.keys], by simp [SV.kill, SV.boxes]⟩
 | .ref K ds => by
  simp only [SV.kill]
  cases hbb : K.any fun k => vs.contains k with
  | true => exact ⟨by simp [SV.keys], by simp [SV.boxes]⟩
  | false => exact ⟨fun k hk => ⟨hk, hsub k (b0i hbb k hk)⟩, by simp [SV.boxes]⟩
 | .eptr j o => by
  simp only [SV.kill]
  cases hbb : rs.contains j with
  | true => exact ⟨by simp [SV.keys], by simp [SV.boxes]⟩
  | false => exact ⟨fun k hk => by simp only [cond_false, SV.keys, List.mem_singleton] at hk ⊢; exact ⟨hk, by rw [hk]; simpa using hbb⟩, by simp [SV.boxes]⟩
 | .ksl j lo hi sz => by
  simp only [SV.kill]
  cases hbb : rs.contains j with
  | true => exact ⟨by simp [SV.keys], by simp [SV.boxes]⟩
  | false => exact ⟨fun k hk => by simp only [cond_false, SV.keys, List.mem_singleton] at hk ⊢; exact ⟨hk, by rw [hk]; simpa using hbb⟩, by simp [SV.boxes]⟩
 | .fn f caps => ⟨by simp [SV.kill, SV.keys], by simp [SV.kill, SV.boxes]⟩
 | .clo f caps => ⟨by simp [SV.kill, SV.keys], by simp [SV.kill, SV.boxes]⟩
 | .opt g v => a9s hsub v
 | .any => ⟨by simp [SV.kill, SV.keys], by simp [SV.kill, SV.boxes]⟩
theorem b2F (hr : Rel P C nt L σ a w) (h : KillOk C L L' w w' (fun k => (lkk σ k).isSome = true) vs rs) (hb : L'.bb = L.bb) : ∀ {s : SV} {r : Value}, (∀ k ∈ s.keys, (lkk σ k).isSome = true) → SVr P C L w s r → SVr P C L' w' (s.kill vs rs) r
 | .one c, r, hl, hs => by
  simp only [SVr, SV.kill] at hs ⊢
  exact (b5d h hl (b6t hr hl hs) hs).1
 | .agg cs, r, hl, hs => by
  simp only [SVr, SV.kill] at hs ⊢
  obtain ⟨us, e, h1⟩ := hs
  exact ⟨us, e, (a9j h hl (a8l hr hl h1) h1).1⟩
 | .tup ts, r, hl, hs => by
  simp only [SVr, SV.kill] at hs ⊢
  obtain ⟨us, e, h1⟩ := hs
  exact ⟨us, e, (b6w h hl (fun g cs xs hm hx => a8l hr (fun k hk => hl k (List.mem_flatMap.2 ⟨_, hm, hk⟩)) hx) h1).1⟩
 | .box b off, r, hl, hs => by
  simp only [SVr, SV.kill] at hs ⊢
  rw [hb]; exact hs
 | .abox b, r, hl, hs => by
  simp only [SVr, SV.kill] at hs ⊢
  rw [hb]; exact hs
 | .ref K ds, r, hl, hs => by
  simp only [SV.kill]
  cases hbb : K.any fun k => vs.contains k with
  | true => simp only [cond_true, SVr]
  | false => exact a7l (s := .ref K ds) (h.keeps hl (b0i hbb)) (by simp [SV.boxes]) hs
 | .eptr k o, r, hl, hs => by
  simp only [SV.kill]
  cases hbb : rs.contains k with
  | true => simp only [cond_true, SVr]
  | false =>
   have h2 : k ∉ rs := by simpa using hbb
   simp only [SVr, cond_false] at hs ⊢
   obtain ⟨g, n, c, e1, e2⟩ := hs
   exact ⟨g, n, c, by rw [h.root k (hl k (by simp [SV.keys])) h2]; exact e1, e2⟩
 | .ksl k lo hi sz, r, hl, hs => by
  simp only [SV.kill]
  cases hbb : rs.contains k with
  | true => simp only [cond_true, SVr]
  | false =>
   have h2 : k ∉ rs := by simpa using hbb
   simp only [SVr, cond_false] at hs ⊢
   obtain ⟨A, n, c, e1, e2⟩ := hs
   exact ⟨A, n, c, by rw [h.root k (hl k (by simp [SV.keys])) h2]; exact e1, e2⟩
 | .fn f caps, r, _, hs => by simp only [SVr, SV.kill] at hs ⊢; obtain ⟨vs, e, h1⟩ := hs; exact ⟨vs, e, b2O (h.keeps (ks := []) (by simp) (by simp)) h1⟩
 | .clo f caps, r, _, hs => by simp only [SVr, SV.kill] at hs ⊢; rw [hb]; exact hs
 | .opt g v, r, hl, hs => by
  simp only [SVr, SV.kill] at hs ⊢
  exact ⟨fun e => b2F hr h hb (s := v) hl (hs.1 e), hs.2⟩
 | .any, _, _, _ => by simp only [SVr, SV.kill]
def St.mut (σ : St) (k : Nat) (js : List Nat) (same : Bool) (c' : KC) : St :=
 ⟨a0i (k :: js) (bif same then js else k :: js) σ.tm, a0h (k :: js) (bif same then js else k :: js) σ.bx, (k, some c') :: (js.map fun j => (j, none)) ++ σ.ks⟩
theorem c2k (js : List Nat) (l : List (Nat × Option KC)) (i : Nat) : look ((js.map fun j => (j, none)) ++ l) i = if i ∈ js then some none else look l i := by
 induction js with
 | nil => simp
 | cons j js ih =>
  rw [List.map_cons, List.cons_append, a0Y, ih]
  by_cases h : i = j
  ·simp [h]
  ·simp [h]
theorem Rel.setkey (h : Rel P C nt L σ a w) {k : Nat} {c c' : KC} {js : List Nat} {same : Bool} {v' : Value} {f' : List Nat} (hk : lkk σ k = some c) (hkj : k ∉ js) (hc : Chg (L.fp k) w w') (ho : Own w' (.sl c'.e c'.sz c'.n c'.cs) v' f') (hn : f'.Nodup)
  (hf : ∀ b ∈ f', b ∈ L.fp k ∨ (∃ j ∈ js, b ∈ L.fp j) ∨ w.heap.size ≤ b) (hj : ∀ j ∈ js, (lkk σ j).isSome = true) (hs : same = true → v' = L.rv k) (hh : c'.h = true → c.h = true ∧ same = true) :
  Rel P C nt { L with fp := fun i => if i = k then f' else L.fp i, rv := fun i => if i = k then v' else L.rv i } (σ.mut k js same c') a w' := by
 let L' : Lyt := { L with fp := fun i => if i = k then f' else L.fp i, rv := fun i => if i = k then v' else L.rv i }
 let rs := bif same then js else k :: js
 have hl : ∀ i, lkk (σ.mut k js same c') i = if i = k then some c' else if i ∈ js then none else lkk σ i := fun i => by
  simp only [lkk, St.mut, List.cons_append, a0Y, c2k]
  split
  ·rfl
  ·split <;> rfl
 have hlive : ∀ i, (lkk σ i).isSome = true → i ∉ rs → (lkk (σ.mut k js same c') i).isSome = true := fun i hi hr => by
  rw [hl]
  split
  ·rfl
  ·rw [if_neg]
   ·exact hi
   ·intro hm
    apply hr
    simp only [rs]
    cases same <;> simp [hm]
 have hK : KillOk C L L' w w' (fun i => (lkk σ i).isSome = true) (k :: js) rs := {
  key := fun i hi hv => by
   have hik : i ≠ k := fun e => hv (by simp [e])
   obtain ⟨d, hd⟩ := c5r.1 hi
   exact ⟨if_neg hik, fun b hb hlt => hc.block b hlt (fun hm => h.kk i k d c hd hk hik b hb hm)⟩
  root := fun i hi hv => by
   by_cases hik : i = k
   ·subst hik
    have : same = true := by
     cases hsm : same with
     | true => rfl
     | false => exact absurd (by simp [rs, hsm]) hv
    simp only [L', if_true]; exact hs this
   ·exact if_neg hik
  sub := fun i hi hr => hi (by
   simp only [rs] at hr
   cases same with
   | true => simp only [cond_true] at hr; simp [hr]
   | false => simpa using hr)
  old := fun b hb hs0 => hc.block b (Nat.lt_of_lt_of_le hb h.chg.size) (fun hm => by
   rcases h.k1 k c hk b hm with h1 | h1
   ·omega
   ·exact hs0 h1) }
 have hfp : ∀ i d, lkk σ i = some d → i ≠ k → i ∉ js → ∀ b ∈ f', b ∉ L.fp i := fun i d hd hik hij b hb hm => by
  rcases hf b hb with h1 | ⟨j, hj', h1⟩ | h1
  ·exact h.kk i k d c hd hk hik b hm h1
  ·obtain ⟨e, he⟩ := c5r.1 (hj j hj')
   exact h.kk i j d e hd he (fun e => hij (by rw [e]; exact hj')) b hm h1
  ·have := h.k_lt hd b hm; omega
 have hcase : ∀ i d, lkk (σ.mut k js same c') i = some d → (i = k ∧ d = c') ∨ (i ≠ k ∧ i ∉ js ∧ lkk σ i = some d) := fun i d hd => by
  rw [hl] at hd
  split at hd
  ·rename_i e; exact .inl ⟨e, by simpa using hd.symm⟩
  ·rename_i e
   split at hd
   ·cases hd
   ·rename_i e2; exact .inr ⟨e, e2, hd⟩
 have hbx : ∀ i t cs, look (a0h (k :: js) rs σ.bx) i = some (t, cs) → ∃ cs0, look σ.bx i = some (t, cs0) ∧ cs = cs0.map (CV.kill (k :: js) rs) := fun i t cs hx => by
  have := a4M (fun q : TypeId × List CV => (q.1, q.2.map (CV.kill (k :: js) rs))) σ.bx i
  change look (a0h (k :: js) rs σ.bx) i = _ at this
  rw [this] at hx
  cases hy : look σ.bx i with
  | none => rw [hy] at hx; cases hx
  | some q =>
   rw [hy] at hx
   simp only [Option.map_some, Option.some.injEq, Prod.mk.injEq] at hx
   exact ⟨q.2, by rw [← hx.1], hx.2.symm⟩
 have hbx' : ∀ i, (look σ.bx i).isSome = true → (look (a0h (k :: js) rs σ.bx) i).isSome = true := fun i hi => by
  have := a4M (fun q : TypeId × List CV => (q.1, q.2.map (CV.kill (k :: js) rs))) σ.bx i
  change look (a0h (k :: js) rs σ.bx) i = _ at this
  rw [this]
  simpa using hi
 have hbb : ∀ i x, look (a0h (k :: js) rs σ.bx) i = some x → ∃ y, look σ.bx i = some y := fun i x hx => by
  obtain ⟨cs0, h1, _⟩ := hbx i x.1 x.2 hx
  exact ⟨_, h1⟩
 exact {
  df := h.df, sz := h.sz
  tm := fun i u hu => by
   have := a4M (SV.kill (k :: js) rs) σ.tm i
   change look (a0i (k :: js) rs σ.tm) i = _ at this
   change look (a0i (k :: js) rs σ.tm) i = some u at hu
   rw [this] at hu
   cases hy : look σ.tm i with
   | none => rw [hy] at hu; cases hu
   | some v =>
    rw [hy] at hu
    simp only [Option.map_some, Option.some.injEq] at hu
    subst hu
    exact b2F h hK rfl (fun j hj => h.lk j (a7S hy j hj)) (h.tm i v hy)
  bx := fun i t cs hx => by
   obtain ⟨cs0, h1, rfl⟩ := hbx i t cs hx
   obtain ⟨us, h2, h3⟩ := h.bx i t cs0 h1
   have hl' : ∀ j ∈ cs0.flatMap CV.keys, (lkk σ j).isSome = true := fun j hj => h.lk j (a8G h1 j hj)
   exact ⟨us, (hc.block _ (a6a h2) (h.bk i k _ c h1 hk)).trans h2, (a9j hK hl' (a8l h hl' h3) h3).1⟩
  ks := fun i d hd => by
   rcases hcase i d hd with ⟨rfl, rfl⟩ | ⟨h1, h2, h3⟩
   ·simp only [if_true]
    refine ⟨ho, fun e => ?_⟩
    obtain ⟨e1, e2⟩ := hh e
    rw [hs e2]; exact (h.ks i c hk).2 e1
   ·simp only [if_neg h1]
    exact ⟨a8h _ _ _ (h.ks i d h3).1 (fun b hb => hc.block b (h.k_lt h3 b hb) (fun hm => h.kk i k d c h3 hk h1 b hb hm)), (h.ks i d h3).2⟩
  b1 := fun i x hx => by obtain ⟨y, hy⟩ := hbb i x hx; exact h.b1 i y hy
  k1 := fun i d hd => by
   rcases hcase i d hd with ⟨rfl, rfl⟩ | ⟨h1, h2, h3⟩
   ·simp only [if_true]
    intro b hb
    rcases hf b hb with h1 | ⟨j, hj', h1⟩ | h1
    ·exact h.k1 i c hk b h1
    ·obtain ⟨e, he⟩ := c5r.1 (hj j hj')
     exact h.k1 j e he b h1
    ·exact .inl (Nat.le_trans h.chg.size h1)
   ·simp only [if_neg h1]; exact h.k1 i d h3
  kn := fun i d hd => by
   rcases hcase i d hd with ⟨rfl, rfl⟩ | ⟨h1, h2, h3⟩
   ·simp only [if_true]; exact hn
   ·simp only [if_neg h1]; exact h.kn i d h3
  bb := fun i j x y hx hy => by
   obtain ⟨x', hx'⟩ := hbb i x hx
   obtain ⟨y', hy'⟩ := hbb j y hy
   exact h.bb i j x' y' hx' hy'
  bk := fun i j x d hx hd => by
   obtain ⟨x', hx'⟩ := hbb i x hx
   rcases hcase j d hd with ⟨rfl, rfl⟩ | ⟨h1, h2, h3⟩
   ·simp only [if_true]
    intro hm
    rcases hf _ hm with h1 | ⟨l, hl', h1⟩ | h1
    ·exact h.bk i j x' c hx' hk h1
    ·obtain ⟨e, he⟩ := c5r.1 (hj l hl')
     exact h.bk i l x' e hx' he h1
    ·have := h.bx_lt hx'; omega
   ·simp only [if_neg h1]; exact h.bk i j x' d hx' h3
  kk := fun i j x y hx hy hij => by
   rcases hcase i x hx with ⟨rfl, rfl⟩ | ⟨h1, h2, h3⟩ <;> rcases hcase j y hy with ⟨rfl, rfl⟩ | ⟨h4, h5, h6⟩
   ·exact absurd rfl hij
   ·simp only [if_true, if_neg h4]; exact fun b hb => hfp j y h6 h4 h5 b hb
   ·simp only [if_true, if_neg h1]; exact fun b hb hb' => hfp i x h3 h1 h2 b hb' hb
   ·simp only [if_neg h1, if_neg h4]; exact h.kk i j x y h3 h6 hij
  lk := fun i hi => by
   simp only [St.tk, St.mut, List.mem_append, List.mem_flatMap] at hi
   rcases hi with ⟨p, hp, hi⟩ | ⟨p, hp, hi⟩
   ·obtain ⟨q, hq, rfl⟩ := List.mem_map.1 hp
    have hl' : ∀ j ∈ q.2.keys, (lkk σ j).isSome = true := fun j hj => h.lk j (by simp only [St.tk, List.mem_append, List.mem_flatMap]; exact .inl ⟨q, hq, hj⟩)
    obtain ⟨g1, g2⟩ := (a9s hK.sub q.2).1 i hi
    exact hlive i (hl' i g1) g2
   ·obtain ⟨q, hq, rfl⟩ := List.mem_map.1 hp
    obtain ⟨g1, g2⟩ := a9n hK.sub q.2.2 i (List.mem_flatMap.2 (by simpa using hi))
    exact hlive i (h.lk i (by simp only [St.tk, List.mem_append, List.mem_flatMap]; exact .inr ⟨q, hq, by simpa using g1⟩)) g2
  lb := fun b hb => by
   simp only [St.tb, St.mut, List.mem_flatMap] at hb
   obtain ⟨p, hp, hb⟩ := hb
   obtain ⟨q, hq, rfl⟩ := List.mem_map.1 hp
   have := List.all_eq_true.1 (a9s hK.sub q.2).2 b hb
   exact hbx' b (h.lb b (by simp only [St.tb, List.mem_flatMap]; exact ⟨q, hq, by simpa using this⟩))
  s0 := h.s0
  chg := h.chg.andThen hc (fun x hx => (h.k1 k c hk x hx).symm) }
/-! ### cells that may be handed over to a key -/
def OwC (σ : St) : CV → DV → List Nat → Prop
 | .dv _ d', d, js => d' = d ∧ d.plain = true ∧ js = []
 | .key j, d, js => (∃ c, lkk σ j = some c ∧ d = .sl c.e c.sz c.n c.cs) ∧ js = [j]
 | .nil, d, js => (∃ e sz, 0 < sz ∧ d = .sl e sz 0 []) ∧ js = []
 | _, _, _ => False
def a4p (σ : St) : List CV → List DV → List Nat → Prop
 | [], ds, js => ds = [] ∧ js = []
 | c :: cs, ds, js => ∃ d ds' j1 j2, ds = d :: ds' ∧ js = j1 ++ j2 ∧ OwC σ c d j1 ∧ a4p σ cs ds' j2
theorem b7h (hr : Rel P C nt L σ a w) {c : CV} {d : DV} {js : List Nat} {v : Value} (h : OwC σ c d js) (hv : CVr C L w c v) : Own w d v (js.flatMap L.fp) ∧ ∀ j ∈ js, (lkk σ j).isSome = true := by
 cases c with
 | dv K d' =>
  simp only [OwC] at h
  obtain ⟨rfl, h1, rfl⟩ := h
  exact ⟨a8u h1 hv, by simp⟩
 | key j =>
  simp only [OwC] at h
  obtain ⟨⟨c, h1, rfl⟩, rfl⟩ := h
  simp only [CVr] at hv
  subst hv
  simp only [List.flatMap_cons, List.flatMap_nil, List.append_nil]
  exact ⟨(hr.ks j c h1).1, by simp [h1]⟩
 | nil =>
  simp only [OwC] at h
  obtain ⟨⟨e, sz, h1, rfl⟩, rfl⟩ := h
  simp only [CVr] at hv
  subst hv
  exact ⟨a7s w e sz h1, by simp⟩
 | arg => simp [OwC] at h
 | nest => simp [OwC] at h
 | any => simp [OwC] at h
theorem a7V (hr : Rel P C nt L σ a w) : ∀ {cs : List CV} {ds : List DV} {js : List Nat} {vs : List Value}, a4p σ cs ds js → CVL C L w cs vs → a0N w ds vs (js.flatMap L.fp) ∧ (∀ j ∈ js, (lkk σ j).isSome = true) ∧ ds.length = cs.length
 | [], _, _, _, h, hv => by
  simp only [a4p] at h; obtain ⟨rfl, rfl⟩ := h
  simp only [CVL] at hv; subst hv
  simp [a0N]
 | c :: cs, _, _, _, ⟨d, ds', j1, j2, e1, e2, h1, h2⟩, ⟨v, vs', e3, h3, h4⟩ => by
  subst e1; subst e2; subst e3
  obtain ⟨g1, g2⟩ := b7h hr h1 h3
  obtain ⟨k1, k2, k3⟩ := a7V hr h2 h4
  refine ⟨?_, fun j hj => ?_, by simp [k3]⟩
  ·simp only [a0N]
   exact ⟨v, vs', _, _, rfl, by rw [List.flatMap_append], g1, k1⟩
  ·rcases List.mem_append.1 hj with hj | hj
   ·exact g2 j hj
   ·exact k2 j hj
theorem a9e (hr : Rel P C nt L σ a w) : ∀ {js : List Nat}, js.Nodup → (∀ j ∈ js, (lkk σ j).isSome = true) → (js.flatMap L.fp).Nodup
 | [], _, _ => by simp
 | j :: js, hn, hl => by
  obtain ⟨h1, h2⟩ := List.nodup_cons.1 hn
  obtain ⟨c, hc⟩ := c5r.1 (hl j (by simp))
  rw [List.flatMap_cons, List.nodup_append]
  refine ⟨hr.kn j c hc, a9e hr h2 (fun i hi => hl i (by simp [hi])), fun x hx y hy e => ?_⟩
  subst e
  obtain ⟨i, hi, hy'⟩ := List.mem_flatMap.1 hy
  obtain ⟨d, hd⟩ := c5r.1 (hl i (by simp [hi]))
  exact hr.kk j i c d hc hd (fun e => h1 (by rw [e]; exact hi)) x hx hy'
theorem b7d {w : World} {cs ds : List DV} {vs us : List Value} {f g : List Nat} {off : Nat} (h : a0N w cs vs f) (h2 : a0N w ds us g) (hle : off + ds.length ≤ cs.length) : ∃ f1 f3, (∀ b, b ∈ f1 ++ f3 → b ∈ f) ∧ (f.Nodup → (f1 ++ f3).Nodup) ∧ a0N w (a1c off ds cs) (a1c off us vs) (f1 ++ g ++ f3) := by
 have e1 : cs = cs.take off ++ ((cs.drop off).take ds.length ++ cs.drop (off + ds.length)) := by
  rw [← List.drop_drop, List.take_append_drop, List.take_append_drop]
 rw [e1] at h
 obtain ⟨u1, u2, f1, f2, rfl, rfl, k1, k2⟩ := a4N _ _ _ _ h
 obtain ⟨u3, u4, f3, f4, rfl, rfl, k3, k4⟩ := a4N _ _ _ _ k2
 have l1 := a2n _ _ _ k1
 have l3 := a2n _ _ _ k3
 have l2 := a2n _ _ _ h2
 simp only [c5t, List.length_drop] at l1 l3
 refine ⟨f1, f4, fun b hb => ?_, fun hn => ?_, ?_⟩
 ·simp only [List.mem_append] at hb ⊢
  rcases hb with hb | hb
  ·exact .inl hb
  ·exact .inr (.inr hb)
 ·rw [List.nodup_append] at hn ⊢
  obtain ⟨n1, n2, n3⟩ := hn
  rw [List.nodup_append] at n2
  exact ⟨n1, n2.2.1, fun x hx y hy => n3 x hx y (by simp [hy])⟩
 ·unfold a1c
  have e2 : (u1 ++ (u3 ++ u4)).take off = u1 := List.take_left' (by omega)
  have e3 : (u1 ++ (u3 ++ u4)).drop (off + us.length) = u4 := by
   rw [← List.append_assoc]
   exact List.drop_left' (by simp; omega)
  rw [e2, e3]
  exact a3h _ _ _ _ _ _ (a3h _ _ _ _ _ _ k1 h2) k4
theorem a5T {α : Type} {off : Nat} {us cs : List α} (h : off + us.length ≤ cs.length) : (a1c off us cs).length = cs.length := by
 simp [a1c]; omega
theorem c3U {T : TT} {o : Oper} {x y : Operand} (hT : TTOk P T) {t k off sz by_ : Nat} {zc : List CV} {v : SV} {p : Bool × List CV} {c : KC} {ds : List DV} {js : List Nat} (ho : o.op = .store t x y) (hd : o.dst = none) (ht : look T.el t = some (sz, by_, zc)) (hx : Ev P C nt σ x (.eptr k off)) (hy : Ev P C nt σ y v) (hp : v.part = some p) (hkv : a1p σ v = true)
  (hk : lkk σ k = some c) (hE : Nat.blt c.e 1000000 = true) (how : a4p σ p.2 ds js) (hn : js.Nodup) (hkj : k ∉ js) (hl : p.2.length = sz) (hle : off + sz ≤ c.cs.length) : Ef P C nt o σ (fun σ' => σ' = σ.mut k js true { c with cs := a1c off ds c.cs }) := Ef.mk fun L a w hr K Q hK => by
 obtain ⟨us, h1, h2, h3⟩ := a4R hr hp hkv (hy.run L a w hr)
 have h4 := hx.run L a w hr
 simp only [SVr] at h4
 obtain ⟨g, n, cap0, e1, e2⟩ := h4
 obtain ⟨o1, o2, o3⟩ := a7V hr how h2
 have hown := (hr.ks k c hk).1
 simp only [Own] at hown
 obtain ⟨vs, f, e3, h5, h6, h7, h8⟩ := hown
 obtain ⟨inf, z, g1, g2, _⟩ := hT.el t sz by_ zc ht
 have hus : us.length = sz := by rw [a3f h2]; exact hl
 have hvl : vs.length = c.cs.length := a2n _ _ _ h8
 have hE' : c.e < 1000000 := by simpa [Nat.blt_eq] using hE
 have h7 := h7.1 hE'
 rcases h7.2 with ⟨e4, _⟩ | ⟨g', cap, cur, e4, _, hg, hnc, hcm, hsz, htake⟩
 ·rw [e1] at e4; cases e4
 rw [e1] at e4
 simp only [Value.slice.injEq, Option.some.injEq, Addr.mk.injEq, and_true, true_and] at e4
 obtain ⟨rfl, rfl, rfl⟩ := e4
 have hcl : c.cs.length ≤ cur.toList.length := by
  rw [h6, Array.length_toList, hsz]; exact Nat.mul_le_mul_right _ hnc
 have hrun := a7n (P := P) (vs := cur.toList) (z := z) (off := off) (t' := c.e) g1 g2 h1 hus h3 (by simpa using hg) (by omega)
 have hgm : g ∈ L.fp k := by rw [e3, e1]; simp [Value.ownBlock]
 have hnd := hr.kn k c hk
 rw [e3, e1] at hnd
 simp only [Value.ownBlock, Option.toList_some, List.singleton_append, List.nodup_cons] at hnd
 let w' := w.setRow g (a1c off us cur.toList).toArray
 have hchg : Chg [g] w w' := a7A w g _
 have hdis : ∀ b ∈ js.flatMap L.fp, b ∉ L.fp k := fun b hb hm => by
  obtain ⟨j, hj, hb'⟩ := List.mem_flatMap.1 hb
  obtain ⟨d, hd'⟩ := c5r.1 (o2 j hj)
  exact hr.kk j k d c hd' hk (fun e => hkj (by rw [← e]; exact hj)) b hb' hm
 have o1' : a0N w' ds us (js.flatMap L.fp) := a3g _ _ _ o1 (fun b hb => hchg.block b (a5p _ _ _ o1 b hb) (by
  simp only [List.mem_singleton]; rintro rfl; exact hdis _ hb hgm))
 have h8' : a0N w' c.cs vs f := a3g _ _ _ h8 (fun b hb => hchg.block b (a5p _ _ _ h8 b hb) (by
  simp only [List.mem_singleton]; rintro rfl; exact hnd.1 hb))
 obtain ⟨f1, f3, s1, s2, s3⟩ := b7d h8' o1' (off := off) (by rw [o3, hl]; exact hle)
 have hlen : (a1c off us vs).length = c.cs.length := by rw [a5T (by omega)]; exact hvl
 have hown' : Own w' (.sl c.e c.sz c.n (a1c off ds c.cs)) (L.rv k) (g :: (f1 ++ js.flatMap L.fp ++ f3)) := by
  unfold Own
  refine ⟨a1c off us vs, f1 ++ js.flatMap L.fp ++ f3, by rw [e1]; simp [Value.ownBlock], h5, by rw [a5T (by rw [o3, hl]; exact hle)]; exact h6, ?_, s3⟩
  rw [e1]
  refine a3H hE' ⟨by rw [hlen]; exact h6, .inr ⟨g, cap0, (a1c off us cur.toList).toArray, rfl, Nat.zero_le _, setRow_heap _ _ _ _ _ _ hg, hnc, hcm, ?_, ?_⟩⟩
  ·rw [List.size_toArray, a5T (by omega), Array.length_toList, hsz]
  ·have htk : cur.toList.take (c.n * c.sz) = vs := htake
   have hb1 : off ≤ c.n * c.sz := by omega
   have hb2 : off + us.length ≤ c.n * c.sz := by omega
   rw [List.toList_toArray]
   unfold a1c
   rw [← htk]
   apply List.ext_getElem?
   intro i
   simp only [List.getElem?_take, List.getElem?_append, List.getElem?_drop, c5s, c5t]
   have hm1 : min off cur.toList.length = off := by omega
   have hm2 : min off (min (c.n * c.sz) cur.toList.length) = off := by omega
   rw [hm1, hm2]
   by_cases hi : i < c.n * c.sz
   ·simp only [hi, if_true]
    by_cases hi2 : i < off + us.length
    ·simp only [hi2, if_true]
    ·simp only [hi2, if_false]
     have : off + us.length + (i - (off + us.length)) < c.n * c.sz := by omega
     simp only [this, if_true]
   ·have h9 : ¬ i < off + us.length := by omega
    have h10 : ¬ i < off := by omega
    have h11 : ¬ off + us.length + (i - (off + us.length)) < c.n * c.sz := by omega
    simp only [hi, h9, h11, if_false]
 unfold Oper.wp execOp
 simp only [ho, e2, Sem.run_bind, hrun, Result.andThen_ok, Sem.run_pure, Oper.upon, hd, Act.put]
 refine hK _ _ _ _ rfl (hr.setkey hk hkj (hchg.mono (by simpa using hgm)) hown' ?_ ?_ o2 (fun _ => rfl) (fun e => ⟨e, rfl⟩))
 ·have hfn := s2 hnd.2
  have hjn := a9e hr hn o2
  rw [List.nodup_cons]
  constructor
  ·simp only [List.mem_append]
   rintro ((hm | hm) | hm)
   ·exact hnd.1 (s1 g (by simp [hm]))
   ·exact hdis g hm hgm
   ·exact hnd.1 (s1 g (by simp [hm]))
  ·rw [List.nodup_append] at hfn
   rw [List.nodup_append, List.nodup_append]
   have hin : ∀ b, b ∈ f1 ++ f3 → b ∈ L.fp k := fun b hb => by rw [e3]; simp [s1 b hb]
   refine ⟨⟨hfn.1, hjn, fun a ha b hb e => ?_⟩, hfn.2.1, fun a ha b hb e => ?_⟩
   ·subst e; exact hdis a hb (hin a (by simp [ha]))
   ·subst e
    rcases List.mem_append.1 ha with ha | ha
    ·exact hfn.2.2 a ha a hb rfl
    ·exact hdis a ha (hin a (by simp [hb]))
 ·intro b hb
  simp only [List.mem_cons, List.mem_append] at hb
  rcases hb with rfl | (hb | hb) | hb
  ·exact .inl hgm
  ·exact .inl (by rw [e3]; simp [s1 b (by simp [hb])])
  ·obtain ⟨j, hj, hb'⟩ := List.mem_flatMap.1 hb
   exact .inr (.inl ⟨j, hj, hb'⟩)
  ·exact .inl (by rw [e3]; simp [s1 b (by simp [hb])])
end
def b2B : CV → DV → Bool
 | .dv [] (.int k n), .int k' n' => decide (k = k') && decide (n = n')
 | .dv [] (.bool b), .bool b' => b == b'
 | .dv [] (.str s), .str s' => decide (s = s')
 | .nil, .sl _ sz 0 [] => Nat.blt 0 sz
 | _, _ => false
def a9i : List CV → List DV → Bool
 | [], [] => true
 | c :: cs, d :: ds => b2B c d && a9i cs ds
 | _, _ => false
section
variable {P : Program} {C : Ctx} {nt : Nat} {L : Lyt} {σ : St} {a : Act} {w : World} {o : Oper} {x y : Operand}
theorem c1p {c : CV} {d : DV} (h : b2B c d = true) : OwC σ c d [] := by
 unfold b2B at h
 split at h
 ·simp only [Bool.and_eq_true, decide_eq_true_eq] at h
  obtain ⟨rfl, rfl⟩ := h
  exact ⟨rfl, rfl, rfl⟩
 ·simp only [beq_iff_eq] at h; subst h; exact ⟨rfl, rfl, rfl⟩
 ·simp only [decide_eq_true_eq] at h; subst h; exact ⟨rfl, rfl, rfl⟩
 ·exact ⟨⟨_, _, by simpa [Nat.blt_eq] using h, rfl⟩, rfl⟩
 ·cases h
theorem b4O : ∀ {cs : List CV} {ds : List DV}, a9i cs ds = true → a4p σ cs ds []
 | [], [], _ => ⟨rfl, rfl⟩
 | [], _ :: _, h => by cases h
 | _ :: _, [], h => by cases h
 | c :: cs, d :: ds, h => by
  simp only [a9i, Bool.and_eq_true] at h
  exact ⟨d, ds, [], [], rfl, rfl, c1p h.1, b4O h.2⟩
theorem b4c {z : Array Value} : ∀ n : Nat, (madeCells z (n * z.size)).toList = (List.replicate n z.toList).flatten
 | 0 => by simp [madeCells]
 | n + 1 => by
  have ih := b4c (z := z) n
  rw [List.replicate_succ', List.flatten_append, ← ih]
  simp only [madeCells, Array.toList_map, Array.toList_range, List.flatten_cons, List.flatten_nil, List.append_nil]
  rw [Nat.add_mul, Nat.one_mul, List.range_add, List.map_append, List.map_map]
  congr 1
  apply List.ext_getElem
  ·simp
  ·intro i h1 h2
   simp only [List.length_map, List.length_range] at h1
   simp only [List.getElem_map, List.getElem_range, Function.comp_apply, Array.getElem_toList]
   rw [Nat.mul_add_mod_self_right, Nat.mod_eq_of_lt h1, getElem!_pos z i h1]
theorem b6u {w : World} {ds : List DV} {vs : List Value} (h : a0N w ds vs []) : ∀ n : Nat, a0N w (List.replicate n ds).flatten (List.replicate n vs).flatten []
 | 0 => by simp [a0N]
 | n + 1 => by
  have := a3h _ _ _ _ _ _ h (b6u h n)
  simpa [List.replicate_succ] using this
theorem a6H : ∀ {vs : List Value} {cs : List CV}, zL vs cs = true → vs.length = cs.length
 | [], [], _ => rfl
 | [], _ :: _, h => by cases h
 | _ :: _, [], h => by cases h
 | v :: vs, c :: cs, h => by
  simp only [zL, Bool.and_eq_true] at h
  simp [a6H h.2]
theorem b5P {α : Type} {ds : List α} {n : Nat} : (List.replicate n ds).flatten.length = n * ds.length := by simp
theorem c2c {T : TT} (hT : TTOk P T) {t e sz by_ d k n : Nat} {J1 J2 : List Nat} {z : Int} {zc : List CV} {zd : List DV} (ho : o.op = .makeSlice t x y) (hd : o.dst = some d) (hn : Nat.blt d nt = true) (ht : look T.sl t = some e) (he : look T.el e = some (sz, by_, zc))
  (hx : Ev P C nt σ x (.one (.dv J1 (.int .i64 z)))) (hy : Ev P C nt σ y (.one (.dv J2 (.int .i64 z)))) (hz : a9i zc zd = true) (hsz : Nat.blt 0 sz = true) (hzn : z = (n : Int)) (hb : by_ * n ≤ 281474976710656) (hl0 : zc.length = sz) (hk : lkk σ k = none) :
  EfG P C nt o σ (fun σ' => σ' = { σ with ks := (k, some ⟨false, e, sz, n, (List.replicate n zd).flatten⟩) :: σ.ks }.put d (.one (.key k))) := EfG.mk fun L a w hr K Q hK => by
 subst hzn
 have h1 := hx.run L a w hr
 have h2 := hy.run L a w hr
 simp only [SVr, CVr, Lay] at h1 h2
 obtain ⟨inf, zv, g1, g2, g3, g4, g5⟩ := hT.el e sz by_ zc he
 have hmax : n ≤ maxLen := by
  have := h1.2
  simp only [InR, IntKind.max, IntKind.signed, IntKind.bits] at this
  unfold maxLen
  have := this.2
  simp at this
  omega
 obtain ⟨w', hrun, hown, hgr⟩ := run_make_full (P := P) (w := w) 0 t e inf zv sz (hT.sl t e ht) g1 g4 g2 .i64 .i64 n (by rw [g3]; exact hb) hmax (Nat.zero_le _)
 have hchg : Chg [] w w' := (Chg.refl [] w).grown hgr (by simp)
 obtain ⟨c1, _, _⟩ := a8P (C := C) (L := L) (w := w') g5
 have hzo := b4O (σ := σ) hz
 have hr' := hr.grow hchg
 obtain ⟨o1, _, o3⟩ := a7V hr' hzo c1
 have hl : zv.cells.toList.length = zd.length := a2n _ _ _ o1
 have hzc : zv.cells.toList.length = sz := by
  have := a6H g5
  rw [this]; exact hl0
 have hpos : 0 < sz := by simpa [Nat.blt_eq] using hsz
 simp only [List.flatMap_nil] at o1
 have hm : (madeCells zv.cells (n * sz)).toList = (List.replicate n zv.cells.toList).flatten := by
  have : sz = zv.cells.size := by rw [← hzc]; simp
  rw [this]; exact b4c n
 rw [hm] at hown
 refine a5u (v := .slice (some ⟨w.heap.size, 0, none⟩) n n) (w' := w') ?_ ?_
 ·unfold execOp
  simp only [ho, h1.1, h2.1, hrun, Sem.run_bind, Result.andThen_ok, Sem.run_pure]
 ·have hb := hr.newkey' hchg (c := ⟨false, e, sz, n, (List.replicate n zd).flatten⟩) (v := .slice (some ⟨w.heap.size, 0, none⟩) n n) (f := [w.heap.size]) hk
   (by unfold Own; exact ⟨_, [], rfl, hpos, by rw [b5P, ← hl, hzc], a3H (hT.lt e _ he) hown, b6u o1 n⟩) rfl (by simp) (by simp)
  refine hK { L with fp := fun j => if j = k then [w.heap.size] else L.fp j, rv := fun j => if j = k then .slice (some ⟨w.heap.size, 0, none⟩) n n else L.rv j } _ _ _ rfl (by rw [hd]; exact hb.put (v := .one (.key k)) (r := .slice (some ⟨w.heap.size, 0, none⟩) n n) (by simpa [Nat.blt_eq] using hn) (by simp [SVr, CVr]) (by simp [SV.keys, CV.keys, lkk, a0Y]) (by simp [SV.boxes])) ⟨hchg, fun i c hc => ?_, fun _ _ _ => rfl⟩
  have : i ≠ k := fun e => by rw [e, hk] at hc; cases hc
  simp [this]
/-! over states that are written out -/
section
variable {Q : Exit → St → Prop} {all : Array Oper} {rest : List Oper} {tm : List (Nat × SV)} {bx : List (Nat × TypeId × List CV)} {ks : List (Nat × Option KC)} {T : TT} {d : Nat} {v : SV}
theorem a7v (hT : TTOk P T) {t e sz by_ k n : Nat} {J1 J2 : List Nat} {z : Int} {zc : List CV} {zd cs : List DV} (hg : o.guard = none) (hd : o.dst = some d) (ho : o.op = .makeSlice t x y) (hn : Nat.blt d nt = true) (ht : look T.sl t = some e) (he : look T.el e = some (sz, by_, zc))
  (hx : Ev P C nt ⟨tm, bx, ks⟩ x (.one (.dv J1 (.int .i64 z)))) (hy : Ev P C nt ⟨tm, bx, ks⟩ y (.one (.dv J2 (.int .i64 z)))) (hz : a9i zc zd = true) (hsz : Nat.blt 0 sz = true) (hzn : z = (n : Int)) (hb : by_ * n ≤ 281474976710656) (hl0 : zc.length = sz) (hk : lkk ⟨tm, bx, ks⟩ k = none)
  (hcs : (List.replicate n zd).flatten = cs) (h : Ops P C nt Q all rest ⟨(d, .one (.key k)) :: tm, bx, (k, some ⟨false, e, sz, n, cs⟩) :: ks⟩) : Ops P C nt Q all (o :: rest) ⟨tm, bx, ks⟩ := a3o hg (c2c hT ho hd hn ht he hx hy hz hsz hzn hb hl0 hk).ef (by subst hcs; exact h)
theorem a1u (hT : TTOk P T) {t k off sz by_ : Nat} {zc : List CV} {p : Bool × List CV} {c : KC} {ds cs : List DV} {js : List Nat} (hg : o.guard = none) (hd : o.dst = none) (ho : o.op = .store t x y) (ht : look T.el t = some (sz, by_, zc)) (hx : Ev P C nt ⟨tm, bx, ks⟩ x (.eptr k off)) (hy : Ev P C nt ⟨tm, bx, ks⟩ y v) (hp : v.part = some p) (hkv : a1p ⟨tm, bx, ks⟩ v = true)
  (hk : lkk ⟨tm, bx, ks⟩ k = some c) (hE : Nat.blt c.e 1000000 = true) (how : a4p ⟨tm, bx, ks⟩ p.2 ds js) (hn : js.Nodup) (hkj : k ∉ js) (hl : p.2.length = sz) (hle : off + sz ≤ c.cs.length) (hcs : a1c off ds c.cs = cs)
  (h : Ops P C nt Q all rest ⟨a0i (k :: js) js tm, a0h (k :: js) js bx, (k, some { c with cs := cs }) :: ((js.map fun j => (j, none)) ++ ks)⟩) : Ops P C nt Q all (o :: rest) ⟨tm, bx, ks⟩ :=
 a3o hg (c3U hT ho hd ht hx hy hp hkv hk hE how hn hkj hl hle) (by subst hcs; exact h)
end
theorem a0o {c : CV} {d : DV} {j js js' : List Nat} {cs : List CV} {ds : List DV} (h : OwC σ c d j) (h2 : a4p σ cs ds js) (e : js' = j ++ js) : a4p σ (c :: cs) (d :: ds) js' := ⟨d, ds, j, js, rfl, e, h, h2⟩
theorem a0L {k : Nat} {c : KC} {d : DV} {e' : TypeId} (h : lkk σ k = some c) (hd : DV.sl e' c.sz c.n c.cs = d) : a2F σ (.key k) (.dv [] d) := by subst hd; exact b9p h
theorem a6E {e sz : Nat} {d : DV} (h : Nat.blt 0 sz = true) (hd : DV.sl e sz 0 [] = d) : a2F σ .nil (.dv [] d) := by subst hd; exact c4W h
theorem a1e : a4p σ [] [] [] := ⟨rfl, rfl⟩
theorem a0C {K : List Nat} {d : DV} (h : d.plain = true) : OwC σ (.dv K d) d [] := ⟨rfl, h, rfl⟩
theorem a1Y {k : Nat} {c : KC} (h : lkk σ k = some c) : OwC σ (.key k) (.sl c.e c.sz c.n c.cs) [k] := ⟨⟨c, h, rfl⟩, rfl⟩
theorem a7P {e sz : Nat} (h : Nat.blt 0 sz = true) : OwC σ .nil (.sl e sz 0 []) [] := ⟨⟨e, sz, by simpa [Nat.blt_eq] using h, rfl⟩, rfl⟩
end
theorem a2g {P : Prop} [Decidable P] (h : (!decide P) = true) : ¬P := by simpa using h
theorem a2j {P : Prop} [Decidable P] (h : (!decide P) = false) : P := by simpa using h
/-! ### bools compared -/
def a1M {α : Type} (enc : α → List DV) (zd : List DV) (xs : List α) (k : Nat) : List DV := (xs.take k).flatMap enc ++ (List.replicate (xs.length - k) zd).flatten
theorem a7w {α : Type} {enc : α → List DV} {zd : List DV} {xs : List α} : (List.replicate xs.length zd).flatten = a1M enc zd xs 0 := by simp [a1M]
theorem a7u {α : Type} {enc : α → List DV} {zd : List DV} {xs : List α} {k : Nat} (h : k = xs.length) : a1M enc zd xs k = xs.flatMap enc := by subst h; simp [a1M]
theorem a7N {α : Type} {enc : α → List DV} {sz : Nat} (hs : ∀ x, (enc x).length = sz) : ∀ xs : List α, (xs.flatMap enc).length = xs.length * sz
 | [] => by simp
 | x :: xs => by rw [List.flatMap_cons, c5s, hs, a7N hs xs, List.length_cons, Nat.add_mul]; omega
theorem a7d {α : Type} {enc : α → List DV} {zd : List DV} {sz : Nat} (hs : ∀ x, (enc x).length = sz) (hz : zd.length = sz) (xs : List α) (k : Nat) : (a1M enc zd xs k).length = xs.length * sz := by
 unfold a1M
 rw [c5s, a7N hs, b5P, hz, c5t, ← Nat.add_mul]
 congr 1; omega
theorem a7c {α : Type} [Inhabited α] {enc : α → List DV} {zd : List DV} {sz : Nat} (hs : ∀ x, (enc x).length = sz) (hz : zd.length = sz) {xs : List α} {k : Nat} (hk : k < xs.length) {ds : List DV} (hds : ds = enc (xs.getD k default)) : a1c (k * sz) ds (a1M enc zd xs k) = a1M enc zd xs (k + 1) := by
 subst hds
 have e1 : ((xs.take k).flatMap enc).length = k * sz := by rw [a7N hs, c5t, Nat.min_eq_left (by omega)]
 unfold a1c a1M
 rw [List.take_left' e1, hs, show k * sz + sz = ((xs.take k).flatMap enc).length + sz by omega, ← List.drop_drop, List.drop_left]
 obtain ⟨m, hm⟩ : ∃ m, xs.length - k = m + 1 := ⟨xs.length - k - 1, by omega⟩
 rw [hm, List.replicate_succ, List.flatten_cons, ← hz, List.drop_left, show xs.length - (k + 1) = m by omega]
 rw [show xs.take (k + 1) = xs.take k ++ [xs.getD k default] by
  rw [List.take_add_one, List.getElem?_eq_getElem hk]; simp [List.getD, List.getElem?_eq_getElem hk]]
 rw [List.flatMap_append]
 simp
section
variable {P : Program} {C : Ctx} {nt : Nat} {L : Lyt} {σ : St} {a : Act} {w : World} {o : Oper} {x y : Operand}
theorem b4f {us : List SV} {vs : List Value} (hl : vs.length = us.length) (h : ∀ (i : Nat) u, us[i]? = some u → ∃ x, vs[i]? = some x ∧ SVr P ⟨w, [], L.rv⟩ L w u x ∧ u.keys = [] ∧ u.boxes = []) : Rel P ⟨w, [], L.rv⟩ us.length L ⟨a2w 0 us, [], []⟩ ⟨vs.toArray, []⟩ w := by
 have h3 : ∀ u ∈ us, u.keys = [] ∧ u.boxes = [] := fun u hu => by
  obtain ⟨i, hi⟩ := List.mem_iff_getElem?.1 hu
  obtain ⟨_, _, _, h4⟩ := h i u hi
  exact h4
 obtain ⟨t1, t2⟩ := b0d us 0 h3
 exact {
  df := rfl
  sz := by simp [hl]
  tm := fun i v hv => by
   obtain ⟨_, h4⟩ := a7Q us 0 i v hv
   obtain ⟨x, h5, h6, _⟩ := h i v (by simpa using h4)
   have : vs.toArray.getD i undef = x := by simp [Array.getD_eq_getD_getElem?, h5]
   rw [this]; exact h6
  bx := fun i t cs h => by cases h
  ks := fun k c h => by cases h
  b1 := fun i x h => by cases h
  k1 := fun k c h => by cases h
  kn := fun k c h => by cases h
  bb := fun i j x y h => by cases h
  bk := fun i k x c h => by cases h
  kk := fun k j c d h => by cases h
  lk := fun k hk => by simp only [St.tk, t1, List.flatMap_nil, List.append_nil] at hk; cases hk
  lb := fun b hb => by simp only [St.tb, t2] at hb; cases hb
  s0 := fun b hb => by cases hb
  chg := Chg.refl _ _ }
theorem b1G : ∀ {dss : List (List DV)} {vs : List Value}, a4Y C L w dss vs → vs.length = dss.length
 | [], _, h => by simp only [a4Y] at h; simp [h]
 | ds :: dss, _, ⟨v, vs', e, _, h2⟩ => by rw [e]; simp [b1G h2]
theorem b5e : ∀ {dss : List (List DV)} {vs : List Value}, a4Y C L w dss vs → ∀ (i : Nat) ds, dss[i]? = some ds → ∃ v, vs[i]? = some v ∧ a8k C L w ds v
 | [], _, _, i, ds, h => by simp at h
 | d :: dss, _, ⟨v, vs', e, h1, h2⟩, 0, ds, h => by
  simp only [List.getElem?_cons_zero, Option.some.injEq] at h
  subst h; subst e
  exact ⟨v, rfl, h1⟩
 | d :: dss, _, ⟨v, vs', e, h1, h2⟩, i + 1, ds, h => by
  subst e
  simpa using b5e h2 i ds (by simpa using h)
theorem c0w {f : FuncId} {xs : List Operand} {ats : Array TypeId} {caps : List Value} {K : Act → World → Prop} {Q : Exit → Act → World → Prop} (ho : o.op = .call { callee := .value y, args := xs.toArray, argTypes := ats })
  (hy : a.eval y = .func (.func f) #[] caps.toArray) (hc : ∀ (args : Array Value) (w : World), (callFunc f args).run P w = .ok (.enter f args) w)
  (h : Calls P f (xs.map a.eval ++ caps).toArray w fun e w' => ∃ r, e = .returned r ∧ K (a.put o.dst r) w') : o.wp P a w K Q := by
 unfold Oper.wp execOp
 have hi : ∀ args : Array Value, (invoke (.fn (.func f) caps.toArray) args).run P w = .ok (.enter f (args ++ caps.toArray)) w := fun args => by
  simp only [invoke]; exact hc _ w
 have he : ∀ args : Array Value, Deferred.ofValue (a.eval y) args = pure { target := .fn (.func f) caps.toArray, args := args } := fun args => by
  rw [hy]; simp [Deferred.ofValue]
 simp only [ho, resolve, he, Sem.run_bind, Sem.run_pure, Result.andThen_ok, hi, Oper.upon]
 refine Calls.mono (by simpa using h) ?_
 rintro e w' ⟨r, rfl, h1⟩
 exact h1
theorem c2d {f : FuncId} {xs : List Operand} {ats : Array TypeId} {us : List SV} {caps : List (List DV)} {X : SV} (ho : o.op = .call { callee := .value y, args := xs.toArray, argTypes := ats }) (hy : Ev P C nt σ y (.fn f caps))
  (hc : ∀ (args : Array Value) (w : World), (callFunc f args).run P w = .ok (.enter f args) w) (hf : PFn P f (us ++ caps.map (SV.ref [])) X) (hp : X.plain = true) (ha : a2t P C nt σ xs us) : Pc P C nt o σ (fun v => v = X) := Pc.mk fun L a w hr K Q' hk => by
 have h1 := hy.run L a w hr
 simp only [SVr] at h1
 obtain ⟨vs, e, h2⟩ := h1
 refine c0w ho e hc ?_
 obtain ⟨g1, g2⟩ := a8j hr L xs us ha
 have h2' := b2n L h2
 have hent := b4f (P := P) (w := w) (L := L) (us := us ++ caps.map (SV.ref [])) (vs := xs.map a.eval ++ vs) (by simp [g1, b1G h2]) (fun i u hu => by
  rcases Nat.lt_or_ge i us.length with hi | hi
  ·rw [List.getElem?_append_left hi] at hu
   obtain ⟨x, k1, k2⟩ := g2 i u hu
   refine ⟨a.eval x, ?_, k2⟩
   rw [List.getElem?_append_left (by simp; omega)]
   simp [k1]
  ·rw [List.getElem?_append_right hi, List.getElem?_map] at hu
   cases hq : caps[i - us.length]? with
   | none => rw [hq] at hu; cases hu
   | some ds =>
    rw [hq] at hu
    simp only [Option.map_some, Option.some.injEq] at hu
    subst hu
    obtain ⟨v, k1, k2⟩ := b5e h2' _ _ hq
    refine ⟨v, ?_, by simp only [SVr]; exact k2, rfl, rfl⟩
    rw [List.getElem?_append_right (by simp; omega)]
    simpa [g1] using k1)
 refine (hf.ok w [] L _ (by simp [g1, b1G h2]) hent).mono ?_
 rintro e' w' ⟨r, res, σ', L', rfl, rfl, h3⟩
 obtain ⟨p1, p2, p3, p4⟩ := a8q hp
 refine ⟨r, rfl, hk res r w' rfl ⟨p2, p3⟩ ?_ h3.chg⟩
 have := a9Q (C := C) (L := L) (m := 0) p1 (by rw [p2]; simp) (h3.tm 0 res (by simp [a0Y]))
 rwa [p4] at this
theorem a0T {f : FuncId} : Ev P C nt σ (.func f) (.fn f []) := Ev.mk fun L a w hr => by
 simp only [SVr, a4Y]; exact ⟨[], rfl, rfl⟩
theorem c3k {f : FuncId} {caps : List (List DV)} : a4l σ (.fn f caps) (.fn f caps) := rfl
theorem b2b {f : FuncId} {bs : List Nat} {caps : List (List DV)} (h : a4s σ bs caps) : a4l σ (.clo f bs) (.fn f caps) := ⟨caps, h, rfl⟩
theorem a9R : a4s σ [] [] := rfl
theorem b1g {b t : Nat} {bs : List Nat} {cs : List CV} {ds : List DV} {dss : List (List DV)} (h : look σ.bx b = some (t, cs)) (h1 : cs = ds.map (CV.dv [])) (h2 : a4s σ bs dss) : a4s σ (b :: bs) (ds :: dss) := ⟨ds, dss, t, rfl, by rw [h, h1], h2⟩
theorem b0B {f : FuncId} {b : Nat} (ho : o.op = .makeFunc (.func f) #[] #[x]) (hx : Ev P C nt σ x (.box b 0)) : Pu P C nt o σ (.clo f [b]) [] [] := c4l (cxs := #[x]) ho fun L a w hr => by
 have := hx.run L a w hr
 simp only [SVr] at this
 simp [this]
section
variable {Q : Exit → St → Prop} {all : Array Oper} {rest : List Oper} {tm : List (Nat × SV)} {bx : List (Nat × TypeId × List CV)} {ks : List (Nat × Option KC)} {d : Nat} {X : SV} {g : Bool} {oB oK : List Nat} {listed : Array Bool} {fuel : Nat}
theorem a9q {f : FuncId} {xs : List Operand} {ats : Array TypeId} {us : List SV} {caps : List (List DV)} (hg : o.guard = none) (hd : o.dst = some d) (ho : o.op = .call { callee := .value y, args := xs.toArray, argTypes := ats }) (hy : Ev P C nt ⟨tm, bx, ks⟩ y (.fn f caps))
  (hc : ∀ (args : Array Value) (w : World), (callFunc f args).run P w = .ok (.enter f args) w) (hf : PFn P f (us ++ caps.map (SV.ref [])) X) (ha : a2t P C nt ⟨tm, bx, ks⟩ xs us) (hp : X.plain = true) (hn : Nat.blt d nt = true) (h : Ops P C nt Q all rest ⟨(d, X) :: tm, bx, ks⟩) : Ops P C nt Q all (o :: rest) ⟨tm, bx, ks⟩ :=
 a9N hg ((c2d ho hy hc hf hp ha).efg hd hn).ef fun σ' ⟨v, hv, e⟩ => by rw [e, hv]; exact h
end
end
@[reducible] def a2B {α : Type} (e sz : Nat) (enc : α → List DV) (xs : List α) : DV := .sl e sz xs.length (xs.flatMap enc)
section
variable {P : Program} {C : Ctx} {nt : Nat} {σ : St} {o : Oper} {x y u : Operand} {T : TT}
theorem b7X {ok : Nat → Prop} {w : World} {e sz n c l m : Nat} {cs : List DV} {A : Option Addr} (h : Lay ok w (.sl e sz n cs) (.slice A n c)) (hlm : l + m ≤ n) : Lay ok w (.sl e sz m (sub (l * sz) (m * sz) cs)) (sliced A l (l + m) c sz) := by
 simp only [Lay] at h
 obtain ⟨A', c', vs, e1, h2, h3, h4, h5, h6, h7⟩ := h
 simp only [Value.slice.injEq, true_and] at e1
 obtain ⟨rfl, rfl⟩ := e1
 have hb : l * sz + m * sz ≤ n * sz := by rw [← Nat.add_mul]; exact Nat.mul_le_mul_right _ hlm
 simp only [Lay, sliced]
 refine ⟨_, _, sub (l * sz) (m * sz) vs, by rw [Nat.add_sub_cancel_left], by omega, by omega, h4, ?_, b0v _ _ h6, fun hm => ?_⟩
 ·rw [a4B _ _ _ (by omega)]
 ·obtain ⟨b, off, g1, g2, g3⟩ := h7 (by omega)
  have hc : ¬ c = l := by omega
  refine ⟨b, off + l * sz, by rw [if_neg hc, g1]; simp only [Option.map_some, a5M], g2, fun j v hv => ?_⟩
  have hj : j < m * sz := by
   have := (List.getElem?_eq_some_iff.1 hv).1
   rw [a4B _ _ _ (by rw [a4w _ _ h6, h5]; exact hb)] at this
   exact this
  rw [a9w _ _ _ _ hj] at hv
  have := g3 _ _ hv
  rwa [Nat.add_assoc]
theorem b4d {α : Type} {enc : α → List DV} {sz : Nat} (hs : ∀ x, (enc x).length = sz) : ∀ (xs : List α) (l m : Nat), sub (l * sz) (m * sz) (xs.flatMap enc) = (sub l m xs).flatMap enc := by
 have key : ∀ (xs : List α) (l : Nat), (xs.flatMap enc).drop (l * sz) = (xs.drop l).flatMap enc := fun xs => by
  induction xs with
  | nil => intro l; simp
  | cons x xs ih =>
   intro l
   cases l with
   | zero => simp
   | succ l =>
    rw [List.flatMap_cons, show (l + 1) * sz = (enc x).length + l * sz by rw [hs, Nat.add_mul]; omega, ← List.drop_drop, List.drop_left, ih, List.drop_succ_cons]
 have key2 : ∀ (xs : List α) (m : Nat), (xs.flatMap enc).take (m * sz) = (xs.take m).flatMap enc := fun xs => by
  induction xs with
  | nil => intro l; simp
  | cons x xs ih =>
   intro l
   cases l with
   | zero => simp
   | succ l =>
    rw [List.flatMap_cons, show (l + 1) * sz = (enc x).length + l * sz by rw [hs, Nat.add_mul]; omega, List.take_length_add_append, ih, List.take_succ_cons, List.flatMap_cons]
 intro xs l m
 simp only [sub]
 rw [key, key2]
theorem b0y (hT : TTOk P T) {e sz by_ : Nat} {zc : List CV} (he : look T.el e = some (sz, by_, zc)) (w : World) : (sizeOf e).run P w = .ok sz w := by
 obtain ⟨inf, z, g1, g2, _⟩ := hT.el e sz by_ zc he
 simp [sizeOf, typeInfo, g1, g2]
theorem a9U {t e : Nat} (h : P.underlying t = some (.slice e)) : P.underlying t = some (.slice (P.elem t)) ∧ P.elem t = e := by
 have : P.elem t = e := by simp [Program.elem, h]
 exact ⟨by rw [this]; exact h, this⟩
theorem a8T (hT : TTOk P T) {α : Type} {t e' sz by_ : Nat} {zc : List CV} {K J : List Nat} {e : Nat} {z : Int} {xs : List α} {enc : α → List DV} (ho : o.op = .slice t x none (some y) none) (h : look T.sl t = some e') (he : look T.el e' = some (sz, by_, zc))
  (hx : Ev P C nt σ x (.one (.dv K (a2B e sz enc xs)))) (hy : Ev P C nt σ y (.one (.dv J (.int .i64 z)))) (hs : ∀ x, (enc x).length = sz) (h0 : 0 ≤ z) (h1 : z ≤ xs.length) : Pu P C nt o σ (.one (.dv K (a2B e sz enc (xs.take z.toNat)))) [] [] := Pu.mk fun L a w hr => by
 have h2 := hx.run L a w hr
 have h3 := hy.run L a w hr
 simp only [SVr, CVr] at h2 h3
 simp only [Lay] at h3
 have h2' := h2
 simp only [a2B, Lay] at h2
 obtain ⟨A, c, vs, e1, h4, h5, h6, h7, h8, h9⟩ := h2
 obtain ⟨k1, k2⟩ := a9U (hT.sl t e' h)
 rw [e1] at h2'
 have hl := b7X (l := 0) (m := z.toNat) h2' (by omega)
 rw [b4d hs] at hl
 simp only [sub, List.drop_zero, Nat.zero_add] at hl
 refine ⟨sliced A 0 z.toNat c sz, ?_, fun w' _ => ?_⟩
 ·simp only [SVr, CVr, a2B]
  rw [c5t, Nat.min_eq_left (by omega)]
  exact hl
 ·unfold execOp
  simp only [ho, Option.map_none, Option.map_some, e1, h3.1, Sem.run_bind, run_sliceAt_slice _ _ _ _ _ _ k1, run_slice_h w' t A xs.length c k1 .i64 z h0 (by omega), k2, b0y hT he, Result.andThen_ok, Sem.run_pure]
theorem b8m (hT : TTOk P T) {α : Type} {t e' sz by_ : Nat} {zc : List CV} {K J : List Nat} {e : Nat} {z : Int} {xs : List α} {enc : α → List DV} (ho : o.op = .slice t x (some y) none none) (h : look T.sl t = some e') (he : look T.el e' = some (sz, by_, zc))
  (hx : Ev P C nt σ x (.one (.dv K (a2B e sz enc xs)))) (hy : Ev P C nt σ y (.one (.dv J (.int .i64 z)))) (hs : ∀ x, (enc x).length = sz) (h0 : 0 ≤ z) (h1 : z ≤ xs.length) : Pu P C nt o σ (.one (.dv K (a2B e sz enc (xs.drop z.toNat)))) [] [] := Pu.mk fun L a w hr => by
 have h2 := hx.run L a w hr
 have h3 := hy.run L a w hr
 simp only [SVr, CVr] at h2 h3
 simp only [Lay] at h3
 have h2' := h2
 simp only [a2B, Lay] at h2
 obtain ⟨A, c, vs, e1, h4, h5, h6, h7, h8, h9⟩ := h2
 obtain ⟨k1, k2⟩ := a9U (hT.sl t e' h)
 rw [e1] at h2'
 have hl := b7X (l := z.toNat) (m := xs.length - z.toNat) h2' (by omega)
 rw [b4d hs, show z.toNat + (xs.length - z.toNat) = xs.length by omega] at hl
 have e2 : sub z.toNat (xs.length - z.toNat) xs = xs.drop z.toNat := by simp [sub, List.take_of_length_le]
 rw [e2] at hl
 refine ⟨sliced A z.toNat xs.length c sz, ?_, fun w' _ => ?_⟩
 ·simp only [SVr, CVr, a2B]
  rw [List.length_drop]
  exact hl
 ·unfold execOp
  simp only [ho, Option.map_none, Option.map_some, e1, h3.1, Sem.run_bind, run_sliceAt_slice _ _ _ _ _ _ k1, run_slice_l w' t A xs.length c k1 .i64 z h0 (by omega), k2, b0y hT he, Result.andThen_ok, Sem.run_pure]
theorem c1n (hT : TTOk P T) {s d : Nat} {k k' k2 : IntKind} {J : List Nat} {z : Int} (ho : o.op = .convert s d x) (h : look T.it s = some k2) (hi : look T.it d = some k) (hx : Ev P C nt σ x (.one (.dv J (.int k' z)))) : Pu P C nt o σ (.one (.dv [] (.int k (k.wrap z)))) [] [] := Pu.mk fun L a w hr => by
 have h2 := hx.run L a w hr
 simp only [SVr, CVr, Lay] at h2
 refine ⟨.int k (k.wrap z), by simp only [SVr, CVr, Lay]; exact ⟨trivial, a8U _ _⟩, fun w' _ => ?_⟩
 unfold execOp
 simp [ho, h2.1, convert, run_underlying (hT.it s k2 h), run_underlying (hT.it d k hi), Conv.intToInt]
/-! ### bytes to a string -/
theorem b7F {ok : Nat → Prop} {w : World} : ∀ {xs : List UInt8} {vs : List Value}, a1n ok w (xs.flatMap fun b => [DV.int .u8 (b.toNat : Int)]) vs → vs = (xs.map fun b => (b.toNat : Int)).map (Value.int .u8)
 | [], vs, h => by simp only [List.flatMap_nil, a1n] at h; simpa using h
 | x :: xs, vs, h => by
  simp only [List.flatMap_cons, List.cons_append, List.nil_append, a1n] at h
  obtain ⟨v, vs', rfl, h1, h2⟩ := h
  simp only [Lay] at h1
  rw [b7F h2, h1.1]
  simp
theorem b6M : ∀ (xs : List UInt8) (s : ByteArray), (xs.map fun b => (b.toNat : Int)).foldl (fun r n => r.push (UInt8.ofNat n.toNat)) s = ⟨s.data ++ xs.toArray⟩
 | [], s => by simp
 | x :: xs, s => by
  simp only [List.map_cons, List.foldl_cons]
  rw [b6M xs]
  congr 1
  have : UInt8.ofNat ((x.toNat : Int)).toNat = x := by simp
  rw [this]
  simp [ByteArray.push, ByteArray.data_push]
def a5j (xs : List UInt8) : ByteArray := ⟨xs.toArray⟩
theorem b8J (hT : TTOk P T) {s d e' : Nat} {v : Unit} {K : List Nat} {e : Nat} {xs : List UInt8} (ho : o.op = .convert s d x) (h : look T.sl s = some e') (hi : look T.it e' = some .u8) (hst : look T.st d = some v) (hx : Ev P C nt σ x (.one (.dv K (a2B e 1 (fun b : UInt8 => [DV.int .u8 (b.toNat : Int)]) xs)))) : Pu P C nt o σ (.one (.dv [] (.str (a5j xs)))) K [] := Pu.mk fun L a w hr => by
 have h2 := hx.run L a w hr
 simp only [SVr, CVr, a2B, Lay] at h2
 obtain ⟨A, c, vs, e1, h4, h5, h6, h7, h8, h9⟩ := h2
 have hv := b7F h8
 refine ⟨.string (a5j xs), ?_, fun w' hw => ?_⟩
 ·simp only [SVr, CVr, Lay]
  refine ⟨trivial, ?_⟩
  unfold maxLen at h5
  have : (a5j xs).size = xs.length := by simp [a5j, ByteArray.size]
  omega
 ·unfold execOp
  have hs := hT.sl s e' h
  have hconv : ∀ A c, (convert s d (.slice A xs.length c)).run P w' = (Conv.bytesToString (.slice A xs.length c)).run P w' := fun A c => run_convert_bytes_string w' s d e' A xs.length c hs (hT.it e' _ hi) (hT.st d v hst)
  have hlen : vs.length = xs.length := by rw [hv]; simp
  have hfin : (Conv.bytesToString (.slice A xs.length c)).run P w' = .ok (.string (a5j xs)) w' := by
   cases A with
   | none =>
    have h0 : xs.length = 0 := by
     rcases Nat.eq_zero_or_pos xs.length with h0 | h0
     ·exact h0
     ·obtain ⟨b, off, k1, _⟩ := h9 h0
      cases k1
    have hxs : xs = [] := List.eq_nil_of_length_eq_zero h0
    subst hxs
    rfl
   | some ad =>
    have hld : (loadCells ad xs.length).run P w' = .ok ((xs.map fun b => (b.toNat : Int)).map (Value.int .u8)).toArray w' := by
     rw [← hv, ← hlen]
     refine run_loadCells_list w' ad vs (fun j u hu => ?_)
     have hpos : 0 < xs.length := by
      have := (List.getElem?_eq_some_iff.1 hu).1
      omega
     obtain ⟨b, off, k1, k2, k3⟩ := h9 hpos
     simp only [Option.some.injEq] at k1
     subst k1
     have hlt : b < w.heap.size := a5E (k3 j u hu)
     rw [a5M]
     exact (World.cell?_of_block (a := ⟨b, off + j, none⟩) (hw b hlt (.inl k2))).trans (k3 j u hu)
    rw [run_bytesToString w' ad xs.length c _ hld, b6M]
    simp [a5j]
  simp only [ho, e1, Sem.run_bind, hconv, hfin, Result.andThen_ok, Sem.run_pure]
end
end Go.Proofs.YteellmjlalgjaaaGreat
