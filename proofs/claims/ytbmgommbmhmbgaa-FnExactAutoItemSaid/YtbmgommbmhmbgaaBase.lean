/-
  Codecs: how Go values of the seat's data types lie in memory, for reading (Rd) and owned by the call (Own). No program is in sight.
-/
import Derived.WalkKit
import Derived.Laws.OwnMore
import Derived.Deep.AppendLies
import Derived.Maps.AppendAt
import Derived.Deep.Draws
import Derived.Lib.Hide
namespace Go.Proofs.Ytbmgommbmhmbgaa
open Go.RowKit

/-- Among the blocks that were there, only those of S have turned. -/
structure Chg (S : List Nat) (w w' : World) : Prop where
  os : w'.os = w.os
  tape : w'.tape = w.tape
  output : w'.output = w.output
  size : w.heap.size ≤ w'.heap.size
  block : ∀ k, k < w.heap.size → k ∉ S → w'.heap[k]? = w.heap[k]?

theorem Chg.refl (S : List Nat) (w : World) : Chg S w w := ⟨rfl, rfl, rfl, Nat.le_refl _, fun _ _ _ => rfl⟩
theorem Chg.trans {S : List Nat} {a b c : World} (h : Chg S a b) (k : Chg S b c) : Chg S a c :=
  ⟨k.os.trans h.os, k.tape.trans h.tape, k.output.trans h.output, Nat.le_trans h.size k.size, fun i hi hn => (k.block i (Nat.lt_of_lt_of_le hi h.size) hn).trans (h.block i hi hn)⟩
theorem Chg.mono {S T : List Nat} {a b : World} (h : Chg S a b) (hs : ∀ k ∈ S, k ∈ T) : Chg T a b :=
  ⟨h.os, h.tape, h.output, h.size, fun i hi hn => h.block i hi (fun hm => hn (hs i hm))⟩
theorem Chg.drew {S : List Nat} {a w : World} (h : Chg S a w) : Chg S a w.drew := ⟨h.os, h.tape, h.output, h.size, h.block⟩
theorem Chg.drewN {S : List Nat} {a w : World} (h : Chg S a w) (n : Nat) : Chg S a (w.drewN n) := ⟨h.os, h.tape, h.output, h.size, h.block⟩
theorem Chg.alloc {S : List Nat} {a w : World} (h : Chg S a w) (o : Obj) : Chg S a (w.alloc o) :=
  ⟨h.os, h.tape, h.output, Nat.le_trans h.size (by simp), fun i hi hn => (Below.heap_alloc w o i (Nat.lt_of_lt_of_le hi h.size)).trans (h.block i hi hn)⟩
theorem Chg.setCell {S : List Nat} {a w : World} (h : Chg S a w) {p : Addr} (hp : p.block ∈ S ∨ a.heap.size ≤ p.block) (u : Value) : Chg S a (w.setCell p u) :=
  ⟨h.os, h.tape, h.output, by simpa [World.setCell] using h.size, fun i hi hn => (Below.heap_setCell w p u i (by
    rintro rfl
    rcases hp with hp | hp
    · exact hn hp
    · omega)).trans (h.block i hi hn)⟩
theorem Chg.grown {S : List Nat} {a w w' : World} {row : Option Nat} (h : Chg S a w) (hg : w.grownBy w' row) (hr : ∀ g, row = some g → g ∈ S ∨ a.heap.size ≤ g) : Chg S a w' :=
  ⟨hg.os.trans h.os, hg.tape.trans h.tape, hg.output.trans h.output, Nat.le_trans h.size hg.size, fun i hi hn => (hg.block i (Nat.lt_of_lt_of_le hi h.size) (fun e => by
    rcases hr _ e.symm with h1 | h1
    · exact hn h1
    · omega)).trans (h.block i hi hn)⟩
theorem Chg.of_below {B : Nat} {a w : World} (h : Below B a w) (hB : a.heap.size ≤ B) (S : List Nat) : Chg S a w :=
  ⟨h.os, h.tape, h.output, h.size, fun i hi _ => h.block i (by omega)⟩
theorem Chg.below {a w : World} (h : Chg [] a w) : Below a.heap.size a w := ⟨h.os, h.tape, h.output, h.size, fun i hi => h.block i hi (by simp)⟩
/-- what a later stretch writes is either new or in S -/
theorem Chg.andThen {S T : List Nat} {a b c : World} (h : Chg S a b) (k : Chg T b c) (ht : ∀ x ∈ T, x ∈ S ∨ a.heap.size ≤ x) : Chg S a c :=
  ⟨k.os.trans h.os, k.tape.trans h.tape, k.output.trans h.output, Nat.le_trans h.size k.size, fun i hi hn => (k.block i (Nat.lt_of_lt_of_le hi h.size) (fun hm => by
    rcases ht i hm with h1 | h1
    · exact hn h1
    · omega)).trans (h.block i hi hn)⟩

/-- A codec: how a value of α lies in cells, for reading below block B, and owned with the list of the blocks that it lies in. -/
structure Cod (α : Type) where
  size : Nat
  zero : α
  zcells : List Value
  Rd : World → Nat → α → List Value → Prop
  Own : World → α → List Value → List Nat → Prop
  pos : 0 < size
  rd_len : ∀ {w B x cs}, Rd w B x cs → cs.length = size
  own_len : ∀ {w x cs fp}, Own w x cs fp → cs.length = size
  rd_keep : ∀ {w w' B x cs}, Rd w B x cs → (∀ b, b < B → w'.heap[b]? = w.heap[b]?) → Rd w' B x cs
  rd_le : ∀ {w B B' x cs}, Rd w B x cs → B ≤ B' → Rd w B' x cs
  own_keep : ∀ {w w' x cs fp}, Own w x cs fp → (∀ b, b ∈ fp → w'.heap[b]? = w.heap[b]?) → Own w' x cs fp
  own_lt : ∀ {w x cs fp}, Own w x cs fp → ∀ b ∈ fp, b < w.heap.size
  own_rd : ∀ {w B x cs fp}, Own w x cs fp → (∀ b ∈ fp, b < B) → Rd w B x cs
  one : ∀ {w x cs fp}, Own w x cs fp → ∀ u ∈ cs, u.oneCell' = true
  own_zero : ∀ w, Own w zero zcells []

/-- reading, of lists: the cells one behind the other -/
def AllR {α : Type} (r : α → List Value → Prop) : List α → List Value → Prop
  | [], cs => cs = []
  | x :: xs, cs => ∃ c1 c2, cs = c1 ++ c2 ∧ r x c1 ∧ AllR r xs c2
/-- owning, of lists -/
def AllO {α : Type} (r : α → List Value → List Nat → Prop) : List α → List Value → List Nat → Prop
  | [], cs, fp => cs = [] ∧ fp = []
  | x :: xs, cs, fp => ∃ c1 c2 f1 f2, cs = c1 ++ c2 ∧ fp = f1 ++ f2 ∧ r x c1 f1 ∧ AllO r xs c2 f2

section
variable {α : Type} {r r' : α → List Value → Prop} {o o' : α → List Value → List Nat → Prop}
theorem AllR.weak (h : ∀ x c, r x c → r' x c) : ∀ (xs : List α) (cs : List Value), AllR r xs cs → AllR r' xs cs
  | [], _, hc => hc
  | _ :: xs, _, ⟨c1, c2, e, h1, h2⟩ => ⟨c1, c2, e, h _ _ h1, AllR.weak h xs c2 h2⟩
theorem AllR.len {n : Nat} (h : ∀ x c, r x c → c.length = n) : ∀ (xs : List α) (cs : List Value), AllR r xs cs → cs.length = xs.length * n
  | [], _, hc => by simp [AllR] at hc; simp [hc]
  | _ :: xs, _, ⟨c1, c2, e, h1, h2⟩ => by
    have h3 := AllR.len h xs c2 h2
    have h4 := h _ _ h1
    simp [e, h3, h4, Nat.add_mul]; omega
theorem AllR.get {n : Nat} (h : ∀ x c, r x c → c.length = n) : ∀ (xs : List α) (cs : List Value) (i : Nat) (x : α), AllR r xs cs → xs[i]? = some x →
    ∃ ci, r x ci ∧ ∀ j, j < n → cs[i * n + j]? = ci[j]?
  | [], _, i, x, _, hx => by simp at hx
  | y :: xs, _, 0, x, ⟨c1, c2, e, h1, h2⟩, hx => by
    simp at hx; subst hx
    refine ⟨c1, h1, fun j hj => ?_⟩
    have := h _ _ h1
    rw [e, Nat.zero_mul, Nat.zero_add, List.getElem?_append_left (by omega)]
  | y :: xs, _, i + 1, x, ⟨c1, c2, e, h1, h2⟩, hx => by
    simp at hx
    obtain ⟨ci, hr, hj⟩ := AllR.get h xs c2 i x h2 hx
    refine ⟨ci, hr, fun j hjn => ?_⟩
    have := h _ _ h1
    rw [e, List.getElem?_append_right (by rw [this, Nat.add_mul]; omega), ← hj j hjn]
    congr 1
    rw [this, Nat.add_mul]; omega
theorem AllO.weak (h : ∀ x c f, o x c f → o' x c f) : ∀ (xs : List α) (cs : List Value) (fp : List Nat), AllO o xs cs fp → AllO o' xs cs fp
  | [], _, _, hc => hc
  | _ :: xs, _, _, ⟨c1, c2, f1, f2, e, ef, h1, h2⟩ => ⟨c1, c2, f1, f2, e, ef, h _ _ _ h1, AllO.weak h xs c2 f2 h2⟩
theorem AllO.keep : ∀ (xs : List α) (cs : List Value) (fp : List Nat), AllO o xs cs fp → (∀ x c f, (∀ b ∈ f, b ∈ fp) → o x c f → o' x c f) → AllO o' xs cs fp
  | [], _, _, hc, _ => hc
  | _ :: xs, _, _, ⟨c1, c2, f1, f2, e, ef, h1, h2⟩, h => ⟨c1, c2, f1, f2, e, ef, h _ _ _ (by intro b hb; rw [ef]; simp [hb]) h1,
      AllO.keep xs c2 f2 h2 (fun x c f hf ho => h x c f (fun b hb => by rw [ef]; simp [hf b hb]) ho)⟩
theorem AllO.len {n : Nat} (h : ∀ x c f, o x c f → c.length = n) : ∀ (xs : List α) (cs : List Value) (fp : List Nat), AllO o xs cs fp → cs.length = xs.length * n
  | [], _, _, hc => by simp [AllO] at hc; simp [hc]
  | _ :: xs, _, _, ⟨c1, c2, f1, f2, e, ef, h1, h2⟩ => by
    have h3 := AllO.len h xs c2 f2 h2
    have h4 := h _ _ _ h1
    simp [e, h3, h4, Nat.add_mul]; omega
theorem AllO.rd (h : ∀ x c f, (∀ b ∈ f, True) → o x c f → r x c) : ∀ (xs : List α) (cs : List Value) (fp : List Nat), AllO o xs cs fp → AllR r xs cs
  | [], _, _, hc => hc.1
  | _ :: xs, _, _, ⟨c1, c2, f1, f2, e, ef, h1, h2⟩ => ⟨c1, c2, e, h _ _ _ (by simp) h1, AllO.rd h xs c2 f2 h2⟩
theorem AllO.rdb {B : Nat} (h : ∀ x c f, (∀ b ∈ f, b < B) → o x c f → r x c) : ∀ (xs : List α) (cs : List Value) (fp : List Nat), AllO o xs cs fp → (∀ b ∈ fp, b < B) → AllR r xs cs
  | [], _, _, hc, _ => hc.1
  | _ :: xs, _, _, ⟨c1, c2, f1, f2, e, ef, h1, h2⟩, hb => ⟨c1, c2, e, h _ _ _ (fun b hm => hb b (by rw [ef]; simp [hm])) h1, AllO.rdb h xs c2 f2 h2 (fun b hm => hb b (by rw [ef]; simp [hm]))⟩
theorem AllO.mem {p : Nat → Prop} (h : ∀ x c f, o x c f → ∀ b ∈ f, p b) : ∀ (xs : List α) (cs : List Value) (fp : List Nat), AllO o xs cs fp → ∀ b ∈ fp, p b
  | [], _, _, hc, b, hb => by rw [hc.2] at hb; simp at hb
  | _ :: xs, _, _, ⟨c1, c2, f1, f2, e, ef, h1, h2⟩, b, hb => by
    rw [ef, List.mem_append] at hb
    rcases hb with hb | hb
    · exact h _ _ _ h1 b hb
    · exact AllO.mem h xs c2 f2 h2 b hb
theorem AllO.memc {p : Value → Prop} (h : ∀ x c f, o x c f → ∀ b ∈ c, p b) : ∀ (xs : List α) (cs : List Value) (fp : List Nat), AllO o xs cs fp → ∀ b ∈ cs, p b
  | [], _, _, hc, b, hb => by rw [hc.1] at hb; simp at hb
  | _ :: xs, _, _, ⟨c1, c2, f1, f2, e, ef, h1, h2⟩, b, hb => by
    rw [e, List.mem_append] at hb
    rcases hb with hb | hb
    · exact h _ _ _ h1 b hb
    · exact AllO.memc h xs c2 f2 h2 b hb
theorem AllO.append : ∀ (xs ys : List α) (c1 c2 : List Value) (f1 f2 : List Nat), AllO o xs c1 f1 → AllO o ys c2 f2 → AllO o (xs ++ ys) (c1 ++ c2) (f1 ++ f2)
  | [], _, _, _, _, _, h1, h2 => by obtain ⟨rfl, rfl⟩ := h1; exact h2
  | x :: xs, ys, _, c2, _, f2, ⟨a1, a2, g1, g2, e, ef, h1, h2⟩, hy => by
    subst e; subst ef
    exact ⟨a1, a2 ++ c2, g1, g2 ++ f2, by simp, by simp, h1, AllO.append xs ys a2 c2 g2 f2 h2 hy⟩
theorem AllO.one {x : α} {c : List Value} {f : List Nat} (h : o x c f) : AllO o [x] c f := ⟨c, [], f, [], by simp, by simp, h, rfl, rfl⟩
theorem AllO.split : ∀ (xs ys : List α) (cs : List Value) (fp : List Nat), AllO o (xs ++ ys) cs fp → ∃ c1 c2 f1 f2, cs = c1 ++ c2 ∧ fp = f1 ++ f2 ∧ AllO o xs c1 f1 ∧ AllO o ys c2 f2
  | [], _, cs, fp, h => ⟨[], cs, [], fp, by simp, by simp, ⟨rfl, rfl⟩, h⟩
  | x :: xs, ys, _, _, ⟨a1, a2, g1, g2, e, ef, h1, h2⟩ => by
    obtain ⟨c1, c2, f1, f2, rfl, rfl, h3, h4⟩ := AllO.split xs ys a2 g2 h2
    exact ⟨a1 ++ c1, c2, g1 ++ f1, f2, by simp [e], by simp [ef], ⟨a1, c1, g1, f1, rfl, rfl, h1, h3⟩, h4⟩
end

/-- integers of the kind int -/
def intC : Cod Int where
  size := 1
  zero := 0
  zcells := [.int .i64 0]
  Rd := fun _ _ n cs => cs = [.int .i64 n] ∧ -9223372036854775808 ≤ n ∧ n ≤ 9223372036854775807
  Own := fun _ n cs fp => cs = [.int .i64 n] ∧ fp = [] ∧ -9223372036854775808 ≤ n ∧ n ≤ 9223372036854775807
  pos := by decide
  rd_len := fun h => by rw [h.1]; rfl
  own_len := fun h => by rw [h.1]; rfl
  rd_keep := fun h _ => h
  rd_le := fun h _ => h
  own_keep := fun h _ => h
  own_lt := fun h b hb => by rw [h.2.1] at hb; simp at hb
  own_rd := fun h _ => ⟨h.1, h.2.2⟩
  one := fun h u hu => by rw [h.1] at hu; simp at hu; subst hu; rfl
  own_zero := fun _ => ⟨rfl, rfl, by decide, by decide⟩
/-- bytes -/
def byteC : Cod UInt8 where
  size := 1
  zero := 0
  zcells := [.int .u8 0]
  Rd := fun _ _ n cs => cs = [.int .u8 (n.toNat : Int)]
  Own := fun _ n cs fp => cs = [.int .u8 (n.toNat : Int)] ∧ fp = []
  pos := by decide
  rd_len := fun h => by rw [h]; rfl
  own_len := fun h => by rw [h.1]; rfl
  rd_keep := fun h _ => h
  rd_le := fun h _ => h
  own_keep := fun h _ => h
  own_lt := fun h b hb => by rw [h.2] at hb; simp at hb
  own_rd := fun h _ => h.1
  one := fun h u hu => by rw [h.1] at hu; simp at hu; subst hu; rfl
  own_zero := fun _ => ⟨rfl, rfl⟩
/-- strings -/
def strC : Cod ByteArray where
  size := 1
  zero := ByteArray.empty
  zcells := [.string ByteArray.empty]
  Rd := fun _ _ n cs => cs = [.string n] ∧ n.size ≤ 9223372036854775807
  Own := fun _ n cs fp => cs = [.string n] ∧ fp = [] ∧ n.size ≤ 9223372036854775807
  pos := by decide
  rd_len := fun h => by rw [h.1]; rfl
  own_len := fun h => by rw [h.1]; rfl
  rd_keep := fun h _ => h
  rd_le := fun h _ => h
  own_keep := fun h _ => h
  own_lt := fun h b hb => by rw [h.2.1] at hb; simp at hb
  own_rd := fun h _ => ⟨h.1, h.2.2⟩
  one := fun h u hu => by rw [h.1] at hu; simp at hu; subst hu; rfl
  own_zero := fun _ => ⟨rfl, rfl, by decide⟩
/-- one field behind the other -/
def prodC {α β : Type} (A : Cod α) (B : Cod β) : Cod (α × β) where
  size := A.size + B.size
  zero := (A.zero, B.zero)
  zcells := A.zcells ++ B.zcells
  Rd := fun w b x cs => ∃ c1 c2, cs = c1 ++ c2 ∧ A.Rd w b x.1 c1 ∧ B.Rd w b x.2 c2
  Own := fun w x cs fp => ∃ c1 c2 f1 f2, cs = c1 ++ c2 ∧ fp = f1 ++ f2 ∧ A.Own w x.1 c1 f1 ∧ B.Own w x.2 c2 f2
  pos := by have := A.pos; omega
  rd_len := fun ⟨c1, c2, e, h1, h2⟩ => by rw [e, List.length_append, A.rd_len h1, B.rd_len h2]
  own_len := fun ⟨c1, c2, f1, f2, e, _, h1, h2⟩ => by rw [e, List.length_append, A.own_len h1, B.own_len h2]
  rd_keep := fun ⟨c1, c2, e, h1, h2⟩ h => ⟨c1, c2, e, A.rd_keep h1 h, B.rd_keep h2 h⟩
  rd_le := fun ⟨c1, c2, e, h1, h2⟩ h => ⟨c1, c2, e, A.rd_le h1 h, B.rd_le h2 h⟩
  own_keep := fun ⟨c1, c2, f1, f2, e, ef, h1, h2⟩ h => ⟨c1, c2, f1, f2, e, ef, A.own_keep h1 (fun b hb => h b (by rw [ef]; simp [hb])), B.own_keep h2 (fun b hb => h b (by rw [ef]; simp [hb]))⟩
  own_lt := fun ⟨c1, c2, f1, f2, e, ef, h1, h2⟩ b hb => by
    rw [ef, List.mem_append] at hb
    rcases hb with hb | hb
    · exact A.own_lt h1 b hb
    · exact B.own_lt h2 b hb
  own_rd := fun ⟨c1, c2, f1, f2, e, ef, h1, h2⟩ h => ⟨c1, c2, e, A.own_rd h1 (fun b hb => h b (by rw [ef]; simp [hb])), B.own_rd h2 (fun b hb => h b (by rw [ef]; simp [hb]))⟩
  one := fun ⟨c1, c2, f1, f2, e, ef, h1, h2⟩ u hu => by
    rw [e, List.mem_append] at hu
    rcases hu with hu | hu
    · exact A.one h1 u hu
    · exact B.one h2 u hu
  own_zero := fun w => ⟨_, _, [], [], rfl, rfl, A.own_zero w, B.own_zero w⟩
/-- a slice of elements of type e -/
def sliceC {α : Type} (e : TypeId) (C : Cod α) : Cod (List α) where
  size := 1
  zero := []
  zcells := [.slice none 0 0]
  Rd := fun w B xs cs => ∃ A c cells, cs = [.slice A xs.length c] ∧ xs.length ≤ c ∧ c ≤ maxLen ∧ AllR (C.Rd w B) xs cells ∧
    (0 < xs.length → ∃ b off, A = some ⟨b, off, none⟩ ∧ b < B ∧ ∀ j u, cells[j]? = some u → w.cell? ⟨b, off + j, none⟩ = some u)
  Own := fun w xs cs fp => ∃ v cells f, cs = [v] ∧ fp = v.ownBlock.toList ++ f ∧ w.ownsRow 0 e C.size v xs.length cells ∧ AllO (C.Own w) xs cells f
  pos := by decide
  rd_len := fun ⟨_, _, _, h, _⟩ => by rw [h]; rfl
  own_len := fun ⟨_, _, _, h, _⟩ => by rw [h]; rfl
  rd_keep := fun ⟨A, c, cells, h1, h2, h3, h4, h5⟩ h => ⟨A, c, cells, h1, h2, h3, AllR.weak (fun _ _ hr => C.rd_keep hr h) _ _ h4, fun hn => by
    obtain ⟨b, off, e1, e2, e3⟩ := h5 hn
    exact ⟨b, off, e1, e2, fun j u hu => (World.cell?_of_block (h b e2)).trans (e3 j u hu)⟩⟩
  rd_le := fun ⟨A, c, cells, h1, h2, h3, h4, h5⟩ h => ⟨A, c, cells, h1, h2, h3, AllR.weak (fun _ _ hr => C.rd_le hr h) _ _ h4, fun hn => by
    obtain ⟨b, off, e1, e2, e3⟩ := h5 hn
    exact ⟨b, off, e1, Nat.lt_of_lt_of_le e2 h, e3⟩⟩
  own_keep := fun ⟨v, cells, f, h1, h2, h3, h4⟩ h => ⟨v, cells, f, h1, h2, by
      refine ⟨h3.1, ?_⟩
      rcases h3.2 with hn | ⟨g, cap, cur, rfl, hb, hgg, rest⟩
      · exact .inl hn
      · exact .inr ⟨g, cap, cur, rfl, hb, (h g (by rw [h2]; simp [Value.ownBlock])).trans hgg, rest⟩,
    AllO.keep _ _ _ h4 (fun _ _ _ hf ho => C.own_keep ho (fun b hb => h b (by rw [h2]; simp [hf b hb])))⟩
  own_lt := fun ⟨v, cells, f, h1, h2, h3, h4⟩ b hb => by
    rw [h2, List.mem_append] at hb
    rcases hb with hb | hb
    · exact (h3.lt b (by simpa using hb)).2
    · exact AllO.mem (fun _ _ _ ho => C.own_lt ho) _ _ _ h4 b hb
  own_rd := fun ⟨v, cells, f, h1, h2, h3, h4⟩ h => by
    have hR := AllO.rdb (B := _) (fun x c g hb ho => C.own_rd ho hb) _ _ _ h4 (fun b hb => h b (by rw [h2]; simp [hb]))
    rcases h3.2 with ⟨rfl, hn⟩ | ⟨g, cap, cur, rfl, hb, hgg, hnc, hcm, hsz, htake⟩
    · exact ⟨none, 0, cells, by rw [h1, hn], by omega, by simp [maxLen], hR, fun hp => by omega⟩
    · refine ⟨_, _, cells, h1, hnc, hcm, hR, fun _ => ⟨g, 0, rfl, h g (by rw [h2]; simp [Value.ownBlock]), fun j u hu => ?_⟩⟩
      rw [Nat.zero_add, cell_of_row _ g j cur e (0, 0) hgg]
      rw [← htake, List.getElem?_take] at hu
      split at hu
      · simpa using hu
      · cases hu
  one := fun ⟨v, cells, f, h1, h2, h3, h4⟩ u hu => by
    rw [h1] at hu; simp at hu; subst hu
    rcases h3.2 with ⟨rfl, _⟩ | ⟨g, cap, cur, rfl, _⟩ <;> rfl
  own_zero := fun w => ⟨_, [], [], rfl, rfl, World.ownsRow_nil w 0 e C.size, rfl, rfl⟩

/-- make([]T, n): whatever the elements' cells -/
theorem run_make_cells {P : Program} (t e : TypeId) (z : Value) (size bytes : Nat) (ht : P.underlying t = some (.slice e)) (hi : (P.info? e).map (fun i => (i.zero, i.size, i.bytes)) = some (some z, size, bytes))
    (n : Nat) (hbytes : bytes * n ≤ 281474976710656) (h63 : n ≤ 9223372036854775807) (w : World) :
    (Instr.makeSlice t (.int .i64 (n : Int)) (.int .i64 (n : Int))).run P w = .ok (.slice (some ⟨w.heap.size, 0, none⟩) n n) (w.alloc (.cells (madeCells z.cells (n * size)) e)) := by
  obtain ⟨i, hi1, hz, hs, hb⟩ := info_parts hi
  have hb' : (i.bytes : Int) * (n : Int) ≤ 281474976710656 := by
    have h : ((i.bytes * n : Nat) : Int) ≤ 281474976710656 := by rw [hb]; omega
    rwa [Int.natCast_mul] at h
  have hr := run_make (P := P) w t e i z ht hi1 hz .i64 .i64 n n (by omega) (by omega) hb' (by omega)
  simp only [Int.toNat_natCast, hs] at hr
  exact hr

/-- what a caller is told of a fresh result -/
def RetOwn {α : Type} (C : Cod α) (x : α) (w : World) (e : Ending) (w' : World) : Prop :=
  ∃ u fp, e = .returned u ∧ C.Own w' x [u] fp ∧ fp.Nodup ∧ (∀ b ∈ fp, w.heap.size ≤ b) ∧ Chg [] w w'

/-- block g is known whole -/
def Blk (w : World) (g : Nat) (t : TypeId) (cs : Array Value) : Prop := w.heap[g]? = some (.cells cs t (0, 0))
section
variable {w w' : World} {g : Nat} {t : TypeId} {cs : Array Value}
theorem Blk.lt (h : Blk w g t cs) : g < w.heap.size := by
  rcases Nat.lt_or_ge g w.heap.size with hlt | hge
  · exact hlt
  · unfold Blk at h; rw [Array.getElem?_eq_none hge] at h; cases h
theorem Blk.cell (h : Blk w g t cs) (i : Nat) : w.cell? ⟨g, i, none⟩ = cs[i]? := cell_of_row w g i cs t (0, 0) h
theorem Blk.frozen (h : Blk w g t cs) (i : Nat) : w.frozen? ⟨g, i, none⟩ = false := by
  unfold Blk at h
  simp [World.frozen?, h]
theorem Blk.new (w : World) (t : TypeId) (cs : Array Value) : Blk (w.alloc (.cells cs t)) w.heap.size t cs := heap_alloc_new w _
theorem Blk.drew (h : Blk w g t cs) : Blk w.drew g t cs := h
theorem Blk.drewN (h : Blk w g t cs) (n : Nat) : Blk (w.drewN n) g t cs := h
theorem Blk.alloc (h : Blk w g t cs) (o : Obj) : Blk (w.alloc o) g t cs := (Below.heap_alloc w o g h.lt).trans h
theorem Blk.set_ (h : Blk w g t cs) (i : Nat) (u : Value) : Blk (w.setCell ⟨g, i, none⟩ u) g t (cs.setIfInBounds i u) := by
  unfold Blk at h ⊢
  simp [World.setCell, Array.getElem?_modify, h]
theorem Blk.far (h : Blk w g t cs) {p : Addr} (hp : g ≠ p.block) (u : Value) : Blk (w.setCell p u) g t cs := (Below.heap_setCell w p u g hp).trans h
theorem Blk.keep (h : Blk w g t cs) (hk : w'.heap[g]? = w.heap[g]?) : Blk w' g t cs := hk.trans h
theorem Blk.chg {S : List Nat} (h : Blk w g t cs) (hc : Chg S w w') (hg : g ∉ S) : Blk w' g t cs := (hc.block g h.lt hg).trans h
end
theorem Chg.cell {S : List Nat} {w w' : World} (h : Chg S w w') {b off : Nat} (hb : b < w.heap.size) (hs : b ∉ S) : w'.cell? ⟨b, off, none⟩ = w.cell? ⟨b, off, none⟩ :=
  World.cell?_of_block (h.block b hb hs)
theorem Chg.frozen {S : List Nat} {w w' : World} (h : Chg S w w') {b off : Nat} (hb : b < w.heap.size) (hs : b ∉ S) : w'.frozen? ⟨b, off, none⟩ = w.frozen? ⟨b, off, none⟩ :=
  World.frozen?_of_block (h.block b hb hs)

end Go.Proofs.Ytbmgommbmhmbgaa
