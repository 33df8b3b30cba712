/-
  The rules of a small program logic over abstract states: no program is in sight but in the table of its types. Conditions: none.
-/
import Derived.Ground.NamesProg
import Derived.Laws.CopyRow
import Derived.Laws.Externs
import Derived.Lib.AppendZerosOnto
import Derived.Lib.Overlaps
import Derived.Lib.OwnBridge
import Derived.Lib.SlicesCompact
import Derived.Shelf.RegionOpenPlain
import Derived.Shelf.Slices.CompactS
import Derived.Shelf.Slices.In.SortNone
import Derived.Shelf.Sort.Plain
import Derived.Shelf.Spec.SlicesInsert
import Derived.Sort.OwnSorted
import Derived.Sort.Walk0
import Derived.Test.YtjkpoekgnmgofaaGreatProg
import Derived.Test.YtjkpoekgnmgofaaGreatU2
namespace Go.Proofs.YtjkpoekgnmgofaaGreat
open Go.RowKit
open Go.Proofs
open Go.Sort
set_option linter.unusedVariables false
set_option linter.unusedSimpArgs false
def ofB (b : List UInt8) : ByteArray := ⟨b.toArray⟩
def a3k (l : List ByteArray) : List ByteArray := ((l.map fun s => s.data.toList).mergeSort fun x y => decide (x ≤ y)).map ofB
def a3l (l : List ByteArray) : List ByteArray := (Lib.compact (l.map fun s => s.data.toList)).map ofB
theorem b3l (s : ByteArray) : ofB s.data.toList = s := by unfold ofB; rfl
theorem b3t (z : List (List UInt8)) : (z.map ofB).map (fun s => s.data.toList) = z := by
 rw [List.map_map]
 have : ((fun s : ByteArray => s.data.toList) ∘ ofB) = id := by funext b; simp [ofB]
 rw [this, List.map_id]
theorem b2L (l : List ByteArray) : (a3k l).length = l.length := by simp [a3k, List.length_mergeSort]
theorem c4i {l : List ByteArray} {s : ByteArray} : s ∈ a3k l ↔ s ∈ l := by
 unfold a3k
 rw [List.mem_map]
 constructor
 ·rintro ⟨b, hb, e⟩
  rw [List.mem_mergeSort] at hb
  obtain ⟨t, ht, e2⟩ := List.mem_map.1 hb
  rw [← e, ← e2, b3l]; exact ht
 ·intro h
  exact ⟨s.data.toList, List.mem_mergeSort.2 (List.mem_map.2 ⟨s, h, rfl⟩), b3l s⟩
theorem c4k {α : Type} [Inhabited α] [DecidableEq α] {z : List α} {x : α} (h : x ∈ Lib.compact z) : x ∈ z := by
 unfold Lib.compact Lib.compactUpTo at h
 obtain ⟨j, hj, e⟩ := List.mem_map.1 h
 have hj2 := List.mem_range.1 (List.mem_filter.1 hj).1
 rw [← e, getElem!_pos z.toArray j (by simpa using hj2)]
 simp
theorem c0k {l : List ByteArray} {s : ByteArray} (h : s ∈ a3l l) : s ∈ l := by
 unfold a3l at h
 obtain ⟨b, hb, e⟩ := List.mem_map.1 h
 obtain ⟨t, ht, e2⟩ := List.mem_map.1 (c4k hb)
 rw [← e, ← e2, b3l]; exact ht
structure SortOk (P : Program) (f : FuncId) : Prop where
 run : ∀ (blk off cap : Nat) (ss : List (List UInt8)) (w : World), Holds encStr w blk off ss.toArray → blk < w.heap.size → ss.length < 4611686018427387904 → Calls P f #[.slice (some ⟨blk, off, none⟩) ss.length cap] w fun e w' => e = .returned (.tuple #[]) ∧ ∃ n os, w' = grow (putRow encStr (Sort.ahead w n) blk off (ss.mergeSort fun x y => decide (x ≤ y)).toArray) os
 none : ∀ (p : Option Addr) (cap : Nat) (w : World), Calls P f #[.slice p 0 cap] w fun e w' => e = .returned (.tuple #[]) ∧ w' = w
structure CompOk (P : Program) (f : FuncId) : Prop where
 run : ∀ (blk off cap : Nat) (zs : List (List UInt8)) (w : World), Holds encStr w blk off zs.toArray → zs.length ≤ 9223372036854775807 → zs.length ≤ cap → Calls P f #[.slice (some ⟨blk, off, none⟩) zs.length cap] w fun e w' => e = .returned (.slice (some ⟨blk, off, none⟩) (Lib.compact zs).length cap) ∧ ∃ q, w' = putRow encStr (Sort.ahead w q) blk off (Lib.compact zs ++ List.replicate (zs.length - (Lib.compact zs).length) []).toArray
 none : ∀ (p : Option Addr) (cap : Nat) (w : World), Calls P f #[.slice p 0 cap] w fun e w' => e = .returned (.slice p 0 cap) ∧ w' = w
def a2D (l : List ByteArray) : List DV := l.flatMap fun s => [.str s]
theorem b9e (l : List ByteArray) : (a2D l).length = l.length := by
 unfold a2D
 induction l with
 | nil => rfl
 | cons s l ih => simp [List.flatMap_cons, ih]
theorem b2v {w : World} : ∀ {l : List ByteArray} {vs : List Value} {f : List Nat}, a0V w (a2D l) vs f → vs = (l.map fun s => s.data.toList).map encStr ∧ f = [] ∧ ∀ s ∈ l, s.size ≤ 9223372036854775807
 | [], _, _, h => by simp only [a2D, List.flatMap_nil, a0V] at h; obtain ⟨rfl, rfl⟩ := h; simp
 | s :: l, _, _, h => by
  rw [a2D, List.flatMap_cons, List.singleton_append, a0V] at h
  obtain ⟨v, vs', f1, f2, rfl, rfl, h1, h2⟩ := h
  obtain ⟨rfl, rfl, h3⟩ := b2v (l := l) h2
  simp only [Own] at h1
  obtain ⟨rfl, h4, rfl⟩ := h1
  refine ⟨?_, rfl, fun t ht => ?_⟩
  ·simp only [List.map_cons]
  ·rcases List.mem_cons.1 ht with e | ht
   ·rw [e]; exact h4
   ·exact h3 t ht
theorem b3P {w : World} : ∀ {l : List ByteArray}, (∀ s ∈ l, s.size ≤ 9223372036854775807) → a0V w (a2D l) ((l.map fun s => s.data.toList).map encStr) []
 | [], _ => by simp [a2D, a0V]
 | s :: l, h => by
  rw [a2D, List.flatMap_cons, List.singleton_append, a0V]
  exact ⟨.string s, _, [], [], rfl, rfl, by unfold Own; exact ⟨rfl, h s (by simp), rfl⟩, b3P (fun t ht => h t (by simp [ht]))⟩
section
variable {P : Program} {C : Ctx} {nt : Nat} {σ : St} {L : Lyt} {a : Act} {w : World} {o : Oper} {x y : Operand}
theorem c1B {f k d : Nat} {ats : Array TypeId} {c : KC} {l : List ByteArray} (hf : SortOk P f) (ho : o.op = .call { callee := .value (.func f), args := #[x], argTypes := ats }) (hc : ∀ (args : Array Value) (w : World), (callFunc f args).run P w = .ok (.enter f args) w) (hd : o.dst = some d) (hnt : Nat.blt d nt = true)
  (hx : Ev P C nt σ x (.one (.key k))) (hk : lkk σ k = some c) (he : Nat.blt c.e 1000000 = true) (hsz : c.sz = 1) (hn : c.n = l.length) (hcs : c.cs = a2D l) (hl : l.length < 4611686018427387904) :
  Ef P C nt o σ (fun σ' => σ' = (σ.mut k [] true ⟨false, c.e, 1, l.length, a2D (a3k l)⟩).put d .any) := Ef.mk fun L a w hr K Q hK => by
 have hd' : d < nt := by simpa [Nat.blt_eq] using hnt
 have e1 := hx.run L a w hr
 simp only [SVr, CVr] at e1
 have ho1 := (hr.ks k c hk).1
 have hkn := hr.kn k c hk
 rw [hsz, hn, hcs] at ho1
 simp only [Own] at ho1
 obtain ⟨vs, f1, q1, q2, q3, q4, q5⟩ := ho1
 obtain ⟨rfl, rfl, hz⟩ := b2v q5
 have he' : c.e < 1000000 := by simpa [Nat.blt_eq] using he
 have hrow := q4.1 he'
 rw [List.append_nil] at q1
 refine a6n (xs := [x]) ho hc ?_
 simp only [List.map_cons, List.map_nil, e1]
 have hz' : ∀ s ∈ a3k l, s.size ≤ 9223372036854775807 := fun s hs => hz s (c4i.1 hs)
 by_cases hnil : L.rv k = .slice none 0 0
 ·have hl0 : l = [] := by
   have := hrow.1
   rcases hrow.2 with ⟨_, h0⟩ | ⟨g, cap, cur, h1, _⟩
   ·exact List.length_eq_zero_iff.1 h0
   ·rw [hnil] at h1; cases h1
  subst hl0
  rw [hnil]
  refine (hf.none none 0 w).mono ?_
  rintro e w' ⟨rfl, rfl⟩
  refine ⟨_, rfl, ?_⟩
  rw [hd]
  have e0 : (⟨false, c.e, 1, ([] : List ByteArray).length, a2D (a3k [])⟩ : KC) = ⟨false, c.e, 1, 0, a2D []⟩ := by simp [a3k]
  refine hK _ ((σ.mut k [] true ⟨false, c.e, 1, 0, a2D []⟩).put d .any) _ _ (by rw [e0]) (Rel.put (hr.setkey (k := k) (c := c) (c' := ⟨false, c.e, 1, 0, a2D []⟩) (js := []) (same := true) (v' := L.rv k) (f' := L.fp k) hk (by simp) (Chg.refl _ _) ?_ hkn (fun b hb => .inl hb) (by simp) (fun _ => rfl) (by simp)) hd' trivial (by simp [SV.keys]) (by simp [SV.boxes]))
  have := (hr.ks k c hk).1
  rw [hsz, hn, hcs] at this
  exact this
 ·obtain ⟨g, cap, hv, _, hg, h1, h2, h3, hH⟩ := Lib.holds_of_ownsRow hrow hnil
  rw [hv]
  have hl2 : (l.map fun s => s.data.toList).length < 4611686018427387904 := by simpa using hl
  have := hf.run g 0 cap (l.map fun s => s.data.toList) w hH hg hl2
  rw [List.length_map] at this
  refine this.mono ?_
  rintro e w' ⟨rfl, n, os, rfl⟩
  refine ⟨_, rfl, ?_⟩
  rw [hd]
  have hfp : L.fp k = [g] := by rw [q1, hv]; rfl
  have hlen : ((l.map fun s => s.data.toList).mergeSort fun x y => decide (x ≤ y)).length = (l.map fun s => s.data.toList).length := List.length_mergeSort _
  obtain ⟨cur, hb, hcur⟩ : ∃ cur, w.heap[g]? = some (.cells cur c.e (0, 0)) ∧ cur.size = cap * 1 := by
   rcases hrow.2 with ⟨h0, _⟩ | ⟨g', cap', cur, h0, _, hb, _, _, hcur, _⟩
   ·exact absurd h0 hnil
   ·rw [hv] at h0
    injection h0 with a1 a2 a3
    injection a1 with a1
    injection a1 with a1
    subst a1; subst a3
    exact ⟨cur, hb, hcur⟩
  have hown := ownsRow_sorted (n := n) (os := os) (base := 0) hlen (Nat.zero_le g) hb (by simpa using h1) h2 hcur
  rw [List.length_map] at hown
  obtain ⟨gb1, gb2, gb3, gb4, gb5⟩ := grownBy_sorted (w := w) (g := g) (n := n) (os := os) ((l.map fun s => s.data.toList).mergeSort fun x y => decide (x ≤ y)).toArray
  refine hK _ _ _ _ rfl (Rel.put (hr.setkey (k := k) (c := c) (c' := ⟨false, c.e, 1, l.length, a2D (a3k l)⟩) (js := []) (same := true) (v' := L.rv k) (f' := L.fp k) hk (by simp) ⟨gb1, gb2, gb3, gb4, fun i hi hne => gb5 i hi (fun e => hne (by rw [hfp]; injection e with e; simp [e]))⟩ ?_ hkn (fun b hb => .inl hb) (by simp) (fun _ => rfl) (by simp)) hd' trivial (by simp [SV.keys]) (by simp [SV.boxes]))
  have hsl := b2L l
  simp only [Own]
  refine ⟨((a3k l).map fun s => s.data.toList).map encStr, [], by rw [q1, List.append_nil], by decide, by rw [b9e, hsl, Nat.mul_one], a3y he' ?_, b3P hz'⟩
  rw [hv]
  have e2 : (a3k l).map (fun s => s.data.toList) = (l.map fun s => s.data.toList).mergeSort fun x y => decide (x ≤ y) := b3t _
  rw [e2]
  exact hown
theorem c1V {f k d : Nat} {ats : Array TypeId} {c : KC} {l : List ByteArray} (hf : CompOk P f) (ho : o.op = .call { callee := .value (.func f), args := #[x], argTypes := ats }) (hc : ∀ (args : Array Value) (w : World), (callFunc f args).run P w = .ok (.enter f args) w) (hd : o.dst = some d) (hnt : Nat.blt d nt = true)
  (hx : Ev P C nt σ x (.one (.key k))) (hk : lkk σ k = some c) (he : Nat.blt c.e 1000000 = true) (hsz : c.sz = 1) (hn : c.n = l.length) (hcs : c.cs = a2D l) (hl : l.length < 4611686018427387904) :
  Ef P C nt o σ (fun σ' => σ' = (σ.mut k [] false ⟨false, c.e, 1, (a3l l).length, a2D (a3l l)⟩).put d (.one (.key k))) := Ef.mk fun L a w hr K Q hK => by
 have hd' : d < nt := by simpa [Nat.blt_eq] using hnt
 have e1 := hx.run L a w hr
 simp only [SVr, CVr] at e1
 have ho1 := (hr.ks k c hk).1
 have hkn := hr.kn k c hk
 rw [hsz, hn, hcs] at ho1
 simp only [Own] at ho1
 obtain ⟨vs, f1, q1, q2, q3, q4, q5⟩ := ho1
 obtain ⟨rfl, rfl, hz⟩ := b2v q5
 have he' : c.e < 1000000 := by simpa [Nat.blt_eq] using he
 have hrow := q4.1 he'
 rw [List.append_nil] at q1
 refine a6n (xs := [x]) ho hc ?_
 simp only [List.map_cons, List.map_nil, e1]
 have hz' : ∀ s ∈ a3l l, s.size ≤ 9223372036854775807 := fun s hs => hz s (c0k hs)
 have fin : ∀ {w' : World} {v' : Value} {f' : List Nat}, Chg (L.fp k) w w' → Own w' (.sl c.e 1 (a3l l).length (a2D (a3l l))) v' f' → f' = L.fp k → K (a.put o.dst v') w' := fun {w' v' f'} h1 h2 h3 => by
  subst h3
  have hset := hr.setkey (k := k) (c := c) (c' := ⟨false, c.e, 1, (a3l l).length, a2D (a3l l)⟩) (js := []) (same := false) (v' := v') (f' := L.fp k) hk (by simp) h1 h2 hkn (fun b hb => .inl hb) (by simp) (fun e => by cases e) (by simp)
  rw [hd]
  refine hK _ _ _ _ rfl (hset.put hd' (v := .one (.key k)) ?_ ?_ (by simp [SV.boxes]))
  ·simp [SVr, CVr]
  ·intro j hj
   simp only [SV.keys, CV.keys, List.mem_singleton] at hj
   subst hj
   simp [lkk, St.mut, a0Z]
 by_cases hnil : L.rv k = .slice none 0 0
 ·have hl0 : l = [] := by
   rcases hrow.2 with ⟨_, h0⟩ | ⟨g, cap, cur, h1, _⟩
   ·exact List.length_eq_zero_iff.1 h0
   ·rw [hnil] at h1; cases h1
  subst hl0
  rw [hnil]
  refine (hf.none none 0 w).mono ?_
  rintro e w' ⟨rfl, rfl⟩
  refine ⟨_, rfl, fin (Chg.refl _ _) (v' := .slice none 0 0) (f' := L.fp k) ?_ rfl⟩
  have := (hr.ks k c hk).1
  rw [hsz, hn, hcs, hnil] at this
  exact this
 ·obtain ⟨g, cap, hv, _, hg, h1, h2, h3, hH⟩ := Lib.holds_of_ownsRow hrow hnil
  rw [hv]
  have hl2 : (l.map fun s => s.data.toList).length ≤ 9223372036854775807 := by rw [List.length_map]; omega
  have := hf.run g 0 cap (l.map fun s => s.data.toList) w hH hl2 (by rw [List.length_map]; exact h1)
  rw [List.length_map] at this
  refine this.mono ?_
  rintro e w' ⟨rfl, q, rfl⟩
  have hfp : L.fp k = [g] := by rw [q1, hv]; rfl
  have hcl := Lib.compact_length_le (l.map fun s => s.data.toList)
  rw [List.length_map] at hcl
  have hcl2 : (a3l l).length = (Lib.compact (l.map fun s => s.data.toList)).length := by simp [a3l]
  have hrow' := hrow
  rw [hv] at hrow'
  have hown := Lib.ownsRow_putRow (q := q) (k := (Lib.compact (l.map fun s => s.data.toList)).length) (ys := Lib.compact (l.map fun s => s.data.toList) ++ List.replicate (l.length - (Lib.compact (l.map fun s => s.data.toList)).length) []) hrow' (by simp; omega) hcl
  rw [List.take_left] at hown
  refine ⟨_, rfl, fin ⟨rfl, rfl, rfl, by simp [putRow, mapBlock, Sort.ahead], fun i hi hne => ?_⟩ ?_ rfl⟩
  ·have : g ≠ i := fun e => hne (by rw [hfp, e]; simp)
   simp [putRow, mapBlock, Sort.ahead, Array.getElem?_modify, this]
  ·simp only [Own]
   refine ⟨((a3l l).map fun s => s.data.toList).map encStr, [], by rw [hfp]; rfl, by decide, by rw [b9e, Nat.mul_one], a3y he' ?_, b3P hz'⟩
   rw [show (a3l l).map (fun s => s.data.toList) = Lib.compact (l.map fun s => s.data.toList) from b3t _, hcl2]
   exact hown
end
section
variable {P : Program} {C : Ctx} {nt : Nat} {o : Oper} {x : Operand} {Q : Exit → St → Prop} {all : Array Oper} {rest : List Oper} {tm : List (Nat × SV)} {bx : List (Nat × TypeId × List CV)} {ks : List (Nat × Option KC)}
theorem c4R {f k d : Nat} {ats : Array TypeId} {c : KC} {l : List ByteArray} {n : Nat} {cs : List DV} (hg : o.guard = none) (hd : o.dst = some d) (ho : o.op = .call { callee := .value (.func f), args := #[x], argTypes := ats }) (hnt : Nat.blt d nt = true) (hc : ∀ (args : Array Value) (w : World), (callFunc f args).run P w = .ok (.enter f args) w) (hf : SortOk P f)
  (hx : Ev P C nt ⟨tm, bx, ks⟩ x (.one (.key k))) (hk : lkk ⟨tm, bx, ks⟩ k = some c) (he : Nat.blt c.e 1000000 = true) (hsz : c.sz = 1) (hn : c.n = l.length) (hcs : c.cs = a2D l) (hl : l.length < 4611686018427387904) (hn2 : l.length = n) (hcs2 : a2D (a3k l) = cs)
  (h : Ops P C nt Q all rest ⟨(d, .any) :: a0l [k] [] tm, a0i [k] [] bx, (k, some ⟨false, c.e, 1, n, cs⟩) :: ks⟩) : Ops P C nt Q all (o :: rest) ⟨tm, bx, ks⟩ := by
 subst hn2; subst hcs2
 exact a3u hg (c1B hf ho hc hd hnt hx hk he hsz hn hcs hl) h
theorem c0H {f k d : Nat} {ats : Array TypeId} {c : KC} {l : List ByteArray} {n : Nat} {cs : List DV} (hg : o.guard = none) (hd : o.dst = some d) (ho : o.op = .call { callee := .value (.func f), args := #[x], argTypes := ats }) (hnt : Nat.blt d nt = true) (hc : ∀ (args : Array Value) (w : World), (callFunc f args).run P w = .ok (.enter f args) w) (hf : CompOk P f)
  (hx : Ev P C nt ⟨tm, bx, ks⟩ x (.one (.key k))) (hk : lkk ⟨tm, bx, ks⟩ k = some c) (he : Nat.blt c.e 1000000 = true) (hsz : c.sz = 1) (hn : c.n = l.length) (hcs : c.cs = a2D l) (hl : l.length < 4611686018427387904) (hn2 : (a3l l).length = n) (hcs2 : a2D (a3l l) = cs)
  (h : Ops P C nt Q all rest ⟨(d, .one (.key k)) :: a0l [k] [k] tm, a0i [k] [k] bx, (k, some ⟨false, c.e, 1, n, cs⟩) :: ks⟩) : Ops P C nt Q all (o :: rest) ⟨tm, bx, ks⟩ := by
 subst hn2; subst hcs2
 exact a3u hg (c1V hf ho hc hd hnt hx hk he hsz hn hcs hl) h
end
end Go.Proofs.YtjkpoekgnmgofaaGreat

namespace Go.Proofs.YtjkpoekgnmgofaaGreat
open Go.RowKit
open Go.Proofs
open Go.Shelf
def c3Y : Go.Shelf.Ren := ⟨fun | 190 => 41 | 125 => 73 | 258 => 72 | 128 => 117 | 129 => 118 | 302 => 108 | 303 => 109 | 304 => 110 | 305 => 111 | 306 => 112 | 307 => 113 | 308 => 114 | 309 => 115 | 310 => 116 | 333 => 138 | 329 => 139 | 330 => 140 | 334 => 141 | 335 => 142 | 336 => 143 | 344 => 151 | n => n, fun | 31 => 55 | 9 => 9 | 3 => 3 | 46 => 116 | 0 => 0 | 51 => 154 | 53 => 156 | 4 => 4 | 183 => 147 | 182 => 146 | 131 => 127 | 5 => 5 | 218 => 169 | 222 => 173 | 228 => 180 | 229 => 181 | n => n, fun | n => n⟩
theorem b7e : Go.Proofs.Lays.n190 Tryz.prog c3Y := {
 mixed := by kernel_rfl
 f125 := Tryz.func73.trans (congrArg some (by kernel_rfl))
 f128 := Tryz.func117.trans (congrArg some (by kernel_rfl))
 f129 := Tryz.func118.trans (congrArg some (by kernel_rfl))
 f190 := Tryz.func41.trans (congrArg some (by kernel_rfl))
 f258 := Tryz.func72.trans (congrArg some (by kernel_rfl))
 f302 := Tryz.func108.trans (congrArg some (by kernel_rfl))
 f303 := Tryz.func109.trans (congrArg some (by kernel_rfl))
 f304 := Tryz.func110.trans (congrArg some (by kernel_rfl))
 f305 := Tryz.func111.trans (congrArg some (by kernel_rfl))
 f306 := Tryz.func112.trans (congrArg some (by kernel_rfl))
 f307 := Tryz.func113.trans (congrArg some (by kernel_rfl))
 f308 := Tryz.func114.trans (congrArg some (by kernel_rfl))
 f309 := Tryz.func115.trans (congrArg some (by kernel_rfl))
 f310 := Tryz.func116.trans (congrArg some (by kernel_rfl))
 f329 := Tryz.func139.trans (congrArg some (by kernel_rfl))
 f330 := Tryz.func140.trans (congrArg some (by kernel_rfl))
 f333 := Tryz.func138.trans (congrArg some (by kernel_rfl))
 f334 := Tryz.func141.trans (congrArg some (by kernel_rfl))
 f335 := Tryz.func142.trans (congrArg some (by kernel_rfl))
 f336 := Tryz.func143.trans (congrArg some (by kernel_rfl))
 f344 := Tryz.func151.trans (congrArg some (by kernel_rfl))
 t0 := Tryz.underlying0
 a0 := Tryz.isAgg0
 z0 := Tryz.sizeOf0
 v0 := Tryz.zeroValue0
 t3 := Tryz.underlying3
 a3 := Tryz.isAgg3
 z3 := Tryz.sizeOf3
 v3 := Tryz.zeroValue3
 t4 := Tryz.underlying4
 a4 := Tryz.isAgg4
 z4 := Tryz.sizeOf4
 v4 := Tryz.zeroValue4
 t5 := Tryz.underlying5
 a5 := Tryz.isAgg5
 z5 := Tryz.sizeOf5
 v5 := Tryz.zeroValue5
 t9 := Tryz.underlying9
 a9 := Tryz.isAgg9
 z9 := Tryz.sizeOf9
 v9 := Tryz.zeroValue9
 t31 := Tryz.underlying55
 a31 := Tryz.isAgg55
 z31 := Tryz.sizeOf55
 v31 := Tryz.zeroValue55
 t46 := Tryz.underlying116
 a46 := Tryz.isAgg116
 z46 := Tryz.sizeOf116
 v46 := Tryz.zeroValue116
 t51 := Tryz.underlying154
 a51 := Tryz.isAgg154
 z51 := Tryz.sizeOf154
 v51 := Tryz.zeroValue154
 t53 := Tryz.underlying156
 a53 := Tryz.isAgg156
 z53 := Tryz.sizeOf156
 v53 := Tryz.zeroValue156
 t131 := Tryz.underlying127
 a131 := Tryz.isAgg127
 z131 := Tryz.sizeOf127
 v131 := Tryz.zeroValue127
 t182 := Tryz.underlying146
 a182 := Tryz.isAgg146
 z182 := Tryz.sizeOf146
 v182 := Tryz.zeroValue146
 t183 := Tryz.underlying147
 a183 := Tryz.isAgg147
 z183 := Tryz.sizeOf147
 v183 := Tryz.zeroValue147
 t218 := Tryz.underlying169
 a218 := Tryz.isAgg169
 z218 := Tryz.sizeOf169
 v218 := Tryz.zeroValue169
 t222 := Tryz.underlying173
 a222 := Tryz.isAgg173
 z222 := Tryz.sizeOf173
 v222 := Tryz.zeroValue173
 t228 := Tryz.underlying180
 a228 := Tryz.isAgg180
 z228 := Tryz.sizeOf180
 v228 := Tryz.zeroValue180
 t229 := Tryz.underlying181
 a229 := Tryz.isAgg181
 z229 := Tryz.sizeOf181
 v229 := Tryz.zeroValue181 }
def b9t : Go.Shelf.Ren := ⟨fun | 194 => 42 | n => n, fun | 31 => 55 | 9 => 9 | 3 => 3 | 4 => 4 | 0 => 0 | n => n, fun | n => n⟩
theorem b5n : Go.Proofs.Lays.n194 Tryz.prog b9t := {
 mixed := by kernel_rfl
 f194 := Tryz.func42.trans (congrArg some (by kernel_rfl))
 t0 := Tryz.underlying0
 a0 := Tryz.isAgg0
 z0 := Tryz.sizeOf0
 v0 := Tryz.zeroValue0
 t3 := Tryz.underlying3
 a3 := Tryz.isAgg3
 z3 := Tryz.sizeOf3
 v3 := Tryz.zeroValue3
 t4 := Tryz.underlying4
 a4 := Tryz.isAgg4
 z4 := Tryz.sizeOf4
 v4 := Tryz.zeroValue4
 t9 := Tryz.underlying9
 a9 := Tryz.isAgg9
 z9 := Tryz.sizeOf9
 v9 := Tryz.zeroValue9
 t31 := Tryz.underlying55
 a31 := Tryz.isAgg55
 z31 := Tryz.sizeOf55
 v31 := Tryz.zeroValue55 }
theorem c4P : SortOk Tryz.prog 41 := ⟨fun blk off cap ss w h1 h2 h3 => Any.slices_Sort_string b7e blk off cap ss w h1 h2 h3, fun p cap w => Any.slices_Sort_string_none b7e p cap w⟩
theorem c0s : CompOk Tryz.prog 42 := ⟨fun blk off cap zs w h1 h2 h3 => Any.slices_Compact_string b5n blk off cap zs w h1 h2 h3, fun p cap w => Any.slices_Compact_string_empty b5n p cap w⟩
end Go.Proofs.YtjkpoekgnmgofaaGreat

namespace Go.Proofs.YtjkpoekgnmgofaaGreat
open Go.RowKit
open Go.Proofs
set_option linter.unusedVariables false
set_option linter.unusedSimpArgs false
section
variable {P : Program} {C : Ctx} {nt : Nat} {σ : St} {L : Lyt} {a : Act} {w : World} {o : Oper} {x y : Operand} {T : TT}
theorem b0y {C C' : Ctx} {L L' : Lyt} {w : World} {c : CV} {v : Value} (hp : c.plain = true) (h : CVr C' L' w c v) : CVr C L w c v := by
 obtain ⟨h1, h2, h3⟩ := b1n hp
 have := b1O (C := C) (L := L) (m := 0) h1 (by rw [h2]; simp) h
 rwa [h3] at this
theorem c0w {f : FuncId} {xs : List Operand} {ats : Array TypeId} {us : List SV} {d : Nat} {a1 c a2 u1 u2 p q r1 r2 : CV} {dd : DV} (ho : o.op = .call { callee := .value (.func f), args := (x :: xs).toArray, argTypes := ats }) (hd : o.dst = some d) (hn : Nat.blt d nt = true)
  (hc : ∀ (args : Array Value) (w : World), (callFunc f args).run P w = .ok (.enter f args) w) (hf : PFn P f (.agg [u1, .arg 0 dd, u2] :: us) (.tup [(true, [p, .arg 0 dd, q]), (false, [r1]), (false, [r2])]))
  (hx : Ev P C nt σ x (.agg [a1, c, a2])) (h1 : a1T σ a1 u1) (hcc : a1T σ c (.dv [] dd)) (h2 : a1T σ a2 u2) (ha : a2j P C nt σ xs us) (hp : p.plain = true) (hq : q.plain = true) (hr1 : r1.plain = true) (hr2 : r2.plain = true) (hck : (c.keys.all fun k => (lkk σ k).isSome) = true) :
  EfG P C nt o σ (fun σ' => σ' = σ.put d (.tup [(true, [p, c, q]), (false, [r1]), (false, [r2])])) := EfG.mk fun L a w hr K Q hK => by
 have e1 := hx.run L a w hr
 simp only [SVr, CVL] at e1
 obtain ⟨vs, ex, v1, vs1, rfl, k1, vc, vs2, rfl, k2, v2, vs3, rfl, k3, rfl⟩ := e1
 let L0 : Lyt := { L with rv := fun _ => vc }
 obtain ⟨g1, g2⟩ := a8D hr L0 h1 k1
 obtain ⟨g3, g4⟩ := a8D hr L0 hcc k2
 obtain ⟨g5, g6⟩ := a8D hr L0 h2 k3
 obtain ⟨l1, l2⟩ := a8r hr L0 xs us ha
 refine a6n (xs := x :: xs) ho hc ?_
 have hent := b1u (P := P) (w := w) (L := L0) (us := .agg [u1, .arg 0 dd, u2] :: us) (vs := (x :: xs).map a.eval) (by simp [l1]) (fun i u hu => by
  cases i with
  | zero =>
   simp only [List.getElem?_cons_zero, Option.some.injEq] at hu
   subst hu
   refine ⟨a.eval x, rfl, ?_, ?_, rfl⟩
   ·rw [ex]
    simp only [SVr, CVL]
    refine ⟨_, rfl, v1, _, rfl, g1, vc, _, rfl, ?_, v2, _, rfl, g5, rfl⟩
    simp only [CVr] at g3 ⊢
    exact ⟨rfl, g3⟩
   ·have g0 : (CV.arg 0 dd).keys = [] := rfl
    simp only [SV.keys, List.flatMap_cons, List.flatMap_nil, g2, g6, g0, List.append_nil]
  | succ i =>
   obtain ⟨z, h5, h6, h7⟩ := l2 i u (by simpa using hu)
   exact ⟨a.eval z, by simp [h5], h6, h7⟩)
 refine (hf.ok w [] L0 ((x :: xs).map a.eval) (by simp [l1]) hent).mono ?_
 rintro e' w' ⟨r, res, σ', L', rfl, rfl, h3⟩
 have hg := hr.grow h3.chg
 have ht := h3.tm 0 _ (by simp [a0Z]; rfl)
 have e2 := hx.run L a w' hg
 simp only [SVr, CVL] at e2
 rw [ex] at e2
 obtain ⟨vs', ex', z1, zs1, rfl, _, zc, zs2, rfl, m2, z2, zs3, rfl, _, rfl⟩ := e2
 simp only [Value.agg.injEq, Array.mk.injEq, List.cons.injEq, and_true] at ex'
 obtain ⟨rfl, rfl, rfl⟩ := ex'
 have hrr : (#[r] : Array Value).getD 0 undef = r := rfl
 rw [hrr] at ht
 simp only [SVr, TVL, CVL, if_true] at ht
 obtain ⟨rs, rfl, us1, t1, rs1, rfl, ⟨p', pl, rfl, q1, c', pl2, rfl, q2, q', pl3, rfl, q3, rfl⟩, rfl, us2, t2, rs2, rfl, ⟨n', nl, rfl, q4, rfl⟩, e5, us3, t3, rs3, rfl, ⟨b', bl, rfl, q5, rfl⟩, e6, rfl⟩ := ht
 have q2 : c' = vc := by simp only [CVr] at q2; exact q2.1
 subst q2
 refine ⟨_, rfl, hK L _ _ _ rfl ?_ ⟨h3.chg, fun _ _ _ => rfl, fun _ _ _ => rfl⟩⟩
 rw [hd]
 refine hg.put (v := .tup [(true, [p, c, q]), (false, [r1]), (false, [r2])]) (by simpa [Nat.blt_eq] using hn) ?_ ?_ (by simp [SV.boxes])
 ·simp only [SVr, TVL, CVL, if_true]
  exact ⟨_, rfl, _, _, _, rfl, ⟨p', _, rfl, b0y hp q1, c', _, rfl, m2, q', _, rfl, b0y hq q3, rfl⟩, rfl, _, _, _, rfl, ⟨n', _, rfl, b0y hr1 q4, rfl⟩, by simpa using e5, _, _, _, rfl, ⟨b', _, rfl, b0y hr2 q5, rfl⟩, by simpa using e6, rfl⟩
 ·intro k hk
  have kp : ∀ {z : CV}, z.plain = true → z.keys = [] := fun h => (b1n h).2.1
  simp only [SV.keys, List.flatMap_cons, List.flatMap_nil, List.append_nil, kp hp, kp hq, kp hr1, kp hr2, List.nil_append] at hk
  exact List.all_eq_true.1 hck k hk
section
variable {Q : Exit → St → Prop} {all : Array Oper} {rest : List Oper} {tm : List (Nat × SV)} {bx : List (Nat × TypeId × List CV)} {ks : List (Nat × Option KC)} {oB oK : List Nat} {hd' : Nat → Bool} {listed : Array Bool} {fuel : Nat}
theorem c1s {A : a1R} (i : Nat) {f : FuncId} {xs : List Operand} {ats : Array TypeId} {us : List SV} {d : Nat} {a1 c a2 u1 u2 p q r1 r2 : CV} {dd : DV} (hi : all[i]? = some o) (ht : b0s all listed A i = true) (hiA : (nos A).contains i = false) (hg : o.guard = none) (hd : o.dst = some d) (hv : VOk P all nt A ⟨tm, bx, ks⟩) (hv1 : VOk P all nt A ⟨(d, .tup [(true, [p, c, q]), (false, [r1]), (false, [r2])]) :: tm, bx, ks⟩) (ho : o.op = .call { callee := .value (.func f), args := (x :: xs).toArray, argTypes := ats }) (hn : Nat.blt d nt = true)
  (hc : ∀ (args : Array Value) (w : World), (callFunc f args).run P w = .ok (.enter f args) w) (hf : PFn P f (.agg [u1, .arg 0 dd, u2] :: us) (.tup [(true, [p, .arg 0 dd, q]), (false, [r1]), (false, [r2])]))
  (hx : Ev P C nt ⟨tm, bx, ks⟩ x (.agg [a1, c, a2])) (h1 : a1T ⟨tm, bx, ks⟩ a1 u1) (hcc : a1T ⟨tm, bx, ks⟩ c (.dv [] dd)) (h2 : a1T ⟨tm, bx, ks⟩ a2 u2) (ha : a2j P C nt ⟨tm, bx, ks⟩ xs us) (hp : p.plain = true) (hq : q.plain = true) (hr1 : r1.plain = true) (hr2 : r2.plain = true) (hck : (c.keys.all fun k => (lkk ⟨tm, bx, ks⟩ k).isSome) = true)
  (hb : (oB.all fun i => (look bx i).isSome) = true) (hk' : (oK.all fun k => (lkk ⟨tm, bx, ks⟩ k).isSome) = true)
  (h : OpsA P C nt Q all oB oK hd' A (listed.setIfInBounds i true) fuel ⟨(d, .tup [(true, [p, c, q]), (false, [r1]), (false, [r2])]) :: tm, bx, ks⟩) : OpsA P C nt Q all oB oK hd' A listed (fuel + 1) ⟨tm, bx, ks⟩ :=
 b2n i hi hg hv hiA hb hk' ht (fun B hB => EfG.mk fun L a w hr K Q' hk => by
  have he : Ext P C nt ⟨tm, bx, ks⟩ (St.adds ⟨tm, bx, ks⟩ B) := hv.ext hB
  exact (c0w (σ := St.adds ⟨tm, bx, ks⟩ B) ho hd hn hc hf (he.ev hx) (he.argC h1) (he.argC hcc) (he.argC h2) (he.args ha) hp hq hr1 hr2 (by simpa only [he.lkk] using hck)).run L a w hr K Q' fun L' σ' a' w' h1 h2 h3 => hk L' σ' a' w' (.inr (by
   subst h1
   exact fun L a w hr => hv1.perm hB hr)) h2 h3) h
end
theorem c4E (hT : TTOk P T) {t k off sz by_ : Nat} {zc : List CV} {c : KC} {ds : List DV} (ho : o.op = .store t x y) (hd : o.dst = none) (ht : look T.el t = some (sz, by_, zc)) (hx : Ev P C nt σ x (.eptr k off)) (hy : Ev P C nt σ y (.agg (a2Q k off ds)))
  (hk : lkk σ k = some c) (hE : Nat.blt c.e 1000000 = true) (hds : sub off sz c.cs = ds) (hle : off + sz ≤ c.cs.length) : Ef P C nt o σ (fun σ' => σ' = σ.mut k [] true c) := Ef.mk fun L a w hr K Q hK => by
 have hE' : c.e < 1000000 := by simpa [Nat.blt_eq] using hE
 have hdl : ds.length = sz := by rw [← hds, a4v _ _ _ hle]
 have hkv : a1o σ (.agg (a2Q k off ds)) = true := by
  simp only [a1o, SV.keys, SV.boxes, List.all_nil, Bool.and_true, List.all_eq_true]
  intro j hj
  rw [b3f j hj, hk]; rfl
 obtain ⟨us, h1, h2, h3⟩ := a4O (p := (true, a2Q k off ds)) hr rfl hkv (hy.run L a w hr)
 have h4 := hx.run L a w hr
 simp only [SVr] at h4
 obtain ⟨g0, n0, cap0, e1, e2⟩ := h4
 obtain ⟨hpos, hcl, hro⟩ := a8N hr hk hE'
 rcases hro with ⟨e3, _⟩ | ⟨g, cap, cur, vs, f, e3, hg, hnc, hcm, hsz, htake, hfp, hown⟩
 ·rw [e1] at e3; cases e3
 rw [e1] at e3
 simp only [Value.slice.injEq, Option.some.injEq, Addr.mk.injEq, and_true, true_and] at e3
 obtain ⟨rfl, rfl, rfl⟩ := e3
 obtain ⟨inf, z, g1, g2, _⟩ := hT.el t sz by_ zc ht
 have hvl : vs.length = c.cs.length := a2s _ _ _ hown
 have hcur : c.cs.length ≤ cur.toList.length := by rw [hcl, Array.length_toList, hsz]; exact Nat.mul_le_mul_right _ hnc
 have hdvl : ∀ (ds : List DV) (off : Nat), (a2Q k off ds).length = ds.length := fun ds => by
  induction ds with
  | nil => intro _; rfl
  | cons d ds ih => intro off; simp [a2Q, ih]
 have hus : us.length = sz := by rw [a2I h2]; simp only [hdvl, hdl]
 have hcell : ∀ j v, vs[j]? = some v → w.cell? ⟨g0, j, none⟩ = some v := fun j v hj => by
  rw [cell_of_row w g0 j cur c.e (0, 0) hg]
  rw [← htake, List.getElem?_take] at hj
  split at hj
  ·simpa using hj
  ·cases hj
 have hX : c.cs = c.cs.take off ++ (ds ++ c.cs.drop (off + sz)) := by
  rw [← hds]
  unfold sub
  rw [← List.drop_drop, List.take_append_drop, List.take_append_drop]
 have hown2 := hown
 rw [hX] at hown2
 obtain ⟨v1, r1, f1, s1, rfl, rfl, o1, t1⟩ := a4t _ _ _ _ hown2
 obtain ⟨v2, v3, f2, f3, rfl, rfl, o2, o3⟩ := a4t _ _ _ _ t1
 have l1 := a2s _ _ _ o1
 have l2 := a2s _ _ _ o2
 have lA : (c.cs.take off).length = off := by rw [List.length_take]; omega
 have o2' : a0V w ds us f2 := b3B e1 o2 h2 (fun j v hj => hcell (off + j) v (by
  have hj' := (List.getElem?_eq_some_iff.1 hj).1
  rw [List.getElem?_append_right (by omega), List.getElem?_append_left (by omega), show off + j - v1.length = j by omega]
  exact hj))
 have hnew : a0V w c.cs (v1 ++ (us ++ v3)) (f1 ++ (f2 ++ f3)) := by
  rw [hX]
  exact a2X _ _ _ _ _ _ o1 (a2X _ _ _ _ _ _ o2' o3)
 have evs : a1e off us (cur.toList.take (c.n * c.sz)) = v1 ++ (us ++ v3) := by
  rw [htake]
  exact a6g (by omega) (by omega)
 have hnd := hr.kn k c hk
 rw [hfp, List.nodup_cons] at hnd
 have hrun := a7j (P := P) (vs := cur.toList) (z := z) (off := off) (t' := c.e) g1 g2 h1 hus h3 (by simpa using hg) (by omega)
 have hrel := hr.wrow (off := off) (us := us) (cs' := c.cs) (f' := f1 ++ (f2 ++ f3)) hk hE' e1 hg hnc hcm hsz hpos (by rw [← hcl]; omega) (by rw [evs]; exact hnew)
  (fun b hb => ⟨by rw [hfp]; exact List.mem_cons_of_mem _ hb, fun e => hnd.1 (by rw [← e]; exact hb)⟩) (by rw [hfp]; simp) hnd.2 hcl
 unfold Oper.wp execOp
 simp only [ho, e2, Sem.run_bind, hrun, Result.andThen_ok, Sem.run_pure, Oper.upon, hd, Act.put]
 exact hK _ _ _ _ rfl hrel
theorem b9B {Q : Exit → St → Prop} {all : Array Oper} {rest : List Oper} {tm : List (Nat × SV)} {bx : List (Nat × TypeId × List CV)} {ks : List (Nat × Option KC)} (hT : TTOk P T) {t k off sz by_ : Nat} {zc : List CV} {c : KC} {ds : List DV} (hg : o.guard = none) (hd : o.dst = none) (ho : o.op = .store t x y) (ht : look T.el t = some (sz, by_, zc)) (hx : Ev P C nt ⟨tm, bx, ks⟩ x (.eptr k off)) (hy : Ev P C nt ⟨tm, bx, ks⟩ y (.agg (a2Q k off ds)))
  (hk : lkk ⟨tm, bx, ks⟩ k = some c) (hE : Nat.blt c.e 1000000 = true) (hds : sub off sz c.cs = ds) (hle : off + sz ≤ c.cs.length)
  (h : Ops P C nt Q all rest ⟨a0l [k] [] tm, a0i [k] [] bx, (k, some c) :: ks⟩) : Ops P C nt Q all (o :: rest) ⟨tm, bx, ks⟩ := a3u hg (c4E hT ho hd ht hx hy hk hE hds hle) h
end
end Go.Proofs.YtjkpoekgnmgofaaGreat

namespace Go.Proofs.YtjkpoekgnmgofaaGreat
open Go.RowKit
open Go.Proofs
set_option linter.unusedVariables false
set_option linter.unusedSimpArgs false
structure OpsX (P : Program) (C : Ctx) (nt : Nat) (Q : Exit → St → Prop) (all : Array Oper) (oB oK : List Nat) (b : Nat) (hd' : Nat → Bool) (listed : Array Bool) (fuel : Nat) (σ : St) : Prop where
 run : ∀ wb L a w, Rel P C nt L σ a w → SWX (L.bb b) wb w → C.w0.heap.size ≤ wb.heap.size → (∀ i ∈ oB, L.bb i < wb.heap.size) → (∀ k ∈ oK, ∀ b ∈ L.fp k, b < wb.heap.size) → a2f P .any all (QQ P C nt Q) (SWX (L.bb b) wb) hd' fuel listed a w
section
variable {P : Program} {C : Ctx} {nt : Nat} {Q : Exit → St → Prop} {all : Array Oper} {oB oK : List Nat} {hd' : Nat → Bool} {listed : Array Bool} {fuel b : Nat} {tm : List (Nat × SV)} {bx : List (Nat × TypeId × List CV)} {ks : List (Nat × Option KC)} {o : Oper} {d : Nat} {v X : SV} {Ks Bs : List Nat} {g : Bool} {x y : Operand} {T : TT}
theorem c2c (b : Nat) (hs : List Nat) {id : Nat} {l : List Oper} (hm : P.follows .mixedOrders = true) (hb : (oB.all fun i => (look bx i).isSome) = true) (hk : (oK.all fun k => (lkk ⟨tm, bx, ks⟩ k).isSome) = true)
  (h : OpsX P C nt Q l.toArray oB oK b (fun i => hs.contains i) (Array.replicate l.length false) l.length ⟨tm, bx, ks⟩) : Ok P C nt Q (.region id l.toArray true) ⟨tm, bx, ks⟩ := Ok.mk fun L a w hr => by
 have hr' := a7Q hr
 refine a8j (SWX (L.bb b) w.drew) (fun i => hs.contains i) hm ?_
 have := h.run w.drew L a w.drew hr' (SWX.refl _ _) hr'.chg.size (fun i hi => ?_) (fun k hk' b hb' => ?_)
 ·simpa using this
 ·obtain ⟨x, hx⟩ := Option.isSome_iff_exists.1 (List.all_eq_true.1 hb i hi)
  exact hr'.bx_lt hx
 ·obtain ⟨c, hc⟩ := Option.isSome_iff_exists.1 (List.all_eq_true.1 hk k hk')
  exact hr'.k_lt hc b hb'
theorem a6l (i : Nat) (hi : all[i]? = some o) (ht : a4y .any all hd' listed i = true) (hg : o.guard = none) (hd : o.dst = some d) (hp : Pu P C nt o ⟨tm, bx, ks⟩ v Ks Bs) (h1 : (Ks.all fun k => oK.contains k && (lkk ⟨tm, bx, ks⟩ k).isSome) = true) (h2 : (Bs.all fun k => oB.contains k && (!(Nat.beq k b) && (look bx k).isSome)) = true) (h3 : (look bx b).isSome = true) (hn : Nat.blt d nt = true) (hk : a1o ⟨tm, bx, ks⟩ v = true)
  (h : OpsX P C nt Q all oB oK b hd' (listed.setIfInBounds i true) fuel ⟨(d, v) :: tm, bx, ks⟩) : OpsX P C nt Q all oB oK b hd' listed (fuel + 1) ⟨tm, bx, ks⟩ := ⟨fun wb L a w hr hs hw hB hK => by
 obtain ⟨r, q3, q4⟩ := hp.run L a w hr
 obtain ⟨xb, hxb⟩ := Option.isSome_iff_exists.1 h3
 have hy : ∀ w', SWX (L.bb b) wb w' → (execOp a.eval o).run P w' = .ok (.value r) w' := fun w' hs' => q4 w' fun z _ hu => by
  have hz : z < wb.heap.size ∧ z ≠ L.bb b := by
   rcases hu with (⟨h5, h6⟩ | ⟨k, hk, hb⟩) | ⟨i, hi, rfl⟩
   ·refine ⟨by omega, fun e => ?_⟩
    rcases hr.b1 b xb hxb with g | g
    ·omega
    ·exact h6 (by rw [e]; exact g)
   ·have := List.all_eq_true.1 h1 k hk
    simp only [Bool.and_eq_true, List.contains_iff_mem] at this
    obtain ⟨c, hc⟩ := Option.isSome_iff_exists.1 this.2
    exact ⟨hK k this.1 z hb, fun e => hr.bk b k xb c hxb hc (by rw [← e]; exact hb)⟩
   ·have := List.all_eq_true.1 h2 i hi
    simp only [Bool.and_eq_true, List.contains_iff_mem, Bool.not_eq_true'] at this
    obtain ⟨c, hc⟩ := Option.isSome_iff_exists.1 this.2.2
    exact ⟨hB i this.1, hr.bb i b c xb hc hxb (Nat.ne_of_beq_eq_false this.2.1)⟩
  rw [hs'.2 z hz.1 hz.2, hs.2 z hz.1 hz.2]
 refine a6a i (v := r) hi ht (fun _ _ _ h => h) hs (.inl ⟨by simp [Region.wanted, hg], hy⟩) ?_
 rw [hd]
 exact h.run wb L _ w (hr.put (by simpa [Nat.blt_eq] using hn) q3 (a1Q hk).1 (a1Q hk).2) hs hw hB hK⟩
theorem c4h (i : Nat) {t j t' sz by_ : Nat} {zc cs : List CV} {p : Bool × List CV} (hi : all[i]? = some o) (ht : (Region.ready .any all listed == [i]) = true) (hg : o.guard = none) (hT : TTOk P T) (ho : o.op = .store t x y) (hd : o.dst = none) (hte : look T.el t = some (sz, by_, zc)) (hx : Ev P C nt ⟨tm, bx, ks⟩ x (.box b j)) (hy : Ev P C nt ⟨tm, bx, ks⟩ y v) (hp : v.part = some p) (hk : a1o ⟨tm, bx, ks⟩ v = true)
  (hb : look bx b = some (t', cs)) (hl : p.2.length = sz) (hle : Nat.ble (j + sz) cs.length = true) (hkc : (cs.flatMap CV.keys).all (fun k => (lkk ⟨tm, bx, ks⟩ k).isSome) = true)
  (h : OpsX P C nt Q all oB oK b hd' (listed.setIfInBounds i true) fuel ⟨tm, (b, t', a1e j p.2 cs) :: bx, ks⟩) : OpsX P C nt Q all oB oK b hd' listed (fuel + 1) ⟨tm, bx, ks⟩ := ⟨fun wb L a w hr hs hw hB hK => by
 refine a7R i hi hg ht fun K hK' => ?_
 obtain ⟨us, h1, h2, h3⟩ := a4O hr hp hk (hy.run L a w hr)
 have h4 := hx.run L a w hr
 simp only [SVr] at h4
 obtain ⟨vs, h5, h6⟩ := hr.bx b t' cs hb
 obtain ⟨inf, z, g1, g2, _⟩ := hT.el t sz by_ zc hte
 have hrun := a7j (z := z) g1 g2 h1 (by rw [a2I h2]; exact hl) h3 h5 (off := j) (by rw [a2I h6]; simpa [Nat.ble_eq] using hle)
 unfold Oper.wp execOp
 simp only [ho, h4, Sem.run_bind, hrun, Result.andThen_ok, Sem.run_pure, Oper.upon, hd, Act.put]
 have hs' := hs.chg (a6i w (L.bb b) (a1e j us vs).toArray)
 refine hK' _ _ (fun _ => hs') (h.run wb L _ _ (hr.setbox hb (a6i _ _ _) (setRow_heap _ _ _ _ _ _ h5) (a9x j h6 h2) ?_) hs' hw hB hK)
 intro k hm
 simp only [a1e, List.flatMap_append, List.mem_append, or_assoc] at hm
 simp only [List.all_eq_true] at hkc
 rcases hm with hm | hm | hm
 ·exact hkc k (by
   obtain ⟨c, hc, hk'⟩ := List.mem_flatMap.1 hm
   exact List.mem_flatMap.2 ⟨c, List.mem_of_mem_take hc, hk'⟩)
 ·rw [a5c hp] at hm; exact (a1Q hk).1 k hm
 ·exact hkc k (by
   obtain ⟨c, hc, hk'⟩ := List.mem_flatMap.1 hm
   exact List.mem_flatMap.2 ⟨c, List.mem_of_mem_drop hc, hk'⟩)⟩
theorem c3E (is : List Nat) (hm : (is.all fun i => (all[i]?).isSome) = true) (hf : Nat.ble is.length fuel = true) (hc : a6z .any all hd' is listed = true) (h : Ops P C nt Q all (is.filterMap fun i => all[i]?) ⟨tm, bx, ks⟩) : OpsX P C nt Q all oB oK b hd' listed fuel ⟨tm, bx, ks⟩ := ⟨fun wb L a w hr _ _ _ _ =>
 a8e is _ listed fuel a w (a7T hm) (by simpa [Nat.ble_eq] using hf) hc (h.run L a w hr)⟩
theorem c5f (i : Nat) {R : St → Prop} (hi : all[i]? = some o) (ht : (Region.ready .any all listed == [i]) = true) (hg : o.guard = none) (hp : EfG P C nt o ⟨tm, bx, ks⟩ R) (hb : (oB.all fun i => (look bx i).isSome) = true) (hk : (oK.all fun k => (lkk ⟨tm, bx, ks⟩ k).isSome) = true) (hbb : (look bx b).isSome = true)
  (h : ∀ σ', R σ' → OpsX P C nt Q all oB oK b hd' (listed.setIfInBounds i true) fuel σ') : OpsX P C nt Q all oB oK b hd' listed (fuel + 1) ⟨tm, bx, ks⟩ := ⟨fun wb L a w hr hs hw hB hK => by
 refine a7R i hi hg ht fun K hK' => hp.run L a w hr _ _ fun L' σ' a' w' h1 h2 h3 => ?_
 obtain ⟨xb, hxb⟩ := Option.isSome_iff_exists.1 hbb
 have eb : L'.bb b = L.bb b := h3.box b xb hxb
 have hs' : SWX (L.bb b) wb w' := hs.chg (h3.chg.mono (by simp))
 refine hK' _ _ (fun _ => hs') ?_
 have := (h σ' h1).run wb L' a' w' h2 (by rw [eb]; exact hs') hw (fun j hj => ?_) (fun k hk' => ?_)
 ·rwa [eb] at this
 ·obtain ⟨x, hx⟩ := Option.isSome_iff_exists.1 (List.all_eq_true.1 hb j hj)
  rw [h3.box j x hx]; exact hB j hj
 ·obtain ⟨c, hc⟩ := Option.isSome_iff_exists.1 (List.all_eq_true.1 hk k hk')
  rw [h3.key k c hc]; exact hK k hk'⟩
theorem c0r (m i : Nat) {f : FuncId} {xs : List Operand} {ats : Array TypeId} {us : List SV} {kk : List (Nat × Option KC)} (hi : all[i]? = some o) (ht : (Region.ready .any all listed == [i]) = true) (hg : o.guard = none) (hd : o.dst = some d) (ho : o.op = .call { callee := .value (.func f), args := xs.toArray, argTypes := ats })
  (hc : ∀ (args : Array Value) (w : World), (callFunc f args).run P w = .ok (.enter f args) w) (hf : KFn P f us v kk) (ha : a2j P C nt ⟨tm, bx, ks⟩ xs us) (hn : Nat.blt d nt = true) (hres : v.retOk = true) (hfree : (kk.all fun q => (lkk ⟨tm, bx, ks⟩ (m + q.1)).isNone) = true)
  (hb : (oB.all fun i => (look bx i).isSome) = true) (hk : (oK.all fun k => (lkk ⟨tm, bx, ks⟩ k).isSome) = true) (hbb : (look bx b).isSome = true)
  (h : OpsX P C nt Q all oB oK b hd' (listed.setIfInBounds i true) fuel ⟨(d, v.sh m) :: tm, bx, shK m kk ++ ks⟩) : OpsX P C nt Q all oB oK b hd' listed (fuel + 1) ⟨tm, bx, ks⟩ :=
 c5f i hi ht hg (a7z (ι := Unit) (v := fun _ => v) (kk := fun _ => kk) (p := fun _ => True) m ho hd hn hc hf.ok ha (fun u σ' h => ⟨(), h.1, h.2, trivial⟩) (fun _ => hres) (fun _ => hfree)) hb hk hbb fun σ' ⟨_, _, e⟩ => by rw [e]; exact h
end
end Go.Proofs.YtjkpoekgnmgofaaGreat

namespace Go.Proofs.YtjkpoekgnmgofaaGreat
open Go.RowKit
set_option linter.unusedVariables false
section
variable {P : Program} {C : Ctx} {nt : Nat} {o : Oper} {x y : Operand} {T : TT} {Q : Exit → St → Prop} {N : St → Prop} {all : Array Oper} {rest : List Oper} {σ : St} {tm : List (Nat × SV)} {bx : List (Nat × TypeId × List CV)} {ks : List (Nat × Option KC)} {d t : Nat} {v : SV} {ty : TypeId} {ps : String} {af : Array Edge}
theorem yA (e : o = { dst := some d, op := .move (.tmp t), type := ty, pos := ps, after := af, guard := none }) (hl : look tm t = some v) (hk : (Nat.blt d nt && a1o ⟨tm, bx, ks⟩ v) = true) (h : Ops P C nt Q all rest ⟨(d, v) :: tm, bx, ks⟩) : Ops P C nt Q all (o :: rest) ⟨tm, bx, ks⟩ := a6o (by rw [e]) (by rw [e]) (a0U (.inl (by rw [e])) (a0a hl)) (Bool.and_eq_true_iff.1 hk).1 (Bool.and_eq_true_iff.1 hk).2 h
theorem yB (e : o = { dst := some d, op := .assign (.tmp t), type := ty, pos := ps, after := af, guard := none }) (hl : look tm t = some v) (hk : (Nat.blt d nt && a1o ⟨tm, bx, ks⟩ v) = true) (h : Ops P C nt Q all rest ⟨(d, v) :: tm, bx, ks⟩) : Ops P C nt Q all (o :: rest) ⟨tm, bx, ks⟩ := a6o (by rw [e]) (by rw [e]) (a0U (.inr (by rw [e])) (a0a hl)) (Bool.and_eq_true_iff.1 hk).1 (Bool.and_eq_true_iff.1 hk).2 h
theorem yC {s f off b i : Nat} (hT : TTOk P T) (e : o = { dst := some d, op := .fieldAddr s (.tmp t) f, type := ty, pos := ps, after := af, guard := none }) (h1 : look T.of (1000 * s + f) = some off) (hf : Nat.blt f 1000 = true) (hl : look tm t = some (.box b i)) (hk : (Nat.blt d nt && a1o ⟨tm, bx, ks⟩ (.box b (i + off))) = true) (h : Ops P C nt Q all rest ⟨(d, .box b (i + off)) :: tm, bx, ks⟩) : Ops P C nt Q all (o :: rest) ⟨tm, bx, ks⟩ := a6o (by rw [e]) (by rw [e]) (a5k hT (by rw [e]) h1 hf (a0a hl)) (Bool.and_eq_true_iff.1 hk).1 (Bool.and_eq_true_iff.1 hk).2 h
theorem yD {s n b i t' : Nat} {cs : List CV} (hT : TTOk P T) (e : o = { dst := some d, op := .load s (.tmp t), type := ty, pos := ps, after := af, guard := none }) (h1 : look T.ag s = some n) (hl : look tm t = some (.box b i)) (hb : look bx b = some (t', cs)) (h2 : Nat.ble (i + n) cs.length = true) (hk : (Nat.blt d nt && a1o ⟨tm, bx, ks⟩ (.agg (sub i n cs))) = true) (h : Ops P C nt Q all rest ⟨(d, .agg (sub i n cs)) :: tm, bx, ks⟩) : Ops P C nt Q all (o :: rest) ⟨tm, bx, ks⟩ := a6o (by rw [e]) (by rw [e]) (a2v hT (by rw [e]) h1 (a0a hl) hb h2) (Bool.and_eq_true_iff.1 hk).1 (Bool.and_eq_true_iff.1 hk).2 h
theorem yE {s b i t' : Nat} {cs : List CV} {c : CV} {u : Unit} (hT : TTOk P T) (e : o = { dst := some d, op := .load s (.tmp t), type := ty, pos := ps, after := af, guard := none }) (h1 : look T.on s = some u) (hl : look tm t = some (.box b i)) (hb : look bx b = some (t', cs)) (h2 : cs[i]? = some c) (hk : (Nat.blt d nt && a1o ⟨tm, bx, ks⟩ (.one c)) = true) (h : Ops P C nt Q all rest ⟨(d, .one c) :: tm, bx, ks⟩) : Ops P C nt Q all (o :: rest) ⟨tm, bx, ks⟩ := a6o (by rw [e]) (by rw [e]) (a2H hT (by rw [e]) h1 (a0a hl) hb h2) (Bool.and_eq_true_iff.1 hk).1 (Bool.and_eq_true_iff.1 hk).2 h
theorem yG {k : IntKind} {n : Int} (e : o = { dst := some d, op := .assign (.const (.int k n)), type := ty, pos := ps, after := af, guard := none }) (h1 : (decide (k.min ≤ n) && decide (n ≤ k.max)) = true) (hk : (Nat.blt d nt && a1o ⟨tm, bx, ks⟩ (.one (.dv [] (.int k n)))) = true) (h : Ops P C nt Q all rest ⟨(d, .one (.dv [] (.int k n))) :: tm, bx, ks⟩) : Ops P C nt Q all (o :: rest) ⟨tm, bx, ks⟩ := a6o (by rw [e]) (by rw [e]) (a0U (.inr (by rw [e])) (a0n (a0m h1))) (Bool.and_eq_true_iff.1 hk).1 (Bool.and_eq_true_iff.1 hk).2 h
theorem yH {b : Bool} (e : o = { dst := some d, op := .assign (.const (.bool b)), type := ty, pos := ps, after := af, guard := none }) (hk : (Nat.blt d nt && a1o ⟨tm, bx, ks⟩ (.one (.dv [] (.bool b)))) = true) (h : Ops P C nt Q all rest ⟨(d, .one (.dv [] (.bool b))) :: tm, bx, ks⟩) : Ops P C nt Q all (o :: rest) ⟨tm, bx, ks⟩ := a6o (by rw [e]) (by rw [e]) (a0U (.inr (by rw [e])) a0N) (Bool.and_eq_true_iff.1 hk).1 (Bool.and_eq_true_iff.1 hk).2 h
theorem yR {id : Nat} {l : List Oper} {c : Code} (h : Ops P C nt (a5t (Ok P C nt Q c) Q) l.toArray l σ) : Ok P C nt Q (.seq (.region id l.toArray false) c) σ := a0p (a0o h)
theorem yN (h : N σ) : Ops P C nt (a5t N Q) all [] σ := a1z (a3C h)
theorem yO {Ks Bs : List Nat} (hg : o.guard = none) (hd : o.dst = some d) (hp : Pu P C nt o ⟨tm, bx, ks⟩ v Ks Bs) (hk : (Nat.blt d nt && a1o ⟨tm, bx, ks⟩ v) = true) (h : Ops P C nt Q all rest ⟨(d, v) :: tm, bx, ks⟩) : Ops P C nt Q all (o :: rest) ⟨tm, bx, ks⟩ := a6o hg hd hp (Bool.and_eq_true_iff.1 hk).1 (Bool.and_eq_true_iff.1 hk).2 h
theorem yS {s b i t' t2 sz by_ : Nat} {zc cs : List CV} {p : Bool × List CV} (hT : TTOk P T) (e : o = { dst := none, op := .store s (.tmp t) (.tmp t2), type := ty, pos := ps, after := af, guard := none }) (ht : look T.el s = some (sz, by_, zc)) (hx : look tm t = some (.box b i)) (hy : look tm t2 = some v) (hp : v.part = some p)
  (hb : look bx b = some (t', cs)) (hl : p.2.length = sz) (hk : (a1o ⟨tm, bx, ks⟩ v && (Nat.ble (i + sz) cs.length && (cs.flatMap CV.keys).all (fun k => (lkk ⟨tm, bx, ks⟩ k).isSome))) = true) (h : Ops P C nt Q all rest ⟨tm, (b, t', a1e i p.2 cs) :: bx, ks⟩) : Ops P C nt Q all (o :: rest) ⟨tm, bx, ks⟩ := by
 simp only [Bool.and_eq_true] at hk
 exact b6B hT (by rw [e]) (by rw [e]) (by rw [e]) ht (a0a hx) (a0a hy) hp hk.1 hb hl hk.2.1 hk.2.2 h
theorem yF {c : Code} {cs : List CV} {K : List Nat} {dd : DV} (t i : Nat) (hl : look σ.tm t = some (.agg cs)) (hi : cs[i]? = some (.dv K dd)) (h : a9a dd → Ok P C nt Q c σ) : Ok P C nt Q c σ := c2w (x := .tmp t) i (a0a hl) hi h
theorem yX {s : TypeId} {p : Bool × List CV} (e : o = { dst := some d, op := .box s (.tmp t), type := ty, pos := ps, after := af, guard := none }) (hl : look tm t = some v) (hp : v.part = some p) (hk : a1o ⟨tm, bx, ks⟩ v = true) (hn : Nat.blt d nt = true) (hi : look bx d = none)
  (h : Ops P C nt Q all rest ⟨(d, .box d 0) :: tm, (d, s, p.2) :: bx, ks⟩) : Ops P C nt Q all (o :: rest) ⟨tm, bx, ks⟩ := c5X (by rw [e]) (by rw [e]) (by rw [e]) (a0a hl) hp hk hn hi h
theorem kk : (∀ (α β : Type) (f : α → β) (a : α) (l : List α), (a :: l).map f = f a :: l.map f) ∧ (∀ (α β : Type) (f : α → β), ([] : List α).map f = []) ∧ (∀ (p : Nat → Bool) (a : Nat) (l : List Nat), (a :: l).any p = (p a || l.any p)) ∧ (∀ p : Nat → Bool, ([] : List Nat).any p = false) ∧ (∀ (a b : Nat) (l : List Nat), (a :: l).contains b = (b == a || l.contains b)) ∧ (∀ b : Nat, ([] : List Nat).contains b = false) ∧
  (∀ (α : Type) (l : List α), [] ++ l = l) ∧ (∀ (α : Type) (a : α) (l m : List α), a :: l ++ m = a :: (l ++ m)) ∧ (∀ b, (b || false) = b) ∧ (∀ b, (false || b) = b) ∧ (∀ b, (b || true) = true) ∧ (∀ b, (true || b) = true) ∧ (∀ (α : Type) (a b : α), (bif true then a else b) = a) ∧ (∀ (α : Type) (a b : α), (bif false then a else b) = b) := by
 refine ⟨fun _ _ _ _ _ => rfl, fun _ _ _ => rfl, fun _ _ _ => rfl, fun _ => rfl, fun a b l => List.contains_cons, fun _ => rfl, fun _ _ => rfl, fun _ _ _ _ => rfl, ?_, ?_, ?_, ?_, fun _ _ _ => rfl, fun _ _ _ => rfl⟩ <;> (intro b; cases b <;> rfl)
theorem yQ {c c' : Code} {K : List Nat} {b : Bool} (hl : look σ.tm t = some (.one (.dv K (.bool b)))) (h1 : b = true → Ok P C nt Q c σ) (h2 : b = false → Ok P C nt Q c' σ) : Ok P C nt Q (.cond (.tmp t) c c') σ := c1Y (a0a hl) h1 h2
theorem yP {ty' s : TypeId} {K : List Nat} {m n : Int} (e : o = { dst := some d, op := .binOp .add s (.tmp t) (.const (.int .i64 n)) ty', type := ty, pos := ps, after := af, guard := none }) (hl : look tm t = some (.one (.dv K (.int .i64 m)))) (hi : (decide (IntKind.i64.min ≤ n) && decide (n ≤ IntKind.i64.max)) = true) (h1 : -9223372036854775808 ≤ m + n) (h2 : m + n ≤ 9223372036854775807) (hk : (Nat.blt d nt && a1o ⟨tm, bx, ks⟩ (.one (.dv [] (.int .i64 (m + n))))) = true) (h : Ops P C nt Q all rest ⟨(d, .one (.dv [] (.int .i64 (m + n)))) :: tm, bx, ks⟩) : Ops P C nt Q all (o :: rest) ⟨tm, bx, ks⟩ := a6o (by rw [e]) (by rw [e]) (b6F (by rw [e]) (a0a hl) (a0n (a0m hi)) (a6d h1 h2)) (Bool.and_eq_true_iff.1 hk).1 (Bool.and_eq_true_iff.1 hk).2 h
end
end Go.Proofs.YtjkpoekgnmgofaaGreat

namespace Go.Proofs.YtjkpoekgnmgofaaGreat
open Go.RowKit
open Go.Proofs
set_option linter.unusedVariables false
set_option linter.unusedSimpArgs false

set_option maxHeartbeats 4000000 in
set_option maxRecDepth 100000 in
/-- at the end -/
theorem c5N {e sz by_ n vc : Nat} {z : Value} {v : Value} {xs us : List Value} {va : Addr} {w : World} (ht : Tryz.prog.underlying 64 = some (.slice e)) (hinfo : (Tryz.prog.info? e).map (fun i => (i.zero, i.size, i.bytes)) = some (some z, sz, by_)) (hzs : z.cells.size = sz) (hsz : 0 < sz)
  (hown : w.ownsRow 0 e sz v n xs) (hsrc : a3i w (some va) 1 sz us) (h1 : ∀ u ∈ us, u.oneCell' = true) (h63 : n + 1 ≤ maxLen) (hb : (n + 1) * by_ ≤ 140737488355328) :
  Calls Tryz.prog 127 #[v, .int .i64 n, .slice (some va) 1 vc] w (a3I w v e sz n n xs us) := by
 have hm : n ≤ 9223372036854775807 := by unfold maxLen at h63; omega
 have hx1 : xs.length = n * sz := hown.1
 have hso : ∀ w, (Go.sizeOf e).run Tryz.prog w = .ok sz w := fun w => by
  obtain ⟨i0, q1, q2, q3, q4⟩ := info_parts hinfo
  simp [sizeOf, typeInfo, q1, q3]
 have hfin : ∀ A' c' w', w'.ownsRow 0 e sz (.slice A' (n + 1) c') (n + 1) (xs ++ us) → Chg v.ownBlock.toList w w' → (v.ownBlock = (Value.slice A' (n + 1) c').ownBlock ∨ (Value.slice A' (n + 1) c').ownBlock = some w.heap.size) → a3I w v e sz n n xs us (.returned (.slice A' (n + 1) c')) w' := fun A' c' w' g1 g2 g3 =>
  ⟨A', c', rfl, by rw [← hx1]; simpa using g1, g2, g3⟩
 rcases hown.2 with ⟨rfl, rfl⟩ | ⟨g, cap, cur, rfl, _, hg, hnc, hcm, hcs, htk⟩
 ·have HO := Lib.hid hown
  have HF := Lib.hid hfin
  have HS := Lib.hid hsrc
  have H1 := Lib.hid h1
  clear hown hfin hsrc h1 hx1
  go_enter Tryz.func127, Tryz.ntmps127
  go_wp2_with (at_builtin; refine b0I _ rfl _ _ 64 rfl e z sz by_ ht hinfo hzs hsz _ 0 xs rfl HO (some va) 1 vc us rfl HS H1 h63 hb ?_; intro A' c' w' h9 hchg hblk)
  all_goals (go_ret; exact HF _ _ _ h9 hchg hblk)
 ·have HO := Lib.hid hown
  have HF := Lib.hid hfin
  have HS := Lib.hid hsrc
  have H1 := Lib.hid h1
  have HG := Lib.hid hg
  have HT := Lib.hid htk
  have hc63 : cap ≤ 9223372036854775807 := by unfold maxLen at hcm; omega
  clear hown hfin hsrc h1 hx1 hg htk
  go_enter Tryz.func127, Tryz.ntmps127
  go_wp2_with (at_builtin; refine b0I _ rfl _ _ 64 rfl e z sz by_ ht hinfo hzs hsz _ n xs rfl HO (some va) 1 vc us rfl HS H1 h63 hb ?_; intro A' c' w' h9 hchg hblk)
  all_goals (go_ret; exact HF _ _ _ h9 hchg hblk)
set_option maxHeartbeats 4000000 in
set_option maxRecDepth 100000 in
/-- in place -/
theorem c5M {e sz by_ n i cap vb vcap e2 : Nat} {z : Value} {g : Nat} {xs us : List Value} {w : World} {cur curv : Array Value} (ht : Tryz.prog.underlying 64 = some (.slice e)) (hinfo : (Tryz.prog.info? e).map (fun i => (i.zero, i.size, i.bytes)) = some (some z, sz, by_)) (hsz : 0 < sz)
  (hxl : xs.length = n * sz) (hg : w.heap[g]? = some (.cells cur e (0, 0))) (hcm : cap ≤ maxLen) (hcs : cur.size = cap * sz) (htk : cur.toList.take (n * sz) = xs) (hx1 : ∀ u ∈ xs, u.oneCell' = true)
  (hgv : w.heap[vb]? = some (.cells curv e2 (0, 0))) (hul : us.length = sz) (hvs : curv.toList.take sz = us) (h1 : ∀ u ∈ us, u.oneCell' = true) (hne : vb ≠ g) (hi : i < n) (hroom : n + 1 ≤ cap) :
  Calls Tryz.prog 127 #[.slice (some ⟨g, 0, none⟩) n cap, .int .i64 i, .slice (some ⟨vb, 0, none⟩) 1 vcap] w (a3I w (.slice (some ⟨g, 0, none⟩) n cap) e sz n i xs us) := by
 have hso : ∀ w, (Go.sizeOf e).run Tryz.prog w = .ok sz w := fun w => by
  obtain ⟨i0, q1, q2, q3, q4⟩ := info_parts hinfo
  simp [sizeOf, typeInfo, q1, q3]
 have hsi : (Tryz.prog.info? e).map (·.size) = some sz := by
  obtain ⟨i0, q1, q2, q3, q4⟩ := info_parts hinfo
  rw [q1]; simp [q3]
 have hc63 : cap ≤ 9223372036854775807 := by unfold maxLen at hcm; omega
 have hz2 : ¬ ((i : Int) = (n : Int)) := by omega
 have hw1 : IntKind.i64.wrap ((i : Int) + 1) = (i : Int) + 1 := by rw [IntKind.wrap_i64]; omega
 have hw2 : IntKind.i64.wrap ((n : Int) + 1) = (n : Int) + 1 := by rw [IntKind.wrap_i64]; omega
 have hb1 : (0 : Int) ≤ (i : Int) + 1 := by omega
 have hin : i ≤ n := by omega
 have htn : ((i : Int) + 1).toNat = i + 1 := by omega
 have htn2 : ((n : Int) + 1).toNat = n + 1 := by omega
 have hb2 : ¬ (cap = i + 1) := by omega
 have hb3 : (i : Int) ≤ (n : Int) + 1 := by omega
 have hb4 : ¬ (cap = i) := by omega
 have hov : ∀ off lb cb, (callFunc 148 #[.slice (some ⟨vb, 0, none⟩) 1 vcap, .slice (some ⟨g, off, none⟩) lb cb]).run Tryz.prog w = .ok (.value (.bool false)) w := fun off lb cb => by
  rw [run_callFunc_extern Tryz.func148 (by kernel_rfl) (by kernel_rfl) (by kernel_rfl) (e := Extern.SlicesOverlaps.overlaps #[64, 64] #[4]) (by kernel_rfl),
   Lib.run_overlaps_apart w 64 4 e ht sz hso ⟨vb, 0, none⟩ ⟨g, off, none⟩ 1 vcap lb cb hne e2 e curv.size cur.size (by simp [World.shape?, hgv]) (by simp [World.shape?, hg]) (by rw [hcs]; exact Nat.ne_of_gt (Nat.mul_pos (by omega) hsz)) (by simp [World.frozen?, hgv]) (by simp [World.frozen?, hgv])]
  rfl
 have mixed : Tryz.prog.follows .mixedOrders = true := by kernel_rfl
 have hdl : (xs.drop (i * sz)).length = (n - i) * sz := by rw [List.length_drop, hxl, Nat.sub_mul]
 have m1 : (n + 1) * sz ≤ cap * sz := Nat.mul_le_mul_right _ hroom
 have m2 : (i + 1) * sz + (n - i) * sz = (n + 1) * sz := by rw [← Nat.add_mul]; congr 1; omega
 have m3 : i * sz + (n - i) * sz = n * sz := by rw [← Nat.add_mul]; congr 1; omega
 have m4 : (i + 1) * sz = i * sz + sz := by rw [Nat.add_mul, Nat.one_mul]
 have m5 : (n + 1) * sz = n * sz + sz := by rw [Nat.add_mul, Nat.one_mul]
 have hcur : ∀ j, j < n * sz → cur[j]? = xs[j]? := fun j hj => by rw [← htk, List.getElem?_take, if_pos hj, Array.getElem?_toList]
 obtain ⟨cur1, hcur1⟩ : ∃ cur1 : Array Value, cur1 = (cur.toList.take ((i + 1) * sz) ++ xs.drop (i * sz) ++ cur.toList.drop ((i + 1) * sz + (xs.drop (i * sz)).length)).toArray := ⟨_, rfl⟩
 obtain ⟨cur2, hcur2⟩ : ∃ cur2 : Array Value, cur2 = (cur1.toList.take (i * sz) ++ us ++ cur1.toList.drop (i * sz + us.length)).toArray := ⟨_, rfl⟩
 have hs1 : cur1.size = cap * sz := by
  rw [hcur1]
  simp only [List.size_toArray, List.length_append, List.length_take, List.length_drop, Array.length_toList, hcs, hxl]
  omega
 have hs2 : cur2.size = cap * sz := by
  rw [hcur2]
  simp only [List.size_toArray, List.length_append, List.length_take, List.length_drop, Array.length_toList, hs1, hul]
  omega
 have htk2 : cur2.toList.take ((n + 1) * sz) = xs.take (i * sz) ++ us ++ xs.drop (i * sz) := by
  have e1 : cur1.toList.take (i * sz) = xs.take (i * sz) := by
   rw [hcur1, ← htk, List.take_take, List.append_assoc, List.take_append_of_le_length (by simp only [List.length_take, Array.length_toList, hcs]; omega), List.take_take]
   congr 1; omega
  have e2 : (cur1.toList.drop (i * sz + us.length)).take ((n - i) * sz) = xs.drop (i * sz) := by
   rw [hcur1, hul, ← m4]
   have l1 : (cur.toList.take ((i + 1) * sz)).length = (i + 1) * sz := by simp only [List.length_take, Array.length_toList, hcs]; omega
   simp only [List.append_assoc]
   rw [List.drop_append_of_le_length (by omega), List.drop_eq_nil_of_le (by omega), List.nil_append, List.take_append_of_le_length (by omega), List.take_of_length_le (by omega)]
  rw [hcur2, e1]
  simp only []
  rw [← m2, m4, List.take_append, List.take_of_length_le (by simp only [List.length_append, List.length_take, hxl, hul]; omega)]
  congr 1
  rw [← e2]
  congr 1
  simp only [List.length_append, List.length_take, hxl, hul]
  omega
 have hcp1 : ∀ ty dc sc, (Builtin.copy_ #[64, 64] ty #[.slice (some ⟨g, (i + 1) * sz, none⟩) (n - i) dc, .slice (some ⟨g, i * sz, none⟩) (n + 1 - i) sc]).run Tryz.prog w.drew = .ok (goInt (Nat.min (n + 1 - i) (n - i))) (w.drew.setRow g cur1) := fun ty dc sc => by
  rw [hcur1]
  refine a6U w.drew _ _ ty e sz g ((i + 1) * sz) _ dc ⟨g, i * sz, none⟩ _ sc cur e (xs.drop (i * sz)) ht hsi hg (by rw [hdl]; congr 1; simp only [Nat.min_def]; split <;> omega) (fun j v hj => ?_) (by rw [hdl, hcs]; omega) (fun v hv => hx1 v (List.mem_of_mem_drop hv))
  rw [Addr.add_lit]
  rw [List.getElem?_drop] at hj
  have hj' := (List.getElem?_eq_some_iff.1 hj).1
  exact (cell_of_row w.drew g (i * sz + j) cur e (0, 0) hg).trans ((hcur _ (by omega)).trans hj)
 obtain ⟨W1, hW1⟩ : ∃ W1, W1 = w.drew.setRow g cur1 := ⟨_, rfl⟩
 have hgW : W1.heap[g]? = some (.cells cur1 e (0, 0)) := by rw [hW1]; exact setRow_heap _ g cur cur1 e _ hg
 have hgV : W1.heap[vb]? = some (.cells curv e2 (0, 0)) := by rw [hW1, (a4K (w := w.drew)).block vb (Array.getElem?_eq_some_iff.1 hgv).1 (by simpa using hne)]; exact hgv
 have hcp2 : ∀ ty dc, (Builtin.copy_ #[64, 64] ty #[.slice (some ⟨g, i * sz, none⟩) (n + 1 - i) dc, .slice (some ⟨vb, 0, none⟩) 1 vcap]).run Tryz.prog W1 = .ok (goInt (Nat.min 1 (n + 1 - i))) (W1.setRow g cur2) := fun ty dc => by
  rw [hcur2]
  refine a6U W1 _ _ ty e sz g (i * sz) _ dc ⟨vb, 0, none⟩ _ vcap cur1 e us ht hsi hgW (by rw [hul]; simp only [Nat.min_def]; split <;> first | omega | rfl | simp) (fun j v hj => ?_) (by rw [hul, hs1]; omega) h1
  rw [Addr.add_lit, cell_of_row _ vb _ curv e2 (0, 0) hgV, Nat.zero_add]
  have hj' := (List.getElem?_eq_some_iff.1 hj).1
  rw [← hvs, List.getElem?_take, if_pos (by omega), Array.getElem?_toList] at hj
  exact hj
 have hfin : a3I w (.slice (some ⟨g, 0, none⟩) n cap) e sz n i xs us (.returned (.slice (some ⟨g, 0, none⟩) (n + 1) cap)) (W1.setRow g cur2) := by
  refine ⟨_, _, rfl, ⟨?_, .inr ⟨g, cap, cur2, rfl, Nat.zero_le _, setRow_heap _ g cur1 cur2 e _ hgW, hroom, hcm, hs2, htk2⟩⟩, ?_, .inl rfl⟩
  ·simp only [List.length_append, List.length_take, List.length_drop, hxl, hul]; omega
  ·rw [hW1]
   exact ((Chg.refl [g] w).drew.trans a4K).trans a4K
 rw [← hW1] at hcp1
 have HF := Lib.hid hfin
 clear hcur1 hcur2 hfin hgW hgV htk2 hs2 hs1 hcur hx1 h1 hvs htk hxl hdl m1 m2 m3 m4 m5 hgv hg hcs hcm hinfo hsi hW1 hul
 go_enter Tryz.func127, Tryz.ntmps127
 go_wp2_with (simp only [hov])
 go_region_law_o (refine step_copy_runI rfl _ _ 64 64 rfl _ _ (by simp [Act.eval, Act.put]) (by simp [Act.eval, Act.put]) (hcp1 _ _ _) ?_)
 go_wp2_with (at_builtin; refine wpList_copy_runI _ rfl _ _ 64 64 rfl _ _ rfl rfl (hcp2 _ _) ?_)
 go_ret
 exact HF
set_option maxHeartbeats 4000000 in
set_option maxRecDepth 100000 in
/-- no room -/
theorem c1x {e sz by_ n i vb vcap e2 : Nat} {z : Value} {g : Nat} {xs us : List Value} {w : World} {cur curv : Array Value} (ht : Tryz.prog.underlying 64 = some (.slice e)) (hinfo : (Tryz.prog.info? e).map (fun i => (i.zero, i.size, i.bytes)) = some (some z, sz, by_)) (hzs : z.cells.size = sz) (hsz : 0 < sz)
  (hxl : xs.length = n * sz) (hg : w.heap[g]? = some (.cells cur e (0, 0))) (hcm : n ≤ maxLen) (hcs : cur.size = n * sz) (htk : cur.toList.take (n * sz) = xs) (hx1 : ∀ u ∈ xs, u.oneCell' = true)
  (hgv : w.heap[vb]? = some (.cells curv e2 (0, 0))) (hul : us.length = sz) (hvs : curv.toList.take sz = us) (h1 : ∀ u ∈ us, u.oneCell' = true) (hi : i < n) (h63 : n + 1 ≤ maxLen) (hb : (n + 1) * by_ ≤ 140737488355328) :
  Calls Tryz.prog 127 #[.slice (some ⟨g, 0, none⟩) n n, .int .i64 i, .slice (some ⟨vb, 0, none⟩) 1 vcap] w (a3I w (.slice (some ⟨g, 0, none⟩) n n) e sz n i xs us) := by
 obtain ⟨i0, q1, q2, q3, q4⟩ := info_parts hinfo
 have hso : ∀ w, (Go.sizeOf e).run Tryz.prog w = .ok sz w := fun w => by
  simp [sizeOf, typeInfo, q1, q3]
 have hsi : (Tryz.prog.info? e).map (·.size) = some sz := by
  rw [q1]; simp [q3]
 have hc63 : n + 1 ≤ 9223372036854775807 := by unfold maxLen at h63; omega
 have mixed : Tryz.prog.follows .mixedOrders = true := by kernel_rfl
 have hz2 : ¬ ((i : Int) = (n : Int)) := by omega
 have hw1 : IntKind.i64.wrap ((i : Int) + 1) = (i : Int) + 1 := by rw [IntKind.wrap_i64]; omega
 have hw2 : IntKind.i64.wrap ((n : Int) + 1) = (n : Int) + 1 := by rw [IntKind.wrap_i64]; omega
 have hw3 : IntKind.i64.wrap ((n : Int) + 1 - (i : Int)) = (n : Int) + 1 - (i : Int) := by rw [IntKind.wrap_i64]; omega
 have hb1 : (0 : Int) ≤ (i : Int) + 1 := by omega
 have hin : i ≤ n := by omega
 have htn : ((i : Int) + 1).toNat = i + 1 := by omega
 have hni : ¬ (n = i) := by omega
 have hkk : (n : Int) + 1 - (i : Int) = ((n + 1 - i : Nat) : Int) := by omega
 have hik : i + (n + 1 - i) = n + 1 := by omega
 have hdl : (xs.drop (i * sz)).length = (n - i) * sz := by rw [List.length_drop, hxl, Nat.sub_mul]
 have m2 : (i + 1) * sz + (n - i) * sz = (n + 1) * sz := by rw [← Nat.add_mul]; congr 1; omega
 have m3 : i * sz + (n - i) * sz = n * sz := by rw [← Nat.add_mul]; congr 1; omega
 have m4 : (i + 1) * sz = i * sz + sz := by rw [Nat.add_mul, Nat.one_mul]
 have m5 : (n + 1) * sz = n * sz + sz := by rw [Nat.add_mul, Nat.one_mul]
 have hcur : ∀ j, j < n * sz → cur[j]? = xs[j]? := fun j hj => by rw [← htk, List.getElem?_take, if_pos hj, Array.getElem?_toList]
 have htl : (xs.take (i * sz)).length = i * sz := by rw [List.length_take, hxl]; omega
 have hold : (Builtin.firstCells i0.size i (.slice (some ⟨g, 0, none⟩) i n)).run Tryz.prog w.drew = .ok (xs.take (i * sz)).toArray w.drew := by
  rw [q3]
  refine run_firstCells_some w.drew sz i ⟨g, 0, none⟩ i n (xs.take (i * sz)) (by rw [htl]) (fun j v hj => ?_)
  rw [Addr.add_lit, Nat.zero_add]
  rw [List.getElem?_take] at hj
  split at hj
  ·exact (cell_of_row w.drew g j cur e (0, 0) hg).trans ((hcur _ (by omega)).trans hj)
  ·cases hj
 obtain ⟨G, hG⟩ : ∃ G, G = grownCap w (n + 1) n e := ⟨_, rfl⟩
 have hGn : n + 1 ≤ G := by rw [hG]; exact grownCap_ge w _ _ _
 have hGm : G ≤ maxLen := by rw [hG]; exact grownCap_le_maxLen w (n + 1) n e h63
 obtain ⟨ROW, hROW⟩ : ∃ ROW : Array Value, ROW = (xs.take (i * sz)).toArray ++ Builtin.zeroCells z.cells (n + 1 - i) ++ Builtin.zeroCells z.cells (G - (n + 1)) := ⟨_, rfl⟩
 have hzl : ∀ k, (Builtin.zeroCells z.cells k).size = k * sz := fun k => by simp [Builtin.zeroCells, hzs]
 have hRs : ROW.size = G * sz := by
  rw [hROW]
  simp only [Array.size_append, List.size_toArray, htl, hzl]
  rw [← Nat.add_mul, ← Nat.add_mul]
  congr 1; omega
 obtain ⟨W1, hW1⟩ : ∃ W1, W1 = w.drew.alloc (.cells ROW e) := ⟨_, rfl⟩
 have hrz : ∀ ty, (Builtin.append_ #[64, 3] ty #[.slice (some ⟨g, 0, none⟩) i n, .int .i64 ((n : Int) + 1 - (i : Int))]).run Tryz.prog w =
   .ok (.slice (some ⟨w.heap.size, 0, none⟩) (n + 1) G) W1 := fun ty => by
  have h := Lib.run_append_grow_zeros (P := Tryz.prog) w 64 3 ty e i0 z .i64 .i64 ht (by kernel_rfl) q1 q2 (some ⟨g, 0, none⟩) i n (xs.take (i * sz)) hold (n + 1 - i) (by omega) (by omega) (by omega) (by omega) (by
   rw [q4]
   have : (n + 1 - i) * by_ ≤ (n + 1) * by_ := Nat.mul_le_mul_right _ (by omega)
   omega) (by rw [q4, hik]; exact growslice_fits (by omega) hb)
  rw [hik] at h
  rw [hkk, hW1, hROW, hG]
  exact h
 have hgW0 : W1.heap[w.heap.size]? = some (.cells ROW e (0, 0)) := by rw [hW1]; exact heap_alloc_new w.drew _
 have hgl : g < w.heap.size := (Array.getElem?_eq_some_iff.1 hg).1
 have hvl : vb < w.heap.size := (Array.getElem?_eq_some_iff.1 hgv).1
 have hc1 : Chg [] w W1 := by rw [hW1]; exact (Chg.refl [] w).drew.alloc _
 have hgV : W1.heap[vb]? = some (.cells curv e2 (0, 0)) := by rw [hc1.block vb hvl (by simp)]; exact hgv
 have hm1 : (n + 1) * sz ≤ G * sz := Nat.mul_le_mul_right _ hGn
 obtain ⟨R1, hR1⟩ : ∃ R1 : Array Value, R1 = (ROW.toList.take (i * sz) ++ us ++ ROW.toList.drop (i * sz + us.length)).toArray := ⟨_, rfl⟩
 have hs1 : R1.size = G * sz := by
  rw [hR1]
  simp only [List.size_toArray, List.length_append, List.length_take, List.length_drop, Array.length_toList, hRs, hul]
  omega
 obtain ⟨W2, hW2⟩ : ∃ W2, W2 = W1.setRow w.heap.size R1 := ⟨_, rfl⟩
 have hcpA : ∀ ty dc, (Builtin.copy_ #[64, 64] ty #[.slice (some ⟨w.heap.size, i * sz, none⟩) (n + 1 - i) dc, .slice (some ⟨vb, 0, none⟩) 1 vcap]).run Tryz.prog W1 = .ok (goInt (Nat.min 1 (n + 1 - i))) W2 := fun ty dc => by
  rw [hW2, hR1]
  refine a6U W1 _ _ ty e sz w.heap.size (i * sz) _ dc ⟨vb, 0, none⟩ _ vcap ROW e us ht hsi hgW0 (by rw [hul]; simp only [Nat.min_def]; split <;> first | omega | rfl | simp) (fun j v hj => ?_) (by rw [hul, hRs]; omega) h1
  rw [Addr.add_lit, cell_of_row _ vb _ curv e2 (0, 0) hgV, Nat.zero_add]
  have hj' := (List.getElem?_eq_some_iff.1 hj).1
  rw [← hvs, List.getElem?_take, if_pos (by omega), Array.getElem?_toList] at hj
  exact hj
 have hgW2 : W2.heap[w.heap.size]? = some (.cells R1 e (0, 0)) := by rw [hW2]; exact setRow_heap _ _ ROW R1 e _ hgW0
 have hgG : W2.heap[g]? = some (.cells cur e (0, 0)) := by
  rw [hW2, (a4K (w := W1) (g := w.heap.size)).block g (Nat.lt_of_lt_of_le hgl hc1.size) (by simp; omega), hc1.block g hgl (by simp)]; exact hg
 obtain ⟨R2, hR2⟩ : ∃ R2 : Array Value, R2 = (R1.toList.take ((i + 1) * sz) ++ xs.drop (i * sz) ++ R1.toList.drop ((i + 1) * sz + (xs.drop (i * sz)).length)).toArray := ⟨_, rfl⟩
 have hs2 : R2.size = G * sz := by
  rw [hR2]
  simp only [List.size_toArray, List.length_append, List.length_take, List.length_drop, Array.length_toList, hs1, hxl]
  omega
 obtain ⟨W3, hW3⟩ : ∃ W3, W3 = W2.drew.setRow w.heap.size R2 := ⟨_, rfl⟩
 have hcpB : ∀ ty dc sc, (Builtin.copy_ #[64, 64] ty #[.slice (some ⟨w.heap.size, (i + 1) * sz, none⟩) (n - i) dc, .slice (some ⟨g, i * sz, none⟩) (n - i) sc]).run Tryz.prog W2.drew = .ok (goInt (Nat.min (n - i) (n - i))) W3 := fun ty dc sc => by
  rw [hW3, hR2]
  refine a6U W2.drew _ _ ty e sz w.heap.size ((i + 1) * sz) _ dc ⟨g, i * sz, none⟩ _ sc R1 e (xs.drop (i * sz)) ht hsi hgW2 (by rw [hdl]; congr 1; simp) (fun j v hj => ?_) (by rw [hdl, hs1]; omega) (fun v hv => hx1 v (List.mem_of_mem_drop hv))
  rw [Addr.add_lit]
  rw [List.getElem?_drop] at hj
  have hj' := (List.getElem?_eq_some_iff.1 hj).1
  exact (cell_of_row W2.drew g (i * sz + j) cur e (0, 0) hgG).trans ((hcur _ (by omega)).trans hj)
 have htk2 : R2.toList.take ((n + 1) * sz) = xs.take (i * sz) ++ us ++ xs.drop (i * sz) := by
  have e1 : R1.toList.take ((i + 1) * sz) = xs.take (i * sz) ++ us := by
   rw [hR1, m4]
   simp only []
   rw [List.take_append_of_le_length (by simp only [List.length_append, List.length_take, Array.length_toList, hRs, hul]; omega), List.take_of_length_le (by simp only [List.length_append, List.length_take, Array.length_toList, hRs, hul]; omega)]
   congr 1
   rw [hROW]
   simp only [Array.toList_append, List.append_assoc]
   rw [List.take_append_of_le_length (by rw [htl]; exact Nat.le_refl _), List.take_of_length_le (by rw [htl]; exact Nat.le_refl _)]
  rw [hR2, e1]
  simp only []
  rw [List.take_append_of_le_length (by simp only [List.length_append, List.length_take, List.length_drop, hxl, hul]; omega), List.take_of_length_le (by simp only [List.length_append, List.length_take, List.length_drop, hxl, hul]; omega)]
 have hfin : a3I w (.slice (some ⟨g, 0, none⟩) n n) e sz n i xs us (.returned (.slice (some ⟨w.heap.size, 0, none⟩) (n + 1) G)) W3 := by
  refine ⟨_, _, rfl, ⟨?_, .inr ⟨w.heap.size, G, R2, rfl, Nat.zero_le _, by rw [hW3]; exact setRow_heap _ _ R1 R2 e _ hgW2, hGn, hGm, hs2, htk2⟩⟩, ?_, .inr rfl⟩
  ·simp only [List.length_append, List.length_take, List.length_drop, hxl, hul]; omega
  ·have c3 : Chg [w.heap.size] W1 W3 := by rw [hW3, hW2]; exact (a4K.drew).trans a4K
   refine ⟨c3.os.trans hc1.os, c3.tape.trans hc1.tape, c3.output.trans hc1.output, Nat.le_trans hc1.size c3.size, fun k hk hn => ?_⟩
   rw [c3.block k (Nat.lt_of_lt_of_le hk hc1.size) (by simp; omega), hc1.block k hk (by simp)]
 have HF := Lib.hid hfin
 have hGi : ¬ (G = i) := by omega
 have hGim : ¬ (G = i + 1) := by omega
 have hG63 : G ≤ 9223372036854775807 := by unfold maxLen at hGm; omega
 obtain ⟨H, hH⟩ : ∃ H, H = w.heap.size := ⟨_, rfl⟩
 rw [← hH] at hrz hcpA hcpB HF
 clear hH hfin hgW0 hgV hgW2 hgG htk2 hs2 hs1 hcur hx1 h1 hvs htk hxl hdl m2 m3 m4 m5 hgv hg hcs hcm hinfo hsi hW1 hW2 hW3 hul hR1 hR2 hROW hRs hzl hold htl hc1 hgl hvl hm1 hkk hik hG q1 q2 q3 q4 hzs
 go_enter Tryz.func127, Tryz.ntmps127
 go_wp2_with (first
  | (at_builtin; refine Lib.wpList_append_run _ rfl _ _ _ _ rfl _ _ rfl rfl _ _ (hrz _) ?_)
  | (at_builtin; refine wpList_copy_runI _ rfl _ _ 64 64 rfl _ _ rfl rfl (hcpA _ _) ?_))
 go_region_law_o (refine step_copy_runI rfl _ _ 64 64 rfl _ _ (by simp [Act.eval, Act.put]) (by simp [Act.eval, Act.put]) (hcpB _ _ _) ?_)
 go_wp2
 go_ret
 exact HF
theorem c1O {e sz by_ n i e2 : Nat} {z : Value} {v u : Value} {xs us : List Value} {w : World} (ht : Tryz.prog.underlying 64 = some (.slice e)) (hinfo : (Tryz.prog.info? e).map (fun i => (i.zero, i.size, i.bytes)) = some (some z, sz, by_)) (hzs : z.cells.size = sz) (hsz : 0 < sz)
  (hown : w.ownsRow 0 e sz v n xs) (hx1 : ∀ u ∈ xs, u.oneCell' = true) (hv : w.ownsRow 0 e2 sz u 1 us) (h1 : ∀ u ∈ us, u.oneCell' = true) (hne : ∀ b, v.ownBlock = some b → u.ownBlock ≠ some b) (hi : i ≤ n) (h63 : n + 1 ≤ maxLen) (hb : (n + 1) * by_ ≤ 140737488355328) :
  Calls Tryz.prog 127 #[v, .int .i64 i, u] w (a3I w v e sz n i xs us) := by
 have hul : us.length = sz := by rw [hv.1, Nat.one_mul]
 rcases hv.2 with ⟨_, h⟩ | ⟨vb, vcap, curv, rfl, _, hgv, hvc, _, _, hvt⟩
 ·cases h
 ·rw [Nat.one_mul] at hvt
  rcases Nat.lt_or_ge i n with hlt | hge
  ·rcases hown.2 with ⟨_, h⟩ | ⟨g, cap, cur, rfl, _, hg, hnc, hcm, hcs, htk⟩
   ·omega
   ·rcases Nat.lt_or_ge n cap with h | h
    ·exact c5M ht hinfo hsz hown.1 hg hcm hcs htk hx1 hgv hul hvt h1 (fun e => hne g rfl (by rw [e]; rfl)) hlt h
    ·have e1 : cap = n := by omega
     subst e1
     exact c1x ht hinfo hzs hsz hown.1 hg hcm hcs htk hx1 hgv hul hvt h1 hlt h63 hb
  ·have e1 : i = n := by omega
   subst e1
   refine c5N ht hinfo hzs hsz hown ⟨by rw [Nat.one_mul]; exact hul, fun _ => ⟨vb, 0, rfl, fun j x hj => ?_⟩⟩ h1 h63 hb
   rw [Nat.zero_add, cell_of_row _ vb _ curv e2 (0, 0) hgv]
   have hj' := (List.getElem?_eq_some_iff.1 hj).1
   rw [← hvt, List.getElem?_take, if_pos (by omega), Array.getElem?_toList] at hj
   exact hj
theorem b9l {sz by_ : Nat} {zc : List CV} (he : look a4r.el 137 = some (sz, by_, zc)) (hl0 : zc.length = sz) (hpos : 0 < sz) : InsOk Tryz.prog 127 137 sz by_ := by
 obtain ⟨inf, z, g1, g2, g3, g4, g5⟩ := hT.el _ _ _ _ he
 refine ⟨hpos, hT.lt _ _ he, fun hown hx1 hv h1 hne hi h63 hb => c1O (z := z) (by kernel_rfl) (by rw [g1]; simp [g2, g3, g4]) (by
  have := a7G g5
  simp only [Array.length_toList] at this
  rw [this, hl0]) hpos hown hx1 hv h1 hne hi h63 hb⟩
end Go.Proofs.YtjkpoekgnmgofaaGreat

namespace Go.Proofs.YtjkpoekgnmgofaaGreat
open Go.RowKit
set_option linter.unusedVariables false
set_option linter.unusedSimpArgs false
section
variable {P : Program} {C : Ctx} {nt : Nat} {σ : St} {o : Oper} {x y : Operand} {T : TT} {L : Lyt} {a : Act} {w : World}
theorem a2C {k i : Nat} (ho : o.op = .nilCheck x) (hx : Ev P C nt σ x (.eptr k i)) : Pu P C nt o σ (.eptr k i) [] [] := Pu.mk fun L a w hr => by
 have h1 := hx.run L a w hr
 simp only [SVr] at h1
 obtain ⟨g, n, c, h2, e⟩ := h1
 refine ⟨_, by simp only [SVr]; exact ⟨g, n, c, h2, rfl⟩, fun w' _ => ?_⟩
 unfold execOp
 simp only [ho, e, Sem.run_pure]
theorem a5w {b i : Nat} (ho : o.op = .nilCheck x) (hx : Ev P C nt σ x (.box b i)) : Pu P C nt o σ (.box b i) [] [] := Pu.mk fun L a w hr => by
 have h1 := hx.run L a w hr
 simp only [SVr] at h1
 refine ⟨_, by simp only [SVr]; rfl, fun w' _ => ?_⟩
 unfold execOp
 simp only [ho, h1, Sem.run_pure]
end
end Go.Proofs.YtjkpoekgnmgofaaGreat

namespace Go.Proofs.YtjkpoekgnmgofaaGreat
open Go.RowKit
open Go.Proofs
set_option linter.unusedVariables false
set_option linter.unusedSimpArgs false
structure EFn (P : Program) (f : FuncId) (us : List SV) {ι : Type} (p : ι → Prop) (v : ι → SV) (kk : ι → List (Nat × Option KC)) : Prop where
 ok : a6L P f [] [] us fun u σ' => ∃ i, p i ∧ u = v i ∧ σ'.ks = kk i
structure BFn (P : Program) (f : FuncId) (us : List SV) (t : TypeId) (dd : DV) (ps : List CV) {ι : Type} (p : ι → Prop) (v : ι → SV) (kk : ι → List (Nat × Option KC)) (qs : ι → List CV) : Prop where
 ok : b4O P f [(0, t, .arg 900001 dd :: ps)] [] (.abox 0 :: us) fun u σ' => ∃ i, p i ∧ u = v i ∧ σ'.ks = kk i ∧ look σ'.bx 0 = some (t, .arg 900001 dd :: qs i) ∧ look σ'.tm 0 = some (.abox 0)
structure NFn (P : Program) (f : FuncId) (t : TypeId) (dd : DV) {ι : Type} (p : ι → Prop) (qs : ι → List CV) : Prop where
 ok : a6L P f [] [] [.one (.arg 0 dd)] fun u σ' => ∃ i n, p i ∧ u = .box n 0 ∧ look σ'.bx n = some (t, .arg 0 dd :: qs i)
section
variable {P : Program} {C : Ctx} {nt : Nat} {σ : St} {L : Lyt} {a : Act} {w : World} {o : Oper} {x y : Operand} {T : TT}
theorem a1w {b : Nat} (h : Ev P C nt σ x (.abox b)) : Ev P C nt σ x (.box b 0) := Ev.mk fun L a w hr => by
 have := h.run L a w hr
 simp only [SVr] at this ⊢
 exact this.1
/-! ### arguments beside a variable that is written -/
def a6t (P : Program) (C : Ctx) (nt : Nat) (σ : St) : List Operand → List SV → Prop
 | [], us => us = []
 | x :: xs, us => ∃ v u us', us = u :: us' ∧ Ev P C nt σ x v ∧ a2V σ v u ∧ (a1o σ v && v.part.isSome) = true ∧ a6t P C nt σ xs us'
theorem a1I : a6t P C nt σ [] [] := rfl
theorem a2t {xs : List Operand} {us : List SV} {v u : SV} (h1 : Ev P C nt σ x v) (h2 : a2V σ v u) (h3 : (a1o σ v && v.part.isSome) = true) (h4 : a6t P C nt σ xs us) : a6t P C nt σ (x :: xs) (u :: us) := ⟨v, u, us, rfl, h1, h2, h3, h4⟩
theorem b3M (hr : Rel P C nt L σ a w) {b : Nat} {xb : TypeId × List CV} (hb : look σ.bx b = some xb) {K : List Nat} (hK : ∀ k ∈ K, (lkk σ k).isSome = true) (L' : Lyt) (rv : Nat → Value) : ∀ z, z < w.heap.size → okB C L K z → okB ⟨w, [L.bb b], rv⟩ L' [] z ∧ w.heap[z]? = w.heap[z]? := fun z hz h => by
 refine ⟨.inl ⟨hz, ?_⟩, rfl⟩
 simp only [List.mem_singleton]
 rintro rfl
 rcases h with ⟨h1, h2⟩ | ⟨k, hk, h1⟩
 ·rcases hr.b1 b xb hb with h3 | h3
  ·omega
  ·exact h2 h3
 ·obtain ⟨c, hc⟩ := Option.isSome_iff_exists.1 (hK k hk)
  exact hr.bk b k xb c hb hc h1
theorem b2t (hr : Rel P C nt L σ a w) {b : Nat} {xb : TypeId × List CV} (hb : look σ.bx b = some xb) (L' : Lyt) (rv : Nat → Value) {c u : CV} {v : Value} (h : a1T σ c u) (hl : ∀ k ∈ c.keys, (lkk σ k).isSome = true) (hv : CVr C L w c v) : CVr ⟨w, [L.bb b], rv⟩ L' w u v ∧ u.keys = [] := by
 cases c with
 | dv K d => simp only [a1T] at h; subst h; exact ⟨a5I (b3M hr hb hl L' rv) d v hv, rfl⟩
 | nest k o d => simp only [a1T] at h; subst h; exact ⟨a5I (b3M hr hb hl L' rv) d v hv.1, rfl⟩
 | arg i d => simp only [a1T] at h; subst h; exact ⟨a5I (b3M hr hb (K := []) (by simp) L' rv) d v hv.2, rfl⟩
 | key k =>
  simp only [a1T] at h
  obtain ⟨c, e', h1, rfl⟩ := h
  simp only [CVr] at hv
  subst hv
  have h2 := a4l (ok := okB ⟨w, [L.bb b], rv⟩ L' []) _ _ _ (hr.ks k c h1).1 (fun z hz => .inl ⟨hr.k_lt h1 z hz, by
   simp only [List.mem_singleton]; rintro rfl; exact hr.bk b k xb c hb h1 hz⟩)
  exact ⟨by simp only [CVr, Lay] at h2 ⊢; exact h2, rfl⟩
 | nil =>
  simp only [a1T] at h
  obtain ⟨e, sz, h1, rfl⟩ := h
  simp only [CVr] at hv
  subst hv
  simp only [CVr, Lay]
  exact ⟨⟨none, 0, [], rfl, Nat.le_refl _, by simp [maxLen], h1, by simp, by simp [a1u], fun h => by omega⟩, rfl⟩
 | any => simp only [a1T] at h; subst h; exact ⟨hv, rfl⟩
theorem b4u (hr : Rel P C nt L σ a w) {b : Nat} {xb : TypeId × List CV} (hb : look σ.bx b = some xb) (L' : Lyt) (rv : Nat → Value) : ∀ {cs us : List CV} {vs : List Value}, a4M σ cs us → (∀ k ∈ cs.flatMap CV.keys, (lkk σ k).isSome = true) → CVL C L w cs vs → CVL ⟨w, [L.bb b], rv⟩ L' w us vs ∧ us.flatMap CV.keys = []
 | [], _, _, h, _, hv => by simp only [a4M] at h; subst h; exact ⟨hv, rfl⟩
 | c :: cs, _, _, ⟨u, us', e, h1, h2⟩, hl, ⟨v, vs', e', h3, h4⟩ => by
  subst e; subst e'
  obtain ⟨g1, g2⟩ := b2t hr hb L' rv h1 (fun k hk => hl k (by simp [hk])) h3
  obtain ⟨k1, k2⟩ := b4u hr hb L' rv h2 (fun k hk => hl k (by simp only [List.flatMap_cons, List.mem_append]; exact .inr hk)) h4
  exact ⟨⟨v, vs', rfl, g1, k1⟩, by simp only [List.flatMap_cons, g2, k2, List.append_nil]⟩
theorem c3K (hr : Rel P C nt L σ a w) {b : Nat} {xb : TypeId × List CV} (hb : look σ.bx b = some xb) (L' : Lyt) (rv : Nat → Value) {v u : SV} {r : Value} (h : a2V σ v u) (hl : (a1o σ v && v.part.isSome) = true) (hv : SVr P C L w v r) : SVr P ⟨w, [L.bb b], rv⟩ L' w u r ∧ u.keys = [] ∧ u.boxes = [] := by
 simp only [Bool.and_eq_true] at hl
 have hlk := (a1Q hl.1).1
 cases v with
 | one c =>
  simp only [a2V] at h
  obtain ⟨c', h1, rfl⟩ := h
  simp only [SVr] at hv ⊢
  obtain ⟨g1, g2⟩ := b2t hr hb L' rv h1 hlk hv
  exact ⟨g1, by simpa [SV.keys] using g2, rfl⟩
 | agg cs =>
  simp only [a2V] at h
  obtain ⟨cs', h1, rfl⟩ := h
  simp only [SVr] at hv ⊢
  obtain ⟨vs, e, h2⟩ := hv
  obtain ⟨g1, g2⟩ := b4u hr hb L' rv h1 hlk h2
  exact ⟨⟨vs, e, g1⟩, by simpa only [SV.keys] using g2, rfl⟩
 | _ => simp [SV.part] at hl
theorem b4r (hr : Rel P C nt L σ a w) {b : Nat} {xb : TypeId × List CV} (hb : look σ.bx b = some xb) (L' : Lyt) (rv : Nat → Value) : ∀ (xs : List Operand) (us : List SV), a6t P C nt σ xs us →
  us.length = xs.length ∧ (∀ (i : Nat) u, us[i]? = some u → ∃ x, xs[i]? = some x ∧ SVr P ⟨w, [L.bb b], rv⟩ L' w u (a.eval x) ∧ u.keys = [] ∧ u.boxes = [])
 | [], _, h => by simp only [a6t] at h; subst h; exact ⟨rfl, fun i u hu => by simp at hu⟩
 | x :: xs, _, ⟨v, u, us', e, h1, h2, h3, h4⟩ => by
  subst e
  obtain ⟨k1, k2⟩ := b4r hr hb L' rv xs us' h4
  refine ⟨by simp [k1], fun i u' hu => ?_⟩
  cases i with
  | zero => simp at hu; subst hu; exact ⟨x, rfl, c3K hr hb L' rv h2 h3 (h1.run L a w hr)⟩
  | succ i => simp at hu; simpa using k2 i u' hu
theorem b0q {C C' : Ctx} {L L' : Lyt} {w w' : World} : ∀ {cs : List CV} {vs : List Value}, cs.all CV.plain = true → CVL C' L' w' cs vs → CVL C L w cs vs
 | [], _, _, h => h
 | c :: cs, _, hp, ⟨v, vs', e, h1, h2⟩ => by
  simp only [List.all_cons, Bool.and_eq_true] at hp
  refine ⟨v, vs', e, ?_, b0q hp.2 h2⟩
  cases c with
  | dv K d => simp only [CV.plain, Bool.and_eq_true] at hp; exact b1e hp.1.2 h1
  | _ => simp [CV.plain] at hp
structure EfB (P : Program) (C : Ctx) (nt : Nat) (o : Oper) (σ : St) (b : Nat) (R : St → Prop) : Prop where
 run : ∀ L a w, Rel P C nt L σ a w → ∀ K Q, (∀ L' σ' a' w', R σ' → Rel P C nt L' σ' a' w' → Chg [L.bb b] w w' → (∀ k c, lkk σ k = some c → L'.fp k = L.fp k) → (∀ i, L'.bb i = L.bb i) → K a' w') → o.wp P a w K Q
theorem EfB.ef {b : Nat} {R : St → Prop} (h : EfB P C nt o σ b R) : Ef P C nt o σ R := Ef.mk fun L a w hr K Q hK => h.run L a w hr K Q fun L' σ' a' w' h1 h2 _ _ _ => hK L' σ' a' w' h1 h2
theorem efB {f : FuncId} {xs : List Operand} {ats : Array TypeId} {us : List SV} {t : TypeId} {dd : DV} {ps : List CV} {ι : Type} {p : ι → Prop} {v : ι → SV} {kk : ι → List (Nat × Option KC)} {qs : ι → List CV} {b d : Nat} {c0 : CV} (m : Nat)
  (ho : o.op = .call { callee := .value (.func f), args := (x :: xs).toArray, argTypes := ats }) (hd : o.dst = some d) (hn : Nat.blt d nt = true) (hc : ∀ (args : Array Value) (w : World), (callFunc f args).run P w = .ok (.enter f args) w) (hf : BFn P f us t dd ps p v kk qs)
  (hx : Ev P C nt σ x (.box b 0)) (hb : look σ.bx b = some (t, c0 :: ps)) (h0 : a1T σ c0 (.dv [] dd)) (hps : ps.all CV.plain = true) (hqs : ∀ i, (qs i).all CV.plain = true) (ha : a6t P C nt σ xs us) (hres : ∀ i, (v i).retOk = true) (hfree : ∀ i, ((kk i).all fun q => (lkk σ (m + q.1)).isNone) = true) :
  EfB P C nt o σ b (fun σ' => ∃ i, p i ∧ σ' = { σ with bx := (b, t, c0 :: qs i) :: σ.bx, ks := shK m (kk i) ++ σ.ks }.put d ((v i).sh m)) := EfB.mk fun L a w hr K Q hK => by
 obtain ⟨vs, hB, hcv⟩ := hr.bx b t _ hb
 have hc0k : ∀ k ∈ c0.keys, (lkk σ k).isSome = true := fun k hk => hr.lk k (a8t hb k (by simp [hk]))
 have hcv' := hcv
 simp only [CVL] at hcv
 obtain ⟨v0, vs', rfl, g0, gps⟩ := hcv
 have e1 := hx.run L a w hr
 simp only [SVr] at e1
 let rv : Nat → Value := fun j => if j = 900000 then .pointer (some ⟨L.bb b, 0, none⟩) else v0
 let L0 : Lyt := { bb := fun _ => L.bb b, fp := fun _ => [], rv := rv }
 obtain ⟨l1, l2⟩ := b4r hr hb L0 rv xs us ha
 obtain ⟨g1, _⟩ := b2t hr hb L0 rv h0 hc0k g0
 have hpk := (a7J hps).2.1
 refine a6n (xs := x :: xs) ho hc ?_
 have hent : Rel P ⟨w, [L.bb b], rv⟩ (.abox 0 :: us).length L0 ⟨a2k 0 (.abox 0 :: us), [(0, t, .arg 900001 dd :: ps)], []⟩ ⟨((x :: xs).map a.eval).toArray, []⟩ w := {
  df := rfl
  sz := by simp [l1]
  tm := fun i u hu => by
   obtain ⟨_, h4⟩ := a7y _ 0 i u hu
   rw [Nat.sub_zero] at h4
   cases i with
   | zero =>
    simp only [List.getElem?_cons_zero, Option.some.injEq] at h4
    subst h4
    simp only [SVr]
    have : (List.map a.eval (x :: xs)).toArray.getD 0 undef = a.eval x := rfl
    rw [this, e1]
    exact ⟨rfl, rfl⟩
   | succ i =>
    obtain ⟨z, h5, h6, _⟩ := l2 i u (by simpa using h4)
    have : (List.map a.eval (x :: xs)).toArray.getD (i + 1) undef = a.eval z := by simp [Array.getD_eq_getD_getElem?, h5]
    rw [this]; exact h6
  bx := fun i t' cs hi => by
   simp only [a0Z] at hi
   split at hi
   ·simp only [Option.some.injEq, Prod.mk.injEq] at hi
    obtain ⟨rfl, rfl⟩ := hi
    refine ⟨v0 :: vs', hB, v0, vs', rfl, ?_, b0q hps gps⟩
    simp only [CVr] at g1 ⊢
    exact ⟨rfl, g1⟩
   ·cases hi
  ks := fun k c h => by cases h
  b1 := fun i x' h => .inr (by simp [L0])
  k1 := fun k c h => by cases h
  kn := fun k c h => by cases h
  bb := fun i j x' y' hi hj hij => by
   simp only [a0Z] at hi hj
   split at hi <;> split at hj
   ·rename_i q1 q2; exact absurd (q1.trans q2.symm) hij
   ·cases hj
   ·cases hi
   ·cases hi
  bk := fun i k x' c _ h => by cases h
  kk := fun k j c d h => by cases h
  lk := fun k hk => by
   exfalso
   simp only [St.tk, List.mem_append, List.flatMap_cons, List.flatMap_nil, List.append_nil, CV.keys, List.nil_append, hpk, List.not_mem_nil, or_false] at hk
   obtain ⟨q, hq, hk⟩ := List.mem_flatMap.1 hk
   have key : ∀ (us' : List SV) (n : Nat), (∀ u ∈ us', u.keys = []) → ∀ q ∈ a2k n us', q.2.keys = [] := fun us' => by
    induction us' with
    | nil => intro n _ q hq; simp [a2k] at hq
    | cons u us' ih =>
     intro n hu q hq
     simp only [a2k, List.mem_cons] at hq
     rcases hq with rfl | hq
     ·exact hu u (by simp)
     ·exact ih (n + 1) (fun z hz => hu z (by simp [hz])) q hq
   rw [key (.abox 0 :: us) 0 (fun u hu => by
    rcases List.mem_cons.1 hu with rfl | hu
    ·rfl
    ·obtain ⟨i, hi⟩ := List.mem_iff_getElem?.1 hu
     obtain ⟨_, _, _, h7, _⟩ := l2 i u hi
     exact h7) q hq] at hk
   cases hk
  lb := fun z hz => by
   simp only [St.tb, a2k, List.flatMap_cons, List.mem_append] at hz
   rcases hz with hz | hz
   ·simp only [SV.boxes, List.mem_singleton] at hz
    subst hz; rfl
   ·exfalso
    obtain ⟨q, hq, hk⟩ := List.mem_flatMap.1 hz
    have key : ∀ (us' : List SV) (n : Nat), (∀ u ∈ us', u.boxes = []) → ∀ q ∈ a2k n us', q.2.boxes = [] := fun us' => by
     induction us' with
     | nil => intro n _ q hq; simp [a2k] at hq
     | cons u us' ih =>
      intro n hu q hq
      simp only [a2k, List.mem_cons] at hq
      rcases hq with rfl | hq
      ·exact hu u (by simp)
      ·exact ih (n + 1) (fun z hz => hu z (by simp [hz])) q hq
    rw [key us 1 (fun u hu => by
     obtain ⟨i, hi⟩ := List.mem_iff_getElem?.1 hu
     obtain ⟨_, _, _, _, h7⟩ := l2 i u hi
     exact h7) q hq] at hk
    cases hk
  s0 := fun z hz => by
   simp only [List.mem_singleton] at hz
   subst hz; exact hr.bx_lt hb
  chg := Chg.refl _ _ }
 refine (hf.ok w [L.bb b] L0 ((x :: xs).map a.eval) (by simp [l1]) hent).mono ?_
 rintro e' w' ⟨r, res, σ', L', rfl, ⟨i, hp, rfl, hks, hbx, htm⟩, h3, nt', a', h4⟩
 have q1 := h4.tm 0 _ htm
 simp only [SVr] at q1
 have hbb : L'.bb 0 = L.bb b := by
  have q2 := q1.1.symm.trans q1.2
  have q3 : L0.rv (900000 + 0) = .pointer (some ⟨L.bb b, 0, none⟩) := rfl
  rw [q3] at q2
  simp only [Value.pointer.injEq, Option.some.injEq, Addr.mk.injEq, and_true] at q2
  exact q2
 obtain ⟨us1, hw1, hcv1⟩ := h4.bx 0 t _ hbx
 rw [hbb] at hw1
 simp only [CVL] at hcv1
 obtain ⟨v1, us2, rfl, k1, k2⟩ := hcv1
 have ev1 : v1 = v0 := by
  simp only [CVr] at k1
  have q3 : L0.rv 900001 = v0 := rfl
  rw [← q3]; exact k1.1
 subst ev1
 have hset := hr.setbox (cs := c0 :: qs i) (vs := v1 :: us2) hb h4.chg hw1 ⟨v1, us2, rfl, g0, b0q (hqs i) k2⟩ (fun k hk => by
  simp only [List.flatMap_cons, (a7J (hqs i)).2.1, List.append_nil] at hk
  exact hc0k k hk)
 have h3' : Rel P ⟨w, [L.bb b], rv⟩ 1 L' ⟨[(0, v i)], σ'.bx, kk i⟩ ⟨#[r], []⟩ w' := by rw [← hks]; exact h3
 have hbox : ∀ j x', look ((b, t, c0 :: qs i) :: σ.bx) j = some x' → ∃ z, look σ.bx j = some z := fun j x' hx' => by
  simp only [a0Z] at hx'
  split at hx'
  ·rename_i e; exact ⟨_, by rw [e]; exact hb⟩
  ·exact ⟨_, hx'⟩
 obtain ⟨L'', r1, r2, r3⟩ := hset.ret0 (B0 := w.heap.size) h3' m (fun q hq => by
   have := List.all_eq_true.1 (hfree i) q hq
   have h7 : lkk σ (m + q.1) = none := by simpa using this
   exact h7) (hres i) (d := d) (by simpa [Nat.blt_eq] using hn) hr.chg.size (fun k c hk => hr.k_lt hk) (fun j x' hx' => by obtain ⟨z, hz⟩ := hbox j x' hx'; exact hr.bx_lt hz)
  (fun k c hk z hz => by
   rcases h3'.k1 k c hk z hz with h5 | h5
   ·exact h5
   ·simp only [List.mem_singleton] at h5
    exfalso
    refine h3'.bk 0 k _ c hbx hk ?_
    rw [hbb, ← h5]; exact hz)
 refine ⟨r, rfl, hK L'' _ _ _ ⟨i, hp, rfl⟩ ?_ h4.chg r2 r3⟩
 rw [hd]
 exact r1
theorem Rel.addbox (h : Rel P C nt L σ a w) {i B : Nat} {t : TypeId} {cs : List CV} {vs : List Value} (hi : look σ.bx i = none) (hB : w.heap[B]? = some (.cells vs.toArray t (0, 0))) (hv : CVL C L w cs vs) (hk : ∀ k ∈ cs.flatMap CV.keys, (lkk σ k).isSome = true)
  (hf : a7r C B) (h1 : ∀ j x, look σ.bx j = some x → L.bb j ≠ B) (h2 : ∀ k c, lkk σ k = some c → B ∉ L.fp k) :
  Rel P C nt { L with bb := fun j => if j = i then B else L.bb j } { σ with bx := (i, t, cs) :: σ.bx } a w := by
 have hne : ∀ j x, look σ.bx j = some x → j ≠ i := fun j x hj e => by rw [e, hi] at hj; cases hj
 have hK : ∀ ks, Keeps2 C L { L with bb := fun j => if j = i then B else L.bb j } w w ks := fun ks => ⟨fun k _ => ⟨rfl, rfl, fun b _ hb => rfl⟩, fun b hb _ => rfl⟩
 exact {
  df := h.df, sz := h.sz
  tm := fun j v hv => a6E (hK _) (fun b hb => by
   have h3 := h.lb b (b2m hv b hb)
   obtain ⟨x, hx⟩ := Option.isSome_iff_exists.1 h3
   simp [hne b x hx]) (h.tm j v hv)
  bx := fun j t' cs' hx => by
   simp only [a0Z] at hx
   split at hx
   ·rename_i e
    simp only [Option.some.injEq, Prod.mk.injEq] at hx
    obtain ⟨rfl, rfl⟩ := hx
    subst e
    exact ⟨vs, by simpa using hB, a4Q (hK _) hv⟩
   ·rename_i e
    obtain ⟨us, h3, h4⟩ := h.bx j t' cs' hx
    exact ⟨us, by simpa [e] using h3, a4Q (hK _) h4⟩
  ks := h.ks
  b1 := fun j x hx => by
   simp only [a0Z] at hx
   split at hx
   ·rename_i e; simp only [e, if_true]; exact hf
   ·rename_i e; simp only [e, if_false]; exact h.b1 j x hx
  k1 := h.k1, kn := h.kn
  bb := fun j l x y hx hy hjl => by
   simp only [a0Z] at hx hy
   split at hx <;> split at hy
   ·rename_i e1 e2; exact absurd (e1.trans e2.symm) hjl
   ·rename_i e1 e2; simp only [e1, e2, if_true, if_false]; exact (h1 l y hy).symm
   ·rename_i e1 e2; simp only [e1, e2, if_true, if_false]; exact h1 j x hx
   ·rename_i e1 e2; simp only [e1, e2, if_false]; exact h.bb j l x y hx hy hjl
  bk := fun j k x c hx hc => by
   simp only [a0Z] at hx
   split at hx
   ·rename_i e; simp only [e, if_true]; exact h2 k c hc
   ·rename_i e; simp only [e, if_false]; exact h.bk j k x c hx hc
  kk := h.kk
  lk := fun k hm => by
   simp only [St.tk, List.flatMap_cons, List.mem_append] at hm
   rcases hm with hm | hm | hm
   ·exact h.lk k (by simp only [St.tk, List.mem_append]; exact .inl hm)
   ·exact hk k hm
   ·exact h.lk k (by simp only [St.tk, List.mem_append]; exact .inr hm)
  lb := fun b hm => by
   have h3 := h.lb b hm
   simp only [a0Z]
   split
   ·rfl
   ·exact h3
  s0 := h.s0
  chg := h.chg }
theorem c1J {f : FuncId} {ats : Array TypeId} {t : TypeId} {dd : DV} {ι : Type} {p : ι → Prop} {qs : ι → List CV} {d : Nat} {c0 : CV}
  (ho : o.op = .call { callee := .value (.func f), args := #[x], argTypes := ats }) (hd : o.dst = some d) (hn : Nat.blt d nt = true) (hc : ∀ (args : Array Value) (w : World), (callFunc f args).run P w = .ok (.enter f args) w) (hf : NFn P f t dd p qs)
  (hx : Ev P C nt σ x (.one c0)) (h0 : a1T σ c0 (.dv [] dd)) (hk0 : (c0.keys.all fun k => (lkk σ k).isSome) = true) (hqs : ∀ i, (qs i).all CV.plain = true) (hi : look σ.bx d = none) :
  EfG P C nt o σ (fun σ' => ∃ i, p i ∧ σ' = { σ with bx := (d, t, c0 :: qs i) :: σ.bx }.put d (.box d 0)) := EfG.mk fun L a w hr K Q hK => by
 have e1 := hx.run L a w hr
 simp only [SVr] at e1
 let L0 : Lyt := { L with rv := fun _ => a.eval x }
 obtain ⟨g1, g2⟩ := a8D hr L0 h0 e1
 refine a6n (xs := [x]) ho hc ?_
 have hent := b1u (P := P) (w := w) (L := L0) (us := [.one (.arg 0 dd)]) (vs := [a.eval x]) rfl (fun i u hu => by
  cases i with
  | zero =>
   simp only [List.getElem?_cons_zero, Option.some.injEq] at hu
   subst hu
   refine ⟨a.eval x, rfl, ?_, rfl, rfl⟩
   simp only [SVr, CVr] at g1 ⊢
   exact ⟨rfl, g1⟩
  | succ i => simp at hu)
 refine (hf.ok w [] L0 [a.eval x] rfl hent).mono ?_
 rintro e' w' ⟨r, res, σ', L', rfl, ⟨i, n, hp, rfl, hbx⟩, h3⟩
 have hg := hr.grow h3.chg
 obtain ⟨us1, hw1, hcv1⟩ := h3.bx n t _ hbx
 simp only [CVL] at hcv1
 obtain ⟨v1, us2, rfl, k1, k2⟩ := hcv1
 have ev1 : v1 = a.eval x := by simp only [CVr] at k1; exact k1.1
 subst ev1
 have e2 := hx.run L a w' hg
 simp only [SVr] at e2
 have hn0 : w.heap.size ≤ L'.bb n := by
  rcases h3.b1 n _ hbx with h5 | h5
  ·exact h5
  ·cases h5
 have ht := h3.tm 0 _ (by simp [a0Z]; rfl)
 simp only [SVr] at ht
 have hrr : (#[r] : Array Value).getD 0 undef = r := rfl
 rw [hrr] at ht
 have hadd := hg.addbox (B := L'.bb n) (cs := c0 :: qs i) (vs := a.eval x :: us2) hi hw1 ⟨_, us2, rfl, e2, b0q (hqs i) k2⟩ (fun k hk => by
   simp only [List.flatMap_cons, (a7J (hqs i)).2.1, List.append_nil] at hk
   exact List.all_eq_true.1 hk0 k hk) (.inl (Nat.le_trans hr.chg.size hn0)) (fun j x' hx' e => by have := hr.bx_lt hx'; omega) (fun k c hk hm => by have := hr.k_lt hk _ hm; omega)
 refine ⟨r, rfl, hK { L with bb := fun j => if j = d then L'.bb n else L.bb j } _ _ _ ⟨i, hp, rfl⟩ ?_ ⟨h3.chg, fun _ _ _ => rfl, fun j x' hx' => ?_⟩⟩
 ·rw [hd]
  refine hadd.put (v := .box d 0) (by simpa [Nat.blt_eq] using hn) ?_ (by simp [SV.keys]) (fun z hz => by
   simp only [SV.boxes, List.mem_singleton] at hz
   subst hz; simp [a0Z])
  simp only [SVr, if_true]
  exact ht
 ·simp only
  rw [if_neg]
  rintro rfl
  rw [hi] at hx'; cases hx'
section
variable {Q : Exit → St → Prop} {all : Array Oper} {rest : List Oper} {tm : List (Nat × SV)} {bx : List (Nat × TypeId × List CV)} {ks : List (Nat × Option KC)} {ι : Type} {p : ι → Prop} {v : ι → SV} {kk : ι → List (Nat × Option KC)} {qs : ι → List CV} {f : FuncId} {xs : List Operand} {ats : Array TypeId} {us : List SV} {t : TypeId} {dd : DV} {ps : List CV} {b d : Nat} {c0 : CV}
theorem a1Z (m : Nat) (hg : o.guard = none) (hd : o.dst = some d) (ho : o.op = .call { callee := .value (.func f), args := (x :: xs).toArray, argTypes := ats }) (hc : ∀ (args : Array Value) (w : World), (callFunc f args).run P w = .ok (.enter f args) w) (hf : BFn P f us t dd ps p v kk qs)
  (hx : Ev P C nt ⟨tm, bx, ks⟩ x (.box b 0)) (hb : look bx b = some (t, c0 :: ps)) (h0 : a1T ⟨tm, bx, ks⟩ c0 (.dv [] dd)) (hps : ps.all CV.plain = true) (hqs : ∀ i, (qs i).all CV.plain = true) (ha : a6t P C nt ⟨tm, bx, ks⟩ xs us) (hn : Nat.blt d nt = true) (hres : ∀ i, (v i).retOk = true) (hfree : ∀ i, ((kk i).all fun q => (lkk ⟨tm, bx, ks⟩ (m + q.1)).isNone) = true)
  (h : ∀ i, p i → Ops P C nt Q all rest ⟨(d, (v i).sh m) :: tm, (b, t, c0 :: qs i) :: bx, shK m (kk i) ++ ks⟩) : Ops P C nt Q all (o :: rest) ⟨tm, bx, ks⟩ :=
 a7I hg (efB m ho hd hn hc hf hx hb h0 hps hqs ha hres hfree).ef fun σ' ⟨i, hp, e⟩ => by rw [e]; exact h i hp
theorem b9N (m : Nat) (hg : o.guard = none) (hd : o.dst = some d) (ho : o.op = .call { callee := .value (.func f), args := xs.toArray, argTypes := ats }) (hc : ∀ (args : Array Value) (w : World), (callFunc f args).run P w = .ok (.enter f args) w) (hf : EFn P f us p v kk)
  (ha : a2j P C nt ⟨tm, bx, ks⟩ xs us) (hn : Nat.blt d nt = true) (hres : ∀ i, (v i).retOk = true) (hfree : ∀ i, ((kk i).all fun q => (lkk ⟨tm, bx, ks⟩ (m + q.1)).isNone) = true)
  (h : ∀ i, p i → Ops P C nt Q all rest ⟨(d, (v i).sh m) :: tm, bx, shK m (kk i) ++ ks⟩) : Ops P C nt Q all (o :: rest) ⟨tm, bx, ks⟩ :=
 a7I hg (a7z m ho hd hn hc hf.ok ha (fun u σ' ⟨i, hp, e1, e2⟩ => ⟨i, e1, e2, hp⟩) hres hfree).ef fun σ' ⟨i, hp, e⟩ => by rw [e]; exact h i hp
theorem c2S (hg : o.guard = none) (hd : o.dst = some d) (ho : o.op = .call { callee := .value (.func f), args := #[x], argTypes := ats }) (hc : ∀ (args : Array Value) (w : World), (callFunc f args).run P w = .ok (.enter f args) w) (hf : NFn P f t dd p qs)
  (hx : Ev P C nt ⟨tm, bx, ks⟩ x (.one c0)) (h0 : a1T ⟨tm, bx, ks⟩ c0 (.dv [] dd)) (hk0 : (c0.keys.all fun k => (lkk ⟨tm, bx, ks⟩ k).isSome) = true) (hqs : ∀ i, (qs i).all CV.plain = true) (hn : Nat.blt d nt = true) (hi : look bx d = none)
  (h : ∀ i, p i → Ops P C nt Q all rest ⟨(d, .box d 0) :: tm, (d, t, c0 :: qs i) :: bx, ks⟩) : Ops P C nt Q all (o :: rest) ⟨tm, bx, ks⟩ :=
 a7I hg (c1J ho hd hn hc hf hx h0 hk0 hqs hi).ef fun σ' ⟨i, hp, e⟩ => by rw [e]; exact h i hp
end
end
end Go.Proofs.YtjkpoekgnmgofaaGreat

namespace Go.Proofs.YtjkpoekgnmgofaaGreat
open Go.RowKit
open Go.Proofs
set_option linter.unusedVariables false
set_option linter.unusedSimpArgs false
section
variable {P : Program} {C : Ctx} {nt : Nat} {Q : Exit → St → Prop} {all : Array Oper} {oB oK : List Nat} {hd' : Nat → Bool} {listed : Array Bool} {fuel b : Nat} {tm : List (Nat × SV)} {bx : List (Nat × TypeId × List CV)} {ks : List (Nat × Option KC)} {o : Oper} {d : Nat} {v X : SV} {Ks Bs : List Nat} {g : Bool} {x y : Operand} {T : TT}
def SWL (Bs : List Nat) (wb w : World) : Prop := wb.heap.size ≤ w.heap.size ∧ ∀ k, k < wb.heap.size → k ∉ Bs → w.heap[k]? = wb.heap[k]?
theorem SWL.refl (Bs : List Nat) (w : World) : SWL Bs w w := ⟨Nat.le_refl _, fun _ _ _ => rfl⟩
theorem SWL.chg {Bs cs : List Nat} {wb w w' : World} (h : SWL Bs wb w) (hc : Chg cs w w') (hs : ∀ x ∈ cs, x ∈ Bs) : SWL Bs wb w' := ⟨Nat.le_trans h.1 hc.size, fun k hk hn => (hc.block k (Nat.lt_of_lt_of_le hk h.1) (fun hm => hn (hs k hm))).trans (h.2 k hk hn)⟩
structure OpsL (P : Program) (C : Ctx) (nt : Nat) (Q : Exit → St → Prop) (all : Array Oper) (oB oK : List Nat) (bs : List Nat) (hd' : Nat → Bool) (listed : Array Bool) (fuel : Nat) (σ : St) : Prop where
 run : ∀ wb L a w, Rel P C nt L σ a w → SWL (bs.map L.bb) wb w → C.w0.heap.size ≤ wb.heap.size → (∀ i ∈ oB, L.bb i < wb.heap.size) → (∀ k ∈ oK, ∀ b ∈ L.fp k, b < wb.heap.size) → a2f P .any all (QQ P C nt Q) (SWL (bs.map L.bb) wb) hd' fuel listed a w
structure OpsLJ (P : Program) (C : Ctx) (nt : Nat) (Q : Exit → St → Prop) (all : Array Oper) (oB oK : List Nat) (bs : List Nat) (hd' : Nat → Bool) (listed : Array Bool) (fuel : Nat) (i : Nat) (σ : St) : Prop where
 run : ∀ wb L a w, Rel P C nt L σ a w → SWL (bs.map L.bb) wb w → C.w0.heap.size ≤ wb.heap.size → (∀ i ∈ oB, L.bb i < wb.heap.size) → (∀ k ∈ oK, ∀ b ∈ L.fp k, b < wb.heap.size) →
  wpOp P all (QQ P C nt Q) i (fun a' w' => (hd' i = true → SWL (bs.map L.bb) wb w') ∧ a2f P .any all (QQ P C nt Q) (SWL (bs.map L.bb) wb) hd' fuel (listed.setIfInBounds i true) a' w') a w
def b3V (P : Program) (C : Ctx) (nt : Nat) (Q : Exit → St → Prop) (all : Array Oper) (oB oK : List Nat) (bs : List Nat) (hd' : Nat → Bool) (listed : Array Bool) (fuel : Nat) (σ : St) : List Nat → Prop
 | [] => True
 | i :: is => OpsLJ P C nt Q all oB oK bs hd' listed fuel i σ ∧ b3V P C nt Q all oB oK bs hd' listed fuel σ is
section
variable {bs : List Nat}
theorem b8D {σ : St} : ∀ {is : List Nat}, b3V P C nt Q all oB oK bs hd' listed fuel σ is → ∀ i ∈ is, OpsLJ P C nt Q all oB oK bs hd' listed fuel i σ
 | [], _, _, hi => by cases hi
 | j :: is, h, i, hi => by
  rcases List.mem_cons.1 hi with rfl | hi
  ·exact h.1
  ·exact b8D h.2 i hi
theorem a6j (bs hs : List Nat) {id : Nat} {l : List Oper} (hm : P.follows .mixedOrders = true) (hb : (oB.all fun i => (look bx i).isSome) = true) (hk : (oK.all fun k => (lkk ⟨tm, bx, ks⟩ k).isSome) = true)
  (h : OpsL P C nt Q l.toArray oB oK bs (fun i => hs.contains i) (Array.replicate l.length false) l.length ⟨tm, bx, ks⟩) : Ok P C nt Q (.region id l.toArray true) ⟨tm, bx, ks⟩ := Ok.mk fun L a w hr => by
 have hr' := a7Q hr
 refine a8j (SWL (bs.map L.bb) w.drew) (fun i => hs.contains i) hm ?_
 have := h.run w.drew L a w.drew hr' (SWL.refl _ _) hr'.chg.size (fun i hi => ?_) (fun k hk' b hb' => ?_)
 ·simpa using this
 ·obtain ⟨x, hx⟩ := Option.isSome_iff_exists.1 (List.all_eq_true.1 hb i hi)
  exact hr'.bx_lt hx
 ·obtain ⟨c, hc⟩ := Option.isSome_iff_exists.1 (List.all_eq_true.1 hk k hk')
  exact hr'.k_lt hc b hb'
theorem a2e (i : Nat) (hi : all[i]? = some o) (ht : a4y .any all hd' listed i = true) (hg : o.guard = none) (hd : o.dst = some d) (hp : Pu P C nt o ⟨tm, bx, ks⟩ v Ks Bs) (h1 : (Ks.all fun k => oK.contains k && (lkk ⟨tm, bx, ks⟩ k).isSome) = true) (h2 : (Bs.all fun k => oB.contains k && (!(bs.contains k) && (look bx k).isSome)) = true) (h3 : (bs.all fun b => (look bx b).isSome) = true) (hn : Nat.blt d nt = true) (hk : a1o ⟨tm, bx, ks⟩ v = true)
  (h : OpsL P C nt Q all oB oK bs hd' (listed.setIfInBounds i true) fuel ⟨(d, v) :: tm, bx, ks⟩) : OpsL P C nt Q all oB oK bs hd' listed (fuel + 1) ⟨tm, bx, ks⟩ := ⟨fun wb L a w hr hs hw hB hK => by
 obtain ⟨r, q3, q4⟩ := hp.run L a w hr
 have hy : ∀ w', SWL (bs.map L.bb) wb w' → (execOp a.eval o).run P w' = .ok (.value r) w' := fun w' hs' => q4 w' fun z _ hu => by
  have hz : z < wb.heap.size ∧ ∀ b ∈ bs, z ≠ L.bb b := by
   rcases hu with (⟨h5, h6⟩ | ⟨k, hk, hb⟩) | ⟨i, hi, rfl⟩
   ·refine ⟨by omega, fun b hb e => ?_⟩
    obtain ⟨xb, hxb⟩ := Option.isSome_iff_exists.1 (List.all_eq_true.1 h3 b hb)
    rcases hr.b1 b xb hxb with g | g
    ·omega
    ·exact h6 (by rw [e]; exact g)
   ·have := List.all_eq_true.1 h1 k hk
    simp only [Bool.and_eq_true, List.contains_iff_mem] at this
    obtain ⟨c, hc⟩ := Option.isSome_iff_exists.1 this.2
    exact ⟨hK k this.1 z hb, fun b hb' e => by
     obtain ⟨xb, hxb⟩ := Option.isSome_iff_exists.1 (List.all_eq_true.1 h3 b hb')
     exact hr.bk b k xb c hxb hc (by rw [← e]; exact hb)⟩
   ·have := List.all_eq_true.1 h2 i hi
    simp only [Bool.and_eq_true, List.contains_iff_mem, Bool.not_eq_true'] at this
    obtain ⟨c, hc⟩ := Option.isSome_iff_exists.1 this.2.2
    exact ⟨hB i this.1, fun b hb' => by
     obtain ⟨xb, hxb⟩ := Option.isSome_iff_exists.1 (List.all_eq_true.1 h3 b hb')
     exact hr.bb i b c xb hc hxb (fun e => by
      have h7 := this.2.1
      rw [e] at h7
      have h8 : bs.contains b = true := List.contains_iff_mem.2 hb'
      rw [h7] at h8; cases h8)⟩
  have hz2 : z ∉ bs.map L.bb := fun hm => by
   obtain ⟨b, hb, e⟩ := List.mem_map.1 hm
   exact hz.2 b hb e.symm
  rw [hs'.2 z hz.1 hz2, hs.2 z hz.1 hz2]
 refine a6a i (v := r) hi ht (fun _ _ _ h => h) hs (.inl ⟨by simp [Region.wanted, hg], hy⟩) ?_
 rw [hd]
 exact h.run wb L _ w (hr.put (by simpa [Nat.blt_eq] using hn) q3 (a1Q hk).1 (a1Q hk).2) hs hw hB hK⟩
theorem a2F {σ : St} (i : Nat) (is : List Nat) (hr : (Region.ready .any all listed == i :: is) = true) (h : b3V P C nt Q all oB oK bs hd' listed fuel σ (i :: is)) : OpsL P C nt Q all oB oK bs hd' listed (fuel + 1) σ := ⟨fun wb L a w hrel hs hw hB hK => by
 have hr' : Region.ready .any all listed = i :: is := by simpa using hr
 refine ⟨fun h0 => (by rw [hr'] at h0; cases h0), fun j hj => ?_⟩
 rw [hr'] at hj
 exact (b8D h j hj).run wb L a w hrel hs hw hB hK⟩
theorem b6u {L L' : Lyt} (h : ∀ b ∈ bs, L'.bb b = L.bb b) : bs.map L'.bb = bs.map L.bb := List.map_congr_left h
theorem c4X (b i : Nat) {R : St → Prop} (hbs : bs.contains b = true) (hi : all[i]? = some o) (hg : o.guard = none) (hp : EfB P C nt o ⟨tm, bx, ks⟩ b R) (hk : (oK.all fun k => (lkk ⟨tm, bx, ks⟩ k).isSome) = true)
  (h : ∀ σ', R σ' → OpsL P C nt Q all oB oK bs hd' (listed.setIfInBounds i true) fuel σ') : OpsLJ P C nt Q all oB oK bs hd' listed fuel i ⟨tm, bx, ks⟩ := ⟨fun wb L a w hr hs hw hB hK => by
 unfold wpOp
 simp only [hi]
 have hw' : Region.wanted o (yielded all a.tmps) = true := by simp [Region.wanted, hg]
 rw [if_pos hw']
 refine .inl (hp.run L a w hr _ _ fun L' σ' a' w' h1 h2 h3 h4 h5 => ?_)
 have hs' : SWL (bs.map L.bb) wb w' := hs.chg h3 (fun x hx => by
  rw [List.mem_singleton] at hx; subst hx
  exact List.mem_map_of_mem (List.contains_iff_mem.1 hbs))
 refine ⟨fun _ => hs', ?_⟩
 have em : bs.map L'.bb = bs.map L.bb := b6u fun b _ => h5 b
 have := (h σ' h1).run wb L' a' w' h2 (by rw [em]; exact hs') hw (fun j hj => by rw [h5]; exact hB j hj) (fun k hk' b hb' => by
  obtain ⟨c, hc⟩ := Option.isSome_iff_exists.1 (List.all_eq_true.1 hk k hk')
  rw [h4 k c hc] at hb'; exact hK k hk' b hb')
 rwa [em] at this⟩
theorem b1z (i : Nat) {R : St → Prop} (hi : all[i]? = some o) (hg : o.guard = none) (hp : EfG P C nt o ⟨tm, bx, ks⟩ R) (hb : (oB.all fun i => (look bx i).isSome) = true) (hk : (oK.all fun k => (lkk ⟨tm, bx, ks⟩ k).isSome) = true) (hbb : (bs.all fun b => (look bx b).isSome) = true)
  (h : ∀ σ', R σ' → OpsL P C nt Q all oB oK bs hd' (listed.setIfInBounds i true) fuel σ') : OpsLJ P C nt Q all oB oK bs hd' listed fuel i ⟨tm, bx, ks⟩ := ⟨fun wb L a w hr hs hw hB hK => by
 unfold wpOp
 simp only [hi]
 have hw' : Region.wanted o (yielded all a.tmps) = true := by simp [Region.wanted, hg]
 rw [if_pos hw']
 refine .inl (hp.run L a w hr _ _ fun L' σ' a' w' h1 h2 h3 => ?_)
 have em : bs.map L'.bb = bs.map L.bb := b6u fun b hb' => by
  obtain ⟨xb, hxb⟩ := Option.isSome_iff_exists.1 (List.all_eq_true.1 hbb b hb')
  exact h3.box b xb hxb
 have hs' : SWL (bs.map L.bb) wb w' := hs.chg h3.chg (by simp)
 refine ⟨fun _ => hs', ?_⟩
 have := (h σ' h1).run wb L' a' w' h2 (by rw [em]; exact hs') hw (fun j hj => ?_) (fun k hk' b' hb' => ?_)
 ·rwa [em] at this
 ·obtain ⟨x, hx⟩ := Option.isSome_iff_exists.1 (List.all_eq_true.1 hb j hj)
  rw [h3.box j x hx]; exact hB j hj
 ·obtain ⟨c, hc⟩ := Option.isSome_iff_exists.1 (List.all_eq_true.1 hk k hk')
  rw [h3.key k c hc] at hb'; exact hK k hk' b' hb'⟩
theorem b8l (hd : o.dst = some d) (hn : Nat.blt d nt = true) (hp : Pu P C nt o ⟨tm, bx, ks⟩ v Ks Bs) (hk : a1o ⟨tm, bx, ks⟩ v = true) : EfG P C nt o ⟨tm, bx, ks⟩ (fun σ' => σ' = ⟨(d, v) :: tm, bx, ks⟩) := EfG.mk fun L a w hr K Q' hK => by
 obtain ⟨r, h1, h2⟩ := hp.run L a w hr
 unfold Oper.wp
 rw [h2 w (fun _ _ _ => rfl)]
 simp only [Oper.upon]
 rw [hd]
 exact hK L _ _ _ rfl (hr.put (by simpa [Nat.blt_eq] using hn) h1 (a1Q hk).1 (a1Q hk).2) ⟨Chg.refl [] w, fun _ _ _ => rfl, fun _ _ _ => rfl⟩
theorem c1h (i : Nat) (hi : all[i]? = some o) (hg : o.guard = none) (hd : o.dst = some d) (hp : Pu P C nt o ⟨tm, bx, ks⟩ v Ks Bs) (hn : Nat.blt d nt = true) (hk : a1o ⟨tm, bx, ks⟩ v = true) (hb : (oB.all fun i => (look bx i).isSome) = true) (hk' : (oK.all fun k => (lkk ⟨tm, bx, ks⟩ k).isSome) = true) (hbb : (bs.all fun b => (look bx b).isSome) = true)
  (h : OpsL P C nt Q all oB oK bs hd' (listed.setIfInBounds i true) fuel ⟨(d, v) :: tm, bx, ks⟩) : OpsLJ P C nt Q all oB oK bs hd' listed fuel i ⟨tm, bx, ks⟩ :=
 b1z i hi hg (b8l hd hn hp hk) hb hk' hbb fun σ' e => by rw [e]; exact h
theorem b7j (b i : Nat) {t j t' sz by_ : Nat} {zc cs : List CV} {p : Bool × List CV} (hbs : bs.contains b = true) (hi : all[i]? = some o) (hg : o.guard = none) (hT : TTOk P T) (ho : o.op = .store t x y) (hd : o.dst = none) (hte : look T.el t = some (sz, by_, zc)) (hx : Ev P C nt ⟨tm, bx, ks⟩ x (.box b j)) (hy : Ev P C nt ⟨tm, bx, ks⟩ y v) (hp : v.part = some p) (hk : a1o ⟨tm, bx, ks⟩ v = true)
  (hb : look bx b = some (t', cs)) (hl : p.2.length = sz) (hle : Nat.ble (j + sz) cs.length = true) (hkc : (cs.flatMap CV.keys).all (fun k => (lkk ⟨tm, bx, ks⟩ k).isSome) = true)
  (h : OpsL P C nt Q all oB oK bs hd' (listed.setIfInBounds i true) fuel ⟨tm, (b, t', a1e j p.2 cs) :: bx, ks⟩) : OpsLJ P C nt Q all oB oK bs hd' listed fuel i ⟨tm, bx, ks⟩ := ⟨fun wb L a w hr hs hw hB hK => by
 unfold wpOp
 simp only [hi]
 have hw' : Region.wanted o (yielded all a.tmps) = true := by simp [Region.wanted, hg]
 rw [if_pos hw']
 obtain ⟨us, h1, h2, h3⟩ := a4O hr hp hk (hy.run L a w hr)
 have h4 := hx.run L a w hr
 simp only [SVr] at h4
 obtain ⟨vs, h5, h6⟩ := hr.bx b t' cs hb
 obtain ⟨inf, z, g1, g2, _⟩ := hT.el t sz by_ zc hte
 have hrun := a7j (z := z) g1 g2 h1 (by rw [a2I h2]; exact hl) h3 h5 (off := j) (by rw [a2I h6]; simpa [Nat.ble_eq] using hle)
 refine .inl ?_
 unfold Oper.wp execOp
 simp only [ho, h4, Sem.run_bind, hrun, Result.andThen_ok, Sem.run_pure, Oper.upon, hd, Act.put]
 have hs' := hs.chg (a6i w (L.bb b) (a1e j us vs).toArray) (fun x hx => by
  rw [List.mem_singleton] at hx; subst hx
  exact List.mem_map_of_mem (List.contains_iff_mem.1 hbs))
 refine ⟨fun _ => hs', h.run wb L _ _ (hr.setbox hb (a6i _ _ _) (setRow_heap _ _ _ _ _ _ h5) (a9x j h6 h2) ?_) hs' hw hB hK⟩
 intro k hm
 simp only [a1e, List.flatMap_append, List.mem_append, or_assoc] at hm
 simp only [List.all_eq_true] at hkc
 rcases hm with hm | hm | hm
 ·exact hkc k (by
   obtain ⟨c, hc, hk'⟩ := List.mem_flatMap.1 hm
   exact List.mem_flatMap.2 ⟨c, List.mem_of_mem_take hc, hk'⟩)
 ·rw [a5c hp] at hm; exact (a1Q hk).1 k hm
 ·exact hkc k (by
   obtain ⟨c, hc, hk'⟩ := List.mem_flatMap.1 hm
   exact List.mem_flatMap.2 ⟨c, List.mem_of_mem_drop hc, hk'⟩)⟩
theorem a6W (is : List Nat) (hm : (is.all fun i => (all[i]?).isSome) = true) (hf : Nat.ble is.length fuel = true) (hc : a6z .any all hd' is listed = true) (h : Ops P C nt Q all (is.filterMap fun i => all[i]?) ⟨tm, bx, ks⟩) : OpsL P C nt Q all oB oK bs hd' listed fuel ⟨tm, bx, ks⟩ := ⟨fun wb L a w hr _ _ _ _ =>
 a8e is _ listed fuel a w (a7T hm) (by simpa [Nat.ble_eq] using hf) hc (h.run L a w hr)⟩
theorem a8x (m i : Nat) {f : FuncId} {xs : List Operand} {ats : Array TypeId} {us : List SV} {kk : List (Nat × Option KC)} (hi : all[i]? = some o) (hg : o.guard = none) (hd : o.dst = some d) (ho : o.op = .call { callee := .value (.func f), args := xs.toArray, argTypes := ats })
  (hc : ∀ (args : Array Value) (w : World), (callFunc f args).run P w = .ok (.enter f args) w) (hf : KFn P f us v kk) (ha : a2j P C nt ⟨tm, bx, ks⟩ xs us) (hn : Nat.blt d nt = true) (hres : v.retOk = true) (hfree : (kk.all fun q => (lkk ⟨tm, bx, ks⟩ (m + q.1)).isNone) = true)
  (hb : (oB.all fun i => (look bx i).isSome) = true) (hk : (oK.all fun k => (lkk ⟨tm, bx, ks⟩ k).isSome) = true) (hbb : (bs.all fun b => (look bx b).isSome) = true)
  (h : OpsL P C nt Q all oB oK bs hd' (listed.setIfInBounds i true) fuel ⟨(d, v.sh m) :: tm, bx, shK m kk ++ ks⟩) : OpsLJ P C nt Q all oB oK bs hd' listed fuel i ⟨tm, bx, ks⟩ :=
 b1z i hi hg (a7z (ι := Unit) (v := fun _ => v) (kk := fun _ => kk) (p := fun _ => True) m ho hd hn hc hf.ok ha (fun u σ' h => ⟨(), h.1, h.2, trivial⟩) (fun _ => hres) (fun _ => hfree)) hb hk hbb fun σ' ⟨_, _, e⟩ => by rw [e]; exact h
theorem a4x (m i : Nat) {f : FuncId} {xs : List Operand} {ats : Array TypeId} {us : List SV} {ι : Type} {p : ι → Prop} {v : ι → SV} {kk : ι → List (Nat × Option KC)} {qs : ι → List CV} {t : TypeId} {dd : DV} {ps : List CV} {c0 : CV} (hbs : bs.contains b = true) (hi : all[i]? = some o)
  (hg : o.guard = none) (hd : o.dst = some d) (ho : o.op = .call { callee := .value (.func f), args := (x :: xs).toArray, argTypes := ats }) (hc : ∀ (args : Array Value) (w : World), (callFunc f args).run P w = .ok (.enter f args) w) (hf : BFn P f us t dd ps p v kk qs)
  (hx : Ev P C nt ⟨tm, bx, ks⟩ x (.box b 0)) (hb : look bx b = some (t, c0 :: ps)) (h0 : a1T ⟨tm, bx, ks⟩ c0 (.dv [] dd)) (hps : ps.all CV.plain = true) (hqs : ∀ i, (qs i).all CV.plain = true) (ha : a6t P C nt ⟨tm, bx, ks⟩ xs us) (hn : Nat.blt d nt = true) (hres : ∀ i, (v i).retOk = true) (hfree : ∀ i, ((kk i).all fun q => (lkk ⟨tm, bx, ks⟩ (m + q.1)).isNone) = true) (hk : (oK.all fun k => (lkk ⟨tm, bx, ks⟩ k).isSome) = true)
  (h : ∀ z, p z → OpsL P C nt Q all oB oK bs hd' (listed.setIfInBounds i true) fuel ⟨(d, (v z).sh m) :: tm, (b, t, c0 :: qs z) :: bx, shK m (kk z) ++ ks⟩) : OpsLJ P C nt Q all oB oK bs hd' listed fuel i ⟨tm, bx, ks⟩ :=
 c4X b i hbs hi hg (efB m ho hd hn hc hf hx hb h0 hps hqs ha hres hfree) hk fun σ' ⟨z, hz, e⟩ => by rw [e]; exact h z hz
theorem b4M (i : Nat) (hT : TTOk P T) {t e sz by_ d k n : Nat} {zc cs : List CV} {ds : List DV} {js : List Nat} {ps : List (Nat × Operand)} (hi : all[i]? = some o) (hg : o.guard = none) (hd : o.dst = some d) (ho : o.op = .buildSlice t n ps.toArray) (hn : Nat.blt d nt = true) (ht : look T.sl t = some e) (he : look T.el e = some (sz, by_, zc)) (hl0 : zc.length = sz) (hsz : Nat.blt 0 sz = true) (hsm : Nat.ble (n * sz) 16777216 = true) (hps : ps.length = n) (hn0 : Nat.blt 0 n = true)
  (hx : a5l P C nt ⟨tm, bx, ks⟩ sz 0 ps cs) (how : a3A ⟨tm, bx, ks⟩ cs ds js) (hnj : js.Nodup) (hkj : k ∉ js) (hcl : cs.length = n * sz) (hk : lkk ⟨tm, bx, ks⟩ k = none)
  (hb : (oB.all fun i => (look bx i).isSome) = true) (hk' : (oK.all fun k => (lkk ⟨tm, bx, ks⟩ k).isSome) = true) (hbb : (bs.all fun b => (look bx b).isSome) = true)
  (h : OpsL P C nt Q all oB oK bs hd' (listed.setIfInBounds i true) fuel ⟨(d, .one (.key k)) :: a0l (k :: js) (k :: js) tm, a0i (k :: js) (k :: js) bx, (k, some ⟨false, e, sz, n, ds⟩) :: ((js.map fun j => (j, none)) ++ (k, some ⟨false, e, sz, 0, []⟩) :: ks)⟩) : OpsLJ P C nt Q all oB oK bs hd' listed fuel i ⟨tm, bx, ks⟩ :=
 b1z i hi hg (b1m hT ho hd hn ht he hl0 hsz hsm hps hn0 hx how hnj hkj hcl hk) hb hk' hbb fun σ' e => by rw [e]; exact h
theorem a4q (i : Nat) (hi : all[i]? = some o) (ht : a8m .any all hd' listed i = true) (hx : a7B o = true) (hg : o.guard = none) (hd : o.dst = some d) (hp : Pu P C nt o ⟨tm, bx, ks⟩ v Ks Bs) (hn : Nat.blt d nt = true) (hk : a1o ⟨tm, bx, ks⟩ v = true)
  (h : OpsL P C nt Q all oB oK bs hd' (listed.setIfInBounds i true) fuel ⟨(d, v) :: tm, bx, ks⟩) : OpsL P C nt Q all oB oK bs hd' listed (fuel + 1) ⟨tm, bx, ks⟩ := ⟨fun wb L a w hr hs hw hB hK => by
 obtain ⟨r, h3, h4⟩ := hp.run L a w hr
 refine b1L i (v := r) hi ht (fun _ _ _ h => h) (.inl ⟨by simp [Region.wanted, hg], fun w' _ => b1G hx (h4 w fun _ _ _ => rfl) w'⟩) ?_
 rw [hd]
 exact h.run wb L _ w (hr.put (by simpa [Nat.blt_eq] using hn) h3 (a1Q hk).1 (a1Q hk).2) hs hw hB hK⟩
theorem c4v (ht : (Region.ready .any all listed).isEmpty = true) (h : Q .normal ⟨tm, bx, ks⟩) : OpsL P C nt Q all oB oK bs hd' listed fuel ⟨tm, bx, ks⟩ := ⟨fun _ L _ _ hr _ _ _ _ => a9t ht ⟨L, _, hr, h⟩ fuel⟩
end
end
section
variable {P : Program} {C : Ctx} {nt : Nat} {σ : St} {o : Oper} {x y : Operand}
theorem a4h {σ' σ'' : St} (h1 : Weak P C nt σ σ') (h2 : Weak P C nt σ' σ'') : Weak P C nt σ σ'' := Weak.mk fun L a w hr => by
 obtain ⟨L', h⟩ := h1.run L a w hr
 exact h2.run L' a w h
theorem b0A {k e sz : Nat} (hk : lkk σ k = none) (hsz : Nat.blt 0 sz = true) : Weak P C nt σ { σ with ks := (k, some ⟨false, e, sz, 0, []⟩) :: σ.ks } := Weak.mk fun L a w hr => by
 have hpos : 0 < sz := by simpa [Nat.blt_eq] using hsz
 exact ⟨_, hr.newkey (k := k) (c := ⟨false, e, sz, 0, []⟩) (v := .slice none 0 0) (f := []) hk (a7q w e sz hpos) rfl (by simp) (by simp) (by simp) (by simp)⟩
theorem c2Z {p : Option Addr} : Ev P C nt σ (.const (.pointer p)) (.one .any) := Ev.mk fun _ _ _ _ => by simp only [SVr, CVr]; rfl
theorem c3o {m : Int} {p : Nat} (hp : 0 < p) (h : InR .i64 m) : InR .i64 (m / (p : Int)) := by
 simp only [InR, IntKind.min, IntKind.max, IntKind.signed, IntKind.bits] at h ⊢
 obtain ⟨h1, h2⟩ := h
 simp at h1 h2 ⊢
 exact ⟨Int.le_ediv_of_mul_le (by omega) (by omega), Int.ediv_le_of_le_mul (by omega) (by omega)⟩
theorem b5h {t ty : TypeId} {K J : List Nat} {j : IntKind} {m n : Int} (ho : o.op = .binOp .shr t x y ty) (hx : Ev P C nt σ x (.one (.dv K (.int .i64 m)))) (hy : Ev P C nt σ y (.one (.dv J (.int j n)))) (hn : 0 ≤ n) (hn2 : n.toNat ≤ 64) : Pu P C nt o σ (.one (.dv [] (.int .i64 (m / (2 ^ n.toNat : Nat))))) [] [] := Pu.mk fun L a w hr => by
 have h1 := hx.run L a w hr
 have h2 := hy.run L a w hr
 simp only [SVr, CVr, Lay] at h1 h2
 have hp : (0 : Int) < ((2 ^ n.toNat : Nat) : Int) := by have : 0 < 2 ^ n.toNat := Nat.two_pow_pos _; omega
 have e : m.fdiv (2 ^ n.toNat) = m / ((2 ^ n.toNat : Nat) : Int) := by
  have : ((2 ^ n.toNat : Nat) : Int) = (2 : Int) ^ n.toNat := by simp
  rw [← this, Int.fdiv_eq_ediv_of_nonneg _ (by omega)]
 have h3 : InR .i64 (m / ((2 ^ n.toNat : Nat) : Int)) := c3o (Nat.two_pow_pos _) h1.2
 refine ⟨.int .i64 (m / ((2 ^ n.toNat : Nat) : Int)), by simp only [SVr, CVr, Lay]; exact ⟨trivial, h3⟩, fun w' _ => ?_⟩
 unfold execOp
 simp only [ho, h1.1, h2.1, Sem.run_bind]
 have hg : (eqGuard .shr t x y (.int .i64 m) (.int j n)).run P w' = .ok () w' := by unfold eqGuard; rfl
 have hb : (binOp .shr t (.int .i64 m) (.int j n)).run P w' = .ok (.int .i64 (m / ((2 ^ n.toNat : Nat) : Int))) w' := by
  simp only [binOp, Op.shift]
  rw [if_neg (by omega), Nat.min_eq_left (show n.toNat ≤ IntKind.i64.bits from hn2), e]
  rfl
 simp only [hg, Result.andThen_ok, hb, Sem.run_pure]
theorem c6c {t ty : TypeId} {K J : List Nat} {m n : Int} (ho : o.op = .binOp .xor t x y ty) (hx : Ev P C nt σ x (.one (.dv K (.int .i64 m)))) (hy : Ev P C nt σ y (.one (.dv J (.int .i64 n)))) : Pu P C nt o σ (.one (.dv [] (.int .i64 (bits .xor .i64 m n)))) [] [] :=
 a4H ho hx hy fun _ _ => ⟨_, fun ok w => by unfold Lay; exact ⟨rfl, a8f _ _⟩, fun w => by simp [binOp, Op.intBits, bits]⟩
theorem b3b {t ty : TypeId} {K J : List Nat} {m n : Int} (ho : o.op = .binOp .and t x y ty) (hx : Ev P C nt σ x (.one (.dv K (.int .i64 m)))) (hy : Ev P C nt σ y (.one (.dv J (.int .i64 n)))) : Pu P C nt o σ (.one (.dv [] (.int .i64 (bits .and .i64 m n)))) [] [] :=
 a4H ho hx hy fun _ _ => ⟨_, fun ok w => by unfold Lay; exact ⟨rfl, a8f _ _⟩, fun w => by simp [binOp, Op.intBits, bits]⟩
theorem b4b (m : Int) : 0 ≤ bits .and .i64 m 255 ∧ bits .and .i64 m 255 ≤ 255 := by
 have h : (BitVec.ofInt 64 m &&& BitVec.ofInt 64 255).toNat ≤ 255 := by
  rw [BitVec.toNat_and]
  exact Nat.le_trans Nat.and_le_right (by decide)
 show 0 ≤ IntKind.i64.wrap ((BitVec.ofInt 64 m &&& BitVec.ofInt 64 255).toNat : Int) ∧ IntKind.i64.wrap ((BitVec.ofInt 64 m &&& BitVec.ofInt 64 255).toNat : Int) ≤ 255
 rw [IntKind.wrap_i64]
 omega
end
end Go.Proofs.YtjkpoekgnmgofaaGreat

namespace Go.Proofs.YtjkpoekgnmgofaaGreat
open Go.RowKit
set_option linter.unusedVariables false
set_option linter.unusedSimpArgs false
section
variable {P : Program} {C : Ctx} {nt : Nat} {Q : Exit → St → Prop} {all : Array Oper} {rest : List Oper} {tm : List (Nat × SV)} {bx : List (Nat × TypeId × List CV)} {ks : List (Nat × Option KC)}
end
section
variable {P : Program} {C : Ctx} {nt : Nat} {σ : St}
theorem b1d {b i k t : Nat} {cs : List CV} {c : KC} (K : List Nat) (hb : look σ.bx b = some (t, cs)) (hi : cs[i]? = some (.key k)) (hk : lkk σ k = some c) (hkK : K.contains k = true) (hl : ((cs.set i (.dv K (.sl c.e c.sz c.n c.cs))).flatMap CV.keys).all (fun j => (lkk σ j).isSome) = true) :
  Weak P C nt σ ⟨σ.tm, (b, t, cs.set i (.dv K (.sl c.e c.sz c.n c.cs))) :: σ.bx, σ.ks⟩ := Weak.mk fun L a w hr => by
 have h1 := a4l (ok := okB C L K) _ _ _ (hr.ks k c hk).1 (fun b hb => .inr ⟨k, List.contains_iff_mem.1 hkK, hb⟩)
 refine ⟨_, hr.alsoB (b := b) hb (fun vs hv => b1H hi (fun v hv => ?_) hv) (fun j hj => List.all_eq_true.1 hl j hj)⟩
 simp only [CVr] at hv ⊢
 rw [hv]; exact h1
end
/-! ### regions that draw their order and append to a nested cell of a key -/
section
variable {P : Program} {C : Ctx} {nt : Nat} {σ : St} {L : Lyt} {a : Act} {w : World} {o : Oper} {x y : Operand} {T : TT}
theorem Rel.splitX (h : Rel P C nt L σ a w) {k k' off e sz n : Nat} {c : KC} {cs : List DV} (hk : lkk σ k = some c) (hd : c.cs[off]? = some (.sl e sz n cs)) (hk' : lkk σ k' = none) :
  ∃ L' v g m cap, L.rv k = .slice (some ⟨g, 0, none⟩) m cap ∧ w.cell? ⟨g, off, none⟩ = some v ∧ L'.rv k = L.rv k ∧ L'.rv k' = v ∧ g ∈ L'.fp k ∧
   (L'.bb = L.bb ∧ (∀ i, i ≠ k → i ≠ k' → L'.fp i = L.fp i) ∧ (∀ b ∈ L'.fp k, b ∈ L.fp k) ∧ (∀ b ∈ L'.fp k', b ∈ L.fp k)) ∧ Rel P C nt L' ⟨(σ.mut k [] true { c with cs := c.cs.set off .hole }).tm, (σ.mut k [] true { c with cs := c.cs.set off .hole }).bx, (k', some ⟨false, e, sz, n, cs⟩) :: (k, some { c with cs := c.cs.set off .hole }) :: σ.ks⟩ a w := by
 have hlt : off < c.cs.length := (List.getElem?_eq_some_iff.1 hd).1
 have hown := (h.ks k c hk).1
 obtain ⟨g, cap, vs, f, k1, k2, k3, k4⟩ := b0K hown hlt
 obtain ⟨v, fa, fd, fb, m1, m2, m3, m4⟩ := b0N k3 hd
 have hkk : k ≠ k' := fun e' => by rw [← e', hk] at hk'; cases hk'
 have hgm : g ∈ L.fp k := by rw [k2]; simp
 have hnd := h.kn k c hk
 rw [k2, m2] at hnd
 simp only [List.nodup_cons, List.mem_append, not_or] at hnd
 obtain ⟨nd1, nd2⟩ := hnd
 rw [List.nodup_append] at nd2
 obtain ⟨nd2, nd3, nd4⟩ := nd2
 rw [List.nodup_append] at nd3
 obtain ⟨nd3, nd5, nd6⟩ := nd3
 have hown1 : Own w (.sl c.e c.sz c.n (c.cs.set off .hole)) (L.rv k) (g :: (fa ++ fb)) := by
  unfold Own at hown ⊢
  obtain ⟨vs2, f2, p1, p2, p3, p4, p5⟩ := hown
  have hvs : vs2 = vs := by
   rcases (a5C p4).2 with ⟨q1, q2⟩ | ⟨g2, cap2, cur, t2, fz2, q1, q3, q4, q5, q6, q7⟩
   ·rw [k1] at q1; cases q1
   ·rw [k1] at q1
    simp only [Value.slice.injEq, Option.some.injEq, Addr.mk.injEq, and_true, true_and] at q1
    obtain ⟨rfl, rfl⟩ := q1
    apply List.ext_getElem (by rw [a2s _ _ _ p5, a2s _ _ _ k3])
    intro i i1 i2
    have r1 := k4 i _ (List.getElem?_eq_getElem i2)
    rw [cell_of_row _ g i cur t2 fz2 q3] at r1
    have r3 : i < c.n * c.sz := by rw [← p3, ← a2s _ _ _ p5]; exact i1
    have r2 : vs2[i]? = cur[i]? := by rw [← q7, List.getElem?_take, if_pos r3, Array.getElem?_toList]
    rw [List.getElem?_eq_getElem i1] at r2
    rw [← r2] at r1
    exact Option.some.inj r1
  subst hvs
  exact ⟨vs2, fa ++ fb, by rw [k1]; simp [Value.ownBlock], p2, by simpa using p3, p4, m4⟩
 have hrel := h.setkey (k := k) (c := c) (c' := { c with cs := c.cs.set off .hole }) (js := []) (same := true) (v' := L.rv k) (f' := g :: (fa ++ fb)) hk (by simp) (Chg.refl _ _) hown1
  (by
   rw [List.nodup_cons, List.nodup_append]
   refine ⟨fun hm => ?_, nd2, nd5, fun x hx y hy => nd4 x hx y (by simp [hy])⟩
   simp only [List.mem_append] at hm
   rcases hm with hm | hm
   ·exact nd1.1 hm
   ·exact nd1.2.2 hm)
  (fun b hb => .inl (by
   rw [k2, m2]
   simp only [List.mem_cons, List.mem_append] at hb ⊢
   rcases hb with hb | hb | hb
   ·exact .inl hb
   ·exact .inr (.inl hb)
   ·exact .inr (.inr (.inr hb)))) (by simp) (fun _ => rfl) (fun e' => ⟨e', rfl⟩)
 have hfd : ∀ b ∈ fd, b ∈ L.fp k := fun b hb => by rw [k2, m2]; simp [hb]
 have hnew := hrel.newkey (k := k') (c := ⟨false, e, sz, n, cs⟩) (v := v) (f := fd)
  (by
   simp only [lkk, St.mut, List.map_nil, List.nil_append, List.cons_append, a0Z]
   rw [if_neg (fun e' => hkk e'.symm)]
   exact hk') m3 rfl nd3 (fun b hb => h.k1 k c hk b (hfd b hb))
  (fun b hb i x hx e' => by
   have hx' : ∃ y, look σ.bx i = some y := by
    have := a9o (fun q : TypeId × List CV => (q.1, q.2.map (CV.kill [k] []))) σ.bx i
    change look (a0i [k] [] σ.bx) i = _ at this
    change look (a0i [k] [] σ.bx) i = some x at hx
    rw [this] at hx
    cases hy : look σ.bx i with
    | none => rw [hy] at hx; cases hx
    | some q => exact ⟨q, rfl⟩
   obtain ⟨y, hy⟩ := hx'
   exact h.bk i k y c hy hk (by rw [show L.bb i = b from e']; exact hfd b hb))
  (fun b hb j d' hj => by
   simp only [lkk, St.mut, List.map_nil, List.nil_append, List.cons_append, a0Z] at hj
   by_cases hjk : j = k
   ·subst hjk
    simp only [if_true]
    intro hm
    simp only [List.mem_cons, List.mem_append] at hm
    rcases hm with hm | hm | hm
    ·exact nd1.2.1 (hm ▸ hb)
    ·exact nd4 b hm b (by simp [hb]) rfl
    ·exact nd6 b hb b hm rfl
   ·rw [if_neg hjk] at hj
    simp only [if_neg hjk]
    exact fun hm => h.kk j k d' c hj hk hjk b hm (hfd b hb))
 refine ⟨_, v, g, c.n, cap, k1, k4 off v m1, ?_, ?_, ?_, ?_, hnew⟩
 ·simp [hkk]
 ·simp
 ·simp [hkk]
 refine ⟨rfl, fun i h1 h2 => ?_, fun b hb => ?_, fun b hb => ?_⟩
 ·simp [h1, h2]
 ·simp only [if_neg hkk, if_true] at hb
  rw [k2, m2]
  simp only [List.mem_cons, List.mem_append] at hb ⊢
  rcases hb with hb | hb | hb
  ·exact .inl hb
  ·exact .inr (.inl hb)
  ·exact .inr (.inr (.inr hb))
 ·simp only [if_true] at hb
  exact hfd b hb

theorem c4c (hT : TTOk P T) {t e sz by_ d k j : Nat} {zc : List CV} {c c2 : KC} (ho : o.op = .call { callee := .builtin .append, args := #[x, y], argTypes := #[t, t] }) (hd : o.dst = some d) (hnt : Nat.blt d nt = true) (ht : look T.sl t = some e) (he : look T.el e = some (sz, by_, zc)) (hl0 : zc.length = sz)
  (hx : Ev P C nt σ x (.one (.key k))) (hk : lkk σ k = some c) (hce : c.e = e) (hcs : c.sz = sz) (hy : Ev P C nt σ y (.one (.key j))) (hj : lkk σ j = some c2) (hcs2 : c2.sz = sz) (hkj : k ∉ [j]) (hb : (c.n + c2.n) * by_ ≤ 140737488355328) (h63 : c.n + c2.n ≤ 9223372036854775807)
  {L : Lyt} {a : Act} {w : World} {K : Act → World → Prop} {Q : Exit → Act → World → Prop} (hr : Rel P C nt L σ a w) (hK : ∀ L' a' w', Rel P C nt L' ((σ.mut k [j] false ⟨false, e, sz, c.n + c2.n, c.cs ++ c2.cs⟩).put d (.one (.key k))) a' w' → AppF L L' w w' k [j] → K a' w') : o.wp P a w K Q := by
 have h1 := hx.run L a w hr
 have h2 := hy.run L a w hr
 simp only [SVr, CVr] at h1 h2
 have hown := (hr.ks j c2 hj).1
 have hlay := a4l (ok := fun _ => True) _ _ _ hown (fun _ _ => trivial)
 rw [hcs2] at hlay
 simp only [Own] at hown
 obtain ⟨vs, f, e3, h5, h6, h7, h8⟩ := hown
 obtain ⟨A, cap, vs', e1, hrow, hlay'⟩ := b0g hlay
 have hvs : vs' = vs := by
  have h7' := a5C h7
  rcases h7'.2 with ⟨g1, g2⟩ | ⟨g, cap2, cur, t', fz', g1, g2, g3, g4, g5, g6⟩
  ·have l1 : vs.length = 0 := by rw [h7'.1, g2]; simp
   have l2 : vs'.length = 0 := by rw [hrow.1, g2]; simp
   rw [List.eq_nil_of_length_eq_zero l1, List.eq_nil_of_length_eq_zero l2]
  ·rw [e1] at g1
   simp only [Value.slice.injEq, true_and] at g1
   obtain ⟨rfl, rfl⟩ := g1
   rcases Nat.eq_zero_or_pos c2.n with h0 | h0
   ·have l1 : vs.length = 0 := by rw [h7'.1, h0]; simp
    have l2 : vs'.length = 0 := by rw [hrow.1, h0]; simp
    rw [List.eq_nil_of_length_eq_zero l1, List.eq_nil_of_length_eq_zero l2]
   ·obtain ⟨b, off, k1, k2⟩ := hrow.2 h0
    simp only [Option.some.injEq, Addr.mk.injEq, and_true] at k1
    obtain ⟨rfl, rfl⟩ := k1
    apply List.ext_getElem (by rw [hrow.1, h7'.1, hcs2])
    intro i i1 i2
    have q1 := k2 i _ (List.getElem?_eq_getElem i1)
    rw [Nat.zero_add, cell_of_row w _ i cur t' fz' g2] at q1
    have q3 : i < c2.n * c2.sz := by rw [← h7'.1]; exact i2
    have q2 : vs[i]? = cur[i]? := by rw [← g6, List.getElem?_take, if_pos q3, Array.getElem?_toList]
    rw [List.getElem?_eq_getElem i2] at q2
    rw [← q2] at q1
    exact (Option.some.inj q1).symm
 subst hvs
 have hnf : f.Nodup := by
  have := hr.kn j c2 hj
  rw [e3] at this
  exact (List.nodup_append.1 this).2.1
 exact b2R hT ho hd (by simpa [Nat.blt_eq] using hnt) ht he hl0 hr hk hce hcs h1 (by rw [h2]; exact e1) hkj (by simp [hj]) hrow h8 (fun b hb' => ⟨j, by simp, by rw [e3]; simp [hb']⟩) hnf (by simpa [maxLen] using h63) hb hK
end
structure OpsK (P : Program) (C : Ctx) (nt : Nat) (Q : Exit → St → Prop) (all : Array Oper) (oB oK : List Nat) (k0 : Nat) (hd' : Nat → Bool) (listed : Array Bool) (fuel : Nat) (σ : St) : Prop where
 run : ∀ Bs wb L a w, Rel P C nt L σ a w → SWL Bs wb w → C.w0.heap.size ≤ wb.heap.size → (∀ i ∈ oB, L.bb i < wb.heap.size ∧ L.bb i ∉ Bs) → (∀ k ∈ oK, ∀ b ∈ L.fp k, b < wb.heap.size ∧ b ∉ Bs) → (∀ b ∈ L.fp k0, b ∈ Bs) → (∀ b ∈ Bs, a7r C b) → a2f P .any all (QQ P C nt Q) (SWL Bs wb) hd' fuel listed a w
structure OpsKJ (P : Program) (C : Ctx) (nt : Nat) (Q : Exit → St → Prop) (all : Array Oper) (oB oK : List Nat) (k0 : Nat) (hd' : Nat → Bool) (listed : Array Bool) (fuel : Nat) (i : Nat) (σ : St) : Prop where
 run : ∀ Bs wb L a w, Rel P C nt L σ a w → SWL Bs wb w → C.w0.heap.size ≤ wb.heap.size → (∀ i ∈ oB, L.bb i < wb.heap.size ∧ L.bb i ∉ Bs) → (∀ k ∈ oK, ∀ b ∈ L.fp k, b < wb.heap.size ∧ b ∉ Bs) → (∀ b ∈ L.fp k0, b ∈ Bs) → (∀ b ∈ Bs, a7r C b) →
  wpOp P all (QQ P C nt Q) i (fun a' w' => (hd' i = true → SWL Bs wb w') ∧ a2f P .any all (QQ P C nt Q) (SWL Bs wb) hd' fuel (listed.setIfInBounds i true) a' w') a w
def b1T (P : Program) (C : Ctx) (nt : Nat) (Q : Exit → St → Prop) (all : Array Oper) (oB oK : List Nat) (k0 : Nat) (hd' : Nat → Bool) (listed : Array Bool) (fuel : Nat) (σ : St) : List Nat → Prop
 | [] => True
 | i :: is => OpsKJ P C nt Q all oB oK k0 hd' listed fuel i σ ∧ b1T P C nt Q all oB oK k0 hd' listed fuel σ is
section
variable {P : Program} {C : Ctx} {nt : Nat} {Q : Exit → St → Prop} {all : Array Oper} {oB oK : List Nat} {k0 : Nat} {listed : Array Bool} {fuel : Nat} {hd' : Nat → Bool} {tm : List (Nat × SV)} {bx : List (Nat × TypeId × List CV)} {ks : List (Nat × Option KC)} {o : Oper} {d : Nat} {v X : SV} {Ks Bs0 : List Nat} {x y : Operand} {T : TT}
theorem b8w {σ : St} : ∀ {is : List Nat}, b1T P C nt Q all oB oK k0 hd' listed fuel σ is → ∀ i ∈ is, OpsKJ P C nt Q all oB oK k0 hd' listed fuel i σ
 | [], _, _, hi => by cases hi
 | j :: is, h, i, hi => by
  rcases List.mem_cons.1 hi with rfl | hi
  ·exact h.1
  ·exact b8w h.2 i hi
theorem c2W (k0 : Nat) (hs : List Nat) {id : Nat} {l : List Oper} (hm : P.follows .mixedOrders = true) (hb : (oB.all fun i => (look bx i).isSome) = true) (hk : (oK.all fun k => (lkk ⟨tm, bx, ks⟩ k).isSome && !(Nat.beq k k0)) = true) (h0 : (lkk ⟨tm, bx, ks⟩ k0).isSome = true)
  (h : OpsK P C nt Q l.toArray oB oK k0 (fun i => hs.contains i) (Array.replicate l.length false) l.length ⟨tm, bx, ks⟩) : Ok P C nt Q (.region id l.toArray true) ⟨tm, bx, ks⟩ := Ok.mk fun L a w hr => by
 have hr' := a7Q hr
 obtain ⟨c0, hc0⟩ := Option.isSome_iff_exists.1 h0
 refine a8j (SWL (L.fp k0) w.drew) (fun i => hs.contains i) hm ?_
 have := h.run (L.fp k0) w.drew L a w.drew hr' (SWL.refl _ _) hr'.chg.size (fun i hi => ?_) (fun k hk' b hb' => ?_) (fun b hb' => hb') (fun b hb' => hr.k1 k0 c0 hc0 b hb')
 ·simpa using this
 ·obtain ⟨x, hx⟩ := Option.isSome_iff_exists.1 (List.all_eq_true.1 hb i hi)
  exact ⟨hr'.bx_lt hx, hr.bk i k0 x c0 hx hc0⟩
 ·have h1 := List.all_eq_true.1 hk k hk'
  simp only [Bool.and_eq_true, Bool.not_eq_true'] at h1
  obtain ⟨c, hc⟩ := Option.isSome_iff_exists.1 h1.1
  have hne : k ≠ k0 := fun e => by rw [e] at h1; simp at h1
  exact ⟨hr'.k_lt hc b hb', hr.kk k k0 c c0 hc hc0 hne b hb'⟩
theorem a3K (i : Nat) (hi : all[i]? = some o) (ht : a4y .any all hd' listed i = true) (hg : o.guard = none) (hd : o.dst = some d) (hp : Pu P C nt o ⟨tm, bx, ks⟩ v Ks Bs0) (h1 : (Ks.all fun k => oK.contains k) = true) (h2 : (Bs0.all fun k => oB.contains k) = true) (hn : Nat.blt d nt = true) (hk : a1o ⟨tm, bx, ks⟩ v = true)
  (h : OpsK P C nt Q all oB oK k0 hd' (listed.setIfInBounds i true) fuel ⟨(d, v) :: tm, bx, ks⟩) : OpsK P C nt Q all oB oK k0 hd' listed (fuel + 1) ⟨tm, bx, ks⟩ := ⟨fun Bs wb L a w hr hs hw hB hK h0 hF => by
 obtain ⟨r, q3, q4⟩ := hp.run L a w hr
 have hy : ∀ w', SWL Bs wb w' → (execOp a.eval o).run P w' = .ok (.value r) w' := fun w' hs' => q4 w' fun z _ hu => by
  have hz : z < wb.heap.size ∧ z ∉ Bs := by
   rcases hu with (⟨h5, h6⟩ | ⟨k, hk, hb⟩) | ⟨i, hi, rfl⟩
   ·refine ⟨by omega, fun hb => ?_⟩
    rcases hF z hb with g | g
    ·omega
    ·exact h6 g
   ·exact hK k (List.contains_iff_mem.1 (List.all_eq_true.1 h1 k hk)) z hb
   ·exact hB i (List.contains_iff_mem.1 (List.all_eq_true.1 h2 i hi))
  rw [hs'.2 z hz.1 hz.2, hs.2 z hz.1 hz.2]
 refine a6a i (v := r) hi ht (fun _ _ _ h => h) hs (.inl ⟨by simp [Region.wanted, hg], hy⟩) ?_
 rw [hd]
 exact h.run Bs wb L _ w (hr.put (by simpa [Nat.blt_eq] using hn) q3 (a1Q hk).1 (a1Q hk).2) hs hw hB hK h0 hF⟩
theorem a5X {σ : St} (i : Nat) (is : List Nat) (hr : (Region.ready .any all listed == i :: is) = true) (h : b1T P C nt Q all oB oK k0 hd' listed fuel σ (i :: is)) : OpsK P C nt Q all oB oK k0 hd' listed (fuel + 1) σ := ⟨fun Bs wb L a w hrel hs hw hB hK h0 hF => by
 have hr' : Region.ready .any all listed = i :: is := by simpa using hr
 refine ⟨fun h0 => (by rw [hr'] at h0; cases h0), fun j hj => ?_⟩
 rw [hr'] at hj
 exact (b8w h j hj).run Bs wb L a w hrel hs hw hB hK h0 hF⟩
theorem b7U (i : Nat) {σ : St} (hi : all[i]? = some o) (hg : o.guard = none) (h : ∀ Bs wb L a w, Rel P C nt L σ a w → SWL Bs wb w → C.w0.heap.size ≤ wb.heap.size → (∀ i ∈ oB, L.bb i < wb.heap.size ∧ L.bb i ∉ Bs) → (∀ k ∈ oK, ∀ b ∈ L.fp k, b < wb.heap.size ∧ b ∉ Bs) → (∀ b ∈ L.fp k0, b ∈ Bs) → (∀ b ∈ Bs, a7r C b) →
   o.wp P a w (fun a' w' => (hd' i = true → SWL Bs wb w') ∧ a2f P .any all (QQ P C nt Q) (SWL Bs wb) hd' fuel (listed.setIfInBounds i true) a' w') (QQ P C nt Q)) : OpsKJ P C nt Q all oB oK k0 hd' listed fuel i σ := ⟨fun Bs wb L a w hr hs hw hB hK h0 hF => by
 unfold wpOp
 simp only [hi]
 have hw' : Region.wanted o (yielded all a.tmps) = true := by simp [Region.wanted, hg]
 rw [if_pos hw']
 exact .inl (h Bs wb L a w hr hs hw hB hK h0 hF)⟩
theorem b2w (i : Nat) {R : St → Prop} (hi : all[i]? = some o) (hg : o.guard = none) (hp : EfG P C nt o ⟨tm, bx, ks⟩ R) (hb : (oB.all fun i => (look bx i).isSome) = true) (hk : (oK.all fun k => (lkk ⟨tm, bx, ks⟩ k).isSome) = true) (hk0 : (lkk ⟨tm, bx, ks⟩ k0).isSome = true)
  (h : ∀ σ', R σ' → OpsK P C nt Q all oB oK k0 hd' (listed.setIfInBounds i true) fuel σ') : OpsKJ P C nt Q all oB oK k0 hd' listed fuel i ⟨tm, bx, ks⟩ :=
 b7U i hi hg fun Bs wb L a w hr hs hw hB hK h0 hF => hp.run L a w hr _ _ fun L' σ' a' w' h1 h2 h3 => by
  have hs' := hs.chg h3.chg (by simp)
  refine ⟨fun _ => hs', (h σ' h1).run Bs wb L' a' w' h2 hs' hw (fun j hj => ?_) (fun k hk' b' hb' => ?_) (fun b' hb' => ?_) hF⟩
  ·obtain ⟨x, hx⟩ := Option.isSome_iff_exists.1 (List.all_eq_true.1 hb j hj)
   rw [h3.box j x hx]; exact hB j hj
  ·obtain ⟨c, hc⟩ := Option.isSome_iff_exists.1 (List.all_eq_true.1 hk k hk')
   rw [h3.key k c hc] at hb'; exact hK k hk' b' hb'
  ·obtain ⟨c, hc⟩ := Option.isSome_iff_exists.1 hk0
   rw [h3.key k0 c hc] at hb'; exact h0 b' hb'
theorem b1D (i : Nat) (hi : all[i]? = some o) (hg : o.guard = none) (hd : o.dst = some d) (hp : Pu P C nt o ⟨tm, bx, ks⟩ v Ks Bs0) (hn : Nat.blt d nt = true) (hk : a1o ⟨tm, bx, ks⟩ v = true) (hb : (oB.all fun i => (look bx i).isSome) = true) (hk' : (oK.all fun k => (lkk ⟨tm, bx, ks⟩ k).isSome) = true) (hk0 : (lkk ⟨tm, bx, ks⟩ k0).isSome = true)
  (h : OpsK P C nt Q all oB oK k0 hd' (listed.setIfInBounds i true) fuel ⟨(d, v) :: tm, bx, ks⟩) : OpsKJ P C nt Q all oB oK k0 hd' listed fuel i ⟨tm, bx, ks⟩ :=
 b2w i hi hg (b8l hd hn hp hk) hb hk' hk0 fun σ' e => by rw [e]; exact h
theorem b4t (m i : Nat) {f : FuncId} {xs : List Operand} {ats : Array TypeId} {us : List SV} {kk : List (Nat × Option KC)} (hi : all[i]? = some o) (hg : o.guard = none) (hd : o.dst = some d) (ho : o.op = .call { callee := .value (.func f), args := xs.toArray, argTypes := ats })
  (hc : ∀ (args : Array Value) (w : World), (callFunc f args).run P w = .ok (.enter f args) w) (hf : KFn P f us v kk) (ha : a2j P C nt ⟨tm, bx, ks⟩ xs us) (hn : Nat.blt d nt = true) (hres : v.retOk = true) (hfree : (kk.all fun q => (lkk ⟨tm, bx, ks⟩ (m + q.1)).isNone) = true)
  (hb : (oB.all fun i => (look bx i).isSome) = true) (hk : (oK.all fun k => (lkk ⟨tm, bx, ks⟩ k).isSome) = true) (hk0 : (lkk ⟨tm, bx, ks⟩ k0).isSome = true)
  (h : OpsK P C nt Q all oB oK k0 hd' (listed.setIfInBounds i true) fuel ⟨(d, v.sh m) :: tm, bx, shK m kk ++ ks⟩) : OpsKJ P C nt Q all oB oK k0 hd' listed fuel i ⟨tm, bx, ks⟩ :=
 b2w i hi hg (a7z (ι := Unit) (v := fun _ => v) (kk := fun _ => kk) (p := fun _ => True) m ho hd hn hc hf.ok ha (fun u σ' h => ⟨(), h.1, h.2, trivial⟩) (fun _ => hres) (fun _ => hfree)) hb hk hk0 fun σ' ⟨_, _, e⟩ => by rw [e]; exact h
theorem b1X (i : Nat) (hT : TTOk P T) {t e sz by_ d k n : Nat} {zc cs : List CV} {ds : List DV} {js : List Nat} {ps : List (Nat × Operand)} (hi : all[i]? = some o) (hg : o.guard = none) (hd : o.dst = some d) (ho : o.op = .buildSlice t n ps.toArray) (hn : Nat.blt d nt = true) (ht : look T.sl t = some e) (he : look T.el e = some (sz, by_, zc)) (hl0 : zc.length = sz) (hsz : Nat.blt 0 sz = true) (hsm : Nat.ble (n * sz) 16777216 = true) (hps : ps.length = n) (hn0 : Nat.blt 0 n = true)
  (hx : a5l P C nt ⟨tm, bx, ks⟩ sz 0 ps cs) (how : a3A ⟨tm, bx, ks⟩ cs ds js) (hnj : js.Nodup) (hkj : k ∉ js) (hcl : cs.length = n * sz) (hk : lkk ⟨tm, bx, ks⟩ k = none)
  (hb : (oB.all fun i => (look bx i).isSome) = true) (hk' : (oK.all fun k => (lkk ⟨tm, bx, ks⟩ k).isSome) = true) (hk0 : (lkk ⟨tm, bx, ks⟩ k0).isSome = true)
  (h : OpsK P C nt Q all oB oK k0 hd' (listed.setIfInBounds i true) fuel ⟨(d, .one (.key k)) :: a0l (k :: js) (k :: js) tm, a0i (k :: js) (k :: js) bx, (k, some ⟨false, e, sz, n, ds⟩) :: ((js.map fun j => (j, none)) ++ (k, some ⟨false, e, sz, 0, []⟩) :: ks)⟩) : OpsKJ P C nt Q all oB oK k0 hd' listed fuel i ⟨tm, bx, ks⟩ :=
 b2w i hi hg (b1m hT ho hd hn ht he hl0 hsz hsm hps hn0 hx how hnj hkj hcl hk) hb hk' hk0 fun σ' e => by rw [e]; exact h
theorem b3R (k' i : Nat) (hT : TTOk P T) {t tt e sz by_ d j off n n2 : Nat} {zc : List CV} {c c2 : KC} {cs ccs cs2 : List DV} (hi : all[i]? = some o) (hg : o.guard = none) (hd : o.dst = some d) (ho : o.op = .call { callee := .builtin .append, args := #[.tmp t, y], argTypes := #[tt, tt] }) (hnt : Nat.blt d nt = true) (ht : look T.sl tt = some e) (he : look T.el e = some (sz, by_, zc)) (hl0 : zc.length = sz)
  (hx : look tm t = some (.one (.nest k0 off (.sl e sz n cs)))) (hk : lkk ⟨tm, bx, ks⟩ k0 = some c) (hcs : c.cs[off]? = some (.sl e sz n cs)) (hk' : lkk ⟨tm, bx, ks⟩ k' = none) (hcc : c.cs.set off .hole = ccs)
  (hy : Ev P C nt (St.outs ⟨tm, bx, ks⟩ t k0 k' off e sz n c cs) y (.one (.key j))) (hj : lkk ⟨tm, bx, ks⟩ j = some c2) (hcs2 : c2.sz = sz) (hj0 : Nat.beq j k0 = false) (hb : (n + c2.n) * by_ ≤ 140737488355328) (h63 : n + c2.n ≤ 9223372036854775807) (hn2 : n + c2.n = n2) (hcs3 : cs ++ c2.cs = cs2)
  (hbb : (oB.all fun i => (look bx i).isSome) = true) (hkk : (oK.all fun k => (lkk ⟨tm, bx, ks⟩ k).isSome && (!(Nat.beq k k0) && !(Nat.beq k j))) = true)
  (h : OpsK P C nt Q all oB oK k0 hd' (listed.setIfInBounds i true) fuel ⟨(d, .one (.key k')) :: a0l [k', j] [k', j] ((t, .one (.key k')) :: a0l [k0] [] tm), a0i [k', j] [k', j] (a0i [k0] [] bx), (k', some ⟨false, e, sz, n2, cs2⟩) :: (j, none) :: (k', some ⟨false, e, sz, n, cs⟩) :: (k0, some { c with cs := ccs }) :: ks⟩) : OpsKJ P C nt Q all oB oK k0 hd' listed fuel i ⟨tm, bx, ks⟩ := by
 subst hcc; subst hn2; subst hcs3
 refine b7U i hi hg fun Bs wb L a w hr hs hw hB hK h0 hF => ?_
 have h1 := hr.tm t _ hx
 simp only [SVr, CVr] at h1
 obtain ⟨_, g, m, cap, e1, e2, e3⟩ := h1
 obtain ⟨L', v, g', m', cap', q1, q2, q3, q4, q5, ⟨s1, s2, s3, s4⟩, q6⟩ := hr.splitX hk hcs hk'
 rw [e1] at q1
 simp only [Value.slice.injEq, Option.some.injEq, Addr.mk.injEq, and_true, true_and] at q1
 obtain ⟨rfl, rfl, rfl⟩ := q1
 rw [e3] at q2
 have hv := Option.some.inj q2
 have hne : j ≠ k0 := fun e => by rw [e] at hj0; simp at hj0
 have hjk' : j ≠ k' := fun e => by rw [e, hk'] at hj; cases hj
 have hk0' : k0 ≠ k' := fun e => by rw [← e, hk] at hk'; cases hk'
 have hr1 : Rel P C nt L' (St.outs ⟨tm, bx, ks⟩ t k0 k' off e sz n c cs) a w := q6.also (d := t) (v := .one (.key k')) (by simp only [SVr, CVr]; rw [q4]; exact hv) (by simp [SV.keys, CV.keys, lkk, a0Z]) (by simp [SV.boxes])
 have hlk' : lkk (St.outs ⟨tm, bx, ks⟩ t k0 k' off e sz n c cs) k' = some ⟨false, e, sz, n, cs⟩ := by simp [lkk, a0Z]
 have hlj : lkk (St.outs ⟨tm, bx, ks⟩ t k0 k' off e sz n c cs) j = some c2 := by
  have : lkk ⟨tm, bx, ks⟩ j = some c2 := hj
  simp only [lkk, a0Z, if_neg hjk', if_neg hne] at this ⊢
  exact this
 refine c4c hT ho hd hnt ht he hl0 (a0a (by simp [a0Z])) hlk' rfl rfl hy hlj hcs2 (by simpa using hjk'.symm) hb h63 hr1 (fun L2 a' w' hr2 hf => ?_)
 have hsub : ∀ b ∈ L'.fp k', b ∈ Bs := fun b hb' => h0 b (s4 b hb')
 have hs' := hs.chg hf.chg hsub
 refine ⟨fun _ => hs', h.run Bs wb L2 a' w' hr2 hs' hw (fun z hz => ?_) (fun z hz b hb' => ?_) (fun b hb' => ?_) hF⟩
 ·rw [hf.bb, s1]; exact hB z hz
 ·have h5 := List.all_eq_true.1 hkk z hz
  simp only [Bool.and_eq_true, Bool.not_eq_true'] at h5
  have z1 : z ≠ k0 := fun e => by rw [e] at h5; simp at h5
  obtain ⟨c5, hc5⟩ := Option.isSome_iff_exists.1 h5.1
  have z2 : z ≠ k' := fun e => by rw [e, hk'] at hc5; cases hc5
  rw [hf.fp z z2, s2 z z1 z2] at hb'
  exact hK z hz b hb'
 ·rw [hf.fp k0 hk0'] at hb'
  exact h0 b (s3 b hb')
theorem b2y (is : List Nat) (hm : (is.all fun i => (all[i]?).isSome) = true) (hf : Nat.ble is.length fuel = true) (hc : a6z .any all hd' is listed = true) (h : Ops P C nt Q all (is.filterMap fun i => all[i]?) ⟨tm, bx, ks⟩) : OpsK P C nt Q all oB oK k0 hd' listed fuel ⟨tm, bx, ks⟩ := ⟨fun _ wb L a w hr _ _ _ _ _ _ =>
 a8e is _ listed fuel a w (a7T hm) (by simpa [Nat.ble_eq] using hf) hc (h.run L a w hr)⟩
end
end Go.Proofs.YtjkpoekgnmgofaaGreat

namespace Go.Proofs.YtjkpoekgnmgofaaGreat
open Go.RowKit
open Go.Proofs
set_option linter.unusedVariables false
section
variable {C : Ctx} {nt : Nat} {x y : Operand} {σ : St} {ty0 : TypeId} {ps : String} {af : Array Edge} {dd : Option Tmp} {gg : Option (Nat × Bool)}
theorem qA {v : SV} (hx : Ev Tryz.prog C nt σ x v) : Pu Tryz.prog C nt ⟨dd, .move x, ty0, ps, af, gg⟩ σ v [] [] := a0U (.inl rfl) hx
theorem qB {v : SV} (hx : Ev Tryz.prog C nt σ x v) : Pu Tryz.prog C nt ⟨dd, .assign x, ty0, ps, af, gg⟩ σ v [] [] := a0U (.inr rfl) hx
theorem qC {s f off b i : Nat} (hx : Ev Tryz.prog C nt σ x (.box b i)) (h : look a4r.of (1000 * s + f) = some off) (hf : Nat.blt f 1000 = true) : Pu Tryz.prog C nt ⟨dd, .fieldAddr s x f, ty0, ps, af, gg⟩ σ (.box b (i + off)) [] [] := a5k hT rfl h hf hx
theorem qC2 {s f off : Nat} {K : List Nat} {ds : List DV} (hx : Ev Tryz.prog C nt σ x (.ref K ds)) (h : look a4r.of (1000 * s + f) = some off) (hf : Nat.blt f 1000 = true) : Pu Tryz.prog C nt ⟨dd, .fieldAddr s x f, ty0, ps, af, gg⟩ σ (.ref K (ds.drop off)) [] [] := a5Y hT rfl h hf hx
theorem qC3 {s f off k i : Nat} (hx : Ev Tryz.prog C nt σ x (.eptr k i)) (h : look a4r.of (1000 * s + f) = some off) (hf : Nat.blt f 1000 = true) : Pu Tryz.prog C nt ⟨dd, .fieldAddr s x f, ty0, ps, af, gg⟩ σ (.eptr k (i + off)) [] [] := a8Q hT rfl h hf hx
theorem qD {t n b i t' : Nat} {cs : List CV} (ht : look a4r.ag t = some n) (hx : Ev Tryz.prog C nt σ x (.box b i)) (hb : look σ.bx b = some (t', cs)) (hl : Nat.ble (i + n) cs.length = true) : Pu Tryz.prog C nt ⟨dd, .load t x, ty0, ps, af, gg⟩ σ (.agg (sub i n cs)) [] [b] := a2v hT rfl ht hx hb hl
theorem qD2 {t b i t' : Nat} {cs : List CV} {c : CV} {u : Unit} (ht : look a4r.on t = some u) (hx : Ev Tryz.prog C nt σ x (.box b i)) (hb : look σ.bx b = some (t', cs)) (hl : cs[i]? = some c) : Pu Tryz.prog C nt ⟨dd, .load t x, ty0, ps, af, gg⟩ σ (.one c) [] [b] := a2H hT rfl ht hx hb hl
theorem qD3 {t n : Nat} {K : List Nat} {ds : List DV} (ht : look a4r.ag t = some n) (hx : Ev Tryz.prog C nt σ x (.ref K ds)) (hl : Nat.ble n ds.length = true) : Pu Tryz.prog C nt ⟨dd, .load t x, ty0, ps, af, gg⟩ σ (.agg ((ds.take n).map (dvK K))) K [] := a8a hT rfl ht hx hl
theorem qD4 {t : Nat} {K : List Nat} {dv : DV} {ds : List DV} {u : Unit} (ht : look a4r.on t = some u) (hx : Ev Tryz.prog C nt σ x (.ref K ds)) (hd : ds[0]? = some dv) : Pu Tryz.prog C nt ⟨dd, .load t x, ty0, ps, af, gg⟩ σ (.one (dvK K dv)) K [] := b1w hT rfl ht hx hd
theorem qE {i : Nat} {ts : List (Bool × List CV)} {c : CV} (hx : Ev Tryz.prog C nt σ x (.tup ts)) (h : ts[i]? = some (false, [c])) : Pu Tryz.prog C nt ⟨dd, .extract x i, ty0, ps, af, gg⟩ σ (.one c) [] [] := a2L rfl hx h
theorem qE2 {i : Nat} {ts : List (Bool × List CV)} {cs : List CV} (hx : Ev Tryz.prog C nt σ x (.tup ts)) (h : ts[i]? = some (true, cs)) : Pu Tryz.prog C nt ⟨dd, .extract x i, ty0, ps, af, gg⟩ σ (.agg cs) [] [] := a3q rfl hx h
theorem qN {t : TypeId} {K : List Nat} {b : Bool} (hx : Ev Tryz.prog C nt σ x (.one (.dv K (.bool b)))) : Pu Tryz.prog C nt ⟨dd, .unOp .not t x, ty0, ps, af, gg⟩ σ (.one (.dv [] (.bool (!b)))) [] [] := c5y rfl hx
theorem qG {c : Operand} {K J : List Nat} {b b2 : Bool} (hc : Ev Tryz.prog C nt σ c (.one (.dv K (.bool b)))) (hy : b = true → Ev Tryz.prog C nt σ y (.one (.dv J (.bool b2)))) : Pu Tryz.prog C nt ⟨dd, .pick c y (.const (.bool false)), ty0, ps, af, gg⟩ σ (.one (.dv [] (.bool (b && b2)))) [] [] := c1M rfl hc hy
theorem qH {c : Operand} {K J : List Nat} {b b2 : Bool} (hc : Ev Tryz.prog C nt σ c (.one (.dv K (.bool b)))) (hy : b = false → Ev Tryz.prog C nt σ y (.one (.dv J (.bool b2)))) : Pu Tryz.prog C nt ⟨dd, .pick c (.const (.bool true)) y, ty0, ps, af, gg⟩ σ (.one (.dv [] (.bool (b || b2)))) [] [] := b9K rfl hc hy
theorem b8g {t ty : TypeId} {K J : List Nat} {k : IntKind} {m n : Int} (hx : Ev Tryz.prog C nt σ x (.one (.dv K (.int k m)))) (hy : Ev Tryz.prog C nt σ y (.one (.dv J (.int k n)))) : Pu Tryz.prog C nt ⟨dd, .binOp .lss t x y ty, ty0, ps, af, gg⟩ σ (.one (.dv [] (.bool (decide (m < n))))) [] [] := c5T rfl hx hy
theorem b5R {t ty : TypeId} {K J : List Nat} {k : IntKind} {m n : Int} (hx : Ev Tryz.prog C nt σ x (.one (.dv K (.int k m)))) (hy : Ev Tryz.prog C nt σ y (.one (.dv J (.int k n)))) : Pu Tryz.prog C nt ⟨dd, .binOp .leq t x y ty, ty0, ps, af, gg⟩ σ (.one (.dv [] (.bool (decide (m ≤ n))))) [] [] := c1K rfl hx hy
theorem b7T {t ty : TypeId} {K J : List Nat} {k : IntKind} {m n : Int} (hx : Ev Tryz.prog C nt σ x (.one (.dv K (.int k m)))) (hy : Ev Tryz.prog C nt σ y (.one (.dv J (.int k n)))) : Pu Tryz.prog C nt ⟨dd, .binOp .gtr t x y ty, ty0, ps, af, gg⟩ σ (.one (.dv [] (.bool (decide (n < m))))) [] [] := c5w rfl hx hy
theorem b7N {t ty : TypeId} {K J : List Nat} {k : IntKind} {m n : Int} (hx : Ev Tryz.prog C nt σ x (.one (.dv K (.int k m)))) (hy : Ev Tryz.prog C nt σ y (.one (.dv J (.int k n)))) : Pu Tryz.prog C nt ⟨dd, .binOp .geq t x y ty, ty0, ps, af, gg⟩ σ (.one (.dv [] (.bool (decide (n ≤ m))))) [] [] := c4S rfl hx hy
theorem b8o {t ty : TypeId} {K J : List Nat} {k : IntKind} {m n : Int} (hx : Ev Tryz.prog C nt σ x (.one (.dv K (.int k m)))) (hy : Ev Tryz.prog C nt σ y (.one (.dv J (.int k n)))) : Pu Tryz.prog C nt ⟨dd, .binOp .eql t x y ty, ty0, ps, af, gg⟩ σ (.one (.dv [] (.bool (decide (m = n))))) [] [] := c5b rfl hx hy
theorem b7v {t ty : TypeId} {K J : List Nat} {k : IntKind} {m n : Int} (hx : Ev Tryz.prog C nt σ x (.one (.dv K (.int k m)))) (hy : Ev Tryz.prog C nt σ y (.one (.dv J (.int k n)))) : Pu Tryz.prog C nt ⟨dd, .binOp .neq t x y ty, ty0, ps, af, gg⟩ σ (.one (.dv [] (.bool (!decide (m = n))))) [] [] := c0x rfl hx hy
theorem b8Q {t ty : TypeId} {K J : List Nat} {m n : ByteArray} (hx : Ev Tryz.prog C nt σ x (.one (.dv K (.str m)))) (hy : Ev Tryz.prog C nt σ y (.one (.dv J (.str n)))) : Pu Tryz.prog C nt ⟨dd, .binOp .eql t x y ty, ty0, ps, af, gg⟩ σ (.one (.dv [] (.bool (sEq m n)))) [] [] := c5s rfl hx hy
theorem b4X {t ty : TypeId} {K J : List Nat} {m n : ByteArray} (hx : Ev Tryz.prog C nt σ x (.one (.dv K (.str m)))) (hy : Ev Tryz.prog C nt σ y (.one (.dv J (.str n)))) : Pu Tryz.prog C nt ⟨dd, .binOp .neq t x y ty, ty0, ps, af, gg⟩ σ (.one (.dv [] (.bool (!sEq m n)))) [] [] := c4O rfl hx hy
theorem b8h {t ty : TypeId} {K J : List Nat} {m n : ByteArray} (hx : Ev Tryz.prog C nt σ x (.one (.dv K (.str m)))) (hy : Ev Tryz.prog C nt σ y (.one (.dv J (.str n)))) : Pu Tryz.prog C nt ⟨dd, .binOp .lss t x y ty, ty0, ps, af, gg⟩ σ (.one (.dv [] (.bool (sLt m n)))) [] [] := c4C rfl hx hy
theorem b8H {t ty : TypeId} {K J : List Nat} {m n : ByteArray} (hx : Ev Tryz.prog C nt σ x (.one (.dv K (.str m)))) (hy : Ev Tryz.prog C nt σ y (.one (.dv J (.str n)))) : Pu Tryz.prog C nt ⟨dd, .binOp .leq t x y ty, ty0, ps, af, gg⟩ σ (.one (.dv [] (.bool (sLt m n || sEq m n)))) [] [] := c3r rfl hx hy
theorem b4i {t ty : TypeId} {K J : List Nat} {m n : ByteArray} (hx : Ev Tryz.prog C nt σ x (.one (.dv K (.str m)))) (hy : Ev Tryz.prog C nt σ y (.one (.dv J (.str n)))) : Pu Tryz.prog C nt ⟨dd, .binOp .gtr t x y ty, ty0, ps, af, gg⟩ σ (.one (.dv [] (.bool (!(sLt m n || sEq m n))))) [] [] := c1i rfl hx hy
theorem b6V {t ty : TypeId} {K J : List Nat} {m n : ByteArray} (hx : Ev Tryz.prog C nt σ x (.one (.dv K (.str m)))) (hy : Ev Tryz.prog C nt σ y (.one (.dv J (.str n)))) : Pu Tryz.prog C nt ⟨dd, .binOp .geq t x y ty, ty0, ps, af, gg⟩ σ (.one (.dv [] (.bool (!sLt m n)))) [] [] := c5B rfl hx hy
theorem b8F {t ty : TypeId} {K J : List Nat} {m n : Int} (hx : Ev Tryz.prog C nt σ x (.one (.dv K (.int .i64 m)))) (hy : Ev Tryz.prog C nt σ y (.one (.dv J (.int .i64 n)))) (h1 : -9223372036854775808 ≤ m + n) (h2 : m + n ≤ 9223372036854775807) : Pu Tryz.prog C nt ⟨dd, .binOp .add t x y ty, ty0, ps, af, gg⟩ σ (.one (.dv [] (.int .i64 (m + n)))) [] [] := b6F rfl hx hy (a6d h1 h2)
theorem b6A {t ty : TypeId} {K J : List Nat} {m n : Int} (hx : Ev Tryz.prog C nt σ x (.one (.dv K (.int .i64 m)))) (hy : Ev Tryz.prog C nt σ y (.one (.dv J (.int .i64 n)))) (h1 : -9223372036854775808 ≤ m - n) (h2 : m - n ≤ 9223372036854775807) : Pu Tryz.prog C nt ⟨dd, .binOp .sub t x y ty, ty0, ps, af, gg⟩ σ (.one (.dv [] (.int .i64 (m - n)))) [] [] := a8W rfl hx hy (a6d h1 h2)
theorem qL {t e' e sz n : Nat} {K : List Nat} {cs : List DV} (hx : Ev Tryz.prog C nt σ x (.one (.dv K (.sl e sz n cs)))) (h : look a4r.sl t = some e') : Pu Tryz.prog C nt ⟨dd, .call { callee := .builtin .len, args := #[x], argTypes := #[t] }, ty0, ps, af, gg⟩ σ (.one (.dv [] (.int .i64 (n : Int)))) [] [] := a4I hT rfl h hx
theorem qL2 {t : Nat} {u : Unit} {s : ByteArray} {K : List Nat} (hx : Ev Tryz.prog C nt σ x (.one (.dv K (.str s)))) (h : look a4r.st t = some u) : Pu Tryz.prog C nt ⟨dd, .call { callee := .builtin .len, args := #[x], argTypes := #[t] }, ty0, ps, af, gg⟩ σ (.one (.dv [] (.int .i64 (s.size : Int)))) [] [] := c6o hT rfl h hx
theorem qL3 {t e' : Nat} (hx : Ev Tryz.prog C nt σ x (.one .nil)) (h : look a4r.sl t = some e') : Pu Tryz.prog C nt ⟨dd, .call { callee := .builtin .len, args := #[x], argTypes := #[t] }, ty0, ps, af, gg⟩ σ (.one (.dv [] (.int .i64 0))) [] [] := b9G hT rfl h hx
end
section
variable {P : Program} {C : Ctx} {nt : Nat} {o : Oper} {x y : Operand} {T : TT} {Q : Exit → St → Prop} {N : St → Prop} {all : Array Oper} {rest : List Oper} {σ : St} {tm : List (Nat × SV)} {bx : List (Nat × TypeId × List CV)} {ks : List (Nat × Option KC)} {d t : Nat} {v X : SV} {ty : TypeId} {ps : String} {af : Array Edge} {Ks Bs oB oK : List Nat} {g : Bool} {listed : Array Bool} {fuel : Nat} {hd' : Nat → Bool}
theorem zp (hp : Pu P C nt o σ v Ks Bs := by
  first
  | (apply qA; (first | exact a0a rfl | exact a0n (a0m rfl) | exact a0N | exact a0G (a0H rfl) | exact a0P | exact a0Q))
  | (apply qB; (first | exact a0a rfl | exact a0n (a0m rfl) | exact a0N | exact a0G (a0H rfl) | exact a0P | exact a0Q))
  | (apply qC; (first | exact a0a rfl | exact a0n (a0m rfl) | exact a0N | exact a0G (a0H rfl) | exact a0P | exact a0Q); exact rfl; exact rfl)
  | (apply qC2; (first | exact a0a rfl | exact a0n (a0m rfl) | exact a0N | exact a0G (a0H rfl) | exact a0P | exact a0Q); exact rfl; exact rfl)
  | (apply qC3; (first | exact a0a rfl | exact a0n (a0m rfl) | exact a0N | exact a0G (a0H rfl) | exact a0P | exact a0Q); exact rfl; exact rfl)
  | (apply qD; exact rfl; (first | exact a0a rfl | exact a0n (a0m rfl) | exact a0N | exact a0G (a0H rfl) | exact a0P | exact a0Q); exact rfl; exact rfl)
  | (apply qD2; exact rfl; (first | exact a0a rfl | exact a0n (a0m rfl) | exact a0N | exact a0G (a0H rfl) | exact a0P | exact a0Q); exact rfl; exact rfl)
  | (apply qD3; exact rfl; (first | exact a0a rfl | exact a0n (a0m rfl) | exact a0N | exact a0G (a0H rfl) | exact a0P | exact a0Q); exact rfl)
  | (apply qD4; exact rfl; (first | exact a0a rfl | exact a0n (a0m rfl) | exact a0N | exact a0G (a0H rfl) | exact a0P | exact a0Q); exact rfl)
  | (apply qE; (first | exact a0a rfl | exact a0n (a0m rfl) | exact a0N | exact a0G (a0H rfl) | exact a0P | exact a0Q); exact rfl)
  | (apply qE2; (first | exact a0a rfl | exact a0n (a0m rfl) | exact a0N | exact a0G (a0H rfl) | exact a0P | exact a0Q); exact rfl)
  | (apply qN; (first | exact a0a rfl | exact a0n (a0m rfl) | exact a0N | exact a0G (a0H rfl) | exact a0P | exact a0Q))
  | (apply qG; (first | exact a0a rfl | exact a0n (a0m rfl) | exact a0N | exact a0G (a0H rfl) | exact a0P | exact a0Q); (intro hb; first | (refine a0z rfl ?_; first | exact a6x hb | exact a6I hb) | exact a0a rfl | exact a0n (a0m rfl) | exact a0N | exact a0G (a0H rfl) | exact a0P | exact a0Q))
  | (apply qH; (first | exact a0a rfl | exact a0n (a0m rfl) | exact a0N | exact a0G (a0H rfl) | exact a0P | exact a0Q); (intro hb; first | (refine a0z rfl ?_; first | exact a6x hb | exact a6I hb) | exact a0a rfl | exact a0n (a0m rfl) | exact a0N | exact a0G (a0H rfl) | exact a0P | exact a0Q))
  | (apply b8g; (first | exact a0a rfl | exact a0n (a0m rfl) | exact a0N | exact a0G (a0H rfl) | exact a0P | exact a0Q); (first | exact a0a rfl | exact a0n (a0m rfl) | exact a0N | exact a0G (a0H rfl) | exact a0P | exact a0Q))
  | (apply b5R; (first | exact a0a rfl | exact a0n (a0m rfl) | exact a0N | exact a0G (a0H rfl) | exact a0P | exact a0Q); (first | exact a0a rfl | exact a0n (a0m rfl) | exact a0N | exact a0G (a0H rfl) | exact a0P | exact a0Q))
  | (apply b7T; (first | exact a0a rfl | exact a0n (a0m rfl) | exact a0N | exact a0G (a0H rfl) | exact a0P | exact a0Q); (first | exact a0a rfl | exact a0n (a0m rfl) | exact a0N | exact a0G (a0H rfl) | exact a0P | exact a0Q))
  | (apply b7N; (first | exact a0a rfl | exact a0n (a0m rfl) | exact a0N | exact a0G (a0H rfl) | exact a0P | exact a0Q); (first | exact a0a rfl | exact a0n (a0m rfl) | exact a0N | exact a0G (a0H rfl) | exact a0P | exact a0Q))
  | (apply b8o; (first | exact a0a rfl | exact a0n (a0m rfl) | exact a0N | exact a0G (a0H rfl) | exact a0P | exact a0Q); (first | exact a0a rfl | exact a0n (a0m rfl) | exact a0N | exact a0G (a0H rfl) | exact a0P | exact a0Q))
  | (apply b7v; (first | exact a0a rfl | exact a0n (a0m rfl) | exact a0N | exact a0G (a0H rfl) | exact a0P | exact a0Q); (first | exact a0a rfl | exact a0n (a0m rfl) | exact a0N | exact a0G (a0H rfl) | exact a0P | exact a0Q))
  | (apply b8Q; (first | exact a0a rfl | exact a0n (a0m rfl) | exact a0N | exact a0G (a0H rfl) | exact a0P | exact a0Q); (first | exact a0a rfl | exact a0n (a0m rfl) | exact a0N | exact a0G (a0H rfl) | exact a0P | exact a0Q))
  | (apply b4X; (first | exact a0a rfl | exact a0n (a0m rfl) | exact a0N | exact a0G (a0H rfl) | exact a0P | exact a0Q); (first | exact a0a rfl | exact a0n (a0m rfl) | exact a0N | exact a0G (a0H rfl) | exact a0P | exact a0Q))
  | (apply b8h; (first | exact a0a rfl | exact a0n (a0m rfl) | exact a0N | exact a0G (a0H rfl) | exact a0P | exact a0Q); (first | exact a0a rfl | exact a0n (a0m rfl) | exact a0N | exact a0G (a0H rfl) | exact a0P | exact a0Q))
  | (apply b8H; (first | exact a0a rfl | exact a0n (a0m rfl) | exact a0N | exact a0G (a0H rfl) | exact a0P | exact a0Q); (first | exact a0a rfl | exact a0n (a0m rfl) | exact a0N | exact a0G (a0H rfl) | exact a0P | exact a0Q))
  | (apply b4i; (first | exact a0a rfl | exact a0n (a0m rfl) | exact a0N | exact a0G (a0H rfl) | exact a0P | exact a0Q); (first | exact a0a rfl | exact a0n (a0m rfl) | exact a0N | exact a0G (a0H rfl) | exact a0P | exact a0Q))
  | (apply b6V; (first | exact a0a rfl | exact a0n (a0m rfl) | exact a0N | exact a0G (a0H rfl) | exact a0P | exact a0Q); (first | exact a0a rfl | exact a0n (a0m rfl) | exact a0N | exact a0G (a0H rfl) | exact a0P | exact a0Q))
  | (apply b8F; (first | exact a0a rfl | exact a0n (a0m rfl) | exact a0N | exact a0G (a0H rfl) | exact a0P | exact a0Q); (first | exact a0a rfl | exact a0n (a0m rfl) | exact a0N | exact a0G (a0H rfl) | exact a0P | exact a0Q); omega; omega)
  | (apply b6A; (first | exact a0a rfl | exact a0n (a0m rfl) | exact a0N | exact a0G (a0H rfl) | exact a0P | exact a0Q); (first | exact a0a rfl | exact a0n (a0m rfl) | exact a0N | exact a0G (a0H rfl) | exact a0P | exact a0Q); omega; omega)
  | (apply qL; (first | exact a0a rfl | exact a0n (a0m rfl) | exact a0N | exact a0G (a0H rfl) | exact a0P | exact a0Q); exact rfl)
  | (apply qL2; (first | exact a0a rfl | exact a0n (a0m rfl) | exact a0N | exact a0G (a0H rfl) | exact a0P | exact a0Q); exact rfl)
  | (apply qL3; (first | exact a0a rfl | exact a0n (a0m rfl) | exact a0N | exact a0G (a0H rfl) | exact a0P | exact a0Q); exact rfl)
  | exact a3W hT rfl rfl rfl (by first | exact a0a rfl | exact a0n (a0m rfl) | exact a0N | exact a0G (a0H rfl) | exact a0P | exact a0Q) (by first | exact a0a rfl | exact a0n (a0m rfl) | exact a0N | exact a0G (a0H rfl) | exact a0P | exact a0Q) (fun _ => rfl) (by omega) (by omega)
  | exact b7K hT rfl rfl (by first | exact a0a rfl | exact a0n (a0m rfl) | exact a0N | exact a0G (a0H rfl) | exact a0P | exact a0Q) (by first | exact a0a rfl | exact a0n (a0m rfl) | exact a0N | exact a0G (a0H rfl) | exact a0P | exact a0Q) (by omega) (by omega)) : Pu P C nt o σ v Ks Bs := hp
theorem zq {g : Bool} (hg : g = true) (hp : Pu P C nt o σ v Ks Bs := by
  first
  | (apply qA; (first | (refine a0z rfl ?_; first | exact hg | exact a0f hg | exact a0f (a0f hg) | exact a0f (a0f (a0f hg))) | exact a0a rfl | exact a0n (a0m rfl) | exact a0N | exact a0G (a0H rfl) | exact a0P | exact a0Q))
  | (apply qB; (first | (refine a0z rfl ?_; first | exact hg | exact a0f hg | exact a0f (a0f hg) | exact a0f (a0f (a0f hg))) | exact a0a rfl | exact a0n (a0m rfl) | exact a0N | exact a0G (a0H rfl) | exact a0P | exact a0Q))
  | (apply qC; (first | (refine a0z rfl ?_; first | exact hg | exact a0f hg | exact a0f (a0f hg) | exact a0f (a0f (a0f hg))) | exact a0a rfl | exact a0n (a0m rfl) | exact a0N | exact a0G (a0H rfl) | exact a0P | exact a0Q); exact rfl; exact rfl)
  | (apply qC2; (first | (refine a0z rfl ?_; first | exact hg | exact a0f hg | exact a0f (a0f hg) | exact a0f (a0f (a0f hg))) | exact a0a rfl | exact a0n (a0m rfl) | exact a0N | exact a0G (a0H rfl) | exact a0P | exact a0Q); exact rfl; exact rfl)
  | (apply qC3; (first | (refine a0z rfl ?_; first | exact hg | exact a0f hg | exact a0f (a0f hg) | exact a0f (a0f (a0f hg))) | exact a0a rfl | exact a0n (a0m rfl) | exact a0N | exact a0G (a0H rfl) | exact a0P | exact a0Q); exact rfl; exact rfl)
  | (apply qD; exact rfl; (first | (refine a0z rfl ?_; first | exact hg | exact a0f hg | exact a0f (a0f hg) | exact a0f (a0f (a0f hg))) | exact a0a rfl | exact a0n (a0m rfl) | exact a0N | exact a0G (a0H rfl) | exact a0P | exact a0Q); exact rfl; exact rfl)
  | (apply qD2; exact rfl; (first | (refine a0z rfl ?_; first | exact hg | exact a0f hg | exact a0f (a0f hg) | exact a0f (a0f (a0f hg))) | exact a0a rfl | exact a0n (a0m rfl) | exact a0N | exact a0G (a0H rfl) | exact a0P | exact a0Q); exact rfl; exact rfl)
  | (apply qD3; exact rfl; (first | (refine a0z rfl ?_; first | exact hg | exact a0f hg | exact a0f (a0f hg) | exact a0f (a0f (a0f hg))) | exact a0a rfl | exact a0n (a0m rfl) | exact a0N | exact a0G (a0H rfl) | exact a0P | exact a0Q); exact rfl)
  | (apply qD4; exact rfl; (first | (refine a0z rfl ?_; first | exact hg | exact a0f hg | exact a0f (a0f hg) | exact a0f (a0f (a0f hg))) | exact a0a rfl | exact a0n (a0m rfl) | exact a0N | exact a0G (a0H rfl) | exact a0P | exact a0Q); exact rfl)
  | (apply qE; (first | (refine a0z rfl ?_; first | exact hg | exact a0f hg | exact a0f (a0f hg) | exact a0f (a0f (a0f hg))) | exact a0a rfl | exact a0n (a0m rfl) | exact a0N | exact a0G (a0H rfl) | exact a0P | exact a0Q); exact rfl)
  | (apply qE2; (first | (refine a0z rfl ?_; first | exact hg | exact a0f hg | exact a0f (a0f hg) | exact a0f (a0f (a0f hg))) | exact a0a rfl | exact a0n (a0m rfl) | exact a0N | exact a0G (a0H rfl) | exact a0P | exact a0Q); exact rfl)
  | (apply qN; (first | (refine a0z rfl ?_; first | exact hg | exact a0f hg | exact a0f (a0f hg) | exact a0f (a0f (a0f hg))) | exact a0a rfl | exact a0n (a0m rfl) | exact a0N | exact a0G (a0H rfl) | exact a0P | exact a0Q))
  | (apply qG; (first | (refine a0z rfl ?_; first | exact hg | exact a0f hg | exact a0f (a0f hg) | exact a0f (a0f (a0f hg))) | exact a0a rfl | exact a0n (a0m rfl) | exact a0N | exact a0G (a0H rfl) | exact a0P | exact a0Q); (intro hb; first | (refine a0z rfl ?_; first | exact a6x hb | exact a6I hb | exact a6Y hg (a6x hb) | exact a6Y hg (a6I hb) | exact a6Y (a0f hg) (a6x hb) | exact a6Y (a0f hg) (a6I hb) | exact hg | exact a0f hg) | exact a0a rfl | exact a0n (a0m rfl) | exact a0N | exact a0G (a0H rfl) | exact a0P | exact a0Q))
  | (apply qH; (first | (refine a0z rfl ?_; first | exact hg | exact a0f hg | exact a0f (a0f hg) | exact a0f (a0f (a0f hg))) | exact a0a rfl | exact a0n (a0m rfl) | exact a0N | exact a0G (a0H rfl) | exact a0P | exact a0Q); (intro hb; first | (refine a0z rfl ?_; first | exact a6x hb | exact a6I hb | exact a6Y hg (a6x hb) | exact a6Y hg (a6I hb) | exact a6Y (a0f hg) (a6x hb) | exact a6Y (a0f hg) (a6I hb) | exact hg | exact a0f hg) | exact a0a rfl | exact a0n (a0m rfl) | exact a0N | exact a0G (a0H rfl) | exact a0P | exact a0Q))
  | (apply b8g; (first | (refine a0z rfl ?_; first | exact hg | exact a0f hg | exact a0f (a0f hg) | exact a0f (a0f (a0f hg))) | exact a0a rfl | exact a0n (a0m rfl) | exact a0N | exact a0G (a0H rfl) | exact a0P | exact a0Q); (first | (refine a0z rfl ?_; first | exact hg | exact a0f hg | exact a0f (a0f hg) | exact a0f (a0f (a0f hg))) | exact a0a rfl | exact a0n (a0m rfl) | exact a0N | exact a0G (a0H rfl) | exact a0P | exact a0Q))
  | (apply b5R; (first | (refine a0z rfl ?_; first | exact hg | exact a0f hg | exact a0f (a0f hg) | exact a0f (a0f (a0f hg))) | exact a0a rfl | exact a0n (a0m rfl) | exact a0N | exact a0G (a0H rfl) | exact a0P | exact a0Q); (first | (refine a0z rfl ?_; first | exact hg | exact a0f hg | exact a0f (a0f hg) | exact a0f (a0f (a0f hg))) | exact a0a rfl | exact a0n (a0m rfl) | exact a0N | exact a0G (a0H rfl) | exact a0P | exact a0Q))
  | (apply b7T; (first | (refine a0z rfl ?_; first | exact hg | exact a0f hg | exact a0f (a0f hg) | exact a0f (a0f (a0f hg))) | exact a0a rfl | exact a0n (a0m rfl) | exact a0N | exact a0G (a0H rfl) | exact a0P | exact a0Q); (first | (refine a0z rfl ?_; first | exact hg | exact a0f hg | exact a0f (a0f hg) | exact a0f (a0f (a0f hg))) | exact a0a rfl | exact a0n (a0m rfl) | exact a0N | exact a0G (a0H rfl) | exact a0P | exact a0Q))
  | (apply b7N; (first | (refine a0z rfl ?_; first | exact hg | exact a0f hg | exact a0f (a0f hg) | exact a0f (a0f (a0f hg))) | exact a0a rfl | exact a0n (a0m rfl) | exact a0N | exact a0G (a0H rfl) | exact a0P | exact a0Q); (first | (refine a0z rfl ?_; first | exact hg | exact a0f hg | exact a0f (a0f hg) | exact a0f (a0f (a0f hg))) | exact a0a rfl | exact a0n (a0m rfl) | exact a0N | exact a0G (a0H rfl) | exact a0P | exact a0Q))
  | (apply b8o; (first | (refine a0z rfl ?_; first | exact hg | exact a0f hg | exact a0f (a0f hg) | exact a0f (a0f (a0f hg))) | exact a0a rfl | exact a0n (a0m rfl) | exact a0N | exact a0G (a0H rfl) | exact a0P | exact a0Q); (first | (refine a0z rfl ?_; first | exact hg | exact a0f hg | exact a0f (a0f hg) | exact a0f (a0f (a0f hg))) | exact a0a rfl | exact a0n (a0m rfl) | exact a0N | exact a0G (a0H rfl) | exact a0P | exact a0Q))
  | (apply b7v; (first | (refine a0z rfl ?_; first | exact hg | exact a0f hg | exact a0f (a0f hg) | exact a0f (a0f (a0f hg))) | exact a0a rfl | exact a0n (a0m rfl) | exact a0N | exact a0G (a0H rfl) | exact a0P | exact a0Q); (first | (refine a0z rfl ?_; first | exact hg | exact a0f hg | exact a0f (a0f hg) | exact a0f (a0f (a0f hg))) | exact a0a rfl | exact a0n (a0m rfl) | exact a0N | exact a0G (a0H rfl) | exact a0P | exact a0Q))
  | (apply b8Q; (first | (refine a0z rfl ?_; first | exact hg | exact a0f hg | exact a0f (a0f hg) | exact a0f (a0f (a0f hg))) | exact a0a rfl | exact a0n (a0m rfl) | exact a0N | exact a0G (a0H rfl) | exact a0P | exact a0Q); (first | (refine a0z rfl ?_; first | exact hg | exact a0f hg | exact a0f (a0f hg) | exact a0f (a0f (a0f hg))) | exact a0a rfl | exact a0n (a0m rfl) | exact a0N | exact a0G (a0H rfl) | exact a0P | exact a0Q))
  | (apply b4X; (first | (refine a0z rfl ?_; first | exact hg | exact a0f hg | exact a0f (a0f hg) | exact a0f (a0f (a0f hg))) | exact a0a rfl | exact a0n (a0m rfl) | exact a0N | exact a0G (a0H rfl) | exact a0P | exact a0Q); (first | (refine a0z rfl ?_; first | exact hg | exact a0f hg | exact a0f (a0f hg) | exact a0f (a0f (a0f hg))) | exact a0a rfl | exact a0n (a0m rfl) | exact a0N | exact a0G (a0H rfl) | exact a0P | exact a0Q))
  | (apply b8h; (first | (refine a0z rfl ?_; first | exact hg | exact a0f hg | exact a0f (a0f hg) | exact a0f (a0f (a0f hg))) | exact a0a rfl | exact a0n (a0m rfl) | exact a0N | exact a0G (a0H rfl) | exact a0P | exact a0Q); (first | (refine a0z rfl ?_; first | exact hg | exact a0f hg | exact a0f (a0f hg) | exact a0f (a0f (a0f hg))) | exact a0a rfl | exact a0n (a0m rfl) | exact a0N | exact a0G (a0H rfl) | exact a0P | exact a0Q))
  | (apply b8H; (first | (refine a0z rfl ?_; first | exact hg | exact a0f hg | exact a0f (a0f hg) | exact a0f (a0f (a0f hg))) | exact a0a rfl | exact a0n (a0m rfl) | exact a0N | exact a0G (a0H rfl) | exact a0P | exact a0Q); (first | (refine a0z rfl ?_; first | exact hg | exact a0f hg | exact a0f (a0f hg) | exact a0f (a0f (a0f hg))) | exact a0a rfl | exact a0n (a0m rfl) | exact a0N | exact a0G (a0H rfl) | exact a0P | exact a0Q))
  | (apply b4i; (first | (refine a0z rfl ?_; first | exact hg | exact a0f hg | exact a0f (a0f hg) | exact a0f (a0f (a0f hg))) | exact a0a rfl | exact a0n (a0m rfl) | exact a0N | exact a0G (a0H rfl) | exact a0P | exact a0Q); (first | (refine a0z rfl ?_; first | exact hg | exact a0f hg | exact a0f (a0f hg) | exact a0f (a0f (a0f hg))) | exact a0a rfl | exact a0n (a0m rfl) | exact a0N | exact a0G (a0H rfl) | exact a0P | exact a0Q))
  | (apply b6V; (first | (refine a0z rfl ?_; first | exact hg | exact a0f hg | exact a0f (a0f hg) | exact a0f (a0f (a0f hg))) | exact a0a rfl | exact a0n (a0m rfl) | exact a0N | exact a0G (a0H rfl) | exact a0P | exact a0Q); (first | (refine a0z rfl ?_; first | exact hg | exact a0f hg | exact a0f (a0f hg) | exact a0f (a0f (a0f hg))) | exact a0a rfl | exact a0n (a0m rfl) | exact a0N | exact a0G (a0H rfl) | exact a0P | exact a0Q))
  | (apply b8F; (first | (refine a0z rfl ?_; first | exact hg | exact a0f hg | exact a0f (a0f hg) | exact a0f (a0f (a0f hg))) | exact a0a rfl | exact a0n (a0m rfl) | exact a0N | exact a0G (a0H rfl) | exact a0P | exact a0Q); (first | (refine a0z rfl ?_; first | exact hg | exact a0f hg | exact a0f (a0f hg) | exact a0f (a0f (a0f hg))) | exact a0a rfl | exact a0n (a0m rfl) | exact a0N | exact a0G (a0H rfl) | exact a0P | exact a0Q); omega; omega)
  | (apply b6A; (first | (refine a0z rfl ?_; first | exact hg | exact a0f hg | exact a0f (a0f hg) | exact a0f (a0f (a0f hg))) | exact a0a rfl | exact a0n (a0m rfl) | exact a0N | exact a0G (a0H rfl) | exact a0P | exact a0Q); (first | (refine a0z rfl ?_; first | exact hg | exact a0f hg | exact a0f (a0f hg) | exact a0f (a0f (a0f hg))) | exact a0a rfl | exact a0n (a0m rfl) | exact a0N | exact a0G (a0H rfl) | exact a0P | exact a0Q); omega; omega)
  | (apply qL; (first | (refine a0z rfl ?_; first | exact hg | exact a0f hg | exact a0f (a0f hg) | exact a0f (a0f (a0f hg))) | exact a0a rfl | exact a0n (a0m rfl) | exact a0N | exact a0G (a0H rfl) | exact a0P | exact a0Q); exact rfl)
  | (apply qL2; (first | (refine a0z rfl ?_; first | exact hg | exact a0f hg | exact a0f (a0f hg) | exact a0f (a0f (a0f hg))) | exact a0a rfl | exact a0n (a0m rfl) | exact a0N | exact a0G (a0H rfl) | exact a0P | exact a0Q); exact rfl)
  | (apply qL3; (first | (refine a0z rfl ?_; first | exact hg | exact a0f hg | exact a0f (a0f hg) | exact a0f (a0f (a0f hg))) | exact a0a rfl | exact a0n (a0m rfl) | exact a0N | exact a0G (a0H rfl) | exact a0P | exact a0Q); exact rfl)
  | exact a3W hT rfl rfl rfl (by first | (refine a0z rfl ?_; first | exact hg | exact a0f hg | exact a0f (a0f hg) | exact a0f (a0f (a0f hg))) | exact a0a rfl | exact a0n (a0m rfl) | exact a0N | exact a0G (a0H rfl) | exact a0P | exact a0Q) (by first | (refine a0z rfl ?_; first | exact hg | exact a0f hg | exact a0f (a0f hg) | exact a0f (a0f (a0f hg))) | exact a0a rfl | exact a0n (a0m rfl) | exact a0N | exact a0G (a0H rfl) | exact a0P | exact a0Q) (fun _ => rfl) (by first | omega | (simp only [Bool.and_eq_true, Bool.or_eq_true, Bool.or_eq_false_iff, Bool.and_eq_false_iff, Bool.not_eq_true', Bool.not_eq_false', beq_iff_eq, decide_eq_true_eq, decide_eq_false_iff_not] at hg; omega) | (have hh := of_decide_eq_true (a4Z hg); omega) | (have hh := of_decide_eq_true (a4Z (a8b hg)); omega)) (by first | omega | (simp only [Bool.and_eq_true, Bool.or_eq_true, Bool.or_eq_false_iff, Bool.and_eq_false_iff, Bool.not_eq_true', Bool.not_eq_false', beq_iff_eq, decide_eq_true_eq, decide_eq_false_iff_not] at hg; omega) | (have hh := of_decide_eq_true (a4Z hg); omega) | (have hh := of_decide_eq_true (a4Z (a8b hg)); omega))
  | exact b7K hT rfl rfl (by first | (refine a0z rfl ?_; first | exact hg | exact a0f hg | exact a0f (a0f hg) | exact a0f (a0f (a0f hg))) | exact a0a rfl | exact a0n (a0m rfl) | exact a0N | exact a0G (a0H rfl) | exact a0P | exact a0Q) (by first | (refine a0z rfl ?_; first | exact hg | exact a0f hg | exact a0f (a0f hg) | exact a0f (a0f (a0f hg))) | exact a0a rfl | exact a0n (a0m rfl) | exact a0N | exact a0G (a0H rfl) | exact a0P | exact a0Q) (by first | omega | (simp only [Bool.and_eq_true, Bool.or_eq_true, Bool.or_eq_false_iff, Bool.and_eq_false_iff, Bool.not_eq_true', Bool.not_eq_false', beq_iff_eq, decide_eq_true_eq, decide_eq_false_iff_not] at hg; omega) | (have hh := of_decide_eq_true (a4Z hg); omega) | (have hh := of_decide_eq_true (a4Z (a8b hg)); omega)) (by first | omega | (simp only [Bool.and_eq_true, Bool.or_eq_true, Bool.or_eq_false_iff, Bool.and_eq_false_iff, Bool.not_eq_true', Bool.not_eq_false', beq_iff_eq, decide_eq_true_eq, decide_eq_false_iff_not] at hg; omega) | (have hh := of_decide_eq_true (a4Z hg); omega) | (have hh := of_decide_eq_true (a4Z (a8b hg)); omega))) : Pu P C nt o σ v Ks Bs := hp
theorem zr {xs : List Operand} {us : List SV} (ha : a2j P C nt σ xs us := by repeat' (first | exact a0w | refine a0g (by first | exact a0a rfl | exact a0n (a0m rfl) | exact a0N | exact a0G (a0H rfl) | exact a0P | exact a0Q) ?_ ?_ | exact a0I a0c | exact a0I (a1d rfl rfl) | exact a0I (a6P rfl rfl) | exact a0I a8L | exact a0I a1G | refine a0t ?_ | exact a0s | refine a0d ?_ ?_ | exact a0c | exact a1d rfl rfl | exact a6P rfl rfl | exact a8L | exact a1G)) : a2j P C nt σ xs us := ha
theorem zO (h : Ops P C nt Q all rest ⟨(d, v) :: tm, bx, ks⟩) (hg : o.guard = none := by exact rfl) (hd : o.dst = some d := by exact rfl) (hp : Pu P C nt o ⟨tm, bx, ks⟩ v Ks Bs := by
  exact zp) (hk : (Nat.blt d nt && a1o ⟨tm, bx, ks⟩ v) = true := by exact rfl) : Ops P C nt Q all (o :: rest) ⟨tm, bx, ks⟩ := yO hg hd hp hk h
theorem zG (h : Ops P C nt Q all rest ⟨(d, .opt g v) :: tm, bx, ks⟩) (hd : o.dst = some d := by exact rfl) (hG : Gd P C nt ⟨tm, bx, ks⟩ all o g := by first | exact a1p rfl rfl rfl rfl rfl | exact a3s rfl rfl rfl rfl rfl) (hp : g = true → Pu P C nt o ⟨tm, bx, ks⟩ v Ks Bs := by
  intro hg
  exact zq hg) (hk : (Nat.blt d nt && a1o ⟨tm, bx, ks⟩ v) = true := by exact rfl) : Ops P C nt Q all (o :: rest) ⟨tm, bx, ks⟩ := a8U hG hd hp (Bool.and_eq_true_iff.1 hk).1 (Bool.and_eq_true_iff.1 hk).2 h
theorem zD (i : Nat) (h : OpsD P C nt Q all oB oK hd' (listed.setIfInBounds i true) fuel ⟨(d, v) :: tm, bx, ks⟩) (hi : all[i]? = some o := by exact rfl) (hg : o.guard = none := by exact rfl) (hd : o.dst = some d := by exact rfl) (hp : Pu P C nt o ⟨tm, bx, ks⟩ v Ks Bs := by
  exact zp) (hk : (Nat.blt d nt && a1o ⟨tm, bx, ks⟩ v) = true := by exact rfl) (h1 : (Ks.all fun k => oK.contains k) = true := by exact rfl) (h2 : (Bs.all fun k => oB.contains k) = true := by exact rfl) (ht : a4y .any all hd' listed i = true := by kernel_rfl) : OpsD P C nt Q all oB oK hd' listed (fuel + 1) ⟨tm, bx, ks⟩ := a1k i hi ht hg hd hp h1 h2 (Bool.and_eq_true_iff.1 hk).1 (Bool.and_eq_true_iff.1 hk).2 h
theorem zDG (i : Nat) (h : OpsD P C nt Q all oB oK hd' (listed.setIfInBounds i true) fuel ⟨(d, .opt g v) :: tm, bx, ks⟩) (hi : all[i]? = some o := by exact rfl) (hd : o.dst = some d := by exact rfl) (hG : Gd P C nt ⟨tm, bx, ks⟩ all o g := by first | exact a1p rfl rfl rfl rfl rfl | exact a3s rfl rfl rfl rfl rfl) (hp : g = true → Pu P C nt o ⟨tm, bx, ks⟩ v Ks Bs := by
  intro hg
  exact zq hg) (hk : (Nat.blt d nt && a1o ⟨tm, bx, ks⟩ v) = true := by exact rfl) (h1 : (Ks.all fun k => oK.contains k) = true := by exact rfl) (h2 : (Bs.all fun k => oB.contains k) = true := by exact rfl) (ht : a4y .any all hd' listed i = true := by kernel_rfl) : OpsD P C nt Q all oB oK hd' listed (fuel + 1) ⟨tm, bx, ks⟩ := a7D i hi ht hG hd hp h1 h2 (Bool.and_eq_true_iff.1 hk).1 (Bool.and_eq_true_iff.1 hk).2 h
theorem zDX (i : Nat) (h : OpsD P C nt Q all oB oK hd' (listed.setIfInBounds i true) fuel ⟨(d, v) :: tm, bx, ks⟩) (hi : all[i]? = some o := by exact rfl) (hg : o.guard = none := by exact rfl) (hd : o.dst = some d := by exact rfl) (hp : Pu P C nt o ⟨tm, bx, ks⟩ v Ks Bs := by
  exact zp) (hk : (Nat.blt d nt && a1o ⟨tm, bx, ks⟩ v) = true := by exact rfl) (hx : a7B o = true := by exact rfl) (ht : a8m .any all hd' listed i = true := by kernel_rfl) : OpsD P C nt Q all oB oK hd' listed (fuel + 1) ⟨tm, bx, ks⟩ := c4N i hi ht hx hg hd hp (Bool.and_eq_true_iff.1 hk).1 (Bool.and_eq_true_iff.1 hk).2 h
theorem zN {nK : List Nat} (i : Nat) (h : OpsN P C nt Q all oB oK nK hd' (listed.setIfInBounds i true) fuel ⟨(d, v) :: tm, bx, ks⟩) (hi : all[i]? = some o := by exact rfl) (hg : o.guard = none := by exact rfl) (hd : o.dst = some d := by exact rfl) (hp : Pu P C nt o ⟨tm, bx, ks⟩ v Ks Bs := by
  exact zp) (hk : (Nat.blt d nt && a1o ⟨tm, bx, ks⟩ v) = true := by exact rfl) (h1 : (Ks.all fun k => oK.contains k) = true := by exact rfl) (h2 : (Bs.all fun k => oB.contains k) = true := by exact rfl) (ht : a4y .any all hd' listed i = true := by kernel_rfl) : OpsN P C nt Q all oB oK nK hd' listed (fuel + 1) ⟨tm, bx, ks⟩ := a5B i hi ht hg hd hp h1 h2 (Bool.and_eq_true_iff.1 hk).1 (Bool.and_eq_true_iff.1 hk).2 h
theorem zC {f : FuncId} {xs : List Operand} {ats : Array TypeId} {us : List SV} (hc : ∀ (args : Array Value) (w : World), (callFunc f args).run P w = .ok (.enter f args) w) (h : Ops P C nt Q all rest ⟨(d, X) :: tm, bx, ks⟩) (hg : o.guard = none := by exact rfl) (hd : o.dst = some d := by exact rfl) (ho : o.op = .call { callee := .value (.func f), args := xs.toArray, argTypes := ats } := by exact rfl)
  (ha : a2j P C nt ⟨tm, bx, ks⟩ xs us := by exact zr) (hf : PFn P f us X) (hp : X.plain = true := by exact rfl) (hn : Nat.blt d nt = true := by exact rfl) : Ops P C nt Q all (o :: rest) ⟨tm, bx, ks⟩ := a4i hg hd ho hc hf ha hp hn h
theorem zK {f : FuncId} {xs : List Operand} {ats : Array TypeId} {us : List SV} {kk : List (Nat × Option KC)} (m : Nat) (hc : ∀ (args : Array Value) (w : World), (callFunc f args).run P w = .ok (.enter f args) w) (h : Ops P C nt Q all rest ⟨(d, v.sh m) :: tm, bx, shK m kk ++ ks⟩) (hg : o.guard = none := by exact rfl) (hd : o.dst = some d := by exact rfl) (ho : o.op = .call { callee := .value (.func f), args := xs.toArray, argTypes := ats } := by exact rfl)
  (ha : a2j P C nt ⟨tm, bx, ks⟩ xs us := by exact zr) (hf : KFn P f us v kk) (hn : Nat.blt d nt = true := by exact rfl) (hres : v.retOk = true := by exact rfl) (hfree : (kk.all fun q => (lkk ⟨tm, bx, ks⟩ (m + q.1)).isNone) = true := by exact rfl) : Ops P C nt Q all (o :: rest) ⟨tm, bx, ks⟩ := a3Q m hg hd ho hc hf ha hn hres hfree h
theorem z {p q : Prop} (h : q) (s : q → p := by
  first
  | with_reducible exact yN
  | with_reducible exact yR
  | with_reducible exact a0p
  | with_reducible exact a3C
  | with_reducible exact b9H
  | with_reducible exact c0c
  | with_reducible exact c2J
  | with_reducible exact c5W
  | with_reducible exact c4Q
  | with_reducible exact c6e
  | with_reducible exact c3z
  | with_reducible exact c5I
  | (with_reducible refine fun h => c1g ?_ h) <;> exact rfl
  | (with_reducible refine fun h => c2h ?_ h) <;> exact rfl
  | exact fun h => yA rfl rfl rfl h
  | exact fun h => yX rfl rfl rfl rfl rfl rfl h
  | exact fun h => c1z hT rfl rfl rfl rfl rfl rfl h
  | exact fun h => yS hT rfl rfl rfl rfl rfl rfl rfl rfl h
  | exact fun h => zO h
  | exact fun h => zG h
  | exact yN
  | exact fun h => a1x (a0v rfl) (eqB h)
  | exact fun h => a1x (a0v rfl) (eqI h)
  | exact fun h => a1x (a0v rfl) (eqS h)
  | exact fun h => b2M (a0v rfl) (eqB h)
  | exact fun h => b2M (a0v rfl) (eqI h)
  | exact fun h => b2M (a0v rfl) (eqS h)) : p := s h
end
end Go.Proofs.YtjkpoekgnmgofaaGreat

