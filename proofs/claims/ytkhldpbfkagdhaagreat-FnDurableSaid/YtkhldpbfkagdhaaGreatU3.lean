/-
  The rules of a small program logic over abstract states: no program is in sight but in the table of its types. Conditions: none.
-/
import Derived.Laws.CopyRow
import Derived.Laws.Externs
import Derived.Lib.AppendStr
import Derived.Lib.AppendZerosOnto
import Derived.Lib.Overlaps
import Derived.LoopN
import Derived.Shelf.RegionOpenPlain
import Derived.Shelf.Spec.SlicesInsert
import Derived.Test.YtkhldpbfkagdhaaGreatU2
namespace Go.Proofs.YtkhldpbfkagdhaaGreat
open Go.RowKit
set_option linter.unusedVariables false
set_option linter.unusedSimpArgs false
def SWX (b : Nat) (wb w : World) : Prop := wb.heap.size ≤ w.heap.size ∧ ∀ k, k < wb.heap.size → k ≠ b → w.heap[k]? = wb.heap[k]?
theorem SWX.refl (b : Nat) (w : World) : SWX b w w := ⟨Nat.le_refl _, fun _ _ _ => rfl⟩
theorem SWX.chg {b : Nat} {wb w w' : World} (h : SWX b wb w) (hc : Chg [b] w w') : SWX b wb w' := ⟨Nat.le_trans h.1 hc.size, fun k hk hn => (hc.block k (Nat.lt_of_lt_of_le hk h.1) (by simpa using hn)).trans (h.2 k hk hn)⟩
def c2o (o : Oper) : Bool := match o.op with | .store _ _ _ => true | _ => false
def hdW (ops : Array Oper) (i : Nat) : Bool := (ops.toList.take i).all b1r && (match ops[i]? with | some o => b1r o || c2o o | none => true)
structure OpsW (P : Program) (C : Ctx) (nt : Nat) (Q : Exit → St → Prop) (all : Array Oper) (oB oK : List Nat) (b : Nat) (listed : Array Bool) (fuel : Nat) (σ : St) : Prop where
 run : ∀ wb L a w, Rel P C nt L σ a w → SWX (L.bb b) wb w → C.w0.heap.size ≤ wb.heap.size → (∀ i ∈ oB, L.bb i < wb.heap.size) → (∀ k ∈ oK, ∀ b ∈ L.fp k, b < wb.heap.size) → a2m P .any all (QQ P C nt Q) (SWX (L.bb b) wb) (hdW all) fuel listed a w
section
variable {P : Program} {C : Ctx} {nt : Nat} {Q : Exit → St → Prop} {all : Array Oper} {oB oK : List Nat} {listed : Array Bool} {fuel b : Nat} {tm : List (Nat × SV)} {bx : List (Nat × TypeId × List CV)} {ks : List (Nat × Option KC)} {o : Oper} {d : Nat} {v X : SV} {Ks Bs : List Nat} {g : Bool} {x y : Operand} {T : TT}
theorem a9I (b : Nat) {id : Nat} {l : List Oper} (hm : P.follows .mixedOrders = true) (hb : (oB.all fun i => (look bx i).isSome) = true) (hk : (oK.all fun k => (lkk ⟨tm, bx, ks⟩ k).isSome) = true)
  (h : OpsW P C nt Q l.toArray oB oK b (Array.replicate l.length false) l.length ⟨tm, bx, ks⟩) : Ok P C nt Q (.region id l.toArray true) ⟨tm, bx, ks⟩ := Ok.mk fun L a w hr => by
 have hr' := a9f hr
 refine b0l (SWX (L.bb b) w.drew) (hdW l.toArray) hm ?_
 have := h.run w.drew L a w.drew hr' (SWX.refl _ _) hr'.chg.size (fun i hi => ?_) (fun k hk' b hb' => ?_)
 ·simpa using this
 ·obtain ⟨x, hx⟩ := c9h.1 (List.all_eq_true.1 hb i hi)
  exact hr'.bx_lt hx
 ·obtain ⟨c, hc⟩ := c9h.1 (List.all_eq_true.1 hk k hk')
  exact hr'.k_lt hc b hb'
theorem a1I (i : Nat) (hi : all[i]? = some o) (ht : a4G .any all (hdW all) listed i = true) (hg : o.guard = none) (hd : o.dst = some d) (hp : Pu P C nt o ⟨tm, bx, ks⟩ v Ks Bs) (h1 : (Ks.all fun k => oK.contains k && (lkk ⟨tm, bx, ks⟩ k).isSome) = true) (h2 : (Bs.all fun k => oB.contains k && (!(Nat.beq k b) && (look bx k).isSome)) = true) (h3 : (look bx b).isSome = true) (hn : Nat.blt d nt = true) (hk : a1p ⟨tm, bx, ks⟩ v = true)
  (h : OpsW P C nt Q all oB oK b (listed.setIfInBounds i true) fuel ⟨(d, v) :: tm, bx, ks⟩) : OpsW P C nt Q all oB oK b listed (fuel + 1) ⟨tm, bx, ks⟩ := ⟨fun wb L a w hr hs hw hB hK => by
 obtain ⟨r, q3, q4⟩ := hp.run L a w hr
 obtain ⟨xb, hxb⟩ := c9h.1 h3
 have hy : ∀ w', SWX (L.bb b) wb w' → (execOp a.eval o).run P w' = .ok (.value r) w' := fun w' hs' => q4 w' fun z _ hu => by
  have hz : z < wb.heap.size ∧ z ≠ L.bb b := by
   rcases hu with (⟨h5, h6⟩ | ⟨k, hk, hb⟩) | ⟨i, hi, rfl⟩
   ·refine ⟨by omega, fun e => ?_⟩
    rcases hr.b1 b xb hxb with g | g
    ·omega
    ·exact h6 (by rw [e]; exact g)
   ·have := List.all_eq_true.1 h1 k hk
    simp only [Bool.and_eq_true, List.contains_iff_mem] at this
    obtain ⟨c, hc⟩ := c9h.1 this.2
    exact ⟨hK k this.1 z hb, fun e => hr.bk b k xb c hxb hc (by rw [← e]; exact hb)⟩
   ·have := List.all_eq_true.1 h2 i hi
    simp only [Bool.and_eq_true, List.contains_iff_mem, Bool.not_eq_true'] at this
    obtain ⟨c, hc⟩ := c9h.1 this.2.2
    exact ⟨hB i this.1, hr.bb i b c xb hc hxb (Nat.ne_of_beq_eq_false this.2.1)⟩
  rw [hs'.2 z hz.1 hz.2, hs.2 z hz.1 hz.2]
 refine a7a i (v := r) hi ht (fun _ _ _ h => h) hs (.inl ⟨by simp [Region.wanted, hg], hy⟩) ?_
 rw [hd]
 exact h.run wb L _ w (hr.put (by simpa [Nat.blt_eq] using hn) q3 (a1R hk).1 (a1R hk).2) hs hw hB hK⟩
theorem a9c (i : Nat) {t j t' sz by_ : Nat} {zc cs : List CV} {p : Bool × List CV} (hi : all[i]? = some o) (ht : (Region.ready .any all listed == [i]) = true) (hg : o.guard = none) (hT : TTOk P T) (ho : o.op = .store t x y) (hd : o.dst = none) (hte : look T.el t = some (sz, by_, zc)) (hx : Ev P C nt ⟨tm, bx, ks⟩ x (.box b j)) (hy : Ev P C nt ⟨tm, bx, ks⟩ y v) (hp : v.part = some p) (hk : a1p ⟨tm, bx, ks⟩ v = true)
  (hb : look bx b = some (t', cs)) (hl : p.2.length = sz) (hle : Nat.ble (j + sz) cs.length = true) (hkc : (cs.flatMap CV.keys).all (fun k => (lkk ⟨tm, bx, ks⟩ k).isSome) = true)
  (h : OpsW P C nt Q all oB oK b (listed.setIfInBounds i true) fuel ⟨tm, (b, t', a1d j p.2 cs) :: bx, ks⟩) : OpsW P C nt Q all oB oK b listed (fuel + 1) ⟨tm, bx, ks⟩ := ⟨fun wb L a w hr hs hw hB hK => by
 refine a7Y i hi hg ht fun K hK' => ?_
 obtain ⟨us, h1, h2, h3⟩ := a4y hr hp hk (hy.run L a w hr)
 have h4 := hx.run L a w hr
 simp only [SVr] at h4
 obtain ⟨vs, h5, h6⟩ := hr.bx b t' cs hb
 obtain ⟨inf, z, g1, g2, _⟩ := hT.el t sz by_ zc hte
 have hrun := a7l (z := z) g1 g2 h1 (by rw [a2S h2]; exact hl) h3 h5 (off := j) (by rw [a2S h6]; simpa [Nat.ble_eq] using hle)
 unfold Oper.wp execOp
 simp only [ho, h4, Sem.run_bind, hrun, Result.andThen_ok, Sem.run_pure, Oper.upon, hd, Act.put]
 have hs' := hs.chg (a5W w (L.bb b) (a1d j us vs).toArray)
 refine hK' _ _ (fun _ => hs') (h.run wb L _ _ (hr.setbox hb (a5W _ _ _) (setRow_heap _ _ _ _ _ _ h5) (a9N j h6 h2) ?_) hs' hw hB hK)
 intro k hm
 simp only [a1d, List.flatMap_append, List.mem_append, or_assoc] at hm
 simp only [List.all_eq_true] at hkc
 rcases hm with hm | hm | hm
 ·exact hkc k (by
   obtain ⟨c, hc, hk'⟩ := List.mem_flatMap.1 hm
   exact List.mem_flatMap.2 ⟨c, List.mem_of_mem_take hc, hk'⟩)
 ·rw [a4X hp] at hm; exact (a1R hk).1 k hm
 ·exact hkc k (by
   obtain ⟨c, hc, hk'⟩ := List.mem_flatMap.1 hm
   exact List.mem_flatMap.2 ⟨c, List.mem_of_mem_drop hc, hk'⟩)⟩
theorem a9F (is : List Nat) (hm : (is.all fun i => (all[i]?).isSome) = true) (hf : Nat.ble is.length fuel = true) (hc : a7y .any all (hdW all) is listed = true) (h : Ops P C nt Q all (is.filterMap fun i => all[i]?) ⟨tm, bx, ks⟩) : OpsW P C nt Q all oB oK b listed fuel ⟨tm, bx, ks⟩ := ⟨fun wb L a w hr _ _ _ _ =>
 a9z is _ listed fuel a w (b0d hm) (by simpa [Nat.ble_eq] using hf) hc (h.run L a w hr)⟩
theorem a4V {k : Nat} {c c' : KC} (hk : lkk ⟨tm, bx, ks⟩ k = some c) (e : c = c') (ho : (⟨tm, bx, ks⟩ : St).okB = true) : Weak P C nt ⟨tm, bx, ks⟩ ⟨tm, bx, (k, some c') :: ks⟩ := Weak.mk fun L a w hr => by
 subst e
 have hl : ∀ i q, lkk ⟨tm, bx, (k, some c) :: ks⟩ i = some q → lkk ⟨tm, bx, ks⟩ i = some q := fun i q h => by
  simp only [lkk, a0W] at h
  split at h
  ·rename_i e; simp only [Option.join_some, Option.some.injEq] at h; rw [e, ← h]; exact hk
  ·exact h
 refine ⟨L, hr.sub' (fun _ _ h => h) (fun _ _ h => h) hl ?_⟩
 simp only [St.okB, Bool.and_eq_true, List.all_eq_true] at ho ⊢
 refine ⟨fun i hi => ?_, ho.2⟩
 have := ho.1 i hi
 simp only [lkk, a0W]
 split
 ·rfl
 ·exact this
theorem b1i {σ : St} {k : Nat} {c : KC} {dd : DV} (h : Pu P C nt o σ (.one (.key k)) Ks Bs) (hk : lkk σ k = some c) (hd : DV.sl c.e c.sz c.n c.cs = dd) : Pu P C nt o σ (.one (.dv [k] dd)) Ks Bs := Pu.mk fun L a w hr => by
 subst hd
 obtain ⟨r, h1, h2⟩ := h.run L a w hr
 simp only [SVr, CVr] at h1
 refine ⟨r, ?_, h2⟩
 simp only [SVr, CVr]
 rw [h1]
 exact a4l _ _ _ (hr.ks k c hk).1 (fun b hb => .inr ⟨k, by simp, hb⟩)
theorem a7O {oB oK : List Nat} {hd' : Nat → Bool} {tm : List (Nat × SV)} {bx : List (Nat × TypeId × List CV)} {ks : List (Nat × Option KC)} (i : Nat) (hT : TTOk P T) {t e sz by_ d k : Nat} {zc : List CV} {v : SV} {p : Bool × List CV} {ds : List DV} {js : List Nat} (hi : all[i]? = some o) (ht' : (Region.ready .any all listed == [i]) = true) (hg : o.guard = none) (ho : o.op = .buildSlice t 1 #[(0, x)]) (hd : o.dst = some d) (hn : Nat.blt d nt = true) (ht : look T.sl t = some e) (he : look T.el e = some (sz, by_, zc)) (hl0 : zc.length = sz) (hsz : Nat.blt 0 sz = true) (hsm : Nat.ble sz 16777216 = true)
  (hx : Ev P C nt ⟨tm, bx, ks⟩ x v) (hp : v.part = some p) (hkv : a1p ⟨tm, bx, ks⟩ v = true) (how : a3z ⟨tm, bx, ks⟩ p.2 ds js) (hnj : js.Nodup) (hkj : k ∉ js) (hl : p.2.length = sz) (hk : lkk ⟨tm, bx, ks⟩ k = none) (hnk : k ∉ oK)
  (h : OpsD P C nt Q all oB oK hd' (listed.setIfInBounds i true) fuel ⟨(d, .one (.key k)) :: a0p (k :: js) (k :: js) tm, a0k (k :: js) (k :: js) bx, (k, some ⟨false, e, sz, 1, ds⟩) :: ((js.map fun j => (j, none)) ++ (k, some ⟨false, e, sz, 0, []⟩) :: ks)⟩) : OpsD P C nt Q all oB oK hd' listed (fuel + 1) ⟨tm, bx, ks⟩ := ⟨fun wb L a w hr hs hw hB hK => by
 refine a7Y i hi hg ht' fun K hK' => ?_
 have hpos : 0 < sz := by simpa [Nat.blt_eq] using hsz
 obtain ⟨us, h1, h2, h3⟩ := a4y hr hp hkv (hx.run L a w hr)
 have hus : us.length = sz := by rw [a2S h2]; exact hl
 obtain ⟨o1, o2, o3⟩ := a8n hr how h2
 have hchg : Chg [] w (w.alloc (.cells us.toArray e)) := (Chg.refl [] w).alloc _
 have hr1 := hr.newkey (k := k) (c := ⟨false, e, sz, 0, []⟩) (v := .slice none 0 0) (f := []) hk (a6U w e sz hpos) rfl (by simp) (by simp) (by simp) (by simp)
 have hlj : ∀ j ∈ js, (lkk { (⟨tm, bx, ks⟩ : St) with ks := (k, some ⟨false, e, sz, 0, []⟩) :: ks } j).isSome = true := fun j hj => by
  have hjk : j ≠ k := fun e' => hkj (by rw [← e']; exact hj)
  have := o2 j hj
  simp only [lkk, a0W, if_neg hjk] at this ⊢
  exact this
 have hlt : ∀ b ∈ js.flatMap L.fp, b < w.heap.size := a4E _ _ _ o1
 have o1' : a0Q (w.alloc (.cells us.toArray e)) ds us (js.flatMap L.fp) := a2V _ _ _ o1 (fun b hb => hchg.block b (hlt b hb) (by simp))
 have hset := hr1.setkey (k := k) (c := ⟨false, e, sz, 0, []⟩) (c' := ⟨false, e, sz, 1, ds⟩) (js := js) (same := false) (w' := w.alloc (.cells us.toArray e)) (v' := .slice (some ⟨w.heap.size, 0, none⟩) 1 1) (f' := w.heap.size :: js.flatMap L.fp)
  (by simp [lkk, a0W]) hkj (by simpa using hchg)
  (by
   unfold Own
   refine ⟨us, js.flatMap L.fp, rfl, hpos, by rw [o3, hl, Nat.one_mul], a3I (hT.lt e _ he) ⟨by rw [hus, Nat.one_mul], .inr ⟨w.heap.size, 1, us.toArray, rfl, Nat.zero_le _, a8E w _, Nat.le_refl _, by simp [maxLen], by simp [hus], by rw [Nat.one_mul, ← hus]; simp⟩⟩, o1'⟩)
  (by
   rw [List.nodup_cons]
   exact ⟨fun hm => absurd (hlt _ hm) (by omega), a8K hr hnj o2⟩)
  (fun b hb => by
   rcases List.mem_cons.1 hb with hb | hb
   ·exact .inr (.inr (by omega))
   ·obtain ⟨j, hj, hb'⟩ := List.mem_flatMap.1 hb
    have hjk : j ≠ k := fun e' => hkj (by rw [← e']; exact hj)
    exact .inr (.inl ⟨j, hj, by simpa [hjk] using hb'⟩)) hlj (by simp) (by simp)
 refine a4U (v := .slice (some ⟨w.heap.size, 0, none⟩) 1 1) (w' := w.alloc (.cells us.toArray e)) ?_ ?_
 ·unfold execOp
  simp only [ho, List.map_toArray, List.map_cons, List.map_nil, b2Y (P := P) (w := w) hT ht he hl0 hpos (by simpa [Nat.ble_eq] using hsm) h1 hus, Sem.run_bind, Result.andThen_ok, Sem.run_pure]
 ·rw [hd]
  refine hK' _ _ (fun _ => hs.chg hchg) (h.run wb _ _ _ (hset.put (v := .one (.key k)) (r := .slice (some ⟨w.heap.size, 0, none⟩) 1 1) (by simpa [Nat.blt_eq] using hn) (by simp [SVr, CVr]) (by simp [SV.keys, CV.keys, a5o]) (by simp [SV.boxes])) (hs.chg hchg) hw hB fun z hz b hb => ?_)
  have hzk : z ≠ k := fun e' => hnk (by rw [← e']; exact hz)
  simp only [if_neg hzk] at hb
  exact hK z hz b hb⟩
end
open Go.Proofs
section
variable {P : Program} {C : Ctx} {nt : Nat} {σ : St} {L : Lyt} {a : Act} {w : World} {o : Oper} {x y : Operand} {T : TT}
theorem c6x {e : TypeId} {z : Value} {sz by_ : Nat} (h : (P.info? e).map (fun i => (i.zero, i.size, i.bytes)) = some (some z, sz, by_)) : ∃ i, P.info? e = some i ∧ i.zero = some z ∧ i.size = sz ∧ i.bytes = by_ := by
 cases hi : P.info? e with
 | none => rw [hi] at h; cases h
 | some i =>
  rw [hi] at h
  simp only [Option.map_some, Option.some.injEq, Prod.mk.injEq] at h
  exact ⟨i, rfl, h.1, h.2.1, h.2.2⟩
theorem c8q (w : World) (t u ty e : TypeId) (ht : P.underlying t = some (.slice e)) (hu : P.underlying u = some .string) (hinfo : (P.info? e).map (fun i => (i.zero, i.size, i.bytes)) = some (some (.int .u8 0), 1, 1))
  (v : Value) (n : Nat) (xs : List Value) (hown : w.ownsRow 0 e 1 v n xs) (s : ByteArray) (h63 : n + s.size ≤ maxLen) (hbytes : n + s.size ≤ 140737488355328) :
  ∃ A' c' w', (Builtin.append_ #[t, u] ty #[v, .string s]).run P w = .ok (.slice A' (n + s.size) c') w' ∧ w'.ownsRow 0 e 1 (.slice A' (n + s.size) c') (n + s.size) (xs ++ Lib.strCells s) ∧ Chg v.ownBlock.toList w w' ∧
   (v.ownBlock = (Value.slice A' (n + s.size) c').ownBlock ∨ (Value.slice A' (n + s.size) c').ownBlock = some w.heap.size) := by
 obtain ⟨i, hi, hz, hs, hb⟩ := c6x hinfo
 obtain ⟨v', w', hr, h2, h3, h4⟩ := Lib.run_append_own_string (P := P) w 0 t u ty e i ht hu hi hz hs hb v n xs hown s h63 hbytes (Nat.zero_le _)
 have hsmall : n + s.size ≤ 9223372036854775807 := by simp only [maxLen] at h63; omega
 have hk : v'.ownBlock = v.ownBlock ∨ v'.ownBlock = some w.heap.size := by
  rcases hown.2 with ⟨rfl, rfl⟩ | ⟨g, cap, cur, rfl, hbg, hg, hnc, hcm, hcs, htake⟩
  ·by_cases hm : s.size = 0
   ·rw [h4.2 ⟨rfl, hm⟩]; exact .inl rfl
   ·have hr' := run_append_nil_string (P := P) w t u ty e i (.int .u8 0) ht hu hi hz s (by omega) (by omega) (by rw [hb]; omega)
    rw [hr'] at hr
    simp only [Result.ok.injEq] at hr
    rw [← hr.1]; exact .inr rfl
  ·by_cases hroom : n + s.size ≤ cap
   ·have hr' := Lib.run_append_room_string (P := P) w t u ty e i ht hu hi hs g n cap cur hg s hroom (by omega)
    rw [hr'] at hr
    simp only [Result.ok.injEq] at hr
    rw [← hr.1]; exact .inl rfl
   ·have hr' := Lib.run_append_grow_string (P := P) w t u ty e i (.int .u8 0) ht hu hi hz ⟨g, 0, none⟩ n cap xs (by rw [hs]; simpa using hown.1) (hown.cells (g := g) rfl) s (by omega) (by omega) (by rw [hb]; exact growslice_fits (by omega) (by omega))
    rw [hr'] at hr
    simp only [Result.ok.injEq] at hr
    rw [← hr.1]; exact .inr rfl
 obtain ⟨A', c', rfl, _⟩ := b5r h2
 refine ⟨A', c', w', hr, h2, (Chg.refl _ w).grown h3 (fun g hg => .inl (by rw [hg]; simp)), ?_⟩
 rcases hk with hk | hk
 ·exact .inl hk.symm
 ·exact .inr hk
theorem c1Y (hT : TTOk P T) {t u e d k : Nat} {q : Unit} {c : KC} {J : List Nat} {s : ByteArray} (ho : o.op = .call { callee := .builtin .append, args := #[x, y], argTypes := #[t, u] }) (hd : o.dst = some d) (hnt : Nat.blt d nt = true) (ht : look T.sl t = some e) (hu : look T.st u = some q) (hinfo : (P.info? e).map (fun i => (i.zero, i.size, i.bytes)) = some (some (.int .u8 0), 1, 1)) (he : Nat.blt e 1000000 = true)
  (hx : Ev P C nt σ x (.one (.key k))) (hk : lkk σ k = some c) (hce : c.e = e) (hcs : c.sz = 1) (hy : Ev P C nt σ y (.one (.dv J (.str s)))) (hb : c.n + s.size ≤ 140737488355328) :
  Ef P C nt o σ (fun σ' => σ' = (σ.mut k [] false ⟨false, e, 1, c.n + s.size, c.cs ++ s.data.toList.flatMap fun b : UInt8 => [DV.int .u8 (b.toNat : Int)]⟩).put d (.one (.key k))) := Ef.mk fun L a w hr K Q hK => by
 have h1 := hx.run L a w hr
 have h2 := hy.run L a w hr
 simp only [SVr, CVr, Lay] at h1 h2
 subst hce
 have hE' : c.e < 1000000 := by simpa [Nat.blt_eq] using he
 have hown := (hr.ks k c hk).1
 simp only [Own] at hown
 obtain ⟨vs, f, e3, h5, h6, h7, h8⟩ := hown
 have h7 := h7.1 hE'
 rw [hcs] at h7
 have hcells : Lib.strCells s = s.data.toList.map fun b => Value.int .u8 (b.toNat : Int) := rfl
 obtain ⟨A', c', w', hrun, g2, g3, g4⟩ := c8q (P := P) w t u o.type c.e (hT.sl t c.e ht) (hT.st u q hu) hinfo (L.rv k) c.n vs h7 s (by simp only [maxLen]; omega) hb
 unfold Oper.wp execOp
 simp only [ho, resolve, invoke, builtin, Sem.run_bind, Sem.run_pure, Result.andThen_ok, List.map_toArray, List.map_cons, List.map_nil, h1, h2.1, hrun]
 have hl : (s.data.toList.flatMap fun b : UInt8 => [DV.int .u8 (b.toNat : Int)]).length = s.size * c.sz := by rw [hcs, Nat.mul_one, b9i]; rfl
 rw [hcells, ← hcs] at g2
 exact c8K (js := []) (m := s.size) (us := s.data.toList.map fun b => Value.int .u8 (b.toNat : Int)) (ds := s.data.toList.flatMap fun b : UInt8 => [DV.int .u8 (b.toNat : Int)]) (f2 := []) hd (by simpa [Nat.blt_eq] using hnt) hr hk hE' (by simp) (by simp) hl (b0u w _) (by simp) (by simp) e3 h5 h6 h8 g2 g3 g4 (fun L' a' w' h => hK L' _ _ _ (by rw [hcs]) h)
theorem b2T {t ty : TypeId} {K J : List Nat} {k : IntKind} {m n : Int} (ho : o.op = .binOp .mul t x y ty) (hx : Ev P C nt σ x (.one (.dv K (.int k m)))) (hy : Ev P C nt σ y (.one (.dv J (.int k n)))) (h : InR k (m * n)) : Pu P C nt o σ (.one (.dv [] (.int k (m * n)))) [] [] := by
 have := b4c ho hx hy
 rwa [b1m h] at this
/-! slices with several elements -/
def a4Y (P : Program) (C : Ctx) (nt : Nat) (σ : St) (sz : Nat) : Nat → List (Nat × Operand) → List CV → Prop
 | _, [], cs => cs = []
 | i, (j, x) :: ps, cs => ∃ v p cs', j = i ∧ Ev P C nt σ x v ∧ v.part = some p ∧ a1p σ v = true ∧ p.2.length = sz ∧ cs = p.2 ++ cs' ∧ a4Y P C nt σ sz (i + 1) ps cs'
theorem a2Z {sz i : Nat} : a4Y P C nt σ sz i [] [] := rfl
theorem a0Y {sz i : Nat} {v : SV} {p : Bool × List CV} {ps : List (Nat × Operand)} {cs' : List CV} (hx : Ev P C nt σ x v) (hp : v.part = some p) (hk : a1p σ v = true) (hl : p.2.length = sz) (h : a4Y P C nt σ sz (i + 1) ps cs') : a4Y P C nt σ sz i ((i, x) :: ps) (p.2 ++ cs') := ⟨v, p, cs', rfl, hx, hp, hk, hl, rfl, h⟩
theorem b7p (hr : Rel P C nt L σ a w) {sz : Nat} : ∀ {ps : List (Nat × Operand)} {i : Nat} {cs : List CV} {done rest : List Value}, a4Y P C nt σ sz i ps cs → done.length = i * sz → rest.length = ps.length * sz →
  ∃ us, Instr.fill (fun i => some (i * sz, sz)) (done ++ rest).toArray (ps.map fun q => (q.1, a.eval q.2)) = some (done ++ us).toArray ∧ CVL C L w cs us
 | [], i, cs, done, rest, h, hd, hl => by
  simp only [a4Y] at h; subst h
  have : rest = [] := List.eq_nil_of_length_eq_zero (by simpa using hl)
  subst this
  exact ⟨[], rfl, rfl⟩
 | (j, x) :: ps, i, cs, done, rest, ⟨v, p, cs', e, h1, h2, h3, h4, h5, h6⟩, hd, hl => by
  subst e; subst h5
  obtain ⟨xs, k1, k2, k3⟩ := a4y hr h2 h3 (h1.run L a w hr)
  have hxl : xs.length = sz := by rw [a2S k2]; exact h4
  rw [List.length_cons, Nat.add_mul, Nat.one_mul] at hl
  obtain ⟨us, g1, g2⟩ := b7p hr (done := done ++ xs) (rest := rest.drop sz) h6 (by rw [c9i, hd, hxl, Nat.add_mul, Nat.one_mul]) (by rw [List.length_drop]; omega)
  refine ⟨xs ++ us, ?_, b1B k2 g2⟩
  rw [List.map_cons, b4a (off := j * sz) (sz := sz) rfl k1 hxl (by rw [c9i]; omega)]
  have e : a1d (j * sz) xs (done ++ rest) = done ++ xs ++ rest.drop sz := by
   unfold a1d
   rw [← hd, List.take_left, hxl, List.drop_append]
   simp
  rw [e, g1, List.append_assoc]
theorem b2f (hT : TTOk P T) {t e sz by_ d k n : Nat} {zc cs : List CV} {ds : List DV} {js : List Nat} {ps : List (Nat × Operand)} (ho : o.op = .buildSlice t n ps.toArray) (hd : o.dst = some d) (hn : Nat.blt d nt = true) (ht : look T.sl t = some e) (he : look T.el e = some (sz, by_, zc)) (hl0 : zc.length = sz) (hsz : Nat.blt 0 sz = true) (hsm : Nat.ble (n * sz) 16777216 = true) (hps : ps.length = n) (hn0 : Nat.blt 0 n = true)
  (hx : a4Y P C nt σ sz 0 ps cs) (how : a3z σ cs ds js) (hnj : js.Nodup) (hkj : k ∉ js) (hcl : cs.length = n * sz) (hk : lkk σ k = none) :
  EfG P C nt o σ (fun σ' => σ' = (St.mut { σ with ks := (k, some ⟨false, e, sz, 0, []⟩) :: σ.ks } k js false ⟨false, e, sz, n, ds⟩).put d (.one (.key k))) := EfG.mk fun L a w hr K Q hK => by
 have hpos : 0 < sz := by simpa [Nat.blt_eq] using hsz
 have hnp : 0 < n := by simpa [Nat.blt_eq] using hn0
 have hsm' : n * sz ≤ 16777216 := by simpa [Nat.ble_eq] using hsm
 obtain ⟨inf, z, g1, g2, g3, g4, g5⟩ := hT.el e sz by_ zc he
 obtain ⟨us, f1, h2⟩ := b7p hr (sz := sz) (done := []) (rest := ((List.range (n * sz)).map fun j => z.cells[j % z.cells.size]!)) hx (by simp) (by simp [hps])
 have hus : us.length = n * sz := by rw [a2S h2]; exact hcl
 obtain ⟨o1, o2, o3⟩ := a8n hr how h2
 have hchg : Chg [] w (w.alloc (.cells us.toArray e)) := (Chg.refl [] w).alloc _
 have hr1 := hr.newkey (k := k) (c := ⟨false, e, sz, 0, []⟩) (v := .slice none 0 0) (f := []) hk (a6U w e sz hpos) rfl (by simp) (by simp) (by simp) (by simp)
 have hlj : ∀ j ∈ js, (lkk { σ with ks := (k, some ⟨false, e, sz, 0, []⟩) :: σ.ks } j).isSome = true := fun j hj => by
  have hjk : j ≠ k := fun e' => hkj (by rw [← e']; exact hj)
  have := o2 j hj
  simp only [lkk, a0W, if_neg hjk] at this ⊢
  exact this
 have hlt : ∀ b ∈ js.flatMap L.fp, b < w.heap.size := a4E _ _ _ o1
 have o1' : a0Q (w.alloc (.cells us.toArray e)) ds us (js.flatMap L.fp) := a2V _ _ _ o1 (fun b hb => hchg.block b (hlt b hb) (by simp))
 have hset := hr1.setkey (k := k) (c := ⟨false, e, sz, 0, []⟩) (c' := ⟨false, e, sz, n, ds⟩) (js := js) (same := false) (w' := w.alloc (.cells us.toArray e)) (v' := .slice (some ⟨w.heap.size, 0, none⟩) n n) (f' := w.heap.size :: js.flatMap L.fp)
  (by simp [lkk, a0W]) hkj (by simpa using hchg)
  (by
   unfold Own
   have hnm : n ≤ maxLen := by
    have : n * 1 ≤ n * sz := Nat.mul_le_mul_left _ hpos
    simp only [maxLen]; omega
   refine ⟨us, js.flatMap L.fp, rfl, hpos, by rw [o3, hcl], a3I (hT.lt e _ he) ⟨hus, .inr ⟨w.heap.size, n, us.toArray, rfl, Nat.zero_le _, a8E w _, Nat.le_refl _, hnm, by simp [hus], by rw [← hus]; simp⟩⟩, o1'⟩)
  (by
   rw [List.nodup_cons]
   exact ⟨fun hm => absurd (hlt _ hm) (by omega), a8K hr hnj o2⟩)
  (fun b hb => by
   rcases List.mem_cons.1 hb with hb | hb
   ·exact .inr (.inr (by omega))
   ·obtain ⟨j, hj, hb'⟩ := List.mem_flatMap.1 hb
    have hjk : j ≠ k := fun e' => hkj (by rw [← e']; exact hj)
    exact .inr (.inl ⟨j, hj, by simpa [hjk] using hb'⟩)) hlj (by simp) (by simp)
 have hrun : (Instr.buildSlice t n (ps.map fun q => (q.1, a.eval q.2)).toArray).run P w = .ok (.slice (some ⟨w.heap.size, 0, none⟩) n n) (w.alloc (.cells us.toArray e)) := by
  refine run_buildSlice w t e n _ us.toArray inf z (hT.sl t e ht) g1 g4 (by rw [g2]; omega) (by rw [g2]; have := Nat.mul_pos hnp hpos; omega) ?_
  rw [g2]
  have e1 : ((Array.range (n * sz)).map fun j => z.cells[j % z.cells.size]!) = (((List.range (n * sz)).map fun j => z.cells[j % z.cells.size]!)).toArray := by
   apply Array.ext'
   simp
  rw [e1]
  simpa using f1
 refine a4U (v := .slice (some ⟨w.heap.size, 0, none⟩) n n) (w' := w.alloc (.cells us.toArray e)) ?_ ?_
 ·unfold execOp
  simp only [ho, List.map_toArray, hrun, Sem.run_bind, Result.andThen_ok, Sem.run_pure]
 ·rw [hd]
  refine hK _ _ _ _ rfl (hset.put (v := .one (.key k)) (r := .slice (some ⟨w.heap.size, 0, none⟩) n n) (by simpa [Nat.blt_eq] using hn) (by simp [SVr, CVr]) (by simp [SV.keys, CV.keys, a5o]) (by simp [SV.boxes])) ⟨hchg, fun i c hc => ?_, fun _ _ _ => rfl⟩
  have : i ≠ k := fun e => by rw [e, hk] at hc; cases hc
  simp [this]
end
section
variable {P : Program} {C : Ctx} {nt : Nat} {o : Oper} {x y : Operand} {T : TT} {Q : Exit → St → Prop} {all : Array Oper} {rest : List Oper} {tm : List (Nat × SV)} {bx : List (Nat × TypeId × List CV)} {ks : List (Nat × Option KC)}
theorem b9K (hT : TTOk P T) {t u e d k : Nat} {q : Unit} {c : KC} {J : List Nat} {s : ByteArray} {cs : List DV} (hg : o.guard = none) (hd : o.dst = some d) (ho : o.op = .call { callee := .builtin .append, args := #[x, y], argTypes := #[t, u] }) (hnt : Nat.blt d nt = true) (ht : look T.sl t = some e) (hu : look T.st u = some q) (hinfo : (P.info? e).map (fun i => (i.zero, i.size, i.bytes)) = some (some (.int .u8 0), 1, 1)) (he : Nat.blt e 1000000 = true)
  (hx : Ev P C nt ⟨tm, bx, ks⟩ x (.one (.key k))) (hk : lkk ⟨tm, bx, ks⟩ k = some c) (hce : c.e = e) (hcs : c.sz = 1) (hy : Ev P C nt ⟨tm, bx, ks⟩ y (.one (.dv J (.str s)))) (hb : c.n + s.size ≤ 140737488355328) {n : Nat} (hn : c.n + s.size = n) (hcc : (c.cs ++ s.data.toList.flatMap fun b : UInt8 => [DV.int .u8 (b.toNat : Int)]) = cs)
  (h : Ops P C nt Q all rest ⟨(d, .one (.key k)) :: a0p [k] [k] tm, a0k [k] [k] bx, (k, some ⟨false, e, 1, n, cs⟩) :: ks⟩) : Ops P C nt Q all (o :: rest) ⟨tm, bx, ks⟩ :=
 a3L hg (c1Y hT ho hd hnt ht hu hinfo he hx hk hce hcs hy hb) (by subst hn; subst hcc; exact h)
theorem a9R (hT : TTOk P T) {t e sz by_ d k n : Nat} {zc cs : List CV} {ds : List DV} {js : List Nat} {ps : List (Nat × Operand)} (hg : o.guard = none) (hd : o.dst = some d) (ho : o.op = .buildSlice t n ps.toArray) (hn : Nat.blt d nt = true) (ht : look T.sl t = some e) (he : look T.el e = some (sz, by_, zc)) (hl0 : zc.length = sz) (hsz : Nat.blt 0 sz = true) (hsm : Nat.ble (n * sz) 16777216 = true) (hps : ps.length = n) (hn0 : Nat.blt 0 n = true)
  (hx : a4Y P C nt ⟨tm, bx, ks⟩ sz 0 ps cs) (how : a3z ⟨tm, bx, ks⟩ cs ds js) (hnj : js.Nodup) (hkj : k ∉ js) (hcl : cs.length = n * sz) (hk : lkk ⟨tm, bx, ks⟩ k = none)
  (h : Ops P C nt Q all rest ⟨(d, .one (.key k)) :: a0p (k :: js) (k :: js) tm, a0k (k :: js) (k :: js) bx, (k, some ⟨false, e, sz, n, ds⟩) :: ((js.map fun j => (j, none)) ++ (k, some ⟨false, e, sz, 0, []⟩) :: ks)⟩) : Ops P C nt Q all (o :: rest) ⟨tm, bx, ks⟩ :=
 a3L hg (b2f hT ho hd hn ht he hl0 hsz hsm hps hn0 hx how hnj hkj hcl hk).ef h
end
section
variable {P : Program} {C : Ctx} {nt : Nat} {o : Oper} {x y : Operand} {T : TT} {Q : Exit → St → Prop} {all : Array Oper} {tm : List (Nat × SV)} {bx : List (Nat × TypeId × List CV)} {ks : List (Nat × Option KC)} {oB oK : List Nat} {hd' : Nat → Bool} {listed : Array Bool} {fuel : Nat}
theorem a7J (i : Nat) (hT : TTOk P T) {s t e d k : Nat} {u : Unit} {J : List Nat} {v : ByteArray} (hi : all[i]? = some o) (hy : (Region.ready .any all listed == [i]) = true) (hg : o.guard = none) (hd : o.dst = some d) (ho : o.op = .convert s t x) (hn : Nat.blt d nt = true) (hs : look T.st s = some u) (ht : look T.sl t = some e) (he : look T.it e = some .u8)
  (hx : Ev P C nt ⟨tm, bx, ks⟩ x (.one (.dv J (.str v)))) (hk : lkk ⟨tm, bx, ks⟩ k = none) (hb : (oB.all fun i => (look bx i).isSome) = true) (hk' : (oK.all fun k => (lkk ⟨tm, bx, ks⟩ k).isSome) = true)
  (h : OpsD P C nt Q all oB oK hd' (listed.setIfInBounds i true) fuel ⟨(d, .one (.key k)) :: tm, bx, (k, some ⟨false, 1000005, 1, v.data.toList.length, v.data.toList.flatMap fun b : UInt8 => [DV.int .u8 (b.toNat : Int)]⟩) :: ks⟩) : OpsD P C nt Q all oB oK hd' listed (fuel + 1) ⟨tm, bx, ks⟩ :=
 b0H i hi hy hg (b7C hT ho hd hn hs ht he hx hk) hb hk' fun σ' e => by rw [e]; exact h
theorem a4F (i : Nat) (hT : TTOk P T) {t e sz by_ d k n : Nat} {zc cs : List CV} {ds : List DV} {js : List Nat} {ps : List (Nat × Operand)} (hi : all[i]? = some o) (hy : (Region.ready .any all listed == [i]) = true) (hg : o.guard = none) (hd : o.dst = some d) (ho : o.op = .buildSlice t n ps.toArray) (hn : Nat.blt d nt = true) (ht : look T.sl t = some e) (he : look T.el e = some (sz, by_, zc)) (hl0 : zc.length = sz) (hsz : Nat.blt 0 sz = true) (hsm : Nat.ble (n * sz) 16777216 = true) (hps : ps.length = n) (hn0 : Nat.blt 0 n = true)
  (hx : a4Y P C nt ⟨tm, bx, ks⟩ sz 0 ps cs) (how : a3z ⟨tm, bx, ks⟩ cs ds js) (hnj : js.Nodup) (hkj : k ∉ js) (hcl : cs.length = n * sz) (hk : lkk ⟨tm, bx, ks⟩ k = none)
  (hb : (oB.all fun i => (look bx i).isSome) = true) (hk' : (oK.all fun k => (lkk ⟨tm, bx, ks⟩ k).isSome) = true)
  (h : OpsD P C nt Q all oB oK hd' (listed.setIfInBounds i true) fuel ⟨(d, .one (.key k)) :: a0p (k :: js) (k :: js) tm, a0k (k :: js) (k :: js) bx, (k, some ⟨false, e, sz, n, ds⟩) :: ((js.map fun j => (j, none)) ++ (k, some ⟨false, e, sz, 0, []⟩) :: ks)⟩) : OpsD P C nt Q all oB oK hd' listed (fuel + 1) ⟨tm, bx, ks⟩ :=
 b0H i hi hy hg (b2f hT ho hd hn ht he hl0 hsz hsm hps hn0 hx how hnj hkj hcl hk) hb hk' fun σ' e => by rw [e]; exact h
end
structure OpsJ (P : Program) (C : Ctx) (nt : Nat) (Q : Exit → St → Prop) (all : Array Oper) (oB oK : List Nat) (hd : Nat → Bool) (listed : Array Bool) (fuel : Nat) (i : Nat) (σ : St) : Prop where
 run : ∀ wb L a w, Rel P C nt L σ a w → SW wb w → C.w0.heap.size ≤ wb.heap.size → (∀ i ∈ oB, L.bb i < wb.heap.size) → (∀ k ∈ oK, ∀ b ∈ L.fp k, b < wb.heap.size) →
  wpOp P all (QQ P C nt Q) i (fun a' w' => (hd i = true → SW wb w') ∧ a2m P .any all (QQ P C nt Q) (SW wb) hd fuel (listed.setIfInBounds i true) a' w') a w
def b3v (P : Program) (C : Ctx) (nt : Nat) (Q : Exit → St → Prop) (all : Array Oper) (oB oK : List Nat) (hd : Nat → Bool) (listed : Array Bool) (fuel : Nat) (σ : St) : List Nat → Prop
 | [] => True
 | i :: is => OpsJ P C nt Q all oB oK hd listed fuel i σ ∧ b3v P C nt Q all oB oK hd listed fuel σ is
section
variable {P : Program} {C : Ctx} {nt : Nat} {Q : Exit → St → Prop} {all : Array Oper} {oB oK : List Nat} {listed : Array Bool} {fuel : Nat} {hd' : Nat → Bool} {tm : List (Nat × SV)} {bx : List (Nat × TypeId × List CV)} {ks : List (Nat × Option KC)} {o : Oper} {d : Nat} {v X : SV} {Ks Bs : List Nat} {g : Bool} {σ : St} {x : Operand} {T : TT}
theorem b5L : ∀ {is : List Nat}, b3v P C nt Q all oB oK hd' listed fuel σ is → ∀ i ∈ is, OpsJ P C nt Q all oB oK hd' listed fuel i σ
 | [], _, _, hi => by cases hi
 | j :: is, h, i, hi => by
  rcases List.mem_cons.1 hi with rfl | hi
  ·exact h.1
  ·exact b5L h.2 i hi
theorem a5S (i : Nat) (is : List Nat) (hr : (Region.ready .any all listed == i :: is) = true) (h : b3v P C nt Q all oB oK hd' listed fuel σ (i :: is)) : OpsD P C nt Q all oB oK hd' listed (fuel + 1) σ := ⟨fun wb L a w hrel hs hw hB hK => by
 have hr' : Region.ready .any all listed = i :: is := by simpa using hr
 refine ⟨fun h0 => (by rw [hr'] at h0; cases h0), fun j hj => ?_⟩
 rw [hr'] at hj
 exact (b5L h j hj).run wb L a w hrel hs hw hB hK⟩
theorem c0J (i : Nat) {R : St → Prop} (hi : all[i]? = some o) (hg : o.guard = none) (hp : EfG P C nt o ⟨tm, bx, ks⟩ R) (hb : (oB.all fun i => (look bx i).isSome) = true) (hk : (oK.all fun k => (lkk ⟨tm, bx, ks⟩ k).isSome) = true)
  (h : ∀ σ', R σ' → OpsD P C nt Q all oB oK hd' (listed.setIfInBounds i true) fuel σ') : OpsJ P C nt Q all oB oK hd' listed fuel i ⟨tm, bx, ks⟩ := ⟨fun wb L a w hr hs hw hB hK => by
 unfold wpOp
 simp only [hi]
 have hw' : Region.wanted o (yielded all a.tmps) = true := by simp [Region.wanted, hg]
 rw [if_pos hw']
 refine .inl (hp.run L a w hr _ _ fun L' σ' a' w' h1 h2 h3 => ⟨fun _ => hs.chg h3.chg, (h σ' h1).run wb L' a' w' h2 (hs.chg h3.chg) hw (fun j hj => ?_) (fun k hk' => ?_)⟩)
 ·obtain ⟨x, hx⟩ := c9h.1 (List.all_eq_true.1 hb j hj)
  rw [h3.box j x hx]; exact hB j hj
 ·obtain ⟨c, hc⟩ := c9h.1 (List.all_eq_true.1 hk k hk')
  rw [h3.key k c hc]; exact hK k hk'⟩
theorem a6J (m i : Nat) {f : FuncId} {xs : List Operand} {ats : Array TypeId} {us : List SV} {kk : List (Nat × Option KC)} (hi : all[i]? = some o) (hg : o.guard = none) (hd : o.dst = some d) (ho : o.op = .call { callee := .value (.func f), args := xs.toArray, argTypes := ats })
  (hc : ∀ (args : Array Value) (w : World), (callFunc f args).run P w = .ok (.enter f args) w) (hf : KFn P f us v kk) (ha : a2b P C nt ⟨tm, bx, ks⟩ xs us) (hn : Nat.blt d nt = true) (hres : v.retOk = true) (hfree : (kk.all fun q => (lkk ⟨tm, bx, ks⟩ (m + q.1)).isNone) = true)
  (hb : (oB.all fun i => (look bx i).isSome) = true) (hk : (oK.all fun k => (lkk ⟨tm, bx, ks⟩ k).isSome) = true)
  (h : OpsD P C nt Q all oB oK hd' (listed.setIfInBounds i true) fuel ⟨(d, v.sh m) :: tm, bx, shK m kk ++ ks⟩) : OpsJ P C nt Q all oB oK hd' listed fuel i ⟨tm, bx, ks⟩ :=
 c0J i hi hg (a7c (ι := Unit) (v := fun _ => v) (kk := fun _ => kk) (p := fun _ => True) m ho hd hn hc hf.ok ha (fun u σ' h => ⟨(), h.1, h.2, trivial⟩) (fun _ => hres) (fun _ => hfree)) hb hk fun σ' ⟨_, _, e⟩ => by rw [e]; exact h
theorem a4K (i : Nat) (hT : TTOk P T) {s t e d k : Nat} {u : Unit} {J : List Nat} {v : ByteArray} (hi : all[i]? = some o) (hg : o.guard = none) (hd : o.dst = some d) (ho : o.op = .convert s t x) (hn : Nat.blt d nt = true) (hs : look T.st s = some u) (ht : look T.sl t = some e) (he : look T.it e = some .u8)
  (hx : Ev P C nt ⟨tm, bx, ks⟩ x (.one (.dv J (.str v)))) (hk : lkk ⟨tm, bx, ks⟩ k = none) (hb : (oB.all fun i => (look bx i).isSome) = true) (hk' : (oK.all fun k => (lkk ⟨tm, bx, ks⟩ k).isSome) = true)
  (h : OpsD P C nt Q all oB oK hd' (listed.setIfInBounds i true) fuel ⟨(d, .one (.key k)) :: tm, bx, (k, some ⟨false, 1000005, 1, v.data.toList.length, v.data.toList.flatMap fun b : UInt8 => [DV.int .u8 (b.toNat : Int)]⟩) :: ks⟩) : OpsJ P C nt Q all oB oK hd' listed fuel i ⟨tm, bx, ks⟩ :=
 c0J i hi hg (b7C hT ho hd hn hs ht he hx hk) hb hk' fun σ' e => by rw [e]; exact h
inductive DSame : DV → DV → Prop where
 | refl (d : DV) : DSame d d
 | sl (e e' sz n : Nat) (cs cs' : List DV) (hl : cs.length = cs'.length) (h : ∀ (i : Nat) d d', cs[i]? = some d → cs'[i]? = some d' → DSame d d') : DSame (.sl e sz n cs) (.sl e' sz n cs')
theorem c3X {ok : Nat → Prop} {w : World} {d d' : DV} (h : DSame d d') : ∀ {v : Value}, Lay ok w d v → Lay ok w d' v := by
 induction h with
 | refl d => exact fun h => h
 | sl e e' sz n cs cs' hl h ih =>
  intro v hv
  simp only [Lay] at hv ⊢
  obtain ⟨A, c, vs, h1, h2, h3, h4, h5, h6, h7⟩ := hv
  refine ⟨A, c, vs, h1, h2, h3, h4, hl ▸ h5, ?_, h7⟩
  clear h5 h7 h1
  induction cs generalizing cs' vs with
  | nil =>
   cases cs' with
   | nil => exact h6
   | cons x xs => simp at hl
  | cons x xs ih2 =>
   cases cs' with
   | nil => simp at hl
   | cons y ys =>
    simp only [a1m] at h6 ⊢
    obtain ⟨v, vs', rfl, k1, k2⟩ := h6
    exact ⟨v, vs', rfl, ih 0 x y rfl rfl k1, ih2 ys (by simpa using hl) (fun i d d' hd hd' => h (i + 1) d d' (by simpa using hd) (by simpa using hd')) (fun i d d' hd hd' => ih (i + 1) d d' (by simpa using hd) (by simpa using hd')) vs' k2⟩
def a7t : List DV → List DV → Prop
 | [], [] => True
 | d :: ds, d' :: ds' => DSame d d' ∧ a7t ds ds'
 | _, _ => False
theorem c0I : ∀ {cs cs' : List DV}, a7t cs cs' → cs.length = cs'.length
 | [], [], _ => rfl
 | _ :: _, _ :: _, h => by simp [c0I h.2]
 | [], _ :: _, h => h.elim
 | _ :: _, [], h => h.elim
theorem b8u : ∀ {cs cs' : List DV}, a7t cs cs' → ∀ (i : Nat) d d', cs[i]? = some d → cs'[i]? = some d' → DSame d d'
 | [], [], _, i, _, _, h, _ => by simp at h
 | x :: xs, y :: ys, h, 0, d, d', h1, h2 => by
  simp only [List.getElem?_cons_zero, Option.some.injEq] at h1 h2
  rw [← h1, ← h2]; exact h.1
 | x :: xs, y :: ys, h, i + 1, d, d', h1, h2 => b8u h.2 i d d' (by simpa using h1) (by simpa using h2)
 | [], _ :: _, h, _, _, _, _, _ => h.elim
 | _ :: _, [], h, _, _, _, _, _ => h.elim
theorem c1h {e e' sz n : Nat} {cs cs' : List DV} (h : a7t cs cs') : DSame (.sl e sz n cs) (.sl e' sz n cs') := .sl e e' sz n cs cs' (c0I h) (b8u h)
theorem b1p {e e' sz n : Nat} {cs : List DV} : DSame (.sl e sz n cs) (.sl e' sz n cs) := .sl e e' sz n cs cs rfl (fun i d d' h1 h2 => by rw [h1] at h2; cases h2; exact .refl d)
theorem c5F : a7t [] [] := trivial
theorem b1d {d d' : DV} {ds ds' : List DV} (h : DSame d d') (h2 : a7t ds ds') : a7t (d :: ds) (d' :: ds') := ⟨h, h2⟩
theorem c4J {d k : Nat} {c : KC} {dd : DV} (hd : look σ.tm d = some (.one (.key k))) (hk : lkk σ k = some c) (hs : DSame (.sl c.e c.sz c.n c.cs) dd) : Weak P C nt σ (σ.put d (.one (.dv [k] dd))) := Weak.mk fun L a w hr => by
 have hv := hr.tm d _ hd
 simp only [SVr, CVr] at hv
 have h1 := c3X hs (a4l (ok := okB C L [k]) _ _ _ (hr.ks k c hk).1 (fun b hb => .inr ⟨k, by simp, hb⟩))
 exact ⟨_, hr.also (v := .one (.dv [k] dd)) (by simp only [SVr, CVr]; rw [hv]; exact h1) (by simp [SV.keys, CV.keys, hk]) (by simp [SV.boxes])⟩
theorem a7d {c c' : Code} {σ' : St} (h1 : Ok P C nt (a5f (fun τ => Weak P C nt τ σ') Q) c σ) (h2 : Ok P C nt Q c' σ') : Ok P C nt Q (.seq c c') σ :=
 a0u ⟨fun L a w hr => wp_mono (h1.run L a w hr) (b9l fun e τ hq => by
  cases e with
  | normal => exact a0h hq h2
  | _ => exact hq)⟩
end
structure OpsN (P : Program) (C : Ctx) (nt : Nat) (Q : Exit → St → Prop) (all : Array Oper) (oB oK nK : List Nat) (hd : Nat → Bool) (listed : Array Bool) (fuel : Nat) (σ : St) : Prop where
 run : ∀ wb L a w, Rel P C nt L σ a w → SW wb w → C.w0.heap.size ≤ wb.heap.size → (∀ i ∈ oB, L.bb i < wb.heap.size) → (∀ k ∈ oK, ∀ b ∈ L.fp k, b < wb.heap.size) → (∀ k ∈ nK, ∀ b ∈ L.fp k, wb.heap.size ≤ b) →
  a2m P .any all (QQ P C nt Q) (SW wb) hd fuel listed a w
structure OpsNJ (P : Program) (C : Ctx) (nt : Nat) (Q : Exit → St → Prop) (all : Array Oper) (oB oK nK : List Nat) (hd : Nat → Bool) (listed : Array Bool) (fuel : Nat) (i : Nat) (σ : St) : Prop where
 run : ∀ wb L a w, Rel P C nt L σ a w → SW wb w → C.w0.heap.size ≤ wb.heap.size → (∀ i ∈ oB, L.bb i < wb.heap.size) → (∀ k ∈ oK, ∀ b ∈ L.fp k, b < wb.heap.size) → (∀ k ∈ nK, ∀ b ∈ L.fp k, wb.heap.size ≤ b) →
  wpOp P all (QQ P C nt Q) i (fun a' w' => (hd i = true → SW wb w') ∧ a2m P .any all (QQ P C nt Q) (SW wb) hd fuel (listed.setIfInBounds i true) a' w') a w
def b2y (P : Program) (C : Ctx) (nt : Nat) (Q : Exit → St → Prop) (all : Array Oper) (oB oK nK : List Nat) (hd : Nat → Bool) (listed : Array Bool) (fuel : Nat) (σ : St) : List Nat → Prop
 | [] => True
 | i :: is => OpsNJ P C nt Q all oB oK nK hd listed fuel i σ ∧ b2y P C nt Q all oB oK nK hd listed fuel σ is
structure EfN (P : Program) (C : Ctx) (nt : Nat) (o : Oper) (σ : St) (k : Nat) (R : St → Prop) : Prop where
 run : ∀ L a w, Rel P C nt L σ a w → ∀ K Q, (∀ L' σ' a' w', R σ' → Rel P C nt L' σ' a' w' → Gr σ L L' w w' → (∀ b ∈ L'.fp k, w.heap.size ≤ b) → K a' w') → o.wp P a w K Q
section
variable {P : Program} {C : Ctx} {nt : Nat} {Q : Exit → St → Prop} {all : Array Oper} {oB oK nK : List Nat} {listed : Array Bool} {fuel : Nat} {hd' : Nat → Bool} {tm : List (Nat × SV)} {bx : List (Nat × TypeId × List CV)} {ks : List (Nat × Option KC)} {o : Oper} {d : Nat} {v X : SV} {Ks Bs : List Nat} {σ : St} {x y : Operand} {T : TT}
theorem b4L (h : OpsN P C nt Q all oB oK [] hd' listed fuel σ) : OpsD P C nt Q all oB oK hd' listed fuel σ := ⟨fun wb L a w hr hs hw hB hK => h.run wb L a w hr hs hw hB hK (by simp)⟩
theorem b9R : ∀ {is : List Nat}, b2y P C nt Q all oB oK nK hd' listed fuel σ is → ∀ i ∈ is, OpsNJ P C nt Q all oB oK nK hd' listed fuel i σ
 | [], _, _, hi => by cases hi
 | j :: is, h, i, hi => by
  rcases List.mem_cons.1 hi with rfl | hi
  ·exact h.1
  ·exact b9R h.2 i hi
theorem a2g (i : Nat) (is : List Nat) (hr : (Region.ready .any all listed == i :: is) = true) (h : b2y P C nt Q all oB oK nK hd' listed fuel σ (i :: is)) : OpsN P C nt Q all oB oK nK hd' listed (fuel + 1) σ := ⟨fun wb L a w hrel hs hw hB hK hN => by
 have hr' : Region.ready .any all listed = i :: is := by simpa using hr
 refine ⟨fun h0 => (by rw [hr'] at h0; cases h0), fun j hj => ?_⟩
 rw [hr'] at hj
 exact (b9R h j hj).run wb L a w hrel hs hw hB hK hN⟩
theorem a5r (i : Nat) (hi : all[i]? = some o) (ht : a4G .any all hd' listed i = true) (hg : o.guard = none) (hd : o.dst = some d) (hp : Pu P C nt o ⟨tm, bx, ks⟩ v Ks Bs) (h1 : (Ks.all fun k => oK.contains k) = true) (h2 : (Bs.all fun k => oB.contains k) = true) (hn : Nat.blt d nt = true) (hk : a1p ⟨tm, bx, ks⟩ v = true)
  (h : OpsN P C nt Q all oB oK nK hd' (listed.setIfInBounds i true) fuel ⟨(d, v) :: tm, bx, ks⟩) : OpsN P C nt Q all oB oK nK hd' listed (fuel + 1) ⟨tm, bx, ks⟩ := ⟨fun wb L a w hr hs hw hB hK hN => by
 obtain ⟨r, h3, h4⟩ := b0O hr hs hw hB hK hp h1 h2
 refine a7a i (v := r) hi ht (fun _ _ _ h => h) hs (.inl ⟨by simp [Region.wanted, hg], h4⟩) ?_
 rw [hd]
 exact h.run wb L _ w (hr.put (by simpa [Nat.blt_eq] using hn) h3 (a1R hk).1 (a1R hk).2) hs hw hB hK hN⟩
theorem b1t (i : Nat) (hi : all[i]? = some o) (hg : o.guard = none) (h : ∀ wb L a w, Rel P C nt L σ a w → SW wb w → C.w0.heap.size ≤ wb.heap.size → (∀ i ∈ oB, L.bb i < wb.heap.size) → (∀ k ∈ oK, ∀ b ∈ L.fp k, b < wb.heap.size) → (∀ k ∈ nK, ∀ b ∈ L.fp k, wb.heap.size ≤ b) →
   o.wp P a w (fun a' w' => (hd' i = true → SW wb w') ∧ a2m P .any all (QQ P C nt Q) (SW wb) hd' fuel (listed.setIfInBounds i true) a' w') (QQ P C nt Q)) : OpsNJ P C nt Q all oB oK nK hd' listed fuel i σ := ⟨fun wb L a w hr hs hw hB hK hN => by
 unfold wpOp
 simp only [hi]
 have hw' : Region.wanted o (yielded all a.tmps) = true := by simp [Region.wanted, hg]
 rw [if_pos hw']
 exact .inl (h wb L a w hr hs hw hB hK hN)⟩
theorem b6O (i : Nat) {R : St → Prop} (hi : all[i]? = some o) (hg : o.guard = none) (hp : EfG P C nt o ⟨tm, bx, ks⟩ R) (hb : (oB.all fun i => (look bx i).isSome) = true) (hk : (oK.all fun k => (lkk ⟨tm, bx, ks⟩ k).isSome) = true) (hn : (nK.all fun k => (lkk ⟨tm, bx, ks⟩ k).isSome) = true)
  (h : ∀ σ', R σ' → OpsN P C nt Q all oB oK nK hd' (listed.setIfInBounds i true) fuel σ') : OpsNJ P C nt Q all oB oK nK hd' listed fuel i ⟨tm, bx, ks⟩ :=
 b1t i hi hg fun wb L a w hr hs hw hB hK hN => hp.run L a w hr _ _ fun L' σ' a' w' h1 h2 h3 => ⟨fun _ => hs.chg h3.chg, (h σ' h1).run wb L' a' w' h2 (hs.chg h3.chg) hw
  (fun j hj => by
   obtain ⟨x, hx⟩ := c9h.1 (List.all_eq_true.1 hb j hj)
   rw [h3.box j x hx]; exact hB j hj)
  (fun k hk' => by
   obtain ⟨c, hc⟩ := c9h.1 (List.all_eq_true.1 hk k hk')
   rw [h3.key k c hc]; exact hK k hk')
  (fun k hk' => by
   obtain ⟨c, hc⟩ := c9h.1 (List.all_eq_true.1 hn k hk')
   rw [h3.key k c hc]; exact hN k hk')⟩
theorem a8Q (i : Nat) (hT : TTOk P T) {t d sz by_ : Nat} {zc : List CV} (hi : all[i]? = some o) (hg : o.guard = none) (hd : o.dst = some d) (ho : o.op = .alloc t) (ht : look T.el t = some (sz, by_, zc)) (hn : Nat.blt d nt = true) (hx : look bx d = none)
  (hb : (oB.all fun i => (look bx i).isSome) = true) (hk : (oK.all fun k => (lkk ⟨tm, bx, ks⟩ k).isSome) = true) (hn' : (nK.all fun k => (lkk ⟨tm, bx, ks⟩ k).isSome) = true)
  (h : OpsN P C nt Q all oB oK nK hd' (listed.setIfInBounds i true) fuel ⟨(d, .box d 0) :: tm, (d, t, zc) :: bx, ks⟩) : OpsNJ P C nt Q all oB oK nK hd' listed fuel i ⟨tm, bx, ks⟩ :=
 b6O i hi hg (b4y hT ho hd hn ht hx) hb hk hn' fun σ' e => by rw [e]; exact h
theorem c1O (hT : TTOk P T) {t e sz by_ d k : Nat} {zc : List CV} (ho : o.op = .buildSlice t 0 #[]) (hd : o.dst = some d) (hn : Nat.blt d nt = true) (ht : look T.sl t = some e) (he : look T.el e = some (sz, by_, zc)) (hsz : Nat.blt 0 sz = true) (hk : lkk σ k = none) :
  EfN P C nt o σ k (fun σ' => σ' = { σ with ks := (k, some ⟨false, e, sz, 0, []⟩) :: σ.ks }.put d (.one (.key k))) := EfN.mk fun L a w hr K Q hK => by
 have hpos : 0 < sz := by simpa [Nat.blt_eq] using hsz
 have hchg : Chg [] w (w.alloc (.cells #[] e)) := (Chg.refl [] w).alloc _
 refine a4U (v := .slice (some ⟨w.heap.size, 0, none⟩) 0 0) (w' := w.alloc (.cells #[] e)) ?_ ?_
 ·unfold execOp
  simp only [ho, List.map_toArray, List.map_nil, b7h (P := P) (w := w) hT ht he, Sem.run_bind, Result.andThen_ok, Sem.run_pure]
 ·have hb := hr.newkey' hchg (c := ⟨false, e, sz, 0, []⟩) (v := .slice (some ⟨w.heap.size, 0, none⟩) 0 0) (f := [w.heap.size]) hk
   (by
    unfold Own
    exact ⟨[], [], rfl, hpos, by simp, a3I (hT.lt e _ he) ⟨by simp, .inr ⟨w.heap.size, 0, #[], rfl, Nat.zero_le _, a8E w _, Nat.le_refl _, Nat.zero_le _, by simp, by simp⟩⟩, by simp [a0Q]⟩) rfl (by simp) (by simp)
  refine hK { L with fp := fun j => if j = k then [w.heap.size] else L.fp j, rv := fun j => if j = k then .slice (some ⟨w.heap.size, 0, none⟩) 0 0 else L.rv j } _ _ _ rfl (by rw [hd]; exact hb.put (v := .one (.key k)) (r := .slice (some ⟨w.heap.size, 0, none⟩) 0 0) (by simpa [Nat.blt_eq] using hn) (by simp [SVr, CVr]) (by simp [SV.keys, CV.keys, lkk, a0W]) (by simp [SV.boxes])) ⟨hchg, fun i c hc => ?_, fun _ _ _ => rfl⟩ (by simp)
  have : i ≠ k := fun e => by rw [e, hk] at hc; cases hc
  simp [this]
theorem a7V (i : Nat) (hT : TTOk P T) {t e sz by_ d k : Nat} {zc : List CV} (hi : all[i]? = some o) (hg : o.guard = none) (hd : o.dst = some d) (ho : o.op = .buildSlice t 0 #[]) (hn : Nat.blt d nt = true) (ht : look T.sl t = some e) (he : look T.el e = some (sz, by_, zc)) (hsz : Nat.blt 0 sz = true) (hk : lkk ⟨tm, bx, ks⟩ k = none)
  (hb : (oB.all fun i => (look bx i).isSome) = true) (hk' : (oK.all fun k => (lkk ⟨tm, bx, ks⟩ k).isSome) = true) (hn' : (nK.all fun k => (lkk ⟨tm, bx, ks⟩ k).isSome) = true)
  (h : OpsN P C nt Q all oB oK (k :: nK) hd' (listed.setIfInBounds i true) fuel ⟨(d, .one (.key k)) :: tm, bx, (k, some ⟨false, e, sz, 0, []⟩) :: ks⟩) : OpsNJ P C nt Q all oB oK nK hd' listed fuel i ⟨tm, bx, ks⟩ :=
 b1t i hi hg fun wb L a w hr hs hw hB hK hN => (c1O hT ho hd hn ht he hsz hk).run L a w hr _ _ fun L' σ' a' w' h1 h2 h3 h4 => ⟨fun _ => hs.chg h3.chg, h.run wb L' a' w' (by rw [h1] at h2; exact h2) (hs.chg h3.chg) hw
  (fun j hj => by
   obtain ⟨x, hx⟩ := c9h.1 (List.all_eq_true.1 hb j hj)
   rw [h3.box j x hx]; exact hB j hj)
  (fun j hj => by
   obtain ⟨c, hc⟩ := c9h.1 (List.all_eq_true.1 hk' j hj)
   rw [h3.key j c hc]; exact hK j hj)
  (fun j hj => by
   rcases List.mem_cons.1 hj with rfl | hj
   ·exact fun b hb' => Nat.le_trans hs.1 (h4 b hb')
   ·obtain ⟨c, hc⟩ := c9h.1 (List.all_eq_true.1 hn' j hj)
    rw [h3.key j c hc]; exact hN j hj)⟩
theorem a3U (i : Nat) (hT : TTOk P T) {t e sz by_ d k m : Nat} {zc : List CV} {c : KC} {J : List Nat} {e2 : Nat} {ds cs : List DV} (hi : all[i]? = some o) (hg : o.guard = none) (hd : o.dst = some d) (ho : o.op = .call { callee := .builtin .append, args := #[x, y], argTypes := #[t, t] }) (hnt : Nat.blt d nt = true) (ht : look T.sl t = some e) (he : look T.el e = some (sz, by_, zc)) (hl0 : zc.length = sz)
  (hx : Ev P C nt ⟨tm, bx, ks⟩ x (.one (.key k))) (hk : lkk ⟨tm, bx, ks⟩ k = some c) (hce : c.e = e) (hcs : c.sz = sz) (hy : Ev P C nt ⟨tm, bx, ks⟩ y (.one (.dv J (.sl e2 sz m ds)))) (hp : ds.all DV.plain = true) (hb : (c.n + m) * by_ ≤ 140737488355328) (h63 : c.n + m ≤ 9223372036854775807) {n : Nat} (hn : c.n + m = n) (hcc : c.cs ++ ds = cs)
  (hkn : nK.contains k = true) (hko : oK.contains k = false)
  (h : OpsN P C nt Q all oB oK nK hd' (listed.setIfInBounds i true) fuel ⟨(d, .one (.key k)) :: a0p [k] [k] tm, a0k [k] [k] bx, (k, some ⟨false, e, sz, n, cs⟩) :: ks⟩) : OpsNJ P C nt Q all oB oK nK hd' listed fuel i ⟨tm, bx, ks⟩ :=
 b1t i hi hg fun wb L a w hr hs hw hB hK hN => by
  have h1 := hx.run L a w hr
  have h2 := hy.run L a w hr
  simp only [SVr, CVr] at h1 h2
  obtain ⟨A, cap, vs, e1, hrow, hlay⟩ := b3e h2
  subst hn; subst hcc
  have hkn' : k ∈ nK := by simpa using hkn
  refine b5t hT ho hd (by simpa [Nat.blt_eq] using hnt) ht he hl0 hr hk hce hcs h1 e1 (js := []) (by simp) (by simp) hrow (b3d hp hlay) (by simp) (by simp) (by simpa [maxLen] using h63) hb (fun L' a' w' hr' hf => ?_)
  have hs' : SW wb w' := ⟨Nat.le_trans hs.1 hf.chg.size, fun b hb' => (hf.chg.block b (Nat.lt_of_lt_of_le hb' hs.1) (fun hm => absurd (hN k hkn' b hm) (by omega))).trans (hs.2 b hb')⟩
  exact ⟨fun _ => hs', h.run wb L' a' w' hr' hs' hw (fun j hj => by rw [hf.bb]; exact hB j hj)
   (fun j hj => by
    have hjk : j ≠ k := fun e => by rw [e] at hj; rw [List.contains_iff_mem.2 hj] at hko; cases hko
    rw [hf.fp j hjk]; exact hK j hj)
   (fun j hj b hb' => by
    by_cases hjk : j = k
    ·subst hjk
     rcases hf.new b hb' with h5 | ⟨q, hq, _⟩ | h5
     ·exact hN j hj b h5
     ·simp at hq
     ·exact Nat.le_trans hs.1 h5
    ·rw [hf.fp j hjk] at hb'; exact hN j hj b hb')⟩
theorem a6l (i : Nat) {σ₁ : St} (hi : all[i]? = some o) (hg : o.guard = none) (hh : hd' i = false) (hp : Ef P C nt o ⟨tm, bx, ks⟩ (fun σ' => σ' = σ₁)) (he : (Region.ready .any all (listed.setIfInBounds i true)).isEmpty = true)
  (h : Q .normal σ₁) : OpsNJ P C nt Q all oB oK nK hd' listed fuel i ⟨tm, bx, ks⟩ :=
 b1t i hi hg fun wb L a w hr hs hw hB hK hN => hp.run L a w hr _ _ fun L' σ' a' w' h1 h2 => ⟨fun e => absurd e (by rw [hh]; simp), b0k he ⟨L', σ', h2, by rw [h1]; exact h⟩ fuel⟩
end
section
variable {P : Program} {C : Ctx} {nt : Nat} {σ : St} {o : Oper} {x y : Operand}
theorem c8w (m n : Int) : (if n < m then n else m) = min m n := by split <;> omega
theorem c7V (m n : Int) : (if n > m then n else m) = max m n := by split <;> omega
theorem c7Y {t t' : TypeId} {K J : List Nat} {m n : Int} (ho : o.op = .call { callee := .builtin .min, args := #[x, y], argTypes := #[t, t'] }) (hx : Ev P C nt σ x (.one (.dv K (.int .i64 m)))) (hy : Ev P C nt σ y (.one (.dv J (.int .i64 n)))) : Pu P C nt o σ (.one (.dv [] (.int .i64 (min m n)))) [] [] := Pu.mk fun L a w hr => by
 have h1 := hx.run L a w hr
 have h2 := hy.run L a w hr
 simp only [SVr, CVr, Lay] at h1 h2
 have hr' : InR .i64 (min m n) := by
  rcases Int.le_total m n with h | h
  ·rw [Int.min_eq_left h]; exact h1.2
  ·rw [Int.min_eq_right h]; exact h2.2
 refine ⟨.int .i64 (min m n), by simp only [SVr, CVr, Lay]; exact ⟨trivial, hr'⟩, fun w' _ => ?_⟩
 unfold execOp
 simp only [ho, resolve, invoke, builtin, Sem.run_bind, Sem.run_pure, Result.andThen_ok, List.map_toArray, List.map_cons, List.map_nil, h1.1, h2.1, run_min_int2, c8w]
theorem c6t {t t' : TypeId} {K J : List Nat} {m n : Int} (ho : o.op = .call { callee := .builtin .max, args := #[x, y], argTypes := #[t, t'] }) (hx : Ev P C nt σ x (.one (.dv K (.int .i64 m)))) (hy : Ev P C nt σ y (.one (.dv J (.int .i64 n)))) : Pu P C nt o σ (.one (.dv [] (.int .i64 (max m n)))) [] [] := Pu.mk fun L a w hr => by
 have h1 := hx.run L a w hr
 have h2 := hy.run L a w hr
 simp only [SVr, CVr, Lay] at h1 h2
 have hr' : InR .i64 (max m n) := by
  rcases Int.le_total m n with h | h
  ·rw [Int.max_eq_right h]; exact h2.2
  ·rw [Int.max_eq_left h]; exact h1.2
 refine ⟨.int .i64 (max m n), by simp only [SVr, CVr, Lay]; exact ⟨trivial, hr'⟩, fun w' _ => ?_⟩
 unfold execOp
 simp only [ho, resolve, invoke, builtin, Sem.run_bind, Sem.run_pure, Result.andThen_ok, List.map_toArray, List.map_cons, List.map_nil, h1.1, h2.1, run_max_int2, c7V]
end
section
variable {P : Program} {C : Ctx} {nt : Nat} {σ : St} {L : Lyt} {a : Act} {w : World} {o : Oper} {x y u : Operand} {T : TT}
theorem b9c (hr : Rel P C nt L σ a w) {k : Nat} {c : KC} (hk : lkk σ k = some c) : (L.rv k = .slice none 0 0 ∧ c.n = 0) ∨ ∃ g cap, L.rv k = .slice (some ⟨g, 0, none⟩) c.n cap ∧ c.n ≤ cap := by
 have ho := (hr.ks k c hk).1
 simp only [Own] at ho
 obtain ⟨vs, f, _, _, _, q4, _⟩ := ho
 rcases (a6K q4).2 with ⟨g1, g2⟩ | ⟨g, cap, cur, t, fz, g1, g2, g3, g4, g5, g6⟩
 ·exact .inl ⟨g1, g2⟩
 ·exact .inr ⟨g, cap, g1, g3⟩
theorem b1J (hr : Rel P C nt L σ a w) {k : Nat} {c : KC} (hk : lkk σ k = some c) (hE : c.e < 1000000) : 0 < c.sz ∧ c.cs.length = c.n * c.sz ∧ ((L.rv k = .slice none 0 0 ∧ c.n = 0) ∨
  ∃ g cap cur vs f, L.rv k = .slice (some ⟨g, 0, none⟩) c.n cap ∧ w.heap[g]? = some (.cells cur c.e (0, 0)) ∧ c.n ≤ cap ∧ cap ≤ maxLen ∧ cur.size = cap * c.sz ∧ cur.toList.take (c.n * c.sz) = vs ∧ L.fp k = g :: f ∧ a0Q w c.cs vs f) := by
 have ho := (hr.ks k c hk).1
 simp only [Own] at ho
 obtain ⟨vs, f, q1, q2, q3, q4, q5⟩ := ho
 refine ⟨q2, q3, ?_⟩
 rcases (q4.1 hE).2 with ⟨g1, g2⟩ | ⟨g, cap, cur, g1, _, g3, g4, g5, g6, g7⟩
 ·exact .inl ⟨g1, g2⟩
 ·exact .inr ⟨g, cap, cur, vs, f, g1, g3, g4, g5, g6, g7, by rw [q1, g1]; simp [Value.ownBlock], q5⟩
theorem b6H {j sz lo hi : Nat} {c2 : KC} (hs : SlOk P C nt σ o j sz lo hi) (hj : lkk σ j = some c2) : Pu P C nt o σ (.ksl j lo hi sz) [] [] := Pu.mk fun L a w hr => by
 rcases b9c hr hj with ⟨h, _⟩ | ⟨g, cap, h, _⟩
 ·exact ⟨_, by simp only [SVr]; exact ⟨_, _, _, h, rfl⟩, fun w' _ => hs.run L a w hr _ _ _ h w'⟩
 ·exact ⟨_, by simp only [SVr]; exact ⟨_, _, _, h, rfl⟩, fun w' _ => hs.run L a w hr _ _ _ h w'⟩
theorem c8p {A : Option Addr} {n c sz : Nat} {hi : Nat} (h : A = none ∨ ∃ g, A = some ⟨g, 0, none⟩) : sliced A 0 hi c sz = .slice A hi c := by
 rcases h with rfl | ⟨g, rfl⟩
 ·simp [sliced]
 ·by_cases hc : c = 0
  ·simp [sliced, hc]
  ·simp [sliced, hc, Addr.add]
theorem c6y (hr : Rel P C nt L σ a w) {k : Nat} {c : KC} (hk : lkk σ k = some c) {A : Option Addr} {n cap : Nat} (h : L.rv k = .slice A n cap) : (A = none ∨ ∃ g, A = some ⟨g, 0, none⟩) ∧ n = c.n ∧ c.n ≤ cap := by
 rcases b9c hr hk with ⟨h1, h2⟩ | ⟨g, cap', h1, h2⟩
 ·rw [h] at h1
  simp only [Value.slice.injEq] at h1
  obtain ⟨rfl, rfl, rfl⟩ := h1
  exact ⟨.inl rfl, h2.symm, by omega⟩
 ·rw [h] at h1
  simp only [Value.slice.injEq] at h1
  obtain ⟨rfl, rfl, rfl⟩ := h1
  exact ⟨.inr ⟨g, rfl⟩, rfl, h2⟩
theorem c2w (hT : TTOk P T) {t e sz by_ j n hi : Nat} {zc : List CV} {c2 : KC} {J : List Nat} {z : Int} (ho : o.op = .slice t x none (some y) none) (h : look T.sl t = some e) (he : look T.el e = some (sz, by_, zc)) (hx : Ev P C nt σ x (.one (.key j))) (hj : lkk σ j = some c2) (hy : Ev P C nt σ y (.one (.dv J (.int .i64 z)))) (hn : c2.n = n) (hh : z.toNat = hi) (h0 : 0 ≤ z) (h1 : z ≤ n) : Pu P C nt o σ (.ksl j 0 hi sz) [] [] := by
 subst hn; subst hh
 exact b6H (b3u hT ho h he hx hj hy h0 h1) hj
theorem c7T (hT : TTOk P T) {t e sz by_ j n lo : Nat} {zc : List CV} {c2 : KC} {J : List Nat} {z : Int} (ho : o.op = .slice t x (some y) none none) (h : look T.sl t = some e) (he : look T.el e = some (sz, by_, zc)) (hx : Ev P C nt σ x (.one (.key j))) (hj : lkk σ j = some c2) (hy : Ev P C nt σ y (.one (.dv J (.int .i64 z)))) (hn : c2.n = n) (hl : z.toNat = lo) (h0 : 0 ≤ z) (h1 : z ≤ n) : Pu P C nt o σ (.ksl j lo n sz) [] [] := by
 subst hn; subst hl
 exact b6H (b4x hT ho h he hx hj hy h0 h1) hj
theorem Rel.wrow (hr : Rel P C nt L σ a w) {k g cap off : Nat} {c : KC} {cur : Array Value} {us : List Value} {cs' : List DV} {f' : List Nat} (hk : lkk σ k = some c) (hE : c.e < 1000000) (e1 : L.rv k = .slice (some ⟨g, 0, none⟩) c.n cap) (hg : w.heap[g]? = some (.cells cur c.e (0, 0))) (hnc : c.n ≤ cap) (hcm : cap ≤ maxLen) (hsz : cur.size = cap * c.sz) (hpos : 0 < c.sz)
  (hle : off + us.length ≤ c.n * c.sz) (hown : a0Q w cs' (a1d off us (cur.toList.take (c.n * c.sz))) f') (hf : ∀ b ∈ f', b ∈ L.fp k ∧ b ≠ g) (hgk : g ∈ L.fp k) (hn : f'.Nodup) (hl : cs'.length = c.n * c.sz) :
  Rel P C nt { L with fp := fun i => if i = k then g :: f' else L.fp i, rv := fun i => if i = k then L.rv k else L.rv i } (σ.mut k [] true { c with cs := cs' }) a (w.setRow g (a1d off us cur.toList).toArray) := by
 let w' := w.setRow g (a1d off us cur.toList).toArray
 have hchg : Chg [g] w w' := a5W w g _
 have hle2 : c.n * c.sz ≤ cap * c.sz := Nat.mul_le_mul_right _ hnc
 have hcl : c.n * c.sz ≤ cur.toList.length := by rw [Array.length_toList, hsz]; exact hle2
 have hown2 : a0Q w' cs' (a1d off us (cur.toList.take (c.n * c.sz))) f' := a2V _ _ _ hown (fun b hb => hchg.block b (hr.k_lt hk b (hf b hb).1) (by simpa using (hf b hb).2))
 have hown' : Own w' (.sl c.e c.sz c.n cs') (L.rv k) (g :: f') := by
  unfold Own
  refine ⟨_, f', by rw [e1]; simp [Value.ownBlock], hpos, hl, ?_, hown2⟩
  rw [e1]
  refine a3I hE ⟨by rw [a5L (by rw [c9j]; omega), c9j]; omega, .inr ⟨g, cap, (a1d off us cur.toList).toArray, rfl, Nat.zero_le _, setRow_heap _ _ _ _ _ _ hg, hnc, hcm, ?_, ?_⟩⟩
  ·rw [List.size_toArray, a5L (by omega), Array.length_toList, hsz]
  ·rw [List.toList_toArray]
   unfold a1d
   apply List.ext_getElem?
   intro i
   simp only [List.getElem?_take, List.getElem?_append, List.getElem?_drop, c9i, c9j]
   have hm1 : min off cur.toList.length = off := by omega
   have hm2 : min off (min (c.n * c.sz) cur.toList.length) = off := by omega
   rw [hm1, hm2]
   by_cases hi : i < c.n * c.sz
   ·simp only [hi, if_true]
    by_cases hi2 : i < off + us.length
    ·simp only [hi2, if_true]
    ·simp only [hi2, if_false]
     have : off + us.length + (i - (off + us.length)) < c.n * c.sz := by omega
     simp only [this, if_true]
   ·have h9 : ¬ i < off + us.length := by omega
    have h10 : ¬ i < off := by omega
    have h11 : ¬ off + us.length + (i - (off + us.length)) < c.n * c.sz := by omega
    simp only [hi, h9, h11, if_false]
 refine hr.setkey hk (by simp) (hchg.mono (by simpa using hgk)) hown' ?_ ?_ (by simp) (fun _ => rfl) (fun e => ⟨e, rfl⟩)
 ·rw [List.nodup_cons]
  exact ⟨fun hm => (hf g hm).2 rfl, hn⟩
 ·intro b hb
  rcases List.mem_cons.1 hb with rfl | hb
  ·exact .inl hgk
  ·exact .inl (hf b hb).1
theorem a6O {α : Type} {A B us D : List α} {off : Nat} (ho : off = A.length) (hB : us.length = B.length) : a1d off us (A ++ (B ++ D)) = A ++ (us ++ D) := by
 subst ho
 unfold a1d
 rw [List.take_left, hB, ← List.append_assoc A B D, ← c9i, List.drop_left, List.append_assoc]
theorem b2s {k g n cap : Nat} (e1 : L.rv k = .slice (some ⟨g, 0, none⟩) n cap) : ∀ {ds : List DV} {vs us : List Value} {f : List Nat} {off : Nat}, a0Q w ds vs f → CVL C L w (a3b k off ds) us → (∀ j u, vs[j]? = some u → w.cell? ⟨g, off + j, none⟩ = some u) → a0Q w ds us f
 | [], _, _, _, _, h, hc, _ => by
  simp only [a3b, CVL] at hc
  simp only [a0Q] at h ⊢
  exact ⟨hc, h.2⟩
 | d :: ds, _, _, _, off, h, hc, hcell => by
  simp only [a0Q] at h
  obtain ⟨v, vs', f1, f2, rfl, rfl, h1, h2⟩ := h
  simp only [a3b, CVL] at hc
  obtain ⟨u, us', rfl, k1, k2⟩ := hc
  have hrest := b2s e1 h2 k2 (fun j z hz => by have := hcell (j + 1) z (by simpa using hz); rwa [show off + 1 + j = off + (j + 1) by omega])
  simp only [a0Q]
  refine ⟨u, us', f1, f2, rfl, rfl, ?_, hrest⟩
  cases hp : d.plain with
  | true =>
   simp only [dvE, hp, cond_true, CVr] at k1
   have := b0b (w' := w) hp k1
   have hf : f1 = [] := by
    cases d with
    | int => simp only [Own] at h1; exact h1.2.2
    | bool => simp only [Own] at h1; exact h1.2
    | str => simp only [Own] at h1; exact h1.2.2
    | sl => simp [DV.plain] at hp
    | hole => simp only [Own] at h1; exact h1.2
   rw [hf]; exact this
  | false =>
   simp only [dvE, hp, cond_false, CVr] at k1
   obtain ⟨_, g', n', c', e2, _, e3⟩ := k1
   rw [e1] at e2
   simp only [Value.slice.injEq, Option.some.injEq, Addr.mk.injEq, and_true, true_and] at e2
   obtain ⟨rfl, _, _⟩ := e2
   have := hcell 0 v rfl
   rw [Nat.add_zero, e3] at this
   simp only [Option.some.injEq] at this
   rw [this]; exact h1
theorem c8n (hT : TTOk P T) {t k off src sz by_ : Nat} {zc : List CV} {c : KC} {ds : List DV} (ho : o.op = .store t x y) (hd : o.dst = none) (ht : look T.el t = some (sz, by_, zc)) (hx : Ev P C nt σ x (.eptr k off)) (hy : Ev P C nt σ y (.agg (a3b k src ds)))
  (hk : lkk σ k = some c) (hE : Nat.blt c.e 1000000 = true) (hds : sub src sz c.cs = ds) (hlt : off + sz ≤ src) (hle : src + sz ≤ c.cs.length) : Ef P C nt o σ (fun σ' => σ' = σ.mut k [] true { c with cs := a1d off ds (a1d src (List.replicate sz .hole) c.cs) }) := Ef.mk fun L a w hr K Q hK => by
 have hE' : c.e < 1000000 := by simpa [Nat.blt_eq] using hE
 have hdl : ds.length = sz := by rw [← hds, a4t _ _ _ hle]
 have hkv : a1p σ (.agg (a3b k src ds)) = true := by
  simp only [a1p, SV.keys, SV.boxes, List.all_nil, Bool.and_true, List.all_eq_true]
  intro j hj
  rw [b3b j hj, hk]; rfl
 obtain ⟨us, h1, h2, h3⟩ := a4y (p := (true, a3b k src ds)) hr rfl hkv (hy.run L a w hr)
 have h4 := hx.run L a w hr
 simp only [SVr] at h4
 obtain ⟨g0, n0, cap0, e1, e2⟩ := h4
 obtain ⟨hpos, hcl, hro⟩ := b1J hr hk hE'
 rcases hro with ⟨e3, _⟩ | ⟨g, cap, cur, vs, f, e3, hg, hnc, hcm, hsz, htake, hfp, hown⟩
 ·rw [e1] at e3; cases e3
 rw [e1] at e3
 simp only [Value.slice.injEq, Option.some.injEq, Addr.mk.injEq, and_true, true_and] at e3
 obtain ⟨rfl, rfl, rfl⟩ := e3
 obtain ⟨inf, z, g1, g2, _⟩ := hT.el t sz by_ zc ht
 have hvl : vs.length = c.cs.length := a3e _ _ _ hown
 have hcur : c.cs.length ≤ cur.toList.length := by rw [hcl, Array.length_toList, hsz]; exact Nat.mul_le_mul_right _ hnc
 have hdvl : ∀ (ds : List DV) (off : Nat), (a3b k off ds).length = ds.length := fun ds => by
  induction ds with
  | nil => intro _; rfl
  | cons d ds ih => intro off; simp [a3b, ih]
 have hus : us.length = sz := by rw [a2S h2]; simp only [hdvl, hdl]
 have hcell : ∀ j v, vs[j]? = some v → w.cell? ⟨g0, j, none⟩ = some v := fun j v hj => by
  rw [cell_of_row w g0 j cur c.e (0, 0) hg]
  rw [← htake, List.getElem?_take] at hj
  split at hj
  ·simpa using hj
  ·cases hj
 -- the parts
 have hX : c.cs = c.cs.take off ++ ((c.cs.drop off).take sz ++ (((c.cs.drop (off + sz)).take (src - (off + sz))) ++ (ds ++ c.cs.drop (src + sz)))) := by
  rw [← hds]
  unfold sub
  have q1 : (c.cs.drop src).take sz ++ c.cs.drop (src + sz) = c.cs.drop src := by rw [← List.drop_drop, List.take_append_drop]
  rw [q1]
  have q2 : (c.cs.drop (off + sz)).take (src - (off + sz)) ++ c.cs.drop src = c.cs.drop (off + sz) := by
   have : c.cs.drop src = (c.cs.drop (off + sz)).drop (src - (off + sz)) := by rw [List.drop_drop]; congr 1; omega
   rw [this, List.take_append_drop]
  rw [q2, ← List.drop_drop, List.take_append_drop, List.take_append_drop]
 obtain ⟨A, hA⟩ : ∃ A, A = c.cs.take off := ⟨_, rfl⟩
 obtain ⟨B, hB⟩ : ∃ B, B = (c.cs.drop off).take sz := ⟨_, rfl⟩
 obtain ⟨M, hM⟩ : ∃ M, M = (c.cs.drop (off + sz)).take (src - (off + sz)) := ⟨_, rfl⟩
 obtain ⟨D, hD⟩ : ∃ D, D = c.cs.drop (src + sz) := ⟨_, rfl⟩
 have lA : A.length = off := by rw [hA, c9j]; omega
 have lB : B.length = sz := by rw [hB, c9j, List.length_drop]; omega
 have lM : M.length = src - (off + sz) := by rw [hM, c9j, List.length_drop]; omega
 rw [← hA, ← hB, ← hM, ← hD] at hX
 have hown2 := hown
 rw [hX] at hown2
 obtain ⟨v1, r1, f1, s1, rfl, rfl, o1, t1⟩ := a4T _ _ _ _ hown2
 obtain ⟨v2, r2, f2, s2, rfl, rfl, o2, t2⟩ := a4T _ _ _ _ t1
 obtain ⟨v3, r3, f3, s3, rfl, rfl, o3, t3⟩ := a4T _ _ _ _ t2
 obtain ⟨v4, v5, f4, f5, rfl, rfl, o4, o5⟩ := a4T _ _ _ _ t3
 have l1 := a3e _ _ _ o1
 have l2 := a3e _ _ _ o2
 have l3 := a3e _ _ _ o3
 have l4 := a3e _ _ _ o4
 have o4' : a0Q w ds us f4 := b2s e1 o4 h2 (fun j v hj => hcell (src + j) v (by
  have hj' := (List.getElem?_eq_some_iff.1 hj).1
  rw [List.getElem?_append_right (by omega), List.getElem?_append_right (by omega), List.getElem?_append_right (by omega), List.getElem?_append_left (by omega), show src + j - v1.length - v2.length - v3.length = j by omega]
  exact hj))
 have one4 : ∀ v ∈ v4, v.oneCell' = true := a8J (ok := fun _ => True) _ _ (a7K _ _ _ o4 (fun _ _ => trivial))
 have o4h : a0Q w (List.replicate sz .hole) v4 [] := by
  have := a9w (w := w) v4 one4
  rwa [l4, hdl] at this
 have hnew : a0Q w (A ++ (ds ++ (M ++ (List.replicate sz .hole ++ D)))) (v1 ++ (us ++ (v3 ++ (v4 ++ v5)))) (f1 ++ (f4 ++ (f3 ++ ([] ++ f5)))) :=
  a3n _ _ _ _ _ _ o1 (a3n _ _ _ _ _ _ o4' (a3n _ _ _ _ _ _ o3 (a3n _ _ _ _ _ _ o4h o5)))
 have ecs : a1d off ds (a1d src (List.replicate sz .hole) c.cs) = A ++ (ds ++ (M ++ (List.replicate sz .hole ++ D))) := by
  have q1 : a1d src (List.replicate sz DV.hole) c.cs = A ++ (B ++ (M ++ (List.replicate sz .hole ++ D))) := by
   have := a6O (A := A ++ (B ++ M)) (B := ds) (us := List.replicate sz DV.hole) (D := D) (off := src) (by simp only [c9i]; omega) (by simp [hdl])
   simp only [List.append_assoc] at this
   rw [hX]; exact this
  rw [q1]
  exact a6O lA.symm (by omega)
 have evs : a1d off us (cur.toList.take (c.n * c.sz)) = v1 ++ (us ++ (v3 ++ (v4 ++ v5))) := by
  rw [htake]
  exact a6O (by omega) (by omega)
 have hnd := hr.kn k c hk
 rw [hfp, List.nodup_cons] at hnd
 have hperm : (f1 ++ (f4 ++ (f3 ++ ([] ++ f5)))).Nodup := by
  have hs : (f1 ++ (f3 ++ (f4 ++ f5))).Sublist (f1 ++ (f2 ++ (f3 ++ (f4 ++ f5)))) := List.Sublist.append (List.Sublist.refl _) (List.sublist_append_right _ _)
  have hn2 := hs.nodup hnd.2
  refine (List.Perm.nodup_iff ?_).1 hn2
  refine List.Perm.append_left _ ?_
  rw [List.nil_append, ← List.append_assoc, ← List.append_assoc]
  exact List.Perm.append_right _ List.perm_append_comm
 have hsub : ∀ b ∈ f1 ++ (f4 ++ (f3 ++ ([] ++ f5))), b ∈ f1 ++ (f2 ++ (f3 ++ (f4 ++ f5))) := fun b hb => by
  simp only [List.mem_append, List.nil_append] at hb ⊢
  rcases hb with h | h | h | h
  ·exact .inl h
  ·exact .inr (.inr (.inr (.inl h)))
  ·exact .inr (.inr (.inl h))
  ·exact .inr (.inr (.inr (.inr h)))
 have hrun := a7l (P := P) (vs := cur.toList) (z := z) (off := off) (t' := c.e) g1 g2 h1 hus h3 (by simpa using hg) (by omega)
 have hrel := hr.wrow (off := off) (us := us) (cs' := a1d off ds (a1d src (List.replicate sz .hole) c.cs)) (f' := f1 ++ (f4 ++ (f3 ++ ([] ++ f5)))) hk hE' e1 hg hnc hcm hsz hpos (by rw [← hcl]; omega) (by rw [evs, ecs]; exact hnew)
  (fun b hb => ⟨by rw [hfp]; exact List.mem_cons_of_mem _ (hsub b hb), fun e => hnd.1 (by rw [← e]; exact hsub b hb)⟩) (by rw [hfp]; simp) hperm (by rw [a5L (by rw [a5L (by simp; omega)]; omega), a5L (by simp; omega)]; exact hcl)
 unfold Oper.wp execOp
 simp only [ho, e2, Sem.run_bind, hrun, Result.andThen_ok, Sem.run_pure, Oper.upon, hd, Act.put]
 exact hK _ _ _ _ rfl hrel
theorem c2I (hT : TTOk P T) {t e k lo hi sz by_ : Nat} {zc : List CV} {c : KC} (ho : o.op = .call { callee := .builtin .clear, args := #[x], argTypes := #[t] }) (hd : o.dst = none) (ht : look T.sl t = some e) (he : look T.el e = some (sz, by_, zc)) (hl0 : zc.length = sz) (hx : Ev P C nt σ x (.ksl k lo hi sz))
  (hk : lkk σ k = some c) (hce : c.e = e) (hcs : c.sz = sz) (hlh : lo ≤ hi) (hhi : hi ≤ c.n) : Ef P C nt o σ (fun σ' => σ' = σ.mut k [] true { c with cs := a1d (lo * sz) (List.replicate ((hi - lo) * sz) .hole) c.cs }) := Ef.mk fun L a w hr K Q hK => by
 subst hce; subst hcs
 have hE' : c.e < 1000000 := hT.lt _ _ he
 have h4 := hx.run L a w hr
 simp only [SVr] at h4
 obtain ⟨A, n0, cap0, e1, e2⟩ := h4
 obtain ⟨hpos, hcl, hro⟩ := b1J hr hk hE'
 obtain ⟨inf, z, g1, g2, g3, g4, g5⟩ := hT.el c.e c.sz by_ zc he
 obtain ⟨_, _, z1⟩ := a9p (C := C) (L := L) (w := w) g5
 have hzs : z.cells.size = c.sz := by have := a7f g5; simp only [Array.length_toList] at this; rw [this, hl0]
 have hzv : ∀ w, (zeroValue c.e).run P w = .ok z w := fun w => by simp [zeroValue, typeInfo, g1, g4]
 have hm1 : (hi - lo) * c.sz + lo * c.sz = hi * c.sz := by rw [← Nat.add_mul]; congr 1; omega
 have hm2 : hi * c.sz ≤ c.n * c.sz := Nat.mul_le_mul_right _ hhi
 -- nothing to clear
 have same : hi = lo → Rel P C nt L (σ.mut k [] true { c with cs := a1d (lo * c.sz) (List.replicate ((hi - lo) * c.sz) .hole) c.cs }) a w := fun h => by
  have : a1d (lo * c.sz) (List.replicate ((hi - lo) * c.sz) DV.hole) c.cs = c.cs := by
   subst h
   simp [a1d]
  rw [this]
  have := hr.setkey (k := k) (c := c) (c' := c) (js := []) (same := true) (v' := L.rv k) (f' := L.fp k) hk (by simp) ((Chg.refl [] w).mono (by simp)) (hr.ks k c hk).1 (hr.kn k c hk) (fun b hb => .inl hb) (by simp) (fun _ => rfl) (fun h => ⟨h, rfl⟩)
  have eL : ({ L with fp := fun i => if i = k then L.fp k else L.fp i, rv := fun i => if i = k then L.rv k else L.rv i } : Lyt) = L := by
   cases L
   simp only [Lyt.mk.injEq, true_and]
   constructor <;> (funext i; split <;> simp_all)
  rwa [eL] at this
 have hclr0 : ∀ A c', (Builtin.clear_ #[t] o.type #[.slice A 0 c']).run P w = .ok (.tuple #[]) w := fun A c' => by
  cases A <;> simp [Builtin.clear_, run_underlying (hT.sl t c.e ht)]
 rcases Nat.eq_or_lt_of_le hlh with heq | hlt
 ·have e3 : a.eval x = .slice (if cap0 = lo then A else A.map (·.add (lo * c.sz))) 0 (cap0 - lo) := by rw [e2, sliced, heq, Nat.sub_self]
  unfold Oper.wp execOp
  simp only [ho, resolve, invoke, builtin, Sem.run_bind, Sem.run_pure, Result.andThen_ok, List.map_toArray, List.map_cons, List.map_nil, e3, hclr0, Oper.upon, hd, Act.put]
  exact hK _ _ _ _ rfl (same heq.symm)
 rcases hro with ⟨e3, h0⟩ | ⟨g, cap, cur, vs, f, e3, hg, hnc, hcm, hsz, htake, hfp, hown⟩
 ·omega
 rw [e1] at e3
 simp only [Value.slice.injEq] at e3
 obtain ⟨rfl, rfl, rfl⟩ := e3
 have hcur : c.n * c.sz ≤ cur.toList.length := by rw [Array.length_toList, hsz]; exact Nat.mul_le_mul_right _ hnc
 have hvl : vs.length = c.n * c.sz := by rw [a3e _ _ _ hown, hcl]
 obtain ⟨zs, hzz⟩ : ∃ zs, zs = (Builtin.zeroCells z.cells (hi - lo)).toList := ⟨_, rfl⟩
 have hzl : zs.length = (hi - lo) * c.sz := by rw [hzz]; simp [Builtin.zeroCells, hzs]
 have hz1 : ∀ v ∈ zs, v.oneCell' = true := fun v hv => by
  rw [hzz] at hv
  simp only [Builtin.zeroCells, Array.toList_map, List.mem_map] at hv
  obtain ⟨i, _, rfl⟩ := hv
  have hlt2 : i % z.cells.size < z.cells.size := Nat.mod_lt _ (by omega)
  rw [getElem!_pos z.cells _ hlt2]
  exact z1 _ (by simp)
 have hst := run_storeCells_at P g (lo * c.sz) c.e zs 0 cur w hg (by rw [← Array.length_toList]; omega) hz1
 simp only [Nat.add_zero] at hst
 have hne : ¬ cap0 = lo := by omega
 have e4 : a.eval x = .slice (some ⟨g, lo * c.sz, none⟩) (hi - lo) (cap0 - lo) := by
  rw [e2, sliced, if_neg hne]
  simp [a5h]
 have hclr : (Builtin.clear_ #[t] o.type #[.slice (some ⟨g, lo * c.sz, none⟩) (hi - lo) (cap0 - lo)]).run P w = .ok (.tuple #[]) (w.setRow g (a1d (lo * c.sz) zs cur.toList).toArray) := by
  obtain ⟨m, hm⟩ : ∃ m, hi - lo = m + 1 := ⟨hi - lo - 1, by omega⟩
  rw [hzz, hm] at hst
  rw [hm]
  simp [Builtin.clear_, run_underlying (hT.sl t c.e ht), hzv, hst, a1d, hzz, hm]
 have ohole : a0Q w (List.replicate ((hi - lo) * c.sz) .hole) zs [] := by
  have := a9w (w := w) zs hz1
  rwa [hzl] at this
 obtain ⟨f1, f3, s1, s2, s3⟩ := b9a hown ohole (off := lo * c.sz) (by simp only [List.length_replicate]; omega)
 have hnd := hr.kn k c hk
 rw [hfp, List.nodup_cons] at hnd
 have hrel := hr.wrow (off := lo * c.sz) (us := zs) (cs' := a1d (lo * c.sz) (List.replicate ((hi - lo) * c.sz) .hole) c.cs) (f' := f1 ++ f3) hk hE' e1 hg hnc hcm hsz hpos (by omega) (by rw [htake]; simpa using s3)
  (fun b hb => ⟨by rw [hfp]; exact List.mem_cons_of_mem _ (s1 b hb), fun e => hnd.1 (by rw [← e]; exact s1 b hb)⟩) (by rw [hfp]; simp) (s2 hnd.2) (by rw [a5L (by simp only [List.length_replicate]; omega)]; exact hcl)
 unfold Oper.wp execOp
 simp only [ho, resolve, invoke, builtin, Sem.run_bind, Sem.run_pure, Result.andThen_ok, List.map_toArray, List.map_cons, List.map_nil, e4, hclr, Oper.upon, hd, Act.put]
 exact hK _ _ _ _ rfl hrel
theorem c4g {tm : List (Nat × SV)} {bx : List (Nat × TypeId × List CV)} {ks : List (Nat × Option KC)} {s k m sz : Nat} {c : KC} {cs : List DV} (hs : look tm s = some (.ksl k 0 m sz)) (hk : lkk ⟨tm, bx, ks⟩ k = some c) (hE : Nat.blt c.e 1000000 = true) (hcs : c.sz = sz) (hm : m ≤ c.n) (hcc : c.cs.take (m * sz) = cs) :
  Weak P C nt ⟨tm, bx, ks⟩ ⟨(s, .one (.key k)) :: a0p [k] [k] tm, a0k [k] [k] bx, (k, some ⟨false, c.e, sz, m, cs⟩) :: ks⟩ := Weak.mk fun L a w hr => by
 subst hcs; subst hcc
 have hE' : c.e < 1000000 := by simpa [Nat.blt_eq] using hE
 have hsv := hr.tm s _ hs
 simp only [SVr] at hsv
 obtain ⟨A, n0, cap0, e1, e2⟩ := hsv
 obtain ⟨r1, rfl, r3⟩ := c6y hr hk e1
 rw [c8p (n := c.n) r1] at e2
 obtain ⟨hpos, hcl, hro⟩ := b1J hr hk hE'
 have hm2 : m * c.sz ≤ c.n * c.sz := Nat.mul_le_mul_right _ hm
 have hfin : ∀ f', Own w (.sl c.e c.sz m (c.cs.take (m * c.sz))) (.slice A m cap0) f' → f'.Nodup → (∀ b ∈ f', b ∈ L.fp k) → ∃ L', Rel P C nt L' ⟨(s, .one (.key k)) :: a0p [k] [k] tm, a0k [k] [k] bx, (k, some ⟨false, c.e, c.sz, m, c.cs.take (m * c.sz)⟩) :: ks⟩ a w := fun f' ho hn hf => by
  have hset := hr.setkey (k := k) (c := c) (c' := ⟨false, c.e, c.sz, m, c.cs.take (m * c.sz)⟩) (js := []) (same := false) (v' := .slice A m cap0) (f' := f') hk (by simp) ((Chg.refl [] w).mono (by simp)) ho hn (fun b hb => .inl (hf b hb)) (by simp) (by simp) (by simp)
  exact ⟨_, hset.also (d := s) (v := .one (.key k)) (by simp only [SVr, CVr, if_true]; exact e2) (by simp [SV.keys, CV.keys, a5o]) (by simp [SV.boxes])⟩
 rcases hro with ⟨e4, h0⟩ | ⟨g, cap, cur, vs, f, e4, hg, hnc, hcm, hsz, htake, hfp, hown⟩
 ·rw [e1] at e4
  simp only [Value.slice.injEq] at e4
  obtain ⟨rfl, h0', rfl⟩ := e4
  have hm0 : m = 0 := by omega
  subst hm0
  refine hfin [] ?_ (by simp) (by simp)
  rw [Nat.zero_mul, List.take_zero]
  exact a6U w c.e c.sz hpos
 ·rw [e1] at e4
  simp only [Value.slice.injEq] at e4
  obtain ⟨rfl, _, rfl⟩ := e4
  obtain ⟨fa, fb, hf, ta, tb⟩ := a7A (m * c.sz) hown
  have hnd := hr.kn k c hk
  rw [hfp, List.nodup_cons] at hnd
  have hvl : vs.length = c.n * c.sz := by rw [a3e _ _ _ hown, hcl]
  refine hfin (g :: fa) ?_ ?_ ?_
  ·unfold Own
   refine ⟨vs.take (m * c.sz), fa, by simp [Value.ownBlock], hpos, by rw [c9j]; omega, a3I hE' ⟨by rw [c9j]; omega, .inr ⟨g, cap0, cur, rfl, Nat.zero_le _, hg, by omega, hcm, hsz, ?_⟩⟩, ta⟩
   rw [← htake, List.take_take]
   congr 1; omega
  ·rw [List.nodup_cons]
   rw [hf] at hnd
   exact ⟨fun h => hnd.1 (by simp [h]), (List.nodup_append.1 hnd.2).1⟩
  ·intro b hb
   rw [hfp, hf]
   rcases List.mem_cons.1 hb with rfl | hb
   ·simp
   ·simp [hb]
end
/-! ### calls that change a key and hand it back -/
structure MFn (P : Program) (f : FuncId) (us : List SV) (c0 c1 : KC) : Prop where
 ok : a6y P f [] [(0, some c0)] (.one (.key 0) :: us) fun v σ' => v = .one (.key 0) ∧ σ'.ks = [(0, some c1)]
def a8G (σ : St) : SV → SV → Prop
 | .one (.dv _ d), u => d.plain = true ∧ u = .one (.dv [] d)
 | .clo f bs, u => ∃ caps, a4i σ bs caps ∧ u = .fn f caps
 | _, _ => False
def a6V (P : Program) (C : Ctx) (nt : Nat) (σ : St) : List Operand → List SV → Prop
 | [], us => us = []
 | x :: xs, us => ∃ v u us', us = u :: us' ∧ Ev P C nt σ x v ∧ a8G σ v u ∧ a6V P C nt σ xs us'
section
variable {P : Program} {C : Ctx} {nt : Nat} {σ : St} {L : Lyt} {a : Act} {w : World} {o : Oper} {x y u : Operand} {T : TT}
theorem c0V : a6V P C nt σ [] [] := rfl
theorem c7K {v u : SV} {xs : List Operand} {us : List SV} (hx : Ev P C nt σ x v) (h : a8G σ v u) (h2 : a6V P C nt σ xs us) : a6V P C nt σ (x :: xs) (u :: us) := ⟨v, u, us, rfl, hx, h, h2⟩
theorem c7c {f : FuncId} {bs : List Nat} {caps : List (List DV)} (h : a4i σ bs caps) : a8G σ (.clo f bs) (.fn f caps) := ⟨caps, h, rfl⟩
def a5K (L : Lyt) (k : Nat) : Lyt := { bb := fun _ => 0, fp := fun i => if i = 0 then L.fp k else [], rv := fun i => if i = 0 then L.rv k else .bool false }
theorem c0R (hr : Rel P C nt L σ a w) {k : Nat} {c : KC} (hk : lkk σ k = some c) {L' : Lyt} {rv : Nat → Value} : ∀ b, b < w.heap.size → okB C L [] b → okB ⟨w, L.fp k, rv⟩ L' [] b ∧ w.heap[b]? = w.heap[b]? := fun b hb h => by
 rcases h with ⟨h1, h2⟩ | ⟨_, h1, _⟩
 ·refine ⟨.inl ⟨hb, fun hm => ?_⟩, rfl⟩
  rcases hr.k1 k c hk b hm with h3 | h3
  ·omega
  ·exact h2 h3
 ·cases h1
theorem c0s (hr : Rel P C nt L σ a w) {k : Nat} {c : KC} (hk : lkk σ k = some c) (L' : Lyt) {rv : Nat → Value} : ∀ {bs : List Nat} {dss : List (List DV)}, a4i σ bs dss → a4J ⟨w, L.fp k, rv⟩ L' w dss (bs.map fun b => Value.pointer (some ⟨L.bb b, 0, none⟩))
 | [], _, h => by simp only [a4i] at h; subst h; rfl
 | b :: bs, _, ⟨ds, dss', t, e, h1, h2⟩ => by
  subst e
  obtain ⟨vs, h3, h4⟩ := hr.bx b t _ h1
  refine ⟨_, _, rfl, ⟨L.bb b, 0, vs, rfl, fun _ => .inl ⟨a6v h3, hr.bk b k _ c h1 hk⟩, a6S (c0R hr hk) _ _ (b5s h4), fun j u hu => ?_⟩, c0s hr hk L' h2⟩
  rw [Nat.zero_add, cell_of_row w _ j vs.toArray t (0, 0) h3]
  simpa using hu
theorem c8P (hr : Rel P C nt L σ a w) {k : Nat} {c : KC} (hk : lkk σ k = some c) (L' : Lyt) {rv : Nat → Value} {v u : SV} {r : Value} (h : a8G σ v u) (hv : SVr P C L w v r) : SVr P ⟨w, L.fp k, rv⟩ L' w u r ∧ u.keys = [] ∧ u.boxes = [] := by
 cases v with
 | one c0 =>
  cases c0 with
  | dv K d =>
   obtain ⟨h1, rfl⟩ := h
   simp only [SVr, CVr] at hv ⊢
   exact ⟨b1c h1 hv, rfl, rfl⟩
  | _ => simp [a8G] at h
 | clo f bs =>
  obtain ⟨caps, h1, rfl⟩ := h
  simp only [SVr] at hv ⊢
  exact ⟨⟨_, hv, c0s hr hk L' h1⟩, rfl, rfl⟩
 | _ => simp [a8G] at h
theorem b7j (hr : Rel P C nt L σ a w) {k : Nat} {c : KC} (hk : lkk σ k = some c) (L' : Lyt) {rv : Nat → Value} : ∀ {xs : List Operand} {us : List SV}, a6V P C nt σ xs us → xs.length = us.length ∧ (∀ u ∈ us, u.keys = [] ∧ u.boxes = []) ∧ ∀ (i : Nat) u, us[i]? = some u → ∃ x, xs[i]? = some x ∧ SVr P ⟨w, L.fp k, rv⟩ L' w u (a.eval x)
 | [], _, h => by simp only [a6V] at h; subst h; simp
 | x :: xs, _, ⟨v, u, us', e, h1, h2, h3⟩ => by
  subst e
  obtain ⟨g1, g2, g3⟩ := b7j hr hk L' (rv := rv) h3
  obtain ⟨q1, q2, q3⟩ := c8P hr hk L' (rv := rv) h2 (h1.run L a w hr)
  refine ⟨by simp [g1], fun z hz => ?_, fun i z hz => ?_⟩
  ·rcases List.mem_cons.1 hz with rfl | hz
   ·exact ⟨q2, q3⟩
   ·exact g2 z hz
  ·cases i with
   | zero => simp only [List.getElem?_cons_zero, Option.some.injEq] at hz; subst hz; exact ⟨x, rfl, q1⟩
   | succ i => simpa using g3 i z (by simpa using hz)
theorem c3h {f : FuncId} {xs : List Operand} {ats : Array TypeId} {us : List SV} {k d : Nat} {c c0 c1 : KC} (ho : o.op = .call { callee := .value (.func f), args := (x :: xs).toArray, argTypes := ats }) (hd : o.dst = some d) (hn : Nat.blt d nt = true)
  (hc : ∀ (args : Array Value) (w : World), (callFunc f args).run P w = .ok (.enter f args) w) (hf : MFn P f us c0 c1) (hx : Ev P C nt σ x (.one (.key k))) (hk : lkk σ k = some c) (hc0 : (⟨false, c.e, c.sz, c.n, c.cs⟩ : KC) = c0) (hc1 : c1.h = false) (ha : a6V P C nt σ xs us) :
  Ef P C nt o σ (fun σ' => σ' = (σ.mut k [] false c1).put d (.one (.key k))) := Ef.mk fun L a w hr K Q hK => by
 subst hc0
 have e1 := hx.run L a w hr
 simp only [SVr, CVr] at e1
 obtain ⟨g1, g2, g3⟩ := b7j hr hk (a5K L k) (rv := (a5K L k).rv) ha
 refine a7R (xs := x :: xs) ho hc ?_
 have hall : ∀ q ∈ (.one (.key 0) :: us : List SV), (∀ j ∈ q.keys, j = 0) ∧ q.boxes = [] := fun q hq => by
  rcases List.mem_cons.1 hq with rfl | hq
  ·exact ⟨by simp [SV.keys, CV.keys], rfl⟩
  ·obtain ⟨h1, h2⟩ := g2 q hq
   exact ⟨by simp [h1], h2⟩
 have hlk : ∀ (tm : List (Nat × SV)) j c', lkk ⟨tm, [], [(0, some (⟨false, c.e, c.sz, c.n, c.cs⟩ : KC))]⟩ j = some c' → j = 0 ∧ c' = ⟨false, c.e, c.sz, c.n, c.cs⟩ := fun tm j c' h => by
  simp only [lkk, a0W] at h
  split at h
  ·rename_i e; exact ⟨e, by simpa using h.symm⟩
  ·simp [look] at h
 have hen : ∀ (us : List SV) (j : Nat), (∀ q ∈ us, (∀ j ∈ q.keys, j = 0) ∧ q.boxes = []) → (∀ i ∈ (a2j j us).flatMap fun p => p.2.keys, i = 0) ∧ ((a2j j us).flatMap fun p => p.2.boxes) = [] := fun us => by
  induction us with
  | nil => intro j _; simp [a2j]
  | cons q us ih =>
   intro j h
   obtain ⟨h1, h2⟩ := ih (j + 1) (fun z hz => h z (by simp [hz]))
   obtain ⟨h3, h4⟩ := h q (by simp)
   refine ⟨fun i hi => ?_, by simp [a2j, h2, h4]⟩
   simp only [a2j, List.flatMap_cons, List.mem_append] at hi
   rcases hi with hi | hi
   ·exact h3 i hi
   ·exact h1 i hi
 obtain ⟨t1, t2⟩ := hen _ 0 hall
 have hent : Rel P ⟨w, L.fp k, (a5K L k).rv⟩ (.one (.key 0) :: us : List SV).length (a5K L k) ⟨a2j 0 (.one (.key 0) :: us), [], [(0, some ⟨false, c.e, c.sz, c.n, c.cs⟩)]⟩ ⟨((x :: xs).map a.eval).toArray, []⟩ w := {
  df := rfl
  sz := by simp [g1]
  tm := fun i v hv => by
   obtain ⟨_, h4⟩ := a7Q _ 0 i v hv
   rw [Nat.sub_zero] at h4
   cases i with
   | zero =>
    simp only [List.getElem?_cons_zero, Option.some.injEq] at h4
    subst h4
    simp [SVr, CVr, a5K, e1]
   | succ i =>
    obtain ⟨z, h5, h6⟩ := g3 i v (by simpa using h4)
    have : ((x :: xs).map a.eval).toArray.getD (i + 1) undef = a.eval z := by simp [Array.getD_eq_getD_getElem?, h5]
    rw [this]; exact h6
  bx := fun i t cs h => by cases h
  ks := fun j c' h => by
   obtain ⟨rfl, rfl⟩ := hlk _ j c' h
   refine ⟨?_, by simp⟩
   simpa [a5K] using (hr.ks k c hk).1
  b1 := fun i x h => by cases h
  k1 := fun j c' h => by
   obtain ⟨rfl, rfl⟩ := hlk _ j c' h
   intro b hb
   exact .inr (by simpa [a5K] using hb)
  kn := fun j c' h => by
   obtain ⟨rfl, rfl⟩ := hlk _ j c' h
   simpa [a5K] using hr.kn k c hk
  bb := fun i j x y h => by cases h
  bk := fun i k x c h => by cases h
  kk := fun i j c' d' h1 h2 hij => by
   obtain ⟨rfl, _⟩ := hlk _ i c' h1
   obtain ⟨rfl, _⟩ := hlk _ j d' h2
   exact absurd rfl hij
  lk := fun j hj => by
   simp only [St.tk, List.flatMap_nil, List.append_nil] at hj
   rw [t1 j hj]; simp [lkk, a0W]
  lb := fun b hb => by simp only [St.tb, t2] at hb; cases hb
  s0 := fun b hb => hr.k_lt hk b hb
  chg := Chg.refl _ _ }
 refine (hf.ok w (L.fp k) (a5K L k) ((x :: xs).map a.eval) (by simp [g1]) hent).mono ?_
 rintro e' w' ⟨r, res, σ', L', rfl, ⟨rfl, hks⟩, h3⟩
 have hlk' : lkk { σ' with tm := [(0, SV.one (.key 0))] } 0 = some c1 := by simp [lkk, hks, a0W]
 have hro := (h3.ks 0 c1 hlk').1
 have hrr := h3.tm 0 (.one (.key 0)) (by simp [a0W])
 simp only [SVr, CVr] at hrr
 have hrr : r = L'.rv 0 := by simpa using hrr
 have hset := hr.setkey (k := k) (c := c) (c' := c1) (js := []) (same := false) (v' := L'.rv 0) (f' := L'.fp 0) hk (by simp) h3.chg hro (h3.kn 0 c1 hlk') (fun b hb => by
  rcases h3.k1 0 c1 hlk' b hb with h | h
  ·exact .inr (.inr h)
  ·exact .inl h) (by simp) (by simp) (fun h => by rw [hc1] at h; cases h)
 refine ⟨r, rfl, hK { L with fp := fun i => if i = k then L'.fp 0 else L.fp i, rv := fun i => if i = k then L'.rv 0 else L.rv i } _ _ _ rfl ?_⟩
 rw [hd]
 exact hset.put (d := d) (v := .one (.key k)) (r := r) (by simpa [Nat.blt_eq] using hn) (by simp [SVr, CVr, hrr]) (by simp [SV.keys, CV.keys, a5o]) (by simp [SV.boxes])
/-! over states that are written out -/
section
variable {Q : Exit → St → Prop} {all : Array Oper} {rest : List Oper} {tm : List (Nat × SV)} {bx : List (Nat × TypeId × List CV)} {ks : List (Nat × Option KC)} {d : Nat}
theorem c6K (hT : TTOk P T) {t k off src sz by_ : Nat} {zc : List CV} {c : KC} {ds cs : List DV} (hg : o.guard = none) (hd : o.dst = none) (ho : o.op = .store t x y) (ht : look T.el t = some (sz, by_, zc)) (hx : Ev P C nt ⟨tm, bx, ks⟩ x (.eptr k off)) (hy : Ev P C nt ⟨tm, bx, ks⟩ y (.agg (a3b k src ds)))
  (hk : lkk ⟨tm, bx, ks⟩ k = some c) (hE : Nat.blt c.e 1000000 = true) (hds : sub src sz c.cs = ds) (hlt : off + sz ≤ src) (hle : src + sz ≤ c.cs.length) (hcs : a1d off ds (a1d src (List.replicate sz .hole) c.cs) = cs)
  (h : Ops P C nt Q all rest ⟨a0p [k] [] tm, a0k [k] [] bx, (k, some { c with cs := cs }) :: ks⟩) : Ops P C nt Q all (o :: rest) ⟨tm, bx, ks⟩ := a3L hg (c8n hT ho hd ht hx hy hk hE hds hlt hle) (by subst hcs; exact h)
theorem c6g (hT : TTOk P T) {t e k lo hi sz by_ : Nat} {zc : List CV} {c : KC} {cs : List DV} (hg : o.guard = none) (hd : o.dst = none) (ho : o.op = .call { callee := .builtin .clear, args := #[x], argTypes := #[t] }) (ht : look T.sl t = some e) (he : look T.el e = some (sz, by_, zc)) (hl0 : zc.length = sz) (hx : Ev P C nt ⟨tm, bx, ks⟩ x (.ksl k lo hi sz))
  (hk : lkk ⟨tm, bx, ks⟩ k = some c) (hce : c.e = e) (hcz : c.sz = sz) (hlh : lo ≤ hi) (hhi : hi ≤ c.n) (hcs : a1d (lo * sz) (List.replicate ((hi - lo) * sz) .hole) c.cs = cs)
  (h : Ops P C nt Q all rest ⟨a0p [k] [] tm, a0k [k] [] bx, (k, some { c with cs := cs }) :: ks⟩) : Ops P C nt Q all (o :: rest) ⟨tm, bx, ks⟩ := a3L hg (c2I hT ho hd ht he hl0 hx hk hce hcz hlh hhi) (by subst hcs; exact h)
theorem c7X {f : FuncId} {xs : List Operand} {ats : Array TypeId} {us : List SV} {k : Nat} {c c0 c1 : KC} (hg : o.guard = none) (hd : o.dst = some d) (ho : o.op = .call { callee := .value (.func f), args := (x :: xs).toArray, argTypes := ats }) (hn : Nat.blt d nt = true)
  (hc : ∀ (args : Array Value) (w : World), (callFunc f args).run P w = .ok (.enter f args) w) (hf : MFn P f us c0 c1) (hx : Ev P C nt ⟨tm, bx, ks⟩ x (.one (.key k))) (hk : lkk ⟨tm, bx, ks⟩ k = some c) (hc0 : (⟨false, c.e, c.sz, c.n, c.cs⟩ : KC) = c0) (hc1 : c1.h = false) (ha : a6V P C nt ⟨tm, bx, ks⟩ xs us)
  (h : Ops P C nt Q all rest ⟨(d, .one (.key k)) :: a0p [k] [k] tm, a0k [k] [k] bx, (k, some c1) :: ks⟩) : Ops P C nt Q all (o :: rest) ⟨tm, bx, ks⟩ := a3L hg (c3h ho hd hn hc hf hx hk hc0 hc1 ha) h
end
end
section
variable {P : Program} {C : Ctx} {nt : Nat} {o : Oper} {x y : Operand} {T : TT} {Q : Exit → St → Prop} {all : Array Oper} {tm : List (Nat × SV)} {bx : List (Nat × TypeId × List CV)} {ks : List (Nat × Option KC)} {oB oK nK : List Nat} {hd' : Nat → Bool} {listed : Array Bool} {fuel : Nat}
theorem b2V (i : Nat) (hT : TTOk P T) {t e sz by_ d k n : Nat} {zc cs : List CV} {ds : List DV} {js : List Nat} {ps : List (Nat × Operand)} (hi : all[i]? = some o) (hg : o.guard = none) (hd : o.dst = some d) (ho : o.op = .buildSlice t n ps.toArray) (hn : Nat.blt d nt = true) (ht : look T.sl t = some e) (he : look T.el e = some (sz, by_, zc)) (hl0 : zc.length = sz) (hsz : Nat.blt 0 sz = true) (hsm : Nat.ble (n * sz) 16777216 = true) (hps : ps.length = n) (hn0 : Nat.blt 0 n = true)
  (hx : a4Y P C nt ⟨tm, bx, ks⟩ sz 0 ps cs) (how : a3z ⟨tm, bx, ks⟩ cs ds js) (hnj : js.Nodup) (hkj : k ∉ js) (hcl : cs.length = n * sz) (hk : lkk ⟨tm, bx, ks⟩ k = none)
  (hb : (oB.all fun i => (look bx i).isSome) = true) (hk' : (oK.all fun k => (lkk ⟨tm, bx, ks⟩ k).isSome) = true) (hn' : (nK.all fun k => (lkk ⟨tm, bx, ks⟩ k).isSome) = true)
  (h : OpsN P C nt Q all oB oK nK hd' (listed.setIfInBounds i true) fuel ⟨(d, .one (.key k)) :: a0p (k :: js) (k :: js) tm, a0k (k :: js) (k :: js) bx, (k, some ⟨false, e, sz, n, ds⟩) :: ((js.map fun j => (j, none)) ++ (k, some ⟨false, e, sz, 0, []⟩) :: ks)⟩) : OpsNJ P C nt Q all oB oK nK hd' listed fuel i ⟨tm, bx, ks⟩ :=
 b6O i hi hg (b2f hT ho hd hn ht he hl0 hsz hsm hps hn0 hx how hnj hkj hcl hk) hb hk' hn' fun σ' e => by rw [e]; exact h
end
theorem c3O {P : Program} {C : Ctx} {nt : Nat} {σ σ' : St} {x y : Code} {Q1 Q2 : Exit → St → Prop} (h1 : Ok P C nt (a5f (fun σ1 => Weak P C nt σ1 σ') Q2) x σ) (h2 : Ok P C nt Q1 y σ') : Ok P C nt (a5f (Ok P C nt Q1 y) Q2) x σ := Ok.mk fun L a w hr =>
 wp_mono (h1.run L a w hr) (b9l fun e σ1 h => by
  cases e with
  | normal => exact a0h h h2
  | _ => exact h)
section
variable {P : Program} {C : Ctx} {nt : Nat} {σ : St} {L : Lyt} {a : Act} {w : World} {o : Oper} {x y : Operand} {T : TT}
theorem b1h {C C' : Ctx} {L L' : Lyt} {w : World} {c : CV} {v : Value} (hp : c.plain = true) (h : CVr C' L' w c v) : CVr C L w c v := by
 obtain ⟨h1, h2, h3⟩ := b1W hp
 have := b4u (C := C) (L := L) (m := 0) h1 (by rw [h2]; simp) h
 rwa [h3] at this
theorem c4V {f : FuncId} {xs : List Operand} {ats : Array TypeId} {us : List SV} {d : Nat} {a1 c a2 u1 u2 p q r1 r2 : CV} {dd : DV} (ho : o.op = .call { callee := .value (.func f), args := (x :: xs).toArray, argTypes := ats }) (hd : o.dst = some d) (hn : Nat.blt d nt = true)
  (hc : ∀ (args : Array Value) (w : World), (callFunc f args).run P w = .ok (.enter f args) w) (hf : PFn P f (.agg [u1, .arg 0 dd, u2] :: us) (.tup [(true, [p, .arg 0 dd, q]), (false, [r1]), (false, [r2])]))
  (hx : Ev P C nt σ x (.agg [a1, c, a2])) (h1 : a1V σ a1 u1) (hcc : a1V σ c (.dv [] dd)) (h2 : a1V σ a2 u2) (ha : a2b P C nt σ xs us) (hp : p.plain = true) (hq : q.plain = true) (hr1 : r1.plain = true) (hr2 : r2.plain = true) (hck : (c.keys.all fun k => (lkk σ k).isSome) = true) :
  EfG P C nt o σ (fun σ' => σ' = σ.put d (.tup [(true, [p, c, q]), (false, [r1]), (false, [r2])])) := EfG.mk fun L a w hr K Q hK => by
 have e1 := hx.run L a w hr
 simp only [SVr, CVL] at e1
 obtain ⟨vs, ex, v1, vs1, rfl, k1, vc, vs2, rfl, k2, v2, vs3, rfl, k3, rfl⟩ := e1
 let L0 : Lyt := { L with rv := fun _ => vc }
 obtain ⟨g1, g2⟩ := a8C hr L0 h1 k1
 obtain ⟨g3, g4⟩ := a8C hr L0 hcc k2
 obtain ⟨g5, g6⟩ := a8C hr L0 h2 k3
 obtain ⟨l1, l2⟩ := a8x hr L0 xs us ha
 refine a7R (xs := x :: xs) ho hc ?_
 have hent := b4v (P := P) (w := w) (L := L0) (us := .agg [u1, .arg 0 dd, u2] :: us) (vs := (x :: xs).map a.eval) (by simp [l1]) (fun i u hu => by
  cases i with
  | zero =>
   simp only [List.getElem?_cons_zero, Option.some.injEq] at hu
   subst hu
   refine ⟨a.eval x, rfl, ?_, ?_, rfl⟩
   ·rw [ex]
    simp only [SVr, CVL]
    refine ⟨_, rfl, v1, _, rfl, g1, vc, _, rfl, ?_, v2, _, rfl, g5, rfl⟩
    simp only [CVr] at g3 ⊢
    exact ⟨rfl, g3⟩
   ·have g0 : (CV.arg 0 dd).keys = [] := rfl
    simp only [SV.keys, List.flatMap_cons, List.flatMap_nil, g2, g6, g0, List.append_nil]
  | succ i =>
   obtain ⟨z, h5, h6, h7⟩ := l2 i u (by simpa using hu)
   exact ⟨a.eval z, by simp [h5], h6, h7⟩)
 refine (hf.ok w [] L0 ((x :: xs).map a.eval) (by simp [l1]) hent).mono ?_
 rintro e' w' ⟨r, res, σ', L', rfl, rfl, h3⟩
 have hg := hr.grow h3.chg
 have ht := h3.tm 0 _ (by simp [a0W]; rfl)
 have e2 := hx.run L a w' hg
 simp only [SVr, CVL] at e2
 rw [ex] at e2
 obtain ⟨vs', ex', z1, zs1, rfl, _, zc, zs2, rfl, m2, z2, zs3, rfl, _, rfl⟩ := e2
 simp only [Value.agg.injEq, Array.mk.injEq, List.cons.injEq, and_true] at ex'
 obtain ⟨rfl, rfl, rfl⟩ := ex'
 have hrr : (#[r] : Array Value).getD 0 undef = r := rfl
 rw [hrr] at ht
 simp only [SVr, TVL, CVL, if_true] at ht
 obtain ⟨rs, rfl, us1, t1, rs1, rfl, ⟨p', pl, rfl, q1, c', pl2, rfl, q2, q', pl3, rfl, q3, rfl⟩, rfl, us2, t2, rs2, rfl, ⟨n', nl, rfl, q4, rfl⟩, e5, us3, t3, rs3, rfl, ⟨b', bl, rfl, q5, rfl⟩, e6, rfl⟩ := ht
 have q2 : c' = vc := by simp only [CVr] at q2; exact q2.1
 subst q2
 refine ⟨_, rfl, hK L _ _ _ rfl ?_ ⟨h3.chg, fun _ _ _ => rfl, fun _ _ _ => rfl⟩⟩
 rw [hd]
 refine hg.put (v := .tup [(true, [p, c, q]), (false, [r1]), (false, [r2])]) (by simpa [Nat.blt_eq] using hn) ?_ ?_ (by simp [SV.boxes])
 ·simp only [SVr, TVL, CVL, if_true]
  exact ⟨_, rfl, _, _, _, rfl, ⟨p', _, rfl, b1h hp q1, c', _, rfl, m2, q', _, rfl, b1h hq q3, rfl⟩, rfl, _, _, _, rfl, ⟨n', _, rfl, b1h hr1 q4, rfl⟩, by simpa using e5, _, _, _, rfl, ⟨b', _, rfl, b1h hr2 q5, rfl⟩, by simpa using e6, rfl⟩
 ·intro k hk
  have kp : ∀ {z : CV}, z.plain = true → z.keys = [] := fun h => (b1W h).2.1
  simp only [SV.keys, List.flatMap_cons, List.flatMap_nil, List.append_nil, kp hp, kp hq, kp hr1, kp hr2, List.nil_append] at hk
  exact List.all_eq_true.1 hck k hk
section
variable {Q : Exit → St → Prop} {all : Array Oper} {rest : List Oper} {tm : List (Nat × SV)} {bx : List (Nat × TypeId × List CV)} {ks : List (Nat × Option KC)} {oB oK : List Nat} {hd' : Nat → Bool} {listed : Array Bool} {fuel : Nat}
theorem c5v {A : a1S} (i : Nat) {f : FuncId} {xs : List Operand} {ats : Array TypeId} {us : List SV} {d : Nat} {a1 c a2 u1 u2 p q r1 r2 : CV} {dd : DV} (hi : all[i]? = some o) (ht : b1X all listed A i = true) (hiA : (nos A).contains i = false) (hg : o.guard = none) (hd : o.dst = some d) (hv : VOk P all nt A ⟨tm, bx, ks⟩) (hv1 : VOk P all nt A ⟨(d, .tup [(true, [p, c, q]), (false, [r1]), (false, [r2])]) :: tm, bx, ks⟩) (ho : o.op = .call { callee := .value (.func f), args := (x :: xs).toArray, argTypes := ats }) (hn : Nat.blt d nt = true)
  (hc : ∀ (args : Array Value) (w : World), (callFunc f args).run P w = .ok (.enter f args) w) (hf : PFn P f (.agg [u1, .arg 0 dd, u2] :: us) (.tup [(true, [p, .arg 0 dd, q]), (false, [r1]), (false, [r2])]))
  (hx : Ev P C nt ⟨tm, bx, ks⟩ x (.agg [a1, c, a2])) (h1 : a1V ⟨tm, bx, ks⟩ a1 u1) (hcc : a1V ⟨tm, bx, ks⟩ c (.dv [] dd)) (h2 : a1V ⟨tm, bx, ks⟩ a2 u2) (ha : a2b P C nt ⟨tm, bx, ks⟩ xs us) (hp : p.plain = true) (hq : q.plain = true) (hr1 : r1.plain = true) (hr2 : r2.plain = true) (hck : (c.keys.all fun k => (lkk ⟨tm, bx, ks⟩ k).isSome) = true)
  (hb : (oB.all fun i => (look bx i).isSome) = true) (hk' : (oK.all fun k => (lkk ⟨tm, bx, ks⟩ k).isSome) = true)
  (h : OpsA P C nt Q all oB oK hd' A (listed.setIfInBounds i true) fuel ⟨(d, .tup [(true, [p, c, q]), (false, [r1]), (false, [r2])]) :: tm, bx, ks⟩) : OpsA P C nt Q all oB oK hd' A listed (fuel + 1) ⟨tm, bx, ks⟩ :=
 b2S i hi hg hv hiA hb hk' ht (fun B hB => EfG.mk fun L a w hr K Q' hk => by
  have he : Ext P C nt ⟨tm, bx, ks⟩ (St.adds ⟨tm, bx, ks⟩ B) := hv.ext hB
  exact (c4V (σ := St.adds ⟨tm, bx, ks⟩ B) ho hd hn hc hf (he.ev hx) (he.argC h1) (he.argC hcc) (he.argC h2) (he.args ha) hp hq hr1 hr2 (by simpa only [he.lkk] using hck)).run L a w hr K Q' fun L' σ' a' w' h1 h2 h3 => hk L' σ' a' w' (.inr (by
   subst h1
   exact fun L a w hr => hv1.perm hB hr)) h2 h3) h
end
theorem c2Y (hT : TTOk P T) {t k off sz by_ : Nat} {zc : List CV} {c : KC} {ds : List DV} (ho : o.op = .store t x y) (hd : o.dst = none) (ht : look T.el t = some (sz, by_, zc)) (hx : Ev P C nt σ x (.eptr k off)) (hy : Ev P C nt σ y (.agg (a3b k off ds)))
  (hk : lkk σ k = some c) (hE : Nat.blt c.e 1000000 = true) (hds : sub off sz c.cs = ds) (hle : off + sz ≤ c.cs.length) : Ef P C nt o σ (fun σ' => σ' = σ.mut k [] true c) := Ef.mk fun L a w hr K Q hK => by
 have hE' : c.e < 1000000 := by simpa [Nat.blt_eq] using hE
 have hdl : ds.length = sz := by rw [← hds, a4t _ _ _ hle]
 have hkv : a1p σ (.agg (a3b k off ds)) = true := by
  simp only [a1p, SV.keys, SV.boxes, List.all_nil, Bool.and_true, List.all_eq_true]
  intro j hj
  rw [b3b j hj, hk]; rfl
 obtain ⟨us, h1, h2, h3⟩ := a4y (p := (true, a3b k off ds)) hr rfl hkv (hy.run L a w hr)
 have h4 := hx.run L a w hr
 simp only [SVr] at h4
 obtain ⟨g0, n0, cap0, e1, e2⟩ := h4
 obtain ⟨hpos, hcl, hro⟩ := b1J hr hk hE'
 rcases hro with ⟨e3, _⟩ | ⟨g, cap, cur, vs, f, e3, hg, hnc, hcm, hsz, htake, hfp, hown⟩
 ·rw [e1] at e3; cases e3
 rw [e1] at e3
 simp only [Value.slice.injEq, Option.some.injEq, Addr.mk.injEq, and_true, true_and] at e3
 obtain ⟨rfl, rfl, rfl⟩ := e3
 obtain ⟨inf, z, g1, g2, _⟩ := hT.el t sz by_ zc ht
 have hvl : vs.length = c.cs.length := a3e _ _ _ hown
 have hcur : c.cs.length ≤ cur.toList.length := by rw [hcl, Array.length_toList, hsz]; exact Nat.mul_le_mul_right _ hnc
 have hdvl : ∀ (ds : List DV) (off : Nat), (a3b k off ds).length = ds.length := fun ds => by
  induction ds with
  | nil => intro _; rfl
  | cons d ds ih => intro off; simp [a3b, ih]
 have hus : us.length = sz := by rw [a2S h2]; simp only [hdvl, hdl]
 have hcell : ∀ j v, vs[j]? = some v → w.cell? ⟨g0, j, none⟩ = some v := fun j v hj => by
  rw [cell_of_row w g0 j cur c.e (0, 0) hg]
  rw [← htake, List.getElem?_take] at hj
  split at hj
  ·simpa using hj
  ·cases hj
 have hX : c.cs = c.cs.take off ++ (ds ++ c.cs.drop (off + sz)) := by
  rw [← hds]
  unfold sub
  rw [← List.drop_drop, List.take_append_drop, List.take_append_drop]
 have hown2 := hown
 rw [hX] at hown2
 obtain ⟨v1, r1, f1, s1, rfl, rfl, o1, t1⟩ := a4T _ _ _ _ hown2
 obtain ⟨v2, v3, f2, f3, rfl, rfl, o2, o3⟩ := a4T _ _ _ _ t1
 have l1 := a3e _ _ _ o1
 have l2 := a3e _ _ _ o2
 have lA : (c.cs.take off).length = off := by rw [c9j]; omega
 have o2' : a0Q w ds us f2 := b2s e1 o2 h2 (fun j v hj => hcell (off + j) v (by
  have hj' := (List.getElem?_eq_some_iff.1 hj).1
  rw [List.getElem?_append_right (by omega), List.getElem?_append_left (by omega), show off + j - v1.length = j by omega]
  exact hj))
 have hnew : a0Q w c.cs (v1 ++ (us ++ v3)) (f1 ++ (f2 ++ f3)) := by
  rw [hX]
  exact a3n _ _ _ _ _ _ o1 (a3n _ _ _ _ _ _ o2' o3)
 have evs : a1d off us (cur.toList.take (c.n * c.sz)) = v1 ++ (us ++ v3) := by
  rw [htake]
  exact a6O (by omega) (by omega)
 have hnd := hr.kn k c hk
 rw [hfp, List.nodup_cons] at hnd
 have hrun := a7l (P := P) (vs := cur.toList) (z := z) (off := off) (t' := c.e) g1 g2 h1 hus h3 (by simpa using hg) (by omega)
 have hrel := hr.wrow (off := off) (us := us) (cs' := c.cs) (f' := f1 ++ (f2 ++ f3)) hk hE' e1 hg hnc hcm hsz hpos (by rw [← hcl]; omega) (by rw [evs]; exact hnew)
  (fun b hb => ⟨by rw [hfp]; exact List.mem_cons_of_mem _ hb, fun e => hnd.1 (by rw [← e]; exact hb)⟩) (by rw [hfp]; simp) hnd.2 hcl
 unfold Oper.wp execOp
 simp only [ho, e2, Sem.run_bind, hrun, Result.andThen_ok, Sem.run_pure, Oper.upon, hd, Act.put]
 exact hK _ _ _ _ rfl hrel
theorem c3D {Q : Exit → St → Prop} {all : Array Oper} {rest : List Oper} {tm : List (Nat × SV)} {bx : List (Nat × TypeId × List CV)} {ks : List (Nat × Option KC)} (hT : TTOk P T) {t k off sz by_ : Nat} {zc : List CV} {c : KC} {ds : List DV} (hg : o.guard = none) (hd : o.dst = none) (ho : o.op = .store t x y) (ht : look T.el t = some (sz, by_, zc)) (hx : Ev P C nt ⟨tm, bx, ks⟩ x (.eptr k off)) (hy : Ev P C nt ⟨tm, bx, ks⟩ y (.agg (a3b k off ds)))
  (hk : lkk ⟨tm, bx, ks⟩ k = some c) (hE : Nat.blt c.e 1000000 = true) (hds : sub off sz c.cs = ds) (hle : off + sz ≤ c.cs.length)
  (h : Ops P C nt Q all rest ⟨a0p [k] [] tm, a0k [k] [] bx, (k, some c) :: ks⟩) : Ops P C nt Q all (o :: rest) ⟨tm, bx, ks⟩ := a3L hg (c2Y hT ho hd ht hx hy hk hE hds hle) h
end
structure OpsX (P : Program) (C : Ctx) (nt : Nat) (Q : Exit → St → Prop) (all : Array Oper) (oB oK : List Nat) (b : Nat) (hd' : Nat → Bool) (listed : Array Bool) (fuel : Nat) (σ : St) : Prop where
 run : ∀ wb L a w, Rel P C nt L σ a w → SWX (L.bb b) wb w → C.w0.heap.size ≤ wb.heap.size → (∀ i ∈ oB, L.bb i < wb.heap.size) → (∀ k ∈ oK, ∀ b ∈ L.fp k, b < wb.heap.size) → a2m P .any all (QQ P C nt Q) (SWX (L.bb b) wb) hd' fuel listed a w
section
variable {P : Program} {C : Ctx} {nt : Nat} {Q : Exit → St → Prop} {all : Array Oper} {oB oK : List Nat} {hd' : Nat → Bool} {listed : Array Bool} {fuel b : Nat} {tm : List (Nat × SV)} {bx : List (Nat × TypeId × List CV)} {ks : List (Nat × Option KC)} {o : Oper} {d : Nat} {v X : SV} {Ks Bs : List Nat} {g : Bool} {x y : Operand} {T : TT}
theorem c4Q (b : Nat) (hs : List Nat) {id : Nat} {l : List Oper} (hm : P.follows .mixedOrders = true) (hb : (oB.all fun i => (look bx i).isSome) = true) (hk : (oK.all fun k => (lkk ⟨tm, bx, ks⟩ k).isSome) = true)
  (h : OpsX P C nt Q l.toArray oB oK b (fun i => hs.contains i) (Array.replicate l.length false) l.length ⟨tm, bx, ks⟩) : Ok P C nt Q (.region id l.toArray true) ⟨tm, bx, ks⟩ := Ok.mk fun L a w hr => by
 have hr' := a9f hr
 refine b0l (SWX (L.bb b) w.drew) (fun i => hs.contains i) hm ?_
 have := h.run w.drew L a w.drew hr' (SWX.refl _ _) hr'.chg.size (fun i hi => ?_) (fun k hk' b hb' => ?_)
 ·simpa using this
 ·obtain ⟨x, hx⟩ := c9h.1 (List.all_eq_true.1 hb i hi)
  exact hr'.bx_lt hx
 ·obtain ⟨c, hc⟩ := c9h.1 (List.all_eq_true.1 hk k hk')
  exact hr'.k_lt hc b hb'
theorem a5P (i : Nat) (hi : all[i]? = some o) (ht : a4G .any all hd' listed i = true) (hg : o.guard = none) (hd : o.dst = some d) (hp : Pu P C nt o ⟨tm, bx, ks⟩ v Ks Bs) (h1 : (Ks.all fun k => oK.contains k && (lkk ⟨tm, bx, ks⟩ k).isSome) = true) (h2 : (Bs.all fun k => oB.contains k && (!(Nat.beq k b) && (look bx k).isSome)) = true) (h3 : (look bx b).isSome = true) (hn : Nat.blt d nt = true) (hk : a1p ⟨tm, bx, ks⟩ v = true)
  (h : OpsX P C nt Q all oB oK b hd' (listed.setIfInBounds i true) fuel ⟨(d, v) :: tm, bx, ks⟩) : OpsX P C nt Q all oB oK b hd' listed (fuel + 1) ⟨tm, bx, ks⟩ := ⟨fun wb L a w hr hs hw hB hK => by
 obtain ⟨r, q3, q4⟩ := hp.run L a w hr
 obtain ⟨xb, hxb⟩ := c9h.1 h3
 have hy : ∀ w', SWX (L.bb b) wb w' → (execOp a.eval o).run P w' = .ok (.value r) w' := fun w' hs' => q4 w' fun z _ hu => by
  have hz : z < wb.heap.size ∧ z ≠ L.bb b := by
   rcases hu with (⟨h5, h6⟩ | ⟨k, hk, hb⟩) | ⟨i, hi, rfl⟩
   ·refine ⟨by omega, fun e => ?_⟩
    rcases hr.b1 b xb hxb with g | g
    ·omega
    ·exact h6 (by rw [e]; exact g)
   ·have := List.all_eq_true.1 h1 k hk
    simp only [Bool.and_eq_true, List.contains_iff_mem] at this
    obtain ⟨c, hc⟩ := c9h.1 this.2
    exact ⟨hK k this.1 z hb, fun e => hr.bk b k xb c hxb hc (by rw [← e]; exact hb)⟩
   ·have := List.all_eq_true.1 h2 i hi
    simp only [Bool.and_eq_true, List.contains_iff_mem, Bool.not_eq_true'] at this
    obtain ⟨c, hc⟩ := c9h.1 this.2.2
    exact ⟨hB i this.1, hr.bb i b c xb hc hxb (Nat.ne_of_beq_eq_false this.2.1)⟩
  rw [hs'.2 z hz.1 hz.2, hs.2 z hz.1 hz.2]
 refine a7a i (v := r) hi ht (fun _ _ _ h => h) hs (.inl ⟨by simp [Region.wanted, hg], hy⟩) ?_
 rw [hd]
 exact h.run wb L _ w (hr.put (by simpa [Nat.blt_eq] using hn) q3 (a1R hk).1 (a1R hk).2) hs hw hB hK⟩
theorem c5C (i : Nat) {t j t' sz by_ : Nat} {zc cs : List CV} {p : Bool × List CV} (hi : all[i]? = some o) (ht : (Region.ready .any all listed == [i]) = true) (hg : o.guard = none) (hT : TTOk P T) (ho : o.op = .store t x y) (hd : o.dst = none) (hte : look T.el t = some (sz, by_, zc)) (hx : Ev P C nt ⟨tm, bx, ks⟩ x (.box b j)) (hy : Ev P C nt ⟨tm, bx, ks⟩ y v) (hp : v.part = some p) (hk : a1p ⟨tm, bx, ks⟩ v = true)
  (hb : look bx b = some (t', cs)) (hl : p.2.length = sz) (hle : Nat.ble (j + sz) cs.length = true) (hkc : (cs.flatMap CV.keys).all (fun k => (lkk ⟨tm, bx, ks⟩ k).isSome) = true)
  (h : OpsX P C nt Q all oB oK b hd' (listed.setIfInBounds i true) fuel ⟨tm, (b, t', a1d j p.2 cs) :: bx, ks⟩) : OpsX P C nt Q all oB oK b hd' listed (fuel + 1) ⟨tm, bx, ks⟩ := ⟨fun wb L a w hr hs hw hB hK => by
 refine a7Y i hi hg ht fun K hK' => ?_
 obtain ⟨us, h1, h2, h3⟩ := a4y hr hp hk (hy.run L a w hr)
 have h4 := hx.run L a w hr
 simp only [SVr] at h4
 obtain ⟨vs, h5, h6⟩ := hr.bx b t' cs hb
 obtain ⟨inf, z, g1, g2, _⟩ := hT.el t sz by_ zc hte
 have hrun := a7l (z := z) g1 g2 h1 (by rw [a2S h2]; exact hl) h3 h5 (off := j) (by rw [a2S h6]; simpa [Nat.ble_eq] using hle)
 unfold Oper.wp execOp
 simp only [ho, h4, Sem.run_bind, hrun, Result.andThen_ok, Sem.run_pure, Oper.upon, hd, Act.put]
 have hs' := hs.chg (a5W w (L.bb b) (a1d j us vs).toArray)
 refine hK' _ _ (fun _ => hs') (h.run wb L _ _ (hr.setbox hb (a5W _ _ _) (setRow_heap _ _ _ _ _ _ h5) (a9N j h6 h2) ?_) hs' hw hB hK)
 intro k hm
 simp only [a1d, List.flatMap_append, List.mem_append, or_assoc] at hm
 simp only [List.all_eq_true] at hkc
 rcases hm with hm | hm | hm
 ·exact hkc k (by
   obtain ⟨c, hc, hk'⟩ := List.mem_flatMap.1 hm
   exact List.mem_flatMap.2 ⟨c, List.mem_of_mem_take hc, hk'⟩)
 ·rw [a4X hp] at hm; exact (a1R hk).1 k hm
 ·exact hkc k (by
   obtain ⟨c, hc, hk'⟩ := List.mem_flatMap.1 hm
   exact List.mem_flatMap.2 ⟨c, List.mem_of_mem_drop hc, hk'⟩)⟩
theorem c5r (is : List Nat) (hm : (is.all fun i => (all[i]?).isSome) = true) (hf : Nat.ble is.length fuel = true) (hc : a7y .any all hd' is listed = true) (h : Ops P C nt Q all (is.filterMap fun i => all[i]?) ⟨tm, bx, ks⟩) : OpsX P C nt Q all oB oK b hd' listed fuel ⟨tm, bx, ks⟩ := ⟨fun wb L a w hr _ _ _ _ =>
 a9z is _ listed fuel a w (b0d hm) (by simpa [Nat.ble_eq] using hf) hc (h.run L a w hr)⟩
theorem c8v (i : Nat) {R : St → Prop} (hi : all[i]? = some o) (ht : (Region.ready .any all listed == [i]) = true) (hg : o.guard = none) (hp : EfG P C nt o ⟨tm, bx, ks⟩ R) (hb : (oB.all fun i => (look bx i).isSome) = true) (hk : (oK.all fun k => (lkk ⟨tm, bx, ks⟩ k).isSome) = true) (hbb : (look bx b).isSome = true)
  (h : ∀ σ', R σ' → OpsX P C nt Q all oB oK b hd' (listed.setIfInBounds i true) fuel σ') : OpsX P C nt Q all oB oK b hd' listed (fuel + 1) ⟨tm, bx, ks⟩ := ⟨fun wb L a w hr hs hw hB hK => by
 refine a7Y i hi hg ht fun K hK' => hp.run L a w hr _ _ fun L' σ' a' w' h1 h2 h3 => ?_
 obtain ⟨xb, hxb⟩ := c9h.1 hbb
 have eb : L'.bb b = L.bb b := h3.box b xb hxb
 have hs' : SWX (L.bb b) wb w' := hs.chg (h3.chg.mono (by simp))
 refine hK' _ _ (fun _ => hs') ?_
 have := (h σ' h1).run wb L' a' w' h2 (by rw [eb]; exact hs') hw (fun j hj => ?_) (fun k hk' => ?_)
 ·rwa [eb] at this
 ·obtain ⟨x, hx⟩ := c9h.1 (List.all_eq_true.1 hb j hj)
  rw [h3.box j x hx]; exact hB j hj
 ·obtain ⟨c, hc⟩ := c9h.1 (List.all_eq_true.1 hk k hk')
  rw [h3.key k c hc]; exact hK k hk'⟩
theorem c1X (m i : Nat) {f : FuncId} {xs : List Operand} {ats : Array TypeId} {us : List SV} {kk : List (Nat × Option KC)} (hi : all[i]? = some o) (ht : (Region.ready .any all listed == [i]) = true) (hg : o.guard = none) (hd : o.dst = some d) (ho : o.op = .call { callee := .value (.func f), args := xs.toArray, argTypes := ats })
  (hc : ∀ (args : Array Value) (w : World), (callFunc f args).run P w = .ok (.enter f args) w) (hf : KFn P f us v kk) (ha : a2b P C nt ⟨tm, bx, ks⟩ xs us) (hn : Nat.blt d nt = true) (hres : v.retOk = true) (hfree : (kk.all fun q => (lkk ⟨tm, bx, ks⟩ (m + q.1)).isNone) = true)
  (hb : (oB.all fun i => (look bx i).isSome) = true) (hk : (oK.all fun k => (lkk ⟨tm, bx, ks⟩ k).isSome) = true) (hbb : (look bx b).isSome = true)
  (h : OpsX P C nt Q all oB oK b hd' (listed.setIfInBounds i true) fuel ⟨(d, v.sh m) :: tm, bx, shK m kk ++ ks⟩) : OpsX P C nt Q all oB oK b hd' listed (fuel + 1) ⟨tm, bx, ks⟩ :=
 c8v i hi ht hg (a7c (ι := Unit) (v := fun _ => v) (kk := fun _ => kk) (p := fun _ => True) m ho hd hn hc hf.ok ha (fun u σ' h => ⟨(), h.1, h.2, trivial⟩) (fun _ => hres) (fun _ => hfree)) hb hk hbb fun σ' ⟨_, _, e⟩ => by rw [e]; exact h
end
section
variable {P : Program} {C : Ctx} {nt : Nat} {o : Oper} {x y : Operand} {T : TT} {Q : Exit → St → Prop} {N : St → Prop} {all : Array Oper} {rest : List Oper} {σ : St} {tm : List (Nat × SV)} {bx : List (Nat × TypeId × List CV)} {ks : List (Nat × Option KC)} {d t : Nat} {v : SV} {ty : TypeId} {ps : String} {af : Array Edge}
theorem yA (e : o = { dst := some d, op := .move (.tmp t), type := ty, pos := ps, after := af, guard := none }) (hl : look tm t = some v) (hk : (Nat.blt d nt && a1p ⟨tm, bx, ks⟩ v) = true) (h : Ops P C nt Q all rest ⟨(d, v) :: tm, bx, ks⟩) : Ops P C nt Q all (o :: rest) ⟨tm, bx, ks⟩ := a5H (by rw [e]) (by rw [e]) (a0M (.inl (by rw [e])) (a0a hl)) (Bool.and_eq_true_iff.1 hk).1 (Bool.and_eq_true_iff.1 hk).2 h
theorem yB (e : o = { dst := some d, op := .assign (.tmp t), type := ty, pos := ps, after := af, guard := none }) (hl : look tm t = some v) (hk : (Nat.blt d nt && a1p ⟨tm, bx, ks⟩ v) = true) (h : Ops P C nt Q all rest ⟨(d, v) :: tm, bx, ks⟩) : Ops P C nt Q all (o :: rest) ⟨tm, bx, ks⟩ := a5H (by rw [e]) (by rw [e]) (a0M (.inr (by rw [e])) (a0a hl)) (Bool.and_eq_true_iff.1 hk).1 (Bool.and_eq_true_iff.1 hk).2 h
theorem yC {s f off b i : Nat} (hT : TTOk P T) (e : o = { dst := some d, op := .fieldAddr s (.tmp t) f, type := ty, pos := ps, after := af, guard := none }) (h1 : look T.of (1000 * s + f) = some off) (hf : Nat.blt f 1000 = true) (hl : look tm t = some (.box b i)) (hk : (Nat.blt d nt && a1p ⟨tm, bx, ks⟩ (.box b (i + off))) = true) (h : Ops P C nt Q all rest ⟨(d, .box b (i + off)) :: tm, bx, ks⟩) : Ops P C nt Q all (o :: rest) ⟨tm, bx, ks⟩ := a5H (by rw [e]) (by rw [e]) (a5E hT (by rw [e]) h1 hf (a0a hl)) (Bool.and_eq_true_iff.1 hk).1 (Bool.and_eq_true_iff.1 hk).2 h
theorem yD {s n b i t' : Nat} {cs : List CV} (hT : TTOk P T) (e : o = { dst := some d, op := .load s (.tmp t), type := ty, pos := ps, after := af, guard := none }) (h1 : look T.ag s = some n) (hl : look tm t = some (.box b i)) (hb : look bx b = some (t', cs)) (h2 : Nat.ble (i + n) cs.length = true) (hk : (Nat.blt d nt && a1p ⟨tm, bx, ks⟩ (.agg (sub i n cs))) = true) (h : Ops P C nt Q all rest ⟨(d, .agg (sub i n cs)) :: tm, bx, ks⟩) : Ops P C nt Q all (o :: rest) ⟨tm, bx, ks⟩ := a5H (by rw [e]) (by rw [e]) (a4I hT (by rw [e]) h1 (a0a hl) hb h2) (Bool.and_eq_true_iff.1 hk).1 (Bool.and_eq_true_iff.1 hk).2 h
theorem yE {s b i t' : Nat} {cs : List CV} {c : CV} {u : Unit} (hT : TTOk P T) (e : o = { dst := some d, op := .load s (.tmp t), type := ty, pos := ps, after := af, guard := none }) (h1 : look T.on s = some u) (hl : look tm t = some (.box b i)) (hb : look bx b = some (t', cs)) (h2 : cs[i]? = some c) (hk : (Nat.blt d nt && a1p ⟨tm, bx, ks⟩ (.one c)) = true) (h : Ops P C nt Q all rest ⟨(d, .one c) :: tm, bx, ks⟩) : Ops P C nt Q all (o :: rest) ⟨tm, bx, ks⟩ := a5H (by rw [e]) (by rw [e]) (a4d hT (by rw [e]) h1 (a0a hl) hb h2) (Bool.and_eq_true_iff.1 hk).1 (Bool.and_eq_true_iff.1 hk).2 h
theorem yG {k : IntKind} {n : Int} (e : o = { dst := some d, op := .assign (.const (.int k n)), type := ty, pos := ps, after := af, guard := none }) (h1 : (decide (k.min ≤ n) && decide (n ≤ k.max)) = true) (hk : (Nat.blt d nt && a1p ⟨tm, bx, ks⟩ (.one (.dv [] (.int k n)))) = true) (h : Ops P C nt Q all rest ⟨(d, .one (.dv [] (.int k n))) :: tm, bx, ks⟩) : Ops P C nt Q all (o :: rest) ⟨tm, bx, ks⟩ := a5H (by rw [e]) (by rw [e]) (a0M (.inr (by rw [e])) (a0i (a0j h1))) (Bool.and_eq_true_iff.1 hk).1 (Bool.and_eq_true_iff.1 hk).2 h
theorem yH {b : Bool} (e : o = { dst := some d, op := .assign (.const (.bool b)), type := ty, pos := ps, after := af, guard := none }) (hk : (Nat.blt d nt && a1p ⟨tm, bx, ks⟩ (.one (.dv [] (.bool b)))) = true) (h : Ops P C nt Q all rest ⟨(d, .one (.dv [] (.bool b))) :: tm, bx, ks⟩) : Ops P C nt Q all (o :: rest) ⟨tm, bx, ks⟩ := a5H (by rw [e]) (by rw [e]) (a0M (.inr (by rw [e])) a0J) (Bool.and_eq_true_iff.1 hk).1 (Bool.and_eq_true_iff.1 hk).2 h
theorem yR {id : Nat} {l : List Oper} {c : Code} (h : Ops P C nt (a5f (Ok P C nt Q c) Q) l.toArray l σ) : Ok P C nt Q (.seq (.region id l.toArray false) c) σ := a0u (a0n h)
theorem yN (h : N σ) : Ops P C nt (a5f N Q) all [] σ := a1H (a2x h)
theorem yO {Ks Bs : List Nat} (hg : o.guard = none) (hd : o.dst = some d) (hp : Pu P C nt o ⟨tm, bx, ks⟩ v Ks Bs) (hk : (Nat.blt d nt && a1p ⟨tm, bx, ks⟩ v) = true) (h : Ops P C nt Q all rest ⟨(d, v) :: tm, bx, ks⟩) : Ops P C nt Q all (o :: rest) ⟨tm, bx, ks⟩ := a5H hg hd hp (Bool.and_eq_true_iff.1 hk).1 (Bool.and_eq_true_iff.1 hk).2 h
theorem yS {s b i t' t2 sz by_ : Nat} {zc cs : List CV} {p : Bool × List CV} (hT : TTOk P T) (e : o = { dst := none, op := .store s (.tmp t) (.tmp t2), type := ty, pos := ps, after := af, guard := none }) (ht : look T.el s = some (sz, by_, zc)) (hx : look tm t = some (.box b i)) (hy : look tm t2 = some v) (hp : v.part = some p)
  (hb : look bx b = some (t', cs)) (hl : p.2.length = sz) (hk : (a1p ⟨tm, bx, ks⟩ v && (Nat.ble (i + sz) cs.length && (cs.flatMap CV.keys).all (fun k => (lkk ⟨tm, bx, ks⟩ k).isSome))) = true) (h : Ops P C nt Q all rest ⟨tm, (b, t', a1d i p.2 cs) :: bx, ks⟩) : Ops P C nt Q all (o :: rest) ⟨tm, bx, ks⟩ := by
 simp only [Bool.and_eq_true] at hk
 exact c0A hT (by rw [e]) (by rw [e]) (by rw [e]) ht (a0a hx) (a0a hy) hp hk.1 hb hl hk.2.1 hk.2.2 h
theorem yF {c : Code} {cs : List CV} {K : List Nat} {dd : DV} (t i : Nat) (hl : look σ.tm t = some (.agg cs)) (hi : cs[i]? = some (.dv K dd)) (h : b0r dd → Ok P C nt Q c σ) : Ok P C nt Q c σ := c2u (x := .tmp t) i (a0a hl) hi h
theorem yX {s : TypeId} {p : Bool × List CV} (e : o = { dst := some d, op := .box s (.tmp t), type := ty, pos := ps, after := af, guard := none }) (hl : look tm t = some v) (hp : v.part = some p) (hk : a1p ⟨tm, bx, ks⟩ v = true) (hn : Nat.blt d nt = true) (hi : look bx d = none)
  (h : Ops P C nt Q all rest ⟨(d, .box d 0) :: tm, (d, s, p.2) :: bx, ks⟩) : Ops P C nt Q all (o :: rest) ⟨tm, bx, ks⟩ := c3o (by rw [e]) (by rw [e]) (by rw [e]) (a0a hl) hp hk hn hi h
theorem kk : (∀ (α β : Type) (f : α → β) (a : α) (l : List α), (a :: l).map f = f a :: l.map f) ∧ (∀ (α β : Type) (f : α → β), ([] : List α).map f = []) ∧ (∀ (p : Nat → Bool) (a : Nat) (l : List Nat), (a :: l).any p = (p a || l.any p)) ∧ (∀ p : Nat → Bool, ([] : List Nat).any p = false) ∧ (∀ (a b : Nat) (l : List Nat), (a :: l).contains b = (b == a || l.contains b)) ∧ (∀ b : Nat, ([] : List Nat).contains b = false) ∧
  (∀ (α : Type) (l : List α), [] ++ l = l) ∧ (∀ (α : Type) (a : α) (l m : List α), a :: l ++ m = a :: (l ++ m)) ∧ (∀ b, (b || false) = b) ∧ (∀ b, (false || b) = b) ∧ (∀ b, (b || true) = true) ∧ (∀ b, (true || b) = true) ∧ (∀ (α : Type) (a b : α), (bif true then a else b) = a) ∧ (∀ (α : Type) (a b : α), (bif false then a else b) = b) := by
 refine ⟨fun _ _ _ _ _ => rfl, fun _ _ _ => rfl, fun _ _ _ => rfl, fun _ => rfl, fun a b l => List.contains_cons, fun _ => rfl, fun _ _ => rfl, fun _ _ _ _ => rfl, ?_, ?_, ?_, ?_, fun _ _ _ => rfl, fun _ _ _ => rfl⟩ <;> (intro b; cases b <;> rfl)
theorem yQ {c c' : Code} {K : List Nat} {b : Bool} (hl : look σ.tm t = some (.one (.dv K (.bool b)))) (h1 : b = true → Ok P C nt Q c σ) (h2 : b = false → Ok P C nt Q c' σ) : Ok P C nt Q (.cond (.tmp t) c c') σ := c6k (a0a hl) h1 h2
theorem yP {ty' s : TypeId} {K : List Nat} {m n : Int} (e : o = { dst := some d, op := .binOp .add s (.tmp t) (.const (.int .i64 n)) ty', type := ty, pos := ps, after := af, guard := none }) (hl : look tm t = some (.one (.dv K (.int .i64 m)))) (hi : (decide (IntKind.i64.min ≤ n) && decide (n ≤ IntKind.i64.max)) = true) (h1 : -9223372036854775808 ≤ m + n) (h2 : m + n ≤ 9223372036854775807) (hk : (Nat.blt d nt && a1p ⟨tm, bx, ks⟩ (.one (.dv [] (.int .i64 (m + n))))) = true) (h : Ops P C nt Q all rest ⟨(d, .one (.dv [] (.int .i64 (m + n)))) :: tm, bx, ks⟩) : Ops P C nt Q all (o :: rest) ⟨tm, bx, ks⟩ := a5H (by rw [e]) (by rw [e]) (a3M (by rw [e]) (a0a hl) (a0i (a0j hi)) (a2P h1 h2)) (Bool.and_eq_true_iff.1 hk).1 (Bool.and_eq_true_iff.1 hk).2 h
end
set_option maxHeartbeats 4000000 in
set_option maxRecDepth 100000 in
theorem c1D {e sz by_ n vc : Nat} {z : Value} {v : Value} {xs us : List Value} {va : Addr} {w : World} (ht : Tryz.prog.underlying 61 = some (.slice e)) (hinfo : (Tryz.prog.info? e).map (fun i => (i.zero, i.size, i.bytes)) = some (some z, sz, by_)) (hzs : z.cells.size = sz) (hsz : 0 < sz)
  (hown : w.ownsRow 0 e sz v n xs) (hsrc : a2y w (some va) 1 sz us) (h1 : ∀ u ∈ us, u.oneCell' = true) (h63 : n + 1 ≤ maxLen) (hb : (n + 1) * by_ ≤ 140737488355328) :
  Calls Tryz.prog 128 #[v, .int .i64 n, .slice (some va) 1 vc] w (a4c w v e sz n n xs us) := by
 have hm : n ≤ 9223372036854775807 := by unfold maxLen at h63; omega
 have hx1 : xs.length = n * sz := hown.1
 have hso : ∀ w, (Go.sizeOf e).run Tryz.prog w = .ok sz w := fun w => by
  obtain ⟨i0, q1, q2, q3, q4⟩ := info_parts hinfo
  simp [sizeOf, typeInfo, q1, q3]
 have hfin : ∀ A' c' w', w'.ownsRow 0 e sz (.slice A' (n + 1) c') (n + 1) (xs ++ us) → Chg v.ownBlock.toList w w' → (v.ownBlock = (Value.slice A' (n + 1) c').ownBlock ∨ (Value.slice A' (n + 1) c').ownBlock = some w.heap.size) → a4c w v e sz n n xs us (.returned (.slice A' (n + 1) c')) w' := fun A' c' w' g1 g2 g3 =>
  ⟨A', c', rfl, by rw [← hx1]; simpa using g1, g2, g3⟩
 rcases hown.2 with ⟨rfl, rfl⟩ | ⟨g, cap, cur, rfl, _, hg, hnc, hcm, hcs, htk⟩
 ·have HO := Lib.hid hown
  have HF := Lib.hid hfin
  have HS := Lib.hid hsrc
  have H1 := Lib.hid h1
  clear hown hfin hsrc h1 hx1
  go_enter Tryz.func128, Tryz.ntmps128
  go_wp2_with (at_builtin; refine a8Z _ rfl _ _ 61 rfl e z sz by_ ht hinfo hzs hsz _ 0 xs rfl HO (some va) 1 vc us rfl HS H1 h63 hb ?_; intro A' c' w' h9 hchg hblk)
  all_goals (go_ret; exact HF _ _ _ h9 hchg hblk)
 ·have HO := Lib.hid hown
  have HF := Lib.hid hfin
  have HS := Lib.hid hsrc
  have H1 := Lib.hid h1
  have HG := Lib.hid hg
  have HT := Lib.hid htk
  have hc63 : cap ≤ 9223372036854775807 := by unfold maxLen at hcm; omega
  clear hown hfin hsrc h1 hx1 hg htk
  go_enter Tryz.func128, Tryz.ntmps128
  go_wp2_with (at_builtin; refine a8Z _ rfl _ _ 61 rfl e z sz by_ ht hinfo hzs hsz _ n xs rfl HO (some va) 1 vc us rfl HS H1 h63 hb ?_; intro A' c' w' h9 hchg hblk)
  all_goals (go_ret; exact HF _ _ _ h9 hchg hblk)
set_option maxHeartbeats 4000000 in
set_option maxRecDepth 100000 in
theorem c6L {e sz by_ n i cap vb vcap e2 : Nat} {z : Value} {g : Nat} {xs us : List Value} {w : World} {cur curv : Array Value} (ht : Tryz.prog.underlying 61 = some (.slice e)) (hinfo : (Tryz.prog.info? e).map (fun i => (i.zero, i.size, i.bytes)) = some (some z, sz, by_)) (hsz : 0 < sz)
  (hxl : xs.length = n * sz) (hg : w.heap[g]? = some (.cells cur e (0, 0))) (hcm : cap ≤ maxLen) (hcs : cur.size = cap * sz) (htk : cur.toList.take (n * sz) = xs) (hx1 : ∀ u ∈ xs, u.oneCell' = true)
  (hgv : w.heap[vb]? = some (.cells curv e2 (0, 0))) (hul : us.length = sz) (hvs : curv.toList.take sz = us) (h1 : ∀ u ∈ us, u.oneCell' = true) (hne : vb ≠ g) (hi : i < n) (hroom : n + 1 ≤ cap) :
  Calls Tryz.prog 128 #[.slice (some ⟨g, 0, none⟩) n cap, .int .i64 i, .slice (some ⟨vb, 0, none⟩) 1 vcap] w (a4c w (.slice (some ⟨g, 0, none⟩) n cap) e sz n i xs us) := by
 have hso : ∀ w, (Go.sizeOf e).run Tryz.prog w = .ok sz w := fun w => by
  obtain ⟨i0, q1, q2, q3, q4⟩ := info_parts hinfo
  simp [sizeOf, typeInfo, q1, q3]
 have hsi : (Tryz.prog.info? e).map (·.size) = some sz := by
  obtain ⟨i0, q1, q2, q3, q4⟩ := info_parts hinfo
  rw [q1]; simp [q3]
 have hc63 : cap ≤ 9223372036854775807 := by unfold maxLen at hcm; omega
 have hz2 : ¬ ((i : Int) = (n : Int)) := by omega
 have hw1 : IntKind.i64.wrap ((i : Int) + 1) = (i : Int) + 1 := by rw [IntKind.wrap_i64]; omega
 have hw2 : IntKind.i64.wrap ((n : Int) + 1) = (n : Int) + 1 := by rw [IntKind.wrap_i64]; omega
 have hb1 : (0 : Int) ≤ (i : Int) + 1 := by omega
 have hin : i ≤ n := by omega
 have htn : ((i : Int) + 1).toNat = i + 1 := by omega
 have htn2 : ((n : Int) + 1).toNat = n + 1 := by omega
 have hb2 : ¬ (cap = i + 1) := by omega
 have hb3 : (i : Int) ≤ (n : Int) + 1 := by omega
 have hb4 : ¬ (cap = i) := by omega
 have hov : ∀ off lb cb, (callFunc 134 #[.slice (some ⟨vb, 0, none⟩) 1 vcap, .slice (some ⟨g, off, none⟩) lb cb]).run Tryz.prog w = .ok (.value (.bool false)) w := fun off lb cb => by
  rw [run_callFunc_extern Tryz.func134 (by kernel_rfl) (by kernel_rfl) (by kernel_rfl) (e := Extern.SlicesOverlaps.overlaps #[61, 61] #[4]) (by kernel_rfl),
   Lib.run_overlaps_apart w 61 4 e ht sz hso ⟨vb, 0, none⟩ ⟨g, off, none⟩ 1 vcap lb cb hne e2 e curv.size cur.size (by simp [World.shape?, hgv]) (by simp [World.shape?, hg]) (by rw [hcs]; exact Nat.ne_of_gt (Nat.mul_pos (by omega) hsz)) (by simp [World.frozen?, hgv]) (by simp [World.frozen?, hgv])]
  rfl
 have mixed : Tryz.prog.follows .mixedOrders = true := by kernel_rfl
 have hdl : (xs.drop (i * sz)).length = (n - i) * sz := by rw [List.length_drop, hxl, Nat.sub_mul]
 have m1 : (n + 1) * sz ≤ cap * sz := Nat.mul_le_mul_right _ hroom
 have m2 : (i + 1) * sz + (n - i) * sz = (n + 1) * sz := by rw [← Nat.add_mul]; congr 1; omega
 have m3 : i * sz + (n - i) * sz = n * sz := by rw [← Nat.add_mul]; congr 1; omega
 have m4 : (i + 1) * sz = i * sz + sz := by rw [Nat.add_mul, Nat.one_mul]
 have m5 : (n + 1) * sz = n * sz + sz := by rw [Nat.add_mul, Nat.one_mul]
 have hcur : ∀ j, j < n * sz → cur[j]? = xs[j]? := fun j hj => by rw [← htk, List.getElem?_take, if_pos hj, Array.getElem?_toList]
 obtain ⟨cur1, hcur1⟩ : ∃ cur1 : Array Value, cur1 = (cur.toList.take ((i + 1) * sz) ++ xs.drop (i * sz) ++ cur.toList.drop ((i + 1) * sz + (xs.drop (i * sz)).length)).toArray := ⟨_, rfl⟩
 obtain ⟨cur2, hcur2⟩ : ∃ cur2 : Array Value, cur2 = (cur1.toList.take (i * sz) ++ us ++ cur1.toList.drop (i * sz + us.length)).toArray := ⟨_, rfl⟩
 have hs1 : cur1.size = cap * sz := by
  rw [hcur1]
  simp only [List.size_toArray, c9i, c9j, List.length_drop, Array.length_toList, hcs, hxl]
  omega
 have hs2 : cur2.size = cap * sz := by
  rw [hcur2]
  simp only [List.size_toArray, c9i, c9j, List.length_drop, Array.length_toList, hs1, hul]
  omega
 have htk2 : cur2.toList.take ((n + 1) * sz) = xs.take (i * sz) ++ us ++ xs.drop (i * sz) := by
  have e1 : cur1.toList.take (i * sz) = xs.take (i * sz) := by
   rw [hcur1, ← htk, List.take_take, List.append_assoc, List.take_append_of_le_length (by simp only [c9j, Array.length_toList, hcs]; omega), List.take_take]
   congr 1; omega
  have e2 : (cur1.toList.drop (i * sz + us.length)).take ((n - i) * sz) = xs.drop (i * sz) := by
   rw [hcur1, hul, ← m4]
   have l1 : (cur.toList.take ((i + 1) * sz)).length = (i + 1) * sz := by simp only [c9j, Array.length_toList, hcs]; omega
   simp only [List.append_assoc]
   rw [List.drop_append_of_le_length (by omega), List.drop_eq_nil_of_le (by omega), List.nil_append, List.take_append_of_le_length (by omega), List.take_of_length_le (by omega)]
  rw [hcur2, e1]
  simp only []
  rw [← m2, m4, List.take_append, List.take_of_length_le (by simp only [c9i, c9j, hxl, hul]; omega)]
  congr 1
  rw [← e2]
  congr 1
  simp only [c9i, c9j, hxl, hul]
  omega
 have hcp1 : ∀ ty dc sc, (Builtin.copy_ #[61, 61] ty #[.slice (some ⟨g, (i + 1) * sz, none⟩) (n - i) dc, .slice (some ⟨g, i * sz, none⟩) (n + 1 - i) sc]).run Tryz.prog w.drew = .ok (goInt (Nat.min (n + 1 - i) (n - i))) (w.drew.setRow g cur1) := fun ty dc sc => by
  rw [hcur1]
  refine a6N w.drew _ _ ty e sz g ((i + 1) * sz) _ dc ⟨g, i * sz, none⟩ _ sc cur e (xs.drop (i * sz)) ht hsi hg (by rw [hdl]; congr 1; simp only [Nat.min_def]; split <;> omega) (fun j v hj => ?_) (by rw [hdl, hcs]; omega) (fun v hv => hx1 v (List.mem_of_mem_drop hv))
  rw [Addr.add_lit]
  rw [List.getElem?_drop] at hj
  have hj' := (List.getElem?_eq_some_iff.1 hj).1
  exact (cell_of_row w.drew g (i * sz + j) cur e (0, 0) hg).trans ((hcur _ (by omega)).trans hj)
 obtain ⟨W1, hW1⟩ : ∃ W1, W1 = w.drew.setRow g cur1 := ⟨_, rfl⟩
 have hgW : W1.heap[g]? = some (.cells cur1 e (0, 0)) := by rw [hW1]; exact setRow_heap _ g cur cur1 e _ hg
 have hgV : W1.heap[vb]? = some (.cells curv e2 (0, 0)) := by rw [hW1, (a4B (w := w.drew)).block vb (Array.getElem?_eq_some_iff.1 hgv).1 (by simpa using hne)]; exact hgv
 have hcp2 : ∀ ty dc, (Builtin.copy_ #[61, 61] ty #[.slice (some ⟨g, i * sz, none⟩) (n + 1 - i) dc, .slice (some ⟨vb, 0, none⟩) 1 vcap]).run Tryz.prog W1 = .ok (goInt (Nat.min 1 (n + 1 - i))) (W1.setRow g cur2) := fun ty dc => by
  rw [hcur2]
  refine a6N W1 _ _ ty e sz g (i * sz) _ dc ⟨vb, 0, none⟩ _ vcap cur1 e us ht hsi hgW (by rw [hul]; simp only [Nat.min_def]; split <;> first | omega | rfl | simp) (fun j v hj => ?_) (by rw [hul, hs1]; omega) h1
  rw [Addr.add_lit, cell_of_row _ vb _ curv e2 (0, 0) hgV, Nat.zero_add]
  have hj' := (List.getElem?_eq_some_iff.1 hj).1
  rw [← hvs, List.getElem?_take, if_pos (by omega), Array.getElem?_toList] at hj
  exact hj
 have hfin : a4c w (.slice (some ⟨g, 0, none⟩) n cap) e sz n i xs us (.returned (.slice (some ⟨g, 0, none⟩) (n + 1) cap)) (W1.setRow g cur2) := by
  refine ⟨_, _, rfl, ⟨?_, .inr ⟨g, cap, cur2, rfl, Nat.zero_le _, setRow_heap _ g cur1 cur2 e _ hgW, hroom, hcm, hs2, htk2⟩⟩, ?_, .inl rfl⟩
  ·simp only [c9i, c9j, List.length_drop, hxl, hul]; omega
  ·rw [hW1]
   exact ((Chg.refl [g] w).drew.trans a4B).trans a4B
 rw [← hW1] at hcp1
 have HF := Lib.hid hfin
 clear hcur1 hcur2 hfin hgW hgV htk2 hs2 hs1 hcur hx1 h1 hvs htk hxl hdl m1 m2 m3 m4 m5 hgv hg hcs hcm hinfo hsi hW1 hul
 go_enter Tryz.func128, Tryz.ntmps128
 go_wp2_with (simp only [hov])
 go_region_law_o (refine step_copy_runI rfl _ _ 61 61 rfl _ _ (by simp [Act.eval, Act.put]) (by simp [Act.eval, Act.put]) (hcp1 _ _ _) ?_)
 go_wp2_with (at_builtin; refine wpList_copy_runI _ rfl _ _ 61 61 rfl _ _ rfl rfl (hcp2 _ _) ?_)
 go_ret
 exact HF
set_option maxHeartbeats 4000000 in
set_option maxRecDepth 100000 in
theorem c5y {e sz by_ n i vb vcap e2 : Nat} {z : Value} {g : Nat} {xs us : List Value} {w : World} {cur curv : Array Value} (ht : Tryz.prog.underlying 61 = some (.slice e)) (hinfo : (Tryz.prog.info? e).map (fun i => (i.zero, i.size, i.bytes)) = some (some z, sz, by_)) (hzs : z.cells.size = sz) (hsz : 0 < sz)
  (hxl : xs.length = n * sz) (hg : w.heap[g]? = some (.cells cur e (0, 0))) (hcm : n ≤ maxLen) (hcs : cur.size = n * sz) (htk : cur.toList.take (n * sz) = xs) (hx1 : ∀ u ∈ xs, u.oneCell' = true)
  (hgv : w.heap[vb]? = some (.cells curv e2 (0, 0))) (hul : us.length = sz) (hvs : curv.toList.take sz = us) (h1 : ∀ u ∈ us, u.oneCell' = true) (hi : i < n) (h63 : n + 1 ≤ maxLen) (hb : (n + 1) * by_ ≤ 140737488355328) :
  Calls Tryz.prog 128 #[.slice (some ⟨g, 0, none⟩) n n, .int .i64 i, .slice (some ⟨vb, 0, none⟩) 1 vcap] w (a4c w (.slice (some ⟨g, 0, none⟩) n n) e sz n i xs us) := by
 obtain ⟨i0, q1, q2, q3, q4⟩ := info_parts hinfo
 have hso : ∀ w, (Go.sizeOf e).run Tryz.prog w = .ok sz w := fun w => by
  simp [sizeOf, typeInfo, q1, q3]
 have hsi : (Tryz.prog.info? e).map (·.size) = some sz := by
  rw [q1]; simp [q3]
 have hc63 : n + 1 ≤ 9223372036854775807 := by unfold maxLen at h63; omega
 have mixed : Tryz.prog.follows .mixedOrders = true := by kernel_rfl
 have hz2 : ¬ ((i : Int) = (n : Int)) := by omega
 have hw1 : IntKind.i64.wrap ((i : Int) + 1) = (i : Int) + 1 := by rw [IntKind.wrap_i64]; omega
 have hw2 : IntKind.i64.wrap ((n : Int) + 1) = (n : Int) + 1 := by rw [IntKind.wrap_i64]; omega
 have hw3 : IntKind.i64.wrap ((n : Int) + 1 - (i : Int)) = (n : Int) + 1 - (i : Int) := by rw [IntKind.wrap_i64]; omega
 have hb1 : (0 : Int) ≤ (i : Int) + 1 := by omega
 have hin : i ≤ n := by omega
 have htn : ((i : Int) + 1).toNat = i + 1 := by omega
 have hni : ¬ (n = i) := by omega
 have hkk : (n : Int) + 1 - (i : Int) = ((n + 1 - i : Nat) : Int) := by omega
 have hik : i + (n + 1 - i) = n + 1 := by omega
 have hdl : (xs.drop (i * sz)).length = (n - i) * sz := by rw [List.length_drop, hxl, Nat.sub_mul]
 have m2 : (i + 1) * sz + (n - i) * sz = (n + 1) * sz := by rw [← Nat.add_mul]; congr 1; omega
 have m3 : i * sz + (n - i) * sz = n * sz := by rw [← Nat.add_mul]; congr 1; omega
 have m4 : (i + 1) * sz = i * sz + sz := by rw [Nat.add_mul, Nat.one_mul]
 have m5 : (n + 1) * sz = n * sz + sz := by rw [Nat.add_mul, Nat.one_mul]
 have hcur : ∀ j, j < n * sz → cur[j]? = xs[j]? := fun j hj => by rw [← htk, List.getElem?_take, if_pos hj, Array.getElem?_toList]
 have htl : (xs.take (i * sz)).length = i * sz := by rw [c9j, hxl]; omega
 have hold : (Builtin.firstCells i0.size i (.slice (some ⟨g, 0, none⟩) i n)).run Tryz.prog w.drew = .ok (xs.take (i * sz)).toArray w.drew := by
  rw [q3]
  refine run_firstCells_some w.drew sz i ⟨g, 0, none⟩ i n (xs.take (i * sz)) (by rw [htl]) (fun j v hj => ?_)
  rw [Addr.add_lit, Nat.zero_add]
  rw [List.getElem?_take] at hj
  split at hj
  ·exact (cell_of_row w.drew g j cur e (0, 0) hg).trans ((hcur _ (by omega)).trans hj)
  ·cases hj
 obtain ⟨G, hG⟩ : ∃ G, G = grownCap w (n + 1) n e := ⟨_, rfl⟩
 have hGn : n + 1 ≤ G := by rw [hG]; exact grownCap_ge w _ _ _
 have hGm : G ≤ maxLen := by rw [hG]; exact grownCap_le_maxLen w (n + 1) n e h63
 obtain ⟨ROW, hROW⟩ : ∃ ROW : Array Value, ROW = (xs.take (i * sz)).toArray ++ Builtin.zeroCells z.cells (n + 1 - i) ++ Builtin.zeroCells z.cells (G - (n + 1)) := ⟨_, rfl⟩
 have hzl : ∀ k, (Builtin.zeroCells z.cells k).size = k * sz := fun k => by simp [Builtin.zeroCells, hzs]
 have hRs : ROW.size = G * sz := by
  rw [hROW]
  simp only [Array.size_append, List.size_toArray, htl, hzl]
  rw [← Nat.add_mul, ← Nat.add_mul]
  congr 1; omega
 obtain ⟨W1, hW1⟩ : ∃ W1, W1 = w.drew.alloc (.cells ROW e) := ⟨_, rfl⟩
 have hrz : ∀ ty, (Builtin.append_ #[61, 3] ty #[.slice (some ⟨g, 0, none⟩) i n, .int .i64 ((n : Int) + 1 - (i : Int))]).run Tryz.prog w =
   .ok (.slice (some ⟨w.heap.size, 0, none⟩) (n + 1) G) W1 := fun ty => by
  have h := Lib.run_append_grow_zeros (P := Tryz.prog) w 61 3 ty e i0 z .i64 .i64 ht (by kernel_rfl) q1 q2 (some ⟨g, 0, none⟩) i n (xs.take (i * sz)) hold (n + 1 - i) (by omega) (by omega) (by omega) (by omega) (by
   rw [q4]
   have : (n + 1 - i) * by_ ≤ (n + 1) * by_ := Nat.mul_le_mul_right _ (by omega)
   omega) (by rw [q4, hik]; exact growslice_fits (by omega) hb)
  rw [hik] at h
  rw [hkk, hW1, hROW, hG]
  exact h
 have hgW0 : W1.heap[w.heap.size]? = some (.cells ROW e (0, 0)) := by rw [hW1]; exact heap_alloc_new w.drew _
 have hgl : g < w.heap.size := (Array.getElem?_eq_some_iff.1 hg).1
 have hvl : vb < w.heap.size := (Array.getElem?_eq_some_iff.1 hgv).1
 have hc1 : Chg [] w W1 := by rw [hW1]; exact (Chg.refl [] w).drew.alloc _
 have hgV : W1.heap[vb]? = some (.cells curv e2 (0, 0)) := by rw [hc1.block vb hvl (by simp)]; exact hgv
 have hm1 : (n + 1) * sz ≤ G * sz := Nat.mul_le_mul_right _ hGn
 obtain ⟨R1, hR1⟩ : ∃ R1 : Array Value, R1 = (ROW.toList.take (i * sz) ++ us ++ ROW.toList.drop (i * sz + us.length)).toArray := ⟨_, rfl⟩
 have hs1 : R1.size = G * sz := by
  rw [hR1]
  simp only [List.size_toArray, c9i, c9j, List.length_drop, Array.length_toList, hRs, hul]
  omega
 obtain ⟨W2, hW2⟩ : ∃ W2, W2 = W1.setRow w.heap.size R1 := ⟨_, rfl⟩
 have hcpA : ∀ ty dc, (Builtin.copy_ #[61, 61] ty #[.slice (some ⟨w.heap.size, i * sz, none⟩) (n + 1 - i) dc, .slice (some ⟨vb, 0, none⟩) 1 vcap]).run Tryz.prog W1 = .ok (goInt (Nat.min 1 (n + 1 - i))) W2 := fun ty dc => by
  rw [hW2, hR1]
  refine a6N W1 _ _ ty e sz w.heap.size (i * sz) _ dc ⟨vb, 0, none⟩ _ vcap ROW e us ht hsi hgW0 (by rw [hul]; simp only [Nat.min_def]; split <;> first | omega | rfl | simp) (fun j v hj => ?_) (by rw [hul, hRs]; omega) h1
  rw [Addr.add_lit, cell_of_row _ vb _ curv e2 (0, 0) hgV, Nat.zero_add]
  have hj' := (List.getElem?_eq_some_iff.1 hj).1
  rw [← hvs, List.getElem?_take, if_pos (by omega), Array.getElem?_toList] at hj
  exact hj
 have hgW2 : W2.heap[w.heap.size]? = some (.cells R1 e (0, 0)) := by rw [hW2]; exact setRow_heap _ _ ROW R1 e _ hgW0
 have hgG : W2.heap[g]? = some (.cells cur e (0, 0)) := by
  rw [hW2, (a4B (w := W1) (g := w.heap.size)).block g (Nat.lt_of_lt_of_le hgl hc1.size) (by simp; omega), hc1.block g hgl (by simp)]; exact hg
 obtain ⟨R2, hR2⟩ : ∃ R2 : Array Value, R2 = (R1.toList.take ((i + 1) * sz) ++ xs.drop (i * sz) ++ R1.toList.drop ((i + 1) * sz + (xs.drop (i * sz)).length)).toArray := ⟨_, rfl⟩
 have hs2 : R2.size = G * sz := by
  rw [hR2]
  simp only [List.size_toArray, c9i, c9j, List.length_drop, Array.length_toList, hs1, hxl]
  omega
 obtain ⟨W3, hW3⟩ : ∃ W3, W3 = W2.drew.setRow w.heap.size R2 := ⟨_, rfl⟩
 have hcpB : ∀ ty dc sc, (Builtin.copy_ #[61, 61] ty #[.slice (some ⟨w.heap.size, (i + 1) * sz, none⟩) (n - i) dc, .slice (some ⟨g, i * sz, none⟩) (n - i) sc]).run Tryz.prog W2.drew = .ok (goInt (Nat.min (n - i) (n - i))) W3 := fun ty dc sc => by
  rw [hW3, hR2]
  refine a6N W2.drew _ _ ty e sz w.heap.size ((i + 1) * sz) _ dc ⟨g, i * sz, none⟩ _ sc R1 e (xs.drop (i * sz)) ht hsi hgW2 (by rw [hdl]; congr 1; simp) (fun j v hj => ?_) (by rw [hdl, hs1]; omega) (fun v hv => hx1 v (List.mem_of_mem_drop hv))
  rw [Addr.add_lit]
  rw [List.getElem?_drop] at hj
  have hj' := (List.getElem?_eq_some_iff.1 hj).1
  exact (cell_of_row W2.drew g (i * sz + j) cur e (0, 0) hgG).trans ((hcur _ (by omega)).trans hj)
 have htk2 : R2.toList.take ((n + 1) * sz) = xs.take (i * sz) ++ us ++ xs.drop (i * sz) := by
  have e1 : R1.toList.take ((i + 1) * sz) = xs.take (i * sz) ++ us := by
   rw [hR1, m4]
   simp only []
   rw [List.take_append_of_le_length (by simp only [c9i, c9j, Array.length_toList, hRs, hul]; omega), List.take_of_length_le (by simp only [c9i, c9j, Array.length_toList, hRs, hul]; omega)]
   congr 1
   rw [hROW]
   simp only [Array.toList_append, List.append_assoc]
   rw [List.take_append_of_le_length (by rw [htl]; exact Nat.le_refl _), List.take_of_length_le (by rw [htl]; exact Nat.le_refl _)]
  rw [hR2, e1]
  simp only []
  rw [List.take_append_of_le_length (by simp only [c9i, c9j, List.length_drop, hxl, hul]; omega), List.take_of_length_le (by simp only [c9i, c9j, List.length_drop, hxl, hul]; omega)]
 have hfin : a4c w (.slice (some ⟨g, 0, none⟩) n n) e sz n i xs us (.returned (.slice (some ⟨w.heap.size, 0, none⟩) (n + 1) G)) W3 := by
  refine ⟨_, _, rfl, ⟨?_, .inr ⟨w.heap.size, G, R2, rfl, Nat.zero_le _, by rw [hW3]; exact setRow_heap _ _ R1 R2 e _ hgW2, hGn, hGm, hs2, htk2⟩⟩, ?_, .inr rfl⟩
  ·simp only [c9i, c9j, List.length_drop, hxl, hul]; omega
  ·have c3 : Chg [w.heap.size] W1 W3 := by rw [hW3, hW2]; exact (a4B.drew).trans a4B
   refine ⟨c3.os.trans hc1.os, c3.tape.trans hc1.tape, c3.output.trans hc1.output, Nat.le_trans hc1.size c3.size, fun k hk hn => ?_⟩
   rw [c3.block k (Nat.lt_of_lt_of_le hk hc1.size) (by simp; omega), hc1.block k hk (by simp)]
 have HF := Lib.hid hfin
 have hGi : ¬ (G = i) := by omega
 have hGim : ¬ (G = i + 1) := by omega
 have hG63 : G ≤ 9223372036854775807 := by unfold maxLen at hGm; omega
 obtain ⟨H, hH⟩ : ∃ H, H = w.heap.size := ⟨_, rfl⟩
 rw [← hH] at hrz hcpA hcpB HF
 clear hH hfin hgW0 hgV hgW2 hgG htk2 hs2 hs1 hcur hx1 h1 hvs htk hxl hdl m2 m3 m4 m5 hgv hg hcs hcm hinfo hsi hW1 hW2 hW3 hul hR1 hR2 hROW hRs hzl hold htl hc1 hgl hvl hm1 hkk hik hG q1 q2 q3 q4 hzs
 go_enter Tryz.func128, Tryz.ntmps128
 go_wp2_with (first
  | (at_builtin; refine Lib.wpList_append_run _ rfl _ _ _ _ rfl _ _ rfl rfl _ _ (hrz _) ?_)
  | (at_builtin; refine wpList_copy_runI _ rfl _ _ 61 61 rfl _ _ rfl rfl (hcpA _ _) ?_))
 go_region_law_o (refine step_copy_runI rfl _ _ 61 61 rfl _ _ (by simp [Act.eval, Act.put]) (by simp [Act.eval, Act.put]) (hcpB _ _ _) ?_)
 go_wp2
 go_ret
 exact HF
theorem c6f {e sz by_ n i e2 : Nat} {z : Value} {v u : Value} {xs us : List Value} {w : World} (ht : Tryz.prog.underlying 61 = some (.slice e)) (hinfo : (Tryz.prog.info? e).map (fun i => (i.zero, i.size, i.bytes)) = some (some z, sz, by_)) (hzs : z.cells.size = sz) (hsz : 0 < sz)
  (hown : w.ownsRow 0 e sz v n xs) (hx1 : ∀ u ∈ xs, u.oneCell' = true) (hv : w.ownsRow 0 e2 sz u 1 us) (h1 : ∀ u ∈ us, u.oneCell' = true) (hne : ∀ b, v.ownBlock = some b → u.ownBlock ≠ some b) (hi : i ≤ n) (h63 : n + 1 ≤ maxLen) (hb : (n + 1) * by_ ≤ 140737488355328) :
  Calls Tryz.prog 128 #[v, .int .i64 i, u] w (a4c w v e sz n i xs us) := by
 have hul : us.length = sz := by rw [hv.1, Nat.one_mul]
 rcases hv.2 with ⟨_, h⟩ | ⟨vb, vcap, curv, rfl, _, hgv, hvc, _, _, hvt⟩
 ·cases h
 ·rw [Nat.one_mul] at hvt
  rcases Nat.lt_or_ge i n with hlt | hge
  ·rcases hown.2 with ⟨_, h⟩ | ⟨g, cap, cur, rfl, _, hg, hnc, hcm, hcs, htk⟩
   ·omega
   ·rcases Nat.lt_or_ge n cap with h | h
    ·exact c6L ht hinfo hsz hown.1 hg hcm hcs htk hx1 hgv hul hvt h1 (fun e => hne g rfl (by rw [e]; rfl)) hlt h
    ·have e1 : cap = n := by omega
     subst e1
     exact c5y ht hinfo hzs hsz hown.1 hg hcm hcs htk hx1 hgv hul hvt h1 hlt h63 hb
  ·have e1 : i = n := by omega
   subst e1
   refine c1D ht hinfo hzs hsz hown ⟨by rw [Nat.one_mul]; exact hul, fun _ => ⟨vb, 0, rfl, fun j x hj => ?_⟩⟩ h1 h63 hb
   rw [Nat.zero_add, cell_of_row _ vb _ curv e2 (0, 0) hgv]
   have hj' := (List.getElem?_eq_some_iff.1 hj).1
   rw [← hvt, List.getElem?_take, if_pos (by omega), Array.getElem?_toList] at hj
   exact hj
theorem c1s {sz by_ : Nat} {zc : List CV} (he : look a4v.el 135 = some (sz, by_, zc)) (hl0 : zc.length = sz) (hpos : 0 < sz) : InsOk Tryz.prog 128 135 sz by_ := by
 obtain ⟨inf, z, g1, g2, g3, g4, g5⟩ := hT.el _ _ _ _ he
 refine ⟨hpos, hT.lt _ _ he, fun hown hx1 hv h1 hne hi h63 hb => c6f (z := z) (by kernel_rfl) (by rw [g1]; simp [g2, g3, g4]) (by
  have := a7f g5
  simp only [Array.length_toList] at this
  rw [this, hl0]) hpos hown hx1 hv h1 hne hi h63 hb⟩
section
variable {P : Program} {C : Ctx} {nt : Nat} {σ : St} {o : Oper} {x y : Operand} {T : TT} {L : Lyt} {a : Act} {w : World}
theorem a5l {b i : Nat} (ho : o.op = .nilCheck x) (hx : Ev P C nt σ x (.box b i)) : Pu P C nt o σ (.box b i) [] [] := Pu.mk fun L a w hr => by
 have h1 := hx.run L a w hr
 simp only [SVr] at h1
 refine ⟨_, by simp only [SVr]; rfl, fun w' _ => ?_⟩
 unfold execOp
 simp only [ho, h1, Sem.run_pure]
end
structure EFn (P : Program) (f : FuncId) (us : List SV) {ι : Type} (p : ι → Prop) (v : ι → SV) (kk : ι → List (Nat × Option KC)) : Prop where
 ok : a6y P f [] [] us fun u σ' => ∃ i, p i ∧ u = v i ∧ σ'.ks = kk i
structure BFn (P : Program) (f : FuncId) (us : List SV) (t : TypeId) (dd : DV) (ps : List CV) {ι : Type} (p : ι → Prop) (v : ι → SV) (kk : ι → List (Nat × Option KC)) (qs : ι → List CV) : Prop where
 ok : b8a P f [(0, t, .arg 900001 dd :: ps)] [] (.abox 0 :: us) fun u σ' => ∃ i, p i ∧ u = v i ∧ σ'.ks = kk i ∧ look σ'.bx 0 = some (t, .arg 900001 dd :: qs i) ∧ look σ'.tm 0 = some (.abox 0)
structure NFn (P : Program) (f : FuncId) (t : TypeId) (dd : DV) {ι : Type} (p : ι → Prop) (qs : ι → List CV) : Prop where
 ok : a6y P f [] [] [.one (.arg 0 dd)] fun u σ' => ∃ i n, p i ∧ u = .box n 0 ∧ look σ'.bx n = some (t, .arg 0 dd :: qs i)
section
variable {P : Program} {C : Ctx} {nt : Nat} {σ : St} {L : Lyt} {a : Act} {w : World} {o : Oper} {x y : Operand} {T : TT}
theorem a1A {b : Nat} (h : Ev P C nt σ x (.abox b)) : Ev P C nt σ x (.box b 0) := Ev.mk fun L a w hr => by
 have := h.run L a w hr
 simp only [SVr] at this ⊢
 exact this.1
/-! ### arguments beside a variable that is written -/
def a6f (P : Program) (C : Ctx) (nt : Nat) (σ : St) : List Operand → List SV → Prop
 | [], us => us = []
 | x :: xs, us => ∃ v u us', us = u :: us' ∧ Ev P C nt σ x v ∧ a3i σ v u ∧ (a1p σ v && v.part.isSome) = true ∧ a6f P C nt σ xs us'
theorem a1J : a6f P C nt σ [] [] := rfl
theorem a2E {xs : List Operand} {us : List SV} {v u : SV} (h1 : Ev P C nt σ x v) (h2 : a3i σ v u) (h3 : (a1p σ v && v.part.isSome) = true) (h4 : a6f P C nt σ xs us) : a6f P C nt σ (x :: xs) (u :: us) := ⟨v, u, us, rfl, h1, h2, h3, h4⟩
theorem b2x (hr : Rel P C nt L σ a w) {b : Nat} {xb : TypeId × List CV} (hb : look σ.bx b = some xb) {K : List Nat} (hK : ∀ k ∈ K, (lkk σ k).isSome = true) (L' : Lyt) (rv : Nat → Value) : ∀ z, z < w.heap.size → okB C L K z → okB ⟨w, [L.bb b], rv⟩ L' [] z ∧ w.heap[z]? = w.heap[z]? := fun z hz h => by
 refine ⟨.inl ⟨hz, ?_⟩, rfl⟩
 simp only [List.mem_singleton]
 rintro rfl
 rcases h with ⟨h1, h2⟩ | ⟨k, hk, h1⟩
 ·rcases hr.b1 b xb hb with h3 | h3
  ·omega
  ·exact h2 h3
 ·obtain ⟨c, hc⟩ := c9h.1 (hK k hk)
  exact hr.bk b k xb c hb hc h1
theorem b2M (hr : Rel P C nt L σ a w) {b : Nat} {xb : TypeId × List CV} (hb : look σ.bx b = some xb) (L' : Lyt) (rv : Nat → Value) {c u : CV} {v : Value} (h : a1V σ c u) (hl : ∀ k ∈ c.keys, (lkk σ k).isSome = true) (hv : CVr C L w c v) : CVr ⟨w, [L.bb b], rv⟩ L' w u v ∧ u.keys = [] := by
 cases c with
 | dv K d => simp only [a1V] at h; subst h; exact ⟨a5y (b2x hr hb hl L' rv) d v hv, rfl⟩
 | nest k o d => simp only [a1V] at h; subst h; exact ⟨a5y (b2x hr hb hl L' rv) d v hv.1, rfl⟩
 | arg i d => simp only [a1V] at h; subst h; exact ⟨a5y (b2x hr hb (K := []) (by simp) L' rv) d v hv.2, rfl⟩
 | key k =>
  simp only [a1V] at h
  obtain ⟨c, e', h1, rfl⟩ := h
  simp only [CVr] at hv
  subst hv
  have h2 := a4l (ok := okB ⟨w, [L.bb b], rv⟩ L' []) _ _ _ (hr.ks k c h1).1 (fun z hz => .inl ⟨hr.k_lt h1 z hz, by
   simp only [List.mem_singleton]; rintro rfl; exact hr.bk b k xb c hb h1 hz⟩)
  exact ⟨by simp only [CVr, Lay] at h2 ⊢; exact h2, rfl⟩
 | nil =>
  simp only [a1V] at h
  obtain ⟨e, sz, h1, rfl⟩ := h
  simp only [CVr] at hv
  subst hv
  simp only [CVr, Lay]
  exact ⟨⟨none, 0, [], rfl, Nat.le_refl _, by simp [maxLen], h1, by simp, by simp [a1m], fun h => by omega⟩, rfl⟩
 | any => simp only [a1V] at h; subst h; exact ⟨hv, rfl⟩
theorem b9f (hr : Rel P C nt L σ a w) {b : Nat} {xb : TypeId × List CV} (hb : look σ.bx b = some xb) (L' : Lyt) (rv : Nat → Value) : ∀ {cs us : List CV} {vs : List Value}, a4P σ cs us → (∀ k ∈ cs.flatMap CV.keys, (lkk σ k).isSome = true) → CVL C L w cs vs → CVL ⟨w, [L.bb b], rv⟩ L' w us vs ∧ us.flatMap CV.keys = []
 | [], _, _, h, _, hv => by simp only [a4P] at h; subst h; exact ⟨hv, rfl⟩
 | c :: cs, _, _, ⟨u, us', e, h1, h2⟩, hl, ⟨v, vs', e', h3, h4⟩ => by
  subst e; subst e'
  obtain ⟨g1, g2⟩ := b2M hr hb L' rv h1 (fun k hk => hl k (by simp [hk])) h3
  obtain ⟨k1, k2⟩ := b9f hr hb L' rv h2 (fun k hk => hl k (by simp only [List.flatMap_cons, List.mem_append]; exact .inr hk)) h4
  exact ⟨⟨v, vs', rfl, g1, k1⟩, by simp only [List.flatMap_cons, g2, k2, List.append_nil]⟩
theorem c0X (hr : Rel P C nt L σ a w) {b : Nat} {xb : TypeId × List CV} (hb : look σ.bx b = some xb) (L' : Lyt) (rv : Nat → Value) {v u : SV} {r : Value} (h : a3i σ v u) (hl : (a1p σ v && v.part.isSome) = true) (hv : SVr P C L w v r) : SVr P ⟨w, [L.bb b], rv⟩ L' w u r ∧ u.keys = [] ∧ u.boxes = [] := by
 simp only [Bool.and_eq_true] at hl
 have hlk := (a1R hl.1).1
 cases v with
 | one c =>
  simp only [a3i] at h
  obtain ⟨c', h1, rfl⟩ := h
  simp only [SVr] at hv ⊢
  obtain ⟨g1, g2⟩ := b2M hr hb L' rv h1 hlk hv
  exact ⟨g1, by simpa [SV.keys] using g2, rfl⟩
 | agg cs =>
  simp only [a3i] at h
  obtain ⟨cs', h1, rfl⟩ := h
  simp only [SVr] at hv ⊢
  obtain ⟨vs, e, h2⟩ := hv
  obtain ⟨g1, g2⟩ := b9f hr hb L' rv h1 hlk h2
  exact ⟨⟨vs, e, g1⟩, by simpa only [SV.keys] using g2, rfl⟩
 | _ => simp [SV.part] at hl
theorem b8F (hr : Rel P C nt L σ a w) {b : Nat} {xb : TypeId × List CV} (hb : look σ.bx b = some xb) (L' : Lyt) (rv : Nat → Value) : ∀ (xs : List Operand) (us : List SV), a6f P C nt σ xs us →
  us.length = xs.length ∧ (∀ (i : Nat) u, us[i]? = some u → ∃ x, xs[i]? = some x ∧ SVr P ⟨w, [L.bb b], rv⟩ L' w u (a.eval x) ∧ u.keys = [] ∧ u.boxes = [])
 | [], _, h => by simp only [a6f] at h; subst h; exact ⟨rfl, fun i u hu => by simp at hu⟩
 | x :: xs, _, ⟨v, u, us', e, h1, h2, h3, h4⟩ => by
  subst e
  obtain ⟨k1, k2⟩ := b8F hr hb L' rv xs us' h4
  refine ⟨by simp [k1], fun i u' hu => ?_⟩
  cases i with
  | zero => simp at hu; subst hu; exact ⟨x, rfl, c0X hr hb L' rv h2 h3 (h1.run L a w hr)⟩
  | succ i => simp at hu; simpa using k2 i u' hu
theorem b0C {C C' : Ctx} {L L' : Lyt} {w w' : World} : ∀ {cs : List CV} {vs : List Value}, cs.all CV.plain = true → CVL C' L' w' cs vs → CVL C L w cs vs
 | [], _, _, h => h
 | c :: cs, _, hp, ⟨v, vs', e, h1, h2⟩ => by
  simp only [List.all_cons, Bool.and_eq_true] at hp
  refine ⟨v, vs', e, ?_, b0C hp.2 h2⟩
  cases c with
  | dv K d => simp only [CV.plain, Bool.and_eq_true] at hp; exact b1c hp.1.2 h1
  | _ => simp [CV.plain] at hp
structure EfB (P : Program) (C : Ctx) (nt : Nat) (o : Oper) (σ : St) (b : Nat) (R : St → Prop) : Prop where
 run : ∀ L a w, Rel P C nt L σ a w → ∀ K Q, (∀ L' σ' a' w', R σ' → Rel P C nt L' σ' a' w' → Chg [L.bb b] w w' → (∀ k c, lkk σ k = some c → L'.fp k = L.fp k) → (∀ i, L'.bb i = L.bb i) → K a' w') → o.wp P a w K Q
theorem EfB.ef {b : Nat} {R : St → Prop} (h : EfB P C nt o σ b R) : Ef P C nt o σ R := Ef.mk fun L a w hr K Q hK => h.run L a w hr K Q fun L' σ' a' w' h1 h2 _ _ _ => hK L' σ' a' w' h1 h2
theorem efB {f : FuncId} {xs : List Operand} {ats : Array TypeId} {us : List SV} {t : TypeId} {dd : DV} {ps : List CV} {ι : Type} {p : ι → Prop} {v : ι → SV} {kk : ι → List (Nat × Option KC)} {qs : ι → List CV} {b d : Nat} {c0 : CV} (m : Nat)
  (ho : o.op = .call { callee := .value (.func f), args := (x :: xs).toArray, argTypes := ats }) (hd : o.dst = some d) (hn : Nat.blt d nt = true) (hc : ∀ (args : Array Value) (w : World), (callFunc f args).run P w = .ok (.enter f args) w) (hf : BFn P f us t dd ps p v kk qs)
  (hx : Ev P C nt σ x (.box b 0)) (hb : look σ.bx b = some (t, c0 :: ps)) (h0 : a1V σ c0 (.dv [] dd)) (hps : ps.all CV.plain = true) (hqs : ∀ i, (qs i).all CV.plain = true) (ha : a6f P C nt σ xs us) (hres : ∀ i, (v i).retOk = true) (hfree : ∀ i, ((kk i).all fun q => (lkk σ (m + q.1)).isNone) = true) :
  EfB P C nt o σ b (fun σ' => ∃ i, p i ∧ σ' = { σ with bx := (b, t, c0 :: qs i) :: σ.bx, ks := shK m (kk i) ++ σ.ks }.put d ((v i).sh m)) := EfB.mk fun L a w hr K Q hK => by
 obtain ⟨vs, hB, hcv⟩ := hr.bx b t _ hb
 have hc0k : ∀ k ∈ c0.keys, (lkk σ k).isSome = true := fun k hk => hr.lk k (a8s hb k (by simp [hk]))
 have hcv' := hcv
 simp only [CVL] at hcv
 obtain ⟨v0, vs', rfl, g0, gps⟩ := hcv
 have e1 := hx.run L a w hr
 simp only [SVr] at e1
 let rv : Nat → Value := fun j => if j = 900000 then .pointer (some ⟨L.bb b, 0, none⟩) else v0
 let L0 : Lyt := { bb := fun _ => L.bb b, fp := fun _ => [], rv := rv }
 obtain ⟨l1, l2⟩ := b8F hr hb L0 rv xs us ha
 obtain ⟨g1, _⟩ := b2M hr hb L0 rv h0 hc0k g0
 have hpk := (a8S hps).2.1
 refine a7R (xs := x :: xs) ho hc ?_
 have hent : Rel P ⟨w, [L.bb b], rv⟩ (.abox 0 :: us).length L0 ⟨a2j 0 (.abox 0 :: us), [(0, t, .arg 900001 dd :: ps)], []⟩ ⟨((x :: xs).map a.eval).toArray, []⟩ w := {
  df := rfl
  sz := by simp [l1]
  tm := fun i u hu => by
   obtain ⟨_, h4⟩ := a7Q _ 0 i u hu
   rw [Nat.sub_zero] at h4
   cases i with
   | zero =>
    simp only [List.getElem?_cons_zero, Option.some.injEq] at h4
    subst h4
    simp only [SVr]
    have : (List.map a.eval (x :: xs)).toArray.getD 0 undef = a.eval x := rfl
    rw [this, e1]
    exact ⟨rfl, rfl⟩
   | succ i =>
    obtain ⟨z, h5, h6, _⟩ := l2 i u (by simpa using h4)
    have : (List.map a.eval (x :: xs)).toArray.getD (i + 1) undef = a.eval z := by simp [Array.getD_eq_getD_getElem?, h5]
    rw [this]; exact h6
  bx := fun i t' cs hi => by
   simp only [a0W] at hi
   split at hi
   ·simp only [Option.some.injEq, Prod.mk.injEq] at hi
    obtain ⟨rfl, rfl⟩ := hi
    refine ⟨v0 :: vs', hB, v0, vs', rfl, ?_, b0C hps gps⟩
    simp only [CVr] at g1 ⊢
    exact ⟨rfl, g1⟩
   ·cases hi
  ks := fun k c h => by cases h
  b1 := fun i x' h => .inr (by simp [L0])
  k1 := fun k c h => by cases h
  kn := fun k c h => by cases h
  bb := fun i j x' y' hi hj hij => by
   simp only [a0W] at hi hj
   split at hi <;> split at hj
   ·rename_i q1 q2; exact absurd (q1.trans q2.symm) hij
   ·cases hj
   ·cases hi
   ·cases hi
  bk := fun i k x' c _ h => by cases h
  kk := fun k j c d h => by cases h
  lk := fun k hk => by
   exfalso
   simp only [St.tk, List.mem_append, List.flatMap_cons, List.flatMap_nil, List.append_nil, CV.keys, List.nil_append, hpk, List.not_mem_nil, or_false] at hk
   obtain ⟨q, hq, hk⟩ := List.mem_flatMap.1 hk
   have key : ∀ (us' : List SV) (n : Nat), (∀ u ∈ us', u.keys = []) → ∀ q ∈ a2j n us', q.2.keys = [] := fun us' => by
    induction us' with
    | nil => intro n _ q hq; simp [a2j] at hq
    | cons u us' ih =>
     intro n hu q hq
     simp only [a2j, List.mem_cons] at hq
     rcases hq with rfl | hq
     ·exact hu u (by simp)
     ·exact ih (n + 1) (fun z hz => hu z (by simp [hz])) q hq
   rw [key (.abox 0 :: us) 0 (fun u hu => by
    rcases List.mem_cons.1 hu with rfl | hu
    ·rfl
    ·obtain ⟨i, hi⟩ := List.mem_iff_getElem?.1 hu
     obtain ⟨_, _, _, h7, _⟩ := l2 i u hi
     exact h7) q hq] at hk
   cases hk
  lb := fun z hz => by
   simp only [St.tb, a2j, List.flatMap_cons, List.mem_append] at hz
   rcases hz with hz | hz
   ·simp only [SV.boxes, List.mem_singleton] at hz
    subst hz; rfl
   ·exfalso
    obtain ⟨q, hq, hk⟩ := List.mem_flatMap.1 hz
    have key : ∀ (us' : List SV) (n : Nat), (∀ u ∈ us', u.boxes = []) → ∀ q ∈ a2j n us', q.2.boxes = [] := fun us' => by
     induction us' with
     | nil => intro n _ q hq; simp [a2j] at hq
     | cons u us' ih =>
      intro n hu q hq
      simp only [a2j, List.mem_cons] at hq
      rcases hq with rfl | hq
      ·exact hu u (by simp)
      ·exact ih (n + 1) (fun z hz => hu z (by simp [hz])) q hq
    rw [key us 1 (fun u hu => by
     obtain ⟨i, hi⟩ := List.mem_iff_getElem?.1 hu
     obtain ⟨_, _, _, _, h7⟩ := l2 i u hi
     exact h7) q hq] at hk
    cases hk
  s0 := fun z hz => by
   simp only [List.mem_singleton] at hz
   subst hz; exact hr.bx_lt hb
  chg := Chg.refl _ _ }
 refine (hf.ok w [L.bb b] L0 ((x :: xs).map a.eval) (by simp [l1]) hent).mono ?_
 rintro e' w' ⟨r, res, σ', L', rfl, ⟨i, hp, rfl, hks, hbx, htm⟩, h3, nt', a', h4⟩
 have q1 := h4.tm 0 _ htm
 simp only [SVr] at q1
 have hbb : L'.bb 0 = L.bb b := by
  have q2 := q1.1.symm.trans q1.2
  have q3 : L0.rv (900000 + 0) = .pointer (some ⟨L.bb b, 0, none⟩) := rfl
  rw [q3] at q2
  simp only [Value.pointer.injEq, Option.some.injEq, Addr.mk.injEq, and_true] at q2
  exact q2
 obtain ⟨us1, hw1, hcv1⟩ := h4.bx 0 t _ hbx
 rw [hbb] at hw1
 simp only [CVL] at hcv1
 obtain ⟨v1, us2, rfl, k1, k2⟩ := hcv1
 have ev1 : v1 = v0 := by
  simp only [CVr] at k1
  have q3 : L0.rv 900001 = v0 := rfl
  rw [← q3]; exact k1.1
 subst ev1
 have hset := hr.setbox (cs := c0 :: qs i) (vs := v1 :: us2) hb h4.chg hw1 ⟨v1, us2, rfl, g0, b0C (hqs i) k2⟩ (fun k hk => by
  simp only [List.flatMap_cons, (a8S (hqs i)).2.1, List.append_nil] at hk
  exact hc0k k hk)
 have h3' : Rel P ⟨w, [L.bb b], rv⟩ 1 L' ⟨[(0, v i)], σ'.bx, kk i⟩ ⟨#[r], []⟩ w' := by rw [← hks]; exact h3
 have hbox : ∀ j x', look ((b, t, c0 :: qs i) :: σ.bx) j = some x' → ∃ z, look σ.bx j = some z := fun j x' hx' => by
  simp only [a0W] at hx'
  split at hx'
  ·rename_i e; exact ⟨_, by rw [e]; exact hb⟩
  ·exact ⟨_, hx'⟩
 obtain ⟨L'', r1, r2, r3⟩ := hset.ret0 (B0 := w.heap.size) h3' m (fun q hq => by
   have := List.all_eq_true.1 (hfree i) q hq
   have h7 : lkk σ (m + q.1) = none := by simpa using this
   exact h7) (hres i) (d := d) (by simpa [Nat.blt_eq] using hn) hr.chg.size (fun k c hk => hr.k_lt hk) (fun j x' hx' => by obtain ⟨z, hz⟩ := hbox j x' hx'; exact hr.bx_lt hz)
  (fun k c hk z hz => by
   rcases h3'.k1 k c hk z hz with h5 | h5
   ·exact h5
   ·simp only [List.mem_singleton] at h5
    exfalso
    refine h3'.bk 0 k _ c hbx hk ?_
    rw [hbb, ← h5]; exact hz)
 refine ⟨r, rfl, hK L'' _ _ _ ⟨i, hp, rfl⟩ ?_ h4.chg r2 r3⟩
 rw [hd]
 exact r1
theorem Rel.addbox (h : Rel P C nt L σ a w) {i B : Nat} {t : TypeId} {cs : List CV} {vs : List Value} (hi : look σ.bx i = none) (hB : w.heap[B]? = some (.cells vs.toArray t (0, 0))) (hv : CVL C L w cs vs) (hk : ∀ k ∈ cs.flatMap CV.keys, (lkk σ k).isSome = true)
  (hf : b1Z C B) (h1 : ∀ j x, look σ.bx j = some x → L.bb j ≠ B) (h2 : ∀ k c, lkk σ k = some c → B ∉ L.fp k) :
  Rel P C nt { L with bb := fun j => if j = i then B else L.bb j } { σ with bx := (i, t, cs) :: σ.bx } a w := by
 have hne : ∀ j x, look σ.bx j = some x → j ≠ i := fun j x hj e => by rw [e, hi] at hj; cases hj
 have hK : ∀ ks, Keeps2 C L { L with bb := fun j => if j = i then B else L.bb j } w w ks := fun ks => ⟨fun k _ => ⟨rfl, rfl, fun b _ hb => rfl⟩, fun b hb _ => rfl⟩
 exact {
  df := h.df, sz := h.sz
  tm := fun j v hv => a6x (hK _) (fun b hb => by
   have h3 := h.lb b (b4O hv b hb)
   obtain ⟨x, hx⟩ := c9h.1 h3
   simp [hne b x hx]) (h.tm j v hv)
  bx := fun j t' cs' hx => by
   simp only [a0W] at hx
   split at hx
   ·rename_i e
    simp only [Option.some.injEq, Prod.mk.injEq] at hx
    obtain ⟨rfl, rfl⟩ := hx
    subst e
    exact ⟨vs, by simpa using hB, a4Q (hK _) hv⟩
   ·rename_i e
    obtain ⟨us, h3, h4⟩ := h.bx j t' cs' hx
    exact ⟨us, by simpa [e] using h3, a4Q (hK _) h4⟩
  ks := h.ks
  b1 := fun j x hx => by
   simp only [a0W] at hx
   split at hx
   ·rename_i e; simp only [e, if_true]; exact hf
   ·rename_i e; simp only [e, if_false]; exact h.b1 j x hx
  k1 := h.k1, kn := h.kn
  bb := fun j l x y hx hy hjl => by
   simp only [a0W] at hx hy
   split at hx <;> split at hy
   ·rename_i e1 e2; exact absurd (e1.trans e2.symm) hjl
   ·rename_i e1 e2; simp only [e1, e2, if_true, if_false]; exact (h1 l y hy).symm
   ·rename_i e1 e2; simp only [e1, e2, if_true, if_false]; exact h1 j x hx
   ·rename_i e1 e2; simp only [e1, e2, if_false]; exact h.bb j l x y hx hy hjl
  bk := fun j k x c hx hc => by
   simp only [a0W] at hx
   split at hx
   ·rename_i e; simp only [e, if_true]; exact h2 k c hc
   ·rename_i e; simp only [e, if_false]; exact h.bk j k x c hx hc
  kk := h.kk
  lk := fun k hm => by
   simp only [St.tk, List.flatMap_cons, List.mem_append] at hm
   rcases hm with hm | hm | hm
   ·exact h.lk k (by simp only [St.tk, List.mem_append]; exact .inl hm)
   ·exact hk k hm
   ·exact h.lk k (by simp only [St.tk, List.mem_append]; exact .inr hm)
  lb := fun b hm => by
   have h3 := h.lb b hm
   simp only [a0W]
   split
   ·rfl
   ·exact h3
  s0 := h.s0
  chg := h.chg }
theorem c8L {f : FuncId} {ats : Array TypeId} {t : TypeId} {dd : DV} {ι : Type} {p : ι → Prop} {qs : ι → List CV} {d : Nat} {c0 : CV}
  (ho : o.op = .call { callee := .value (.func f), args := #[x], argTypes := ats }) (hd : o.dst = some d) (hn : Nat.blt d nt = true) (hc : ∀ (args : Array Value) (w : World), (callFunc f args).run P w = .ok (.enter f args) w) (hf : NFn P f t dd p qs)
  (hx : Ev P C nt σ x (.one c0)) (h0 : a1V σ c0 (.dv [] dd)) (hk0 : (c0.keys.all fun k => (lkk σ k).isSome) = true) (hqs : ∀ i, (qs i).all CV.plain = true) (hi : look σ.bx d = none) :
  EfG P C nt o σ (fun σ' => ∃ i, p i ∧ σ' = { σ with bx := (d, t, c0 :: qs i) :: σ.bx }.put d (.box d 0)) := EfG.mk fun L a w hr K Q hK => by
 have e1 := hx.run L a w hr
 simp only [SVr] at e1
 let L0 : Lyt := { L with rv := fun _ => a.eval x }
 obtain ⟨g1, g2⟩ := a8C hr L0 h0 e1
 refine a7R (xs := [x]) ho hc ?_
 have hent := b4v (P := P) (w := w) (L := L0) (us := [.one (.arg 0 dd)]) (vs := [a.eval x]) rfl (fun i u hu => by
  cases i with
  | zero =>
   simp only [List.getElem?_cons_zero, Option.some.injEq] at hu
   subst hu
   refine ⟨a.eval x, rfl, ?_, rfl, rfl⟩
   simp only [SVr, CVr] at g1 ⊢
   exact ⟨rfl, g1⟩
  | succ i => simp at hu)
 refine (hf.ok w [] L0 [a.eval x] rfl hent).mono ?_
 rintro e' w' ⟨r, res, σ', L', rfl, ⟨i, n, hp, rfl, hbx⟩, h3⟩
 have hg := hr.grow h3.chg
 obtain ⟨us1, hw1, hcv1⟩ := h3.bx n t _ hbx
 simp only [CVL] at hcv1
 obtain ⟨v1, us2, rfl, k1, k2⟩ := hcv1
 have ev1 : v1 = a.eval x := by simp only [CVr] at k1; exact k1.1
 subst ev1
 have e2 := hx.run L a w' hg
 simp only [SVr] at e2
 have hn0 : w.heap.size ≤ L'.bb n := by
  rcases h3.b1 n _ hbx with h5 | h5
  ·exact h5
  ·cases h5
 have ht := h3.tm 0 _ (by simp [a0W]; rfl)
 simp only [SVr] at ht
 have hrr : (#[r] : Array Value).getD 0 undef = r := rfl
 rw [hrr] at ht
 have hadd := hg.addbox (B := L'.bb n) (cs := c0 :: qs i) (vs := a.eval x :: us2) hi hw1 ⟨_, us2, rfl, e2, b0C (hqs i) k2⟩ (fun k hk => by
   simp only [List.flatMap_cons, (a8S (hqs i)).2.1, List.append_nil] at hk
   exact List.all_eq_true.1 hk0 k hk) (.inl (Nat.le_trans hr.chg.size hn0)) (fun j x' hx' e => by have := hr.bx_lt hx'; omega) (fun k c hk hm => by have := hr.k_lt hk _ hm; omega)
 refine ⟨r, rfl, hK { L with bb := fun j => if j = d then L'.bb n else L.bb j } _ _ _ ⟨i, hp, rfl⟩ ?_ ⟨h3.chg, fun _ _ _ => rfl, fun j x' hx' => ?_⟩⟩
 ·rw [hd]
  refine hadd.put (v := .box d 0) (by simpa [Nat.blt_eq] using hn) ?_ (by simp [SV.keys]) (fun z hz => by
   simp only [SV.boxes, List.mem_singleton] at hz
   subst hz; simp [a0W])
  simp only [SVr, if_true]
  exact ht
 ·simp only
  rw [if_neg]
  rintro rfl
  rw [hi] at hx'; cases hx'
section
variable {Q : Exit → St → Prop} {all : Array Oper} {rest : List Oper} {tm : List (Nat × SV)} {bx : List (Nat × TypeId × List CV)} {ks : List (Nat × Option KC)} {ι : Type} {p : ι → Prop} {v : ι → SV} {kk : ι → List (Nat × Option KC)} {qs : ι → List CV} {f : FuncId} {xs : List Operand} {ats : Array TypeId} {us : List SV} {t : TypeId} {dd : DV} {ps : List CV} {b d : Nat} {c0 : CV}
theorem a2c (m : Nat) (hg : o.guard = none) (hd : o.dst = some d) (ho : o.op = .call { callee := .value (.func f), args := (x :: xs).toArray, argTypes := ats }) (hc : ∀ (args : Array Value) (w : World), (callFunc f args).run P w = .ok (.enter f args) w) (hf : BFn P f us t dd ps p v kk qs)
  (hx : Ev P C nt ⟨tm, bx, ks⟩ x (.box b 0)) (hb : look bx b = some (t, c0 :: ps)) (h0 : a1V ⟨tm, bx, ks⟩ c0 (.dv [] dd)) (hps : ps.all CV.plain = true) (hqs : ∀ i, (qs i).all CV.plain = true) (ha : a6f P C nt ⟨tm, bx, ks⟩ xs us) (hn : Nat.blt d nt = true) (hres : ∀ i, (v i).retOk = true) (hfree : ∀ i, ((kk i).all fun q => (lkk ⟨tm, bx, ks⟩ (m + q.1)).isNone) = true)
  (h : ∀ i, p i → Ops P C nt Q all rest ⟨(d, (v i).sh m) :: tm, (b, t, c0 :: qs i) :: bx, shK m (kk i) ++ ks⟩) : Ops P C nt Q all (o :: rest) ⟨tm, bx, ks⟩ :=
 a7E hg (efB m ho hd hn hc hf hx hb h0 hps hqs ha hres hfree).ef fun σ' ⟨i, hp, e⟩ => by rw [e]; exact h i hp
theorem c5i (m : Nat) (hg : o.guard = none) (hd : o.dst = some d) (ho : o.op = .call { callee := .value (.func f), args := xs.toArray, argTypes := ats }) (hc : ∀ (args : Array Value) (w : World), (callFunc f args).run P w = .ok (.enter f args) w) (hf : EFn P f us p v kk)
  (ha : a2b P C nt ⟨tm, bx, ks⟩ xs us) (hn : Nat.blt d nt = true) (hres : ∀ i, (v i).retOk = true) (hfree : ∀ i, ((kk i).all fun q => (lkk ⟨tm, bx, ks⟩ (m + q.1)).isNone) = true)
  (h : ∀ i, p i → Ops P C nt Q all rest ⟨(d, (v i).sh m) :: tm, bx, shK m (kk i) ++ ks⟩) : Ops P C nt Q all (o :: rest) ⟨tm, bx, ks⟩ :=
 a7E hg (a7c m ho hd hn hc hf.ok ha (fun u σ' ⟨i, hp, e1, e2⟩ => ⟨i, e1, e2, hp⟩) hres hfree).ef fun σ' ⟨i, hp, e⟩ => by rw [e]; exact h i hp
theorem c5e (hg : o.guard = none) (hd : o.dst = some d) (ho : o.op = .call { callee := .value (.func f), args := #[x], argTypes := ats }) (hc : ∀ (args : Array Value) (w : World), (callFunc f args).run P w = .ok (.enter f args) w) (hf : NFn P f t dd p qs)
  (hx : Ev P C nt ⟨tm, bx, ks⟩ x (.one c0)) (h0 : a1V ⟨tm, bx, ks⟩ c0 (.dv [] dd)) (hk0 : (c0.keys.all fun k => (lkk ⟨tm, bx, ks⟩ k).isSome) = true) (hqs : ∀ i, (qs i).all CV.plain = true) (hn : Nat.blt d nt = true) (hi : look bx d = none)
  (h : ∀ i, p i → Ops P C nt Q all rest ⟨(d, .box d 0) :: tm, (d, t, c0 :: qs i) :: bx, ks⟩) : Ops P C nt Q all (o :: rest) ⟨tm, bx, ks⟩ :=
 a7E hg (c8L ho hd hn hc hf hx h0 hk0 hqs hi).ef fun σ' ⟨i, hp, e⟩ => by rw [e]; exact h i hp
end
end
section
variable {P : Program} {C : Ctx} {nt : Nat} {Q : Exit → St → Prop} {all : Array Oper} {oB oK : List Nat} {hd' : Nat → Bool} {listed : Array Bool} {fuel b : Nat} {tm : List (Nat × SV)} {bx : List (Nat × TypeId × List CV)} {ks : List (Nat × Option KC)} {o : Oper} {d : Nat} {v X : SV} {Ks Bs : List Nat} {g : Bool} {x y : Operand} {T : TT}
def SWL (Bs : List Nat) (wb w : World) : Prop := wb.heap.size ≤ w.heap.size ∧ ∀ k, k < wb.heap.size → k ∉ Bs → w.heap[k]? = wb.heap[k]?
theorem SWL.refl (Bs : List Nat) (w : World) : SWL Bs w w := ⟨Nat.le_refl _, fun _ _ _ => rfl⟩
theorem SWL.chg {Bs cs : List Nat} {wb w w' : World} (h : SWL Bs wb w) (hc : Chg cs w w') (hs : ∀ x ∈ cs, x ∈ Bs) : SWL Bs wb w' := ⟨Nat.le_trans h.1 hc.size, fun k hk hn => (hc.block k (Nat.lt_of_lt_of_le hk h.1) (fun hm => hn (hs k hm))).trans (h.2 k hk hn)⟩
structure OpsL (P : Program) (C : Ctx) (nt : Nat) (Q : Exit → St → Prop) (all : Array Oper) (oB oK : List Nat) (bs : List Nat) (hd' : Nat → Bool) (listed : Array Bool) (fuel : Nat) (σ : St) : Prop where
 run : ∀ wb L a w, Rel P C nt L σ a w → SWL (bs.map L.bb) wb w → C.w0.heap.size ≤ wb.heap.size → (∀ i ∈ oB, L.bb i < wb.heap.size) → (∀ k ∈ oK, ∀ b ∈ L.fp k, b < wb.heap.size) → a2m P .any all (QQ P C nt Q) (SWL (bs.map L.bb) wb) hd' fuel listed a w
structure OpsLJ (P : Program) (C : Ctx) (nt : Nat) (Q : Exit → St → Prop) (all : Array Oper) (oB oK : List Nat) (bs : List Nat) (hd' : Nat → Bool) (listed : Array Bool) (fuel : Nat) (i : Nat) (σ : St) : Prop where
 run : ∀ wb L a w, Rel P C nt L σ a w → SWL (bs.map L.bb) wb w → C.w0.heap.size ≤ wb.heap.size → (∀ i ∈ oB, L.bb i < wb.heap.size) → (∀ k ∈ oK, ∀ b ∈ L.fp k, b < wb.heap.size) →
  wpOp P all (QQ P C nt Q) i (fun a' w' => (hd' i = true → SWL (bs.map L.bb) wb w') ∧ a2m P .any all (QQ P C nt Q) (SWL (bs.map L.bb) wb) hd' fuel (listed.setIfInBounds i true) a' w') a w
def b4t (P : Program) (C : Ctx) (nt : Nat) (Q : Exit → St → Prop) (all : Array Oper) (oB oK : List Nat) (bs : List Nat) (hd' : Nat → Bool) (listed : Array Bool) (fuel : Nat) (σ : St) : List Nat → Prop
 | [] => True
 | i :: is => OpsLJ P C nt Q all oB oK bs hd' listed fuel i σ ∧ b4t P C nt Q all oB oK bs hd' listed fuel σ is
section
variable {bs : List Nat}
theorem b9O {σ : St} : ∀ {is : List Nat}, b4t P C nt Q all oB oK bs hd' listed fuel σ is → ∀ i ∈ is, OpsLJ P C nt Q all oB oK bs hd' listed fuel i σ
 | [], _, _, hi => by cases hi
 | j :: is, h, i, hi => by
  rcases List.mem_cons.1 hi with rfl | hi
  ·exact h.1
  ·exact b9O h.2 i hi
theorem a6G (bs hs : List Nat) {id : Nat} {l : List Oper} (hm : P.follows .mixedOrders = true) (hb : (oB.all fun i => (look bx i).isSome) = true) (hk : (oK.all fun k => (lkk ⟨tm, bx, ks⟩ k).isSome) = true)
  (h : OpsL P C nt Q l.toArray oB oK bs (fun i => hs.contains i) (Array.replicate l.length false) l.length ⟨tm, bx, ks⟩) : Ok P C nt Q (.region id l.toArray true) ⟨tm, bx, ks⟩ := Ok.mk fun L a w hr => by
 have hr' := a9f hr
 refine b0l (SWL (bs.map L.bb) w.drew) (fun i => hs.contains i) hm ?_
 have := h.run w.drew L a w.drew hr' (SWL.refl _ _) hr'.chg.size (fun i hi => ?_) (fun k hk' b hb' => ?_)
 ·simpa using this
 ·obtain ⟨x, hx⟩ := c9h.1 (List.all_eq_true.1 hb i hi)
  exact hr'.bx_lt hx
 ·obtain ⟨c, hc⟩ := c9h.1 (List.all_eq_true.1 hk k hk')
  exact hr'.k_lt hc b hb'
theorem a2q (i : Nat) (hi : all[i]? = some o) (ht : a4G .any all hd' listed i = true) (hg : o.guard = none) (hd : o.dst = some d) (hp : Pu P C nt o ⟨tm, bx, ks⟩ v Ks Bs) (h1 : (Ks.all fun k => oK.contains k && (lkk ⟨tm, bx, ks⟩ k).isSome) = true) (h2 : (Bs.all fun k => oB.contains k && (!(bs.contains k) && (look bx k).isSome)) = true) (h3 : (bs.all fun b => (look bx b).isSome) = true) (hn : Nat.blt d nt = true) (hk : a1p ⟨tm, bx, ks⟩ v = true)
  (h : OpsL P C nt Q all oB oK bs hd' (listed.setIfInBounds i true) fuel ⟨(d, v) :: tm, bx, ks⟩) : OpsL P C nt Q all oB oK bs hd' listed (fuel + 1) ⟨tm, bx, ks⟩ := ⟨fun wb L a w hr hs hw hB hK => by
 obtain ⟨r, q3, q4⟩ := hp.run L a w hr
 have hy : ∀ w', SWL (bs.map L.bb) wb w' → (execOp a.eval o).run P w' = .ok (.value r) w' := fun w' hs' => q4 w' fun z _ hu => by
  have hz : z < wb.heap.size ∧ ∀ b ∈ bs, z ≠ L.bb b := by
   rcases hu with (⟨h5, h6⟩ | ⟨k, hk, hb⟩) | ⟨i, hi, rfl⟩
   ·refine ⟨by omega, fun b hb e => ?_⟩
    obtain ⟨xb, hxb⟩ := c9h.1 (List.all_eq_true.1 h3 b hb)
    rcases hr.b1 b xb hxb with g | g
    ·omega
    ·exact h6 (by rw [e]; exact g)
   ·have := List.all_eq_true.1 h1 k hk
    simp only [Bool.and_eq_true, List.contains_iff_mem] at this
    obtain ⟨c, hc⟩ := c9h.1 this.2
    exact ⟨hK k this.1 z hb, fun b hb' e => by
     obtain ⟨xb, hxb⟩ := c9h.1 (List.all_eq_true.1 h3 b hb')
     exact hr.bk b k xb c hxb hc (by rw [← e]; exact hb)⟩
   ·have := List.all_eq_true.1 h2 i hi
    simp only [Bool.and_eq_true, List.contains_iff_mem, Bool.not_eq_true'] at this
    obtain ⟨c, hc⟩ := c9h.1 this.2.2
    exact ⟨hB i this.1, fun b hb' => by
     obtain ⟨xb, hxb⟩ := c9h.1 (List.all_eq_true.1 h3 b hb')
     exact hr.bb i b c xb hc hxb (fun e => by
      have h7 := this.2.1
      rw [e] at h7
      have h8 : bs.contains b = true := List.contains_iff_mem.2 hb'
      rw [h7] at h8; cases h8)⟩
  have hz2 : z ∉ bs.map L.bb := fun hm => by
   obtain ⟨b, hb, e⟩ := List.mem_map.1 hm
   exact hz.2 b hb e.symm
  rw [hs'.2 z hz.1 hz2, hs.2 z hz.1 hz2]
 refine a7a i (v := r) hi ht (fun _ _ _ h => h) hs (.inl ⟨by simp [Region.wanted, hg], hy⟩) ?_
 rw [hd]
 exact h.run wb L _ w (hr.put (by simpa [Nat.blt_eq] using hn) q3 (a1R hk).1 (a1R hk).2) hs hw hB hK⟩
theorem a2U {σ : St} (i : Nat) (is : List Nat) (hr : (Region.ready .any all listed == i :: is) = true) (h : b4t P C nt Q all oB oK bs hd' listed fuel σ (i :: is)) : OpsL P C nt Q all oB oK bs hd' listed (fuel + 1) σ := ⟨fun wb L a w hrel hs hw hB hK => by
 have hr' : Region.ready .any all listed = i :: is := by simpa using hr
 refine ⟨fun h0 => (by rw [hr'] at h0; cases h0), fun j hj => ?_⟩
 rw [hr'] at hj
 exact (b9O h j hj).run wb L a w hrel hs hw hB hK⟩
theorem c0z {L L' : Lyt} (h : ∀ b ∈ bs, L'.bb b = L.bb b) : bs.map L'.bb = bs.map L.bb := List.map_congr_left h
theorem c5W (b i : Nat) {R : St → Prop} (hbs : bs.contains b = true) (hi : all[i]? = some o) (hg : o.guard = none) (hp : EfB P C nt o ⟨tm, bx, ks⟩ b R) (hk : (oK.all fun k => (lkk ⟨tm, bx, ks⟩ k).isSome) = true)
  (h : ∀ σ', R σ' → OpsL P C nt Q all oB oK bs hd' (listed.setIfInBounds i true) fuel σ') : OpsLJ P C nt Q all oB oK bs hd' listed fuel i ⟨tm, bx, ks⟩ := ⟨fun wb L a w hr hs hw hB hK => by
 unfold wpOp
 simp only [hi]
 have hw' : Region.wanted o (yielded all a.tmps) = true := by simp [Region.wanted, hg]
 rw [if_pos hw']
 refine .inl (hp.run L a w hr _ _ fun L' σ' a' w' h1 h2 h3 h4 h5 => ?_)
 have hs' : SWL (bs.map L.bb) wb w' := hs.chg h3 (fun x hx => by
  rw [List.mem_singleton] at hx; subst hx
  exact List.mem_map_of_mem (List.contains_iff_mem.1 hbs))
 refine ⟨fun _ => hs', ?_⟩
 have em : bs.map L'.bb = bs.map L.bb := c0z fun b _ => h5 b
 have := (h σ' h1).run wb L' a' w' h2 (by rw [em]; exact hs') hw (fun j hj => by rw [h5]; exact hB j hj) (fun k hk' b hb' => by
  obtain ⟨c, hc⟩ := c9h.1 (List.all_eq_true.1 hk k hk')
  rw [h4 k c hc] at hb'; exact hK k hk' b hb')
 rwa [em] at this⟩
theorem b4V (i : Nat) {R : St → Prop} (hi : all[i]? = some o) (hg : o.guard = none) (hp : EfG P C nt o ⟨tm, bx, ks⟩ R) (hb : (oB.all fun i => (look bx i).isSome) = true) (hk : (oK.all fun k => (lkk ⟨tm, bx, ks⟩ k).isSome) = true) (hbb : (bs.all fun b => (look bx b).isSome) = true)
  (h : ∀ σ', R σ' → OpsL P C nt Q all oB oK bs hd' (listed.setIfInBounds i true) fuel σ') : OpsLJ P C nt Q all oB oK bs hd' listed fuel i ⟨tm, bx, ks⟩ := ⟨fun wb L a w hr hs hw hB hK => by
 unfold wpOp
 simp only [hi]
 have hw' : Region.wanted o (yielded all a.tmps) = true := by simp [Region.wanted, hg]
 rw [if_pos hw']
 refine .inl (hp.run L a w hr _ _ fun L' σ' a' w' h1 h2 h3 => ?_)
 have em : bs.map L'.bb = bs.map L.bb := c0z fun b hb' => by
  obtain ⟨xb, hxb⟩ := c9h.1 (List.all_eq_true.1 hbb b hb')
  exact h3.box b xb hxb
 have hs' : SWL (bs.map L.bb) wb w' := hs.chg h3.chg (by simp)
 refine ⟨fun _ => hs', ?_⟩
 have := (h σ' h1).run wb L' a' w' h2 (by rw [em]; exact hs') hw (fun j hj => ?_) (fun k hk' b' hb' => ?_)
 ·rwa [em] at this
 ·obtain ⟨x, hx⟩ := c9h.1 (List.all_eq_true.1 hb j hj)
  rw [h3.box j x hx]; exact hB j hj
 ·obtain ⟨c, hc⟩ := c9h.1 (List.all_eq_true.1 hk k hk')
  rw [h3.key k c hc] at hb'; exact hK k hk' b' hb'⟩
theorem c3t (hd : o.dst = some d) (hn : Nat.blt d nt = true) (hp : Pu P C nt o ⟨tm, bx, ks⟩ v Ks Bs) (hk : a1p ⟨tm, bx, ks⟩ v = true) : EfG P C nt o ⟨tm, bx, ks⟩ (fun σ' => σ' = ⟨(d, v) :: tm, bx, ks⟩) := EfG.mk fun L a w hr K Q' hK => by
 obtain ⟨r, h1, h2⟩ := hp.run L a w hr
 unfold Oper.wp
 rw [h2 w (fun _ _ _ => rfl)]
 simp only [Oper.upon]
 rw [hd]
 exact hK L _ _ _ rfl (hr.put (by simpa [Nat.blt_eq] using hn) h1 (a1R hk).1 (a1R hk).2) ⟨Chg.refl [] w, fun _ _ _ => rfl, fun _ _ _ => rfl⟩
theorem b7v (i : Nat) (hi : all[i]? = some o) (hg : o.guard = none) (hd : o.dst = some d) (hp : Pu P C nt o ⟨tm, bx, ks⟩ v Ks Bs) (hn : Nat.blt d nt = true) (hk : a1p ⟨tm, bx, ks⟩ v = true) (hb : (oB.all fun i => (look bx i).isSome) = true) (hk' : (oK.all fun k => (lkk ⟨tm, bx, ks⟩ k).isSome) = true) (hbb : (bs.all fun b => (look bx b).isSome) = true)
  (h : OpsL P C nt Q all oB oK bs hd' (listed.setIfInBounds i true) fuel ⟨(d, v) :: tm, bx, ks⟩) : OpsLJ P C nt Q all oB oK bs hd' listed fuel i ⟨tm, bx, ks⟩ :=
 b4V i hi hg (c3t hd hn hp hk) hb hk' hbb fun σ' e => by rw [e]; exact h
theorem c6o (b i : Nat) {t j t' sz by_ : Nat} {zc cs : List CV} {p : Bool × List CV} (hbs : bs.contains b = true) (hi : all[i]? = some o) (hg : o.guard = none) (hT : TTOk P T) (ho : o.op = .store t x y) (hd : o.dst = none) (hte : look T.el t = some (sz, by_, zc)) (hx : Ev P C nt ⟨tm, bx, ks⟩ x (.box b j)) (hy : Ev P C nt ⟨tm, bx, ks⟩ y v) (hp : v.part = some p) (hk : a1p ⟨tm, bx, ks⟩ v = true)
  (hb : look bx b = some (t', cs)) (hl : p.2.length = sz) (hle : Nat.ble (j + sz) cs.length = true) (hkc : (cs.flatMap CV.keys).all (fun k => (lkk ⟨tm, bx, ks⟩ k).isSome) = true)
  (h : OpsL P C nt Q all oB oK bs hd' (listed.setIfInBounds i true) fuel ⟨tm, (b, t', a1d j p.2 cs) :: bx, ks⟩) : OpsLJ P C nt Q all oB oK bs hd' listed fuel i ⟨tm, bx, ks⟩ := ⟨fun wb L a w hr hs hw hB hK => by
 unfold wpOp
 simp only [hi]
 have hw' : Region.wanted o (yielded all a.tmps) = true := by simp [Region.wanted, hg]
 rw [if_pos hw']
 obtain ⟨us, h1, h2, h3⟩ := a4y hr hp hk (hy.run L a w hr)
 have h4 := hx.run L a w hr
 simp only [SVr] at h4
 obtain ⟨vs, h5, h6⟩ := hr.bx b t' cs hb
 obtain ⟨inf, z, g1, g2, _⟩ := hT.el t sz by_ zc hte
 have hrun := a7l (z := z) g1 g2 h1 (by rw [a2S h2]; exact hl) h3 h5 (off := j) (by rw [a2S h6]; simpa [Nat.ble_eq] using hle)
 refine .inl ?_
 unfold Oper.wp execOp
 simp only [ho, h4, Sem.run_bind, hrun, Result.andThen_ok, Sem.run_pure, Oper.upon, hd, Act.put]
 have hs' := hs.chg (a5W w (L.bb b) (a1d j us vs).toArray) (fun x hx => by
  rw [List.mem_singleton] at hx; subst hx
  exact List.mem_map_of_mem (List.contains_iff_mem.1 hbs))
 refine ⟨fun _ => hs', h.run wb L _ _ (hr.setbox hb (a5W _ _ _) (setRow_heap _ _ _ _ _ _ h5) (a9N j h6 h2) ?_) hs' hw hB hK⟩
 intro k hm
 simp only [a1d, List.flatMap_append, List.mem_append, or_assoc] at hm
 simp only [List.all_eq_true] at hkc
 rcases hm with hm | hm | hm
 ·exact hkc k (by
   obtain ⟨c, hc, hk'⟩ := List.mem_flatMap.1 hm
   exact List.mem_flatMap.2 ⟨c, List.mem_of_mem_take hc, hk'⟩)
 ·rw [a4X hp] at hm; exact (a1R hk).1 k hm
 ·exact hkc k (by
   obtain ⟨c, hc, hk'⟩ := List.mem_flatMap.1 hm
   exact List.mem_flatMap.2 ⟨c, List.mem_of_mem_drop hc, hk'⟩)⟩
theorem a7h (is : List Nat) (hm : (is.all fun i => (all[i]?).isSome) = true) (hf : Nat.ble is.length fuel = true) (hc : a7y .any all hd' is listed = true) (h : Ops P C nt Q all (is.filterMap fun i => all[i]?) ⟨tm, bx, ks⟩) : OpsL P C nt Q all oB oK bs hd' listed fuel ⟨tm, bx, ks⟩ := ⟨fun wb L a w hr _ _ _ _ =>
 a9z is _ listed fuel a w (b0d hm) (by simpa [Nat.ble_eq] using hf) hc (h.run L a w hr)⟩
theorem a9q (m i : Nat) {f : FuncId} {xs : List Operand} {ats : Array TypeId} {us : List SV} {kk : List (Nat × Option KC)} (hi : all[i]? = some o) (hg : o.guard = none) (hd : o.dst = some d) (ho : o.op = .call { callee := .value (.func f), args := xs.toArray, argTypes := ats })
  (hc : ∀ (args : Array Value) (w : World), (callFunc f args).run P w = .ok (.enter f args) w) (hf : KFn P f us v kk) (ha : a2b P C nt ⟨tm, bx, ks⟩ xs us) (hn : Nat.blt d nt = true) (hres : v.retOk = true) (hfree : (kk.all fun q => (lkk ⟨tm, bx, ks⟩ (m + q.1)).isNone) = true)
  (hb : (oB.all fun i => (look bx i).isSome) = true) (hk : (oK.all fun k => (lkk ⟨tm, bx, ks⟩ k).isSome) = true) (hbb : (bs.all fun b => (look bx b).isSome) = true)
  (h : OpsL P C nt Q all oB oK bs hd' (listed.setIfInBounds i true) fuel ⟨(d, v.sh m) :: tm, bx, shK m kk ++ ks⟩) : OpsLJ P C nt Q all oB oK bs hd' listed fuel i ⟨tm, bx, ks⟩ :=
 b4V i hi hg (a7c (ι := Unit) (v := fun _ => v) (kk := fun _ => kk) (p := fun _ => True) m ho hd hn hc hf.ok ha (fun u σ' h => ⟨(), h.1, h.2, trivial⟩) (fun _ => hres) (fun _ => hfree)) hb hk hbb fun σ' ⟨_, _, e⟩ => by rw [e]; exact h
theorem a4C (m i : Nat) {f : FuncId} {xs : List Operand} {ats : Array TypeId} {us : List SV} {ι : Type} {p : ι → Prop} {v : ι → SV} {kk : ι → List (Nat × Option KC)} {qs : ι → List CV} {t : TypeId} {dd : DV} {ps : List CV} {c0 : CV} (hbs : bs.contains b = true) (hi : all[i]? = some o)
  (hg : o.guard = none) (hd : o.dst = some d) (ho : o.op = .call { callee := .value (.func f), args := (x :: xs).toArray, argTypes := ats }) (hc : ∀ (args : Array Value) (w : World), (callFunc f args).run P w = .ok (.enter f args) w) (hf : BFn P f us t dd ps p v kk qs)
  (hx : Ev P C nt ⟨tm, bx, ks⟩ x (.box b 0)) (hb : look bx b = some (t, c0 :: ps)) (h0 : a1V ⟨tm, bx, ks⟩ c0 (.dv [] dd)) (hps : ps.all CV.plain = true) (hqs : ∀ i, (qs i).all CV.plain = true) (ha : a6f P C nt ⟨tm, bx, ks⟩ xs us) (hn : Nat.blt d nt = true) (hres : ∀ i, (v i).retOk = true) (hfree : ∀ i, ((kk i).all fun q => (lkk ⟨tm, bx, ks⟩ (m + q.1)).isNone) = true) (hk : (oK.all fun k => (lkk ⟨tm, bx, ks⟩ k).isSome) = true)
  (h : ∀ z, p z → OpsL P C nt Q all oB oK bs hd' (listed.setIfInBounds i true) fuel ⟨(d, (v z).sh m) :: tm, (b, t, c0 :: qs z) :: bx, shK m (kk z) ++ ks⟩) : OpsLJ P C nt Q all oB oK bs hd' listed fuel i ⟨tm, bx, ks⟩ :=
 c5W b i hbs hi hg (efB m ho hd hn hc hf hx hb h0 hps hqs ha hres hfree) hk fun σ' ⟨z, hz, e⟩ => by rw [e]; exact h z hz
theorem b5H (i : Nat) (hT : TTOk P T) {t e sz by_ d k n : Nat} {zc cs : List CV} {ds : List DV} {js : List Nat} {ps : List (Nat × Operand)} (hi : all[i]? = some o) (hg : o.guard = none) (hd : o.dst = some d) (ho : o.op = .buildSlice t n ps.toArray) (hn : Nat.blt d nt = true) (ht : look T.sl t = some e) (he : look T.el e = some (sz, by_, zc)) (hl0 : zc.length = sz) (hsz : Nat.blt 0 sz = true) (hsm : Nat.ble (n * sz) 16777216 = true) (hps : ps.length = n) (hn0 : Nat.blt 0 n = true)
  (hx : a4Y P C nt ⟨tm, bx, ks⟩ sz 0 ps cs) (how : a3z ⟨tm, bx, ks⟩ cs ds js) (hnj : js.Nodup) (hkj : k ∉ js) (hcl : cs.length = n * sz) (hk : lkk ⟨tm, bx, ks⟩ k = none)
  (hb : (oB.all fun i => (look bx i).isSome) = true) (hk' : (oK.all fun k => (lkk ⟨tm, bx, ks⟩ k).isSome) = true) (hbb : (bs.all fun b => (look bx b).isSome) = true)
  (h : OpsL P C nt Q all oB oK bs hd' (listed.setIfInBounds i true) fuel ⟨(d, .one (.key k)) :: a0p (k :: js) (k :: js) tm, a0k (k :: js) (k :: js) bx, (k, some ⟨false, e, sz, n, ds⟩) :: ((js.map fun j => (j, none)) ++ (k, some ⟨false, e, sz, 0, []⟩) :: ks)⟩) : OpsLJ P C nt Q all oB oK bs hd' listed fuel i ⟨tm, bx, ks⟩ :=
 b4V i hi hg (b2f hT ho hd hn ht he hl0 hsz hsm hps hn0 hx how hnj hkj hcl hk) hb hk' hbb fun σ' e => by rw [e]; exact h
theorem a5A (i : Nat) (hi : all[i]? = some o) (ht : a7W .any all hd' listed i = true) (hx : a7M o = true) (hg : o.guard = none) (hd : o.dst = some d) (hp : Pu P C nt o ⟨tm, bx, ks⟩ v Ks Bs) (hn : Nat.blt d nt = true) (hk : a1p ⟨tm, bx, ks⟩ v = true)
  (h : OpsL P C nt Q all oB oK bs hd' (listed.setIfInBounds i true) fuel ⟨(d, v) :: tm, bx, ks⟩) : OpsL P C nt Q all oB oK bs hd' listed (fuel + 1) ⟨tm, bx, ks⟩ := ⟨fun wb L a w hr hs hw hB hK => by
 obtain ⟨r, h3, h4⟩ := hp.run L a w hr
 refine b4G i (v := r) hi ht (fun _ _ _ h => h) (.inl ⟨by simp [Region.wanted, hg], fun w' _ => b5c hx (h4 w fun _ _ _ => rfl) w'⟩) ?_
 rw [hd]
 exact h.run wb L _ w (hr.put (by simpa [Nat.blt_eq] using hn) h3 (a1R hk).1 (a1R hk).2) hs hw hB hK⟩
theorem c2F (ht : (Region.ready .any all listed).isEmpty = true) (h : Q .normal ⟨tm, bx, ks⟩) : OpsL P C nt Q all oB oK bs hd' listed fuel ⟨tm, bx, ks⟩ := ⟨fun _ L _ _ hr _ _ _ _ => b0k ht ⟨L, _, hr, h⟩ fuel⟩
end
end
section
variable {P : Program} {C : Ctx} {nt : Nat} {σ : St} {o : Oper} {x y : Operand}
theorem a4e {σ' σ'' : St} (h1 : Weak P C nt σ σ') (h2 : Weak P C nt σ' σ'') : Weak P C nt σ σ'' := Weak.mk fun L a w hr => by
 obtain ⟨L', h⟩ := h1.run L a w hr
 exact h2.run L' a w h
theorem a9r {k e sz : Nat} (hk : lkk σ k = none) (hsz : Nat.blt 0 sz = true) : Weak P C nt σ { σ with ks := (k, some ⟨false, e, sz, 0, []⟩) :: σ.ks } := Weak.mk fun L a w hr => by
 have hpos : 0 < sz := by simpa [Nat.blt_eq] using hsz
 exact ⟨_, hr.newkey (k := k) (c := ⟨false, e, sz, 0, []⟩) (v := .slice none 0 0) (f := []) hk (a6U w e sz hpos) rfl (by simp) (by simp) (by simp) (by simp)⟩
theorem c5s {p : Option Addr} : Ev P C nt σ (.const (.pointer p)) (.one .any) := Ev.mk fun _ _ _ _ => by simp only [SVr, CVr]; rfl
theorem c7G {m : Int} {p : Nat} (hp : 0 < p) (h : InR .i64 m) : InR .i64 (m / (p : Int)) := by
 simp only [InR, IntKind.min, IntKind.max, IntKind.signed, IntKind.bits] at h ⊢
 obtain ⟨h1, h2⟩ := h
 simp at h1 h2 ⊢
 exact ⟨Int.le_ediv_of_mul_le (by omega) (by omega), Int.ediv_le_of_le_mul (by omega) (by omega)⟩
theorem b6G {t ty : TypeId} {K J : List Nat} {j : IntKind} {m n : Int} (ho : o.op = .binOp .shr t x y ty) (hx : Ev P C nt σ x (.one (.dv K (.int .i64 m)))) (hy : Ev P C nt σ y (.one (.dv J (.int j n)))) (hn : 0 ≤ n) (hn2 : n.toNat ≤ 64) : Pu P C nt o σ (.one (.dv [] (.int .i64 (m / (2 ^ n.toNat : Nat))))) [] [] := Pu.mk fun L a w hr => by
 have h1 := hx.run L a w hr
 have h2 := hy.run L a w hr
 simp only [SVr, CVr, Lay] at h1 h2
 have hp : (0 : Int) < ((2 ^ n.toNat : Nat) : Int) := by have : 0 < 2 ^ n.toNat := Nat.two_pow_pos _; omega
 have e : m.fdiv (2 ^ n.toNat) = m / ((2 ^ n.toNat : Nat) : Int) := by
  have : ((2 ^ n.toNat : Nat) : Int) = (2 : Int) ^ n.toNat := by simp
  rw [← this, Int.fdiv_eq_ediv_of_nonneg _ (by omega)]
 have h3 : InR .i64 (m / ((2 ^ n.toNat : Nat) : Int)) := c7G (Nat.two_pow_pos _) h1.2
 refine ⟨.int .i64 (m / ((2 ^ n.toNat : Nat) : Int)), by simp only [SVr, CVr, Lay]; exact ⟨trivial, h3⟩, fun w' _ => ?_⟩
 unfold execOp
 simp only [ho, h1.1, h2.1, Sem.run_bind]
 have hg : (eqGuard .shr t x y (.int .i64 m) (.int j n)).run P w' = .ok () w' := by unfold eqGuard; rfl
 have hb : (binOp .shr t (.int .i64 m) (.int j n)).run P w' = .ok (.int .i64 (m / ((2 ^ n.toNat : Nat) : Int))) w' := by
  simp only [binOp, Op.shift]
  rw [if_neg (by omega), Nat.min_eq_left (show n.toNat ≤ IntKind.i64.bits from hn2), e]
  rfl
 simp only [hg, Result.andThen_ok, hb, Sem.run_pure]
theorem c1m {t ty : TypeId} {K J : List Nat} {m n : Int} (ho : o.op = .binOp .xor t x y ty) (hx : Ev P C nt σ x (.one (.dv K (.int .i64 m)))) (hy : Ev P C nt σ y (.one (.dv J (.int .i64 n)))) : Pu P C nt o σ (.one (.dv [] (.int .i64 (bits .xor .i64 m n)))) [] [] :=
 a4u ho hx hy fun _ _ => ⟨_, fun ok w => by unfold Lay; exact ⟨rfl, a6w _ _⟩, fun w => by simp [binOp, Op.intBits, bits]⟩
theorem b4U {t ty : TypeId} {K J : List Nat} {m n : Int} (ho : o.op = .binOp .and t x y ty) (hx : Ev P C nt σ x (.one (.dv K (.int .i64 m)))) (hy : Ev P C nt σ y (.one (.dv J (.int .i64 n)))) : Pu P C nt o σ (.one (.dv [] (.int .i64 (bits .and .i64 m n)))) [] [] :=
 a4u ho hx hy fun _ _ => ⟨_, fun ok w => by unfold Lay; exact ⟨rfl, a6w _ _⟩, fun w => by simp [binOp, Op.intBits, bits]⟩
theorem b7E (m : Int) : 0 ≤ bits .and .i64 m 255 ∧ bits .and .i64 m 255 ≤ 255 := by
 have h : (BitVec.ofInt 64 m &&& BitVec.ofInt 64 255).toNat ≤ 255 := by
  rw [BitVec.toNat_and]
  exact Nat.le_trans Nat.and_le_right (by decide)
 show 0 ≤ IntKind.i64.wrap ((BitVec.ofInt 64 m &&& BitVec.ofInt 64 255).toNat : Int) ∧ IntKind.i64.wrap ((BitVec.ofInt 64 m &&& BitVec.ofInt 64 255).toNat : Int) ≤ 255
 rw [IntKind.wrap_i64]
 omega
end
section
variable {P : Program} {C : Ctx} {nt : Nat} {Q : Exit → St → Prop} {all : Array Oper} {rest : List Oper} {tm : List (Nat × SV)} {bx : List (Nat × TypeId × List CV)} {ks : List (Nat × Option KC)}
end
section
variable {P : Program} {C : Ctx} {nt : Nat} {σ : St}
theorem a7g {b i k t : Nat} {cs : List CV} {c : KC} (K : List Nat) (hb : look σ.bx b = some (t, cs)) (hi : cs[i]? = some (.key k)) (hk : lkk σ k = some c) (hkK : K.contains k = true) (hl : ((cs.set i (.dv K (.sl c.e c.sz c.n c.cs))).flatMap CV.keys).all (fun j => (lkk σ j).isSome) = true) :
  Weak P C nt σ ⟨σ.tm, (b, t, cs.set i (.dv K (.sl c.e c.sz c.n c.cs))) :: σ.bx, σ.ks⟩ := Weak.mk fun L a w hr => by
 have h1 := a4l (ok := okB C L K) _ _ _ (hr.ks k c hk).1 (fun b hb => .inr ⟨k, List.contains_iff_mem.1 hkK, hb⟩)
 refine ⟨_, hr.alsoB (b := b) hb (fun vs hv => b1C hi (fun v hv => ?_) hv) (fun j hj => List.all_eq_true.1 hl j hj)⟩
 simp only [CVr] at hv ⊢
 rw [hv]; exact h1
end
/-! ### regions that draw their order and append to a nested cell of a key -/
section
variable {P : Program} {C : Ctx} {nt : Nat} {σ : St} {L : Lyt} {a : Act} {w : World} {o : Oper} {x y : Operand} {T : TT}
end
section
variable {P : Program} {C : Ctx} {nt : Nat} {Q : Exit → St → Prop} {all : Array Oper} {oB oK : List Nat} {k0 : Nat} {listed : Array Bool} {fuel : Nat} {hd' : Nat → Bool} {tm : List (Nat × SV)} {bx : List (Nat × TypeId × List CV)} {ks : List (Nat × Option KC)} {o : Oper} {d : Nat} {v X : SV} {Ks Bs0 : List Nat} {x y : Operand} {T : TT}
end
section
variable {P : Program} {C : Ctx} {nt : Nat} {Q : Exit → St → Prop} {all : Array Oper} {rest : List Oper} {σ : St} {o : Oper} {g : Bool}
theorem c6j {T : TT} (hT : TTOk P T) {t sz by_ len e : Nat} {zc : List CV} (ho : o.op = .build t #[]) (ht : look T.el t = some (sz, by_, zc)) (hu : P.underlying t = some (.array len e)) (hi : (P.info? e).isSome = true) : Pu P C nt o σ (.agg zc) [] [] := Pu.mk fun L a w hr => by
 obtain ⟨inf, z, g1, g2, g3, g4, g5⟩ := hT.el t sz by_ zc ht
 obtain ⟨c1, _, _⟩ := a9p (C := C) (L := L) (w := w) g5
 obtain ⟨i, hi⟩ := c9h.1 hi
 refine ⟨.agg z.cells, by simp only [SVr]; exact ⟨z.cells.toList, by simp, c1⟩, fun w' _ => ?_⟩
 unfold execOp
 simp [ho, Instr.build, zeroValue, typeInfo, g1, g4, run_underlying hu, sizeOf, hi, Instr.fill]
theorem a6s {x y : Operand} {t len e sz b i : Nat} {J : List Nat} {z : Int} (ho : o.op = .indexAddr t x y) (hu : P.underlying t = some (.array len e)) (hi : (P.info? e).map (·.size) = some sz) (hlen : Nat.blt 1 len = true) (hx : Ev P C nt σ x (.box b i)) (hy : Ev P C nt σ y (.one (.dv J (.int .i64 z)))) (h0 : 0 ≤ z) (h1 : z < (len : Int)) : Pu P C nt o σ (.box b (i + z.toNat * sz)) [] [] := Pu.mk fun L a w hr => by
 have h2 := hx.run L a w hr
 have h3 := hy.run L a w hr
 simp only [SVr, CVr, Lay] at h2 h3
 cases hq : P.info? e with
 | none => rw [hq] at hi; cases hi
 | some inf =>
  rw [hq] at hi
  simp only [Option.map_some, Option.some.injEq] at hi
  subst hi
  refine ⟨.pointer (some ⟨L.bb b, i + z.toNat * inf.size, none⟩), by simp only [SVr], fun w' _ => ?_⟩
  unfold execOp
  simp only [ho, h2, h3.1, Instr.indexAt, asIntOf, Instr.sureAddr, Sem.run_bind, Sem.run_pure, Result.andThen_ok, run_underlying hu, Sem.run_ite, if_pos (show 0 ≤ z ∧ z < (len : Int) from ⟨h0, h1⟩), sizeOf, typeInfo, run_program, hq, a5h]
structure OkRd (P : Program) (C : Ctx) (nt : Nat) (Q : Exit → St → Prop) (c : Code) (n : Nat) (σ : St) : Prop where
 run : ∀ L a w, Rel P C nt L σ a w → Code.rounds P c (QQ P C nt Q) n a w
theorem c3I (n : Nat) {c : Code} (h : OkRd P C nt Q c n σ) : Ok P C nt Q (.loop c) σ := Ok.mk fun L a w hr => wp_loop_rounds n (h.run L a w hr)
theorem a3Z {n : Nat} {c : Code} (h : Ok P C nt (a5f (OkRd P C nt Q c n) Q) c σ) : OkRd P C nt Q c (n + 1) σ := OkRd.mk fun L a w hr => by
 rw [rounds_succ]
 refine wp_mono (h.run L a w hr) ?_
 intro e a w hq
 cases e with
 | normal => obtain ⟨L, σ, h1, h2⟩ := hq; exact h2.run L a w h1
 | exit => exact hq
 | goto => exact hq
 | ret => exact hq
 | panic => exact hq
 | outgrown => exact hq
section
variable {tm : List (Nat × SV)} {bx : List (Nat × TypeId × List CV)} {ks : List (Nat × Option KC)} {oB oK : List Nat} {hd' : Nat → Bool} {listed : Array Bool} {fuel : Nat} {d : Nat} {v X : SV} {Ks Bs : List Nat}
theorem b8R (i : Nat) {R : St → Prop} (hi : all[i]? = some o) (ht : (Region.ready .any all listed == [i]) = true) (hG : Gd P C nt ⟨tm, bx, ks⟩ all o g) (hgt : g = true) (hp : EfG P C nt o ⟨tm, bx, ks⟩ R) (hb : (oB.all fun i => (look bx i).isSome) = true) (hk : (oK.all fun k => (lkk ⟨tm, bx, ks⟩ k).isSome) = true)
  (h : ∀ σ', R σ' → OpsD P C nt Q all oB oK hd' (listed.setIfInBounds i true) fuel σ') : OpsD P C nt Q all oB oK hd' listed (fuel + 1) ⟨tm, bx, ks⟩ := ⟨fun wb L a w hr hs hw hB hK => by
 have hG' := hG.run L a w hr
 refine b5j i hi ht fun K hK' => ?_
 rw [hG', if_pos hgt]
 refine hp.run L a w hr _ _ fun L' σ' a' w' h1 h2 h3 => hK' _ _ (fun _ => hs.chg h3.chg) ((h σ' h1).run wb L' _ w' h2 (hs.chg h3.chg) hw (fun j hj => ?_) (fun k hk' b hb' => ?_))
 ·obtain ⟨x, hx⟩ := c9h.1 (List.all_eq_true.1 hb j hj)
  rw [h3.box j x hx]; exact hB j hj
 ·obtain ⟨c, hc⟩ := c9h.1 (List.all_eq_true.1 hk k hk')
  rw [h3.key k c hc] at hb'; exact hK k hk' b hb'⟩
theorem b9u (i : Nat) {f : FuncId} {xs : List Operand} {ats : Array TypeId} {us : List SV} (hi : all[i]? = some o) (ht : (Region.ready .any all listed == [i]) = true) (hG : Gd P C nt ⟨tm, bx, ks⟩ all o g) (hgt : g = true) (hd : o.dst = some d) (ho : o.op = .call { callee := .value (.func f), args := xs.toArray, argTypes := ats })
  (hc : ∀ (args : Array Value) (w : World), (callFunc f args).run P w = .ok (.enter f args) w) (hf : PFn P f us X) (ha : a2b P C nt ⟨tm, bx, ks⟩ xs us) (hp : X.plain = true) (hn : Nat.blt d nt = true) (hb : (oB.all fun i => (look bx i).isSome) = true) (hk : (oK.all fun k => (lkk ⟨tm, bx, ks⟩ k).isSome) = true)
  (h : OpsD P C nt Q all oB oK hd' (listed.setIfInBounds i true) fuel ⟨(d, X) :: tm, bx, ks⟩) : OpsD P C nt Q all oB oK hd' listed (fuel + 1) ⟨tm, bx, ks⟩ :=
 b8R i hi ht hG hgt ((a7U ho hc hf hp ha).efg hd hn) hb hk fun σ' ⟨v, hv, e⟩ => by rw [e, hv]; exact h
theorem c1N (m i : Nat) {f : FuncId} {xs : List Operand} {ats : Array TypeId} {us : List SV} {kk : List (Nat × Option KC)} (hi : all[i]? = some o) (ht : (Region.ready .any all listed == [i]) = true) (hG : Gd P C nt ⟨tm, bx, ks⟩ all o g) (hgt : g = true) (hd : o.dst = some d) (ho : o.op = .call { callee := .value (.func f), args := xs.toArray, argTypes := ats })
  (hc : ∀ (args : Array Value) (w : World), (callFunc f args).run P w = .ok (.enter f args) w) (hf : KFn P f us v kk) (ha : a2b P C nt ⟨tm, bx, ks⟩ xs us) (hn : Nat.blt d nt = true) (hres : v.retOk = true) (hfree : (kk.all fun q => (lkk ⟨tm, bx, ks⟩ (m + q.1)).isNone) = true) (hb : (oB.all fun i => (look bx i).isSome) = true) (hk : (oK.all fun k => (lkk ⟨tm, bx, ks⟩ k).isSome) = true)
  (h : OpsD P C nt Q all oB oK hd' (listed.setIfInBounds i true) fuel ⟨(d, v.sh m) :: tm, bx, shK m kk ++ ks⟩) : OpsD P C nt Q all oB oK hd' listed (fuel + 1) ⟨tm, bx, ks⟩ :=
 b8R i hi ht hG hgt (a7c (ι := Unit) (v := fun _ => v) (kk := fun _ => kk) (p := fun _ => True) m ho hd hn hc hf.ok ha (fun u σ' h => ⟨(), h.1, h.2, trivial⟩) (fun _ => hres) (fun _ => hfree)) hb hk fun σ' ⟨_, _, e⟩ => by rw [e]; exact h
end
end
section
variable {C : Ctx} {nt : Nat} {x y : Operand} {σ : St} {ty0 : TypeId} {ps : String} {af : Array Edge} {dd : Option Tmp} {gg : Option (Nat × Bool)}
theorem qA {v : SV} (hx : Ev Tryz.prog C nt σ x v) : Pu Tryz.prog C nt ⟨dd, .move x, ty0, ps, af, gg⟩ σ v [] [] := a0M (.inl rfl) hx
theorem qB {v : SV} (hx : Ev Tryz.prog C nt σ x v) : Pu Tryz.prog C nt ⟨dd, .assign x, ty0, ps, af, gg⟩ σ v [] [] := a0M (.inr rfl) hx
theorem qC {s f off b i : Nat} (hx : Ev Tryz.prog C nt σ x (.box b i)) (h : look a4v.of (1000 * s + f) = some off) (hf : Nat.blt f 1000 = true) : Pu Tryz.prog C nt ⟨dd, .fieldAddr s x f, ty0, ps, af, gg⟩ σ (.box b (i + off)) [] [] := a5E hT rfl h hf hx
theorem qC2 {s f off : Nat} {K : List Nat} {ds : List DV} (hx : Ev Tryz.prog C nt σ x (.ref K ds)) (h : look a4v.of (1000 * s + f) = some off) (hf : Nat.blt f 1000 = true) : Pu Tryz.prog C nt ⟨dd, .fieldAddr s x f, ty0, ps, af, gg⟩ σ (.ref K (ds.drop off)) [] [] := a5Q hT rfl h hf hx
theorem qC3 {s f off k i : Nat} (hx : Ev Tryz.prog C nt σ x (.eptr k i)) (h : look a4v.of (1000 * s + f) = some off) (hf : Nat.blt f 1000 = true) : Pu Tryz.prog C nt ⟨dd, .fieldAddr s x f, ty0, ps, af, gg⟩ σ (.eptr k (i + off)) [] [] := c6Z hT rfl h hf hx
theorem qD {t n b i t' : Nat} {cs : List CV} (ht : look a4v.ag t = some n) (hx : Ev Tryz.prog C nt σ x (.box b i)) (hb : look σ.bx b = some (t', cs)) (hl : Nat.ble (i + n) cs.length = true) : Pu Tryz.prog C nt ⟨dd, .load t x, ty0, ps, af, gg⟩ σ (.agg (sub i n cs)) [] [b] := a4I hT rfl ht hx hb hl
theorem qD2 {t b i t' : Nat} {cs : List CV} {c : CV} {u : Unit} (ht : look a4v.on t = some u) (hx : Ev Tryz.prog C nt σ x (.box b i)) (hb : look σ.bx b = some (t', cs)) (hl : cs[i]? = some c) : Pu Tryz.prog C nt ⟨dd, .load t x, ty0, ps, af, gg⟩ σ (.one c) [] [b] := a4d hT rfl ht hx hb hl
theorem qD3 {t n : Nat} {K : List Nat} {ds : List DV} (ht : look a4v.ag t = some n) (hx : Ev Tryz.prog C nt σ x (.ref K ds)) (hl : Nat.ble n ds.length = true) : Pu Tryz.prog C nt ⟨dd, .load t x, ty0, ps, af, gg⟩ σ (.agg ((ds.take n).map (dvK K))) K [] := b0p hT rfl ht hx hl
theorem qD4 {t : Nat} {K : List Nat} {dv : DV} {ds : List DV} {u : Unit} (ht : look a4v.on t = some u) (hx : Ev Tryz.prog C nt σ x (.ref K ds)) (hd : ds[0]? = some dv) : Pu Tryz.prog C nt ⟨dd, .load t x, ty0, ps, af, gg⟩ σ (.one (dvK K dv)) K [] := b4f hT rfl ht hx hd
theorem qE {i : Nat} {ts : List (Bool × List CV)} {c : CV} (hx : Ev Tryz.prog C nt σ x (.tup ts)) (h : ts[i]? = some (false, [c])) : Pu Tryz.prog C nt ⟨dd, .extract x i, ty0, ps, af, gg⟩ σ (.one c) [] [] := a3c rfl hx h
theorem qE2 {i : Nat} {ts : List (Bool × List CV)} {cs : List CV} (hx : Ev Tryz.prog C nt σ x (.tup ts)) (h : ts[i]? = some (true, cs)) : Pu Tryz.prog C nt ⟨dd, .extract x i, ty0, ps, af, gg⟩ σ (.agg cs) [] [] := a3F rfl hx h
theorem qN {t : TypeId} {K : List Nat} {b : Bool} (hx : Ev Tryz.prog C nt σ x (.one (.dv K (.bool b)))) : Pu Tryz.prog C nt ⟨dd, .unOp .not t x, ty0, ps, af, gg⟩ σ (.one (.dv [] (.bool (!b)))) [] [] := c7u rfl hx
theorem qG {c : Operand} {K J : List Nat} {b b2 : Bool} (hc : Ev Tryz.prog C nt σ c (.one (.dv K (.bool b)))) (hy : b = true → Ev Tryz.prog C nt σ y (.one (.dv J (.bool b2)))) : Pu Tryz.prog C nt ⟨dd, .pick c y (.const (.bool false)), ty0, ps, af, gg⟩ σ (.one (.dv [] (.bool (b && b2)))) [] [] := c2a rfl hc hy
theorem qH {c : Operand} {K J : List Nat} {b b2 : Bool} (hc : Ev Tryz.prog C nt σ c (.one (.dv K (.bool b)))) (hy : b = false → Ev Tryz.prog C nt σ y (.one (.dv J (.bool b2)))) : Pu Tryz.prog C nt ⟨dd, .pick c (.const (.bool true)) y, ty0, ps, af, gg⟩ σ (.one (.dv [] (.bool (b || b2)))) [] [] := c8t rfl hc hy
theorem b8v {t ty : TypeId} {K J : List Nat} {k : IntKind} {m n : Int} (hx : Ev Tryz.prog C nt σ x (.one (.dv K (.int k m)))) (hy : Ev Tryz.prog C nt σ y (.one (.dv J (.int k n)))) : Pu Tryz.prog C nt ⟨dd, .binOp .lss t x y ty, ty0, ps, af, gg⟩ σ (.one (.dv [] (.bool (decide (m < n))))) [] [] := c2n rfl hx hy
theorem b9J {t ty : TypeId} {K J : List Nat} {k : IntKind} {m n : Int} (hx : Ev Tryz.prog C nt σ x (.one (.dv K (.int k m)))) (hy : Ev Tryz.prog C nt σ y (.one (.dv J (.int k n)))) : Pu Tryz.prog C nt ⟨dd, .binOp .leq t x y ty, ty0, ps, af, gg⟩ σ (.one (.dv [] (.bool (decide (m ≤ n))))) [] [] := c7R rfl hx hy
theorem b5R {t ty : TypeId} {K J : List Nat} {k : IntKind} {m n : Int} (hx : Ev Tryz.prog C nt σ x (.one (.dv K (.int k m)))) (hy : Ev Tryz.prog C nt σ y (.one (.dv J (.int k n)))) : Pu Tryz.prog C nt ⟨dd, .binOp .gtr t x y ty, ty0, ps, af, gg⟩ σ (.one (.dv [] (.bool (decide (n < m))))) [] [] := c2D rfl hx hy
theorem c0m {t ty : TypeId} {K J : List Nat} {k : IntKind} {m n : Int} (hx : Ev Tryz.prog C nt σ x (.one (.dv K (.int k m)))) (hy : Ev Tryz.prog C nt σ y (.one (.dv J (.int k n)))) : Pu Tryz.prog C nt ⟨dd, .binOp .geq t x y ty, ty0, ps, af, gg⟩ σ (.one (.dv [] (.bool (decide (n ≤ m))))) [] [] := c4C rfl hx hy
theorem c0y {t ty : TypeId} {K J : List Nat} {k : IntKind} {m n : Int} (hx : Ev Tryz.prog C nt σ x (.one (.dv K (.int k m)))) (hy : Ev Tryz.prog C nt σ y (.one (.dv J (.int k n)))) : Pu Tryz.prog C nt ⟨dd, .binOp .eql t x y ty, ty0, ps, af, gg⟩ σ (.one (.dv [] (.bool (decide (m = n))))) [] [] := c3L rfl hx hy
theorem b7x {t ty : TypeId} {K J : List Nat} {k : IntKind} {m n : Int} (hx : Ev Tryz.prog C nt σ x (.one (.dv K (.int k m)))) (hy : Ev Tryz.prog C nt σ y (.one (.dv J (.int k n)))) : Pu Tryz.prog C nt ⟨dd, .binOp .neq t x y ty, ty0, ps, af, gg⟩ σ (.one (.dv [] (.bool (!decide (m = n))))) [] [] := c6H rfl hx hy
theorem b6r {t ty : TypeId} {K J : List Nat} {m n : ByteArray} (hx : Ev Tryz.prog C nt σ x (.one (.dv K (.str m)))) (hy : Ev Tryz.prog C nt σ y (.one (.dv J (.str n)))) : Pu Tryz.prog C nt ⟨dd, .binOp .eql t x y ty, ty0, ps, af, gg⟩ σ (.one (.dv [] (.bool (sEq m n)))) [] [] := c8g rfl hx hy
theorem b7l {t ty : TypeId} {K J : List Nat} {m n : ByteArray} (hx : Ev Tryz.prog C nt σ x (.one (.dv K (.str m)))) (hy : Ev Tryz.prog C nt σ y (.one (.dv J (.str n)))) : Pu Tryz.prog C nt ⟨dd, .binOp .neq t x y ty, ty0, ps, af, gg⟩ σ (.one (.dv [] (.bool (!sEq m n)))) [] [] := c6S rfl hx hy
theorem b5T {t ty : TypeId} {K J : List Nat} {m n : ByteArray} (hx : Ev Tryz.prog C nt σ x (.one (.dv K (.str m)))) (hy : Ev Tryz.prog C nt σ y (.one (.dv J (.str n)))) : Pu Tryz.prog C nt ⟨dd, .binOp .lss t x y ty, ty0, ps, af, gg⟩ σ (.one (.dv [] (.bool (sLt m n)))) [] [] := c5B rfl hx hy
theorem b6B {t ty : TypeId} {K J : List Nat} {m n : ByteArray} (hx : Ev Tryz.prog C nt σ x (.one (.dv K (.str m)))) (hy : Ev Tryz.prog C nt σ y (.one (.dv J (.str n)))) : Pu Tryz.prog C nt ⟨dd, .binOp .leq t x y ty, ty0, ps, af, gg⟩ σ (.one (.dv [] (.bool (sLt m n || sEq m n)))) [] [] := c1i rfl hx hy
theorem b8z {t ty : TypeId} {K J : List Nat} {m n : ByteArray} (hx : Ev Tryz.prog C nt σ x (.one (.dv K (.str m)))) (hy : Ev Tryz.prog C nt σ y (.one (.dv J (.str n)))) : Pu Tryz.prog C nt ⟨dd, .binOp .gtr t x y ty, ty0, ps, af, gg⟩ σ (.one (.dv [] (.bool (!(sLt m n || sEq m n))))) [] [] := c9a rfl hx hy
theorem c0K {t ty : TypeId} {K J : List Nat} {m n : ByteArray} (hx : Ev Tryz.prog C nt σ x (.one (.dv K (.str m)))) (hy : Ev Tryz.prog C nt σ y (.one (.dv J (.str n)))) : Pu Tryz.prog C nt ⟨dd, .binOp .geq t x y ty, ty0, ps, af, gg⟩ σ (.one (.dv [] (.bool (!sLt m n)))) [] [] := c7k rfl hx hy
theorem b6S {t ty : TypeId} {K J : List Nat} {m n : Int} (hx : Ev Tryz.prog C nt σ x (.one (.dv K (.int .i64 m)))) (hy : Ev Tryz.prog C nt σ y (.one (.dv J (.int .i64 n)))) (h1 : -9223372036854775808 ≤ m + n) (h2 : m + n ≤ 9223372036854775807) : Pu Tryz.prog C nt ⟨dd, .binOp .add t x y ty, ty0, ps, af, gg⟩ σ (.one (.dv [] (.int .i64 (m + n)))) [] [] := a3M rfl hx hy (a2P h1 h2)
theorem b7P {t ty : TypeId} {K J : List Nat} {m n : Int} (hx : Ev Tryz.prog C nt σ x (.one (.dv K (.int .i64 m)))) (hy : Ev Tryz.prog C nt σ y (.one (.dv J (.int .i64 n)))) (h1 : -9223372036854775808 ≤ m - n) (h2 : m - n ≤ 9223372036854775807) : Pu Tryz.prog C nt ⟨dd, .binOp .sub t x y ty, ty0, ps, af, gg⟩ σ (.one (.dv [] (.int .i64 (m - n)))) [] [] := a9u rfl hx hy (a2P h1 h2)
theorem qL {t e' e sz n : Nat} {K : List Nat} {cs : List DV} (hx : Ev Tryz.prog C nt σ x (.one (.dv K (.sl e sz n cs)))) (h : look a4v.sl t = some e') : Pu Tryz.prog C nt ⟨dd, .call { callee := .builtin .len, args := #[x], argTypes := #[t] }, ty0, ps, af, gg⟩ σ (.one (.dv [] (.int .i64 (n : Int)))) [] [] := a6R hT rfl h hx
theorem qL2 {t : Nat} {u : Unit} {s : ByteArray} {K : List Nat} (hx : Ev Tryz.prog C nt σ x (.one (.dv K (.str s)))) (h : look a4v.st t = some u) : Pu Tryz.prog C nt ⟨dd, .call { callee := .builtin .len, args := #[x], argTypes := #[t] }, ty0, ps, af, gg⟩ σ (.one (.dv [] (.int .i64 (s.size : Int)))) [] [] := c0U hT rfl h hx
theorem qL3 {t e' : Nat} (hx : Ev Tryz.prog C nt σ x (.one .nil)) (h : look a4v.sl t = some e') : Pu Tryz.prog C nt ⟨dd, .call { callee := .builtin .len, args := #[x], argTypes := #[t] }, ty0, ps, af, gg⟩ σ (.one (.dv [] (.int .i64 0))) [] [] := c6l hT rfl h hx
end
section
variable {P : Program} {C : Ctx} {nt : Nat} {o : Oper} {x y : Operand} {T : TT} {Q : Exit → St → Prop} {N : St → Prop} {all : Array Oper} {rest : List Oper} {σ : St} {tm : List (Nat × SV)} {bx : List (Nat × TypeId × List CV)} {ks : List (Nat × Option KC)} {d t : Nat} {v X : SV} {ty : TypeId} {ps : String} {af : Array Edge} {Ks Bs oB oK : List Nat} {g : Bool} {listed : Array Bool} {fuel : Nat} {hd' : Nat → Bool}
theorem zp (hp : Pu P C nt o σ v Ks Bs := by
  first
  | (apply qA; (first | exact a0a rfl | exact a0i (a0j rfl) | exact a0J | exact a0B (a0A rfl) | exact a0L | exact a0P))
  | (apply qB; (first | exact a0a rfl | exact a0i (a0j rfl) | exact a0J | exact a0B (a0A rfl) | exact a0L | exact a0P))
  | (apply qC; (first | exact a0a rfl | exact a0i (a0j rfl) | exact a0J | exact a0B (a0A rfl) | exact a0L | exact a0P); exact rfl; exact rfl)
  | (apply qC2; (first | exact a0a rfl | exact a0i (a0j rfl) | exact a0J | exact a0B (a0A rfl) | exact a0L | exact a0P); exact rfl; exact rfl)
  | (apply qC3; (first | exact a0a rfl | exact a0i (a0j rfl) | exact a0J | exact a0B (a0A rfl) | exact a0L | exact a0P); exact rfl; exact rfl)
  | (apply qD; exact rfl; (first | exact a0a rfl | exact a0i (a0j rfl) | exact a0J | exact a0B (a0A rfl) | exact a0L | exact a0P); exact rfl; exact rfl)
  | (apply qD2; exact rfl; (first | exact a0a rfl | exact a0i (a0j rfl) | exact a0J | exact a0B (a0A rfl) | exact a0L | exact a0P); exact rfl; exact rfl)
  | (apply qD3; exact rfl; (first | exact a0a rfl | exact a0i (a0j rfl) | exact a0J | exact a0B (a0A rfl) | exact a0L | exact a0P); exact rfl)
  | (apply qD4; exact rfl; (first | exact a0a rfl | exact a0i (a0j rfl) | exact a0J | exact a0B (a0A rfl) | exact a0L | exact a0P); exact rfl)
  | (apply qE; (first | exact a0a rfl | exact a0i (a0j rfl) | exact a0J | exact a0B (a0A rfl) | exact a0L | exact a0P); exact rfl)
  | (apply qE2; (first | exact a0a rfl | exact a0i (a0j rfl) | exact a0J | exact a0B (a0A rfl) | exact a0L | exact a0P); exact rfl)
  | (apply qN; (first | exact a0a rfl | exact a0i (a0j rfl) | exact a0J | exact a0B (a0A rfl) | exact a0L | exact a0P))
  | (apply qG; (first | exact a0a rfl | exact a0i (a0j rfl) | exact a0J | exact a0B (a0A rfl) | exact a0L | exact a0P); (intro hb; first | (refine a0y rfl ?_; first | exact a6r hb | exact a6E hb) | exact a0a rfl | exact a0i (a0j rfl) | exact a0J | exact a0B (a0A rfl) | exact a0L | exact a0P))
  | (apply qH; (first | exact a0a rfl | exact a0i (a0j rfl) | exact a0J | exact a0B (a0A rfl) | exact a0L | exact a0P); (intro hb; first | (refine a0y rfl ?_; first | exact a6r hb | exact a6E hb) | exact a0a rfl | exact a0i (a0j rfl) | exact a0J | exact a0B (a0A rfl) | exact a0L | exact a0P))
  | (apply b8v; (first | exact a0a rfl | exact a0i (a0j rfl) | exact a0J | exact a0B (a0A rfl) | exact a0L | exact a0P); (first | exact a0a rfl | exact a0i (a0j rfl) | exact a0J | exact a0B (a0A rfl) | exact a0L | exact a0P))
  | (apply b9J; (first | exact a0a rfl | exact a0i (a0j rfl) | exact a0J | exact a0B (a0A rfl) | exact a0L | exact a0P); (first | exact a0a rfl | exact a0i (a0j rfl) | exact a0J | exact a0B (a0A rfl) | exact a0L | exact a0P))
  | (apply b5R; (first | exact a0a rfl | exact a0i (a0j rfl) | exact a0J | exact a0B (a0A rfl) | exact a0L | exact a0P); (first | exact a0a rfl | exact a0i (a0j rfl) | exact a0J | exact a0B (a0A rfl) | exact a0L | exact a0P))
  | (apply c0m; (first | exact a0a rfl | exact a0i (a0j rfl) | exact a0J | exact a0B (a0A rfl) | exact a0L | exact a0P); (first | exact a0a rfl | exact a0i (a0j rfl) | exact a0J | exact a0B (a0A rfl) | exact a0L | exact a0P))
  | (apply c0y; (first | exact a0a rfl | exact a0i (a0j rfl) | exact a0J | exact a0B (a0A rfl) | exact a0L | exact a0P); (first | exact a0a rfl | exact a0i (a0j rfl) | exact a0J | exact a0B (a0A rfl) | exact a0L | exact a0P))
  | (apply b7x; (first | exact a0a rfl | exact a0i (a0j rfl) | exact a0J | exact a0B (a0A rfl) | exact a0L | exact a0P); (first | exact a0a rfl | exact a0i (a0j rfl) | exact a0J | exact a0B (a0A rfl) | exact a0L | exact a0P))
  | (apply b6r; (first | exact a0a rfl | exact a0i (a0j rfl) | exact a0J | exact a0B (a0A rfl) | exact a0L | exact a0P); (first | exact a0a rfl | exact a0i (a0j rfl) | exact a0J | exact a0B (a0A rfl) | exact a0L | exact a0P))
  | (apply b7l; (first | exact a0a rfl | exact a0i (a0j rfl) | exact a0J | exact a0B (a0A rfl) | exact a0L | exact a0P); (first | exact a0a rfl | exact a0i (a0j rfl) | exact a0J | exact a0B (a0A rfl) | exact a0L | exact a0P))
  | (apply b5T; (first | exact a0a rfl | exact a0i (a0j rfl) | exact a0J | exact a0B (a0A rfl) | exact a0L | exact a0P); (first | exact a0a rfl | exact a0i (a0j rfl) | exact a0J | exact a0B (a0A rfl) | exact a0L | exact a0P))
  | (apply b6B; (first | exact a0a rfl | exact a0i (a0j rfl) | exact a0J | exact a0B (a0A rfl) | exact a0L | exact a0P); (first | exact a0a rfl | exact a0i (a0j rfl) | exact a0J | exact a0B (a0A rfl) | exact a0L | exact a0P))
  | (apply b8z; (first | exact a0a rfl | exact a0i (a0j rfl) | exact a0J | exact a0B (a0A rfl) | exact a0L | exact a0P); (first | exact a0a rfl | exact a0i (a0j rfl) | exact a0J | exact a0B (a0A rfl) | exact a0L | exact a0P))
  | (apply c0K; (first | exact a0a rfl | exact a0i (a0j rfl) | exact a0J | exact a0B (a0A rfl) | exact a0L | exact a0P); (first | exact a0a rfl | exact a0i (a0j rfl) | exact a0J | exact a0B (a0A rfl) | exact a0L | exact a0P))
  | (apply b6S; (first | exact a0a rfl | exact a0i (a0j rfl) | exact a0J | exact a0B (a0A rfl) | exact a0L | exact a0P); (first | exact a0a rfl | exact a0i (a0j rfl) | exact a0J | exact a0B (a0A rfl) | exact a0L | exact a0P); omega; omega)
  | (apply b7P; (first | exact a0a rfl | exact a0i (a0j rfl) | exact a0J | exact a0B (a0A rfl) | exact a0L | exact a0P); (first | exact a0a rfl | exact a0i (a0j rfl) | exact a0J | exact a0B (a0A rfl) | exact a0L | exact a0P); omega; omega)
  | (apply qL; (first | exact a0a rfl | exact a0i (a0j rfl) | exact a0J | exact a0B (a0A rfl) | exact a0L | exact a0P); exact rfl)
  | (apply qL2; (first | exact a0a rfl | exact a0i (a0j rfl) | exact a0J | exact a0B (a0A rfl) | exact a0L | exact a0P); exact rfl)
  | (apply qL3; (first | exact a0a rfl | exact a0i (a0j rfl) | exact a0J | exact a0B (a0A rfl) | exact a0L | exact a0P); exact rfl)
  | exact a5k hT rfl rfl rfl (by first | exact a0a rfl | exact a0i (a0j rfl) | exact a0J | exact a0B (a0A rfl) | exact a0L | exact a0P) (by first | exact a0a rfl | exact a0i (a0j rfl) | exact a0J | exact a0B (a0A rfl) | exact a0L | exact a0P) (fun _ => rfl) (by omega) (by omega)
  | exact b9Z hT rfl rfl (by first | exact a0a rfl | exact a0i (a0j rfl) | exact a0J | exact a0B (a0A rfl) | exact a0L | exact a0P) (by first | exact a0a rfl | exact a0i (a0j rfl) | exact a0J | exact a0B (a0A rfl) | exact a0L | exact a0P) (by omega) (by omega)) : Pu P C nt o σ v Ks Bs := hp
theorem zq {g : Bool} (hg : g = true) (hp : Pu P C nt o σ v Ks Bs := by
  first
  | (apply qA; (first | (refine a0y rfl ?_; first | exact hg | exact a0f hg | exact a0f (a0f hg) | exact a0f (a0f (a0f hg))) | exact a0a rfl | exact a0i (a0j rfl) | exact a0J | exact a0B (a0A rfl) | exact a0L | exact a0P))
  | (apply qB; (first | (refine a0y rfl ?_; first | exact hg | exact a0f hg | exact a0f (a0f hg) | exact a0f (a0f (a0f hg))) | exact a0a rfl | exact a0i (a0j rfl) | exact a0J | exact a0B (a0A rfl) | exact a0L | exact a0P))
  | (apply qC; (first | (refine a0y rfl ?_; first | exact hg | exact a0f hg | exact a0f (a0f hg) | exact a0f (a0f (a0f hg))) | exact a0a rfl | exact a0i (a0j rfl) | exact a0J | exact a0B (a0A rfl) | exact a0L | exact a0P); exact rfl; exact rfl)
  | (apply qC2; (first | (refine a0y rfl ?_; first | exact hg | exact a0f hg | exact a0f (a0f hg) | exact a0f (a0f (a0f hg))) | exact a0a rfl | exact a0i (a0j rfl) | exact a0J | exact a0B (a0A rfl) | exact a0L | exact a0P); exact rfl; exact rfl)
  | (apply qC3; (first | (refine a0y rfl ?_; first | exact hg | exact a0f hg | exact a0f (a0f hg) | exact a0f (a0f (a0f hg))) | exact a0a rfl | exact a0i (a0j rfl) | exact a0J | exact a0B (a0A rfl) | exact a0L | exact a0P); exact rfl; exact rfl)
  | (apply qD; exact rfl; (first | (refine a0y rfl ?_; first | exact hg | exact a0f hg | exact a0f (a0f hg) | exact a0f (a0f (a0f hg))) | exact a0a rfl | exact a0i (a0j rfl) | exact a0J | exact a0B (a0A rfl) | exact a0L | exact a0P); exact rfl; exact rfl)
  | (apply qD2; exact rfl; (first | (refine a0y rfl ?_; first | exact hg | exact a0f hg | exact a0f (a0f hg) | exact a0f (a0f (a0f hg))) | exact a0a rfl | exact a0i (a0j rfl) | exact a0J | exact a0B (a0A rfl) | exact a0L | exact a0P); exact rfl; exact rfl)
  | (apply qD3; exact rfl; (first | (refine a0y rfl ?_; first | exact hg | exact a0f hg | exact a0f (a0f hg) | exact a0f (a0f (a0f hg))) | exact a0a rfl | exact a0i (a0j rfl) | exact a0J | exact a0B (a0A rfl) | exact a0L | exact a0P); exact rfl)
  | (apply qD4; exact rfl; (first | (refine a0y rfl ?_; first | exact hg | exact a0f hg | exact a0f (a0f hg) | exact a0f (a0f (a0f hg))) | exact a0a rfl | exact a0i (a0j rfl) | exact a0J | exact a0B (a0A rfl) | exact a0L | exact a0P); exact rfl)
  | (apply qE; (first | (refine a0y rfl ?_; first | exact hg | exact a0f hg | exact a0f (a0f hg) | exact a0f (a0f (a0f hg))) | exact a0a rfl | exact a0i (a0j rfl) | exact a0J | exact a0B (a0A rfl) | exact a0L | exact a0P); exact rfl)
  | (apply qE2; (first | (refine a0y rfl ?_; first | exact hg | exact a0f hg | exact a0f (a0f hg) | exact a0f (a0f (a0f hg))) | exact a0a rfl | exact a0i (a0j rfl) | exact a0J | exact a0B (a0A rfl) | exact a0L | exact a0P); exact rfl)
  | (apply qN; (first | (refine a0y rfl ?_; first | exact hg | exact a0f hg | exact a0f (a0f hg) | exact a0f (a0f (a0f hg))) | exact a0a rfl | exact a0i (a0j rfl) | exact a0J | exact a0B (a0A rfl) | exact a0L | exact a0P))
  | (apply qG; (first | (refine a0y rfl ?_; first | exact hg | exact a0f hg | exact a0f (a0f hg) | exact a0f (a0f (a0f hg))) | exact a0a rfl | exact a0i (a0j rfl) | exact a0J | exact a0B (a0A rfl) | exact a0L | exact a0P); (intro hb; first | (refine a0y rfl ?_; first | exact a6r hb | exact a6E hb | exact a6C hg (a6r hb) | exact a6C hg (a6E hb) | exact a6C (a0f hg) (a6r hb) | exact a6C (a0f hg) (a6E hb) | exact hg | exact a0f hg) | exact a0a rfl | exact a0i (a0j rfl) | exact a0J | exact a0B (a0A rfl) | exact a0L | exact a0P))
  | (apply qH; (first | (refine a0y rfl ?_; first | exact hg | exact a0f hg | exact a0f (a0f hg) | exact a0f (a0f (a0f hg))) | exact a0a rfl | exact a0i (a0j rfl) | exact a0J | exact a0B (a0A rfl) | exact a0L | exact a0P); (intro hb; first | (refine a0y rfl ?_; first | exact a6r hb | exact a6E hb | exact a6C hg (a6r hb) | exact a6C hg (a6E hb) | exact a6C (a0f hg) (a6r hb) | exact a6C (a0f hg) (a6E hb) | exact hg | exact a0f hg) | exact a0a rfl | exact a0i (a0j rfl) | exact a0J | exact a0B (a0A rfl) | exact a0L | exact a0P))
  | (apply b8v; (first | (refine a0y rfl ?_; first | exact hg | exact a0f hg | exact a0f (a0f hg) | exact a0f (a0f (a0f hg))) | exact a0a rfl | exact a0i (a0j rfl) | exact a0J | exact a0B (a0A rfl) | exact a0L | exact a0P); (first | (refine a0y rfl ?_; first | exact hg | exact a0f hg | exact a0f (a0f hg) | exact a0f (a0f (a0f hg))) | exact a0a rfl | exact a0i (a0j rfl) | exact a0J | exact a0B (a0A rfl) | exact a0L | exact a0P))
  | (apply b9J; (first | (refine a0y rfl ?_; first | exact hg | exact a0f hg | exact a0f (a0f hg) | exact a0f (a0f (a0f hg))) | exact a0a rfl | exact a0i (a0j rfl) | exact a0J | exact a0B (a0A rfl) | exact a0L | exact a0P); (first | (refine a0y rfl ?_; first | exact hg | exact a0f hg | exact a0f (a0f hg) | exact a0f (a0f (a0f hg))) | exact a0a rfl | exact a0i (a0j rfl) | exact a0J | exact a0B (a0A rfl) | exact a0L | exact a0P))
  | (apply b5R; (first | (refine a0y rfl ?_; first | exact hg | exact a0f hg | exact a0f (a0f hg) | exact a0f (a0f (a0f hg))) | exact a0a rfl | exact a0i (a0j rfl) | exact a0J | exact a0B (a0A rfl) | exact a0L | exact a0P); (first | (refine a0y rfl ?_; first | exact hg | exact a0f hg | exact a0f (a0f hg) | exact a0f (a0f (a0f hg))) | exact a0a rfl | exact a0i (a0j rfl) | exact a0J | exact a0B (a0A rfl) | exact a0L | exact a0P))
  | (apply c0m; (first | (refine a0y rfl ?_; first | exact hg | exact a0f hg | exact a0f (a0f hg) | exact a0f (a0f (a0f hg))) | exact a0a rfl | exact a0i (a0j rfl) | exact a0J | exact a0B (a0A rfl) | exact a0L | exact a0P); (first | (refine a0y rfl ?_; first | exact hg | exact a0f hg | exact a0f (a0f hg) | exact a0f (a0f (a0f hg))) | exact a0a rfl | exact a0i (a0j rfl) | exact a0J | exact a0B (a0A rfl) | exact a0L | exact a0P))
  | (apply c0y; (first | (refine a0y rfl ?_; first | exact hg | exact a0f hg | exact a0f (a0f hg) | exact a0f (a0f (a0f hg))) | exact a0a rfl | exact a0i (a0j rfl) | exact a0J | exact a0B (a0A rfl) | exact a0L | exact a0P); (first | (refine a0y rfl ?_; first | exact hg | exact a0f hg | exact a0f (a0f hg) | exact a0f (a0f (a0f hg))) | exact a0a rfl | exact a0i (a0j rfl) | exact a0J | exact a0B (a0A rfl) | exact a0L | exact a0P))
  | (apply b7x; (first | (refine a0y rfl ?_; first | exact hg | exact a0f hg | exact a0f (a0f hg) | exact a0f (a0f (a0f hg))) | exact a0a rfl | exact a0i (a0j rfl) | exact a0J | exact a0B (a0A rfl) | exact a0L | exact a0P); (first | (refine a0y rfl ?_; first | exact hg | exact a0f hg | exact a0f (a0f hg) | exact a0f (a0f (a0f hg))) | exact a0a rfl | exact a0i (a0j rfl) | exact a0J | exact a0B (a0A rfl) | exact a0L | exact a0P))
  | (apply b6r; (first | (refine a0y rfl ?_; first | exact hg | exact a0f hg | exact a0f (a0f hg) | exact a0f (a0f (a0f hg))) | exact a0a rfl | exact a0i (a0j rfl) | exact a0J | exact a0B (a0A rfl) | exact a0L | exact a0P); (first | (refine a0y rfl ?_; first | exact hg | exact a0f hg | exact a0f (a0f hg) | exact a0f (a0f (a0f hg))) | exact a0a rfl | exact a0i (a0j rfl) | exact a0J | exact a0B (a0A rfl) | exact a0L | exact a0P))
  | (apply b7l; (first | (refine a0y rfl ?_; first | exact hg | exact a0f hg | exact a0f (a0f hg) | exact a0f (a0f (a0f hg))) | exact a0a rfl | exact a0i (a0j rfl) | exact a0J | exact a0B (a0A rfl) | exact a0L | exact a0P); (first | (refine a0y rfl ?_; first | exact hg | exact a0f hg | exact a0f (a0f hg) | exact a0f (a0f (a0f hg))) | exact a0a rfl | exact a0i (a0j rfl) | exact a0J | exact a0B (a0A rfl) | exact a0L | exact a0P))
  | (apply b5T; (first | (refine a0y rfl ?_; first | exact hg | exact a0f hg | exact a0f (a0f hg) | exact a0f (a0f (a0f hg))) | exact a0a rfl | exact a0i (a0j rfl) | exact a0J | exact a0B (a0A rfl) | exact a0L | exact a0P); (first | (refine a0y rfl ?_; first | exact hg | exact a0f hg | exact a0f (a0f hg) | exact a0f (a0f (a0f hg))) | exact a0a rfl | exact a0i (a0j rfl) | exact a0J | exact a0B (a0A rfl) | exact a0L | exact a0P))
  | (apply b6B; (first | (refine a0y rfl ?_; first | exact hg | exact a0f hg | exact a0f (a0f hg) | exact a0f (a0f (a0f hg))) | exact a0a rfl | exact a0i (a0j rfl) | exact a0J | exact a0B (a0A rfl) | exact a0L | exact a0P); (first | (refine a0y rfl ?_; first | exact hg | exact a0f hg | exact a0f (a0f hg) | exact a0f (a0f (a0f hg))) | exact a0a rfl | exact a0i (a0j rfl) | exact a0J | exact a0B (a0A rfl) | exact a0L | exact a0P))
  | (apply b8z; (first | (refine a0y rfl ?_; first | exact hg | exact a0f hg | exact a0f (a0f hg) | exact a0f (a0f (a0f hg))) | exact a0a rfl | exact a0i (a0j rfl) | exact a0J | exact a0B (a0A rfl) | exact a0L | exact a0P); (first | (refine a0y rfl ?_; first | exact hg | exact a0f hg | exact a0f (a0f hg) | exact a0f (a0f (a0f hg))) | exact a0a rfl | exact a0i (a0j rfl) | exact a0J | exact a0B (a0A rfl) | exact a0L | exact a0P))
  | (apply c0K; (first | (refine a0y rfl ?_; first | exact hg | exact a0f hg | exact a0f (a0f hg) | exact a0f (a0f (a0f hg))) | exact a0a rfl | exact a0i (a0j rfl) | exact a0J | exact a0B (a0A rfl) | exact a0L | exact a0P); (first | (refine a0y rfl ?_; first | exact hg | exact a0f hg | exact a0f (a0f hg) | exact a0f (a0f (a0f hg))) | exact a0a rfl | exact a0i (a0j rfl) | exact a0J | exact a0B (a0A rfl) | exact a0L | exact a0P))
  | (apply b6S; (first | (refine a0y rfl ?_; first | exact hg | exact a0f hg | exact a0f (a0f hg) | exact a0f (a0f (a0f hg))) | exact a0a rfl | exact a0i (a0j rfl) | exact a0J | exact a0B (a0A rfl) | exact a0L | exact a0P); (first | (refine a0y rfl ?_; first | exact hg | exact a0f hg | exact a0f (a0f hg) | exact a0f (a0f (a0f hg))) | exact a0a rfl | exact a0i (a0j rfl) | exact a0J | exact a0B (a0A rfl) | exact a0L | exact a0P); omega; omega)
  | (apply b7P; (first | (refine a0y rfl ?_; first | exact hg | exact a0f hg | exact a0f (a0f hg) | exact a0f (a0f (a0f hg))) | exact a0a rfl | exact a0i (a0j rfl) | exact a0J | exact a0B (a0A rfl) | exact a0L | exact a0P); (first | (refine a0y rfl ?_; first | exact hg | exact a0f hg | exact a0f (a0f hg) | exact a0f (a0f (a0f hg))) | exact a0a rfl | exact a0i (a0j rfl) | exact a0J | exact a0B (a0A rfl) | exact a0L | exact a0P); omega; omega)
  | (apply qL; (first | (refine a0y rfl ?_; first | exact hg | exact a0f hg | exact a0f (a0f hg) | exact a0f (a0f (a0f hg))) | exact a0a rfl | exact a0i (a0j rfl) | exact a0J | exact a0B (a0A rfl) | exact a0L | exact a0P); exact rfl)
  | (apply qL2; (first | (refine a0y rfl ?_; first | exact hg | exact a0f hg | exact a0f (a0f hg) | exact a0f (a0f (a0f hg))) | exact a0a rfl | exact a0i (a0j rfl) | exact a0J | exact a0B (a0A rfl) | exact a0L | exact a0P); exact rfl)
  | (apply qL3; (first | (refine a0y rfl ?_; first | exact hg | exact a0f hg | exact a0f (a0f hg) | exact a0f (a0f (a0f hg))) | exact a0a rfl | exact a0i (a0j rfl) | exact a0J | exact a0B (a0A rfl) | exact a0L | exact a0P); exact rfl)
  | exact a5k hT rfl rfl rfl (by first | (refine a0y rfl ?_; first | exact hg | exact a0f hg | exact a0f (a0f hg) | exact a0f (a0f (a0f hg))) | exact a0a rfl | exact a0i (a0j rfl) | exact a0J | exact a0B (a0A rfl) | exact a0L | exact a0P) (by first | (refine a0y rfl ?_; first | exact hg | exact a0f hg | exact a0f (a0f hg) | exact a0f (a0f (a0f hg))) | exact a0a rfl | exact a0i (a0j rfl) | exact a0J | exact a0B (a0A rfl) | exact a0L | exact a0P) (fun _ => rfl) (by first | omega | (simp only [Bool.and_eq_true, Bool.or_eq_true, Bool.or_eq_false_iff, Bool.and_eq_false_iff, Bool.not_eq_true', Bool.not_eq_false', beq_iff_eq, decide_eq_true_eq, decide_eq_false_iff_not] at hg; omega) | (have hh := c9f (a4D hg); omega) | (have hh := c9f (a4D (a8R hg)); omega)) (by first | omega | (simp only [Bool.and_eq_true, Bool.or_eq_true, Bool.or_eq_false_iff, Bool.and_eq_false_iff, Bool.not_eq_true', Bool.not_eq_false', beq_iff_eq, decide_eq_true_eq, decide_eq_false_iff_not] at hg; omega) | (have hh := c9f (a4D hg); omega) | (have hh := c9f (a4D (a8R hg)); omega))
  | exact b9Z hT rfl rfl (by first | (refine a0y rfl ?_; first | exact hg | exact a0f hg | exact a0f (a0f hg) | exact a0f (a0f (a0f hg))) | exact a0a rfl | exact a0i (a0j rfl) | exact a0J | exact a0B (a0A rfl) | exact a0L | exact a0P) (by first | (refine a0y rfl ?_; first | exact hg | exact a0f hg | exact a0f (a0f hg) | exact a0f (a0f (a0f hg))) | exact a0a rfl | exact a0i (a0j rfl) | exact a0J | exact a0B (a0A rfl) | exact a0L | exact a0P) (by first | omega | (simp only [Bool.and_eq_true, Bool.or_eq_true, Bool.or_eq_false_iff, Bool.and_eq_false_iff, Bool.not_eq_true', Bool.not_eq_false', beq_iff_eq, decide_eq_true_eq, decide_eq_false_iff_not] at hg; omega) | (have hh := c9f (a4D hg); omega) | (have hh := c9f (a4D (a8R hg)); omega)) (by first | omega | (simp only [Bool.and_eq_true, Bool.or_eq_true, Bool.or_eq_false_iff, Bool.and_eq_false_iff, Bool.not_eq_true', Bool.not_eq_false', beq_iff_eq, decide_eq_true_eq, decide_eq_false_iff_not] at hg; omega) | (have hh := c9f (a4D hg); omega) | (have hh := c9f (a4D (a8R hg)); omega))) : Pu P C nt o σ v Ks Bs := hp
theorem zr {xs : List Operand} {us : List SV} (ha : a2b P C nt σ xs us := by repeat' (first | exact a0q | refine a0g (by first | exact a0a rfl | exact a0i (a0j rfl) | exact a0J | exact a0B (a0A rfl) | exact a0L | exact a0P) ?_ ?_ | exact a0C a0c | exact a0C (a0X rfl rfl) | exact a0C (a5u rfl rfl) | exact a0C a8U | exact a0C a1M | refine a0t ?_ | exact a0r | refine a0d ?_ ?_ | exact a0c | exact a0X rfl rfl | exact a5u rfl rfl | exact a8U | exact a1M)) : a2b P C nt σ xs us := ha
theorem zO (h : Ops P C nt Q all rest ⟨(d, v) :: tm, bx, ks⟩) (hg : o.guard = none := by exact rfl) (hd : o.dst = some d := by exact rfl) (hp : Pu P C nt o ⟨tm, bx, ks⟩ v Ks Bs := by
  exact zp) (hk : (Nat.blt d nt && a1p ⟨tm, bx, ks⟩ v) = true := by exact rfl) : Ops P C nt Q all (o :: rest) ⟨tm, bx, ks⟩ := yO hg hd hp hk h
theorem zG (h : Ops P C nt Q all rest ⟨(d, .opt g v) :: tm, bx, ks⟩) (hd : o.dst = some d := by exact rfl) (hG : Gd P C nt ⟨tm, bx, ks⟩ all o g := by first | exact a1t rfl rfl rfl rfl rfl | exact a3Y rfl rfl rfl rfl rfl) (hp : g = true → Pu P C nt o ⟨tm, bx, ks⟩ v Ks Bs := by
  intro hg
  exact zq hg) (hk : (Nat.blt d nt && a1p ⟨tm, bx, ks⟩ v) = true := by exact rfl) : Ops P C nt Q all (o :: rest) ⟨tm, bx, ks⟩ := b0M hG hd hp (Bool.and_eq_true_iff.1 hk).1 (Bool.and_eq_true_iff.1 hk).2 h
theorem zD (i : Nat) (h : OpsD P C nt Q all oB oK hd' (listed.setIfInBounds i true) fuel ⟨(d, v) :: tm, bx, ks⟩) (hi : all[i]? = some o := by exact rfl) (hg : o.guard = none := by exact rfl) (hd : o.dst = some d := by exact rfl) (hp : Pu P C nt o ⟨tm, bx, ks⟩ v Ks Bs := by
  exact zp) (hk : (Nat.blt d nt && a1p ⟨tm, bx, ks⟩ v) = true := by exact rfl) (h1 : (Ks.all fun k => oK.contains k) = true := by exact rfl) (h2 : (Bs.all fun k => oB.contains k) = true := by exact rfl) (ht : a4G .any all hd' listed i = true := by kernel_rfl) : OpsD P C nt Q all oB oK hd' listed (fuel + 1) ⟨tm, bx, ks⟩ := a1q i hi ht hg hd hp h1 h2 (Bool.and_eq_true_iff.1 hk).1 (Bool.and_eq_true_iff.1 hk).2 h
theorem zDG (i : Nat) (h : OpsD P C nt Q all oB oK hd' (listed.setIfInBounds i true) fuel ⟨(d, .opt g v) :: tm, bx, ks⟩) (hi : all[i]? = some o := by exact rfl) (hd : o.dst = some d := by exact rfl) (hG : Gd P C nt ⟨tm, bx, ks⟩ all o g := by first | exact a1t rfl rfl rfl rfl rfl | exact a3Y rfl rfl rfl rfl rfl) (hp : g = true → Pu P C nt o ⟨tm, bx, ks⟩ v Ks Bs := by
  intro hg
  exact zq hg) (hk : (Nat.blt d nt && a1p ⟨tm, bx, ks⟩ v) = true := by exact rfl) (h1 : (Ks.all fun k => oK.contains k) = true := by exact rfl) (h2 : (Bs.all fun k => oB.contains k) = true := by exact rfl) (ht : a4G .any all hd' listed i = true := by kernel_rfl) : OpsD P C nt Q all oB oK hd' listed (fuel + 1) ⟨tm, bx, ks⟩ := a8t i hi ht hG hd hp h1 h2 (Bool.and_eq_true_iff.1 hk).1 (Bool.and_eq_true_iff.1 hk).2 h
theorem zDX (i : Nat) (h : OpsD P C nt Q all oB oK hd' (listed.setIfInBounds i true) fuel ⟨(d, v) :: tm, bx, ks⟩) (hi : all[i]? = some o := by exact rfl) (hg : o.guard = none := by exact rfl) (hd : o.dst = some d := by exact rfl) (hp : Pu P C nt o ⟨tm, bx, ks⟩ v Ks Bs := by
  exact zp) (hk : (Nat.blt d nt && a1p ⟨tm, bx, ks⟩ v) = true := by exact rfl) (hx : a7M o = true := by exact rfl) (ht : a7W .any all hd' listed i = true := by kernel_rfl) : OpsD P C nt Q all oB oK hd' listed (fuel + 1) ⟨tm, bx, ks⟩ := c6P i hi ht hx hg hd hp (Bool.and_eq_true_iff.1 hk).1 (Bool.and_eq_true_iff.1 hk).2 h
theorem zN {nK : List Nat} (i : Nat) (h : OpsN P C nt Q all oB oK nK hd' (listed.setIfInBounds i true) fuel ⟨(d, v) :: tm, bx, ks⟩) (hi : all[i]? = some o := by exact rfl) (hg : o.guard = none := by exact rfl) (hd : o.dst = some d := by exact rfl) (hp : Pu P C nt o ⟨tm, bx, ks⟩ v Ks Bs := by
  exact zp) (hk : (Nat.blt d nt && a1p ⟨tm, bx, ks⟩ v) = true := by exact rfl) (h1 : (Ks.all fun k => oK.contains k) = true := by exact rfl) (h2 : (Bs.all fun k => oB.contains k) = true := by exact rfl) (ht : a4G .any all hd' listed i = true := by kernel_rfl) : OpsN P C nt Q all oB oK nK hd' listed (fuel + 1) ⟨tm, bx, ks⟩ := a5r i hi ht hg hd hp h1 h2 (Bool.and_eq_true_iff.1 hk).1 (Bool.and_eq_true_iff.1 hk).2 h
theorem zC {f : FuncId} {xs : List Operand} {ats : Array TypeId} {us : List SV} (hc : ∀ (args : Array Value) (w : World), (callFunc f args).run P w = .ok (.enter f args) w) (h : Ops P C nt Q all rest ⟨(d, X) :: tm, bx, ks⟩) (hg : o.guard = none := by exact rfl) (hd : o.dst = some d := by exact rfl) (ho : o.op = .call { callee := .value (.func f), args := xs.toArray, argTypes := ats } := by exact rfl)
  (ha : a2b P C nt ⟨tm, bx, ks⟩ xs us := by exact zr) (hf : PFn P f us X) (hp : X.plain = true := by exact rfl) (hn : Nat.blt d nt = true := by exact rfl) : Ops P C nt Q all (o :: rest) ⟨tm, bx, ks⟩ := a3T hg hd ho hc hf ha hp hn h
theorem zK {f : FuncId} {xs : List Operand} {ats : Array TypeId} {us : List SV} {kk : List (Nat × Option KC)} (m : Nat) (hc : ∀ (args : Array Value) (w : World), (callFunc f args).run P w = .ok (.enter f args) w) (h : Ops P C nt Q all rest ⟨(d, v.sh m) :: tm, bx, shK m kk ++ ks⟩) (hg : o.guard = none := by exact rfl) (hd : o.dst = some d := by exact rfl) (ho : o.op = .call { callee := .value (.func f), args := xs.toArray, argTypes := ats } := by exact rfl)
  (ha : a2b P C nt ⟨tm, bx, ks⟩ xs us := by exact zr) (hf : KFn P f us v kk) (hn : Nat.blt d nt = true := by exact rfl) (hres : v.retOk = true := by exact rfl) (hfree : (kk.all fun q => (lkk ⟨tm, bx, ks⟩ (m + q.1)).isNone) = true := by exact rfl) : Ops P C nt Q all (o :: rest) ⟨tm, bx, ks⟩ := a2H m hg hd ho hc hf ha hn hres hfree h
theorem z {p q : Prop} (h : q) (s : q → p := by
  first
  | with_reducible exact yN
  | with_reducible exact yR
  | with_reducible exact a0u
  | with_reducible exact a2x
  | with_reducible exact c3W
  | with_reducible exact c1q
  | with_reducible exact c1P
  | with_reducible exact c2L
  | with_reducible exact c1l
  | with_reducible exact c8u
  | with_reducible exact c4G
  | with_reducible exact c3n
  | (with_reducible refine fun h => c4e ?_ h) <;> exact rfl
  | (with_reducible refine fun h => c8f ?_ h) <;> exact rfl
  | exact fun h => yA rfl rfl rfl h
  | exact fun h => yX rfl rfl rfl rfl rfl rfl h
  | exact fun h => c1a hT rfl rfl rfl rfl rfl rfl h
  | exact fun h => yS hT rfl rfl rfl rfl rfl rfl rfl rfl h
  | exact fun h => zO h
  | exact fun h => zG h
  | exact yN
  | exact fun h => a1r (a0l rfl) (eqB h)
  | exact fun h => a1r (a0l rfl) (eqI h)
  | exact fun h => a1r (a0l rfl) (eqS h)
  | exact fun h => b4K (a0l rfl) (eqB h)
  | exact fun h => b4K (a0l rfl) (eqI h)
  | exact fun h => b4K (a0l rfl) (eqS h)) : p := s h
end
theorem b3h (n : Nat) : 0 < (uv n).length := by
 by_cases h : n < 128
 ·rw [a5x h]; simp
 ·rw [a5R h]; simp
theorem c7h (f k acc n : Nat) (r : List UInt8) (h : n < 128) (hz : 0 < k → 0 < n) (hm : acc + n * 2 ^ (7 * k) ≤ 1000000000000) :
  rdF (f + 1) k acc (UInt8.ofNat n :: r) = some (acc + n * 2 ^ (7 * k), k + 1) := by
 have h1 : (UInt8.ofNat n).toNat = n := by simp; omega
 have h2 : n % 128 = n := Nat.mod_eq_of_lt h
 unfold rdF
 rw [h1, h2, if_pos h, if_neg (by omega)]
theorem b7f (f k acc n : Nat) (r : List UInt8) : rdF (f + 1) k acc (UInt8.ofNat (n % 128 + 128) :: r) = rdF f (k + 1) (acc + (n % 128) * 2 ^ (7 * k)) r := by
 have h1 : (UInt8.ofNat (n % 128 + 128)).toNat = n % 128 + 128 := by simp; omega
 conv => lhs; unfold rdF
 rw [h1, if_neg (by omega), show (n % 128 + 128) % 128 = n % 128 by omega]
theorem b6M (n k : Nat) : n * 2 ^ (7 * k) = (n % 128) * 2 ^ (7 * k) + (n / 128) * 2 ^ (7 * (k + 1)) := by
 rw [show 7 * (k + 1) = 7 + 7 * k by omega, Nat.pow_add, ← Nat.mul_assoc, ← Nat.add_mul]
 congr 1
 omega
theorem b6I : ∀ (f k acc n : Nat) (r : List UInt8), (uv n).length ≤ f → (0 < k → 0 < n) → acc + n * 2 ^ (7 * k) ≤ 1000000000000 →
  rdF f k acc (uv n ++ r) = some (acc + n * 2 ^ (7 * k), k + (uv n).length)
 | 0, k, acc, n, r, h, _, _ => by have := b3h n; omega
 | f + 1, k, acc, n, r, h, hz, hm => by
  by_cases h1 : n < 128
  ·rw [a5x h1, List.singleton_append, c7h f k acc n r h1 hz hm]; rfl
  ·rw [a5R h1] at h ⊢
   rw [List.cons_append, b7f, b6I f (k + 1) _ (n / 128) r (by simpa using h) (by omega) (by rw [Nat.add_assoc, ← b6M]; exact hm), Nat.add_assoc, ← b6M]
   simp only [List.length_cons, Option.some.injEq, Prod.mk.injEq, true_and]
   omega
theorem b8f : ∀ (f k acc n j : Nat), j < (uv n).length → rdF f k acc ((uv n).take j) = none
 | 0, _, _, _, _, _ => rfl
 | f + 1, k, acc, n, 0, _ => by simp [rdF]
 | f + 1, k, acc, n, j + 1, h => by
  by_cases h1 : n < 128
  ·rw [a5x h1] at h; simp at h
  ·rw [a5R h1] at h ⊢
   rw [List.take_succ_cons, b7f]
   exact b8f f (k + 1) _ (n / 128) j (by simpa using h)
theorem b4d (b r : List UInt8) (n : Nat) (hn : n ≤ 1000000000000) : rdU (b ++ uv n ++ r) b.length = some (n, (uv n).length) := by
 have h0 := b3h n
 unfold rdU
 rw [if_pos (by simp; omega), Int.toNat_natCast, List.append_assoc, List.drop_left, b6I 6 0 0 n r (b7u n hn) (by omega) (by simpa using hn)]
 simp
theorem b8D (b : List UInt8) (n j : Nat) (h : j < (uv n).length) : rdU (b ++ (uv n).take j) b.length = none := by
 unfold rdU
 split
 ·rw [Int.toNat_natCast, List.drop_left]; exact b8f 6 0 0 n j h
 ·rfl
def ent (v : Nat) (d : List UInt8) : List UInt8 := uv d.length ++ d ++ uv (a2o v d).toNat
theorem b8W (v : Int) (d : List UInt8) : 0 ≤ a2o v d ∧ (a2o v d).toNat ≤ 1000000000000 := by
 have h := b4T ([101, v] ++ b2i d.length d)
 have h2 : 0 ≤ a2o v d ∧ a2o v d < 2147483647 := h
 omega
theorem c4L (b d : List UInt8) (v : Nat) (hd : d.length ≤ 4000) : a6i b v d = b ++ ent v d := by
 have h := b8W v d
 unfold a6i a5j ent
 rw [b4A (b := a4R b d.length ++ d) (n := a2o v d) (by omega), b4A (b := b) (n := (d.length : Int)) (by omega)]
 simp
theorem b5Y (b d r : List UInt8) (hd : d.length ≤ 4000) : rdB (b ++ uv d.length ++ d ++ r) b.length 4000 = some (d, (b ++ uv d.length ++ d).length) := by
 have hu := b4d b (d ++ r) d.length (by omega)
 unfold rdB
 rw [List.append_assoc (b ++ uv d.length), hu]
 simp only [Int.toNat_natCast]
 rw [if_pos (by simp; omega), ← List.append_assoc (b ++ uv d.length), List.append_assoc (b ++ uv d.length), show b.length + (uv d.length).length = (b ++ uv d.length).length by simp, List.drop_left]
 simp
 omega
theorem c4B (b d : List UInt8) (v j f : Nat) (acc : List (List UInt8)) (hd : d.length ≤ 4000) (hj : j < (ent v d).length) : a2X (b ++ (ent v d).take j) f b.length acc = (acc, b.length) := by
 cases f with
 | zero => rfl
 | succ f =>
  unfold ent at hj ⊢
  simp only [c9i] at hj
  by_cases h1 : j < (uv d.length).length
  ·have hc : (uv d.length ++ d ++ uv (a2o v d).toNat).take j = (uv d.length).take j := by
    rw [List.append_assoc, List.take_append_of_le_length (by omega)]
   rw [hc]
   refine a7p ?_
   unfold rdB
   rw [b8D b d.length j h1]
  ·by_cases h2 : j < (uv d.length).length + d.length
   ·have hc : (uv d.length ++ d ++ uv (a2o v d).toNat).take j = uv d.length ++ d.take (j - (uv d.length).length) := by
     rw [List.take_append_of_le_length (by simp; omega), List.take_append, List.take_of_length_le (by omega)]
    rw [hc, ← List.append_assoc]
    refine a7p ?_
    unfold rdB
    rw [b4d b _ d.length (by omega)]
    simp only [Int.toNat_natCast]
    rw [if_neg]
    simp
    omega
   ·have hc : (uv d.length ++ d ++ uv (a2o v d).toNat).take j = uv d.length ++ d ++ (uv (a2o v d).toNat).take (j - (uv d.length ++ d).length) := by
     rw [List.take_append, List.take_of_length_le (by simp; omega)]
    rw [hc, ← List.append_assoc, ← List.append_assoc]
    refine a9a (b5Y b d _ hd) ?_
    exact b8D (b ++ uv d.length ++ d) _ _ (by simp; omega)
theorem c3Q (b d r : List UInt8) (f : Nat) (acc : List (List UInt8)) (hd : d.length ≤ 4000) : a2X (b ++ ent acc.length d ++ r) (f + 1) b.length acc = a2X (b ++ ent acc.length d ++ r) f (b ++ ent acc.length d).length (acc ++ [d]) := by
 have h := b8W acc.length d
 have hb : rdB (b ++ ent acc.length d ++ r) b.length 4000 = some (d, (b ++ uv d.length ++ d).length) := by
  have := b5Y b d (uv (a2o acc.length d).toNat ++ r) hd
  unfold ent
  simpa only [List.append_assoc] using this
 have hu : rdU (b ++ ent acc.length d ++ r) (b ++ uv d.length ++ d).length = some ((a2o acc.length d).toNat, (uv (a2o acc.length d).toNat).length) := by
  have := b4d (b ++ uv d.length ++ d) r (a2o acc.length d).toNat h.2
  unfold ent
  simpa only [List.append_assoc] using this
 rw [a9Z hb hu (by omega)]
 congr 1
 unfold ent
 simp
 omega
def a0U : Nat → List (List UInt8) → List UInt8
 | _, [] => []
 | v, d :: r => ent v d ++ a0U (v + 1) r
theorem b5a : ∀ (v : Nat) (ds : List (List UInt8)) (d : List UInt8), a0U v (ds ++ [d]) = a0U v ds ++ ent (v + ds.length) d
 | v, [], d => by simp [a0U]
 | v, e :: ds, d => by simp only [List.cons_append, a0U, b5a (v + 1) ds d, List.append_assoc, List.length_cons]; rw [show v + 1 + ds.length = v + (ds.length + 1) by omega]
theorem b3J : ∀ (ds : List (List UInt8)) (b r : List UInt8) (f : Nat) (acc : List (List UInt8)), (∀ d ∈ ds, d.length ≤ 4000) →
  a2X (b ++ a0U acc.length ds ++ r) (f + ds.length) b.length acc = a2X (b ++ a0U acc.length ds ++ r) f (b ++ a0U acc.length ds).length (acc ++ ds)
 | [], b, r, f, acc, _ => by simp [a0U]
 | d :: ds, b, r, f, acc, h => by
  have h1 := c3Q b d (a0U (acc.length + 1) ds ++ r) (f + ds.length) acc (h d (by simp))
  have h2 := b3J ds (b ++ ent acc.length d) r f (acc ++ [d]) (fun x hx => h x (by simp [hx]))
  rw [c9i, List.length_singleton] at h2
  simp only [a0U, List.length_cons]
  rw [show f + (ds.length + 1) = f + ds.length + 1 by omega]
  simp only [List.append_assoc, List.singleton_append, c9i] at h1 h2 ⊢
  rw [h1, h2]
theorem c8x (bs : List UInt8) (f : Nat) (acc : List (List UInt8)) : a2X bs f bs.length acc = (acc, bs.length) := by
 cases f with
 | zero => rfl
 | succ f => exact a7p (by unfold rdB; rw [show rdU bs bs.length = none from if_neg (by omega)])
theorem c4s (v : Nat) (d : List UInt8) : 0 < (ent v d).length := by
 have := b3h d.length
 unfold ent
 simp only [c9i]
 omega
theorem b4R : ∀ (v : Nat) (ds : List (List UInt8)), ds.length ≤ (a0U v ds).length
 | _, [] => by simp
 | v, d :: ds => by
  have h1 := b4R (v + 1) ds
  have h2 := c4s v d
  simp only [a0U, c9i, List.length_cons]
  omega
theorem b6b (ds : List (List UInt8)) (h : ∀ d ∈ ds, d.length ≤ 4000) : rl (a0U 0 ds) = (ds, (a0U 0 ds).length) := by
 have h1 := b3J ds [] [] ((a0U 0 ds).length + 1 - ds.length) [] h
 have h2 := b4R 0 ds
 simp only [List.nil_append, List.append_nil, List.length_nil] at h1
 unfold rl
 rw [show (a0U 0 ds).length + 1 - ds.length + ds.length = (a0U 0 ds).length + 1 by omega] at h1
 rw [h1, c8x]
theorem c7m (ds : List (List UInt8)) (d : List UInt8) (j : Nat) (h : ∀ d ∈ ds, d.length ≤ 4000) (hd : d.length ≤ 4000) (hj : j < (ent ds.length d).length) :
  rl (a0U 0 ds ++ (ent ds.length d).take j) = (ds, (a0U 0 ds).length) := by
 have h1 := b3J ds [] ((ent ds.length d).take j) ((a0U 0 ds ++ (ent ds.length d).take j).length + 1 - ds.length) [] h
 have h2 := b4R 0 ds
 simp only [List.nil_append, List.length_nil] at h1
 unfold rl
 rw [show (a0U 0 ds ++ (ent ds.length d).take j).length + 1 - ds.length + ds.length = (a0U 0 ds ++ (ent ds.length d).take j).length + 1 by simp; omega] at h1
 rw [h1, c4B _ d ds.length j _ _ hd hj]
theorem b3W : ∀ (a b : List (List UInt8)) (v : Nat), a0U v (a ++ b) = a0U v a ++ a0U (v + a.length) b
 | [], b, v => by simp [a0U]
 | d :: a, b, v => by
  simp only [List.cons_append, a0U, b3W a b (v + 1), List.append_assoc, List.length_cons]
  rw [show v + 1 + a.length = v + (a.length + 1) by omega]
theorem b6K (ds : List (List UInt8)) (m : Nat) : (a0U 0 ds).take (a0U 0 (ds.take m)).length = a0U 0 (ds.take m) := by
 have h := b3W (ds.take m) (ds.drop m) 0
 rw [List.take_append_drop] at h
 rw [h, List.take_left]
theorem c3a (ds : List (List UInt8)) (m cut : Nat) (h : ∀ d ∈ ds, d.length ≤ 4000) (hm : m ≤ ds.length) (hc : (a0U 0 (ds.take m)).length ≤ cut)
  (hx : (m = ds.length ∧ cut ≤ (a0U 0 ds).length) ∨ (m < ds.length ∧ cut < (a0U 0 (ds.take (m + 1))).length)) : rl ((a0U 0 ds).take cut) = (ds.take m, (a0U 0 (ds.take m)).length) := by
 rcases hx with ⟨h1, h2⟩ | ⟨h1, h2⟩
 ·subst h1
  rw [List.take_of_length_le (Nat.le_refl _)] at hc ⊢
  rw [List.take_of_length_le (by omega)]
  exact b6b ds h
 ·have hlm : (ds.take m).length = m := by rw [c9j]; omega
  have e1 := b3W (ds.take m) (ds.drop m) 0
  rw [List.take_append_drop, hlm, Nat.zero_add, List.drop_eq_getElem_cons h1] at e1
  simp only [a0U] at e1
  have e2 := b5a 0 (ds.take m) ds[m]
  rw [hlm, Nat.zero_add, List.take_append_getElem h1] at e2
  rw [e2, c9i] at h2
  have e3 : (a0U 0 ds).take cut = a0U 0 (ds.take m) ++ (ent m ds[m]).take (cut - (a0U 0 (ds.take m)).length) := by
   rw [e1, List.take_append, List.take_of_length_le hc, List.take_append_of_le_length (by omega)]
  rw [e3]
  have e4 := c7m (ds.take m) ds[m] (cut - (a0U 0 (ds.take m)).length) (fun d hd => h d (List.mem_of_mem_take hd)) (h _ (List.getElem_mem h1)) (by rw [hlm]; omega)
  rw [hlm] at e4
  exact e4
def a5Z (b : List UInt8) (v : Int) (ds : List UInt8) : Bool := decide (¬ a5b b v ds)
theorem c4w (b : List UInt8) (v : Int) (ds : List UInt8) : a8O b v ds = [.bool (a5Z b v ds)] := by
 unfold a8O a5Z
 split
 ·rename_i h; simp [h]
 ·rename_i h; simp [h]
theorem c8D {b ds : List UInt8} {v : Int} (hb : b.length ≤ 1048576) (hd : ds.length ≤ 1048576) (hv : 0 ≤ v) (hv2 : v ≤ 1048576) : KFn Tryz.prog 22 [.one (.dv [] (a0m (b))), .one (.dv [] (.int .i64 (v))), .one (.dv [] (a0m (ds)))] (.tup [(false, [.key 0]), (false, [.dv [] (.bool (a5Z b v ds))])]) [(0, some (a0b false (a0m (a5v b v ds))))] := by
 refine b3F (ts := [(.bool (a5Z b v ds), .bool (a5Z b v ds))]) (fun t ht ok w => ?_) (fun w vals hl h => ?_)
 ·simp only [List.mem_cons, List.not_mem_nil, or_false] at ht
  subst ht
  exact b2R
 ·obtain ⟨A, c, h1, hr⟩ := a7e (i := 0) (bs := b) h rfl
  have h3 := b0X (i := 1) (n := v) h rfl
  obtain ⟨B, d, h5, hr2⟩ := a7e (i := 2) (bs := ds) h rfl
  obtain rfl : vals = [.slice A b.length c, .int .i64 v, .slice B ds.length d] := by
   match vals, hl with
   | [x, y, z], _ => simp at h1 h3 h5; rw [h1, h3, h5]
  refine (c2f w b ds v A b.length c B ds.length d hr hr2 (by omega) (by omega) (by omega) (by omega)).mono ?_
  rintro e w' ⟨A1, n1, c1, fp, rfl, ho, hf, hc⟩
  exact ⟨_, fp, by rw [c4w]; rfl, b2d ho, hf, hc⟩
section
variable {P : Program} {C : Ctx} {nt : Nat} {σ : St} {L : Lyt} {a : Act} {w : World} {o : Oper} {x y : Operand} {T : TT}
theorem Rel.alsoBh (h : Rel P C nt L σ a w) {b t : Nat} {cs cs' : List CV} (hb : look σ.bx b = some (t, cs)) (hv : ∀ vs : List Value, w.heap[L.bb b]? = some (.cells vs.toArray t (0, 0)) → CVL C L w cs vs → CVL C L w cs' vs) (hk : ∀ k ∈ cs'.flatMap CV.keys, (lkk σ k).isSome = true) : Rel P C nt L ⟨σ.tm, (b, t, cs') :: σ.bx, σ.ks⟩ a w :=
 have hx : ∀ i x, look ((b, t, cs') :: σ.bx) i = some x → ∃ y, look σ.bx i = some y := fun i x hx => by
  simp only [a0W] at hx
  split at hx
  ·rename_i e; exact ⟨_, by rw [e]; exact hb⟩
  ·exact ⟨_, hx⟩
 { h with
  tm := h.tm
  bx := fun i t' cs'' hx => by
   simp only [a0W] at hx
   split at hx
   ·rename_i e
    simp only [Option.some.injEq, Prod.mk.injEq] at hx
    obtain ⟨rfl, rfl⟩ := hx
    obtain ⟨vs, h1, h2⟩ := h.bx b _ _ hb
    exact ⟨vs, by rw [e]; exact h1, hv vs h1 h2⟩
   ·exact h.bx i t' cs'' hx
  ks := h.ks
  b1 := fun i x h' => by obtain ⟨y, hy⟩ := hx i x h'; exact h.b1 i y hy
  k1 := h.k1
  kn := h.kn
  bb := fun i j x y h1 h2 => by
   obtain ⟨x', h1'⟩ := hx i x h1
   obtain ⟨y', h2'⟩ := hx j y h2
   exact h.bb i j x' y' h1' h2'
  bk := fun i k x c h' hc => by obtain ⟨y, hy⟩ := hx i x h'; exact h.bk i k y c hy hc
  kk := h.kk
  lk := fun k hm => by
   simp only [St.tk, List.flatMap_cons, List.mem_append] at hm
   rcases hm with hm | hm | hm
   ·exact h.lk k (by simp only [St.tk, List.mem_append]; exact .inl hm)
   ·exact hk k hm
   ·exact h.lk k (by simp only [St.tk, List.mem_append]; exact .inr hm)
  lb := fun b' hm => by
   have := h.lb b' hm
   simp only [a0W]
   split
   ·rfl
   ·exact this }
theorem b7B {b i t : Nat} {cs : List CV} {K : List Nat} {d : DV} (K' : List Nat) (hb : look σ.bx b = some (t, cs)) (hi : cs[i]? = some (.dv K d)) (hK : (K.all fun k => K'.contains k) = true) (hl : ((cs.set i (.dv K' d)).flatMap CV.keys).all (fun j => (lkk σ j).isSome) = true) :
  Weak P C nt σ ⟨σ.tm, (b, t, cs.set i (.dv K' d)) :: σ.bx, σ.ks⟩ := Weak.mk fun L a w hr => by
 refine ⟨_, hr.alsoB (b := b) hb (fun vs hv => b1C hi (fun v hv => ?_) hv) (fun j hj => List.all_eq_true.1 hl j hj)⟩
 simp only [CVr] at hv ⊢
 refine a5y (fun g _ hg => ⟨?_, rfl⟩) d v hv
 rcases hg with hg | ⟨k, hk, hg⟩
 ·exact .inl hg
 ·exact .inr ⟨k, List.contains_iff_mem.1 (List.all_eq_true.1 hK k hk), hg⟩
theorem c3q (hT : TTOk P T) {t e sz by_ d k : Nat} {zc : List CV} {v : SV} {p : Bool × List CV} {ds : List DV} {js : List Nat} {b t' i1 i2 j1 j2 : Nat} {cs : List CV} {c1 c2 : KC} (ho : o.op = .buildSlice t 1 #[(0, x)]) (hd : o.dst = some d) (hn : Nat.blt d nt = true) (ht : look T.sl t = some e) (he : look T.el e = some (sz, by_, zc)) (hl0 : zc.length = sz) (hsz : Nat.blt 0 sz = true) (hsm : Nat.ble sz 16777216 = true)
  (hx : Ev P C nt σ x v) (hp : v.part = some p) (hkv : a1p σ v = true) (how : a3z σ p.2 ds js) (hnj : js.Nodup) (hkj : k ∉ js) (hl : p.2.length = sz) (hk : lkk σ k = none)
  (hb : look σ.bx b = some (t', cs)) (hi1 : cs[i1]? = some (.key j1)) (hi2 : cs[i2]? = some (.key j2)) (hm1 : js.contains j1 = true) (hm2 : js.contains j2 = true) (hk1 : lkk σ j1 = some c1) (hk2 : lkk σ j2 = some c2)
  (hlive : ((((cs.map (CV.kill (k :: js) (k :: js))).set i1 (.dv [k] (.sl c1.e c1.sz c1.n c1.cs))).set i2 (.dv [k] (.sl c2.e c2.sz c2.n c2.cs))).flatMap CV.keys).all (fun j => (lkk (St.mut { σ with ks := (k, some ⟨false, e, sz, 0, []⟩) :: σ.ks } k js false ⟨false, e, sz, 1, ds⟩) j).isSome) = true) :
  Ef P C nt o σ (fun σ' => σ' = (St.put ⟨(St.mut { σ with ks := (k, some ⟨false, e, sz, 0, []⟩) :: σ.ks } k js false ⟨false, e, sz, 1, ds⟩).tm, (b, t', (((cs.map (CV.kill (k :: js) (k :: js))).set i1 (.dv [k] (.sl c1.e c1.sz c1.n c1.cs))).set i2 (.dv [k] (.sl c2.e c2.sz c2.n c2.cs)))) :: (St.mut { σ with ks := (k, some ⟨false, e, sz, 0, []⟩) :: σ.ks } k js false ⟨false, e, sz, 1, ds⟩).bx, (St.mut { σ with ks := (k, some ⟨false, e, sz, 0, []⟩) :: σ.ks } k js false ⟨false, e, sz, 1, ds⟩).ks⟩ d (.one (.key k)))) := Ef.mk fun L a w hr K Q hK => by
 have hpos : 0 < sz := by simpa [Nat.blt_eq] using hsz
 obtain ⟨us, h1, h2, h3⟩ := a4y hr hp hkv (hx.run L a w hr)
 have hus : us.length = sz := by rw [a2S h2]; exact hl
 obtain ⟨o1, o2, o3⟩ := a8n hr how h2
 have hchg : Chg [] w (w.alloc (.cells us.toArray e)) := (Chg.refl [] w).alloc _
 have hr1 := hr.newkey (k := k) (c := ⟨false, e, sz, 0, []⟩) (v := .slice none 0 0) (f := []) hk (a6U w e sz hpos) rfl (by simp) (by simp) (by simp) (by simp)
 have hlj : ∀ j ∈ js, (lkk { σ with ks := (k, some ⟨false, e, sz, 0, []⟩) :: σ.ks } j).isSome = true := fun j hj => by
  have hjk : j ≠ k := fun e' => hkj (by rw [← e']; exact hj)
  have := o2 j hj
  simp only [lkk, a0W, if_neg hjk] at this ⊢
  exact this
 have hlt : ∀ b ∈ js.flatMap L.fp, b < w.heap.size := a4E _ _ _ o1
 have o1' : a0Q (w.alloc (.cells us.toArray e)) ds us (js.flatMap L.fp) := a2V _ _ _ o1 (fun b hb => hchg.block b (hlt b hb) (by simp))
 have hset := hr1.setkey (k := k) (c := ⟨false, e, sz, 0, []⟩) (c' := ⟨false, e, sz, 1, ds⟩) (js := js) (same := false) (w' := w.alloc (.cells us.toArray e)) (v' := .slice (some ⟨w.heap.size, 0, none⟩) 1 1) (f' := w.heap.size :: js.flatMap L.fp)
  (by simp [lkk, a0W]) hkj (by simpa using hchg)
  (by
   unfold Own
   refine ⟨us, js.flatMap L.fp, rfl, hpos, by rw [o3, hl, Nat.one_mul], a3I (hT.lt e _ he) ⟨by rw [hus, Nat.one_mul], .inr ⟨w.heap.size, 1, us.toArray, rfl, Nat.zero_le _, a8E w _, Nat.le_refl _, by simp [maxLen], by simp [hus], by rw [Nat.one_mul, ← hus]; simp⟩⟩, o1'⟩)
  (by
   rw [List.nodup_cons]
   exact ⟨fun hm => absurd (hlt _ hm) (by omega), a8K hr hnj o2⟩)
  (fun b hb => by
   rcases List.mem_cons.1 hb with hb | hb
   ·exact .inr (.inr (by omega))
   ·obtain ⟨j, hj, hb'⟩ := List.mem_flatMap.1 hb
    have hjk : j ≠ k := fun e' => hkj (by rw [← e']; exact hj)
    exact .inr (.inl ⟨j, hj, by simpa [hjk] using hb'⟩)) hlj (by simp) (by simp)
 obtain ⟨vs, hh, hcv⟩ := hr.bx b t' cs hb
 obtain ⟨v1, e1, r1⟩ := a9y hcv hi1
 obtain ⟨v2, e2, r2⟩ := a9y hcv hi2
 have hbl : L.bb b < w.heap.size := by
  rcases Nat.lt_or_ge (L.bb b) w.heap.size with h | h
  ·exact h
  ·rw [Array.getElem?_eq_none h] at hh; cases hh
 have hhw : (w.alloc (.cells us.toArray e)).heap[L.bb b]? = some (.cells vs.toArray t' (0, 0)) := by rw [hchg.block _ hbl (by simp)]; exact hh
 have hview : ∀ (L' : Lyt) (j : Nat) (c : KC) (u : Value), (∀ g ∈ L.fp j, g ∈ L'.fp k) → j ∈ js → lkk σ j = some c → u = L.rv j → CVr C L' (w.alloc (.cells us.toArray e)) (.dv [k] (.sl c.e c.sz c.n c.cs)) u := fun L' j c u hf hj hc hu => by
  simp only [CVr]
  rw [hu]
  exact a4l _ _ _ (own_keep _ _ _ (hr.ks j c hc).1 (fun g hg => hchg.block g (hlt g (List.mem_flatMap.2 ⟨j, hj, hg⟩)) (by simp))) (fun g hg => .inr ⟨k, by simp, hf g hg⟩)
 have hset2 := hset.alsoBh (b := b) (t := t') (cs := cs.map (CV.kill (k :: js) (k :: js))) (cs' := (((cs.map (CV.kill (k :: js) (k :: js))).set i1 (.dv [k] (.sl c1.e c1.sz c1.n c1.cs))).set i2 (.dv [k] (.sl c2.e c2.sz c2.n c2.cs))))
  (by
   simp only [St.mut, a0k, cond_false]
   have := a9j (fun q : TypeId × List CV => (q.1, q.2.map (CV.kill (k :: js) (k :: js)))) σ.bx b
   rw [hb] at this
   exact this)
  (fun vs' hh' hv' => by
   have hq : vs' = vs := by
    have h9 := hh'.symm.trans hhw
    simpa using h9
   rw [hq] at hv' ⊢
   refine b1q (b1q hv' e1 ?_) e2 ?_
   ·exact hview _ j1 c1 v1 (fun g hg => by simp; exact .inr ⟨j1, List.contains_iff_mem.1 hm1, hg⟩) (List.contains_iff_mem.1 hm1) hk1 (by simpa only [CVr] using r1)
   ·exact hview _ j2 c2 v2 (fun g hg => by simp; exact .inr ⟨j2, List.contains_iff_mem.1 hm2, hg⟩) (List.contains_iff_mem.1 hm2) hk2 (by simpa only [CVr] using r2))
  (fun j hj => List.all_eq_true.1 hlive j hj)
 refine a4U (v := .slice (some ⟨w.heap.size, 0, none⟩) 1 1) (w' := w.alloc (.cells us.toArray e)) ?_ ?_
 ·unfold execOp
  simp only [ho, List.map_toArray, List.map_cons, List.map_nil, b2Y (P := P) (w := w) hT ht he hl0 hpos (by simpa [Nat.ble_eq] using hsm) h1 hus, Sem.run_bind, Result.andThen_ok, Sem.run_pure]
 ·rw [hd]
  exact hK _ _ _ _ rfl (hset2.put (v := .one (.key k)) (r := .slice (some ⟨w.heap.size, 0, none⟩) 1 1) (by simpa [Nat.blt_eq] using hn) (by simp [SVr, CVr]) (fun j hj => by
   simp only [SV.keys, CV.keys, List.mem_singleton] at hj
   rw [hj]
   show (lkk (St.mut _ k js false _) k).isSome = true
   rw [a5o]; rfl) (by simp [SV.boxes]))
section
variable {Q : Exit → St → Prop} {all : Array Oper} {rest : List Oper} {tm : List (Nat × SV)} {bx : List (Nat × TypeId × List CV)} {ks : List (Nat × Option KC)}
theorem c6F (hT : TTOk P T) {t e sz by_ d k : Nat} {zc : List CV} {v : SV} {p : Bool × List CV} {ds : List DV} {js : List Nat} (b i1 i2 : Nat) {t' j1 j2 : Nat} {cs : List CV} {c1 c2 : KC} (hg : o.guard = none) (hd : o.dst = some d) (ho : o.op = .buildSlice t 1 #[(0, x)]) (hn : Nat.blt d nt = true) (ht : look T.sl t = some e) (he : look T.el e = some (sz, by_, zc)) (hl0 : zc.length = sz) (hsz : Nat.blt 0 sz = true) (hsm : Nat.ble sz 16777216 = true)
  (hx : Ev P C nt ⟨tm, bx, ks⟩ x v) (hp : v.part = some p) (hkv : a1p ⟨tm, bx, ks⟩ v = true) (how : a3z ⟨tm, bx, ks⟩ p.2 ds js) (hnj : js.Nodup) (hkj : k ∉ js) (hl : p.2.length = sz) (hk : lkk ⟨tm, bx, ks⟩ k = none)
  (hb : look bx b = some (t', cs)) (hi1 : cs[i1]? = some (.key j1)) (hi2 : cs[i2]? = some (.key j2)) (hm1 : js.contains j1 = true) (hm2 : js.contains j2 = true) (hk1 : lkk ⟨tm, bx, ks⟩ j1 = some c1) (hk2 : lkk ⟨tm, bx, ks⟩ j2 = some c2)
  (hlive : ((((cs.map (CV.kill (k :: js) (k :: js))).set i1 (.dv [k] (.sl c1.e c1.sz c1.n c1.cs))).set i2 (.dv [k] (.sl c2.e c2.sz c2.n c2.cs))).flatMap CV.keys).all (fun j => (lkk ⟨tm, bx, (k, some ⟨false, e, sz, 1, ds⟩) :: ((js.map fun j => (j, none)) ++ (k, some ⟨false, e, sz, 0, []⟩) :: ks)⟩ j).isSome) = true)
  (h : Ops P C nt Q all rest ⟨(d, .one (.key k)) :: a0p (k :: js) (k :: js) tm, (b, t', (((cs.map (CV.kill (k :: js) (k :: js))).set i1 (.dv [k] (.sl c1.e c1.sz c1.n c1.cs))).set i2 (.dv [k] (.sl c2.e c2.sz c2.n c2.cs)))) :: a0k (k :: js) (k :: js) bx, (k, some ⟨false, e, sz, 1, ds⟩) :: ((js.map fun j => (j, none)) ++ (k, some ⟨false, e, sz, 0, []⟩) :: ks)⟩) : Ops P C nt Q all (o :: rest) ⟨tm, bx, ks⟩ :=
 a3L hg (c3q hT ho hd hn ht he hl0 hsz hsm hx hp hkv how hnj hkj hl hk hb hi1 hi2 hm1 hm2 hk1 hk2 hlive) h
end
end
end Go.Proofs.YtkhldpbfkagdhaaGreat
