/-
  Contracts of the program's functions for the statements RunOps, SerialRun, StepTx, by the rules of the logic. Conditions: none but those in the theorems.
-/
import Derived.Below
import Derived.Deep.Slices
import Derived.OpenShut
import Derived.ProofKit
import Derived.Test.YtmgijbhikmjfjaaGreatQS43
set_option maxHeartbeats 4000000
set_option maxRecDepth 100000
namespace Go.Proofs.YtmgijbhikmjfjaaGreat
open Go.RowKit Go.ChangeShapes Go.WideShapes Go.Deep

def LayW (W : World) : List DV → List Value → Prop := LayL (fun b => b < W.heap.size) W
structure OpensD (P : Program) (Q : List DV → Prop) (t : TypeId) : Prop where
 run : ∀ {H : Type} (enc : TypeId × Value → H) (W : World) (base : Nat) (spare : Nat → Bool) (held : Bool) (fuel : Nat) (cs : List Value) (y : DataW H × List MemPlace),
  DataW.trod enc P W base spare held fuel t cs = some y → ∃ ds, Q ds ∧ LayW W ds cs
def Is {α : Type} (enc : α → List DV) (ds : List DV) : Prop := ∃ x, ds = enc x
theorem opensD_int {P : Program} {t : TypeId} (ht : P.underlying t = some (.int .i64)) : OpensD P (Is eInt) t := by
 refine ⟨fun {H} enc W base spare held fuel cs y h => ?_⟩
 obtain ⟨n, rfl, _, hw⟩ := DataW.trod_int ht h
 have hb : -9223372036854775808 ≤ n ∧ n ≤ 9223372036854775807 := by simpa [Lit.wf, IntKind.min, IntKind.max, IntKind.signed, IntKind.bits] using hw
 exact ⟨_, ⟨n, rfl⟩, by unfold LayW LayL LayL Lay; exact ⟨_, _, rfl, ⟨rfl, inR64 hb.1 hb.2⟩, rfl⟩⟩
theorem opensD_str {P : Program} {t : TypeId} (ht : P.underlying t = some .string) : OpensD P (Is eStr) t := by
 refine ⟨fun {H} enc W base spare held fuel cs y h => ?_⟩
 obtain ⟨s, rfl, _, hs⟩ := DataW.trod_string ht h
 exact ⟨_, ⟨s, rfl⟩, by simp only [LayW, LayL, Lay]; exact ⟨_, _, rfl, ⟨rfl, by simpa [maxLen] using hs⟩, rfl⟩⟩
theorem points {α : Type} {enc : α → List DV} {W : World} {sz : Nat} {f : Nat → Option Value} (hs : ∀ x, (enc x).length = sz) : ∀ n : Nat,
  (∀ i, i < n → ∃ x ci, LayW W (enc x) ci ∧ ∀ j, j < sz → f (i * sz + j) = ci[j]?) → ∃ (xs : List α) (cells : List Value), xs.length = n ∧ LayW W (xs.flatMap enc) cells ∧ ∀ j u, cells[j]? = some u → f j = some u
 | 0, _ => ⟨[], [], rfl, by simp [LayW, LayL], by simp⟩
 | n + 1, h => by
  obtain ⟨xs, cells, h1, h2, h3⟩ := points hs n (fun i hi => h i (by omega))
  obtain ⟨x, ci, g1, g2⟩ := h n (by omega)
  have hl : cells.length = n * sz := by rw [layL_len _ _ h2, flat_len hs, h1]
  have hci : ci.length = sz := by rw [layL_len _ _ g1, hs]
  refine ⟨xs ++ [x], cells ++ ci, by simp [h1], by have := layL_append _ _ _ _ h2 g1; simp only [List.flatMap_append, List.flatMap_cons, List.flatMap_nil, List.append_nil]; exact this, fun j u hu => ?_⟩
  rcases Nat.lt_or_ge j cells.length with hj | hj
  ·rw [List.getElem?_append_left hj] at hu; exact h3 j u hu
  ·rw [List.getElem?_append_right hj] at hu
   have hjs : j - cells.length < sz := by rw [← hci]; exact (List.getElem?_eq_some_iff.1 hu).1
   have := g2 (j - cells.length) hjs
   rw [show n * sz + (j - cells.length) = j by omega] at this
   rw [this, hu]
theorem opensD_slice {α : Type} {P : Program} {enc : α → List DV} {t e : TypeId} {sz : Nat} (e' : Nat) (hs : ∀ x, (enc x).length = sz) (hsz : Nat.blt 0 sz = true) (ht : P.underlying t = some (.slice e)) (hc : P.cellsOf e = sz) (he : OpensD P (Is enc) e) : OpensD P (Is fun xs : List α => [listD e' sz enc xs]) t := by
 refine ⟨fun {H} ench W base spare held fuel cs y h => ?_⟩
 have hpos : 0 < sz := by simpa [Nat.blt_eq] using hsz
 rcases open_slice ht h with ⟨rfl, _⟩ | ⟨a, len, cap, m, n, D, Pl, rfl, _, hl, hm, hmm, _, hi⟩
 ·refine ⟨_, ⟨[], rfl⟩, ?_⟩
  simp only [LayW, LayL, Lay]
  exact ⟨_, _, rfl, ⟨none, 0, [], rfl, Nat.le_refl _, by simp [maxLen], hpos, by simp, by simp [LayL], fun h => by simp at h⟩, rfl⟩
 ·have hlm : len ≤ m := by rw [hmm]; split <;> omega
  obtain ⟨xs, cells, h1, h2, h3⟩ := points (W := W) (f := fun j => W.cell? (a.add j)) hs len (fun i hil => by
   obtain ⟨cs', hc1, hc2⟩ := hi i (by omega)
   obtain ⟨ds, ⟨x, rfl⟩, hx⟩ := he.run ench W base spare held n cs' _ hc2
   obtain ⟨_, hcl, hat⟩ := World.cells?_some hc1
   refine ⟨x, cs', hx, fun j hj => ?_⟩
   have := hat j (by rw [hc]; exact hj)
   rw [← Go.Deep.add_add, hc] at *
   exact this)
  refine ⟨_, ⟨xs, rfl⟩, ?_⟩
  simp only [LayW, LayL]
  refine ⟨_, _, rfl, ?_, rfl⟩
  simp only [Lay]
  refine ⟨some a, cap, cells, by rw [h1], by omega, hm, hpos, flat_len hs xs, h2, fun hp => ?_⟩
  have hcl : 0 < cells.length := by
   rw [layL_len _ _ h2, flat_len hs]
   exact Nat.mul_pos hp hpos
  have h0 := h3 0 _ (List.getElem?_eq_getElem hcl)
  have ha0 : a.add 0 = a := by simp [Addr.add]
  simp only [ha0] at h0
  have hsp : a.spot = none := by
   cases hs : a.spot with
   | none => rfl
   | some s =>
    unfold World.cell? at h0
    split at h0
    ·simp [hs] at h0
    ·cases h0
  obtain ⟨b, off, sp⟩ := a
  simp only at hsp
  subst hsp
  refine ⟨b, off, rfl, World.block_lt_of_cell? W _ h0, fun j u hu => ?_⟩
  have := h3 j u hu
  simp only [add_row] at this
  exact this
/-! ### structs -/
def Qcat : List (List DV → Prop) → List DV → Prop
 | [], ds => ds = []
 | Q :: Qs, ds => ∃ a b, ds = a ++ b ∧ Q a ∧ Qcat Qs b
def contig (P : Program) : List Field → Nat → Nat → Bool
 | [], off, n => off == n
 | f :: fs, off, n => f.offset == off && contig P fs (off + P.cellsOf f.type) n
def OpensAll (P : Program) : List Field → List (List DV → Prop) → Prop
 | [], [] => True
 | f :: fs, Q :: Qs => OpensD P Q f.type ∧ OpensAll P fs Qs
 | _, _ => False
theorem opens_fields {P : Program} {W : World} {H : Type} (enc : TypeId × Value → H) (base : Nat) (spare : Nat → Bool) (held : Bool) (n : Nat) {cs : List Value} : ∀ (fs : List Field) (Qs : List (List DV → Prop)) (off : Nat), contig P fs off cs.length = true → OpensAll P fs Qs →
  (∀ f ∈ fs, ∃ y, DataW.trod enc P W base spare held n f.type ((cs.drop f.offset).take (P.cellsOf f.type)) = some y) → ∃ ds, Qcat Qs ds ∧ LayW W ds (cs.drop off)
 | [], [], off, h1, _, _ => by
  simp only [contig, beq_iff_eq] at h1
  subst h1
  exact ⟨[], rfl, by simp [LayW, LayL]⟩
 | [], _ :: _, _, _, h2, _ => h2.elim
 | _ :: _, [], _, _, h2, _ => h2.elim
 | f :: fs, Q :: Qs, off, h1, h2, h3 => by
  simp only [contig, Bool.and_eq_true, beq_iff_eq] at h1
  obtain ⟨e1, h1⟩ := h1
  obtain ⟨y, hy⟩ := h3 f (by simp)
  rw [e1] at hy
  obtain ⟨a, ha, la⟩ := h2.1.run enc W base spare held n _ _ hy
  obtain ⟨b, hb, lb⟩ := opens_fields enc base spare held n fs Qs _ h1 h2.2 (fun g hg => h3 g (by simp [hg]))
  refine ⟨a ++ b, ⟨a, b, rfl, ha, hb⟩, ?_⟩
  have := layL_append _ _ _ _ la lb
  rw [← List.drop_drop, List.take_append_drop] at this
  exact this
theorem opensD_struct {P : Program} {t : TypeId} {fs : Array Field} {Qs : List (List DV → Prop)} (ht : P.underlying t = some (.struct fs)) (hc : contig P fs.toList 0 (P.cellsOf t) = true) (h : OpensAll P fs.toList Qs) : OpensD P (Qcat Qs) t := by
 refine ⟨fun {H} enc W base spare held fuel cs y h' => ?_⟩
 obtain ⟨xs, n, _, _, hl, hlen, hf⟩ := DataW.trod_struct ht h'
 have := opens_fields (cs := cs) enc base spare held n fs.toList Qs 0 (by rw [hl]; exact hc) h (fun f hf' => by
  obtain ⟨i, hi⟩ := List.mem_iff_getElem?.1 hf'
  have hi' : fs[i]? = some f := by simpa using hi
  have h2 := hf i f hi'
  have hlt : i < xs.length := by
   rw [hlen]
   rw [Array.getElem?_eq_some_iff] at hi'
   exact hi'.1
  rw [List.getElem?_eq_getElem hlt] at h2
  exact ⟨_, h2⟩)
 simpa using this
theorem OpensD.mono {P : Program} {Q R : List DV → Prop} {t : TypeId} (h : OpensD P Q t) (hq : ∀ ds, Q ds → R ds) : OpensD P R t := by
 refine ⟨fun {H} enc W base spare held fuel cs y h' => ?_⟩
 obtain ⟨ds, h1, h2⟩ := h.run enc W base spare held fuel cs y h'
 exact ⟨ds, hq ds h1, h2⟩
/-! ### a call from the outside -/
def TopL (w : World) : List SV → List Value → Prop
 | [], vs => vs = []
 | .one c :: us, vs => ∃ d v vs', c = .dv [] d ∧ vs = v :: vs' ∧ LayW w [d] [v] ∧ TopL w us vs'
 | .agg cs :: us, vs => ∃ ds xs vs', cs = ds.map (CV.dv []) ∧ vs = .agg xs.toArray :: vs' ∧ LayW w ds xs ∧ TopL w us vs'
 | _ :: _, _ => False
theorem lay_top {w : World} {L : Lyt} {d : DV} {v : Value} (h : LayW w [d] [v]) : CVr ⟨w, [], L.rv⟩ L w (.dv [] d) v := by
 simp only [LayW, LayL] at h
 obtain ⟨v', _, e, h1, rfl⟩ := h
 simp only [List.cons.injEq, and_true] at e
 subst e
 simp only [CVr]
 exact lay_conv (fun b hb _ => ⟨.inl ⟨hb, by simp⟩, rfl⟩) d _ h1
theorem lays_top {w : World} {L : Lyt} : ∀ {ds : List DV} {vs : List Value}, LayW w ds vs → CVL ⟨w, [], L.rv⟩ L w (ds.map (CV.dv [])) vs
 | [], _, h => by simp only [LayW, LayL] at h; subst h; rfl
 | d :: ds, _, h => by
  simp only [LayW, LayL] at h
  obtain ⟨v, vs', rfl, h1, h2⟩ := h
  exact ⟨v, vs', rfl, lay_top (by simp only [LayW, LayL]; exact ⟨v, [], rfl, h1, rfl⟩), lays_top h2⟩
theorem topL_sv {P : Program} {w : World} {L : Lyt} : ∀ {us : List SV} {vs : List Value}, TopL w us vs → vs.length = us.length ∧ (∀ u ∈ us, u.keys = [] ∧ u.boxes = []) ∧ ∀ (i : Nat) (v : SV), us[i]? = some v → ∃ x, vs[i]? = some x ∧ SVr P ⟨w, [], L.rv⟩ L w v x
 | [], _, h => by simp only [TopL] at h; subst h; simp
 | .one c :: us, _, h => by
  simp only [TopL] at h
  obtain ⟨d, v, vs', rfl, rfl, h1, h2⟩ := h
  obtain ⟨g1, g2, g3⟩ := topL_sv (P := P) (L := L) h2
  refine ⟨by simp [g1], fun u hu => ?_, fun i x hx => ?_⟩
  ·rcases List.mem_cons.1 hu with rfl | hu
   ·exact ⟨rfl, rfl⟩
   ·exact g2 u hu
  ·cases i with
   | zero => simp only [List.getElem?_cons_zero, Option.some.injEq] at hx; subst hx; exact ⟨v, rfl, by simp only [SVr]; exact lay_top h1⟩
   | succ i => simpa using g3 i x (by simpa using hx)
 | .agg cs :: us, _, h => by
  simp only [TopL] at h
  obtain ⟨ds, xs, vs', rfl, rfl, h1, h2⟩ := h
  obtain ⟨g1, g2, g3⟩ := topL_sv (P := P) (L := L) h2
  refine ⟨by simp [g1], fun u hu => ?_, fun i x hx => ?_⟩
  ·rcases List.mem_cons.1 hu with rfl | hu
   ·refine ⟨?_, rfl⟩
    simp only [SV.keys]
    rw [List.flatMap_eq_nil_iff]
    intro c hc
    obtain ⟨d, _, rfl⟩ := List.mem_map.1 hc
    rfl
   ·exact g2 u hu
  ·cases i with
   | zero => simp only [List.getElem?_cons_zero, Option.some.injEq] at hx; subst hx; exact ⟨_, rfl, by simp only [SVr]; exact ⟨xs, rfl, lays_top h1⟩⟩
   | succ i => simpa using g3 i x (by simpa using hx)
 | .tup _ :: _, _, h => by simp [TopL] at h
 | .box _ _ :: _, _, h => by simp [TopL] at h
 | .ref _ _ :: _, _, h => by simp [TopL] at h
 | .eptr _ _ :: _, _, h => by simp [TopL] at h
 | .ksl _ _ _ _ :: _, _, h => by simp [TopL] at h
 | .fn _ _ :: _, _, h => by simp [TopL] at h
 | .clo _ _ :: _, _, h => by simp [TopL] at h
 | .opt _ _ :: _, _, h => by simp [TopL] at h
 | .any :: _, _, h => by simp [TopL] at h
theorem pfn_run {P : Program} {f : FuncId} {us : List SV} {b : Bool} (hf : PFn P f us (.one (.dv [] (.bool b)))) {w : World} {vs : List Value} (h : TopL w us vs) :
  Calls P f vs.toArray w fun e w' => e = .returned (.bool b) ∧ Below w.heap.size w w' := by
 let L : Lyt := ⟨fun _ => 0, fun _ => [], fun _ => .bool false⟩
 obtain ⟨h1, h2, h3⟩ := topL_sv (P := P) (L := L) h
 obtain ⟨t1, t2⟩ := enum_tk us 0 h2
 have hr : Rel P ⟨w, [], L.rv⟩ us.length L ⟨enumS 0 us, [], []⟩ ⟨vs.toArray, []⟩ w := {
  df := rfl
  sz := by simp [h1]
  tm := fun i v hv => by
   obtain ⟨_, h4⟩ := enumS_look us 0 i v hv
   obtain ⟨x, h5, h6⟩ := h3 i v (by simpa using h4)
   have : vs.toArray.getD i undef = x := by simp [Array.getD_eq_getD_getElem?, h5]
   rw [this]; exact h6
  bx := fun i t cs h => by cases h
  ks := fun k c h => by cases h
  b1 := fun i x h => by cases h
  k1 := fun k c h => by cases h
  kn := fun k c h => by cases h
  bb := fun i j x y h => by cases h
  bk := fun i k x c h => by cases h
  kk := fun k j c d h => by cases h
  lk := fun k hk => by simp only [St.tk, t1, List.flatMap_nil, List.append_nil] at hk; cases hk
  lb := fun b hb => by simp only [St.tb, t2] at hb; cases hb
  s0 := fun b hb => by cases hb
  chg := Chg.refl _ _ }
 refine (hf.ok w [] L vs h1 hr).mono ?_
 rintro e w' ⟨r, res, σ', L', rfl, rfl, hr'⟩
 have hv := hr'.tm 0 _ rfl
 simp only [SVr, CVr, Lay] at hv
 refine ⟨?_, hr'.chg.below⟩
 have : (#[r] : Array Value).getD 0 undef = r := rfl
 rw [this] at hv
 rw [hv]
end Go.Proofs.YtmgijbhikmjfjaaGreat

namespace Go.Proofs.YtmgijbhikmjfjaaGreat
open Go.RowKit
open Go.Proofs
theorem opensKey : OpensD Tryz.prog (Is eKey) 27 :=
 (opensD_struct (Qs := [Is eInt, Is eInt, Is eStr]) Tryz.underlying27 (by kernel_rfl) ⟨(opensD_int Tryz.underlying3), (opensD_int Tryz.underlying3), (opensD_str Tryz.underlying9), trivial⟩).mono fun ds h => by
  obtain ⟨_, _, rfl, ⟨a, rfl⟩, ⟨_, _, rfl, ⟨b, rfl⟩, ⟨_, _, rfl, ⟨c, rfl⟩, rfl⟩⟩⟩ := h
  exact ⟨(a, b, c), rfl⟩
theorem opensField : OpensD Tryz.prog (Is eField) 170 :=
 (opensD_struct (Qs := [Is eStr, Is eInt]) Tryz.underlying170 (by kernel_rfl) ⟨(opensD_str Tryz.underlying9), (opensD_int Tryz.underlying3), trivial⟩).mono fun ds h => by
  obtain ⟨_, _, rfl, ⟨a, rfl⟩, ⟨_, _, rfl, ⟨b, rfl⟩, rfl⟩⟩ := h
  exact ⟨(a, b), rfl⟩
theorem opensFields : OpensD Tryz.prog (Is fun xs => [listD 158 2 eField xs]) 28 := opensD_slice (sz := 2) 158 (fun _ => rfl) rfl Tryz.underlying28 (by kernel_rfl) opensField
theorem opensRecord : OpensD Tryz.prog (Is (fun r : RecT => [fieldsD r])) 30 :=
 (opensD_struct (Qs := [Is (fun r : RecT => [fieldsD r])]) Tryz.underlying30 (by kernel_rfl) ⟨opensFields, trivial⟩).mono fun ds h => by
  obtain ⟨_, _, rfl, ⟨a, rfl⟩, rfl⟩ := h
  exact ⟨a, rfl⟩
theorem opensItem : OpensD Tryz.prog (Is eItem) 189 :=
 (opensD_struct (Qs := [Is eKey, Is (fun r : RecT => [fieldsD r])]) Tryz.underlying189 (by kernel_rfl) ⟨opensKey, opensRecord, trivial⟩).mono fun ds h => by
  obtain ⟨_, _, rfl, ⟨a, rfl⟩, ⟨_, _, rfl, ⟨b, rfl⟩, rfl⟩⟩ := h
  exact ⟨(a, b), rfl⟩
theorem opensItems : OpensD Tryz.prog (Is fun xs => [listD 141 4 eItem xs]) 119 := opensD_slice (sz := 4) 141 (fun _ => rfl) rfl Tryz.underlying119 (by kernel_rfl) opensItem
theorem opensStore : OpensD Tryz.prog (Is eStore) 121 :=
 (opensD_struct (Qs := [Is eStr, Is (fun r : List ItemT => [itemsD r]), Is eInt]) Tryz.underlying121 (by kernel_rfl) ⟨(opensD_str Tryz.underlying9), opensItems, (opensD_int Tryz.underlying3), trivial⟩).mono fun ds h => by
  obtain ⟨_, _, rfl, ⟨a, rfl⟩, ⟨_, _, rfl, ⟨b, rfl⟩, ⟨_, _, rfl, ⟨c, rfl⟩, rfl⟩⟩⟩ := h
  exact ⟨(a, b, c), rfl⟩
theorem opensStores : OpensD Tryz.prog (Is fun xs => [listD 91 3 eStore xs]) 22 := opensD_slice (sz := 3) 91 (fun _ => rfl) rfl Tryz.underlying22 (by kernel_rfl) opensStore
theorem opensDef : OpensD Tryz.prog (Is eDef) 124 :=
 (opensD_struct (Qs := [Is eStr, Is eStr]) Tryz.underlying124 (by kernel_rfl) ⟨(opensD_str Tryz.underlying9), (opensD_str Tryz.underlying9), trivial⟩).mono fun ds h => by
  obtain ⟨_, _, rfl, ⟨a, rfl⟩, ⟨_, _, rfl, ⟨b, rfl⟩, rfl⟩⟩ := h
  exact ⟨(a, b), rfl⟩
theorem opensDefs : OpensD Tryz.prog (Is fun xs => [listD 127 2 eDef xs]) 23 := opensD_slice (sz := 2) 127 (fun _ => rfl) rfl Tryz.underlying23 (by kernel_rfl) opensDef
theorem opensDb : OpensD Tryz.prog (Is eDb) 25 :=
 (opensD_struct (Qs := [Is eStr, Is eInt, Is (fun r : List StoreT => [storesD r]), Is (fun r : List DefT => [defsD r])]) Tryz.underlying25 (by kernel_rfl) ⟨(opensD_str Tryz.underlying9), (opensD_int Tryz.underlying3), opensStores, opensDefs, trivial⟩).mono fun ds h => by
  obtain ⟨_, _, rfl, ⟨a, rfl⟩, ⟨_, _, rfl, ⟨b, rfl⟩, ⟨_, _, rfl, ⟨c, rfl⟩, ⟨_, _, rfl, ⟨d, rfl⟩, rfl⟩⟩⟩⟩ := h
  exact ⟨(a, b, c, d), rfl⟩
theorem opensOp : OpensD Tryz.prog (Is eOp) 32 :=
 (opensD_struct (Qs := [Is eInt, Is eStr, Is eKey, Is (fun r : RecT => [fieldsD r]), Is eStr]) Tryz.underlying32 (by kernel_rfl) ⟨(opensD_int Tryz.underlying3), (opensD_str Tryz.underlying9), opensKey, opensRecord, (opensD_str Tryz.underlying9), trivial⟩).mono fun ds h => by
  obtain ⟨_, _, rfl, ⟨a, rfl⟩, ⟨_, _, rfl, ⟨b, rfl⟩, ⟨_, _, rfl, ⟨c, rfl⟩, ⟨_, _, rfl, ⟨d, rfl⟩, ⟨_, _, rfl, ⟨e, rfl⟩, rfl⟩⟩⟩⟩⟩ := h
  exact ⟨(a, b, c, d, e), rfl⟩
theorem opensOps : OpensD Tryz.prog (Is fun xs => [listD 47 7 eOp xs]) 54 := opensD_slice (sz := 7) 47 (fun _ => rfl) rfl Tryz.underlying54 (by kernel_rfl) opensOp
theorem opensTx : OpensD Tryz.prog (Is eTx) 161 :=
 (opensD_struct (Qs := [Is eInt, Is (fun r : List OpT => [opsD r]), Is eInt, Is eInt, Is (fun r : List StoreT => [storesD r])]) Tryz.underlying161 (by kernel_rfl) ⟨(opensD_int Tryz.underlying3), opensOps, (opensD_int Tryz.underlying3), (opensD_int Tryz.underlying3), opensStores, trivial⟩).mono fun ds h => by
  obtain ⟨_, _, rfl, ⟨a, rfl⟩, ⟨_, _, rfl, ⟨b, rfl⟩, ⟨_, _, rfl, ⟨c, rfl⟩, ⟨_, _, rfl, ⟨d, rfl⟩, ⟨_, _, rfl, ⟨e, rfl⟩, rfl⟩⟩⟩⟩⟩ := h
  exact ⟨(a, b, c, d, e), rfl⟩
theorem opensTxs : OpensD Tryz.prog (Is fun xs => [listD 109 5 eTx xs]) 66 := opensD_slice (sz := 5) 109 (fun _ => rfl) rfl Tryz.underlying66 (by kernel_rfl) opensTx
theorem opensQueue : OpensD Tryz.prog (Is (fun r : List TxT => [txsD r])) 68 :=
 (opensD_struct (Qs := [Is (fun r : List TxT => [txsD r])]) Tryz.underlying68 (by kernel_rfl) ⟨opensTxs, trivial⟩).mono fun ds h => by
  obtain ⟨_, _, rfl, ⟨a, rfl⟩, rfl⟩ := h
  exact ⟨a, rfl⟩
end Go.Proofs.YtmgijbhikmjfjaaGreat

