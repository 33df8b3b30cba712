/-
  The rules of a small program logic over abstract states: no program is in sight but in the table of its types. Conditions: none.
-/
import Derived.BigQuiet
import Derived.Deep.QuietTactic
import Derived.Laws.CopyRow
import Derived.Laws.Externs
import Derived.Lib.AppendStr
import Derived.Lib.AppendZerosOnto
import Derived.Lib.ConvBytes
import Derived.Lib.Overlaps
import Derived.LoopN
import Derived.Outline
import Derived.Shelf.RegionOpenPlain
import Derived.Shelf.Spec.SlicesInsert
import Derived.Test.YtiibjeoapmhjmaaProg
import Derived.WalkLawsBesides
import Derived.Test.YtiibjeoapmhjmaaU1
namespace Go.Proofs.Ytiibjeoapmhjmaa
open Go.RowKit
set_option linter.unusedVariables false
set_option linter.unusedSimpArgs false

section
variable {P : Program} {C : Ctx} {nt : Nat} {L : Lyt} {σ : St} {a : Act} {w : World} {o : Oper} {x y : Operand} {T : TT}
theorem ownL_bytes (w : World) : ∀ bs : List UInt8, OwnL w (bs.flatMap fun b => [DV.int .u8 (b.toNat : Int)]) (bs.map fun b => Value.int .u8 (b.toNat : Int)) []
 | [] => by simp [OwnL]
 | b :: bs => by
  have hb := b.toNat_lt
  simp only [List.flatMap_cons, List.map_cons, List.singleton_append, OwnL]
  refine ⟨_, _, [], [], rfl, rfl, ?_, ownL_bytes w bs⟩
  unfold Own
  exact ⟨rfl, by simp [InR, IntKind.min, IntKind.max, IntKind.signed, IntKind.bits]; omega, rfl⟩
theorem pu_lenKn (hT : TTOk P T) {t e' k n : Nat} {c : KC} (ho : o.op = .call { callee := .builtin .len, args := #[x], argTypes := #[t] }) (h : look T.sl t = some e') (hx : Ev P C nt σ x (.one (.key k))) (hk : lkk σ k = some c) (hn : c.n = n) : Pu P C nt o σ (.one (.dv [] (.int .i64 (n : Int)))) [] [] := by
 subst hn
 exact pu_lenK hT ho h hx hk
theorem kmin_le (k : IntKind) : k.min ≤ 0 := by cases k <;> decide
theorem inR_less {k : IntKind} {m z : Int} (h : InR k m) (h0 : 0 ≤ z) (h1 : z ≤ m) : InR k z := ⟨by have := kmin_le k; omega, by have := h.2; omega⟩
theorem pu_remN {t ty : TypeId} {K J : List Nat} {k : IntKind} {m n : Int} (ho : o.op = .binOp .rem t x y ty) (hx : Ev P C nt σ x (.one (.dv K (.int k m)))) (hy : Ev P C nt σ y (.one (.dv J (.int k n)))) (hm : 0 ≤ m) (hn : 0 < n) : Pu P C nt o σ (.one (.dv [] (.int k (m % n)))) [] [] := by
 have e : m.tmod n = m % n := Int.tmod_eq_emod_of_nonneg hm
 have hq : InR k m → InR k (m % n) := fun h1 => inR_less h1 (Int.emod_nonneg m (show n ≠ 0 by omega)) (by
  rcases Int.lt_or_le m n with h | h
  ·rw [Int.emod_eq_of_lt hm h]; omega
  ·have := Int.emod_lt_of_pos m hn; omega)
 exact pu_int ho hx hy fun h1 h2 => ⟨_, fun ok w => by unfold Lay; exact ⟨rfl, hq h1⟩, fun w => by simp [binOp, Op.intDiv, show n ≠ 0 by omega, e]⟩
theorem wrap_u8 (z : Int) : IntKind.u8.wrap z = ((UInt8.ofNat (IntKind.u8.wrap z).toNat).toNat : Int) := by
 have h := inR_wrap .u8 z
 simp only [InR, IntKind.min, IntKind.max, IntKind.signed, IntKind.bits] at h
 obtain ⟨h1, h2⟩ := h
 simp at h1 h2
 simp only [UInt8.toNat_ofNat']
 have : (IntKind.u8.wrap z).toNat % 2 ^ 8 = (IntKind.u8.wrap z).toNat := Nat.mod_eq_of_lt (by omega)
 omega
end
section
variable {P : Program} {C : Ctx} {nt : Nat} {o : Oper} {x y : Operand} {T : TT} {Q : Exit → St → Prop} {all : Array Oper} {rest : List Oper} {tm : List (Nat × SV)} {bx : List (Nat × TypeId × List CV)} {ks : List (Nat × Option KC)}
end
end Go.Proofs.Ytiibjeoapmhjmaa

namespace Go.Proofs.Ytiibjeoapmhjmaa
open Go.RowKit
set_option linter.unusedVariables false
set_option linter.unusedSimpArgs false

abbrev Vars := List (Nat × Nat × Nat × List CV)
def addT : Vars → List (Nat × SV) → List (Nat × SV)
 | [], tm => tm
 | p :: B, tm => (p.2.1, .box p.2.1 0) :: addT B tm
def addB : Vars → List (Nat × TypeId × List CV) → List (Nat × TypeId × List CV)
 | [], bx => bx
 | p :: B, bx => (p.2.1, p.2.2.1, p.2.2.2) :: addB B bx
@[reducible] def St.adds (σ : St) (B : Vars) : St := ⟨addT B σ.tm, addB B σ.bx, σ.ks⟩
@[reducible] def nos (B : Vars) : List Nat := B.map fun p => p.1
section
variable {σ σ' : St}
theorem look_addT {B : Vars} {tm : List (Nat × SV)} (j : Nat) : look (addT B tm) j = if (B.map fun p => p.2.1).contains j then some (.box j 0) else look tm j := by
 induction B with
 | nil => simp [addT]
 | cons p B ih =>
  simp only [addT, look_cons, List.map_cons, List.contains_cons, ih]
  by_cases h : j = p.2.1
  ·simp [h]
  ·have h2 : (j == p.2.1) = false := by simpa using h
   rw [if_neg h, h2, Bool.false_or]
def lookV : Vars → Nat → Option (TypeId × List CV)
 | [], _ => none
 | p :: B, j => if j = p.2.1 then some (p.2.2.1, p.2.2.2) else lookV B j
theorem look_addB {B : Vars} {bx : List (Nat × TypeId × List CV)} (j : Nat) : look (addB B bx) j = (lookV B j).or (look bx j) := by
 induction B with
 | nil => simp [addB, lookV]
 | cons p B ih =>
  simp only [addB, look_cons, lookV, ih]
  split <;> simp
theorem lookV_none {B : Vars} {j : Nat} (h : ∀ p ∈ B, p.2.1 ≠ j) : lookV B j = none := by
 induction B with
 | nil => rfl
 | cons p B ih =>
  rw [lookV, if_neg (fun e => h p (by simp) e.symm)]
  exact ih fun q hq => h q (by simp [hq])
variable {P : Program} {C : Ctx} {nt : Nat} {L : Lyt} {a : Act} {w : World}
theorem Rel.sub' (h : Rel P C nt L σ' a w) (h1 : ∀ i v, look σ.tm i = some v → look σ'.tm i = some v) (h2 : ∀ i x, look σ.bx i = some x → look σ'.bx i = some x) (h3 : ∀ k c, lkk σ k = some c → lkk σ' k = some c) (h4 : σ.okB = true) : Rel P C nt L σ a w := by
 simp only [St.okB, Bool.and_eq_true, List.all_eq_true] at h4
 exact {
  df := h.df, sz := h.sz
  tm := fun i v hv => h.tm i v (h1 i v hv)
  bx := fun i t cs hx => h.bx i t cs (h2 i _ hx)
  ks := fun k c hc => h.ks k c (h3 k c hc)
  b1 := fun i x hx => h.b1 i x (h2 i _ hx)
  k1 := fun k c hc => h.k1 k c (h3 k c hc)
  kn := fun k c hc => h.kn k c (h3 k c hc)
  bb := fun i j x y hx hy => h.bb i j x y (h2 i _ hx) (h2 j _ hy)
  bk := fun i k x c hx hc => h.bk i k x c (h2 i _ hx) (h3 k c hc)
  kk := fun k j c d hc hd => h.kk k j c d (h3 k c hc) (h3 j d hd)
  lk := h4.1, lb := h4.2
  s0 := h.s0, chg := h.chg }
structure VOk (P : Program) (all : Array Oper) (nt : Nat) (A : Vars) (σ : St) : Prop where
 op : ∀ p ∈ A, ∃ o, all[p.1]? = some o ∧ o.guard = none ∧ o.dst = some p.2.1 ∧ o.op = .alloc p.2.2.1
 ty : ∀ p ∈ A, ∃ T sz by_, TTOk P T ∧ look T.el p.2.2.1 = some (sz, by_, p.2.2.2)
 lt : ∀ p ∈ A, p.2.1 < nt
 zk : ∀ p ∈ A, p.2.2.2.flatMap CV.keys = []
 bn : ∀ p ∈ A, look σ.bx p.2.1 = none
 tn : ∀ p ∈ A, look σ.tm p.2.1 = none
 nd : (A.map fun p => p.2.1).Nodup
 ni : (nos A).Nodup
 ok : σ.okB = true
theorem VOk.tmE {all : Array Oper} {A : Vars} (h : VOk P all nt A σ) {B : Vars} (hB : ∀ p ∈ B, p ∈ A) (i : Nat) (v : SV) (hv : look σ.tm i = some v) : look (σ.adds B).tm i = some v := by
 rw [look_addT, if_neg]
 ·exact hv
 ·simp only [List.contains_iff_mem, List.mem_map, not_exists, not_and]
  intro p hp e
  rw [← e, h.tn p (hB p hp)] at hv
  cases hv
theorem VOk.bxE {all : Array Oper} {A : Vars} (h : VOk P all nt A σ) {B : Vars} (hB : ∀ p ∈ B, p ∈ A) (i : Nat) (x : TypeId × List CV) (hv : look σ.bx i = some x) : look (σ.adds B).bx i = some x := by
 rw [look_addB, lookV_none, Option.none_or]
 ·exact hv
 ·intro p hp e
  rw [← e, h.bn p (hB p hp)] at hv
  cases hv
theorem VOk.drop {all : Array Oper} {A : Vars} (h : VOk P all nt A σ) {B : Vars} (hB : ∀ p ∈ B, p ∈ A) (hr : Rel P C nt L (σ.adds B) a w) : Rel P C nt L σ a w :=
 hr.sub' (h.tmE hB) (h.bxE hB) (fun k c hc => hc) h.ok
/-! ### what holds of a state holds of a greater one -/
structure Ext (P : Program) (C : Ctx) (nt : Nat) (σ σ' : St) : Prop where
 rel : ∀ L a w, Rel P C nt L σ' a w → Rel P C nt L σ a w
 bx : ∀ i x, look σ.bx i = some x → look σ'.bx i = some x
 ks : σ'.ks = σ.ks
theorem Ext.lkk (h : Ext P C nt σ σ') (k : Nat) : lkk σ' k = Go.Proofs.Ytiibjeoapmhjmaa.lkk σ k := by simp only [Go.Proofs.Ytiibjeoapmhjmaa.lkk, h.ks]
theorem Ext.ev (h : Ext P C nt σ σ') {x : Operand} {v : SV} (hx : Ev P C nt σ x v) : Ev P C nt σ' x v := Ev.mk fun L a w hr => hx.run L a w (h.rel L a w hr)
theorem Ext.argC (h : Ext P C nt σ σ') {c u : CV} (hx : ArgC σ c u) : ArgC σ' c u := by
 cases c with
 | key k => simp only [ArgC, h.lkk] at hx ⊢; exact hx
 | dv K d => exact hx
 | nest k o d => exact hx
 | arg i d => exact hx
 | nil => exact hx
 | any => exact hx
theorem Ext.argCs (h : Ext P C nt σ σ') : ∀ {cs us : List CV}, ArgCs σ cs us → ArgCs σ' cs us
 | [], _, hx => hx
 | c :: cs, _, ⟨u, us', e, h1, h2⟩ => ⟨u, us', e, h.argC h1, h.argCs h2⟩
theorem Ext.cloB (h : Ext P C nt σ σ') : ∀ {bs : List Nat} {dss : List (List DV)}, CloB σ bs dss → CloB σ' bs dss
 | [], _, hx => hx
 | b :: bs, _, ⟨ds, dss', t, e, h1, h2⟩ => ⟨ds, dss', t, e, h.bx b _ h1, h.cloB h2⟩
theorem Ext.argS (h : Ext P C nt σ σ') {v u : SV} (hx : ArgS σ v u) : ArgS σ' v u := by
 cases v with
 | one c => obtain ⟨c', h1, e⟩ := hx; exact ⟨c', h.argC h1, e⟩
 | agg cs => obtain ⟨c', h1, e⟩ := hx; exact ⟨c', h.argCs h1, e⟩
 | ref K ds => exact hx
 | fn f caps => exact hx
 | clo f bs => obtain ⟨caps, h1, e⟩ := hx; exact ⟨caps, h.cloB h1, e⟩
 | _ => exact hx
theorem Ext.args (h : Ext P C nt σ σ') : ∀ {xs : List Operand} {us : List SV}, ArgSs P C nt σ xs us → ArgSs P C nt σ' xs us
 | [], _, hx => hx
 | x :: xs, _, ⟨v, u, us', e, h1, h2, h3⟩ => ⟨v, u, us', e, h.ev h1, h.argS h2, h.args h3⟩
end
/-! ### the judgement -/
section
variable {P : Program} {C : Ctx} {nt : Nat} {Q : Exit → St → Prop} {all : Array Oper} {oB oK : List Nat} {hd' : Nat → Bool} {A : Vars} {listed : Array Bool} {fuel : Nat} {o : Oper} {d : Nat} {v X : SV} {Ks Bs : List Nat} {g : Bool} {σ σ₁ : St}
section
variable {tm : List (Nat × SV)} {bx : List (Nat × TypeId × List CV)} {ks : List (Nat × Option KC)}
end
end
end Go.Proofs.Ytiibjeoapmhjmaa

namespace Go.Proofs.Ytiibjeoapmhjmaa
open Go.RowKit
open Go.Proofs
def TTab : TT where
 sl := [(22, 5), (24, 3), (29, 22)]
 ag := [(7, 4), (13, 2)]
 on := [(2, ()), (3, ()), (4, ()), (5, ()), (9, ()), (12, ()), (21, ()), (22, ()), (24, ()), (29, ()), (53, ())]
 of := [(7000, 0), (7001, 1), (7002, 2), (7003, 3), (13000, 0), (13001, 1)]
 el := [(2, (1, 8, [.dv [] (.int .i64 0)])), (3, (1, 8, [.dv [] (.int .i64 0)])), (4, (1, 1, [.dv [] (.bool false)])), (5, (1, 1, [.dv [] (.int .u8 0)])), (7, (4, 24, [.dv [] (.int .i64 0), .dv [] (.int .i64 0), .dv [] (.bool false), .dv [] (.int .u8 0)])), (9, (1, 16, [.dv [] (.str ByteArray.empty)])), (12, (1, 8, [.dv [] (.int .u64 0)])), (13, (2, 24, [.dv [] (.str ByteArray.empty), .dv [] (.int .u64 0)])), (21, (1, 4, [.dv [] (.int .i32 0)])), (22, (1, 24, [.nil])), (24, (1, 24, [.nil])), (29, (1, 24, [.nil])), (53, (1, 4, [.dv [] (.int .u32 0)]))]
 st := [(9, ())]
 bo := [(4, ())]
 it := [(2, .i64), (3, .i64), (5, .u8), (12, .u64), (21, .i32), (53, .u32)]
def BTab : List (Nat × List (Nat × Nat)) := [(7, [(0, 1), (1, 1), (2, 1), (3, 1)]), (13, [(0, 1), (1, 1)])]

theorem hT : TTOk Try.prog TTab := TT.ok (by kernel_rfl)
theorem hB : BOk Try.prog BTab := bOk (by kernel_rfl)
@[reducible] def eByte (b : UInt8) : List DV := [.int .u8 (b.toNat : Int)]
@[reducible] def eInt (n : Int) : List DV := [.int .i64 n]
@[reducible] def bytesD (bs : List UInt8) : DV := listD 5 1 eByte bs
@[reducible] def intsD (bs : List Int) : DV := listD 3 1 eInt bs
end Go.Proofs.Ytiibjeoapmhjmaa

namespace Go.Proofs.Ytiibjeoapmhjmaa
open Go.RowKit
set_option linter.unusedVariables false
set_option linter.unusedSimpArgs false

section
variable {P : Program}
theorem lay_bytes {ok : Nat → Prop} {w : World} : ∀ {bs : List UInt8} {vs : List Value}, LayL ok w (bs.flatMap fun b => [DV.int .u8 (b.toNat : Int)]) vs → vs = bs.map fun b => Value.int .u8 (b.toNat : Int)
 | [], _, h => by simpa [LayL] using h
 | b :: bs, _, h => by
  simp only [List.flatMap_cons, List.singleton_append, LayL] at h
  obtain ⟨v, vs', rfl, h1, h2⟩ := h
  simp only [Lay] at h1
  rw [h1.1, lay_bytes h2]; rfl
theorem allR_bytes {w : World} {B : Nat} : ∀ bs : List UInt8, AllR (byteC.Rd w B) bs (bs.map fun b => Value.int .u8 (b.toNat : Int))
 | [] => rfl
 | b :: bs => ⟨[_], _, rfl, rfl, allR_bytes bs⟩
theorem rd_of_lay {ok : Nat → Prop} {w : World} {e : Nat} {bs : List UInt8} {v : Value} (h : Lay ok w (.sl e 1 bs.length (bs.flatMap fun b => [DV.int .u8 (b.toNat : Int)])) v) : ∃ A c, v = .slice A bs.length c ∧ bytesC.Rd w w.heap.size bs [.slice A bs.length c] := by
 simp only [Lay] at h
 obtain ⟨A, c, vs, rfl, h1, h2, h3, h4, h5, h6⟩ := h
 have hvs := lay_bytes h5
 subst hvs
 refine ⟨A, c, rfl, A, c, _, rfl, h1, h2, allR_bytes bs, fun hn => ?_⟩
 obtain ⟨b, off, e1, _, e3⟩ := h6 hn
 exact ⟨b, off, e1, cell_lt (e3 0 _ (by rw [List.getElem?_map, List.getElem?_eq_getElem hn]; rfl)), e3⟩
theorem own_of_slice {α : Type} {w : World} {e : Nat} {C' : Cod α} {enc : α → List DV} (he : e < 1000000) (hl : ∀ x, (enc x).length = C'.size) (hx : ∀ x cs f, C'.Own w x cs f → OwnL w (enc x) cs f) {xs : List α} {v : Value} {fp : List Nat} (h : (sliceC e C').Own w xs [v] fp) : Own w (.sl e C'.size xs.length (xs.flatMap enc)) v fp := by
 obtain ⟨u, cells, f, h1, h2, h3, h4⟩ := h
 simp only [List.cons.injEq, and_true] at h1
 subst h1
 have key : ∀ (xs : List α) (cs : List Value) (g : List Nat), AllO (C'.Own w) xs cs g → OwnL w (xs.flatMap enc) cs g := by
  intro xs
  induction xs with
  | nil => intro cs g h; obtain ⟨rfl, rfl⟩ := h; simp [OwnL]
  | cons x xs ih =>
   rintro cs g ⟨c1, c2, f1, f2, rfl, rfl, h1, h2⟩
   rw [List.flatMap_cons]
   exact ownL_append _ _ _ _ _ _ (hx _ _ _ h1) (ih _ _ h2)
 unfold Own
 exact ⟨_, _, h2, C'.pos, flat_len hl xs, rowE_of he h3, key _ _ _ h4⟩
theorem own_of_bytes {w : World} {bs : List UInt8} {v : Value} {fp : List Nat} (h : bytesC.Own w bs [v] fp) : Own w (.sl 5 1 bs.length (bs.flatMap fun b => [DV.int .u8 (b.toNat : Int)])) v fp :=
 own_of_slice (C' := byteC) (by decide) (fun _ => rfl) (fun x cs f h => by
  obtain ⟨rfl, rfl⟩ := h
  have := ownL_bytes w [x]
  simpa using this) h
theorem rel_blank {C : Ctx} {nt : Nat} {L : Lyt} {σ : St} {a : Act} {w : World} (h : Rel P C nt L σ a w) (r : Value) : Rel P C 1 L ⟨[], [], []⟩ ⟨#[r], []⟩ w where
 df := rfl
 sz := rfl
 tm := fun i v hv => by cases hv
 bx := fun i t cs h => by cases h
 ks := fun k c h => by cases h
 b1 := fun i x h => by cases h
 k1 := fun k c h => by cases h
 kn := fun k c h => by cases h
 bb := fun i j x y h => by cases h
 bk := fun i k x c h => by cases h
 kk := fun k j c d h => by cases h
 lk := fun k hk => by simp [St.tk] at hk
 lb := fun b hb => by simp [St.tb] at hb
 s0 := h.s0
 chg := h.chg
theorem ret_slice {C : Ctx} {nt : Nat} {L : Lyt} {σ : St} {a : Act} {w w' : World} (h : Rel P C nt L σ a w) {e sz m : Nat} {cs : List DV} {v : Value} {fp : List Nat} (r : Value) (ho : Own w' (.sl e sz m cs) v fp) (hf : Fresh w.heap.size fp) (hc : Chg [] w w') :
  ∃ L', L'.rv 0 = v ∧ Rel P C 1 L' ⟨[], [], [(0, some (KC.mk false e sz m cs))]⟩ ⟨#[r], []⟩ w' := by
 have h1 := (rel_blank h r).newkey' hc (k := 0) (c := KC.mk false e sz m cs) (v := v) (f := fp) rfl ho rfl hf.1 hf.2
 exact ⟨_, by simp, h1⟩
theorem enum_get (us : List SV) {i : Nat} {v : SV} (h : us[i]? = some v) : look (enumS 0 us) i = some v := by
 have key : ∀ (l : List SV) (j i : Nat), l[i]? = some v → look (enumS j l) (j + i) = some v := by
  intro l
  induction l with
  | nil => intro j i h; simp at h
  | cons u l ih =>
   intro j i h
   simp only [enumS, look_cons]
   cases i with
   | zero => simpa using h
   | succ i =>
    rw [if_neg (by omega), show j + (i + 1) = j + 1 + i by omega]
    exact ih (j + 1) i (by simpa using h)
 simpa using key us 0 i h
@[reducible] def ArgsAt (P : Program) (us : List SV) (w : World) (vals : List Value) : Prop := ∃ (C : Ctx) (L : Lyt), ∀ (i : Nat) (v : SV), us[i]? = some v → ∃ x, vals[i]? = some x ∧ SVr P C L w v x
theorem args_at {C : Ctx} {L : Lyt} {w : World} {us : List SV} {vals : List Value} (hl : vals.length = us.length) {bx : List (Nat × TypeId × List CV)} {ks : List (Nat × Option KC)} {nt : Nat} (hr : Rel P C nt L ⟨enumS 0 us, bx, ks⟩ ⟨vals.toArray, []⟩ w) : ArgsAt P us w vals := by
 refine ⟨C, L, fun i v hv => ?_⟩
 have hi : i < vals.length := by rw [hl]; exact (List.getElem?_eq_some_iff.1 hv).1
 refine ⟨vals[i], List.getElem?_eq_getElem hi, ?_⟩
 have h1 := hr.tm i v (enum_get us hv)
 have h2 : vals.toArray.getD i undef = vals[i] := by simp [Array.getD_eq_getD_getElem?, List.getElem?_eq_getElem hi]
 simpa only [h2] using h1
theorem kfn_slice {f : FuncId} {us : List SV} {e sz m : Nat} {cs : List DV} (h : ∀ (w : World) (vals : List Value), vals.length = us.length → ArgsAt P us w vals →
   Calls P f vals.toArray w fun x w' => ∃ v fp, x = .returned v ∧ Own w' (.sl e sz m cs) v fp ∧ Fresh w.heap.size fp ∧ Chg [] w w') :
  KFn P f us (.one (.key 0)) [(0, some (KC.mk false e sz m cs))] := by
 refine ⟨fun w S0 L vals hl hr => ?_⟩
 refine (h w vals hl (args_at hl hr)).mono ?_
 rintro x w' ⟨v, fp, rfl, ho, hf, hc⟩
 obtain ⟨L', h1, h2⟩ := ret_slice hr v ho hf hc
 refine ⟨_, .one (.key 0), ⟨[], [], _⟩, L', rfl, ⟨rfl, rfl⟩, ?_⟩
 exact h2.also (d := 0) (v := .one (.key 0)) (by simp only [SVr, CVr]; rw [h1]; rfl) (by simp [SV.keys, CV.keys, lkk, look_cons]) (by simp [SV.boxes])
def plainT (ts : List (DV × Value)) : Prop := ∀ t ∈ ts, ∀ (ok : Nat → Prop) (w : World), Lay ok w t.1 t.2
theorem kfn_tup {f : FuncId} {us : List SV} {e sz m : Nat} {cs : List DV} {ts : List (DV × Value)} (ht : plainT ts) (h : ∀ (w : World) (vals : List Value), vals.length = us.length → ArgsAt P us w vals →
   Calls P f vals.toArray w fun x w' => ∃ v fp, x = .returned (.tuple (v :: ts.map (·.2)).toArray) ∧ Own w' (.sl e sz m cs) v fp ∧ Fresh w.heap.size fp ∧ Chg [] w w') :
  KFn P f us (.tup ((false, [.key 0]) :: ts.map fun t => (false, [CV.dv [] t.1]))) [(0, some (KC.mk false e sz m cs))] := by
 refine ⟨fun w S0 L vals hl hr => ?_⟩
 refine (h w vals hl (args_at hl hr)).mono ?_
 rintro x w' ⟨v, fp, rfl, ho, hf, hc⟩
 obtain ⟨L', h1, h2⟩ := ret_slice hr (.tuple (v :: ts.map (·.2)).toArray) ho hf hc
 refine ⟨_, .tup ((false, [.key 0]) :: ts.map fun t => (false, [CV.dv [] t.1])), ⟨[], [], _⟩, L', rfl, ⟨rfl, rfl⟩, ?_⟩
 have key : ∀ ts : List (DV × Value), plainT ts → TVL ⟨w, S0, L.rv⟩ L' w' (ts.map fun t => (false, [CV.dv [] t.1])) (ts.map (·.2)) := by
  intro ts
  induction ts with
  | nil => intro _; rfl
  | cons t ts ih =>
   intro ht
   exact ⟨[t.2], t.2, _, rfl, ⟨t.2, [], rfl, ht t (by simp) _ _, rfl⟩, by simp, ih (fun u hu => ht u (by simp [hu]))⟩
 have kk : ∀ ts : List (DV × Value), ((ts.map fun t => (false, [CV.dv [] t.1])).flatMap fun t => t.2.flatMap CV.keys) = [] := by
  intro ts
  induction ts with
  | nil => rfl
  | cons t ts ih => simp only [List.map_cons, List.flatMap_cons, ih]; rfl
 refine h2.also (d := 0) ?_ ?_ (by simp [SV.boxes])
 ·simp only [SVr]
  refine ⟨_, by simp [Array.getD], [v], v, _, rfl, ⟨v, [], rfl, by simp only [CVr]; exact h1.symm, rfl⟩, by simp, key ts ht⟩
 ·intro k hk
  simp only [SV.keys, List.flatMap_cons, kk, CV.keys, List.flatMap_nil, List.append_nil, List.mem_singleton] at hk
  subst hk
  simp [lkk, look_cons]
theorem pfn_ret {f : FuncId} {us : List SV} {X : SV} {v : Value} (hX : X.plain = true) (hv : ∀ C L w, SVr P C L w X v) (h : ∀ (w : World) (vals : List Value), vals.length = us.length → ArgsAt P us w vals → Calls P f vals.toArray w (Ret v w)) : PFn P f us X := by
 refine ⟨fun w S0 L vals hl hr => ?_⟩
 refine (h w vals hl (args_at hl hr)).mono ?_
 rintro x w' ⟨rfl, hc⟩
 obtain ⟨p1, p2, p3, p4⟩ := sv_plain_ret hX
 refine ⟨_, X, ⟨[], [], []⟩, L, rfl, rfl, ?_⟩
 exact ((rel_blank hr v).grow hc).also (d := 0) (v := X) (by simpa [Array.getD] using hv _ _ _) (by rw [p2]; simp) (by rw [p3]; simp)
end
end Go.Proofs.Ytiibjeoapmhjmaa

namespace Go.Proofs.Ytiibjeoapmhjmaa
open Go.RowKit
open Go.Proofs

def byteV (b : UInt8) : Value := .int .u8 (b.toNat : Int)
theorem infoByte : (Try.prog.info? 5).map (fun i => (i.zero, i.size, i.bytes)) = some (some (.int .u8 0), 1, 1) := by kernel_rfl
theorem all_bytes {w : World} : ∀ (bs : List UInt8), AllO (byteC.Own w) bs (bs.map byteV) []
 | [] => ⟨rfl, rfl⟩
 | _ :: bs => ⟨_, _, [], [], rfl, rfl, ⟨rfl, rfl⟩, all_bytes bs⟩
theorem byte_at {w : World} {B : Nat} {bs : List UInt8} {A : Option Addr} {n c k : Nat} (h : bytesC.Rd w B bs [.slice A n c]) (hk : k < n) :
  ∃ b off v, A = some ⟨b, off, none⟩ ∧ b < B ∧ bs[k]? = some v ∧ w.cell? ⟨b, off + k, none⟩ = some (.int .u8 (v.toNat : Int)) := by
 have hl : k < bs.length := by rw [← rds_len h]; exact hk
 obtain ⟨b, off, ci, rfl, hb, hr, hc⟩ := rd_at h (List.getElem?_eq_getElem hl)
 have hci : ci = [.int .u8 ((bs[k]).toNat : Int)] := hr
 subst hci
 have := hc 0 _ rfl
 simp only [byteC, Nat.mul_one, Nat.add_zero] at this
 exact ⟨b, off, bs[k], rfl, hb, List.getElem?_eq_getElem hl, this⟩

theorem ret_bool {a b : Bool} (h : a = b) : Ending.returned (.bool a) = Ending.returned (.bool b) := by rw [h]
theorem ret_i64 {a b : Int} (h : a = b) : Ending.returned (.int .i64 a) = Ending.returned (.int .i64 b) := by rw [h]

end Go.Proofs.Ytiibjeoapmhjmaa

namespace Go.Proofs.Ytiibjeoapmhjmaa
open Go.RowKit
open Go.Proofs
theorem own_new {α : Type} {e : TypeId} {C : Cod α} {w : World} {k : Nat} (hk : k = w.heap.size) : (sliceC e C).Own (w.alloc (.cells #[] e)) [] [.slice (some ⟨k, 0, none⟩) 0 0] [k] :=
 ⟨_, [], [], rfl, rfl, own_empty (heap_alloc_eq hk), rfl, rfl⟩

theorem bytes_row {w : World} {bs : List UInt8} {A : Option Addr} {n c : Nat} (h : bytesC.Rd w w.heap.size bs [.slice A n c]) :
  n = bs.length ∧ n ≤ c ∧ c ≤ maxLen ∧ RowRd w A n 1 (bs.map byteV) ∧ (0 < n → ∃ b off, A = some ⟨b, off, none⟩ ∧ b < w.heap.size) := by
 obtain ⟨h1, h2, h3, cells, h4, h5, h6⟩ := rd_row h
 have : ∀ (bs : List UInt8) cells, AllR (byteC.Rd w w.heap.size) bs cells → cells = bs.map byteV := by
  intro bs
  induction bs with
  | nil => intro cells h; exact h
  | cons b bs ih => intro cells h; obtain ⟨c1, c2, e, g1, g2⟩ := h; rw [e, ih _ g2]; rw [show c1 = [.int .u8 (b.toNat : Int)] from g1]; rfl
 rw [this _ _ h4] at h5
 exact ⟨h1, h2, h3, h5, h6⟩

set_option maxHeartbeats 400000 in
theorem impl_copyBytes (w : World) (bs : List UInt8) (A : Option Addr) (n c : Nat) (hr : bytesC.Rd w w.heap.size bs [.slice A n c]) (hsz : n ≤ 1073741824) :
  Calls Try.prog 15 #[.slice A n c] w (RetV bytesC bs w) := by
 obtain ⟨hl, _, _, hrow, hlt⟩ := bytes_row hr
 have HL := Lib.hid hl
 clear hl hr
 go_enter Try.func15, Try.ntmps15
 go_wp2_with (first | (at_builtin; refine wpList_push byteC _ rfl _ _ _ rfl 5 _ 1 Try.underlying22 infoByte rfl _ 0 0 rfl [] [w.heap.size] (own_new (by simp)) A n c rfl bs [] (bs.map byteV) (hrow.chg hlt (Nat.le_refl _) ((Chg.refl _ _).alloc _)) (all_bytes _) HL.out (by simp) (by simp only [maxLen]; omega) (by omega) ?hk))
 case hk =>
  intro A' c' w1 fp hown hnd hfp hchg
  have H1 := Lib.hid hown
  have H2 := Lib.hid (((Chg.refl [] w).alloc _).andThen hchg (by simp))
  have H3 := Lib.hid hfp
  clear hown hchg hfp
  go_wp2
  go_ret
  exact ⟨A', n, c', fp, rfl, H1.out, ⟨hnd, fun b hb => by have h := H3.out b hb; (try simp at h); omega⟩, H2.out⟩

theorem all_take {α : Type} {r : α → List Value → Prop} {n : Nat} (h : ∀ x c, r x c → c.length = n) : ∀ (xs : List α) (cs : List Value) (j : Nat), AllR r xs cs → AllR r (xs.take j) (cs.take (j * n))
 | [], cs, j, hc => by simp [AllR] at hc; simp [hc, AllR]
 | x :: xs, _, 0, _ => by simp [AllR]
 | x :: xs, _, j + 1, ⟨c1, c2, e, h1, h2⟩ => by
  refine ⟨c1, c2.take (j * n), ?_, h1, all_take h xs c2 j h2⟩
  have hl := h _ _ h1
  rw [e, List.take_append, hl, List.take_of_length_le (by rw [hl, Nat.add_mul]; omega)]
  congr 2
  rw [Nat.add_mul]; omega
theorem rd_take {α : Type} {e : TypeId} {C : Cod α} {w : World} {B : Nat} {xs : List α} {A : Option Addr} {n c : Nat} (h : (sliceC e C).Rd w B xs [.slice A n c]) (j : Nat) (hj : j ≤ n) :
  (sliceC e C).Rd w B (xs.take j) [.slice A j c] := by
 obtain ⟨A', c', cells, e1, h2, h3, h4, h5⟩ := h
 simp only [List.cons.injEq, Value.slice.injEq, and_true] at e1
 obtain ⟨rfl, rfl, rfl⟩ := e1
 have hl : (xs.take j).length = j := by simp; omega
 refine ⟨A, c, cells.take (j * C.size), by rw [hl], by omega, h3, all_take (fun _ _ hr => C.rd_len hr) _ _ j h4, fun hp => ?_⟩
 obtain ⟨b, off, e1, e2, e3⟩ := h5 (by omega)
 refine ⟨b, off, e1, e2, fun i u hu => e3 i u ?_⟩
 rw [List.getElem?_take] at hu
 split at hu
 ·exact hu
 ·cases hu

end Go.Proofs.Ytiibjeoapmhjmaa

namespace Go.Proofs.Ytiibjeoapmhjmaa
open Go.RowKit
open Go.Proofs

abbrev intsC : Cod (List Int) := sliceC 3 intC
def hstep (acc v : Int) : Int := (acc * 1000003 + v % 2147483647 + 13) % 2147483647
def hashL (l : List Int) : Int := l.foldl hstep 11
theorem hstep_bd (acc v : Int) : 0 ≤ hstep acc v ∧ hstep acc v < 2147483647 := by unfold hstep; omega
theorem hash_bd (l : List Int) : ∀ acc : Int, 0 ≤ acc → acc < 2147483647 → 0 ≤ l.foldl hstep acc ∧ l.foldl hstep acc < 2147483647 := by
 induction l with
 | nil => intro acc h1 h2; exact ⟨h1, h2⟩
 | cons v l ih => intro acc _ _; exact ih _ (hstep_bd acc v).1 (hstep_bd acc v).2
theorem hash_range (l : List Int) : 0 ≤ hashL l ∧ hashL l < 2147483647 := hash_bd l 11 (by decide) (by decide)
theorem hash_snoc (l : List Int) (v : Int) : hashL (l ++ [v]) = hstep (hashL l) v := by simp [hashL]

theorem infoInt : (Try.prog.info? 3).map (fun i => (i.zero, i.size, i.bytes)) = some (some (.int .i64 0), 1, 8) := by kernel_rfl
theorem int_at {w : World} {B : Nat} {bs : List Int} {A : Option Addr} {n c k : Nat} (h : intsC.Rd w B bs [.slice A n c]) (hk : k < n) :
  ∃ b off v, A = some ⟨b, off, none⟩ ∧ b < B ∧ bs[k]? = some v ∧ w.cell? ⟨b, off + k, none⟩ = some (.int .i64 v) ∧ -9223372036854775808 ≤ v ∧ v ≤ 9223372036854775807 := by
 have hl : k < bs.length := by rw [← rds_len h]; exact hk
 obtain ⟨b, off, ci, rfl, hb, hr, hc⟩ := rd_at h (List.getElem?_eq_getElem hl)
 obtain ⟨rfl, h1, h2⟩ := hr
 have := hc 0 _ rfl
 simp only [intC, Nat.mul_one, Nat.add_zero] at this
 exact ⟨b, off, bs[k], rfl, hb, List.getElem?_eq_getElem hl, this, h1, h2⟩

theorem tmod_fix (v : Int) (h : v < 0) : (v.tmod 2147483647 < 0 ∧ v.tmod 2147483647 + 2147483647 = v % 2147483647) ∨ (v.tmod 2147483647 = 0 ∧ v % 2147483647 = 0) := by
 have h1 : v.tmod 2147483647 = - ((-v) % 2147483647) := by
  have := Int.tmod_eq_emod_of_nonneg (a := -v) (b := 2147483647) (by omega)
  rw [Int.neg_tmod] at this
  omega
 rw [h1]; omega

set_option maxHeartbeats 400000 in
theorem impl_Mod (w : World) (v : Int) (h1 : -9223372036854775808 ≤ v) (h2 : v ≤ 9223372036854775807) :
  Calls Try.prog 21 #[.int .i64 v, .int .i64 2147483647] w (fun e w' => e = .returned (.int .i64 (v % 2147483647)) ∧ w = w') := by
 by_cases hv : 0 ≤ v
 ·have h3 : 0 ≤ v % 2147483647 ∧ v % 2147483647 < 2147483647 := by omega
  obtain ⟨h4, h5⟩ := h3
  go_enter Try.func21, Try.ntmps21
  go_wp2
  go_ret
  exact ⟨rfl, rfl⟩
 ·have hv' : v < 0 := by omega
  rcases tmod_fix v hv' with ⟨g1, g2⟩ | ⟨g1, g2⟩
  ·have g3 : -2147483647 ≤ v.tmod 2147483647 := by omega
   have HG := Lib.hid g2
   clear g2
   go_enter Try.func21, Try.ntmps21
   go_wp2
   go_ret
   exact ⟨ret_i64 (by rw [← HG.out]), rfl⟩
  ·have HG := Lib.hid g2
   have g3 : (v.tmod 2147483647) ≤ 0 ∧ 0 ≤ v.tmod 2147483647 := by omega
   obtain ⟨g4, g5⟩ := g3
   have HG1 := Lib.hid g1
   clear g2 g1
   go_enter Try.func21, Try.ntmps21
   go_wp2
   go_ret
   exact ⟨ret_i64 (by rw [HG.out, HG1.out]), rfl⟩
theorem take_snoc {α : Type} (l : List α) (k : Nat) (v : α) (h : l[k]? = some v) : l.take (k + 1) = l.take k ++ [v] := by
 rw [List.take_add_one, h]; rfl

set_option maxHeartbeats 400000 in
theorem impl_Hash (w : World) (l : List Int) (A : Option Addr) (n c : Nat) (hr : intsC.Rd w w.heap.size l [.slice A n c]) (hn : n ≤ 1073741824) :
  Calls Try.prog 19 #[.slice A n c] w (fun e w' => e = .returned (.int .i64 (hashL l)) ∧ w = w') := by
 have HR := Lib.hid hr
 have HN := Lib.hid (rds_len hr)
 clear hr
 go_enter Try.func19, Try.ntmps19
 go_wp2
 go_loop [3, 8] (fun a i => ∃ k : Nat, k ≤ n ∧ i = .int .i64 k ∧ a = .int .i64 (hashL (l.take k))) (fun _ i => n - (intOf i).toNat)
 case atStart => exact ⟨0, Nat.zero_le _, rfl, rfl⟩
 case round =>
  obtain ⟨k, hk, rfl, rfl⟩ := hrel
  have hb := hash_range (l.take k)
  obtain ⟨hb1, hb2⟩ := hb
  by_cases hlt : k < n
  ·obtain ⟨b, off, v, rfl, hb, hv, hc, hv1, hv2⟩ := int_at HR.out hlt
   have HV := Lib.hid hv
   have HS := Lib.hid ((congrArg hashL (take_snoc l k v hv)).trans (hash_snoc _ v))
   clear hv
   go_wp2_with (first | (go_at_call 21; refine (impl_Mod _ v hv1 hv2).mono ?_; rintro e w' ⟨rfl, rfl⟩))
   go_round
   case rel => exact ⟨k + 1, by omega, by go_num, by rw [HS.out]; unfold hstep; first | rfl | go_num⟩
   case measure => simp [intOf]; omega
  ·obtain rfl : k = n := by omega
   go_wp2
   go_ret
   exact ⟨ret_i64 (by rw [List.take_of_length_le (by rw [← HN.out]; omega)]), rfl⟩
def b2i (n : Nat) (l : List UInt8) : List Int := (n : Int) :: l.map (fun b => (b.toNat : Int))
theorem b2i_snoc (n : Nat) (l : List UInt8) (b : UInt8) : b2i n (l ++ [b]) = b2i n l ++ [(b.toNat : Int)] := by simp [b2i]
theorem one_int {w : World} {v : Int} (h1 : -9223372036854775808 ≤ v) (h2 : v ≤ 9223372036854775807) : AllO (intC.Own w) [v] [.int .i64 v] [] := AllO.one ⟨rfl, rfl, h1, h2⟩
theorem own_ints1 {w : World} {v : Int} {k : Nat} (hk : k = w.heap.size) (h1 : -9223372036854775808 ≤ v) (h2 : v ≤ 9223372036854775807) :
  intsC.Own (w.alloc (.cells #[.int .i64 v] 3)) [v] [.slice (some ⟨k, 0, none⟩) 1 1] [k] :=
 own_mk (C := intC) (xs := [v]) (cells := [.int .i64 v]) (spare := []) (heap_alloc_eq hk) (one_int h1 h2) (by simp) (by simp [maxLen]) (by simp [intC])

set_option maxHeartbeats 400000 in
theorem impl_BytesToInts (w : World) (bs : List UInt8) (A : Option Addr) (n c : Nat) (hr : bytesC.Rd w w.heap.size bs [.slice A n c]) (hn : n ≤ 1073741824) :
  Calls Try.prog 20 #[.slice A n c] w (RetV intsC (b2i n bs) w) := by
 have HR := Lib.hid hr
 have HN := Lib.hid (rds_len hr)
 clear hr
 go_enter Try.func20, Try.ntmps20
 go_wp2
 go_loopw [3, 11] (fun o i wr => ∃ (k : Nat) (A' : Option Addr) (c' : Nat) (fp : List Nat), k ≤ n ∧ i = .int .i64 k ∧ o = .slice A' (k + 1) c' ∧ intsC.Own wr (b2i n (bs.take k)) [.slice A' (k + 1) c'] fp ∧ Fresh w.heap.size fp ∧ Chg [] w wr) (fun _ i _ => n - (intOf i).toNat)
 case atStart => exact ⟨0, _, _, [w.heap.size], Nat.zero_le _, rfl, rfl, own_ints1 rfl (by omega) (by omega), ⟨by simp, by simp⟩, (Chg.refl _ _).alloc _⟩
 case round =>
  obtain ⟨k, A', c', fp, hk, rfl, rfl, hown, hfr, hchg⟩ := hrel
  have HO := Lib.hid hown
  have HF := Lib.hid hfr
  have HC := Lib.hid hchg
  have hz := hchg.size
  clear hown hfr
  by_cases hlt : k < n
  ·obtain ⟨b, off, v, rfl, hb, hv, hc⟩ := byte_at HR.out hlt
   have h1 := (hchg.cell (off := off + k) hb (by simp)).trans hc
   have hv1 : (0 : Int) ≤ (v.toNat : Int) := by omega
   have hv2 : (v.toNat : Int) ≤ 255 := by have := v.toNat_lt; omega
   have HV := Lib.hid hv
   clear hv hchg hc
   go_wp2_with (first | (at_builtin; refine wpList_push intC _ rfl _ _ _ rfl 3 _ 8 Try.underlying24 infoInt rfl A' (k + 1) c' rfl (b2i n (bs.take k)) fp (own_chg0 HO.out ((Chg.refl _ _).alloc _)) (some ⟨wr.heap.size, 0, none⟩) 1 1 rfl [(v.toNat : Int)] [] [.int .i64 (v.toNat : Int)] (RowRd.new _ _ 1 1 3 rfl rfl) (one_int (by omega) (by omega)) rfl (by rw [List.append_nil]; exact HF.out.1) (by simp only [maxLen]; omega) (by omega) ?_; intro A1 c1 w2 fp1 hown hnd hfp hchg; have H1 := Lib.hid hown; have H2 := Lib.hid ((HC.out.alloc _).andThen hchg (fun x hx => .inr (HF.out.2 x hx))); have H3 := Lib.hid hfp; clear hown hchg hfp))
   go_roundw
   case rel =>
    refine ⟨k + 1, A1, c1, fp1, by omega, by go_num, rfl, ?_, ⟨hnd, fun x hx => ?_⟩, H2.out⟩
    ·rw [take_snoc bs k v HV.out, b2i_snoc]; exact H1.out
    ·rcases H3.out x hx with h | h | h
     ·exact HF.out.2 x h
     ·simp at h
     ·(try simp at h); omega
   case measure => simp [intOf]; omega
  ·obtain rfl : k = n := by omega
   clear hchg
   go_wp2
   go_ret
   have h := HO.out
   rw [List.take_of_length_le (by rw [← HN.out]; omega)] at h
   exact ⟨A', _, c', fp, rfl, h, HF.out, HC.out⟩
def checkV (number : Int) (bs : List UInt8) : Int := hashL ([101, number] ++ b2i bs.length bs)
theorem own_ints2 {w : World} {u v : Int} {k : Nat} (hk : k = w.heap.size) (h1 : -9223372036854775808 ≤ u) (h2 : u ≤ 9223372036854775807) (h3 : -9223372036854775808 ≤ v) (h4 : v ≤ 9223372036854775807) :
  intsC.Own (w.alloc (.cells #[.int .i64 u, .int .i64 v] 3)) [u, v] [.slice (some ⟨k, 0, none⟩) 2 2] [k] :=
 own_mk (C := intC) (xs := [u, v]) (cells := [.int .i64 u, .int .i64 v]) (spare := []) (heap_alloc_eq hk) (AllO.append [u] [v] [_] [_] [] [] (one_int h1 h2) (one_int h3 h4)) (by simp) (by simp [maxLen]) (by simp [intC])

set_option maxHeartbeats 400000 in
theorem impl_CheckSum (w : World) (v : Int) (bs : List UInt8) (A : Option Addr) (n c : Nat) (hr : bytesC.Rd w w.heap.size bs [.slice A n c]) (hn : n ≤ 536870912) (h1 : -9223372036854775808 ≤ v) (h2 : v ≤ 9223372036854775807) :
  Calls Try.prog 14 #[.int .i64 v, .slice A n c] w (Ret (.int .i64 (checkV v bs)) w) := by
 have HR := Lib.hid hr
 have HN := Lib.hid (rds_len hr)
 clear hr
 go_enter Try.func14, Try.ntmps14
 go_wp2_with fail
 refine (impl_BytesToInts _ bs A n c (rd_chg HR.out ((Chg.refl _ _).alloc _)) (by omega)).mono ?_
 rintro e w1 ⟨A1, n1, c1, fp, rfl, hown, hfr, hchg⟩
 have hn1 : n1 = n + 1 := by rw [own_len hown, HN.out]; simp [b2i]
 subst hn1
 obtain ⟨cells, f, hrow, hall, hf⟩ : ∃ cells f, RowRd w1 A1 (n + 1) 1 cells ∧ AllO (intC.Own w1) (b2i n bs) cells f ∧ (∀ b ∈ f, b ∈ fp) ∧ f.Nodup := by
  have := own_row hown hfr.1
  exact this
 have HC := Lib.hid (((Chg.refl [] w).alloc _).trans hchg)
 have HO := Lib.hid (own_chg0 (own_ints2 (w := w) (u := 101) (v := v) rfl (by omega) (by omega) h1 h2) hchg)
 have hgt : w.heap.size + 1 ≤ w1.heap.size := by have := hchg.size; simp at this; omega
 have HF := Lib.hid hfr
 have HL := Lib.hid hall
 have HFF := Lib.hid hf
 clear hown hfr hchg hall hf
 go_wp2_with (first | (at_builtin; refine wpList_push intC _ rfl _ _ _ rfl 3 _ 8 Try.underlying24 infoInt rfl (some ⟨w.heap.size, 0, none⟩) 2 2 rfl [101, v] [w.heap.size] HO.out A1 (n + 1) c1 rfl (b2i n bs) f cells hrow HL.out (by have := HN.out; simp [b2i]; omega) ?nd (by simp only [maxLen]; omega) (by omega) ?hk))
 case nd =>
  refine List.nodup_append.2 ⟨by simp, HFF.out.2, fun a ha b hb e => ?_⟩
  have h := HF.out.2 b (HFF.out.1 b hb)
  simp at ha h
  omega
 case hk =>
  intro A2 c2 w2 fp2 hown hnd hfp hchg
  have H1 := Lib.hid hown
  have H2 := Lib.hid (HC.out.andThen hchg (fun x hx => .inr (by simp at hx; omega)))
  clear hown hchg hfp
  go_wp2_with fail
  refine (impl_Hash _ ([101, v] ++ b2i n bs) A2 _ c2 (rd_own H1.out) (by omega)).mono ?_
  rintro e w' ⟨rfl, rfl⟩
  go_wp2
  go_ret
  exact ⟨ret_i64 (by rw [HN.out]; rfl), H2.out⟩

end Go.Proofs.Ytiibjeoapmhjmaa

namespace Go.Proofs.Ytiibjeoapmhjmaa
open Go.RowKit
open Go.Proofs

def uv (n : Nat) : List UInt8 := if n < 128 then [UInt8.ofNat n] else UInt8.ofNat (n % 128 + 128) :: uv (n / 128)
termination_by n
decreasing_by omega
theorem uv_small {n : Nat} (h : n < 128) : uv n = [UInt8.ofNat n] := by rw [uv, if_pos h]
theorem uv_big {n : Nat} (h : ¬ n < 128) : uv n = UInt8.ofNat (n % 128 + 128) :: uv (n / 128) := by rw [uv, if_neg h]
def appUO (b : List UInt8) (n : Int) : List UInt8 := if 0 ≤ n ∧ n ≤ 1000000000000 then b ++ uv n.toNat else b


theorem appU_inO {b : List UInt8} {n : Int} (h : 0 ≤ n ∧ n ≤ 1000000000000) : appUO b n = b ++ uv n.toNat := if_pos h
theorem appU_outO {b : List UInt8} {n : Int} (h : ¬ (0 ≤ n ∧ n ≤ 1000000000000)) : appUO b n = b := if_neg h
theorem impl_InRange_yes (w : World) (n lo hi : Int) (h1 : lo ≤ n) (h2 : n ≤ hi) : Calls Try.prog 18 #[.int .i64 n, .int .i64 lo, .int .i64 hi] w (fun e w' => e = .returned (.bool true) ∧ w = w') := by
 go_enter Try.func18, Try.ntmps18
 go_wp2
 go_ret
 exact ⟨rfl, rfl⟩
theorem impl_InRange_no (w : World) (n lo hi : Int) (h : n < lo ∨ hi < n) : Calls Try.prog 18 #[.int .i64 n, .int .i64 lo, .int .i64 hi] w (fun e w' => e = .returned (.bool false) ∧ w = w') := by
 by_cases h1 : n < lo
 ·clear h
  go_enter Try.func18, Try.ntmps18
  go_wp2
  go_ret
  exact ⟨rfl, rfl⟩
 ·have h2 : hi < n := by omega
  have h3 : lo ≤ n := by omega
  clear h
  go_enter Try.func18, Try.ntmps18
  go_wp2
  go_ret
  exact ⟨ret_bool (by simp; try omega), rfl⟩

theorem u8_of (x : Nat) : ((UInt8.ofNat x).toNat : Int) = ((x % 256 : Nat) : Int) := by simp
theorem one_byte {w : World} (b : UInt8) : AllO (byteC.Own w) [b] [.int .u8 (b.toNat : Int)] [] := AllO.one ⟨rfl, rfl⟩


/-! bits of integers that are not below 0 -/
set_option maxRecDepth 100000 in
set_option maxHeartbeats 400000 in
theorem impl_AppendUvarint (w : World) (bs : List UInt8) (A : Option Addr) (n c : Nat) (m : Int) (hr : bytesC.Rd w w.heap.size bs [.slice A n c]) (hn : n ≤ 16777216) :
  Calls Try.prog 12 #[.slice A n c, .int .i64 m] w (RetV bytesC (appUO bs m) w) := by
 have HR := Lib.hid hr
 have HN := Lib.hid (rds_len hr)
 clear hr
 by_cases hm : 0 ≤ m ∧ m ≤ 1000000000000
 ·have HU := Lib.hid (appU_inO (b := bs) hm)
  obtain ⟨hm1, hm2⟩ := hm
  go_enter Try.func12, Try.ntmps12
  go_wp2_with (first | (go_at_call 15; refine (impl_copyBytes _ bs A n c HR.out (by omega)).mono ?_; rintro e w1 ⟨A1, n1, c1, fp, rfl, hown, hfr, hchg⟩; have HO := Lib.hid hown; have HF := Lib.hid hfr; have HC := Lib.hid hchg; clear hown hfr hchg) | (go_at_call 18; refine (impl_InRange_yes _ _ _ _ (by omega) (by omega)).mono ?_; rintro e w' ⟨rfl, rfl⟩))
  have hn1 : n1 = n := (own_len HO.out).trans HN.out.symm
  subst hn1
  go_loopw [1, 5] (fun m' o wr => ∃ (k : Nat) (pre : List UInt8) (A' : Option Addr) (c' : Nat) (fp : List Nat), (k : Int) ≤ 1000000000000 ∧ m' = .int .i64 k ∧ o = .slice A' (n1 + pre.length) c' ∧ pre ++ uv k = uv m.toNat ∧ (pre.length : Int) + k ≤ 1000000000000 ∧ bytesC.Own wr (bs ++ pre) [.slice A' (n1 + pre.length) c'] fp ∧ Fresh w.heap.size fp ∧ Chg [] w wr) (fun m' _ _ => (intOf m').toNat)
  case atStart => exact ⟨m.toNat, [], A1, c1, fp, by omega, by rw [show ((m.toNat : Nat) : Int) = m by omega], rfl, rfl, by simp; omega, by simpa using HO.out, HF.out, HC.out⟩
  case round =>
   obtain ⟨k, pre, A', c', fp', hk, rfl, rfl, hpre, hpl, hown, hfr, hchg⟩ := hrel
   have HP := Lib.hid hpre
   have HO' := Lib.hid hown
   have HF' := Lib.hid hfr
   have HC' := Lib.hid hchg
   have hz := hchg.size
   clear hpre hown hfr hchg
   by_cases hlt : k < 128
   ·have HS : Hid (AllO (byteC.Own (wr.alloc (.cells #[.int .u8 (k : Int)] 5))) [UInt8.ofNat k] [.int .u8 (k : Int)] []) := by
     have h := one_byte (w := wr.alloc (.cells #[.int .u8 (k : Int)] 5)) (UInt8.ofNat k)
     rw [u8_of, Nat.mod_eq_of_lt (by omega)] at h
     exact h
    have HE := Lib.hid (uv_small hlt)
    go_wp2_with (first | (at_builtin; refine wpList_push byteC _ rfl _ _ _ rfl 5 _ 1 Try.underlying22 infoByte rfl A' (n1 + pre.length) c' rfl (bs ++ pre) fp' (own_chg0 HO'.out ((Chg.refl _ _).alloc _)) (some ⟨wr.heap.size, 0, none⟩) 1 1 rfl [UInt8.ofNat k] [] [.int .u8 (k : Int)] (RowRd.new _ _ 1 1 5 rfl rfl) HS.out rfl (by rw [List.append_nil]; exact HF'.out.1) (by simp only [maxLen]; omega) (by omega) ?_; intro A2 c2 w2 fp2 hown hnd hfp hchg; have H1 := Lib.hid hown; have H2 := Lib.hid ((HC'.out.alloc _).andThen hchg (fun x hx => .inr (HF'.out.2 x hx))); have H3 := Lib.hid hfp; clear hown hchg hfp))
    go_ret
    refine ⟨A2, _, c2, fp2, rfl, ?_, ⟨hnd, fun x hx => ?_⟩, H2.out⟩
    ·rw [HU.out, ← HP.out, HE.out, ← List.append_assoc]; exact H1.out
    ·rcases H3.out x hx with h | h | h
     ·exact HF'.out.2 x h
     ·simp at h
     ·(try simp at h); omega
   ·have hge : (128 : Int) ≤ (k : Int) := by omega
    have HS : Hid (AllO (byteC.Own (wr.alloc (.cells #[.int .u8 ((k : Int) % 128 + 128)] 5))) [UInt8.ofNat (k % 128 + 128)] [.int .u8 ((k : Int) % 128 + 128)] []) := by
     have h := one_byte (w := wr.alloc (.cells #[.int .u8 ((k : Int) % 128 + 128)] 5)) (UInt8.ofNat (k % 128 + 128))
     rw [u8_of, Nat.mod_eq_of_lt (a := k % 128 + 128) (b := 256) (by omega), show ((k % 128 + 128 : Nat) : Int) = (k : Int) % 128 + 128 by omega] at h
     exact h
    have HE := Lib.hid (uv_big hlt)
    go_wp2_with (first | (at_builtin; refine wpList_push byteC _ rfl _ _ _ rfl 5 _ 1 Try.underlying22 infoByte rfl A' (n1 + pre.length) c' rfl (bs ++ pre) fp' (own_chg0 HO'.out ((Chg.refl _ _).alloc _)) (some ⟨wr.heap.size, 0, none⟩) 1 1 rfl [UInt8.ofNat (k % 128 + 128)] [] [.int .u8 ((k : Int) % 128 + 128)] (RowRd.new _ _ 1 1 5 rfl rfl) HS.out rfl (by rw [List.append_nil]; exact HF'.out.1) (by simp only [maxLen]; omega) (by omega) ?_; intro A2 c2 w2 fp2 hown hnd hfp hchg; have H1 := Lib.hid hown; have H2 := Lib.hid ((HC'.out.alloc _).andThen hchg (fun x hx => .inr (HF'.out.2 x hx))); have H3 := Lib.hid hfp; clear hown hchg hfp))
    go_roundw
    case rel =>
     refine ⟨k / 128, pre ++ [UInt8.ofNat (k % 128 + 128)], A2, c2, fp2, by omega, by go_num, ?_, ?_, by simp; omega, ?_, ⟨hnd, fun x hx => ?_⟩, H2.out⟩
     ·simp [Nat.add_assoc]
     ·rw [← HP.out, HE.out]; simp
     ·have h := H1.out
      rw [List.append_assoc] at h
      simpa [Nat.add_assoc] using h
     ·rcases H3.out x hx with h | h | h
      ·exact HF'.out.2 x h
      ·simp at h
      ·(try simp at h); omega
    case measure => simp [intOf]; omega
 ·have HU := Lib.hid (appU_outO (b := bs) hm)
  have hm' : m < 0 ∨ 1000000000000 < m := by omega
  clear hm
  go_enter Try.func12, Try.ntmps12
  go_wp2_with (first | (go_at_call 15; refine (impl_copyBytes _ bs A n c HR.out (by omega)).mono ?_; rintro e w1 ⟨A1, n1, c1, fp, rfl, hown, hfr, hchg⟩; have HO := Lib.hid hown; have HF := Lib.hid hfr; have HC := Lib.hid hchg; clear hown hfr hchg) | (go_at_call 18; refine (impl_InRange_no _ _ _ _ hm').mono ?_; rintro e w' ⟨rfl, rfl⟩))
  go_ret
  exact ⟨A1, n1, c1, fp, rfl, by rw [HU.out]; exact HO.out, HF.out, HC.out⟩
end Go.Proofs.Ytiibjeoapmhjmaa

namespace Go.Proofs.Ytiibjeoapmhjmaa
open Go.RowKit
open Go.Proofs

theorem uv_lenO (n : Nat) : n ≤ 1000000000000 → (uv n).length ≤ 6 := by
 intro h
 by_cases h1 : n < 128
 ·rw [uv_small h1]; simp
 rw [uv_big h1]
 by_cases h2 : n / 128 < 128
 ·rw [uv_small h2]; simp
 rw [uv_big h2]
 by_cases h3 : n / 128 / 128 < 128
 ·rw [uv_small h3]; simp
 rw [uv_big h3]
 by_cases h4 : n / 128 / 128 / 128 < 128
 ·rw [uv_small h4]; simp
 rw [uv_big h4]
 by_cases h5 : n / 128 / 128 / 128 / 128 < 128
 ·rw [uv_small h5]; simp
 rw [uv_big h5]
 have h6 : n / 128 / 128 / 128 / 128 / 128 < 128 := by omega
 rw [uv_small h6]; simp
theorem appU_lenO (b : List UInt8) (n : Int) : (appUO b n).length ≤ b.length + 6 := by
 unfold appUO
 split
 ·rename_i h; have := uv_lenO n.toNat (by omega); simp; omega
 ·omega
def appBO (b d : List UInt8) : List UInt8 := appUO b d.length ++ d

set_option maxRecDepth 100000 in
set_option maxHeartbeats 400000 in
theorem impl_AppendBytes (w : World) (bs ds : List UInt8) (A : Option Addr) (n c : Nat) (B : Option Addr) (m d : Nat) (hr : bytesC.Rd w w.heap.size bs [.slice A n c]) (hd : bytesC.Rd w w.heap.size ds [.slice B m d]) (hn : n ≤ 8388608) (hm : m ≤ 8388608) :
  Calls Try.prog 13 #[.slice A n c, .slice B m d] w (RetV bytesC (appBO bs ds) w) := by
 obtain ⟨hl, _, _, hrow, hlt0⟩ := bytes_row hd
 have HN := Lib.hid (rds_len hr)
 have HM := Lib.hid hl
 have HR := Lib.hid hr
 clear hr hd hl
 go_enter Try.func13, Try.ntmps13
 go_wp2_with fail
 refine (impl_AppendUvarint _ bs A n c m HR.out (by omega)).mono ?_
 rintro e w1 ⟨A1, n1, c1, fp, rfl, hown, hfr, hchg⟩
 have hn1 : n1 ≤ 16777216 := by have h := own_len hown; have h2 := appU_lenO bs m; have h3 := HN.out; omega
 have hrow1 := hrow.chg hlt0 (Nat.le_refl _) hchg
 have HO := Lib.hid hown
 have HF := Lib.hid hfr
 have HC := Lib.hid hchg
 clear hown hfr hchg
 go_wp2_with (first | (at_builtin; refine wpList_push byteC _ rfl _ _ _ rfl 5 _ 1 Try.underlying22 infoByte rfl A1 n1 c1 rfl (appUO bs m) fp HO.out B m d rfl ds [] (ds.map byteV) hrow1 (all_bytes _) HM.out (by rw [List.append_nil]; exact HF.out.1) (by simp only [maxLen]; omega) (by omega) ?_; intro A2 c2 w2 fp2 hown hnd hfp hchg; have H1 := Lib.hid hown; have H2 := Lib.hid (HC.out.andThen hchg (fun x hx => .inr (HF.out.2 x hx))); have H3 := Lib.hid hfp; clear hown hchg hfp))
 go_ret
 refine ⟨A2, _, c2, fp2, rfl, by have h := H1.out; unfold appBO; rw [← HM.out]; exact h, ⟨hnd, fun b hb => ?_⟩, H2.out⟩
 rcases H3.out b hb with h | h | h
 ·exact HF.out.2 b h
 ·simp at h
 ·have := HC.out.size; omega
def rdF : Nat → Nat → Nat → List UInt8 → Option (Nat × Nat)
 | 0, _, _, _ => none
 | _ + 1, _, _, [] => none
 | f + 1, i, acc, x :: r =>
  if x.toNat < 128 then (if (0 < i ∧ x.toNat = 0) ∨ 1000000000000 < acc + (x.toNat % 128) * 2 ^ (7 * i) then none else some (acc + (x.toNat % 128) * 2 ^ (7 * i), i + 1))
  else rdF f (i + 1) (acc + (x.toNat % 128) * 2 ^ (7 * i)) r
def rdU (b : List UInt8) (off : Int) : Option (Nat × Nat) := if 0 ≤ off ∧ off < b.length then rdF 6 0 0 (b.drop off.toNat) else none
def retU (off : Int) : Option (Nat × Nat) → Value
 | none => .tuple #[.int .i64 0, .int .i64 0, .bool false]
 | some (v, k) => .tuple #[.int .i64 (v : Int), .int .i64 (off + (k : Int)), .bool true]


theorem rd_step (k acc : Nat) (hk : k < 6) (x : UInt8) (r : List UInt8) : rdF (6 - k) k acc (x :: r) =
  if x.toNat < 128 then (if (0 < k ∧ x.toNat = 0) ∨ 1000000000000 < acc + (x.toNat % 128) * 2 ^ (7 * k) then none else some (acc + (x.toNat % 128) * 2 ^ (7 * k), k + 1))
  else rdF (6 - (k + 1)) (k + 1) (acc + (x.toNat % 128) * 2 ^ (7 * k)) r := by
 rw [show 6 - k = (6 - (k + 1)) + 1 by omega]; rfl
theorem pow_le (k : Nat) (hk : k < 6) : 2 ^ (7 * k) ≤ 34359738368 := Nat.le_trans (Nat.pow_le_pow_right (by omega) (show 7 * k ≤ 35 by omega)) (by decide)
theorem acc_next {k acc x : Nat} (ha : acc < 2 ^ (7 * k)) : acc + (x % 128) * 2 ^ (7 * k) < 2 ^ (7 * (k + 1)) := by
 have h1 : x % 128 ≤ 127 := by omega
 have h2 : (x % 128) * 2 ^ (7 * k) ≤ 127 * 2 ^ (7 * k) := Nat.mul_le_mul_right _ h1
 rw [show 7 * (k + 1) = 7 * k + 7 by omega, Nat.pow_add]
 omega
theorem drop_at {α : Type} {l : List α} {i : Nat} {v : α} (h : l[i]? = some v) : l.drop i = v :: l.drop (i + 1) := by
 obtain ⟨h1, h2⟩ := List.getElem?_eq_some_iff.1 h
 rw [List.drop_eq_getElem_cons h1, h2]
theorem byte_adds (v : UInt8) (k : Nat) (hk : k < 6) : ∃ t : Nat, v.toNat % 128 * 2 ^ (7 * k) = t ∧ ((v.toNat : Int) % 128) * 2 ^ (7 * k) = (t : Int) ∧ (t : Int) ≤ 4398046511104 := by
 refine ⟨_, rfl, by push_cast; rfl, ?_⟩
 have h1 := pow_le k hk
 have h2 : v.toNat % 128 * 2 ^ (7 * k) ≤ 128 * 34359738368 := Nat.mul_le_mul (by omega) h1
 omega

set_option maxRecDepth 100000 in
set_option maxHeartbeats 1000000 in
theorem impl_ReadUvarint (w : World) (bs : List UInt8) (A : Option Addr) (n c : Nat) (off : Int) (hr : bytesC.Rd w w.heap.size bs [.slice A n c]) (hn : n ≤ 16777216) :
    Calls Try.prog 17 #[.slice A n c, .int .i64 off] w (fun e w' => e = .returned (retU off (rdU bs off)) ∧ w = w') := by
  have HR := Lib.hid hr
  have HN := Lib.hid (rds_len hr)
  clear hr
  by_cases hoff : 0 ≤ off ∧ off < n
  · have HU : Hid (rdU bs off = rdF 6 0 0 (bs.drop off.toNat)) := if_pos (by have := HN.out; omega)
    obtain ⟨h1, h2⟩ := hoff
    obtain ⟨o, rfl⟩ := Int.eq_ofNat_of_zero_le h1
    rw [Int.toNat_natCast] at HU
    have hd1 : decide ((o : Int) < 0) = false := decide_eq_false (by omega)
    go_enter Try.func17, Try.ntmps17
    go_wp2
    go_loop [4, 5, 6, 7, 8] (fun _ _ _ a i => ∃ k acc : Nat, k ≤ 6 ∧ i = .int .i64 k ∧ a = .int .i64 acc ∧ acc < 2 ^ (7 * k) ∧ rdF 6 0 0 (bs.drop o) = rdF (6 - k) k acc (bs.drop (o + k))) (fun _ _ _ _ i => 6 - (intOf i).toNat)
    case atStart => exact ⟨0, 0, by omega, rfl, rfl, by decide, rfl⟩
    case round =>
      obtain ⟨k, acc, hk, rfl, rfl, hacc, hrd⟩ := hrel
      have HA := Lib.hid hacc
      have HD := Lib.hid hrd
      by_cases hlt : k < 6 ∧ o + k < n
      · obtain ⟨g1, g2⟩ := hlt
        have hab : (acc : Int) ≤ 34359738368 := by have := pow_le k g1; omega
        clear hacc hrd
        obtain ⟨b, off', v, rfl, hb, hv, hc⟩ := byte_at HR.out g2
        obtain ⟨t, ht, htI, htb⟩ := byte_adds v k g1
        have hv1 : (0 : Int) ≤ (v.toNat : Int) := by omega
        have hv2 : (v.toNat : Int) ≤ 255 := by have := v.toNat_lt; omega
        have HV : Hid (rdF (6 - k) k acc (bs.drop (o + k)) = _) := (congrArg (rdF (6 - k) k acc) (drop_at hv)).trans (rd_step k acc g1 v _)
        rw [ht] at HV
        have HT := Lib.hid ht
        clear hv ht
        by_cases hx : v.toNat < 128
        · have hx1 : (v.toNat : Int) < 128 := by omega
          by_cases hbad : (0 < k ∧ v.toNat = 0) ∨ 1000000000000 < acc + t
          · have HF := Lib.hid (show rdU bs o = none by rw [HU.out, HD.out, HV.out, if_pos hx, if_pos hbad])
            have hbad1 : (0 < (k : Int) ∧ (v.toNat : Int) = 0) ∨ (1000000000000 : Int) < (acc : Int) + t := by omega
            clear hbad
            rcases hbad1 with ⟨g3, g4⟩ | g3
            · rw [g4] at hc
              have htz : t = 0 := by rw [← HT.out]; have : v.toNat = 0 := by omega
                                     rw [this]; simp
              subst htz
              rw [g4] at htI
              clear htI hx1 hv1 hv2 g4
              go_wp2
              go_ret3
              exact ⟨by rw [HF.out]; rfl, rfl⟩
            · go_wp2
              all_goals
                go_ret3
                exact ⟨by rw [HF.out]; rfl, rfl⟩
          · have HF := Lib.hid (show rdU bs o = some (acc + t, k + 1) by rw [HU.out, HD.out, HV.out, if_pos hx, if_neg hbad])
            have hgood : ((k : Int) ≤ 0 ∨ 1 ≤ (v.toNat : Int)) ∧ (acc : Int) + t ≤ 1000000000000 := by omega
            obtain ⟨g3, g4⟩ := hgood
            clear hbad
            have hval : Hid (Value.tuple #[.int .i64 ((acc : Int) + (t : Int)), .int .i64 ((o : Int) + (k : Int) + 1), .bool true] = retU o (some (acc + t, k + 1))) := by
              show _ = _
              simp [retU, Int.add_assoc]
            rcases g3 with g3 | g3
            all_goals
              go_wp2
              all_goals
                go_ret3
                first
                  | exact ⟨by rw [HF.out, ← hval.out]; rfl, rfl⟩
                  | (exfalso; rename_i h9 _; rcases h9 with h9 | h9 <;> first | omega | (have h10 : (v.toNat : Int) = 0 := eq_of_beq h9; omega))
        · have hx1 : (128 : Int) ≤ (v.toNat : Int) := by omega
          have HF := Lib.hid (show rdF (6 - k) k acc (bs.drop (o + k)) = rdF (6 - (k + 1)) (k + 1) (acc + t) (bs.drop (o + (k + 1))) by rw [HV.out, if_neg hx]; rfl)
          go_wp2
          refine ⟨⟨_, _, _, _, _, ⟨k + 1, by omega, rfl, acc + t, rfl, by rw [← HT.out]; exact acc_next HA.out, by rw [HD.out, HF.out]⟩, rfl, rfl, rfl, by go_num, by go_num⟩, by simp [intOf]; omega⟩
      · have HF := Lib.hid (show rdU bs o = none by
          rw [HU.out, HD.out]
          by_cases h6 : k = 6
          · subst h6; rfl
          · rw [List.drop_eq_nil_of_le (by have := HN.out; omega)]
            rw [show 6 - k = (6 - (k + 1)) + 1 by omega]; rfl)
        clear hacc hrd
        have hend : (6 : Int) ≤ (k : Int) ∨ ((k : Int) < 6 ∧ (n : Int) ≤ (o : Int) + (k : Int)) := by omega
        clear hlt
        rcases hend with g3 | ⟨g3, g4⟩
        all_goals
          go_wp2
          go_ret3
          exact ⟨by rw [HF.out]; rfl, rfl⟩
  · have HF := Lib.hid (show rdU bs off = none from if_neg (by have := HN.out; omega))
    have hout : off < 0 ∨ (0 ≤ off ∧ (n : Int) ≤ off) := by omega
    clear hoff
    rcases hout with g3 | ⟨g3, g4⟩
    all_goals
      go_enter Try.func17, Try.ntmps17
      go_wp2
      go_ret3
      exact ⟨by rw [HF.out]; rfl, rfl⟩
end Go.Proofs.Ytiibjeoapmhjmaa

namespace Go.Proofs.Ytiibjeoapmhjmaa
open Go.RowKit
open Go.Proofs

theorem rdF_some : ∀ (f i acc : Nat) (l : List UInt8) (v k : Nat), rdF f i acc l = some (v, k) → v ≤ 1000000000000 ∧ i < k ∧ k ≤ i + l.length
 | 0, _, _, _, _, _, h => by simp [rdF] at h
 | _ + 1, _, _, [], _, _, h => by simp [rdF] at h
 | f + 1, i, acc, x :: r, v, k, h => by
  unfold rdF at h
  split at h
  ·split at h
   ·cases h
   ·rename_i hb
    simp only [Option.some.injEq, Prod.mk.injEq] at h
    obtain ⟨rfl, rfl⟩ := h
    simp only [not_or] at hb
    refine ⟨by omega, by omega, by simp⟩
  ·have h2 := rdF_some f (i + 1) _ r v k h
   simp only [List.length_cons]
   omega
theorem rdU_some {bs : List UInt8} {off : Int} {v k : Nat} (h : rdU bs off = some (v, k)) : ∃ o p : Nat, off = o ∧ p = o + k ∧ 0 < k ∧ p ≤ bs.length ∧ v ≤ 1000000000000 := by
 unfold rdU at h
 split at h
 ·rename_i h1
  obtain ⟨h2, h3⟩ := h1
  have h4 := rdF_some _ _ _ _ _ _ h
  rw [List.length_drop] at h4
  exact ⟨off.toNat, off.toNat + k, by omega, rfl, by omega, by omega, h4.1⟩
 ·cases h
def rdB (bs : List UInt8) (off : Int) (most : Int) : Option (List UInt8 × Nat) :=
 match rdU bs off with
 | none => none
 | some (v, k) => if (v : Int) ≤ most ∧ off.toNat + k + v ≤ bs.length then some ((bs.drop (off.toNat + k)).take v, off.toNat + k + v) else none
def tailB : Option (List UInt8 × Nat) → List Value
 | none => [.int .i64 0, .bool false]
 | some (_, p) => [.int .i64 (p : Int), .bool true]
def headB : Option (List UInt8 × Nat) → List UInt8
 | none => []
 | some (d, _) => d
def RetT {α : Type} (C : Cod (List α)) (x : List α) (t : List Value) (w : World) (e : Ending) (w' : World) : Prop :=
 ∃ A n c fp, e = .returned (.tuple (Value.slice A n c :: t).toArray) ∧ C.Own w' x [.slice A n c] fp ∧ Fresh w.heap.size fp ∧ Chg [] w w'
theorem all_drop {α : Type} {r : α → List Value → Prop} {n : Nat} (h : ∀ x c, r x c → c.length = n) : ∀ (xs : List α) (cs : List Value) (j : Nat), AllR r xs cs → AllR r (xs.drop j) (cs.drop (j * n))
 | [], cs, j, hc => by simp [AllR] at hc; simp [hc, AllR]
 | x :: xs, cs, 0, hc => by simpa using hc
 | x :: xs, _, j + 1, ⟨c1, c2, e, h1, h2⟩ => by
  have hl := h _ _ h1
  rw [e, List.drop_succ_cons, Nat.add_mul, List.drop_append, List.drop_of_length_le (l := c1) (by rw [hl]; omega), List.nil_append, hl]
  rw [show j * n + 1 * n - n = j * n by omega]
  exact all_drop h xs c2 j h2
theorem rd_drop {α : Type} {e : TypeId} {C : Cod α} {w : World} {B : Nat} {xs : List α} {b o n c : Nat} (h : (sliceC e C).Rd w B xs [.slice (some ⟨b, o, none⟩) n c]) (j : Nat) (hj : j ≤ n) (hz : 0 < n) :
  (sliceC e C).Rd w B (xs.drop j) [.slice (some ⟨b, o + j * C.size, none⟩) (n - j) (c - j)] := by
 obtain ⟨A', c', cells, e1, h2, h3, h4, h5⟩ := h
 simp only [List.cons.injEq, Value.slice.injEq, and_true] at e1
 obtain ⟨rfl, rfl, rfl⟩ := e1
 refine ⟨_, _, cells.drop (j * C.size), by rw [List.length_drop], by rw [List.length_drop]; omega, by omega, all_drop (fun _ _ hr => C.rd_len hr) _ _ j h4, fun hp => ?_⟩
 obtain ⟨b', off, e1, e2, e3⟩ := h5 (by omega)
 cases e1
 refine ⟨b, o + j * C.size, rfl, e2, fun i u hu => ?_⟩
 rw [List.getElem?_drop] at hu
 rw [Nat.add_assoc]
 exact e3 _ u hu

theorem rd_zero {α : Type} {e : TypeId} {C : Cod α} {w : World} {B : Nat} {xs : List α} {A : Option Addr} {v c : Nat} (h : v = 0) (hc : c ≤ 9223372036854775807) : (sliceC e C).Rd w B (xs.take v) [.slice A v c] := by
 subst h
 exact ⟨A, c, [], rfl, Nat.zero_le _, hc, rfl, fun h => absurd h (Nat.lt_irrefl _)⟩
set_option maxRecDepth 100000 in
set_option maxHeartbeats 1000000 in
theorem impl_ReadBytes (w : World) (bs : List UInt8) (A : Option Addr) (n c : Nat) (off : Int) (most : Int) (hr : bytesC.Rd w w.heap.size bs [.slice A n c]) (hn : n ≤ 16777216) :
  Calls Try.prog 16 #[.slice A n c, .int .i64 off, .int .i64 most] w (RetT bytesC (headB (rdB bs off most)) (tailB (rdB bs off most)) w) := by
 have hN := rds_len hr
 have hU := impl_ReadUvarint w bs A n c off hr hn
 cases hu : rdU bs off with
 | none =>
  have HB := Lib.hid (show rdB bs off most = none by simp [rdB, hu])
  rw [hu, show retU off none = .tuple #[.int .i64 0, .int .i64 0, .bool false] from rfl] at hU
  have HU := Lib.hid hU
  clear hU hu hr hN
  go_enter Try.func16, Try.ntmps16
  go_wp2_with fail
  refine (HU.out).mono ?_
  rintro e w' ⟨rfl, rfl⟩
  go_wp2_with fail
  go_ret3
  rw [HB.out]
  exact ⟨_, _, _, [w.heap.size], rfl, own_new rfl, ⟨by simp, by simp⟩, (Chg.refl _ _).alloc _⟩
 | some vk =>
  obtain ⟨v, k⟩ := vk
  obtain ⟨o, p, rfl, hp, hk, hpl, hv⟩ := rdU_some hu
  have hcn := (rd_row hr).2.1
  have hcm := (rd_row hr).2.2.1
  obtain ⟨b, o', rfl, hb⟩ := (bytes_row hr).2.2.2.2 (by omega)
  have hRU : retU (o : Int) (some (v, k)) = .tuple #[.int .i64 (v : Int), .int .i64 (p : Int), .bool true] := by subst hp; simp [retU]
  rw [hu, hRU] at hU
  have HU := Lib.hid hU
  have HN := Lib.hid hN
  have hpn : p ≤ n := by omega
  have hcm2 : c ≤ 9223372036854775807 := by simp only [maxLen] at hcm; omega
  clear hRU hU hcm
  by_cases hok : (v : Int) ≤ most ∧ p + v ≤ n
  ·have HB := Lib.hid (show rdB bs o most = some ((bs.drop p).take v, p + v) by
    unfold rdB; rw [hu]; simp only [Int.toNat_natCast]; rw [← hp, if_pos (by omega)])
   have hD1 := rd_take (rd_drop hr p hpn (by omega)) v (by omega)
   rw [show byteC.size = 1 from rfl, Nat.mul_one] at hD1
   have HD := Lib.hid hD1
   clear hD1
   obtain ⟨h1, h2⟩ := hok
   have h3 : (v : Int) ≤ (n : Int) - (p : Int) := by omega
   clear hr hu hN hp
   go_enter Try.func16, Try.ntmps16
   go_wp2_with fail
   refine (HU.out).mono ?_
   rintro e w' ⟨rfl, rfl⟩
   go_wp2_with fail
   all_goals
    refine (impl_copyBytes _ ((bs.drop p).take v) _ v _ (by first | exact HD.out | exact rd_zero (by omega) (by omega)) (by omega)).mono ?_
    rintro e w1 ⟨A1, n1, c1, fp, rfl, hown, hfr, hchg⟩
    have HO := Lib.hid hown
    have HF := Lib.hid hfr
    have HC := Lib.hid hchg
    clear hown hfr hchg
    go_wp2_with fail
    go_ret3
    rw [HB.out]
    exact ⟨A1, n1, c1, fp, rfl, HO.out, HF.out, HC.out⟩
  ·have HB := Lib.hid (show rdB bs o most = none by
    unfold rdB; rw [hu]; simp only [Int.toNat_natCast]; rw [← hp, if_neg (by omega)])
   have hok' : most < (v : Int) ∨ ((v : Int) ≤ most ∧ (n : Int) - (p : Int) < (v : Int)) := by omega
   clear hok hr hu hN hp
   rcases hok' with h1 | ⟨h1, h2⟩
   all_goals
    go_enter Try.func16, Try.ntmps16
    go_wp2_with fail
    refine (HU.out).mono ?_
    rintro e w' ⟨rfl, rfl⟩
    go_wp2_with fail
    go_ret3
    rw [HB.out]
    exact ⟨_, _, _, [w.heap.size], rfl, own_new rfl, ⟨by simp, by simp⟩, (Chg.refl _ _).alloc _⟩
end Go.Proofs.Ytiibjeoapmhjmaa

namespace Go.Proofs.Ytiibjeoapmhjmaa
open Go.RowKit
open Go.Proofs

def logOut (bs : List UInt8) (v : Int) (ds : List UInt8) : List UInt8 := appUO (appBO bs ds) (checkV v ds)
def alBad (bs : List UInt8) (v : Int) (ds : List UInt8) : Prop := v < 0 ∨ 4000 < (logOut bs v ds).length
instance (bs : List UInt8) (v : Int) (ds : List UInt8) : Decidable (alBad bs v ds) := by unfold alBad; infer_instance
def alHead (bs : List UInt8) (v : Int) (ds : List UInt8) : List UInt8 := if alBad bs v ds then bs else logOut bs v ds
def alTail (bs : List UInt8) (v : Int) (ds : List UInt8) : List Value := if alBad bs v ds then [.bool false] else [.bool true]
theorem appB_lenO (bs ds : List UInt8) : (appBO bs ds).length ≤ bs.length + ds.length + 6 := by
 have h := appU_lenO bs ds.length
 unfold appBO
 simp only [List.length_append]
 omega

set_option maxRecDepth 100000 in
set_option maxHeartbeats 1000000 in
theorem impl_AppendLog (w : World) (bs ds : List UInt8) (v : Int) (A : Option Addr) (n c : Nat) (B : Option Addr) (m d : Nat) (hr : bytesC.Rd w w.heap.size bs [.slice A n c]) (hd : bytesC.Rd w w.heap.size ds [.slice B m d])
  (hn : n ≤ 2097152) (hm : m ≤ 2097152) (h1 : -9223372036854775808 ≤ v) (h2 : v ≤ 9223372036854775807) :
  Calls Try.prog 6 #[.slice A n c, .int .i64 v, .slice B m d] w (RetT bytesC (alHead bs v ds) (alTail bs v ds) w) := by
 have HN := Lib.hid (rds_len hr)
 have HM := Lib.hid (rds_len hd)
 have HR := Lib.hid hr
 have HD := Lib.hid hd
 clear hr hd
 go_enter Try.func6, Try.ntmps6
 go_wp2_with fail
 refine (impl_AppendBytes _ bs ds A n c B m d HR.out HD.out (by omega) (by omega)).mono ?_
 rintro e w1 ⟨A1, n1, c1, f1, rfl, hown, hfr, hchg⟩
 have hn1 : n1 ≤ 8388608 := by have h := own_len hown; have h2 := appB_lenO bs ds; have h3 := HN.out; have h4 := HM.out; omega
 have HO1 := Lib.hid hown
 have HF1 := Lib.hid hfr
 have HC1 := Lib.hid hchg
 clear hown hfr hchg
 go_wp2_with fail
 refine (impl_CheckSum _ v ds B m d (rd_chg HD.out HC1.out) (by omega) h1 h2).mono ?_
 rintro e w2 ⟨rfl, hchg⟩
 have HC2 := Lib.hid (HC1.out.trans hchg)
 have HO2 := Lib.hid (own_chg0 HO1.out hchg)
 have hck := hash_range ([101, v] ++ b2i ds.length ds)
 have HK := Lib.hid (show 0 ≤ checkV v ds ∧ checkV v ds < 2147483647 from hck)
 clear hchg hck
 go_wp2_with fail
 refine (impl_AppendUvarint _ (appBO bs ds) A1 n1 c1 (checkV v ds) (rd_own HO2.out) (by omega)).mono ?_
 rintro e w3 ⟨A3, n3, c3, f3, rfl, hown, hfr, hchg⟩
 have HL3 := Lib.hid (own_len hown)
 have HO3 := Lib.hid (show bytesC.Own w3 (logOut bs v ds) [.slice A3 n3 c3] f3 from hown)
 have HF3 := Lib.hid (hfr.mono HC2.out.size)
 have HC3 := Lib.hid (HC2.out.trans hchg)
 clear hown hfr hchg
 rcases (show v < 0 ∨ (0 ≤ v ∧ 4000 < (n3 : Int)) ∨ (0 ≤ v ∧ (n3 : Int) ≤ 4000) by omega) with g1 | ⟨g1, g2⟩ | ⟨g1, g2⟩
 ·have HB := Lib.hid (show alBad bs v ds from .inl g1)
  go_wp2_with fail
  refine (impl_copyBytes _ bs A n c (rd_chg HR.out HC3.out) (by omega)).mono ?_
  rintro e w4 ⟨A4, n4, c4, f4, rfl, hown, hfr, hchg⟩
  have HO4 := Lib.hid hown
  have HF4 := Lib.hid (hfr.mono HC3.out.size)
  have HC4 := Lib.hid (HC3.out.trans hchg)
  clear hown hfr hchg
  go_wp2_with fail
  go_ret2
  exact ⟨A4, n4, c4, f4, by rw [alTail, if_pos HB.out]; rfl, by rw [alHead, if_pos HB.out]; exact HO4.out, HF4.out, HC4.out⟩
 ·have HB := Lib.hid (show alBad bs v ds from .inr (by have h := HL3.out; have h2 : (appUO (appBO bs ds) (checkV v ds)).length = (logOut bs v ds).length := rfl; omega))
  go_wp2_with fail
  refine (impl_copyBytes _ bs A n c (rd_chg HR.out HC3.out) (by omega)).mono ?_
  rintro e w4 ⟨A4, n4, c4, f4, rfl, hown, hfr, hchg⟩
  have HO4 := Lib.hid hown
  have HF4 := Lib.hid (hfr.mono HC3.out.size)
  have HC4 := Lib.hid (HC3.out.trans hchg)
  clear hown hfr hchg
  go_wp2_with fail
  go_ret2
  exact ⟨A4, n4, c4, f4, by rw [alTail, if_pos HB.out]; rfl, by rw [alHead, if_pos HB.out]; exact HO4.out, HF4.out, HC4.out⟩
 ·have HB := Lib.hid (show ¬ alBad bs v ds by unfold alBad; have h := HL3.out; have h2 : (appUO (appBO bs ds) (checkV v ds)).length = (logOut bs v ds).length := rfl; omega)
  go_wp2_with fail
  go_ret2
  exact ⟨A3, n3, c3, f3, by rw [alTail, if_neg HB.out]; rfl, by rw [alHead, if_neg HB.out]; exact HO3.out, HF3.out, HC3.out⟩

end Go.Proofs.Ytiibjeoapmhjmaa

namespace Go.Proofs.Ytiibjeoapmhjmaa
open Go.RowKit
open Go.Proofs

abbrev bytessC : Cod (List (List UInt8)) := sliceC 22 bytesC
theorem infoBytes : (Try.prog.info? 22).map (fun i => (i.zero, i.size, i.bytes)) = some (some (.slice none 0 0), 1, 24) := by kernel_rfl

def rlog (bs : List UInt8) : Nat → Nat → List (List UInt8) → List (List UInt8) × Nat
 | 0, p, acc => (acc, p)
 | f + 1, p, acc => match rdB bs p 4000 with
  | none => (acc, p)
  | some (d, nx) => match rdU bs nx with
   | none => (acc, p)
   | some (s, k) => if (s : Int) = checkV acc.length d then rlog bs f (nx + k) (acc ++ [d]) else (acc, p)
theorem rdB_some {bs : List UInt8} {off : Int} {most : Int} {d : List UInt8} {nx : Nat} (h : rdB bs off most = some (d, nx)) : off < (nx : Int) ∧ nx ≤ bs.length ∧ d.length ≤ most ∧ d.length ≤ bs.length := by
 unfold rdB at h
 split at h
 ·cases h
 ·rename_i v k hu
  split at h
  ·rename_i hc
   obtain ⟨o, p, rfl, hp, hk, hpl, hv⟩ := rdU_some hu
   simp only [Option.some.injEq, Prod.mk.injEq, Int.toNat_natCast] at h hc
   obtain ⟨rfl, rfl⟩ := h
   simp only [List.length_take, List.length_drop]
   omega
  ·cases h
theorem rlog_none {bs : List UInt8} {f p : Nat} {acc : List (List UInt8)} (h : rdB bs p 4000 = none) : rlog bs (f + 1) p acc = (acc, p) := by simp [rlog, h]
theorem rlog_none2 {bs : List UInt8} {f p nx : Nat} {acc : List (List UInt8)} {d : List UInt8} (h : rdB bs p 4000 = some (d, nx)) (hu : rdU bs nx = none) : rlog bs (f + 1) p acc = (acc, p) := by simp [rlog, h, hu]
theorem rlog_bad {bs : List UInt8} {f p nx s k : Nat} {acc : List (List UInt8)} {d : List UInt8} (h : rdB bs p 4000 = some (d, nx)) (hu : rdU bs nx = some (s, k)) (hs : ¬ (s : Int) = checkV acc.length d) : rlog bs (f + 1) p acc = (acc, p) := by simp [rlog, h, hu, hs]
theorem rlog_go {bs : List UInt8} {f p nx s k : Nat} {acc : List (List UInt8)} {d : List UInt8} (h : rdB bs p 4000 = some (d, nx)) (hu : rdU bs nx = some (s, k)) (hs : (s : Int) = checkV acc.length d) : rlog bs (f + 1) p acc = rlog bs f (nx + k) (acc ++ [d]) := by simp [rlog, h, hu, hs]
def rl (bs : List UInt8) : List (List UInt8) × Nat := rlog bs (bs.length + 1) 0 []

set_option maxRecDepth 100000 in
set_option maxHeartbeats 1000000 in
theorem impl_ReadLog (w : World) (bs : List UInt8) (A : Option Addr) (n c : Nat) (hr : bytesC.Rd w w.heap.size bs [.slice A n c]) (hn : n ≤ 2097152) :
  Calls Try.prog 8 #[.slice A n c] w (RetT bytessC (rl bs).1 [.int .i64 ((rl bs).2 : Int)] w) := by
 have HN := Lib.hid (rds_len hr)
 have HR := Lib.hid hr
 clear hr
 go_enter Try.func8, Try.ntmps8
 go_wp2
 go_loopw [2, 3, 4, 5] (fun _ _ o a wr => ∃ (f p : Nat) (acc : List (List UInt8)) (A' : Option Addr) (no c' : Nat) (fp : List Nat), o = .slice A' no c' ∧ a = .int .i64 p ∧ p ≤ n ∧ n - p < f ∧ no ≤ p ∧ rl bs = rlog bs f p acc ∧ bytessC.Own wr acc [.slice A' no c'] fp ∧ Fresh w.heap.size fp ∧ Chg [] w wr) (fun _ _ _ a _ => n - (intOf a).toNat)
 case atStart => exact ⟨n + 1, 0, [], _, 0, 0, [w.heap.size], rfl, rfl, by omega, by omega, by omega, by rw [HN.out]; rfl, own_new rfl, ⟨by simp, by simp⟩, (Chg.refl _ _).alloc _⟩
 case round =>
  obtain ⟨f, p, acc, A', no, c', fp, rfl, rfl, hp, hf, hnp, heq, hown, hfr, hchg⟩ := hrel
  obtain ⟨f', rfl⟩ : ∃ f', f = f' + 1 := ⟨f - 1, by omega⟩
  have HE := Lib.hid heq
  have HO := Lib.hid hown
  have HF := Lib.hid hfr
  have HC := Lib.hid hchg
  have HL := Lib.hid (own_len hown)
  have hRB := impl_ReadBytes wr bs A n c p 4000 (rd_chg HR.out hchg) (by omega)
  clear heq hown hfr hchg
  cases hb : rdB bs p 4000 with
  | none =>
   rw [hb, show tailB none = [.int .i64 0, .bool false] from rfl] at hRB
   have HRB := Lib.hid hRB
   have HX := Lib.hid (HE.out.trans (rlog_none hb))
   clear hRB hb
   go_wp2_with fail
   refine (HRB.out).mono ?_
   rintro e w1 ⟨A1, n1, c1, f1, rfl, hown1, hfr1, hchg1⟩
   have HO1 := Lib.hid (own_chg0 HO.out hchg1)
   have HC1 := Lib.hid (HC.out.trans hchg1)
   clear hown1 hfr1 hchg1
   go_wp2_with fail
   go_ret2
   exact ⟨A', no, c', fp, by rw [HX.out]; rfl, by rw [HX.out]; exact HO1.out, HF.out, HC1.out⟩
  | some dn =>
   obtain ⟨d, nx⟩ := dn
   have hbd := rdB_some hb
   have hnx : p < nx ∧ nx ≤ n ∧ (d.length : Int) ≤ 4000 := by have := HN.out; omega
   obtain ⟨hx1, hx2, hx3⟩ := hnx
   rw [hb, show tailB (some (d, nx)) = [.int .i64 (nx : Int), .bool true] from rfl, show headB (some (d, nx)) = d from rfl] at hRB
   have HRB := Lib.hid hRB
   have HB := Lib.hid hb
   clear hRB hb hbd
   go_wp2_with fail
   refine (HRB.out).mono ?_
   rintro e w1 ⟨A1, n1, c1, f1, rfl, hown1, hfr1, hchg1⟩
   have HO1 := Lib.hid (own_chg0 HO.out hchg1)
   have HC1 := Lib.hid (HC.out.trans hchg1)
   have HD1 := Lib.hid hown1
   have HFD := Lib.hid hfr1
   have hn1 : n1 ≤ 4000 := by have := own_len hown1; omega
   have hz := hchg1.size
   have hUR := impl_ReadUvarint w1 bs A n c nx (rd_chg HR.out HC1.out) (by omega)
   clear hown1 hfr1 hchg1
   cases hu : rdU bs nx with
   | none =>
    rw [hu, show retU (nx : Int) none = .tuple #[.int .i64 0, .int .i64 0, .bool false] from rfl] at hUR
    have HUR := Lib.hid hUR
    have HX := Lib.hid (HE.out.trans (rlog_none2 HB.out hu))
    clear hUR hu
    go_wp2_with fail
    refine (HUR.out).mono ?_
    rintro e w2 ⟨rfl, rfl⟩
    go_wp2_with fail
    go_ret2
    exact ⟨A', no, c', fp, by rw [HX.out]; rfl, by rw [HX.out]; exact HO1.out, HF.out, HC1.out⟩
   | some sk =>
    obtain ⟨s, k⟩ := sk
    obtain ⟨o, q, ho, hq, hk, hql, hs⟩ := rdU_some hu
    have ho' : o = nx := by omega
    subst ho'
    have hqn : q ≤ n := by have := HN.out; omega
    rw [hu, show retU (o : Int) (some (s, k)) = .tuple #[.int .i64 (s : Int), .int .i64 (q : Int), .bool true] by rw [hq]; simp [retU]] at hUR
    have HUR := Lib.hid hUR
    have HQ := Lib.hid hq
    have HU := Lib.hid hu
    clear hUR hu hq ho hql
    go_wp2_with fail
    refine (HUR.out).mono ?_
    rintro e w2 ⟨rfl, rfl⟩
    go_wp2_with fail
    refine (impl_CheckSum _ no d A1 n1 c1 (rd_own HD1.out) (by omega) (by omega) (by omega)).mono ?_
    rintro e w3 ⟨rfl, hchg3⟩
    have HO3 := Lib.hid (own_chg0 HO1.out hchg3)
    have HC3 := Lib.hid (HC1.out.trans hchg3)
    have HD3 := Lib.hid (own_chg0 HD1.out hchg3)
    have hz3 := hchg3.size
    clear hchg3
    by_cases hsum : (s : Int) = checkV no d
    ·have HX := Lib.hid (HE.out.trans (rlog_go (f := f') HB.out HU.out (by rw [← HL.out]; exact hsum)))
     have HND := Lib.hid (HF.out.append HFD.out (bytessC.own_lt HO.out) HC.out.size)
     go_wp2_with (first | (at_builtin; refine wpList_push bytesC _ rfl _ _ _ rfl 22 _ 24 Try.underlying29 infoBytes rfl A' no c' rfl acc fp (own_chg0 HO3.out ((Chg.refl _ _).alloc _)) (some ⟨w3.heap.size, 0, none⟩) 1 1 rfl [d] f1 [.slice A1 n1 c1] (RowRd.new _ _ 1 1 _ rfl rfl) (AllO.one (own_chg0 HD3.out ((Chg.refl _ _).alloc _))) rfl HND.out.1 (by simp only [maxLen]; omega) (by omega) ?_; intro A2 c2 w4 fp2 hown hnd hfp hchg; have H1 := Lib.hid hown; have H2 := Lib.hid ((HC3.out.alloc _).andThen hchg (fun x hx => .inr (HF.out.2 x hx))); have H3 := Lib.hid hfp; have H4 := Lib.hid hnd; clear hown hchg hfp hnd))
     go_roundw
     case rel =>
      refine ⟨f', q, acc ++ [d], A2, no + 1, c2, fp2, by go_num, by go_num, hqn, by have := HQ.out; omega, by have := HQ.out; omega, by rw [HX.out, HQ.out], H1.out, ⟨H4.out, fun x hx => ?_⟩, H2.out⟩
      rcases H3.out x hx with h | h | h
      ·exact HND.out.2 x (by simp [h])
      ·exact HND.out.2 x (by simp [h])
      ·have := HC3.out.size; (try simp at h); omega
     case measure => have := HQ.out; simp [intOf]; omega
    ·have HX := Lib.hid (HE.out.trans (rlog_bad HB.out HU.out (by rw [← HL.out]; exact hsum)))
     go_wp2_with fail
     go_ret2
     exact ⟨A', no, c', fp, by rw [HX.out]; rfl, by rw [HX.out]; exact HO3.out, HF.out, HC3.out⟩
end Go.Proofs.Ytiibjeoapmhjmaa

namespace Go.Proofs.Ytiibjeoapmhjmaa
open Go.RowKit
open Go.Proofs

set_option maxRecDepth 100000 in
theorem impl_CountLog (w : World) (bs : List UInt8) (A : Option Addr) (n c : Nat) (hr : bytesC.Rd w w.heap.size bs [.slice A n c]) (hn : n ≤ 2097152) :
  Calls Try.prog 11 #[.slice A n c] w (Ret (.int .i64 ((rl bs).1.length : Int)) w) := by
 have HR := Lib.hid hr
 clear hr
 go_enter Try.func11, Try.ntmps11
 go_wp2_with fail
 refine (impl_ReadLog _ bs A n c HR.out hn).mono ?_
 rintro e w1 ⟨A1, n1, c1, f1, rfl, hown, hfr, hchg⟩
 have HL := Lib.hid (own_len hown)
 have HC := Lib.hid hchg
 clear hown hfr hchg
 go_wp2_with fail
 go_ret
 exact ⟨by rw [← HL.out]; rfl, HC.out⟩
theorem rlog_le (bs : List UInt8) : ∀ (f p : Nat) (acc : List (List UInt8)), p ≤ bs.length → (rlog bs f p acc).2 ≤ bs.length
 | 0, p, acc, h => h
 | f + 1, p, acc, h => by
  cases hb : rdB bs p 4000 with
  | none => rw [rlog_none hb]; exact h
  | some dn =>
   obtain ⟨d, nx⟩ := dn
   cases hu : rdU bs nx with
   | none => rw [rlog_none2 hb hu]; exact h
   | some sk =>
    obtain ⟨s, k⟩ := sk
    by_cases hs : (s : Int) = checkV acc.length d
    ·rw [rlog_go hb hu hs]
     obtain ⟨o, p', ho, hp, hk, hpl, hv⟩ := rdU_some hu
     exact rlog_le bs f _ _ (by omega)
    ·rw [rlog_bad hb hu hs]; exact h
theorem rl_le (bs : List UInt8) : (rl bs).2 ≤ bs.length := rlog_le bs _ 0 [] (by omega)

set_option maxRecDepth 100000 in
theorem impl_RepairLog (w : World) (bs : List UInt8) (A : Option Addr) (n c : Nat) (hr : bytesC.Rd w w.heap.size bs [.slice A n c]) (hn : n ≤ 2097152) :
  Calls Try.prog 10 #[.slice A n c] w (RetV bytesC (bs.take (rl bs).2) w) := by
 have hp := rl_le bs
 have hRL := impl_ReadLog w bs A n c hr hn
 have hl := rds_len hr
 obtain ⟨p, hp0⟩ : ∃ p, (rl bs).2 = p := ⟨_, rfl⟩
 rw [hp0] at hRL hp
 rw [hp0]
 have hcn := (rd_row hr).2.1
 have hpn : p ≤ n := by omega
 have HRL := Lib.hid hRL
 have HT := Lib.hid (rd_take hr p hpn)
 clear hr hRL hl hp
 go_enter Try.func10, Try.ntmps10
 go_wp2_with fail
 refine (HRL.out).mono ?_
 rintro e w1 ⟨A1, n1, c1, f1, rfl, hown, hfr, hchg⟩
 have HC := Lib.hid hchg
 clear hown hfr hchg
 go_wp2_with fail
 refine (impl_copyBytes _ (bs.take p) A p c (rd_chg HT.out HC.out) (by omega)).mono ?_
 rintro e w2 ⟨A2, n2, c2, f2, rfl, hown, hfr, hchg⟩
 have HO2 := Lib.hid hown
 have HF2 := Lib.hid (hfr.mono HC.out.size)
 have HC2 := Lib.hid (HC.out.trans hchg)
 clear hown hfr hchg
 go_wp2_with fail
 go_ret
 exact ⟨A2, n2, c2, f2, rfl, HO2.out, HF2.out, HC2.out⟩

end Go.Proofs.Ytiibjeoapmhjmaa

namespace Go.Proofs.Ytiibjeoapmhjmaa
open Go.RowKit
open Go.Proofs
set_option linter.unusedVariables false
set_option linter.unusedSimpArgs false
theorem rlog_cnt (bs : List UInt8) : ∀ (f p : Nat) (acc : List (List UInt8)), acc.length ≤ p → (rlog bs f p acc).1.length ≤ (rlog bs f p acc).2
 | 0, p, acc, h => h
 | f + 1, p, acc, h => by
  cases hb : rdB bs p 4000 with
  | none => rw [rlog_none hb]; exact h
  | some dn =>
   obtain ⟨d, nx⟩ := dn
   have hbs := rdB_some hb
   cases hu : rdU bs nx with
   | none => rw [rlog_none2 hb hu]; exact h
   | some sk =>
    obtain ⟨s, k⟩ := sk
    by_cases hs : (s : Int) = checkV acc.length d
    ·rw [rlog_go hb hu hs]
     exact rlog_cnt bs f _ _ (by rw [List.length_append]; simp only [List.length_cons, List.length_nil]; omega)
    ·rw [rlog_bad hb hu hs]; exact h
theorem rl_cnt (bs : List UInt8) : (rl bs).1.length ≤ bs.length ∧ (rl bs).2 ≤ bs.length := by
 have h1 := rlog_cnt bs (bs.length + 1) 0 [] (by simp)
 have h2 := rl_le bs
 have h3 : (rl bs).1.length ≤ (rl bs).2 := h1
 omega
theorem arg_bytes {P : Program} {us : List SV} {w : World} {vals : List Value} {bs : List UInt8} {i : Nat} (h : ArgsAt P us w vals) (hi : us[i]? = some (.one (.dv [] (bytesD bs)))) : ∃ A c, vals[i]? = some (.slice A bs.length c) ∧ bytesC.Rd w w.heap.size bs [.slice A bs.length c] := by
 obtain ⟨C, L, h⟩ := h
 obtain ⟨u, h1, h2⟩ := h i _ hi
 simp only [SVr, CVr] at h2
 obtain ⟨A, c, rfl, hr⟩ := rd_of_lay h2
 exact ⟨A, c, h1, hr⟩
theorem arg_int {P : Program} {us : List SV} {w : World} {vals : List Value} {n : Int} {i : Nat} (h : ArgsAt P us w vals) (hi : us[i]? = some (.one (.dv [] (.int .i64 n)))) : vals[i]? = some (.int .i64 n) := by
 obtain ⟨C, L, h⟩ := h
 obtain ⟨u, h1, h2⟩ := h i _ hi
 simp only [SVr, CVr, Lay] at h2
 rw [h1, h2.1]
theorem lay_i64 {ok : Nat → Prop} {w : World} {n : Int} (h1 : -9223372036854775808 ≤ n) (h2 : n ≤ 9223372036854775807) : Lay ok w (.int .i64 n) (.int .i64 n) := by
 simp only [Lay]
 exact ⟨trivial, h1, h2⟩
theorem lay_bool {ok : Nat → Prop} {w : World} {b : Bool} : Lay ok w (.bool b) (.bool b) := by
 simp only [Lay]
theorem cv_i64 {C : Ctx} {L : Lyt} {w : World} {n : Int} (h1 : -9223372036854775808 ≤ n) (h2 : n ≤ 9223372036854775807) : CVr C L w (.dv [] (.int .i64 n)) (.int .i64 n) := by
 simp only [CVr]
 exact lay_i64 h1 h2
theorem ok_impl_RepairLog {b : List UInt8} (hb : b.length ≤ 2097152) : KFn Try.prog 10 [.one (.dv [] (bytesD (b)))] (.one (.key 0)) [(0, some (kcOf false (bytesD (b.take (rl b).2))))] := by
 refine kfn_slice (fun w vals hl h => ?_)
 obtain ⟨A, c, h1, hr⟩ := arg_bytes (i := 0) (bs := b) h rfl
 obtain rfl : vals = [.slice A b.length c] := by
  match vals, hl with
  | [x], _ => simp at h1; rw [h1]
 refine (impl_RepairLog w b A b.length c hr hb).mono ?_
 rintro e w' ⟨A1, n1, c1, fp, rfl, ho, hf, hc⟩
 exact ⟨_, fp, rfl, own_of_bytes ho, hf, hc⟩
theorem ok_impl_CountLog {b : List UInt8} (hb : b.length ≤ 2097152) : PFn Try.prog 11 [.one (.dv [] (bytesD (b)))] (.one (.dv [] (.int .i64 ((rl b).1.length : Int)))) := by
 have hcn := rl_cnt b
 refine pfn_ret (v := .int .i64 ((rl b).1.length : Int)) rfl (fun C L w => ?_) (fun w vals hl h => ?_)
 ·simp only [SVr]; exact cv_i64 (by omega) (by omega)
 ·obtain ⟨A, c, h1, hr⟩ := arg_bytes (i := 0) (bs := b) h rfl
  obtain rfl : vals = [.slice A b.length c] := by
   match vals, hl with
   | [x], _ => simp at h1; rw [h1]
  exact impl_CountLog w b A b.length c hr hb
theorem ok_impl_ReadLog {b : List UInt8} (hb : b.length ≤ 2097152) : KFn Try.prog 8 [.one (.dv [] (bytesD (b)))] (.tup [(false, [.key 0]), (false, [.dv [] (.int .i64 ((rl b).2 : Int))])]) [(0, some (KC.mk false 22 1 (rl b).1.length ((rl b).1.flatMap fun d => [bytesD d])))] := by
 have hcn := rl_cnt b
 refine kfn_tup (ts := [(.int .i64 ((rl b).2 : Int), .int .i64 ((rl b).2 : Int))]) (fun t ht ok w => ?_) (fun w vals hl h => ?_)
 ·simp only [List.mem_cons, List.not_mem_nil, or_false] at ht
  subst ht
  exact lay_i64 (by omega) (by omega)
 ·obtain ⟨A, c, h1, hr⟩ := arg_bytes (i := 0) (bs := b) h rfl
  obtain rfl : vals = [.slice A b.length c] := by
   match vals, hl with
   | [x], _ => simp at h1; rw [h1]
  refine (impl_ReadLog w b A b.length c hr hb).mono ?_
  rintro e w' ⟨A1, n1, c1, fp, rfl, ho, hf, hc⟩
  refine ⟨_, fp, rfl, own_of_slice (e := 22) (C' := bytesC) (enc := fun d => [bytesD d]) (by decide) (fun _ => rfl) (fun x cs f h => ?_) ho, hf, hc⟩
  obtain ⟨v, rfl⟩ : ∃ v, cs = [v] := by
   obtain ⟨u, _, _, h1, _⟩ := h
   exact ⟨u, h1⟩
  simp only [OwnL]
  exact ⟨v, [], f, [], rfl, by simp, own_of_bytes h, rfl, rfl⟩
end Go.Proofs.Ytiibjeoapmhjmaa

namespace Go.Proofs.Ytiibjeoapmhjmaa
open Go.RowKit
open Go.Proofs
set_option linter.unusedVariables false
set_option linter.unusedSimpArgs false

section
variable {P : Program}
end
section
variable {P : Program} {C : Ctx} {nt : Nat} {σ : St} {L : Lyt} {a : Act} {w : World} {o : Oper} {x y y2 : Operand} {T : TT}
end
theorem ev_keyv' {P : Program} {C : Ctx} {nt : Nat} {σ : St} {x : Operand} {k : Nat} {c : KC} {d : DV} (h : Ev P C nt σ x (.one (.key k))) (hk : lkk σ k = some c) (hd : DV.sl c.e c.sz c.n c.cs = d) : Ev P C nt σ x (.one (.dv [k] d)) := by subst hd; exact ev_keyv h hk
end Go.Proofs.Ytiibjeoapmhjmaa

namespace Go.Proofs.Ytiibjeoapmhjmaa
open Go.RowKit
set_option linter.unusedVariables false
set_option linter.unusedSimpArgs false

section
variable {P : Program} {C : Ctx} {nt : Nat} {σ : St} {L : Lyt} {a : Act} {w : World} {o o1 o2 : Oper} {x y : Operand} {T : TT}
theorem weak_swap {tm : List (Nat × SV)} {bx : List (Nat × TypeId × List CV)} {ks : List (Nat × Option KC)} {s k k' : Nat} {c c' : KC} (hs : look tm s = some (.one (.key k))) (hk : lkk ⟨tm, bx, ks⟩ k = some c) (hk' : lkk ⟨tm, bx, ks⟩ k' = some c') (hne : k' ∉ [k]) (hh : c.h = false) :
  Weak P C nt ⟨tm, bx, ks⟩ ⟨(s, .one (.key k')) :: killT [k', k] [k', k] tm, killB [k', k] [k', k] bx, (k', some c) :: (k, none) :: ks⟩ := Weak.mk fun L a w hr => by
 have ho := (hr.ks k c hk).1
 have hsv := hr.tm s _ hs
 simp only [SVr, CVr] at hsv
 have hset := hr.setkey (k := k') (c := c') (c' := c) (js := [k]) (same := false) hk' hne (Chg.refl _ w) ho (hr.kn k c hk) (fun b hb => .inr (.inl ⟨k, by simp, hb⟩)) (by intro i hi'; simp only [List.mem_singleton] at hi'; subst hi'; exact Option.isSome_iff_exists.2 ⟨c, hk⟩) (by simp) (fun h => by rw [hh] at h; cases h)
 exact ⟨_, hset.also (d := s) (v := .one (.key k')) (by simp only [SVr, CVr, if_true]; exact hsv) (by simp [SV.keys, CV.keys, mut_key]) (by simp [SV.boxes])⟩
/-! ### keys in boxes -/
end
end Go.Proofs.Ytiibjeoapmhjmaa

namespace Go.Proofs.Ytiibjeoapmhjmaa
open Go.RowKit
set_option linter.unusedVariables false
set_option linter.unusedSimpArgs false

def SWX (b : Nat) (wb w : World) : Prop := wb.heap.size ≤ w.heap.size ∧ ∀ k, k < wb.heap.size → k ≠ b → w.heap[k]? = wb.heap[k]?
theorem SWX.refl (b : Nat) (w : World) : SWX b w w := ⟨Nat.le_refl _, fun _ _ _ => rfl⟩
theorem SWX.chg {b : Nat} {wb w w' : World} (h : SWX b wb w) (hc : Chg [b] w w') : SWX b wb w' := ⟨Nat.le_trans h.1 hc.size, fun k hk hn => (hc.block k (Nat.lt_of_lt_of_le hk h.1) (by simpa using hn)).trans (h.2 k hk hn)⟩
section
variable {P : Program} {C : Ctx} {nt : Nat} {Q : Exit → St → Prop} {all : Array Oper} {oB oK : List Nat} {listed : Array Bool} {fuel b : Nat} {tm : List (Nat × SV)} {bx : List (Nat × TypeId × List CV)} {ks : List (Nat × Option KC)} {o : Oper} {d : Nat} {v X : SV} {Ks Bs : List Nat} {g : Bool} {x y : Operand} {T : TT}
end
end Go.Proofs.Ytiibjeoapmhjmaa

namespace Go.Proofs.Ytiibjeoapmhjmaa
open Go.RowKit
open Go.Proofs
set_option linter.unusedVariables false
set_option linter.unusedSimpArgs false
section
variable {P : Program} {C : Ctx} {nt : Nat} {σ : St} {L : Lyt} {a : Act} {w : World} {o : Oper} {x y : Operand} {T : TT}
def EvParts (P : Program) (C : Ctx) (nt : Nat) (σ : St) (sz : Nat) : Nat → List (Nat × Operand) → List CV → Prop
 | _, [], cs => cs = []
 | i, (j, x) :: ps, cs => ∃ v p cs', j = i ∧ Ev P C nt σ x v ∧ v.part = some p ∧ svOk σ v = true ∧ p.2.length = sz ∧ cs = p.2 ++ cs' ∧ EvParts P C nt σ sz (i + 1) ps cs'
theorem ep_nil {sz i : Nat} : EvParts P C nt σ sz i [] [] := rfl
theorem ep_cons {sz i : Nat} {v : SV} {p : Bool × List CV} {ps : List (Nat × Operand)} {cs' : List CV} (hx : Ev P C nt σ x v) (hp : v.part = some p) (hk : svOk σ v = true) (hl : p.2.length = sz) (h : EvParts P C nt σ sz (i + 1) ps cs') : EvParts P C nt σ sz i ((i, x) :: ps) (p.2 ++ cs') := ⟨v, p, cs', rfl, hx, hp, hk, hl, rfl, h⟩
theorem fill_list (hr : Rel P C nt L σ a w) {sz : Nat} : ∀ {ps : List (Nat × Operand)} {i : Nat} {cs : List CV} {done rest : List Value}, EvParts P C nt σ sz i ps cs → done.length = i * sz → rest.length = ps.length * sz →
  ∃ us, Instr.fill (fun i => some (i * sz, sz)) (done ++ rest).toArray (ps.map fun q => (q.1, a.eval q.2)) = some (done ++ us).toArray ∧ CVL C L w cs us
 | [], i, cs, done, rest, h, hd, hl => by
  simp only [EvParts] at h; subst h
  have : rest = [] := List.eq_nil_of_length_eq_zero (by simpa using hl)
  subst this
  exact ⟨[], rfl, rfl⟩
 | (j, x) :: ps, i, cs, done, rest, ⟨v, p, cs', e, h1, h2, h3, h4, h5, h6⟩, hd, hl => by
  subst e; subst h5
  obtain ⟨xs, k1, k2, k3⟩ := sv_cells hr h2 h3 (h1.run L a w hr)
  have hxl : xs.length = sz := by rw [cvL_len k2]; exact h4
  rw [List.length_cons, Nat.add_mul, Nat.one_mul] at hl
  obtain ⟨us, g1, g2⟩ := fill_list hr (done := done ++ xs) (rest := rest.drop sz) h6 (by rw [List.length_append, hd, hxl, Nat.add_mul, Nat.one_mul]) (by rw [List.length_drop]; omega)
  refine ⟨xs ++ us, ?_, cvL_append k2 g2⟩
  rw [List.map_cons, fill_one (off := j * sz) (sz := sz) rfl k1 hxl (by rw [List.length_append]; omega)]
  have e : setR (j * sz) xs (done ++ rest) = done ++ xs ++ rest.drop sz := by
   unfold setR
   rw [← hd, List.take_left, hxl, List.drop_append]
   simp
  rw [e, g1, List.append_assoc]
theorem efg_buildN (hT : TTOk P T) {t e sz by_ d k n : Nat} {zc cs : List CV} {ds : List DV} {js : List Nat} {ps : List (Nat × Operand)} (ho : o.op = .buildSlice t n ps.toArray) (hd : o.dst = some d) (hn : Nat.blt d nt = true) (ht : look T.sl t = some e) (he : look T.el e = some (sz, by_, zc)) (hl0 : zc.length = sz) (hsz : Nat.blt 0 sz = true) (hsm : Nat.ble (n * sz) 16777216 = true) (hps : ps.length = n) (hn0 : Nat.blt 0 n = true)
  (hx : EvParts P C nt σ sz 0 ps cs) (how : OwCs σ cs ds js) (hnj : js.Nodup) (hkj : k ∉ js) (hcl : cs.length = n * sz) (hk : lkk σ k = none) :
  EfG P C nt o σ (fun σ' => σ' = (St.mut { σ with ks := (k, some ⟨false, e, sz, 0, []⟩) :: σ.ks } k js false ⟨false, e, sz, n, ds⟩).put d (.one (.key k))) := EfG.mk fun L a w hr K Q hK => by
 have hpos : 0 < sz := by simpa [Nat.blt_eq] using hsz
 have hnp : 0 < n := by simpa [Nat.blt_eq] using hn0
 have hsm' : n * sz ≤ 16777216 := by simpa [Nat.ble_eq] using hsm
 obtain ⟨inf, z, g1, g2, g3, g4, g5⟩ := hT.el e sz by_ zc he
 obtain ⟨us, f1, h2⟩ := fill_list hr (sz := sz) (done := []) (rest := ((List.range (n * sz)).map fun j => z.cells[j % z.cells.size]!)) hx (by simp) (by simp [hps])
 have hus : us.length = n * sz := by rw [cvL_len h2]; exact hcl
 obtain ⟨o1, o2, o3⟩ := owCs_own hr how h2
 have hchg : Chg [] w (w.alloc (.cells us.toArray e)) := (Chg.refl [] w).alloc _
 have hr1 := hr.newkey (k := k) (c := ⟨false, e, sz, 0, []⟩) (v := .slice none 0 0) (f := []) hk (own_nil w e sz hpos) rfl (by simp) (by simp) (by simp) (by simp)
 have hlj : ∀ j ∈ js, (lkk { σ with ks := (k, some ⟨false, e, sz, 0, []⟩) :: σ.ks } j).isSome = true := fun j hj => by
  have hjk : j ≠ k := fun e' => hkj (by rw [← e']; exact hj)
  have := o2 j hj
  simp only [lkk, look_cons, if_neg hjk] at this ⊢
  exact this
 have hlt : ∀ b ∈ js.flatMap L.fp, b < w.heap.size := ownL_lt _ _ _ o1
 have o1' : OwnL (w.alloc (.cells us.toArray e)) ds us (js.flatMap L.fp) := ownL_keep _ _ _ o1 (fun b hb => hchg.block b (hlt b hb) (by simp))
 have hset := hr1.setkey (k := k) (c := ⟨false, e, sz, 0, []⟩) (c' := ⟨false, e, sz, n, ds⟩) (js := js) (same := false) (w' := w.alloc (.cells us.toArray e)) (v' := .slice (some ⟨w.heap.size, 0, none⟩) n n) (f' := w.heap.size :: js.flatMap L.fp)
  (by simp [lkk, look_cons]) hkj (by simpa using hchg)
  (by
   unfold Own
   have hnm : n ≤ maxLen := by
    have : n * 1 ≤ n * sz := Nat.mul_le_mul_left _ hpos
    simp only [maxLen]; omega
   refine ⟨us, js.flatMap L.fp, rfl, hpos, by rw [o3, hcl], rowE_of (hT.lt e _ he) ⟨hus, .inr ⟨w.heap.size, n, us.toArray, rfl, Nat.zero_le _, alloc_last w _, Nat.le_refl _, hnm, by simp [hus], by rw [← hus]; simp⟩⟩, o1'⟩)
  (by
   rw [List.nodup_cons]
   exact ⟨fun hm => absurd (hlt _ hm) (by omega), nodup_flat hr hnj o2⟩)
  (fun b hb => by
   rcases List.mem_cons.1 hb with hb | hb
   ·exact .inr (.inr (by omega))
   ·obtain ⟨j, hj, hb'⟩ := List.mem_flatMap.1 hb
    have hjk : j ≠ k := fun e' => hkj (by rw [← e']; exact hj)
    exact .inr (.inl ⟨j, hj, by simpa [hjk] using hb'⟩)) hlj (by simp) (by simp)
 have hrun : (Instr.buildSlice t n (ps.map fun q => (q.1, a.eval q.2)).toArray).run P w = .ok (.slice (some ⟨w.heap.size, 0, none⟩) n n) (w.alloc (.cells us.toArray e)) := by
  refine run_buildSlice w t e n _ us.toArray inf z (hT.sl t e ht) g1 g4 (by rw [g2]; omega) (by rw [g2]; have := Nat.mul_pos hnp hpos; omega) ?_
  rw [g2]
  have e1 : ((Array.range (n * sz)).map fun j => z.cells[j % z.cells.size]!) = (((List.range (n * sz)).map fun j => z.cells[j % z.cells.size]!)).toArray := by
   apply Array.ext'
   simp
  rw [e1]
  simpa using f1
 refine wp_new (v := .slice (some ⟨w.heap.size, 0, none⟩) n n) (w' := w.alloc (.cells us.toArray e)) ?_ ?_
 ·unfold execOp
  simp only [ho, List.map_toArray, hrun, Sem.run_bind, Result.andThen_ok, Sem.run_pure]
 ·rw [hd]
  refine hK _ _ _ _ rfl (hset.put (v := .one (.key k)) (r := .slice (some ⟨w.heap.size, 0, none⟩) n n) (by simpa [Nat.blt_eq] using hn) (by simp [SVr, CVr]) (by simp [SV.keys, CV.keys, mut_key]) (by simp [SV.boxes])) ⟨hchg, fun i c hc => ?_, fun _ _ _ => rfl⟩
  have : i ≠ k := fun e => by rw [e, hk] at hc; cases hc
  simp [this]
end
section
variable {P : Program} {C : Ctx} {nt : Nat} {o : Oper} {x y : Operand} {T : TT} {Q : Exit → St → Prop} {all : Array Oper} {rest : List Oper} {tm : List (Nat × SV)} {bx : List (Nat × TypeId × List CV)} {ks : List (Nat × Option KC)}
theorem o_buildN (hT : TTOk P T) {t e sz by_ d k n : Nat} {zc cs : List CV} {ds : List DV} {js : List Nat} {ps : List (Nat × Operand)} (hg : o.guard = none) (hd : o.dst = some d) (ho : o.op = .buildSlice t n ps.toArray) (hn : Nat.blt d nt = true) (ht : look T.sl t = some e) (he : look T.el e = some (sz, by_, zc)) (hl0 : zc.length = sz) (hsz : Nat.blt 0 sz = true) (hsm : Nat.ble (n * sz) 16777216 = true) (hps : ps.length = n) (hn0 : Nat.blt 0 n = true)
  (hx : EvParts P C nt ⟨tm, bx, ks⟩ sz 0 ps cs) (how : OwCs ⟨tm, bx, ks⟩ cs ds js) (hnj : js.Nodup) (hkj : k ∉ js) (hcl : cs.length = n * sz) (hk : lkk ⟨tm, bx, ks⟩ k = none)
  (h : Ops P C nt Q all rest ⟨(d, .one (.key k)) :: killT (k :: js) (k :: js) tm, killB (k :: js) (k :: js) bx, (k, some ⟨false, e, sz, n, ds⟩) :: ((js.map fun j => (j, none)) ++ (k, some ⟨false, e, sz, 0, []⟩) :: ks)⟩) : Ops P C nt Q all (o :: rest) ⟨tm, bx, ks⟩ :=
 ops_ef1 hg (efg_buildN hT ho hd hn ht he hl0 hsz hsm hps hn0 hx how hnj hkj hcl hk).ef h
end
section
variable {P : Program} {C : Ctx} {nt : Nat} {o : Oper} {x y : Operand} {T : TT} {Q : Exit → St → Prop} {all : Array Oper} {tm : List (Nat × SV)} {bx : List (Nat × TypeId × List CV)} {ks : List (Nat × Option KC)} {oB oK : List Nat} {hd' : Nat → Bool} {listed : Array Bool} {fuel : Nat}
end
end Go.Proofs.Ytiibjeoapmhjmaa

namespace Go.Proofs.Ytiibjeoapmhjmaa
open Go.RowKit
open Go.Proofs
set_option linter.unusedVariables false
set_option linter.unusedSimpArgs false
structure OpsN (P : Program) (C : Ctx) (nt : Nat) (Q : Exit → St → Prop) (all : Array Oper) (oB oK nK : List Nat) (hd : Nat → Bool) (listed : Array Bool) (fuel : Nat) (σ : St) : Prop where
 run : ∀ wb L a w, Rel P C nt L σ a w → SW wb w → C.w0.heap.size ≤ wb.heap.size → (∀ i ∈ oB, L.bb i < wb.heap.size) → (∀ k ∈ oK, ∀ b ∈ L.fp k, b < wb.heap.size) → (∀ k ∈ nK, ∀ b ∈ L.fp k, wb.heap.size ≤ b) →
  wpAnyT P .any all (QQ P C nt Q) (SW wb) hd fuel listed a w
section
variable {P : Program} {C : Ctx} {nt : Nat} {Q : Exit → St → Prop} {all : Array Oper} {oB oK nK : List Nat} {listed : Array Bool} {fuel : Nat} {hd' : Nat → Bool} {tm : List (Nat × SV)} {bx : List (Nat × TypeId × List CV)} {ks : List (Nat × Option KC)} {o : Oper} {d : Nat} {v X : SV} {Ks Bs : List Nat} {σ : St} {x y : Operand} {T : TT}
theorem n_take (i : Nat) (hi : all[i]? = some o) (ht : takeB .any all hd' listed i = true) (hg : o.guard = none) (hd : o.dst = some d) (hp : Pu P C nt o ⟨tm, bx, ks⟩ v Ks Bs) (h1 : (Ks.all fun k => oK.contains k) = true) (h2 : (Bs.all fun k => oB.contains k) = true) (hn : Nat.blt d nt = true) (hk : svOk ⟨tm, bx, ks⟩ v = true)
  (h : OpsN P C nt Q all oB oK nK hd' (listed.setIfInBounds i true) fuel ⟨(d, v) :: tm, bx, ks⟩) : OpsN P C nt Q all oB oK nK hd' listed (fuel + 1) ⟨tm, bx, ks⟩ := ⟨fun wb L a w hr hs hw hB hK hN => by
 obtain ⟨r, h3, h4⟩ := pu_yields hr hs hw hB hK hp h1 h2
 refine T_take i (v := r) hi ht (fun _ _ _ h => h) hs (.inl ⟨by simp [Region.wanted, hg], h4⟩) ?_
 rw [hd]
 exact h.run wb L _ w (hr.put (by simpa [Nat.blt_eq] using hn) h3 (svOk_spec hk).1 (svOk_spec hk).2) hs hw hB hK hN⟩
end
section
variable {P : Program} {C : Ctx} {nt : Nat} {σ : St} {o : Oper} {x y : Operand}
end
end Go.Proofs.Ytiibjeoapmhjmaa

namespace Go.Proofs.Ytiibjeoapmhjmaa
open Go.RowKit
open Go.Proofs
set_option linter.unusedVariables false
set_option linter.unusedSimpArgs false
section
variable {P : Program} {C : Ctx} {nt : Nat} {σ : St} {L : Lyt} {a : Act} {w : World} {o : Oper} {x y u : Operand} {T : TT}
theorem ops_weak {Q : Exit → St → Prop} {all : Array Oper} {rest : List Oper} {σ' : St} (h : Weak P C nt σ σ') (k : Ops P C nt Q all rest σ') : Ops P C nt Q all rest σ := Ops.mk fun L a w hr => by
 obtain ⟨L', h'⟩ := h.run L a w hr
 exact k.run L' a w h'
end
/-! ### calls that change a key and hand it back -/
section
variable {P : Program} {C : Ctx} {nt : Nat} {σ : St} {L : Lyt} {a : Act} {w : World} {o : Oper} {x y u : Operand} {T : TT}
section
variable {Q : Exit → St → Prop} {all : Array Oper} {rest : List Oper} {tm : List (Nat × SV)} {bx : List (Nat × TypeId × List CV)} {ks : List (Nat × Option KC)} {d : Nat}
end
end
section
variable {P : Program} {C : Ctx} {nt : Nat} {o : Oper} {x y : Operand} {T : TT} {Q : Exit → St → Prop} {all : Array Oper} {tm : List (Nat × SV)} {bx : List (Nat × TypeId × List CV)} {ks : List (Nat × Option KC)} {oB oK nK : List Nat} {hd' : Nat → Bool} {listed : Array Bool} {fuel : Nat}
end
end Go.Proofs.Ytiibjeoapmhjmaa

namespace Go.Proofs.Ytiibjeoapmhjmaa
open Go.RowKit
set_option linter.unusedVariables false
section
variable {P : Program} {C : Ctx} {nt : Nat} {o : Oper} {x y : Operand} {T : TT} {Q : Exit → St → Prop} {N : St → Prop} {all : Array Oper} {rest : List Oper} {σ : St} {tm : List (Nat × SV)} {bx : List (Nat × TypeId × List CV)} {ks : List (Nat × Option KC)} {d t : Nat} {v : SV} {ty : TypeId} {ps : String} {af : Array Edge}
theorem yA (e : o = { dst := some d, op := .move (.tmp t), type := ty, pos := ps, after := af, guard := none }) (hl : look tm t = some v) (hk : (Nat.blt d nt && svOk ⟨tm, bx, ks⟩ v) = true) (h : Ops P C nt Q all rest ⟨(d, v) :: tm, bx, ks⟩) : Ops P C nt Q all (o :: rest) ⟨tm, bx, ks⟩ := o_pure (by rw [e]) (by rw [e]) (pu_move (.inl (by rw [e])) (ev_tmp hl)) (Bool.and_eq_true_iff.1 hk).1 (Bool.and_eq_true_iff.1 hk).2 h
theorem yB (e : o = { dst := some d, op := .assign (.tmp t), type := ty, pos := ps, after := af, guard := none }) (hl : look tm t = some v) (hk : (Nat.blt d nt && svOk ⟨tm, bx, ks⟩ v) = true) (h : Ops P C nt Q all rest ⟨(d, v) :: tm, bx, ks⟩) : Ops P C nt Q all (o :: rest) ⟨tm, bx, ks⟩ := o_pure (by rw [e]) (by rw [e]) (pu_move (.inr (by rw [e])) (ev_tmp hl)) (Bool.and_eq_true_iff.1 hk).1 (Bool.and_eq_true_iff.1 hk).2 h
theorem yC {s f off b i : Nat} (hT : TTOk P T) (e : o = { dst := some d, op := .fieldAddr s (.tmp t) f, type := ty, pos := ps, after := af, guard := none }) (h1 : look T.of (1000 * s + f) = some off) (hf : Nat.blt f 1000 = true) (hl : look tm t = some (.box b i)) (hk : (Nat.blt d nt && svOk ⟨tm, bx, ks⟩ (.box b (i + off))) = true) (h : Ops P C nt Q all rest ⟨(d, .box b (i + off)) :: tm, bx, ks⟩) : Ops P C nt Q all (o :: rest) ⟨tm, bx, ks⟩ := o_pure (by rw [e]) (by rw [e]) (pu_fieldBox hT (by rw [e]) h1 hf (ev_tmp hl)) (Bool.and_eq_true_iff.1 hk).1 (Bool.and_eq_true_iff.1 hk).2 h
theorem yD {s n b i t' : Nat} {cs : List CV} (hT : TTOk P T) (e : o = { dst := some d, op := .load s (.tmp t), type := ty, pos := ps, after := af, guard := none }) (h1 : look T.ag s = some n) (hl : look tm t = some (.box b i)) (hb : look bx b = some (t', cs)) (h2 : Nat.ble (i + n) cs.length = true) (hk : (Nat.blt d nt && svOk ⟨tm, bx, ks⟩ (.agg (sub i n cs))) = true) (h : Ops P C nt Q all rest ⟨(d, .agg (sub i n cs)) :: tm, bx, ks⟩) : Ops P C nt Q all (o :: rest) ⟨tm, bx, ks⟩ := o_pure (by rw [e]) (by rw [e]) (pu_loadBoxA hT (by rw [e]) h1 (ev_tmp hl) hb h2) (Bool.and_eq_true_iff.1 hk).1 (Bool.and_eq_true_iff.1 hk).2 h
theorem yE {s b i t' : Nat} {cs : List CV} {c : CV} {u : Unit} (hT : TTOk P T) (e : o = { dst := some d, op := .load s (.tmp t), type := ty, pos := ps, after := af, guard := none }) (h1 : look T.on s = some u) (hl : look tm t = some (.box b i)) (hb : look bx b = some (t', cs)) (h2 : cs[i]? = some c) (hk : (Nat.blt d nt && svOk ⟨tm, bx, ks⟩ (.one c)) = true) (h : Ops P C nt Q all rest ⟨(d, .one c) :: tm, bx, ks⟩) : Ops P C nt Q all (o :: rest) ⟨tm, bx, ks⟩ := o_pure (by rw [e]) (by rw [e]) (pu_loadBox1 hT (by rw [e]) h1 (ev_tmp hl) hb h2) (Bool.and_eq_true_iff.1 hk).1 (Bool.and_eq_true_iff.1 hk).2 h
theorem yG {k : IntKind} {n : Int} (e : o = { dst := some d, op := .assign (.const (.int k n)), type := ty, pos := ps, after := af, guard := none }) (h1 : (decide (k.min ≤ n) && decide (n ≤ k.max)) = true) (hk : (Nat.blt d nt && svOk ⟨tm, bx, ks⟩ (.one (.dv [] (.int k n)))) = true) (h : Ops P C nt Q all rest ⟨(d, .one (.dv [] (.int k n))) :: tm, bx, ks⟩) : Ops P C nt Q all (o :: rest) ⟨tm, bx, ks⟩ := o_pure (by rw [e]) (by rw [e]) (pu_move (.inr (by rw [e])) (ev_int (inR_lit h1))) (Bool.and_eq_true_iff.1 hk).1 (Bool.and_eq_true_iff.1 hk).2 h
theorem yH {b : Bool} (e : o = { dst := some d, op := .assign (.const (.bool b)), type := ty, pos := ps, after := af, guard := none }) (hk : (Nat.blt d nt && svOk ⟨tm, bx, ks⟩ (.one (.dv [] (.bool b)))) = true) (h : Ops P C nt Q all rest ⟨(d, .one (.dv [] (.bool b))) :: tm, bx, ks⟩) : Ops P C nt Q all (o :: rest) ⟨tm, bx, ks⟩ := o_pure (by rw [e]) (by rw [e]) (pu_move (.inr (by rw [e])) ev_bool) (Bool.and_eq_true_iff.1 hk).1 (Bool.and_eq_true_iff.1 hk).2 h
theorem yR {id : Nat} {l : List Oper} {c : Code} (h : Ops P C nt (thenQ (Ok P C nt Q c) Q) l.toArray l σ) : Ok P C nt Q (.seq (.region id l.toArray false) c) σ := ok_seq (ok_region h)
theorem yN (h : N σ) : Ops P C nt (thenQ N Q) all [] σ := ops_nil (then_n h)
theorem yO {Ks Bs : List Nat} (hg : o.guard = none) (hd : o.dst = some d) (hp : Pu P C nt o ⟨tm, bx, ks⟩ v Ks Bs) (hk : (Nat.blt d nt && svOk ⟨tm, bx, ks⟩ v) = true) (h : Ops P C nt Q all rest ⟨(d, v) :: tm, bx, ks⟩) : Ops P C nt Q all (o :: rest) ⟨tm, bx, ks⟩ := o_pure hg hd hp (Bool.and_eq_true_iff.1 hk).1 (Bool.and_eq_true_iff.1 hk).2 h
theorem yS {s b i t' t2 sz by_ : Nat} {zc cs : List CV} {p : Bool × List CV} (hT : TTOk P T) (e : o = { dst := none, op := .store s (.tmp t) (.tmp t2), type := ty, pos := ps, after := af, guard := none }) (ht : look T.el s = some (sz, by_, zc)) (hx : look tm t = some (.box b i)) (hy : look tm t2 = some v) (hp : v.part = some p)
  (hb : look bx b = some (t', cs)) (hl : p.2.length = sz) (hk : (svOk ⟨tm, bx, ks⟩ v && (Nat.ble (i + sz) cs.length && (cs.flatMap CV.keys).all (fun k => (lkk ⟨tm, bx, ks⟩ k).isSome))) = true) (h : Ops P C nt Q all rest ⟨tm, (b, t', setR i p.2 cs) :: bx, ks⟩) : Ops P C nt Q all (o :: rest) ⟨tm, bx, ks⟩ := by
 simp only [Bool.and_eq_true] at hk
 exact o_store hT (by rw [e]) (by rw [e]) (by rw [e]) ht (ev_tmp hx) (ev_tmp hy) hp hk.1 hb hl hk.2.1 hk.2.2 h
theorem yF {c : Code} {cs : List CV} {K : List Nat} {dd : DV} (t i : Nat) (hl : look σ.tm t = some (.agg cs)) (hi : cs[i]? = some (.dv K dd)) (h : Fact dd → Ok P C nt Q c σ) : Ok P C nt Q c σ := ok_factA (x := .tmp t) i (ev_tmp hl) hi h
theorem yX {s : TypeId} {p : Bool × List CV} (e : o = { dst := some d, op := .box s (.tmp t), type := ty, pos := ps, after := af, guard := none }) (hl : look tm t = some v) (hp : v.part = some p) (hk : svOk ⟨tm, bx, ks⟩ v = true) (hn : Nat.blt d nt = true) (hi : look bx d = none)
  (h : Ops P C nt Q all rest ⟨(d, .box d 0) :: tm, (d, s, p.2) :: bx, ks⟩) : Ops P C nt Q all (o :: rest) ⟨tm, bx, ks⟩ := o_box (by rw [e]) (by rw [e]) (by rw [e]) (ev_tmp hl) hp hk hn hi h
theorem kk : (∀ (α β : Type) (f : α → β) (a : α) (l : List α), (a :: l).map f = f a :: l.map f) ∧ (∀ (α β : Type) (f : α → β), ([] : List α).map f = []) ∧ (∀ (p : Nat → Bool) (a : Nat) (l : List Nat), (a :: l).any p = (p a || l.any p)) ∧ (∀ p : Nat → Bool, ([] : List Nat).any p = false) ∧ (∀ (a b : Nat) (l : List Nat), (a :: l).contains b = (b == a || l.contains b)) ∧ (∀ b : Nat, ([] : List Nat).contains b = false) ∧
  (∀ (α : Type) (l : List α), [] ++ l = l) ∧ (∀ (α : Type) (a : α) (l m : List α), a :: l ++ m = a :: (l ++ m)) ∧ (∀ b, (b || false) = b) ∧ (∀ b, (false || b) = b) ∧ (∀ b, (b || true) = true) ∧ (∀ b, (true || b) = true) ∧ (∀ (α : Type) (a b : α), (bif true then a else b) = a) ∧ (∀ (α : Type) (a b : α), (bif false then a else b) = b) := by
 refine ⟨fun _ _ _ _ _ => rfl, fun _ _ _ => rfl, fun _ _ _ => rfl, fun _ => rfl, fun a b l => List.contains_cons, fun _ => rfl, fun _ _ => rfl, fun _ _ _ _ => rfl, ?_, ?_, ?_, ?_, fun _ _ _ => rfl, fun _ _ _ => rfl⟩ <;> (intro b; cases b <;> rfl)
theorem yQ {c c' : Code} {K : List Nat} {b : Bool} (hl : look σ.tm t = some (.one (.dv K (.bool b)))) (h1 : b = true → Ok P C nt Q c σ) (h2 : b = false → Ok P C nt Q c' σ) : Ok P C nt Q (.cond (.tmp t) c c') σ := ok_cond (ev_tmp hl) h1 h2
theorem yP {ty' s : TypeId} {K : List Nat} {m n : Int} (e : o = { dst := some d, op := .binOp .add s (.tmp t) (.const (.int .i64 n)) ty', type := ty, pos := ps, after := af, guard := none }) (hl : look tm t = some (.one (.dv K (.int .i64 m)))) (hi : (decide (IntKind.i64.min ≤ n) && decide (n ≤ IntKind.i64.max)) = true) (h1 : -9223372036854775808 ≤ m + n) (h2 : m + n ≤ 9223372036854775807) (hk : (Nat.blt d nt && svOk ⟨tm, bx, ks⟩ (.one (.dv [] (.int .i64 (m + n))))) = true) (h : Ops P C nt Q all rest ⟨(d, .one (.dv [] (.int .i64 (m + n)))) :: tm, bx, ks⟩) : Ops P C nt Q all (o :: rest) ⟨tm, bx, ks⟩ := o_pure (by rw [e]) (by rw [e]) (pu_addR (by rw [e]) (ev_tmp hl) (ev_int (inR_lit hi)) (inR64 h1 h2)) (Bool.and_eq_true_iff.1 hk).1 (Bool.and_eq_true_iff.1 hk).2 h
end
end Go.Proofs.Ytiibjeoapmhjmaa

namespace Go.Proofs.Ytiibjeoapmhjmaa
open Go.RowKit
open Go.Proofs
set_option linter.unusedVariables false
set_option linter.unusedSimpArgs false
section
variable {P : Program} {C : Ctx} {nt : Nat} {Q : Exit → St → Prop} {all : Array Oper} {oB oK : List Nat} {hd' : Nat → Bool} {listed : Array Bool} {fuel b : Nat} {tm : List (Nat × SV)} {bx : List (Nat × TypeId × List CV)} {ks : List (Nat × Option KC)} {o : Oper} {d : Nat} {v X : SV} {Ks Bs : List Nat} {g : Bool} {x y : Operand} {T : TT}
def SWL (Bs : List Nat) (wb w : World) : Prop := wb.heap.size ≤ w.heap.size ∧ ∀ k, k < wb.heap.size → k ∉ Bs → w.heap[k]? = wb.heap[k]?
theorem SWL.refl (Bs : List Nat) (w : World) : SWL Bs w w := ⟨Nat.le_refl _, fun _ _ _ => rfl⟩
theorem SWL.chg {Bs cs : List Nat} {wb w w' : World} (h : SWL Bs wb w) (hc : Chg cs w w') (hs : ∀ x ∈ cs, x ∈ Bs) : SWL Bs wb w' := ⟨Nat.le_trans h.1 hc.size, fun k hk hn => (hc.block k (Nat.lt_of_lt_of_le hk h.1) (fun hm => hn (hs k hm))).trans (h.2 k hk hn)⟩
section
variable {bs : List Nat}
end
end
section
variable {P : Program} {C : Ctx} {nt : Nat} {σ : St} {o : Oper} {x y : Operand}
theorem weak_then {σ' σ'' : St} (h1 : Weak P C nt σ σ') (h2 : Weak P C nt σ' σ'') : Weak P C nt σ σ'' := Weak.mk fun L a w hr => by
 obtain ⟨L', h⟩ := h1.run L a w hr
 exact h2.run L' a w h
end
end Go.Proofs.Ytiibjeoapmhjmaa

namespace Go.Proofs.Ytiibjeoapmhjmaa
open Go.RowKit
open Go.Proofs
set_option linter.unusedVariables false
set_option linter.unusedSimpArgs false
section
variable {P : Program} {C : Ctx} {nt : Nat} {Q : Exit → St → Prop} {all : Array Oper} {rest : List Oper} {σ : St} {o : Oper} {g : Bool}
section
variable {tm : List (Nat × SV)} {bx : List (Nat × TypeId × List CV)} {ks : List (Nat × Option KC)} {oB oK : List Nat} {hd' : Nat → Bool} {listed : Array Bool} {fuel : Nat} {d : Nat} {v X : SV} {Ks Bs : List Nat}
theorem d_efgT (i : Nat) {R : St → Prop} (hi : all[i]? = some o) (ht : (Region.ready .any all listed == [i]) = true) (hG : Gd P C nt ⟨tm, bx, ks⟩ all o g) (hgt : g = true) (hp : EfG P C nt o ⟨tm, bx, ks⟩ R) (hb : (oB.all fun i => (look bx i).isSome) = true) (hk : (oK.all fun k => (lkk ⟨tm, bx, ks⟩ k).isSome) = true)
  (h : ∀ σ', R σ' → OpsD P C nt Q all oB oK hd' (listed.setIfInBounds i true) fuel σ') : OpsD P C nt Q all oB oK hd' listed (fuel + 1) ⟨tm, bx, ks⟩ := ⟨fun wb L a w hr hs hw hB hK => by
 have hG' := hG.run L a w hr
 refine T_oneG i hi ht fun K hK' => ?_
 rw [hG', if_pos hgt]
 refine hp.run L a w hr _ _ fun L' σ' a' w' h1 h2 h3 => hK' _ _ (fun _ => hs.chg h3.chg) ((h σ' h1).run wb L' _ w' h2 (hs.chg h3.chg) hw (fun j hj => ?_) (fun k hk' b hb' => ?_))
 ·obtain ⟨x, hx⟩ := Option.isSome_iff_exists.1 (List.all_eq_true.1 hb j hj)
  rw [h3.box j x hx]; exact hB j hj
 ·obtain ⟨c, hc⟩ := Option.isSome_iff_exists.1 (List.all_eq_true.1 hk k hk')
  rw [h3.key k c hc] at hb'; exact hK k hk' b hb'⟩
theorem d_callKT (m i : Nat) {f : FuncId} {xs : List Operand} {ats : Array TypeId} {us : List SV} {kk : List (Nat × Option KC)} (hi : all[i]? = some o) (ht : (Region.ready .any all listed == [i]) = true) (hG : Gd P C nt ⟨tm, bx, ks⟩ all o g) (hgt : g = true) (hd : o.dst = some d) (ho : o.op = .call { callee := .value (.func f), args := xs.toArray, argTypes := ats })
  (hc : ∀ (args : Array Value) (w : World), (callFunc f args).run P w = .ok (.enter f args) w) (hf : KFn P f us v kk) (ha : ArgSs P C nt ⟨tm, bx, ks⟩ xs us) (hn : Nat.blt d nt = true) (hres : v.retOk = true) (hfree : (kk.all fun q => (lkk ⟨tm, bx, ks⟩ (m + q.1)).isNone) = true) (hb : (oB.all fun i => (look bx i).isSome) = true) (hk : (oK.all fun k => (lkk ⟨tm, bx, ks⟩ k).isSome) = true)
  (h : OpsD P C nt Q all oB oK hd' (listed.setIfInBounds i true) fuel ⟨(d, v.sh m) :: tm, bx, shK m kk ++ ks⟩) : OpsD P C nt Q all oB oK hd' listed (fuel + 1) ⟨tm, bx, ks⟩ :=
 d_efgT i hi ht hG hgt (efg_call (ι := Unit) (v := fun _ => v) (kk := fun _ => kk) (p := fun _ => True) m ho hd hn hc hf.ok ha (fun u σ' h => ⟨(), h.1, h.2, trivial⟩) (fun _ => hres) (fun _ => hfree)) hb hk fun σ' ⟨_, _, e⟩ => by rw [e]; exact h
end
end
end Go.Proofs.Ytiibjeoapmhjmaa

namespace Go.Proofs.Ytiibjeoapmhjmaa
open Go.RowKit
open Go.Proofs
set_option linter.unusedVariables false
section
variable {C : Ctx} {nt : Nat} {x y : Operand} {σ : St} {ty0 : TypeId} {ps : String} {af : Array Edge} {dd : Option Tmp} {gg : Option (Nat × Bool)}
theorem qA {v : SV} (hx : Ev Try.prog C nt σ x v) : Pu Try.prog C nt ⟨dd, .move x, ty0, ps, af, gg⟩ σ v [] [] := pu_move (.inl rfl) hx
theorem qB {v : SV} (hx : Ev Try.prog C nt σ x v) : Pu Try.prog C nt ⟨dd, .assign x, ty0, ps, af, gg⟩ σ v [] [] := pu_move (.inr rfl) hx
theorem qC {s f off b i : Nat} (hx : Ev Try.prog C nt σ x (.box b i)) (h : look TTab.of (1000 * s + f) = some off) (hf : Nat.blt f 1000 = true) : Pu Try.prog C nt ⟨dd, .fieldAddr s x f, ty0, ps, af, gg⟩ σ (.box b (i + off)) [] [] := pu_fieldBox hT rfl h hf hx
theorem qC2 {s f off : Nat} {K : List Nat} {ds : List DV} (hx : Ev Try.prog C nt σ x (.ref K ds)) (h : look TTab.of (1000 * s + f) = some off) (hf : Nat.blt f 1000 = true) : Pu Try.prog C nt ⟨dd, .fieldAddr s x f, ty0, ps, af, gg⟩ σ (.ref K (ds.drop off)) [] [] := pu_fieldRef hT rfl h hf hx
theorem qC3 {s f off k i : Nat} (hx : Ev Try.prog C nt σ x (.eptr k i)) (h : look TTab.of (1000 * s + f) = some off) (hf : Nat.blt f 1000 = true) : Pu Try.prog C nt ⟨dd, .fieldAddr s x f, ty0, ps, af, gg⟩ σ (.eptr k (i + off)) [] [] := pu_fieldE hT rfl h hf hx
theorem qD {t n b i t' : Nat} {cs : List CV} (ht : look TTab.ag t = some n) (hx : Ev Try.prog C nt σ x (.box b i)) (hb : look σ.bx b = some (t', cs)) (hl : Nat.ble (i + n) cs.length = true) : Pu Try.prog C nt ⟨dd, .load t x, ty0, ps, af, gg⟩ σ (.agg (sub i n cs)) [] [b] := pu_loadBoxA hT rfl ht hx hb hl
theorem qD2 {t b i t' : Nat} {cs : List CV} {c : CV} {u : Unit} (ht : look TTab.on t = some u) (hx : Ev Try.prog C nt σ x (.box b i)) (hb : look σ.bx b = some (t', cs)) (hl : cs[i]? = some c) : Pu Try.prog C nt ⟨dd, .load t x, ty0, ps, af, gg⟩ σ (.one c) [] [b] := pu_loadBox1 hT rfl ht hx hb hl
theorem qD3 {t n : Nat} {K : List Nat} {ds : List DV} (ht : look TTab.ag t = some n) (hx : Ev Try.prog C nt σ x (.ref K ds)) (hl : Nat.ble n ds.length = true) : Pu Try.prog C nt ⟨dd, .load t x, ty0, ps, af, gg⟩ σ (.agg ((ds.take n).map (dvK K))) K [] := pu_loadRefA hT rfl ht hx hl
theorem qD4 {t : Nat} {K : List Nat} {dv : DV} {ds : List DV} {u : Unit} (ht : look TTab.on t = some u) (hx : Ev Try.prog C nt σ x (.ref K ds)) (hd : ds[0]? = some dv) : Pu Try.prog C nt ⟨dd, .load t x, ty0, ps, af, gg⟩ σ (.one (dvK K dv)) K [] := pu_loadRef1 hT rfl ht hx hd
theorem qE {i : Nat} {ts : List (Bool × List CV)} {c : CV} (hx : Ev Try.prog C nt σ x (.tup ts)) (h : ts[i]? = some (false, [c])) : Pu Try.prog C nt ⟨dd, .extract x i, ty0, ps, af, gg⟩ σ (.one c) [] [] := pu_extract1 rfl hx h
theorem qE2 {i : Nat} {ts : List (Bool × List CV)} {cs : List CV} (hx : Ev Try.prog C nt σ x (.tup ts)) (h : ts[i]? = some (true, cs)) : Pu Try.prog C nt ⟨dd, .extract x i, ty0, ps, af, gg⟩ σ (.agg cs) [] [] := pu_extractA rfl hx h
theorem qN {t : TypeId} {K : List Nat} {b : Bool} (hx : Ev Try.prog C nt σ x (.one (.dv K (.bool b)))) : Pu Try.prog C nt ⟨dd, .unOp .not t x, ty0, ps, af, gg⟩ σ (.one (.dv [] (.bool (!b)))) [] [] := pu_not rfl hx
theorem qG {c : Operand} {K J : List Nat} {b b2 : Bool} (hc : Ev Try.prog C nt σ c (.one (.dv K (.bool b)))) (hy : b = true → Ev Try.prog C nt σ y (.one (.dv J (.bool b2)))) : Pu Try.prog C nt ⟨dd, .pick c y (.const (.bool false)), ty0, ps, af, gg⟩ σ (.one (.dv [] (.bool (b && b2)))) [] [] := pu_and rfl hc hy
theorem qH {c : Operand} {K J : List Nat} {b b2 : Bool} (hc : Ev Try.prog C nt σ c (.one (.dv K (.bool b)))) (hy : b = false → Ev Try.prog C nt σ y (.one (.dv J (.bool b2)))) : Pu Try.prog C nt ⟨dd, .pick c (.const (.bool true)) y, ty0, ps, af, gg⟩ σ (.one (.dv [] (.bool (b || b2)))) [] [] := pu_or rfl hc hy
theorem qIlss {t ty : TypeId} {K J : List Nat} {k : IntKind} {m n : Int} (hx : Ev Try.prog C nt σ x (.one (.dv K (.int k m)))) (hy : Ev Try.prog C nt σ y (.one (.dv J (.int k n)))) : Pu Try.prog C nt ⟨dd, .binOp .lss t x y ty, ty0, ps, af, gg⟩ σ (.one (.dv [] (.bool (decide (m < n))))) [] [] := pu_lss rfl hx hy
theorem qIleq {t ty : TypeId} {K J : List Nat} {k : IntKind} {m n : Int} (hx : Ev Try.prog C nt σ x (.one (.dv K (.int k m)))) (hy : Ev Try.prog C nt σ y (.one (.dv J (.int k n)))) : Pu Try.prog C nt ⟨dd, .binOp .leq t x y ty, ty0, ps, af, gg⟩ σ (.one (.dv [] (.bool (decide (m ≤ n))))) [] [] := pu_leq rfl hx hy
theorem qIgtr {t ty : TypeId} {K J : List Nat} {k : IntKind} {m n : Int} (hx : Ev Try.prog C nt σ x (.one (.dv K (.int k m)))) (hy : Ev Try.prog C nt σ y (.one (.dv J (.int k n)))) : Pu Try.prog C nt ⟨dd, .binOp .gtr t x y ty, ty0, ps, af, gg⟩ σ (.one (.dv [] (.bool (decide (n < m))))) [] [] := pu_gtr rfl hx hy
theorem qIgeq {t ty : TypeId} {K J : List Nat} {k : IntKind} {m n : Int} (hx : Ev Try.prog C nt σ x (.one (.dv K (.int k m)))) (hy : Ev Try.prog C nt σ y (.one (.dv J (.int k n)))) : Pu Try.prog C nt ⟨dd, .binOp .geq t x y ty, ty0, ps, af, gg⟩ σ (.one (.dv [] (.bool (decide (n ≤ m))))) [] [] := pu_geq rfl hx hy
theorem qIeql {t ty : TypeId} {K J : List Nat} {k : IntKind} {m n : Int} (hx : Ev Try.prog C nt σ x (.one (.dv K (.int k m)))) (hy : Ev Try.prog C nt σ y (.one (.dv J (.int k n)))) : Pu Try.prog C nt ⟨dd, .binOp .eql t x y ty, ty0, ps, af, gg⟩ σ (.one (.dv [] (.bool (decide (m = n))))) [] [] := pu_eql rfl hx hy
theorem qIneq {t ty : TypeId} {K J : List Nat} {k : IntKind} {m n : Int} (hx : Ev Try.prog C nt σ x (.one (.dv K (.int k m)))) (hy : Ev Try.prog C nt σ y (.one (.dv J (.int k n)))) : Pu Try.prog C nt ⟨dd, .binOp .neq t x y ty, ty0, ps, af, gg⟩ σ (.one (.dv [] (.bool (!decide (m = n))))) [] [] := pu_neq rfl hx hy
theorem qSeql {t ty : TypeId} {K J : List Nat} {m n : ByteArray} (hx : Ev Try.prog C nt σ x (.one (.dv K (.str m)))) (hy : Ev Try.prog C nt σ y (.one (.dv J (.str n)))) : Pu Try.prog C nt ⟨dd, .binOp .eql t x y ty, ty0, ps, af, gg⟩ σ (.one (.dv [] (.bool (sEq m n)))) [] [] := pu_seq rfl hx hy
theorem qSneq {t ty : TypeId} {K J : List Nat} {m n : ByteArray} (hx : Ev Try.prog C nt σ x (.one (.dv K (.str m)))) (hy : Ev Try.prog C nt σ y (.one (.dv J (.str n)))) : Pu Try.prog C nt ⟨dd, .binOp .neq t x y ty, ty0, ps, af, gg⟩ σ (.one (.dv [] (.bool (!sEq m n)))) [] [] := pu_sne rfl hx hy
theorem qSlss {t ty : TypeId} {K J : List Nat} {m n : ByteArray} (hx : Ev Try.prog C nt σ x (.one (.dv K (.str m)))) (hy : Ev Try.prog C nt σ y (.one (.dv J (.str n)))) : Pu Try.prog C nt ⟨dd, .binOp .lss t x y ty, ty0, ps, af, gg⟩ σ (.one (.dv [] (.bool (sLt m n)))) [] [] := pu_slt rfl hx hy
theorem qSleq {t ty : TypeId} {K J : List Nat} {m n : ByteArray} (hx : Ev Try.prog C nt σ x (.one (.dv K (.str m)))) (hy : Ev Try.prog C nt σ y (.one (.dv J (.str n)))) : Pu Try.prog C nt ⟨dd, .binOp .leq t x y ty, ty0, ps, af, gg⟩ σ (.one (.dv [] (.bool (sLt m n || sEq m n)))) [] [] := pu_sle rfl hx hy
theorem qSgtr {t ty : TypeId} {K J : List Nat} {m n : ByteArray} (hx : Ev Try.prog C nt σ x (.one (.dv K (.str m)))) (hy : Ev Try.prog C nt σ y (.one (.dv J (.str n)))) : Pu Try.prog C nt ⟨dd, .binOp .gtr t x y ty, ty0, ps, af, gg⟩ σ (.one (.dv [] (.bool (!(sLt m n || sEq m n))))) [] [] := pu_sgt rfl hx hy
theorem qSgeq {t ty : TypeId} {K J : List Nat} {m n : ByteArray} (hx : Ev Try.prog C nt σ x (.one (.dv K (.str m)))) (hy : Ev Try.prog C nt σ y (.one (.dv J (.str n)))) : Pu Try.prog C nt ⟨dd, .binOp .geq t x y ty, ty0, ps, af, gg⟩ σ (.one (.dv [] (.bool (!sLt m n)))) [] [] := pu_sge rfl hx hy
theorem qIadd {t ty : TypeId} {K J : List Nat} {m n : Int} (hx : Ev Try.prog C nt σ x (.one (.dv K (.int .i64 m)))) (hy : Ev Try.prog C nt σ y (.one (.dv J (.int .i64 n)))) (h1 : -9223372036854775808 ≤ m + n) (h2 : m + n ≤ 9223372036854775807) : Pu Try.prog C nt ⟨dd, .binOp .add t x y ty, ty0, ps, af, gg⟩ σ (.one (.dv [] (.int .i64 (m + n)))) [] [] := pu_addR rfl hx hy (inR64 h1 h2)
theorem qIsub {t ty : TypeId} {K J : List Nat} {m n : Int} (hx : Ev Try.prog C nt σ x (.one (.dv K (.int .i64 m)))) (hy : Ev Try.prog C nt σ y (.one (.dv J (.int .i64 n)))) (h1 : -9223372036854775808 ≤ m - n) (h2 : m - n ≤ 9223372036854775807) : Pu Try.prog C nt ⟨dd, .binOp .sub t x y ty, ty0, ps, af, gg⟩ σ (.one (.dv [] (.int .i64 (m - n)))) [] [] := pu_subR rfl hx hy (inR64 h1 h2)
theorem qL {t e' e sz n : Nat} {K : List Nat} {cs : List DV} (hx : Ev Try.prog C nt σ x (.one (.dv K (.sl e sz n cs)))) (h : look TTab.sl t = some e') : Pu Try.prog C nt ⟨dd, .call { callee := .builtin .len, args := #[x], argTypes := #[t] }, ty0, ps, af, gg⟩ σ (.one (.dv [] (.int .i64 (n : Int)))) [] [] := pu_lenV hT rfl h hx
theorem qL2 {t : Nat} {u : Unit} {s : ByteArray} {K : List Nat} (hx : Ev Try.prog C nt σ x (.one (.dv K (.str s)))) (h : look TTab.st t = some u) : Pu Try.prog C nt ⟨dd, .call { callee := .builtin .len, args := #[x], argTypes := #[t] }, ty0, ps, af, gg⟩ σ (.one (.dv [] (.int .i64 (s.size : Int)))) [] [] := pu_lenS hT rfl h hx
theorem qL3 {t e' : Nat} (hx : Ev Try.prog C nt σ x (.one .nil)) (h : look TTab.sl t = some e') : Pu Try.prog C nt ⟨dd, .call { callee := .builtin .len, args := #[x], argTypes := #[t] }, ty0, ps, af, gg⟩ σ (.one (.dv [] (.int .i64 0))) [] [] := pu_lenN hT rfl h hx
end
section
variable {P : Program} {C : Ctx} {nt : Nat} {o : Oper} {x y : Operand} {T : TT} {Q : Exit → St → Prop} {N : St → Prop} {all : Array Oper} {rest : List Oper} {σ : St} {tm : List (Nat × SV)} {bx : List (Nat × TypeId × List CV)} {ks : List (Nat × Option KC)} {d t : Nat} {v X : SV} {ty : TypeId} {ps : String} {af : Array Edge} {Ks Bs oB oK : List Nat} {g : Bool} {listed : Array Bool} {fuel : Nat} {hd' : Nat → Bool}
theorem zp (hp : Pu P C nt o σ v Ks Bs := by
  first
  | (apply qA; (first | exact ev_tmp rfl | exact ev_int (inR_lit rfl) | exact ev_bool | exact ev_str (str_lit rfl) | exact ev_nil | exact ev_func))
  | (apply qB; (first | exact ev_tmp rfl | exact ev_int (inR_lit rfl) | exact ev_bool | exact ev_str (str_lit rfl) | exact ev_nil | exact ev_func))
  | (apply qC; (first | exact ev_tmp rfl | exact ev_int (inR_lit rfl) | exact ev_bool | exact ev_str (str_lit rfl) | exact ev_nil | exact ev_func); exact rfl; exact rfl)
  | (apply qC2; (first | exact ev_tmp rfl | exact ev_int (inR_lit rfl) | exact ev_bool | exact ev_str (str_lit rfl) | exact ev_nil | exact ev_func); exact rfl; exact rfl)
  | (apply qC3; (first | exact ev_tmp rfl | exact ev_int (inR_lit rfl) | exact ev_bool | exact ev_str (str_lit rfl) | exact ev_nil | exact ev_func); exact rfl; exact rfl)
  | (apply qD; exact rfl; (first | exact ev_tmp rfl | exact ev_int (inR_lit rfl) | exact ev_bool | exact ev_str (str_lit rfl) | exact ev_nil | exact ev_func); exact rfl; exact rfl)
  | (apply qD2; exact rfl; (first | exact ev_tmp rfl | exact ev_int (inR_lit rfl) | exact ev_bool | exact ev_str (str_lit rfl) | exact ev_nil | exact ev_func); exact rfl; exact rfl)
  | (apply qD3; exact rfl; (first | exact ev_tmp rfl | exact ev_int (inR_lit rfl) | exact ev_bool | exact ev_str (str_lit rfl) | exact ev_nil | exact ev_func); exact rfl)
  | (apply qD4; exact rfl; (first | exact ev_tmp rfl | exact ev_int (inR_lit rfl) | exact ev_bool | exact ev_str (str_lit rfl) | exact ev_nil | exact ev_func); exact rfl)
  | (apply qE; (first | exact ev_tmp rfl | exact ev_int (inR_lit rfl) | exact ev_bool | exact ev_str (str_lit rfl) | exact ev_nil | exact ev_func); exact rfl)
  | (apply qE2; (first | exact ev_tmp rfl | exact ev_int (inR_lit rfl) | exact ev_bool | exact ev_str (str_lit rfl) | exact ev_nil | exact ev_func); exact rfl)
  | (apply qN; (first | exact ev_tmp rfl | exact ev_int (inR_lit rfl) | exact ev_bool | exact ev_str (str_lit rfl) | exact ev_nil | exact ev_func))
  | (apply qG; (first | exact ev_tmp rfl | exact ev_int (inR_lit rfl) | exact ev_bool | exact ev_str (str_lit rfl) | exact ev_nil | exact ev_func); (intro hb; first | (refine ev_opt rfl ?_; first | exact beq_t hb | exact beq_f hb) | exact ev_tmp rfl | exact ev_int (inR_lit rfl) | exact ev_bool | exact ev_str (str_lit rfl) | exact ev_nil | exact ev_func))
  | (apply qH; (first | exact ev_tmp rfl | exact ev_int (inR_lit rfl) | exact ev_bool | exact ev_str (str_lit rfl) | exact ev_nil | exact ev_func); (intro hb; first | (refine ev_opt rfl ?_; first | exact beq_t hb | exact beq_f hb) | exact ev_tmp rfl | exact ev_int (inR_lit rfl) | exact ev_bool | exact ev_str (str_lit rfl) | exact ev_nil | exact ev_func))
  | (apply qIlss; (first | exact ev_tmp rfl | exact ev_int (inR_lit rfl) | exact ev_bool | exact ev_str (str_lit rfl) | exact ev_nil | exact ev_func); (first | exact ev_tmp rfl | exact ev_int (inR_lit rfl) | exact ev_bool | exact ev_str (str_lit rfl) | exact ev_nil | exact ev_func))
  | (apply qIleq; (first | exact ev_tmp rfl | exact ev_int (inR_lit rfl) | exact ev_bool | exact ev_str (str_lit rfl) | exact ev_nil | exact ev_func); (first | exact ev_tmp rfl | exact ev_int (inR_lit rfl) | exact ev_bool | exact ev_str (str_lit rfl) | exact ev_nil | exact ev_func))
  | (apply qIgtr; (first | exact ev_tmp rfl | exact ev_int (inR_lit rfl) | exact ev_bool | exact ev_str (str_lit rfl) | exact ev_nil | exact ev_func); (first | exact ev_tmp rfl | exact ev_int (inR_lit rfl) | exact ev_bool | exact ev_str (str_lit rfl) | exact ev_nil | exact ev_func))
  | (apply qIgeq; (first | exact ev_tmp rfl | exact ev_int (inR_lit rfl) | exact ev_bool | exact ev_str (str_lit rfl) | exact ev_nil | exact ev_func); (first | exact ev_tmp rfl | exact ev_int (inR_lit rfl) | exact ev_bool | exact ev_str (str_lit rfl) | exact ev_nil | exact ev_func))
  | (apply qIeql; (first | exact ev_tmp rfl | exact ev_int (inR_lit rfl) | exact ev_bool | exact ev_str (str_lit rfl) | exact ev_nil | exact ev_func); (first | exact ev_tmp rfl | exact ev_int (inR_lit rfl) | exact ev_bool | exact ev_str (str_lit rfl) | exact ev_nil | exact ev_func))
  | (apply qIneq; (first | exact ev_tmp rfl | exact ev_int (inR_lit rfl) | exact ev_bool | exact ev_str (str_lit rfl) | exact ev_nil | exact ev_func); (first | exact ev_tmp rfl | exact ev_int (inR_lit rfl) | exact ev_bool | exact ev_str (str_lit rfl) | exact ev_nil | exact ev_func))
  | (apply qSeql; (first | exact ev_tmp rfl | exact ev_int (inR_lit rfl) | exact ev_bool | exact ev_str (str_lit rfl) | exact ev_nil | exact ev_func); (first | exact ev_tmp rfl | exact ev_int (inR_lit rfl) | exact ev_bool | exact ev_str (str_lit rfl) | exact ev_nil | exact ev_func))
  | (apply qSneq; (first | exact ev_tmp rfl | exact ev_int (inR_lit rfl) | exact ev_bool | exact ev_str (str_lit rfl) | exact ev_nil | exact ev_func); (first | exact ev_tmp rfl | exact ev_int (inR_lit rfl) | exact ev_bool | exact ev_str (str_lit rfl) | exact ev_nil | exact ev_func))
  | (apply qSlss; (first | exact ev_tmp rfl | exact ev_int (inR_lit rfl) | exact ev_bool | exact ev_str (str_lit rfl) | exact ev_nil | exact ev_func); (first | exact ev_tmp rfl | exact ev_int (inR_lit rfl) | exact ev_bool | exact ev_str (str_lit rfl) | exact ev_nil | exact ev_func))
  | (apply qSleq; (first | exact ev_tmp rfl | exact ev_int (inR_lit rfl) | exact ev_bool | exact ev_str (str_lit rfl) | exact ev_nil | exact ev_func); (first | exact ev_tmp rfl | exact ev_int (inR_lit rfl) | exact ev_bool | exact ev_str (str_lit rfl) | exact ev_nil | exact ev_func))
  | (apply qSgtr; (first | exact ev_tmp rfl | exact ev_int (inR_lit rfl) | exact ev_bool | exact ev_str (str_lit rfl) | exact ev_nil | exact ev_func); (first | exact ev_tmp rfl | exact ev_int (inR_lit rfl) | exact ev_bool | exact ev_str (str_lit rfl) | exact ev_nil | exact ev_func))
  | (apply qSgeq; (first | exact ev_tmp rfl | exact ev_int (inR_lit rfl) | exact ev_bool | exact ev_str (str_lit rfl) | exact ev_nil | exact ev_func); (first | exact ev_tmp rfl | exact ev_int (inR_lit rfl) | exact ev_bool | exact ev_str (str_lit rfl) | exact ev_nil | exact ev_func))
  | (apply qIadd; (first | exact ev_tmp rfl | exact ev_int (inR_lit rfl) | exact ev_bool | exact ev_str (str_lit rfl) | exact ev_nil | exact ev_func); (first | exact ev_tmp rfl | exact ev_int (inR_lit rfl) | exact ev_bool | exact ev_str (str_lit rfl) | exact ev_nil | exact ev_func); omega; omega)
  | (apply qIsub; (first | exact ev_tmp rfl | exact ev_int (inR_lit rfl) | exact ev_bool | exact ev_str (str_lit rfl) | exact ev_nil | exact ev_func); (first | exact ev_tmp rfl | exact ev_int (inR_lit rfl) | exact ev_bool | exact ev_str (str_lit rfl) | exact ev_nil | exact ev_func); omega; omega)
  | (apply qL; (first | exact ev_tmp rfl | exact ev_int (inR_lit rfl) | exact ev_bool | exact ev_str (str_lit rfl) | exact ev_nil | exact ev_func); exact rfl)
  | (apply qL2; (first | exact ev_tmp rfl | exact ev_int (inR_lit rfl) | exact ev_bool | exact ev_str (str_lit rfl) | exact ev_nil | exact ev_func); exact rfl)
  | (apply qL3; (first | exact ev_tmp rfl | exact ev_int (inR_lit rfl) | exact ev_bool | exact ev_str (str_lit rfl) | exact ev_nil | exact ev_func); exact rfl)
  | exact pu_indexD hT rfl rfl rfl (by first | exact ev_tmp rfl | exact ev_int (inR_lit rfl) | exact ev_bool | exact ev_str (str_lit rfl) | exact ev_nil | exact ev_func) (by first | exact ev_tmp rfl | exact ev_int (inR_lit rfl) | exact ev_bool | exact ev_str (str_lit rfl) | exact ev_nil | exact ev_func) (fun _ => rfl) (by omega) (by omega)
  | exact pu_indexS hT rfl rfl (by first | exact ev_tmp rfl | exact ev_int (inR_lit rfl) | exact ev_bool | exact ev_str (str_lit rfl) | exact ev_nil | exact ev_func) (by first | exact ev_tmp rfl | exact ev_int (inR_lit rfl) | exact ev_bool | exact ev_str (str_lit rfl) | exact ev_nil | exact ev_func) (by omega) (by omega)) : Pu P C nt o σ v Ks Bs := hp
theorem zq {g : Bool} (hg : g = true) (hp : Pu P C nt o σ v Ks Bs := by
  first
  | (apply qA; (first | (refine ev_opt rfl ?_; first | exact hg | exact and_l hg | exact and_l (and_l hg) | exact and_l (and_l (and_l hg))) | exact ev_tmp rfl | exact ev_int (inR_lit rfl) | exact ev_bool | exact ev_str (str_lit rfl) | exact ev_nil | exact ev_func))
  | (apply qB; (first | (refine ev_opt rfl ?_; first | exact hg | exact and_l hg | exact and_l (and_l hg) | exact and_l (and_l (and_l hg))) | exact ev_tmp rfl | exact ev_int (inR_lit rfl) | exact ev_bool | exact ev_str (str_lit rfl) | exact ev_nil | exact ev_func))
  | (apply qC; (first | (refine ev_opt rfl ?_; first | exact hg | exact and_l hg | exact and_l (and_l hg) | exact and_l (and_l (and_l hg))) | exact ev_tmp rfl | exact ev_int (inR_lit rfl) | exact ev_bool | exact ev_str (str_lit rfl) | exact ev_nil | exact ev_func); exact rfl; exact rfl)
  | (apply qC2; (first | (refine ev_opt rfl ?_; first | exact hg | exact and_l hg | exact and_l (and_l hg) | exact and_l (and_l (and_l hg))) | exact ev_tmp rfl | exact ev_int (inR_lit rfl) | exact ev_bool | exact ev_str (str_lit rfl) | exact ev_nil | exact ev_func); exact rfl; exact rfl)
  | (apply qC3; (first | (refine ev_opt rfl ?_; first | exact hg | exact and_l hg | exact and_l (and_l hg) | exact and_l (and_l (and_l hg))) | exact ev_tmp rfl | exact ev_int (inR_lit rfl) | exact ev_bool | exact ev_str (str_lit rfl) | exact ev_nil | exact ev_func); exact rfl; exact rfl)
  | (apply qD; exact rfl; (first | (refine ev_opt rfl ?_; first | exact hg | exact and_l hg | exact and_l (and_l hg) | exact and_l (and_l (and_l hg))) | exact ev_tmp rfl | exact ev_int (inR_lit rfl) | exact ev_bool | exact ev_str (str_lit rfl) | exact ev_nil | exact ev_func); exact rfl; exact rfl)
  | (apply qD2; exact rfl; (first | (refine ev_opt rfl ?_; first | exact hg | exact and_l hg | exact and_l (and_l hg) | exact and_l (and_l (and_l hg))) | exact ev_tmp rfl | exact ev_int (inR_lit rfl) | exact ev_bool | exact ev_str (str_lit rfl) | exact ev_nil | exact ev_func); exact rfl; exact rfl)
  | (apply qD3; exact rfl; (first | (refine ev_opt rfl ?_; first | exact hg | exact and_l hg | exact and_l (and_l hg) | exact and_l (and_l (and_l hg))) | exact ev_tmp rfl | exact ev_int (inR_lit rfl) | exact ev_bool | exact ev_str (str_lit rfl) | exact ev_nil | exact ev_func); exact rfl)
  | (apply qD4; exact rfl; (first | (refine ev_opt rfl ?_; first | exact hg | exact and_l hg | exact and_l (and_l hg) | exact and_l (and_l (and_l hg))) | exact ev_tmp rfl | exact ev_int (inR_lit rfl) | exact ev_bool | exact ev_str (str_lit rfl) | exact ev_nil | exact ev_func); exact rfl)
  | (apply qE; (first | (refine ev_opt rfl ?_; first | exact hg | exact and_l hg | exact and_l (and_l hg) | exact and_l (and_l (and_l hg))) | exact ev_tmp rfl | exact ev_int (inR_lit rfl) | exact ev_bool | exact ev_str (str_lit rfl) | exact ev_nil | exact ev_func); exact rfl)
  | (apply qE2; (first | (refine ev_opt rfl ?_; first | exact hg | exact and_l hg | exact and_l (and_l hg) | exact and_l (and_l (and_l hg))) | exact ev_tmp rfl | exact ev_int (inR_lit rfl) | exact ev_bool | exact ev_str (str_lit rfl) | exact ev_nil | exact ev_func); exact rfl)
  | (apply qN; (first | (refine ev_opt rfl ?_; first | exact hg | exact and_l hg | exact and_l (and_l hg) | exact and_l (and_l (and_l hg))) | exact ev_tmp rfl | exact ev_int (inR_lit rfl) | exact ev_bool | exact ev_str (str_lit rfl) | exact ev_nil | exact ev_func))
  | (apply qG; (first | (refine ev_opt rfl ?_; first | exact hg | exact and_l hg | exact and_l (and_l hg) | exact and_l (and_l (and_l hg))) | exact ev_tmp rfl | exact ev_int (inR_lit rfl) | exact ev_bool | exact ev_str (str_lit rfl) | exact ev_nil | exact ev_func); (intro hb; first | (refine ev_opt rfl ?_; first | exact beq_t hb | exact beq_f hb | exact and_mk hg (beq_t hb) | exact and_mk hg (beq_f hb) | exact and_mk (and_l hg) (beq_t hb) | exact and_mk (and_l hg) (beq_f hb) | exact hg | exact and_l hg) | exact ev_tmp rfl | exact ev_int (inR_lit rfl) | exact ev_bool | exact ev_str (str_lit rfl) | exact ev_nil | exact ev_func))
  | (apply qH; (first | (refine ev_opt rfl ?_; first | exact hg | exact and_l hg | exact and_l (and_l hg) | exact and_l (and_l (and_l hg))) | exact ev_tmp rfl | exact ev_int (inR_lit rfl) | exact ev_bool | exact ev_str (str_lit rfl) | exact ev_nil | exact ev_func); (intro hb; first | (refine ev_opt rfl ?_; first | exact beq_t hb | exact beq_f hb | exact and_mk hg (beq_t hb) | exact and_mk hg (beq_f hb) | exact and_mk (and_l hg) (beq_t hb) | exact and_mk (and_l hg) (beq_f hb) | exact hg | exact and_l hg) | exact ev_tmp rfl | exact ev_int (inR_lit rfl) | exact ev_bool | exact ev_str (str_lit rfl) | exact ev_nil | exact ev_func))
  | (apply qIlss; (first | (refine ev_opt rfl ?_; first | exact hg | exact and_l hg | exact and_l (and_l hg) | exact and_l (and_l (and_l hg))) | exact ev_tmp rfl | exact ev_int (inR_lit rfl) | exact ev_bool | exact ev_str (str_lit rfl) | exact ev_nil | exact ev_func); (first | (refine ev_opt rfl ?_; first | exact hg | exact and_l hg | exact and_l (and_l hg) | exact and_l (and_l (and_l hg))) | exact ev_tmp rfl | exact ev_int (inR_lit rfl) | exact ev_bool | exact ev_str (str_lit rfl) | exact ev_nil | exact ev_func))
  | (apply qIleq; (first | (refine ev_opt rfl ?_; first | exact hg | exact and_l hg | exact and_l (and_l hg) | exact and_l (and_l (and_l hg))) | exact ev_tmp rfl | exact ev_int (inR_lit rfl) | exact ev_bool | exact ev_str (str_lit rfl) | exact ev_nil | exact ev_func); (first | (refine ev_opt rfl ?_; first | exact hg | exact and_l hg | exact and_l (and_l hg) | exact and_l (and_l (and_l hg))) | exact ev_tmp rfl | exact ev_int (inR_lit rfl) | exact ev_bool | exact ev_str (str_lit rfl) | exact ev_nil | exact ev_func))
  | (apply qIgtr; (first | (refine ev_opt rfl ?_; first | exact hg | exact and_l hg | exact and_l (and_l hg) | exact and_l (and_l (and_l hg))) | exact ev_tmp rfl | exact ev_int (inR_lit rfl) | exact ev_bool | exact ev_str (str_lit rfl) | exact ev_nil | exact ev_func); (first | (refine ev_opt rfl ?_; first | exact hg | exact and_l hg | exact and_l (and_l hg) | exact and_l (and_l (and_l hg))) | exact ev_tmp rfl | exact ev_int (inR_lit rfl) | exact ev_bool | exact ev_str (str_lit rfl) | exact ev_nil | exact ev_func))
  | (apply qIgeq; (first | (refine ev_opt rfl ?_; first | exact hg | exact and_l hg | exact and_l (and_l hg) | exact and_l (and_l (and_l hg))) | exact ev_tmp rfl | exact ev_int (inR_lit rfl) | exact ev_bool | exact ev_str (str_lit rfl) | exact ev_nil | exact ev_func); (first | (refine ev_opt rfl ?_; first | exact hg | exact and_l hg | exact and_l (and_l hg) | exact and_l (and_l (and_l hg))) | exact ev_tmp rfl | exact ev_int (inR_lit rfl) | exact ev_bool | exact ev_str (str_lit rfl) | exact ev_nil | exact ev_func))
  | (apply qIeql; (first | (refine ev_opt rfl ?_; first | exact hg | exact and_l hg | exact and_l (and_l hg) | exact and_l (and_l (and_l hg))) | exact ev_tmp rfl | exact ev_int (inR_lit rfl) | exact ev_bool | exact ev_str (str_lit rfl) | exact ev_nil | exact ev_func); (first | (refine ev_opt rfl ?_; first | exact hg | exact and_l hg | exact and_l (and_l hg) | exact and_l (and_l (and_l hg))) | exact ev_tmp rfl | exact ev_int (inR_lit rfl) | exact ev_bool | exact ev_str (str_lit rfl) | exact ev_nil | exact ev_func))
  | (apply qIneq; (first | (refine ev_opt rfl ?_; first | exact hg | exact and_l hg | exact and_l (and_l hg) | exact and_l (and_l (and_l hg))) | exact ev_tmp rfl | exact ev_int (inR_lit rfl) | exact ev_bool | exact ev_str (str_lit rfl) | exact ev_nil | exact ev_func); (first | (refine ev_opt rfl ?_; first | exact hg | exact and_l hg | exact and_l (and_l hg) | exact and_l (and_l (and_l hg))) | exact ev_tmp rfl | exact ev_int (inR_lit rfl) | exact ev_bool | exact ev_str (str_lit rfl) | exact ev_nil | exact ev_func))
  | (apply qSeql; (first | (refine ev_opt rfl ?_; first | exact hg | exact and_l hg | exact and_l (and_l hg) | exact and_l (and_l (and_l hg))) | exact ev_tmp rfl | exact ev_int (inR_lit rfl) | exact ev_bool | exact ev_str (str_lit rfl) | exact ev_nil | exact ev_func); (first | (refine ev_opt rfl ?_; first | exact hg | exact and_l hg | exact and_l (and_l hg) | exact and_l (and_l (and_l hg))) | exact ev_tmp rfl | exact ev_int (inR_lit rfl) | exact ev_bool | exact ev_str (str_lit rfl) | exact ev_nil | exact ev_func))
  | (apply qSneq; (first | (refine ev_opt rfl ?_; first | exact hg | exact and_l hg | exact and_l (and_l hg) | exact and_l (and_l (and_l hg))) | exact ev_tmp rfl | exact ev_int (inR_lit rfl) | exact ev_bool | exact ev_str (str_lit rfl) | exact ev_nil | exact ev_func); (first | (refine ev_opt rfl ?_; first | exact hg | exact and_l hg | exact and_l (and_l hg) | exact and_l (and_l (and_l hg))) | exact ev_tmp rfl | exact ev_int (inR_lit rfl) | exact ev_bool | exact ev_str (str_lit rfl) | exact ev_nil | exact ev_func))
  | (apply qSlss; (first | (refine ev_opt rfl ?_; first | exact hg | exact and_l hg | exact and_l (and_l hg) | exact and_l (and_l (and_l hg))) | exact ev_tmp rfl | exact ev_int (inR_lit rfl) | exact ev_bool | exact ev_str (str_lit rfl) | exact ev_nil | exact ev_func); (first | (refine ev_opt rfl ?_; first | exact hg | exact and_l hg | exact and_l (and_l hg) | exact and_l (and_l (and_l hg))) | exact ev_tmp rfl | exact ev_int (inR_lit rfl) | exact ev_bool | exact ev_str (str_lit rfl) | exact ev_nil | exact ev_func))
  | (apply qSleq; (first | (refine ev_opt rfl ?_; first | exact hg | exact and_l hg | exact and_l (and_l hg) | exact and_l (and_l (and_l hg))) | exact ev_tmp rfl | exact ev_int (inR_lit rfl) | exact ev_bool | exact ev_str (str_lit rfl) | exact ev_nil | exact ev_func); (first | (refine ev_opt rfl ?_; first | exact hg | exact and_l hg | exact and_l (and_l hg) | exact and_l (and_l (and_l hg))) | exact ev_tmp rfl | exact ev_int (inR_lit rfl) | exact ev_bool | exact ev_str (str_lit rfl) | exact ev_nil | exact ev_func))
  | (apply qSgtr; (first | (refine ev_opt rfl ?_; first | exact hg | exact and_l hg | exact and_l (and_l hg) | exact and_l (and_l (and_l hg))) | exact ev_tmp rfl | exact ev_int (inR_lit rfl) | exact ev_bool | exact ev_str (str_lit rfl) | exact ev_nil | exact ev_func); (first | (refine ev_opt rfl ?_; first | exact hg | exact and_l hg | exact and_l (and_l hg) | exact and_l (and_l (and_l hg))) | exact ev_tmp rfl | exact ev_int (inR_lit rfl) | exact ev_bool | exact ev_str (str_lit rfl) | exact ev_nil | exact ev_func))
  | (apply qSgeq; (first | (refine ev_opt rfl ?_; first | exact hg | exact and_l hg | exact and_l (and_l hg) | exact and_l (and_l (and_l hg))) | exact ev_tmp rfl | exact ev_int (inR_lit rfl) | exact ev_bool | exact ev_str (str_lit rfl) | exact ev_nil | exact ev_func); (first | (refine ev_opt rfl ?_; first | exact hg | exact and_l hg | exact and_l (and_l hg) | exact and_l (and_l (and_l hg))) | exact ev_tmp rfl | exact ev_int (inR_lit rfl) | exact ev_bool | exact ev_str (str_lit rfl) | exact ev_nil | exact ev_func))
  | (apply qIadd; (first | (refine ev_opt rfl ?_; first | exact hg | exact and_l hg | exact and_l (and_l hg) | exact and_l (and_l (and_l hg))) | exact ev_tmp rfl | exact ev_int (inR_lit rfl) | exact ev_bool | exact ev_str (str_lit rfl) | exact ev_nil | exact ev_func); (first | (refine ev_opt rfl ?_; first | exact hg | exact and_l hg | exact and_l (and_l hg) | exact and_l (and_l (and_l hg))) | exact ev_tmp rfl | exact ev_int (inR_lit rfl) | exact ev_bool | exact ev_str (str_lit rfl) | exact ev_nil | exact ev_func); omega; omega)
  | (apply qIsub; (first | (refine ev_opt rfl ?_; first | exact hg | exact and_l hg | exact and_l (and_l hg) | exact and_l (and_l (and_l hg))) | exact ev_tmp rfl | exact ev_int (inR_lit rfl) | exact ev_bool | exact ev_str (str_lit rfl) | exact ev_nil | exact ev_func); (first | (refine ev_opt rfl ?_; first | exact hg | exact and_l hg | exact and_l (and_l hg) | exact and_l (and_l (and_l hg))) | exact ev_tmp rfl | exact ev_int (inR_lit rfl) | exact ev_bool | exact ev_str (str_lit rfl) | exact ev_nil | exact ev_func); omega; omega)
  | (apply qL; (first | (refine ev_opt rfl ?_; first | exact hg | exact and_l hg | exact and_l (and_l hg) | exact and_l (and_l (and_l hg))) | exact ev_tmp rfl | exact ev_int (inR_lit rfl) | exact ev_bool | exact ev_str (str_lit rfl) | exact ev_nil | exact ev_func); exact rfl)
  | (apply qL2; (first | (refine ev_opt rfl ?_; first | exact hg | exact and_l hg | exact and_l (and_l hg) | exact and_l (and_l (and_l hg))) | exact ev_tmp rfl | exact ev_int (inR_lit rfl) | exact ev_bool | exact ev_str (str_lit rfl) | exact ev_nil | exact ev_func); exact rfl)
  | (apply qL3; (first | (refine ev_opt rfl ?_; first | exact hg | exact and_l hg | exact and_l (and_l hg) | exact and_l (and_l (and_l hg))) | exact ev_tmp rfl | exact ev_int (inR_lit rfl) | exact ev_bool | exact ev_str (str_lit rfl) | exact ev_nil | exact ev_func); exact rfl)
  | exact pu_indexD hT rfl rfl rfl (by first | (refine ev_opt rfl ?_; first | exact hg | exact and_l hg | exact and_l (and_l hg) | exact and_l (and_l (and_l hg))) | exact ev_tmp rfl | exact ev_int (inR_lit rfl) | exact ev_bool | exact ev_str (str_lit rfl) | exact ev_nil | exact ev_func) (by first | (refine ev_opt rfl ?_; first | exact hg | exact and_l hg | exact and_l (and_l hg) | exact and_l (and_l (and_l hg))) | exact ev_tmp rfl | exact ev_int (inR_lit rfl) | exact ev_bool | exact ev_str (str_lit rfl) | exact ev_nil | exact ev_func) (fun _ => rfl) (by first | omega | (simp only [Bool.and_eq_true, Bool.or_eq_true, Bool.or_eq_false_iff, Bool.and_eq_false_iff, Bool.not_eq_true', Bool.not_eq_false', beq_iff_eq, decide_eq_true_eq, decide_eq_false_iff_not] at hg; omega) | (have hh := of_decide_eq_true (beq_tt hg); omega) | (have hh := of_decide_eq_true (beq_tt (and_r hg)); omega)) (by first | omega | (simp only [Bool.and_eq_true, Bool.or_eq_true, Bool.or_eq_false_iff, Bool.and_eq_false_iff, Bool.not_eq_true', Bool.not_eq_false', beq_iff_eq, decide_eq_true_eq, decide_eq_false_iff_not] at hg; omega) | (have hh := of_decide_eq_true (beq_tt hg); omega) | (have hh := of_decide_eq_true (beq_tt (and_r hg)); omega))
  | exact pu_indexS hT rfl rfl (by first | (refine ev_opt rfl ?_; first | exact hg | exact and_l hg | exact and_l (and_l hg) | exact and_l (and_l (and_l hg))) | exact ev_tmp rfl | exact ev_int (inR_lit rfl) | exact ev_bool | exact ev_str (str_lit rfl) | exact ev_nil | exact ev_func) (by first | (refine ev_opt rfl ?_; first | exact hg | exact and_l hg | exact and_l (and_l hg) | exact and_l (and_l (and_l hg))) | exact ev_tmp rfl | exact ev_int (inR_lit rfl) | exact ev_bool | exact ev_str (str_lit rfl) | exact ev_nil | exact ev_func) (by first | omega | (simp only [Bool.and_eq_true, Bool.or_eq_true, Bool.or_eq_false_iff, Bool.and_eq_false_iff, Bool.not_eq_true', Bool.not_eq_false', beq_iff_eq, decide_eq_true_eq, decide_eq_false_iff_not] at hg; omega) | (have hh := of_decide_eq_true (beq_tt hg); omega) | (have hh := of_decide_eq_true (beq_tt (and_r hg)); omega)) (by first | omega | (simp only [Bool.and_eq_true, Bool.or_eq_true, Bool.or_eq_false_iff, Bool.and_eq_false_iff, Bool.not_eq_true', Bool.not_eq_false', beq_iff_eq, decide_eq_true_eq, decide_eq_false_iff_not] at hg; omega) | (have hh := of_decide_eq_true (beq_tt hg); omega) | (have hh := of_decide_eq_true (beq_tt (and_r hg)); omega))) : Pu P C nt o σ v Ks Bs := hp
theorem zr {xs : List Operand} {us : List SV} (ha : ArgSs P C nt σ xs us := by repeat' (first | exact as_nil | refine as_cons (by first | exact ev_tmp rfl | exact ev_int (inR_lit rfl) | exact ev_bool | exact ev_str (str_lit rfl) | exact ev_nil | exact ev_func) ?_ ?_ | exact ag_one ac_dv | exact ag_one (ac_key' rfl rfl) | exact ag_one (ac_nil' rfl rfl) | exact ag_one ac_nest | exact ag_one ac_arg | refine ag_agg ?_ | exact ag_nil | refine ag_cons ?_ ?_ | exact ac_dv | exact ac_key' rfl rfl | exact ac_nil' rfl rfl | exact ac_nest | exact ac_arg)) : ArgSs P C nt σ xs us := ha
theorem zO (h : Ops P C nt Q all rest ⟨(d, v) :: tm, bx, ks⟩) (hg : o.guard = none := by exact rfl) (hd : o.dst = some d := by exact rfl) (hp : Pu P C nt o ⟨tm, bx, ks⟩ v Ks Bs := by
  exact zp) (hk : (Nat.blt d nt && svOk ⟨tm, bx, ks⟩ v) = true := by exact rfl) : Ops P C nt Q all (o :: rest) ⟨tm, bx, ks⟩ := yO hg hd hp hk h
theorem zG (h : Ops P C nt Q all rest ⟨(d, .opt g v) :: tm, bx, ks⟩) (hd : o.dst = some d := by exact rfl) (hG : Gd P C nt ⟨tm, bx, ks⟩ all o g := by first | exact gd_bool rfl rfl rfl rfl rfl | exact gd_opt rfl rfl rfl rfl rfl) (hp : g = true → Pu P C nt o ⟨tm, bx, ks⟩ v Ks Bs := by
  intro hg
  exact zq hg) (hk : (Nat.blt d nt && svOk ⟨tm, bx, ks⟩ v) = true := by exact rfl) : Ops P C nt Q all (o :: rest) ⟨tm, bx, ks⟩ := o_pureG hG hd hp (Bool.and_eq_true_iff.1 hk).1 (Bool.and_eq_true_iff.1 hk).2 h
theorem zD (i : Nat) (h : OpsD P C nt Q all oB oK hd' (listed.setIfInBounds i true) fuel ⟨(d, v) :: tm, bx, ks⟩) (hi : all[i]? = some o := by exact rfl) (hg : o.guard = none := by exact rfl) (hd : o.dst = some d := by exact rfl) (hp : Pu P C nt o ⟨tm, bx, ks⟩ v Ks Bs := by
  exact zp) (hk : (Nat.blt d nt && svOk ⟨tm, bx, ks⟩ v) = true := by exact rfl) (h1 : (Ks.all fun k => oK.contains k) = true := by exact rfl) (h2 : (Bs.all fun k => oB.contains k) = true := by exact rfl) (ht : takeB .any all hd' listed i = true := by kernel_rfl) : OpsD P C nt Q all oB oK hd' listed (fuel + 1) ⟨tm, bx, ks⟩ := d_take i hi ht hg hd hp h1 h2 (Bool.and_eq_true_iff.1 hk).1 (Bool.and_eq_true_iff.1 hk).2 h
theorem zDG (i : Nat) (h : OpsD P C nt Q all oB oK hd' (listed.setIfInBounds i true) fuel ⟨(d, .opt g v) :: tm, bx, ks⟩) (hi : all[i]? = some o := by exact rfl) (hd : o.dst = some d := by exact rfl) (hG : Gd P C nt ⟨tm, bx, ks⟩ all o g := by first | exact gd_bool rfl rfl rfl rfl rfl | exact gd_opt rfl rfl rfl rfl rfl) (hp : g = true → Pu P C nt o ⟨tm, bx, ks⟩ v Ks Bs := by
  intro hg
  exact zq hg) (hk : (Nat.blt d nt && svOk ⟨tm, bx, ks⟩ v) = true := by exact rfl) (h1 : (Ks.all fun k => oK.contains k) = true := by exact rfl) (h2 : (Bs.all fun k => oB.contains k) = true := by exact rfl) (ht : takeB .any all hd' listed i = true := by kernel_rfl) : OpsD P C nt Q all oB oK hd' listed (fuel + 1) ⟨tm, bx, ks⟩ := d_takeG i hi ht hG hd hp h1 h2 (Bool.and_eq_true_iff.1 hk).1 (Bool.and_eq_true_iff.1 hk).2 h
theorem zDX (i : Nat) (h : OpsD P C nt Q all oB oK hd' (listed.setIfInBounds i true) fuel ⟨(d, v) :: tm, bx, ks⟩) (hi : all[i]? = some o := by exact rfl) (hg : o.guard = none := by exact rfl) (hd : o.dst = some d := by exact rfl) (hp : Pu P C nt o ⟨tm, bx, ks⟩ v Ks Bs := by
  exact zp) (hk : (Nat.blt d nt && svOk ⟨tm, bx, ks⟩ v) = true := by exact rfl) (hx : extO o = true := by exact rfl) (ht : takeXB .any all hd' listed i = true := by kernel_rfl) : OpsD P C nt Q all oB oK hd' listed (fuel + 1) ⟨tm, bx, ks⟩ := d_takeX i hi ht hx hg hd hp (Bool.and_eq_true_iff.1 hk).1 (Bool.and_eq_true_iff.1 hk).2 h
theorem zN {nK : List Nat} (i : Nat) (h : OpsN P C nt Q all oB oK nK hd' (listed.setIfInBounds i true) fuel ⟨(d, v) :: tm, bx, ks⟩) (hi : all[i]? = some o := by exact rfl) (hg : o.guard = none := by exact rfl) (hd : o.dst = some d := by exact rfl) (hp : Pu P C nt o ⟨tm, bx, ks⟩ v Ks Bs := by
  exact zp) (hk : (Nat.blt d nt && svOk ⟨tm, bx, ks⟩ v) = true := by exact rfl) (h1 : (Ks.all fun k => oK.contains k) = true := by exact rfl) (h2 : (Bs.all fun k => oB.contains k) = true := by exact rfl) (ht : takeB .any all hd' listed i = true := by kernel_rfl) : OpsN P C nt Q all oB oK nK hd' listed (fuel + 1) ⟨tm, bx, ks⟩ := n_take i hi ht hg hd hp h1 h2 (Bool.and_eq_true_iff.1 hk).1 (Bool.and_eq_true_iff.1 hk).2 h
theorem zC {f : FuncId} {xs : List Operand} {ats : Array TypeId} {us : List SV} (hc : ∀ (args : Array Value) (w : World), (callFunc f args).run P w = .ok (.enter f args) w) (h : Ops P C nt Q all rest ⟨(d, X) :: tm, bx, ks⟩) (hg : o.guard = none := by exact rfl) (hd : o.dst = some d := by exact rfl) (ho : o.op = .call { callee := .value (.func f), args := xs.toArray, argTypes := ats } := by exact rfl)
  (ha : ArgSs P C nt ⟨tm, bx, ks⟩ xs us := by exact zr) (hf : PFn P f us X) (hp : X.plain = true := by exact rfl) (hn : Nat.blt d nt = true := by exact rfl) : Ops P C nt Q all (o :: rest) ⟨tm, bx, ks⟩ := o_call hg hd ho hc hf ha hp hn h
theorem zK {f : FuncId} {xs : List Operand} {ats : Array TypeId} {us : List SV} {kk : List (Nat × Option KC)} (m : Nat) (hc : ∀ (args : Array Value) (w : World), (callFunc f args).run P w = .ok (.enter f args) w) (h : Ops P C nt Q all rest ⟨(d, v.sh m) :: tm, bx, shK m kk ++ ks⟩) (hg : o.guard = none := by exact rfl) (hd : o.dst = some d := by exact rfl) (ho : o.op = .call { callee := .value (.func f), args := xs.toArray, argTypes := ats } := by exact rfl)
  (ha : ArgSs P C nt ⟨tm, bx, ks⟩ xs us := by exact zr) (hf : KFn P f us v kk) (hn : Nat.blt d nt = true := by exact rfl) (hres : v.retOk = true := by exact rfl) (hfree : (kk.all fun q => (lkk ⟨tm, bx, ks⟩ (m + q.1)).isNone) = true := by exact rfl) : Ops P C nt Q all (o :: rest) ⟨tm, bx, ks⟩ := o_callK m hg hd ho hc hf ha hn hres hfree h
theorem z {p q : Prop} (h : q) (s : q → p := by
  first
  | with_reducible exact yN
  | with_reducible exact yR
  | with_reducible exact ok_seq
  | with_reducible exact then_n
  | with_reducible exact ok_ret
  | with_reducible exact then_r
  | with_reducible exact ok_skip
  | with_reducible exact ok_block
  | with_reducible exact then_e
  | with_reducible exact ok_exit
  | with_reducible exact blk_r
  | with_reducible exact blk_n
  | (with_reducible refine fun h => blk_e ?_ h) <;> exact rfl
  | (with_reducible refine fun h => blk_o ?_ h) <;> exact rfl
  | exact fun h => yA rfl rfl rfl h
  | exact fun h => yX rfl rfl rfl rfl rfl rfl h
  | exact fun h => o_alloc hT rfl rfl rfl rfl rfl rfl h
  | exact fun h => yS hT rfl rfl rfl rfl rfl rfl rfl rfl h
  | exact fun h => zO h
  | exact fun h => zG h
  | exact yN
  | exact fun h => fin1 (res_tmp rfl) (eqB h)
  | exact fun h => fin1 (res_tmp rfl) (eqI h)
  | exact fun h => fin1 (res_tmp rfl) (eqS h)
  | exact fun h => fin1n (res_tmp rfl) (eqB h)
  | exact fun h => fin1n (res_tmp rfl) (eqI h)
  | exact fun h => fin1n (res_tmp rfl) (eqS h)) : p := s h
end
end Go.Proofs.Ytiibjeoapmhjmaa

namespace Go.Proofs.Ytiibjeoapmhjmaa
open Go.RowKit
open Go.Proofs
theorem cut_cases {k : Int} {n j : Nat} (hj : (k ≤ 0 ∧ j = 0) ∨ (0 < k ∧ k ≤ n ∧ k = j) ∨ (0 < k ∧ (n : Int) < k ∧ j = n)) :
  (k ≤ 0 ∧ j = 0) ∨ (0 < k ∧ k ≤ n ∧ k = j) ∨ (0 < k ∧ (n : Int) < k ∧ j = 0 ∧ n = 0) ∨ (0 < k ∧ (n : Int) < k ∧ 0 < (n : Int) ∧ j = n) := by omega
theorem cut_zero (k : Int) : (max 0 (min k 0)).toNat = 0 := by omega
theorem cut_at {k : Int} {n j : Nat} (hj : (k ≤ 0 ∧ j = 0) ∨ (0 < k ∧ k ≤ n ∧ k = j) ∨ (0 < k ∧ (n : Int) < k ∧ j = n)) : (max 0 (min k (n : Int))).toNat = j := by omega
set_option maxHeartbeats 400000 in
/-- the cut at j, the garbage behind it -/
theorem impl_CrashLog_at (w : World) (bs gs : List UInt8) (A : Option Addr) (n c : Nat) (k : Int) (B : Option Addr) (m d : Nat) (hx : bytesC.Rd w w.heap.size bs [.slice A n c]) (hy : bytesC.Rd w w.heap.size gs [.slice B m d])
  (hn : n ≤ 1048576) (hm : m ≤ 1048576) (j : Nat) (hj : (k ≤ 0 ∧ j = 0) ∨ (0 < k ∧ k ≤ n ∧ k = j) ∨ (0 < k ∧ (n : Int) < k ∧ j = n)) :
  Calls Try.prog 7 #[.slice A n c, .int .i64 k, .slice B m d] w (RetV bytesC (bs.take j ++ gs) w) := by
 have hjn : j ≤ n := by omega
 obtain ⟨hl, _, _, _, _⟩ := bytes_row hx
 have hcn : n ≤ c := by assumption
 obtain ⟨hl2, _, _, hrow, hlt⟩ := bytes_row hy
 have HT := Lib.hid (rd_take hx j hjn)
 have HL := Lib.hid hl
 have HL2 := Lib.hid hl2
 have HY := Lib.hid hy
 clear hx hy hl hl2
 have HE := Lib.hid (cut_at hj)
 have hj' := cut_cases hj
 clear hj
 rcases hj' with ⟨h1, rfl⟩ | ⟨h1, h2, rfl⟩ | ⟨h1, h2, rfl, rfl⟩ | ⟨h1, h2, h3, rfl⟩
 all_goals
  go_enter Try.func7, Try.ntmps7
  go_wp2_with fail
 all_goals
  first | rw [HE.out] | rw [cut_zero] | skip
  refine (impl_copyBytes _ (bs.take _) A _ c HT.out (by omega)).mono ?_
  rintro e w1 ⟨A1, n1, c1, fp, rfl, hown, hfr, hchg⟩
  have hl1 := own_len hown
  have hn1 : n1 ≤ 1048576 := by rw [hl1]; have := HL.out; simp; try omega
  have hrow1 := hrow.chg hlt (Nat.le_refl _) hchg
  have HO := Lib.hid hown
  have HF := Lib.hid hfr
  have HC := Lib.hid hchg
  clear hown hfr hchg hl1
  go_wp2_with (first | (at_builtin; refine wpList_push byteC _ rfl _ _ _ rfl 5 _ 1 Try.underlying22 infoByte rfl A1 n1 c1 rfl (bs.take _) fp HO.out B m d rfl gs [] (gs.map byteV) hrow1 (all_bytes _) HL2.out (by rw [List.append_nil]; exact HF.out.1) (by simp only [maxLen]; omega) (by omega) ?_; intro A' c' w2 fp' hown hnd hfp hchg; have H1 := Lib.hid hown; have H2 := Lib.hid (HC.out.andThen hchg (fun x hx => .inr (HF.out.2 x hx))); have H3 := Lib.hid hfp; clear hown hchg hfp))
  go_ret
  refine ⟨A', _, c', fp', rfl, H1.out, ⟨hnd, fun b hb => ?_⟩, H2.out⟩
  rcases H3.out b hb with h | h | h
  ·exact HF.out.2 b h
  ·simp at h
  ·have := HC.out.size; omega
end Go.Proofs.Ytiibjeoapmhjmaa

namespace Go.Proofs.Ytiibjeoapmhjmaa
open Go.RowKit
open Go.Proofs

theorem uv_ne (n : Nat) : 0 < (uv n).length := by
 by_cases h : n < 128
 ·rw [uv_small h]; simp
 ·rw [uv_big h]; simp
theorem rd_small (f k acc n : Nat) (r : List UInt8) (h : n < 128) (hz : 0 < k → 0 < n) (hm : acc + n * 2 ^ (7 * k) ≤ 1000000000000) :
  rdF (f + 1) k acc (UInt8.ofNat n :: r) = some (acc + n * 2 ^ (7 * k), k + 1) := by
 have h1 : (UInt8.ofNat n).toNat = n := by simp; omega
 have h2 : n % 128 = n := Nat.mod_eq_of_lt h
 unfold rdF
 rw [h1, h2, if_pos h, if_neg (by omega)]
theorem rd_big (f k acc n : Nat) (r : List UInt8) : rdF (f + 1) k acc (UInt8.ofNat (n % 128 + 128) :: r) = rdF f (k + 1) (acc + (n % 128) * 2 ^ (7 * k)) r := by
 have h1 : (UInt8.ofNat (n % 128 + 128)).toNat = n % 128 + 128 := by simp; omega
 conv => lhs; unfold rdF
 rw [h1, if_neg (by omega), show (n % 128 + 128) % 128 = n % 128 by omega]
theorem split_pow (n k : Nat) : n * 2 ^ (7 * k) = (n % 128) * 2 ^ (7 * k) + (n / 128) * 2 ^ (7 * (k + 1)) := by
 rw [show 7 * (k + 1) = 7 + 7 * k by omega, Nat.pow_add, ← Nat.mul_assoc, ← Nat.add_mul]
 congr 1
 omega
theorem rd_uv : ∀ (f k acc n : Nat) (r : List UInt8), (uv n).length ≤ f → (0 < k → 0 < n) → acc + n * 2 ^ (7 * k) ≤ 1000000000000 →
  rdF f k acc (uv n ++ r) = some (acc + n * 2 ^ (7 * k), k + (uv n).length)
 | 0, k, acc, n, r, h, _, _ => by have := uv_ne n; omega
 | f + 1, k, acc, n, r, h, hz, hm => by
  by_cases h1 : n < 128
  ·rw [uv_small h1, List.singleton_append, rd_small f k acc n r h1 hz hm]; rfl
  ·rw [uv_big h1] at h ⊢
   rw [List.cons_append, rd_big, rd_uv f (k + 1) _ (n / 128) r (by simpa using h) (by omega) (by rw [Nat.add_assoc, ← split_pow]; exact hm), Nat.add_assoc, ← split_pow]
   simp only [List.length_cons, Option.some.injEq, Prod.mk.injEq, true_and]
   omega
theorem rd_cut : ∀ (f k acc n j : Nat), j < (uv n).length → rdF f k acc ((uv n).take j) = none
 | 0, _, _, _, _, _ => rfl
 | f + 1, k, acc, n, 0, _ => by simp [rdF]
 | f + 1, k, acc, n, j + 1, h => by
  by_cases h1 : n < 128
  ·rw [uv_small h1] at h; simp at h
  ·rw [uv_big h1] at h ⊢
   rw [List.take_succ_cons, rd_big]
   exact rd_cut f (k + 1) _ (n / 128) j (by simpa using h)
theorem rdU_uv (b r : List UInt8) (n : Nat) (hn : n ≤ 1000000000000) : rdU (b ++ uv n ++ r) b.length = some (n, (uv n).length) := by
 have h0 := uv_ne n
 unfold rdU
 rw [if_pos (by simp; omega), Int.toNat_natCast, List.append_assoc, List.drop_left, rd_uv 6 0 0 n r (uv_lenO n hn) (by omega) (by simpa using hn)]
 simp
theorem rdU_cut (b : List UInt8) (n j : Nat) (h : j < (uv n).length) : rdU (b ++ (uv n).take j) b.length = none := by
 unfold rdU
 split
 ·rw [Int.toNat_natCast, List.drop_left]; exact rd_cut 6 0 0 n j h
 ·rfl
def ent (v : Nat) (d : List UInt8) : List UInt8 := uv d.length ++ d ++ uv (checkV v d).toNat
theorem check_le (v : Int) (d : List UInt8) : 0 ≤ checkV v d ∧ (checkV v d).toNat ≤ 1000000000000 := by
 have h := hash_range ([101, v] ++ b2i d.length d)
 have h2 : 0 ≤ checkV v d ∧ checkV v d < 2147483647 := h
 omega
theorem logOut_ent (b d : List UInt8) (v : Nat) (hd : d.length ≤ 4000) : logOut b v d = b ++ ent v d := by
 have h := check_le v d
 unfold logOut appBO ent
 rw [appU_inO (b := appUO b d.length ++ d) (n := checkV v d) (by omega), appU_inO (b := b) (n := (d.length : Int)) (by omega)]
 simp
theorem rdB_ent (b d r : List UInt8) (hd : d.length ≤ 4000) : rdB (b ++ uv d.length ++ d ++ r) b.length 4000 = some (d, (b ++ uv d.length ++ d).length) := by
 have hu := rdU_uv b (d ++ r) d.length (by omega)
 unfold rdB
 rw [List.append_assoc (b ++ uv d.length), hu]
 simp only [Int.toNat_natCast]
 rw [if_pos (by simp; omega), ← List.append_assoc (b ++ uv d.length), List.append_assoc (b ++ uv d.length), show b.length + (uv d.length).length = (b ++ uv d.length).length by simp, List.drop_left]
 simp
 omega
theorem rlog_cut (b d : List UInt8) (v j f : Nat) (acc : List (List UInt8)) (hd : d.length ≤ 4000) (hj : j < (ent v d).length) : rlog (b ++ (ent v d).take j) f b.length acc = (acc, b.length) := by
 cases f with
 | zero => rfl
 | succ f =>
  unfold ent at hj ⊢
  simp only [List.length_append] at hj
  by_cases h1 : j < (uv d.length).length
  ·have hc : (uv d.length ++ d ++ uv (checkV v d).toNat).take j = (uv d.length).take j := by
    rw [List.append_assoc, List.take_append_of_le_length (by omega)]
   rw [hc]
   refine rlog_none ?_
   unfold rdB
   rw [rdU_cut b d.length j h1]
  ·by_cases h2 : j < (uv d.length).length + d.length
   ·have hc : (uv d.length ++ d ++ uv (checkV v d).toNat).take j = uv d.length ++ d.take (j - (uv d.length).length) := by
     rw [List.take_append_of_le_length (by simp; omega), List.take_append, List.take_of_length_le (by omega)]
    rw [hc, ← List.append_assoc]
    refine rlog_none ?_
    unfold rdB
    rw [rdU_uv b _ d.length (by omega)]
    simp only [Int.toNat_natCast]
    rw [if_neg]
    simp
    omega
   ·have hc : (uv d.length ++ d ++ uv (checkV v d).toNat).take j = uv d.length ++ d ++ (uv (checkV v d).toNat).take (j - (uv d.length ++ d).length) := by
     rw [List.take_append, List.take_of_length_le (by simp; omega)]
    rw [hc, ← List.append_assoc, ← List.append_assoc]
    refine rlog_none2 (rdB_ent b d _ hd) ?_
    exact rdU_cut (b ++ uv d.length ++ d) _ _ (by simp; omega)
theorem rlog_ent (b d r : List UInt8) (f : Nat) (acc : List (List UInt8)) (hd : d.length ≤ 4000) : rlog (b ++ ent acc.length d ++ r) (f + 1) b.length acc = rlog (b ++ ent acc.length d ++ r) f (b ++ ent acc.length d).length (acc ++ [d]) := by
 have h := check_le acc.length d
 have hb : rdB (b ++ ent acc.length d ++ r) b.length 4000 = some (d, (b ++ uv d.length ++ d).length) := by
  have := rdB_ent b d (uv (checkV acc.length d).toNat ++ r) hd
  unfold ent
  simpa only [List.append_assoc] using this
 have hu : rdU (b ++ ent acc.length d ++ r) (b ++ uv d.length ++ d).length = some ((checkV acc.length d).toNat, (uv (checkV acc.length d).toNat).length) := by
  have := rdU_uv (b ++ uv d.length ++ d) r (checkV acc.length d).toNat h.2
  unfold ent
  simpa only [List.append_assoc] using this
 rw [rlog_go hb hu (by omega)]
 congr 1
 unfold ent
 simp
 omega
def ents : Nat → List (List UInt8) → List UInt8
 | _, [] => []
 | v, d :: r => ent v d ++ ents (v + 1) r
theorem ents_snoc : ∀ (v : Nat) (ds : List (List UInt8)) (d : List UInt8), ents v (ds ++ [d]) = ents v ds ++ ent (v + ds.length) d
 | v, [], d => by simp [ents]
 | v, e :: ds, d => by simp only [List.cons_append, ents, ents_snoc (v + 1) ds d, List.append_assoc, List.length_cons]; rw [show v + 1 + ds.length = v + (ds.length + 1) by omega]
theorem rlog_ents : ∀ (ds : List (List UInt8)) (b r : List UInt8) (f : Nat) (acc : List (List UInt8)), (∀ d ∈ ds, d.length ≤ 4000) →
  rlog (b ++ ents acc.length ds ++ r) (f + ds.length) b.length acc = rlog (b ++ ents acc.length ds ++ r) f (b ++ ents acc.length ds).length (acc ++ ds)
 | [], b, r, f, acc, _ => by simp [ents]
 | d :: ds, b, r, f, acc, h => by
  have h1 := rlog_ent b d (ents (acc.length + 1) ds ++ r) (f + ds.length) acc (h d (by simp))
  have h2 := rlog_ents ds (b ++ ent acc.length d) r f (acc ++ [d]) (fun x hx => h x (by simp [hx]))
  rw [List.length_append, List.length_singleton] at h2
  simp only [ents, List.length_cons]
  rw [show f + (ds.length + 1) = f + ds.length + 1 by omega]
  simp only [List.append_assoc, List.singleton_append, List.length_append] at h1 h2 ⊢
  rw [h1, h2]
theorem rlog_at_end (bs : List UInt8) (f : Nat) (acc : List (List UInt8)) : rlog bs f bs.length acc = (acc, bs.length) := by
 cases f with
 | zero => rfl
 | succ f => exact rlog_none (by unfold rdB; rw [show rdU bs bs.length = none from if_neg (by omega)])
theorem ent_pos (v : Nat) (d : List UInt8) : 0 < (ent v d).length := by
 have := uv_ne d.length
 unfold ent
 simp only [List.length_append]
 omega
theorem ents_len : ∀ (v : Nat) (ds : List (List UInt8)), ds.length ≤ (ents v ds).length
 | _, [] => by simp
 | v, d :: ds => by
  have h1 := ents_len (v + 1) ds
  have h2 := ent_pos v d
  simp only [ents, List.length_append, List.length_cons]
  omega
theorem rl_whole (ds : List (List UInt8)) (h : ∀ d ∈ ds, d.length ≤ 4000) : rl (ents 0 ds) = (ds, (ents 0 ds).length) := by
 have h1 := rlog_ents ds [] [] ((ents 0 ds).length + 1 - ds.length) [] h
 have h2 := ents_len 0 ds
 simp only [List.nil_append, List.append_nil, List.length_nil] at h1
 unfold rl
 rw [show (ents 0 ds).length + 1 - ds.length + ds.length = (ents 0 ds).length + 1 by omega] at h1
 rw [h1, rlog_at_end]
theorem rl_cut (ds : List (List UInt8)) (d : List UInt8) (j : Nat) (h : ∀ d ∈ ds, d.length ≤ 4000) (hd : d.length ≤ 4000) (hj : j < (ent ds.length d).length) :
  rl (ents 0 ds ++ (ent ds.length d).take j) = (ds, (ents 0 ds).length) := by
 have h1 := rlog_ents ds [] ((ent ds.length d).take j) ((ents 0 ds ++ (ent ds.length d).take j).length + 1 - ds.length) [] h
 have h2 := ents_len 0 ds
 simp only [List.nil_append, List.length_nil] at h1
 unfold rl
 rw [show (ents 0 ds ++ (ent ds.length d).take j).length + 1 - ds.length + ds.length = (ents 0 ds ++ (ent ds.length d).take j).length + 1 by simp; omega] at h1
 rw [h1, rlog_cut _ d ds.length j _ _ hd hj]
theorem ents_app : ∀ (a b : List (List UInt8)) (v : Nat), ents v (a ++ b) = ents v a ++ ents (v + a.length) b
 | [], b, v => by simp [ents]
 | d :: a, b, v => by
  simp only [List.cons_append, ents, ents_app a b (v + 1), List.append_assoc, List.length_cons]
  rw [show v + 1 + a.length = v + (a.length + 1) by omega]
theorem ents_take (ds : List (List UInt8)) (m : Nat) : (ents 0 ds).take (ents 0 (ds.take m)).length = ents 0 (ds.take m) := by
 have h := ents_app (ds.take m) (ds.drop m) 0
 rw [List.take_append_drop] at h
 rw [h, List.take_left]
theorem rl_anywhere (ds : List (List UInt8)) (m cut : Nat) (h : ∀ d ∈ ds, d.length ≤ 4000) (hm : m ≤ ds.length) (hc : (ents 0 (ds.take m)).length ≤ cut)
  (hx : (m = ds.length ∧ cut ≤ (ents 0 ds).length) ∨ (m < ds.length ∧ cut < (ents 0 (ds.take (m + 1))).length)) : rl ((ents 0 ds).take cut) = (ds.take m, (ents 0 (ds.take m)).length) := by
 rcases hx with ⟨h1, h2⟩ | ⟨h1, h2⟩
 ·subst h1
  rw [List.take_of_length_le (Nat.le_refl _)] at hc ⊢
  rw [List.take_of_length_le (by omega)]
  exact rl_whole ds h
 ·have hlm : (ds.take m).length = m := by rw [List.length_take]; omega
  have e1 := ents_app (ds.take m) (ds.drop m) 0
  rw [List.take_append_drop, hlm, Nat.zero_add, List.drop_eq_getElem_cons h1] at e1
  simp only [ents] at e1
  have e2 := ents_snoc 0 (ds.take m) ds[m]
  rw [hlm, Nat.zero_add, List.take_append_getElem h1] at e2
  rw [e2, List.length_append] at h2
  have e3 : (ents 0 ds).take cut = ents 0 (ds.take m) ++ (ent m ds[m]).take (cut - (ents 0 (ds.take m)).length) := by
   rw [e1, List.take_append, List.take_of_length_le hc, List.take_append_of_le_length (by omega)]
  rw [e3]
  have e4 := rl_cut (ds.take m) ds[m] (cut - (ents 0 (ds.take m)).length) (fun d hd => h d (List.mem_of_mem_take hd)) (h _ (List.getElem_mem h1)) (by rw [hlm]; omega)
  rw [hlm] at e4
  exact e4
end Go.Proofs.Ytiibjeoapmhjmaa

namespace Go.Proofs.Ytiibjeoapmhjmaa
open Go.RowKit
open Go.Proofs
set_option linter.unusedVariables false
set_option linter.unusedSimpArgs false
def alOk (b : List UInt8) (v : Int) (ds : List UInt8) : Bool := decide (¬ alBad b v ds)
theorem alTail_eq (b : List UInt8) (v : Int) (ds : List UInt8) : alTail b v ds = [.bool (alOk b v ds)] := by
 unfold alTail alOk
 split
 ·rename_i h; simp [h]
 ·rename_i h; simp [h]
theorem ok_impl_AppendLog {b ds : List UInt8} {v : Int} (hb : b.length ≤ 1048576) (hd : ds.length ≤ 1048576) (hv : 0 ≤ v) (hv2 : v ≤ 1048576) : KFn Try.prog 6 [.one (.dv [] (bytesD (b))), .one (.dv [] (.int .i64 (v))), .one (.dv [] (bytesD (ds)))] (.tup [(false, [.key 0]), (false, [.dv [] (.bool (alOk b v ds))])]) [(0, some (kcOf false (bytesD (alHead b v ds))))] := by
 refine kfn_tup (ts := [(.bool (alOk b v ds), .bool (alOk b v ds))]) (fun t ht ok w => ?_) (fun w vals hl h => ?_)
 ·simp only [List.mem_cons, List.not_mem_nil, or_false] at ht
  subst ht
  exact lay_bool
 ·obtain ⟨A, c, h1, hr⟩ := arg_bytes (i := 0) (bs := b) h rfl
  have h3 := arg_int (i := 1) (n := v) h rfl
  obtain ⟨B, d, h5, hr2⟩ := arg_bytes (i := 2) (bs := ds) h rfl
  obtain rfl : vals = [.slice A b.length c, .int .i64 v, .slice B ds.length d] := by
   match vals, hl with
   | [x, y, z], _ => simp at h1 h3 h5; rw [h1, h3, h5]
  refine (impl_AppendLog w b ds v A b.length c B ds.length d hr hr2 (by omega) (by omega) (by omega) (by omega)).mono ?_
  rintro e w' ⟨A1, n1, c1, fp, rfl, ho, hf, hc⟩
  exact ⟨_, fp, by rw [alTail_eq]; rfl, own_of_bytes ho, hf, hc⟩
theorem ok_impl_CrashLog {b g : List UInt8} {k : Int} (hk : 0 ≤ k) (hj : k ≤ (b.length : Int)) (hb : b.length ≤ 1048576) (hg : g.length ≤ 1048576) : KFn Try.prog 7 [.one (.dv [] (bytesD (b))), .one (.dv [] (.int .i64 (k))), .one (.dv [] (bytesD (g)))] (.one (.key 0)) [(0, some (kcOf false (bytesD (b.take k.toNat ++ g))))] := by
 refine kfn_slice (fun w vals hl h => ?_)
 obtain ⟨A, c, h1, hr⟩ := arg_bytes (i := 0) (bs := b) h rfl
 have h3 := arg_int (i := 1) (n := k) h rfl
 obtain ⟨B, d, h5, hr2⟩ := arg_bytes (i := 2) (bs := g) h rfl
 obtain rfl : vals = [.slice A b.length c, .int .i64 k, .slice B g.length d] := by
  match vals, hl with
  | [x, y, z], _ => simp at h1 h3 h5; rw [h1, h3, h5]
 refine (impl_CrashLog_at w b g A b.length c k B g.length d hr hr2 hb hg k.toNat (by omega)).mono ?_
 rintro e w' ⟨A1, n1, c1, fp, rfl, ho, hf, hc⟩
 exact ⟨_, fp, rfl, own_of_bytes ho, hf, hc⟩
theorem o_kcs {P : Program} {C : Ctx} {nt : Nat} {Q : Exit → St → Prop} {all : Array Oper} {rest : List Oper} {tm : List (Nat × SV)} {bx : List (Nat × TypeId × List CV)} {ks : List (Nat × Option KC)} {k : Nat} {kc : KC} {n' : Nat} {cs' : List DV} (hk : lkk ⟨tm, bx, ks⟩ k = some kc) (en : kc.n = n') (e : kc.cs = cs')
  (h : Ops P C nt Q all rest ⟨tm, bx, (k, some { kc with n := n', cs := cs' }) :: ks⟩) : Ops P C nt Q all rest ⟨tm, bx, ks⟩ := by
 subst en; subst e
 refine ops_weak (Weak.mk fun L a w hr => ⟨L, hr.same (ks := (k, some kc) :: ks) fun i => ?_⟩) h
 simp only [lkk, look_cons] at hk ⊢
 split
 ·rename_i e'; rw [e', hk]; rfl
 ·rfl
end Go.Proofs.Ytiibjeoapmhjmaa

