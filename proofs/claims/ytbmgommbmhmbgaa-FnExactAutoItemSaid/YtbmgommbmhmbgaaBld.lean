/-
  The rules of the abstract logic for structs that are written out, and for strings that are joined.
-/
import Derived.Test.YtbmgommbmhmbgaaApp
namespace Go.Proofs.Ytbmgommbmhmbgaa
open Go.RowKit
set_option linter.unusedVariables false
set_option linter.unusedSimpArgs false

/-- structs: the places and sizes of their fields -/
def bCheck (P : Program) (T : List (Nat × List (Nat × Nat))) : Bool := T.all fun p => match P.underlying p.1 with
  | some (.struct fs) => (fs.toList.map fun f => (f.offset, (P.info? f.type).map (·.size))) == p.2.map fun q => (q.1, some q.2)
  | _ => false
structure BOk (P : Program) (T : List (Nat × List (Nat × Nat))) : Prop where
  bs : ∀ t pl, look T t = some pl → ∃ fs, P.underlying t = some (.struct fs) ∧ (fs.toList.map fun f => (f.offset, (P.info? f.type).map (·.size))) = pl.map fun q => (q.1, some q.2)
theorem bOk {P : Program} {T : List (Nat × List (Nat × Nat))} (h : bCheck P T = true) : BOk P T := by
  refine ⟨fun t pl hl => ?_⟩
  have := List.all_eq_true.1 h _ (look_mem hl)
  dsimp only at this
  split at this
  · rename_i fs hfs; exact ⟨fs, hfs, by simpa using this⟩
  · cases this
section
variable {P : Program} {C : Ctx} {nt : Nat} {σ : St} {L : Lyt} {a : Act} {w : World} {o : Oper} {x y : Operand} {T : TT} {B : List (Nat × List (Nat × Nat))}
theorem run_mapR {α β : Type} {g : α → Sem β} {q : α → β} : ∀ {xs : List α}, (∀ x ∈ xs, (g x).run P w = .ok (q x) w) → (xs.mapM g).run P w = .ok (xs.map q) w
  | [], _ => by simp only [List.mapM_nil, Sem.run_pure, List.map_nil]
  | x :: xs, h => by
    have ih := run_mapR (xs := xs) (fun y hy => h y (by simp [hy]))
    rw [List.mapM_cons]
    simp only [Sem.run_bind, h x (by simp), ih, Result.andThen_ok, Sem.run_pure, List.map_cons]
theorem run_mapA {α β : Type} {g : α → Sem β} {q : α → β} {xs : Array α} (h : ∀ x ∈ xs.toList, (g x).run P w = .ok (q x) w) : (xs.mapM g).run P w = .ok (xs.toList.map q).toArray w := by
  rw [Array.mapM_eq_mapM_toList, map_eq_pure_bind, Sem.run_bind, run_mapR h]
  simp only [Result.andThen_ok, Sem.run_pure]
/-- the parts of a struct, one after the other -/
def BParts (P : Program) (C : Ctx) (nt : Nat) (σ : St) (pl : List (Nat × Nat)) : List (Nat × Operand) → List CV → List CV → Prop
  | [], acc, res => acc = res
  | (i, x) :: ps, acc, res => ∃ v p off sz, Ev P C nt σ x v ∧ v.part = some p ∧ svOk σ v = true ∧ pl[i]? = some (off, sz) ∧ p.2.length = sz ∧ off + sz ≤ acc.length ∧ BParts P C nt σ pl ps (setR off p.2 acc) res
theorem bp_nil {pl : List (Nat × Nat)} {cs : List CV} : BParts P C nt σ pl [] cs cs := rfl
theorem bp_cons {pl : List (Nat × Nat)} {i off sz : Nat} {v : SV} {p : Bool × List CV} {ps : List (Nat × Operand)} {acc res : List CV} (hx : Ev P C nt σ x v) (hp : v.part = some p) (hk : svOk σ v = true) (hi : pl[i]? = some (off, sz)) (hl : p.2.length = sz) (hle : Nat.ble (off + sz) acc.length = true)
    (h : BParts P C nt σ pl ps (setR off p.2 acc) res) : BParts P C nt σ pl ((i, x) :: ps) acc res := ⟨v, p, off, sz, hx, hp, hk, hi, hl, by simpa [Nat.ble_eq] using hle, h⟩
theorem fill_parts (hr : Rel P C nt L σ a w) {pl : List (Nat × Nat)} : ∀ {ps : List (Nat × Operand)} {acc res : List CV} {us : List Value}, BParts P C nt σ pl ps acc res → CVL C L w acc us →
    ∃ vs, Instr.fill (fun i => pl.toArray[i]?) us.toArray (ps.map fun q => (q.1, a.eval q.2)) = some vs.toArray ∧ CVL C L w res vs
  | [], acc, res, us, h, hu => by simp only [BParts] at h; subst h; exact ⟨us, rfl, hu⟩
  | (i, x) :: ps, acc, res, us, ⟨v, p, off, sz, h1, h2, h3, h4, h5, h6, h7⟩, hu => by
    obtain ⟨xs, k1, k2, k3⟩ := sv_cells hr h2 h3 (h1.run L a w hr)
    obtain ⟨vs, g1, g2⟩ := fill_parts hr h7 (cvL_setR off hu k2)
    refine ⟨vs, ?_, g2⟩
    rw [List.map_cons, fill_one (off := off) (sz := sz) (by simpa using h4) k1 (by rw [cvL_len k2]; exact h5) (by rw [cvL_len hu]; exact h6)]
    exact g1
theorem pu_build (hT : TTOk P T) (hB : BOk P B) {t sz by_ : Nat} {zc cs : List CV} {pl : List (Nat × Nat)} {ps : List (Nat × Operand)} (ho : o.op = .build t ps.toArray) (ht : look T.el t = some (sz, by_, zc)) (hb : look B t = some pl) (h : BParts P C nt σ pl ps zc cs) : Pu P C nt o σ (.agg cs) [] [] := Pu.mk fun L a w hr => by
  obtain ⟨inf, z, g1, g2, g3, g4, g5⟩ := hT.el t sz by_ zc ht
  obtain ⟨c1, _, _⟩ := zL_cv (C := C) (L := L) (w := w) g5
  obtain ⟨fs, f1, f2⟩ := hB.bs t pl hb
  obtain ⟨vs, k1, k2⟩ := fill_parts hr h c1
  refine ⟨.agg vs.toArray, by simp only [SVr]; exact ⟨vs, rfl, k2⟩, fun w' _ => ?_⟩
  have hsz : ∀ f ∈ fs.toList, ∃ i, P.info? f.type = some i := fun f hf => by
    have : (f.offset, (P.info? f.type).map (·.size)) ∈ pl.map fun q => (q.1, some q.2) := by rw [← f2]; exact List.mem_map.2 ⟨f, hf, rfl⟩
    obtain ⟨q, _, hq⟩ := List.mem_map.1 this
    simp only [Prod.mk.injEq] at hq
    cases hi : P.info? f.type with
    | none => rw [hi] at hq; cases hq.2
    | some i => exact ⟨i, rfl⟩
  have hpl : (fs.toList.map fun f => (f.offset, ((P.info? f.type).map (·.size)).getD 0)) = pl := by
    have h2 := congrArg (List.map fun q : Nat × Option Nat => (q.1, q.2.getD 0)) f2
    simp only [List.map_map, Function.comp_def, Option.getD_some] at h2
    simpa using h2
  have hm : ∀ g : Field → Sem (Nat × Nat), (∀ f, g f = (do pure (f.offset, ← sizeOf f.type))) → (fs.mapM g).run P w' = .ok pl.toArray w' := fun g hg => by
    rw [run_mapA (q := fun f => (f.offset, ((P.info? f.type).map (·.size)).getD 0)) (fun f hf => by
      obtain ⟨i, hi⟩ := hsz f hf
      rw [hg f]
      simp [sizeOf, typeInfo, hi]), hpl]
  have hz : z.cells = z.cells.toList.toArray := by simp
  have hps : (Array.map (fun q => (q.1, a.eval q.2)) ps.toArray).toList = ps.map fun q => (q.1, a.eval q.2) := by simp
  unfold execOp
  simp only [ho, Instr.build, zeroValue, typeInfo, Sem.run_bind, run_program, g1, g4, Result.andThen_ok, Sem.run_pure, run_underlying f1, hm _ (fun _ => rfl), hps]
  rw [hz, k1]
  simp
theorem pu_sadd {t ty : TypeId} {K J : List Nat} {m n : ByteArray} (ho : o.op = .binOp .add t x y ty) (hx : Ev P C nt σ x (.one (.dv K (.str m)))) (hy : Ev P C nt σ y (.one (.dv J (.str n)))) (h : m.size + n.size ≤ 9223372036854775807) : Pu P C nt o σ (.one (.dv [] (.str (m ++ n)))) [] [] :=
  pu_str ho hx hy ⟨.string (m ++ n), fun ok w => by
    unfold Lay
    exact ⟨rfl, by rw [ByteArray.size_append]; exact h⟩, fun w => by
    have : ¬ (((m.size + n.size : Nat) : Int) > IntKind.i64.max) := by
      have e : IntKind.i64.max = 9223372036854775807 := rfl
      rw [e]; omega
    unfold Op.stringOp
    simp only [if_neg this, Sem.run_pure]⟩ ⟨by simp, by simp⟩
end
end Go.Proofs.Ytbmgommbmhmbgaa
