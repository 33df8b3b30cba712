/-
  Contracts that were proved by walking, taken over into the abstract logic: functions over bytes.
-/
import Derived.Test.YtbmgommbmhmbgaaStr
import Derived.Test.YtbmgommbmhmbgaaTypes
namespace Go.Proofs.Ytbmgommbmhmbgaa
open Go.RowKit
set_option linter.unusedVariables false
set_option linter.unusedSimpArgs false

section
variable {P : Program}
theorem lay_bytes {ok : Nat → Prop} {w : World} : ∀ {bs : List UInt8} {vs : List Value}, LayL ok w (bs.flatMap fun b => [DV.int .u8 (b.toNat : Int)]) vs → vs = bs.map fun b => Value.int .u8 (b.toNat : Int)
  | [], _, h => by simpa [LayL] using h
  | b :: bs, _, h => by
    simp only [List.flatMap_cons, List.singleton_append, LayL] at h
    obtain ⟨v, vs', rfl, h1, h2⟩ := h
    simp only [Lay] at h1
    rw [h1.1, lay_bytes h2]; rfl
theorem allR_bytes {w : World} {B : Nat} : ∀ bs : List UInt8, AllR (byteC.Rd w B) bs (bs.map fun b => Value.int .u8 (b.toNat : Int))
  | [] => rfl
  | b :: bs => ⟨[_], _, rfl, rfl, allR_bytes bs⟩
/-- a view of bytes reads, as the walks say it -/
theorem rd_of_lay {ok : Nat → Prop} {w : World} {e : Nat} {bs : List UInt8} {v : Value} (h : Lay ok w (.sl e 1 bs.length (bs.flatMap fun b => [DV.int .u8 (b.toNat : Int)])) v) : ∃ A c, v = .slice A bs.length c ∧ bytesC.Rd w w.heap.size bs [.slice A bs.length c] := by
  simp only [Lay] at h
  obtain ⟨A, c, vs, rfl, h1, h2, h3, h4, h5, h6⟩ := h
  have hvs := lay_bytes h5
  subst hvs
  refine ⟨A, c, rfl, A, c, _, rfl, h1, h2, allR_bytes bs, fun hn => ?_⟩
  obtain ⟨b, off, e1, _, e3⟩ := h6 hn
  exact ⟨b, off, e1, cell_lt (e3 0 _ (by rw [List.getElem?_map, List.getElem?_eq_getElem hn]; rfl)), e3⟩
theorem own_of_slice {α : Type} {w : World} {e : Nat} {C' : Cod α} {enc : α → List DV} (he : e < 1000000) (hl : ∀ x, (enc x).length = C'.size) (hx : ∀ x cs f, C'.Own w x cs f → OwnL w (enc x) cs f) {xs : List α} {v : Value} {fp : List Nat} (h : (sliceC e C').Own w xs [v] fp) : Own w (.sl e C'.size xs.length (xs.flatMap enc)) v fp := by
  obtain ⟨u, cells, f, h1, h2, h3, h4⟩ := h
  simp only [List.cons.injEq, and_true] at h1
  subst h1
  have key : ∀ (xs : List α) (cs : List Value) (g : List Nat), AllO (C'.Own w) xs cs g → OwnL w (xs.flatMap enc) cs g := by
    intro xs
    induction xs with
    | nil => intro cs g h; obtain ⟨rfl, rfl⟩ := h; simp [OwnL]
    | cons x xs ih =>
      rintro cs g ⟨c1, c2, f1, f2, rfl, rfl, h1, h2⟩
      rw [List.flatMap_cons]
      exact ownL_append _ _ _ _ _ _ (hx _ _ _ h1) (ih _ _ h2)
  unfold Own
  exact ⟨_, _, h2, C'.pos, flat_len hl xs, rowE_of he h3, key _ _ _ h4⟩
theorem own_of_bytes {w : World} {bs : List UInt8} {v : Value} {fp : List Nat} (h : bytesC.Own w bs [v] fp) : Own w (.sl 5 1 bs.length (bs.flatMap fun b => [DV.int .u8 (b.toNat : Int)])) v fp :=
  own_of_slice (C' := byteC) (by decide) (fun _ => rfl) (fun x cs f h => by
    obtain ⟨rfl, rfl⟩ := h
    have := ownL_bytes w [x]
    simpa using this) h
theorem rel_blank {C : Ctx} {nt : Nat} {L : Lyt} {σ : St} {a : Act} {w : World} (h : Rel P C nt L σ a w) (r : Value) : Rel P C 1 L ⟨[], [], []⟩ ⟨#[r], []⟩ w where
  df := rfl
  sz := rfl
  tm := fun i v hv => by cases hv
  bx := fun i t cs h => by cases h
  ks := fun k c h => by cases h
  b1 := fun i x h => by cases h
  k1 := fun k c h => by cases h
  kn := fun k c h => by cases h
  bb := fun i j x y h => by cases h
  bk := fun i k x c h => by cases h
  kk := fun k j c d h => by cases h
  lk := fun k hk => by simp [St.tk] at hk
  lb := fun b hb => by simp [St.tb] at hb
  s0 := h.s0
  chg := h.chg
/-- a fresh slice, in the abstract state -/
theorem ret_slice {C : Ctx} {nt : Nat} {L : Lyt} {σ : St} {a : Act} {w w' : World} (h : Rel P C nt L σ a w) {e sz m : Nat} {cs : List DV} {v : Value} {fp : List Nat} (r : Value) (ho : Own w' (.sl e sz m cs) v fp) (hf : Fresh w.heap.size fp) (hc : Chg [] w w') :
    ∃ L', L'.rv 0 = v ∧ Rel P C 1 L' ⟨[], [], [(0, some (KC.mk false e sz m cs))]⟩ ⟨#[r], []⟩ w' := by
  have h1 := (rel_blank h r).newkey' hc (k := 0) (c := KC.mk false e sz m cs) (v := v) (f := fp) rfl ho rfl hf.1 hf.2
  exact ⟨_, by simp, h1⟩
theorem enum_get (us : List SV) {i : Nat} {v : SV} (h : us[i]? = some v) : look (enumS 0 us) i = some v := by
  have key : ∀ (l : List SV) (j i : Nat), l[i]? = some v → look (enumS j l) (j + i) = some v := by
    intro l
    induction l with
    | nil => intro j i h; simp at h
    | cons u l ih =>
      intro j i h
      simp only [enumS, look_cons]
      cases i with
      | zero => simpa using h
      | succ i =>
        rw [if_neg (by omega), show j + (i + 1) = j + 1 + i by omega]
        exact ih (j + 1) i (by simpa using h)
  simpa using key us 0 i h
/-- what a walk is told of its arguments -/
@[reducible] def ArgsAt (P : Program) (us : List SV) (w : World) (vals : List Value) : Prop := ∃ (C : Ctx) (L : Lyt), ∀ (i : Nat) (v : SV), us[i]? = some v → ∃ x, vals[i]? = some x ∧ SVr P C L w v x
theorem args_at {C : Ctx} {L : Lyt} {w : World} {us : List SV} {vals : List Value} (hl : vals.length = us.length) {bx : List (Nat × TypeId × List CV)} {ks : List (Nat × Option KC)} {nt : Nat} (hr : Rel P C nt L ⟨enumS 0 us, bx, ks⟩ ⟨vals.toArray, []⟩ w) : ArgsAt P us w vals := by
  refine ⟨C, L, fun i v hv => ?_⟩
  have hi : i < vals.length := by rw [hl]; exact (List.getElem?_eq_some_iff.1 hv).1
  refine ⟨vals[i], List.getElem?_eq_getElem hi, ?_⟩
  have h1 := hr.tm i v (enum_get us hv)
  have h2 : vals.toArray.getD i undef = vals[i] := by simp [Array.getD_eq_getD_getElem?, List.getElem?_eq_getElem hi]
  simpa only [h2] using h1
theorem kfn_slice {f : FuncId} {us : List SV} {e sz m : Nat} {cs : List DV} (h : ∀ (w : World) (vals : List Value), vals.length = us.length → ArgsAt P us w vals →
      Calls P f vals.toArray w fun x w' => ∃ v fp, x = .returned v ∧ Own w' (.sl e sz m cs) v fp ∧ Fresh w.heap.size fp ∧ Chg [] w w') :
    KFn P f us (.one (.key 0)) [(0, some (KC.mk false e sz m cs))] := by
  refine ⟨fun w S0 L vals hl hr => ?_⟩
  refine (h w vals hl (args_at hl hr)).mono ?_
  rintro x w' ⟨v, fp, rfl, ho, hf, hc⟩
  obtain ⟨L', h1, h2⟩ := ret_slice hr v ho hf hc
  refine ⟨_, .one (.key 0), ⟨[], [], _⟩, L', rfl, ⟨rfl, rfl⟩, ?_⟩
  exact h2.also (d := 0) (v := .one (.key 0)) (by simp only [SVr, CVr]; rw [h1]; rfl) (by simp [SV.keys, CV.keys, lkk, look_cons]) (by simp [SV.boxes])
/-- a fresh slice, and plain values behind it -/
def plainT (ts : List (DV × Value)) : Prop := ∀ t ∈ ts, ∀ (ok : Nat → Prop) (w : World), Lay ok w t.1 t.2
theorem kfn_tup {f : FuncId} {us : List SV} {e sz m : Nat} {cs : List DV} {ts : List (DV × Value)} (ht : plainT ts) (h : ∀ (w : World) (vals : List Value), vals.length = us.length → ArgsAt P us w vals →
      Calls P f vals.toArray w fun x w' => ∃ v fp, x = .returned (.tuple (v :: ts.map (·.2)).toArray) ∧ Own w' (.sl e sz m cs) v fp ∧ Fresh w.heap.size fp ∧ Chg [] w w') :
    KFn P f us (.tup ((false, [.key 0]) :: ts.map fun t => (false, [CV.dv [] t.1]))) [(0, some (KC.mk false e sz m cs))] := by
  refine ⟨fun w S0 L vals hl hr => ?_⟩
  refine (h w vals hl (args_at hl hr)).mono ?_
  rintro x w' ⟨v, fp, rfl, ho, hf, hc⟩
  obtain ⟨L', h1, h2⟩ := ret_slice hr (.tuple (v :: ts.map (·.2)).toArray) ho hf hc
  refine ⟨_, .tup ((false, [.key 0]) :: ts.map fun t => (false, [CV.dv [] t.1])), ⟨[], [], _⟩, L', rfl, ⟨rfl, rfl⟩, ?_⟩
  have key : ∀ ts : List (DV × Value), plainT ts → TVL ⟨w, S0, L.rv⟩ L' w' (ts.map fun t => (false, [CV.dv [] t.1])) (ts.map (·.2)) := by
    intro ts
    induction ts with
    | nil => intro _; rfl
    | cons t ts ih =>
      intro ht
      exact ⟨[t.2], t.2, _, rfl, ⟨t.2, [], rfl, ht t (by simp) _ _, rfl⟩, by simp, ih (fun u hu => ht u (by simp [hu]))⟩
  have kk : ∀ ts : List (DV × Value), ((ts.map fun t => (false, [CV.dv [] t.1])).flatMap fun t => t.2.flatMap CV.keys) = [] := by
    intro ts
    induction ts with
    | nil => rfl
    | cons t ts ih => simp only [List.map_cons, List.flatMap_cons, ih]; rfl
  refine h2.also (d := 0) ?_ ?_ (by simp [SV.boxes])
  · simp only [SVr]
    refine ⟨_, by simp [Array.getD], [v], v, _, rfl, ⟨v, [], rfl, by simp only [CVr]; exact h1.symm, rfl⟩, by simp, key ts ht⟩
  · intro k hk
    simp only [SV.keys, List.flatMap_cons, kk, CV.keys, List.flatMap_nil, List.append_nil, List.mem_singleton] at hk
    subst hk
    simp [lkk, look_cons]
theorem pfn_ret {f : FuncId} {us : List SV} {X : SV} {v : Value} (hX : X.plain = true) (hv : ∀ C L w, SVr P C L w X v) (h : ∀ (w : World) (vals : List Value), vals.length = us.length → ArgsAt P us w vals → Calls P f vals.toArray w (Ret v w)) : PFn P f us X := by
  refine ⟨fun w S0 L vals hl hr => ?_⟩
  refine (h w vals hl (args_at hl hr)).mono ?_
  rintro x w' ⟨rfl, hc⟩
  obtain ⟨p1, p2, p3, p4⟩ := sv_plain_ret hX
  refine ⟨_, X, ⟨[], [], []⟩, L, rfl, rfl, ?_⟩
  exact ((rel_blank hr v).grow hc).also (d := 0) (v := X) (by simpa [Array.getD] using hv _ _ _) (by rw [p2]; simp) (by rw [p3]; simp)
end
end Go.Proofs.Ytbmgommbmhmbgaa
