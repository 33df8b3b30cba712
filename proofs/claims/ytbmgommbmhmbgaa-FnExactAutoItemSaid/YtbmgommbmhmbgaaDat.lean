/-
  Abstract data: Go's values as trees, how they lie in memory for reading (Lay) and owned (Own).
-/
import Derived.Test.YtbmgommbmhmbgaaLaws
namespace Go.Proofs.Ytbmgommbmhmbgaa
open Go.RowKit

/-- Go data: a slice holds its n elements' cells one behind the other, sz cells each; e: the element's type; hole: a cell of which nothing is known -/
inductive DV where
  | int (k : IntKind) (n : Int)
  | bool (b : Bool)
  | str (s : ByteArray)
  | sl (e : TypeId) (sz n : Nat) (cs : List DV)
  | hole
  deriving Inhabited

def InR (k : IntKind) (n : Int) : Prop := k.min ≤ n ∧ n ≤ k.max

mutual
/-- value v reads as d, by blocks that ok lets be read -/
def Lay (ok : Nat → Prop) (w : World) : DV → Value → Prop
  | .int k n, v => v = .int k n ∧ InR k n
  | .bool b, v => v = .bool b
  | .str s, v => v = .string s ∧ s.size ≤ 9223372036854775807
  | .sl _ sz n cs, v => ∃ A c vs, v = .slice A n c ∧ n ≤ c ∧ c ≤ maxLen ∧ 0 < sz ∧ cs.length = n * sz ∧ LayL ok w cs vs ∧
      (0 < n → ∃ b off, A = some ⟨b, off, none⟩ ∧ ok b ∧ ∀ j u, vs[j]? = some u → w.cell? ⟨b, off + j, none⟩ = some u)
  | .hole, v => v.oneCell' = true
def LayL (ok : Nat → Prop) (w : World) : List DV → List Value → Prop
  | [], vs => vs = []
  | d :: ds, vs => ∃ v vs', vs = v :: vs' ∧ Lay ok w d v ∧ LayL ok w ds vs'
end
/-- a row that is owned; a type's number from 1000000 on: a row that is only read (of the type e - 1000000, frozen wherever) -/
def rowE (w : World) (e sz : Nat) (v : Value) (n : Nat) (vs : List Value) : Prop :=
  (e < 1000000 → w.ownsRow 0 e sz v n vs) ∧
  (¬ e < 1000000 → vs.length = n * sz ∧ ((v = .slice none 0 0 ∧ n = 0) ∨ ∃ g cap cur t fz, v = .slice (some ⟨g, 0, none⟩) n cap ∧ w.heap[g]? = some (.cells cur t fz) ∧ n ≤ cap ∧ cap ≤ maxLen ∧ n * sz ≤ cur.size ∧ cur.toList.take (n * sz) = vs))
theorem rowE_of {w : World} {e sz n : Nat} {v : Value} {vs : List Value} (he : e < 1000000) (h : w.ownsRow 0 e sz v n vs) : rowE w e sz v n vs := ⟨fun _ => h, fun h' => absurd he h'⟩
theorem rowE_open {w : World} {e sz n : Nat} {v : Value} {vs : List Value} (h : rowE w e sz v n vs) : vs.length = n * sz ∧ ((v = .slice none 0 0 ∧ n = 0) ∨ ∃ g cap cur t fz, v = .slice (some ⟨g, 0, none⟩) n cap ∧ w.heap[g]? = some (.cells cur t fz) ∧ n ≤ cap ∧ cap ≤ maxLen ∧ n * sz ≤ cur.size ∧ cur.toList.take (n * sz) = vs) := by
  by_cases he : e < 1000000
  · obtain ⟨h1, h2⟩ := h.1 he
    refine ⟨h1, ?_⟩
    rcases h2 with h2 | ⟨g, cap, cur, k1, _, k2, k3, k4, k5, k6⟩
    · exact .inl h2
    · exact .inr ⟨g, cap, cur, e, (0, 0), k1, k2, k3, k4, by rw [k5]; exact Nat.mul_le_mul_right _ k3, k6⟩
  · exact h.2 he
theorem rowE_keep {w w' : World} {e sz n : Nat} {v : Value} {vs : List Value} (h : rowE w e sz v n vs) (hk : ∀ b ∈ v.ownBlock.toList, w'.heap[b]? = w.heap[b]?) : rowE w' e sz v n vs := by
  refine ⟨fun he => ?_, fun he => ?_⟩
  · have h := h.1 he
    refine ⟨h.1, ?_⟩
    rcases h.2 with hn | ⟨g, cap, cur, rfl, hb, hgg, rest⟩
    · exact .inl hn
    · exact .inr ⟨g, cap, cur, rfl, hb, (hk g (by simp [Value.ownBlock])).trans hgg, rest⟩
  · have h := h.2 he
    refine ⟨h.1, ?_⟩
    rcases h.2 with hn | ⟨g, cap, cur, t, fz, rfl, hgg, rest⟩
    · exact .inl hn
    · exact .inr ⟨g, cap, cur, t, fz, rfl, (hk g (by simp [Value.ownBlock])).trans hgg, rest⟩
theorem rowE_lt {w : World} {e sz n : Nat} {v : Value} {vs : List Value} (h : rowE w e sz v n vs) : ∀ k, v.ownBlock = some k → k < w.heap.size := by
  intro k hk
  rcases (rowE_open h).2 with ⟨rfl, _⟩ | ⟨g, cap, cur, t, fz, rfl, hg, _⟩
  · simp [Value.ownBlock] at hk
  · simp only [Value.ownBlock, Option.some.injEq] at hk
    subst hk
    exact (Array.getElem?_eq_some_iff.1 hg).1
theorem rowE_nil (w : World) (e sz : Nat) : rowE w e sz (.slice none 0 0) 0 [] := ⟨fun _ => World.ownsRow_nil w 0 e sz, fun _ => ⟨by simp, .inl ⟨rfl, rfl⟩⟩⟩
mutual
/-- value v is d, and owns the blocks fp -/
def Own (w : World) : DV → Value → List Nat → Prop
  | .int k n, v, fp => v = .int k n ∧ InR k n ∧ fp = []
  | .bool b, v, fp => v = .bool b ∧ fp = []
  | .str s, v, fp => v = .string s ∧ s.size ≤ 9223372036854775807 ∧ fp = []
  | .sl e sz n cs, v, fp => ∃ vs f, fp = v.ownBlock.toList ++ f ∧ 0 < sz ∧ cs.length = n * sz ∧ rowE w e sz v n vs ∧ OwnL w cs vs f
  | .hole, v, fp => v.oneCell' = true ∧ fp = []
def OwnL (w : World) : List DV → List Value → List Nat → Prop
  | [], vs, fp => vs = [] ∧ fp = []
  | d :: ds, vs, fp => ∃ v vs' f1 f2, vs = v :: vs' ∧ fp = f1 ++ f2 ∧ Own w d v f1 ∧ OwnL w ds vs' f2
end

/-! ### reading -/
section
variable {ok ok' : Nat → Prop} {w w' : World}
theorem cell_lt {w : World} {a : Addr} {v : Value} (h : w.cell? a = some v) : a.block < w.heap.size := by
  rcases Nat.lt_or_ge a.block w.heap.size with h' | h'
  · exact h'
  · unfold World.cell? at h; rw [Array.getElem?_eq_none h'] at h; cases h
theorem layL_len : ∀ (ds : List DV) (vs : List Value), LayL ok w ds vs → vs.length = ds.length
  | [], vs, h => by simp [LayL] at h; simp [h]
  | d :: ds, vs, h => by
    simp only [LayL] at h
    obtain ⟨v, vs', rfl, _, h2⟩ := h
    simp [layL_len ds vs' h2]
mutual
theorem lay_conv (hk : ∀ b, b < w.heap.size → ok b → ok' b ∧ w'.heap[b]? = w.heap[b]?) : ∀ (d : DV) (v : Value), Lay ok w d v → Lay ok' w' d v
  | .int _ _, _, h => by simpa [Lay] using h
  | .bool _, _, h => by simpa [Lay] using h
  | .str _, _, h => by simpa [Lay] using h
  | .hole, _, h => by simpa [Lay] using h
  | .sl _ sz n cs, v, h => by
    simp only [Lay] at h ⊢
    obtain ⟨A, c, vs, h1, h2, h3, h4, h5, h6, h7⟩ := h
    refine ⟨A, c, vs, h1, h2, h3, h4, h5, layL_conv hk cs vs h6, fun hn => ?_⟩
    obtain ⟨b, off, e1, e2, e3⟩ := h7 hn
    have hv : vs.length = n * sz := by rw [layL_len _ _ h6, h5]
    have hpos : 0 < vs.length := by rw [hv]; exact Nat.mul_pos hn h4
    have hlt : b < w.heap.size := cell_lt (e3 0 _ (List.getElem?_eq_getElem hpos))
    obtain ⟨k1, k2⟩ := hk b hlt e2
    exact ⟨b, off, e1, k1, fun j u hu => (World.cell?_of_block (a := ⟨b, off + j, none⟩) k2).trans (e3 j u hu)⟩
theorem layL_conv (hk : ∀ b, b < w.heap.size → ok b → ok' b ∧ w'.heap[b]? = w.heap[b]?) : ∀ (ds : List DV) (vs : List Value), LayL ok w ds vs → LayL ok' w' ds vs
  | [], _, h => by simpa [LayL] using h
  | d :: ds, _, h => by
    simp only [LayL] at h ⊢
    obtain ⟨v, vs', rfl, h1, h2⟩ := h
    exact ⟨v, vs', rfl, lay_conv hk d v h1, layL_conv hk ds vs' h2⟩
end
theorem lay_one : ∀ (d : DV) (v : Value), Lay ok w d v → v.oneCell' = true
  | .int _ _, _, h => by simp only [Lay] at h; rw [h.1]; rfl
  | .bool _, _, h => by simp only [Lay] at h; rw [h]; rfl
  | .str _, _, h => by simp only [Lay] at h; rw [h.1]; rfl
  | .hole, _, h => by simpa only [Lay] using h
  | .sl _ _ _ _, _, h => by simp only [Lay] at h; obtain ⟨A, c, vs, rfl, _⟩ := h; rfl
theorem layL_one : ∀ (ds : List DV) (vs : List Value), LayL ok w ds vs → ∀ u ∈ vs, u.oneCell' = true
  | [], _, h, u, hu => by simp only [LayL] at h; subst h; simp at hu
  | d :: ds, _, h, u, hu => by
    simp only [LayL] at h
    obtain ⟨v, vs', rfl, h1, h2⟩ := h
    rcases List.mem_cons.1 hu with rfl | hu
    · exact lay_one _ _ h1
    · exact layL_one ds vs' h2 u hu
theorem layL_append : ∀ (xs ys : List DV) (us vs : List Value), LayL ok w xs us → LayL ok w ys vs → LayL ok w (xs ++ ys) (us ++ vs)
  | [], _, _, _, h1, h2 => by simp only [LayL] at h1; subst h1; exact h2
  | x :: xs, ys, _, vs, h1, h2 => by
    simp only [LayL] at h1
    obtain ⟨v, vs', rfl, h3, h4⟩ := h1
    simp only [List.cons_append, LayL]
    exact ⟨v, _, rfl, h3, layL_append xs ys vs' vs h4 h2⟩
theorem layL_split : ∀ (xs ys : List DV) (vs : List Value), LayL ok w (xs ++ ys) vs → ∃ u1 u2, vs = u1 ++ u2 ∧ LayL ok w xs u1 ∧ LayL ok w ys u2
  | [], _, vs, h => ⟨[], vs, rfl, by simp [LayL], h⟩
  | x :: xs, ys, _, h => by
    simp only [List.cons_append, LayL] at h
    obtain ⟨v, vs', rfl, h3, h4⟩ := h
    obtain ⟨u1, u2, rfl, h5, h6⟩ := layL_split xs ys vs' h4
    exact ⟨v :: u1, u2, rfl, by simp only [LayL]; exact ⟨v, u1, rfl, h3, h5⟩, h6⟩
/-- the cells from i on, m of them -/
def sub {α : Type} (i m : Nat) (l : List α) : List α := (l.drop i).take m
theorem sub_get {α : Type} (i m : Nat) (l : List α) (j : Nat) (hj : j < m) : (sub i m l)[j]? = l[i + j]? := by
  simp [sub, hj, List.getElem?_drop]
theorem sub_len {α : Type} (i m : Nat) (l : List α) (h : i + m ≤ l.length) : (sub i m l).length = m := by
  simp [sub]; omega
theorem layL_sub (i m : Nat) {ds : List DV} {vs : List Value} (h : LayL ok w ds vs) : LayL ok w (sub i m ds) (sub i m vs) := by
  have hl := layL_len _ _ h
  have e1 : ds = ds.take i ++ (sub i m ds ++ (ds.drop i).drop m) := by rw [sub, List.take_append_drop, List.take_append_drop]
  rw [e1] at h
  obtain ⟨u1, u2, rfl, h1, h2⟩ := layL_split _ _ _ h
  obtain ⟨u3, u4, rfl, h3, h4⟩ := layL_split _ _ _ h2
  have l1 := layL_len _ _ h1
  have l3 := layL_len _ _ h3
  by_cases hi : i ≤ ds.length
  · have e : u1.length = i := by rw [l1]; simp; omega
    by_cases hm : m ≤ ds.length - i
    · have e3 : u3.length = m := by rw [l3]; simp [sub]; omega
      have : sub i m (u1 ++ (u3 ++ u4)) = u3 := by
        simp only [sub]
        rw [List.drop_left' e, List.take_left' e3]
      rw [this]; exact h3
    · have e4 : u4 = [] := by
        have h5 := layL_len _ _ h4
        have h6 : ((ds.drop i).drop m).length = 0 := by simp; omega
        exact List.eq_nil_of_length_eq_zero (by omega)
      subst e4
      have : sub i m (u1 ++ (u3 ++ [])) = u3 := by
        simp only [sub, List.append_nil]
        rw [List.drop_left' e, List.take_of_length_le (by rw [l3]; simp [sub]; omega)]
      rw [this]; exact h3
  · have e0 : sub i m ds = [] := by simp [sub, List.drop_eq_nil_of_le (by omega : ds.length ≤ i)]
    have e1 : sub i m (u1 ++ (u3 ++ u4)) = [] := by
      rw [show sub i m (u1 ++ (u3 ++ u4)) = ((u1 ++ (u3 ++ u4)).drop i).take m from rfl, List.drop_eq_nil_of_le (by omega)]
      simp
    rw [e0, e1]; simp [LayL]
theorem layL_get {ds : List DV} {vs : List Value} (h : LayL ok w ds vs) (i : Nat) (d : DV) (hd : ds[i]? = some d) : ∃ v, vs[i]? = some v ∧ Lay ok w d v := by
  induction ds generalizing vs i with
  | nil => simp at hd
  | cons x xs ih =>
    simp only [LayL] at h
    obtain ⟨v, vs', rfl, h1, h2⟩ := h
    cases i with
    | zero => simp at hd; subst hd; exact ⟨v, rfl, h1⟩
    | succ i => simp at hd; simpa using ih h2 i hd
end
/-! ### owned -/
section
variable {w w' : World}
theorem ownL_len : ∀ (ds : List DV) (vs : List Value) (fp : List Nat), OwnL w ds vs fp → vs.length = ds.length
  | [], vs, _, h => by simp [OwnL] at h; simp [h]
  | d :: ds, vs, _, h => by
    simp only [OwnL] at h
    obtain ⟨v, vs', f1, f2, rfl, rfl, _, h2⟩ := h
    simp [ownL_len ds vs' f2 h2]
theorem ownsRow_keep {B e sz n : Nat} {v : Value} {xs : List Value} (h : w.ownsRow B e sz v n xs) (hk : ∀ b ∈ v.ownBlock.toList, w'.heap[b]? = w.heap[b]?) : w'.ownsRow B e sz v n xs := by
  refine ⟨h.1, ?_⟩
  rcases h.2 with hn | ⟨g, cap, cur, rfl, hb, hgg, rest⟩
  · exact .inl hn
  · exact .inr ⟨g, cap, cur, rfl, hb, (hk g (by simp [Value.ownBlock])).trans hgg, rest⟩
mutual
theorem own_keep : ∀ (d : DV) (v : Value) (fp : List Nat), Own w d v fp → (∀ b ∈ fp, w'.heap[b]? = w.heap[b]?) → Own w' d v fp
  | .int _ _, _, _, h, _ => by simpa [Own] using h
  | .bool _, _, _, h, _ => by simpa [Own] using h
  | .str _, _, _, h, _ => by simpa [Own] using h
  | .hole, _, _, h, _ => by simpa [Own] using h
  | .sl _ _ _ cs, v, _, h, hk => by
    simp only [Own] at h ⊢
    obtain ⟨vs, f, rfl, h1, h2, h3, h4⟩ := h
    exact ⟨vs, f, rfl, h1, h2, rowE_keep h3 (fun b hb => hk b (by simp [hb])), ownL_keep cs vs f h4 (fun b hb => hk b (by simp [hb]))⟩
theorem ownL_keep : ∀ (ds : List DV) (vs : List Value) (fp : List Nat), OwnL w ds vs fp → (∀ b ∈ fp, w'.heap[b]? = w.heap[b]?) → OwnL w' ds vs fp
  | [], _, _, h, _ => by simpa [OwnL] using h
  | d :: ds, _, _, h, hk => by
    simp only [OwnL] at h ⊢
    obtain ⟨v, vs', f1, f2, rfl, rfl, h1, h2⟩ := h
    exact ⟨v, vs', f1, f2, rfl, rfl, own_keep d v f1 h1 (fun b hb => hk b (by simp [hb])), ownL_keep ds vs' f2 h2 (fun b hb => hk b (by simp [hb]))⟩
end
mutual
theorem own_lt' : ∀ (d : DV) (v : Value) (fp : List Nat), Own w d v fp → ∀ b ∈ fp, b < w.heap.size
  | .int _ _, _, _, h, b, hb => by simp only [Own] at h; rw [h.2.2] at hb; simp at hb
  | .bool _, _, _, h, b, hb => by simp only [Own] at h; rw [h.2] at hb; simp at hb
  | .str _, _, _, h, b, hb => by simp only [Own] at h; rw [h.2.2] at hb; simp at hb
  | .hole, _, _, h, b, hb => by simp only [Own] at h; rw [h.2] at hb; simp at hb
  | .sl _ _ _ cs, v, _, h, b, hb => by
    simp only [Own] at h
    obtain ⟨vs, f, rfl, h1, h2, h3, h4⟩ := h
    rw [List.mem_append] at hb
    rcases hb with hb | hb
    · exact rowE_lt h3 b (by simpa using hb)
    · exact ownL_lt cs vs f h4 b hb
theorem ownL_lt : ∀ (ds : List DV) (vs : List Value) (fp : List Nat), OwnL w ds vs fp → ∀ b ∈ fp, b < w.heap.size
  | [], _, _, h, b, hb => by simp only [OwnL] at h; rw [h.2] at hb; simp at hb
  | d :: ds, _, _, h, b, hb => by
    simp only [OwnL] at h
    obtain ⟨v, vs', f1, f2, rfl, rfl, h1, h2⟩ := h
    rw [List.mem_append] at hb
    rcases hb with hb | hb
    · exact own_lt' d v f1 h1 b hb
    · exact ownL_lt ds vs' f2 h2 b hb
end
mutual
theorem own_lay {ok : Nat → Prop} : ∀ (d : DV) (v : Value) (fp : List Nat), Own w d v fp → (∀ b ∈ fp, ok b) → Lay ok w d v
  | .int _ _, _, _, h, _ => by simp only [Own] at h; simp only [Lay]; exact ⟨h.1, h.2.1⟩
  | .bool _, _, _, h, _ => by simp only [Own] at h; simp only [Lay]; exact h.1
  | .str _, _, _, h, _ => by simp only [Own] at h; simp only [Lay]; exact ⟨h.1, h.2.1⟩
  | .hole, _, _, h, _ => by simp only [Own] at h; simp only [Lay]; exact h.1
  | .sl e sz n cs, v, _, h, hk => by
    simp only [Own] at h; simp only [Lay]
    obtain ⟨vs, f, rfl, h1, h2, h3, h4⟩ := h
    have hL := ownL_lay (ok := ok) cs vs f h4 (fun b hb => hk b (by simp [hb]))
    rcases (rowE_open h3).2 with ⟨rfl, rfl⟩ | ⟨g, cap, cur, t, fz, rfl, hgg, hnc, hcm, hsz, htake⟩
    · exact ⟨none, 0, vs, rfl, Nat.le_refl _, by simp [maxLen], h1, h2, hL, fun hp => by omega⟩
    · refine ⟨_, _, vs, rfl, hnc, hcm, h1, h2, hL, fun _ => ⟨g, 0, rfl, hk g (by simp [Value.ownBlock]), fun j u hu => ?_⟩⟩
      rw [Nat.zero_add, cell_of_row _ g j cur t fz hgg]
      rw [← htake, List.getElem?_take] at hu
      split at hu
      · simpa using hu
      · cases hu
theorem ownL_lay {ok : Nat → Prop} : ∀ (ds : List DV) (vs : List Value) (fp : List Nat), OwnL w ds vs fp → (∀ b ∈ fp, ok b) → LayL ok w ds vs
  | [], _, _, h, _ => by simp only [OwnL] at h; simp only [LayL]; exact h.1
  | d :: ds, _, _, h, hk => by
    simp only [OwnL] at h; simp only [LayL]
    obtain ⟨v, vs', f1, f2, rfl, rfl, h1, h2⟩ := h
    exact ⟨v, vs', rfl, own_lay d v f1 h1 (fun b hb => hk b (by simp [hb])), ownL_lay ds vs' f2 h2 (fun b hb => hk b (by simp [hb]))⟩
end
theorem ownL_append : ∀ (xs ys : List DV) (us vs : List Value) (f g : List Nat), OwnL w xs us f → OwnL w ys vs g → OwnL w (xs ++ ys) (us ++ vs) (f ++ g)
  | [], _, _, _, _, _, h1, h2 => by simp only [OwnL] at h1; obtain ⟨rfl, rfl⟩ := h1; exact h2
  | x :: xs, ys, _, vs, _, g, h1, h2 => by
    simp only [OwnL] at h1
    obtain ⟨v, vs', f1, f2, rfl, rfl, h3, h4⟩ := h1
    simp only [List.cons_append, OwnL]
    exact ⟨v, _, f1, f2 ++ g, rfl, by simp, h3, ownL_append xs ys vs' vs f2 g h4 h2⟩
theorem ownL_split : ∀ (xs ys : List DV) (vs : List Value) (fp : List Nat), OwnL w (xs ++ ys) vs fp → ∃ u1 u2 f1 f2, vs = u1 ++ u2 ∧ fp = f1 ++ f2 ∧ OwnL w xs u1 f1 ∧ OwnL w ys u2 f2
  | [], _, vs, fp, h => ⟨[], vs, [], fp, rfl, rfl, by simp [OwnL], h⟩
  | x :: xs, ys, _, _, h => by
    simp only [List.cons_append, OwnL] at h
    obtain ⟨v, vs', f1, f2, rfl, rfl, h3, h4⟩ := h
    obtain ⟨u1, u2, g1, g2, rfl, rfl, h5, h6⟩ := ownL_split xs ys vs' f2 h4
    exact ⟨v :: u1, u2, f1 ++ g1, g2, rfl, by simp, by simp only [OwnL]; exact ⟨v, u1, f1, g1, rfl, rfl, h3, h5⟩, h6⟩
end
/-- data without memory of its own -/
def DV.plain : DV → Bool
  | .sl _ _ _ _ => false
  | _ => true
theorem lay_plain {ok : Nat → Prop} {w w' : World} {d : DV} {v : Value} (hp : d.plain = true) (h : Lay ok w d v) : Own w' d v [] := by
  cases d with
  | int k n => simp only [Lay] at h; unfold Own; exact ⟨h.1, h.2, rfl⟩
  | bool b => simp only [Lay] at h; unfold Own; exact ⟨h, rfl⟩
  | str s => simp only [Lay] at h; unfold Own; exact ⟨h.1, h.2, rfl⟩
  | hole => simp only [Lay] at h; unfold Own; exact ⟨h, rfl⟩
  | sl => simp [DV.plain] at hp
theorem own_nil (w : World) (e sz : Nat) (h : 0 < sz) : Own w (.sl e sz 0 []) (.slice none 0 0) [] := by
  simp only [Own]
  exact ⟨[], [], rfl, h, by simp, rowE_nil w e sz, by simp [OwnL]⟩
end Go.Proofs.Ytbmgommbmhmbgaa
