/-
  Calls of functions by their contracts in the abstract logic.
-/
import Derived.Test.YtbmgommbmhmbgaaFn
namespace Go.Proofs.Ytbmgommbmhmbgaa
open Go.RowKit

def CV.plain : CV → Bool
  | .dv K d => K.isEmpty && d.plain
  | _ => false
def SV.plain : SV → Bool
  | .one c => c.plain
  | .agg cs => cs.all CV.plain
  | .tup ts => ts.all fun t => t.2.all CV.plain
  | _ => false
/-- what a call may hand back: plain data, and keys -/
def CV.retOk : CV → Bool
  | .dv K d => K.isEmpty && d.plain
  | .key _ => true
  | .any => true
  | _ => false
def SV.retOk : SV → Bool
  | .one c => c.retOk
  | .agg cs => cs.all CV.retOk
  | .tup ts => ts.all fun t => t.2.all CV.retOk
  | _ => false
def CV.sh (m : Nat) : CV → CV
  | .key k => .key (m + k)
  | c => c
def SV.sh (m : Nat) : SV → SV
  | .one c => .one (c.sh m)
  | .agg cs => .agg (cs.map (CV.sh m))
  | .tup ts => .tup (ts.map fun t => (t.1, t.2.map (CV.sh m)))
  | v => v
def KC.old (c : KC) : KC := { c with h := false }
def shK (m : Nat) (kk : List (Nat × Option KC)) : List (Nat × Option KC) := kk.map fun p => (m + p.1, p.2.map KC.old)
section
variable {P : Program} {C C' : Ctx} {nt : Nat} {σ : St} {L L' : Lyt} {a : Act} {w w' : World}
theorem plain_lay {ok ok' : Nat → Prop} {d : DV} {v : Value} (hp : d.plain = true) (h : Lay ok w d v) : Lay ok' w' d v := own_lay _ _ _ (lay_plain (w' := w') hp h) (by simp)
theorem cv_ret {c : CV} {v : Value} {m : Nat} (hp : c.retOk = true) (hk : ∀ k ∈ c.keys, L.rv (m + k) = L'.rv k) (h : CVr C' L' w' c v) : CVr C L w' (c.sh m) v := by
  cases c with
  | dv K d =>
    simp only [CV.retOk, Bool.and_eq_true] at hp
    exact plain_lay hp.2 h
  | key k => simp only [CVr, CV.sh] at h ⊢; rw [h, hk k (by simp [CV.keys])]
  | any => exact h
  | _ => simp [CV.retOk] at hp
theorem cvL_ret {m : Nat} : ∀ {cs : List CV} {vs : List Value}, cs.all CV.retOk = true → (∀ k ∈ cs.flatMap CV.keys, L.rv (m + k) = L'.rv k) → CVL C' L' w' cs vs → CVL C L w' (cs.map (CV.sh m)) vs
  | [], _, _, _, h => h
  | c :: cs, _, hp, hk, ⟨v, vs', e, h1, h2⟩ => by
    simp only [List.all_cons, Bool.and_eq_true] at hp
    exact ⟨v, vs', e, cv_ret hp.1 (fun k hm => hk k (by simp only [List.flatMap_cons, List.mem_append]; exact .inl hm)) h1, cvL_ret hp.2 (fun k hm => hk k (by simp only [List.flatMap_cons, List.mem_append]; exact .inr hm)) h2⟩
theorem tvL_ret {m : Nat} : ∀ {ts : List (Bool × List CV)} {vs : List Value}, (ts.all fun t => t.2.all CV.retOk) = true → (∀ k ∈ ts.flatMap (fun t => t.2.flatMap CV.keys), L.rv (m + k) = L'.rv k) → TVL C' L' w' ts vs → TVL C L w' (ts.map fun t => (t.1, t.2.map (CV.sh m))) vs
  | [], _, _, _, h => h
  | (g, cs) :: ts, _, hp, hk, ⟨us, v, vs', e, h1, h2, h3⟩ => by
    simp only [List.all_cons, Bool.and_eq_true] at hp
    exact ⟨us, v, vs', e, cvL_ret hp.1 (fun k hm => hk k (by simp only [List.flatMap_cons, List.mem_append]; exact .inl hm)) h1, h2, tvL_ret hp.2 (fun k hm => hk k (by simp only [List.flatMap_cons, List.mem_append]; exact .inr hm)) h3⟩
theorem sv_ret {v : SV} {r : Value} {m : Nat} (hp : v.retOk = true) (hk : ∀ k ∈ v.keys, L.rv (m + k) = L'.rv k) (h : SVr P C' L' w' v r) : SVr P C L w' (v.sh m) r := by
  cases v with
  | one c => simp only [SVr, SV.sh] at h ⊢; exact cv_ret hp hk h
  | agg cs => simp only [SVr, SV.sh] at h ⊢; obtain ⟨vs, e, h1⟩ := h; exact ⟨vs, e, cvL_ret hp hk h1⟩
  | tup ts => simp only [SVr, SV.sh] at h ⊢; obtain ⟨vs, e, h1⟩ := h; exact ⟨vs, e, tvL_ret hp hk h1⟩
  | _ => simp [SV.retOk] at hp
theorem cv_plain_ret {c : CV} (h : c.plain = true) : c.retOk = true ∧ c.keys = [] ∧ ∀ m, c.sh m = c := by
  cases c with
  | dv K d =>
    simp only [CV.plain, Bool.and_eq_true, List.isEmpty_iff] at h
    obtain ⟨rfl, h⟩ := h
    exact ⟨by simp [CV.retOk, h], rfl, fun _ => rfl⟩
  | _ => simp [CV.plain] at h
theorem cvL_plain_ret : ∀ {cs : List CV}, cs.all CV.plain = true → cs.all CV.retOk = true ∧ cs.flatMap CV.keys = [] ∧ ∀ m, cs.map (CV.sh m) = cs
  | [], _ => ⟨rfl, rfl, fun _ => rfl⟩
  | c :: cs, h => by
    simp only [List.all_cons, Bool.and_eq_true] at h
    obtain ⟨h1, h2, h3⟩ := cv_plain_ret h.1
    obtain ⟨k1, k2, k3⟩ := cvL_plain_ret h.2
    exact ⟨by simp [h1, k1], by simp [h2, k2], fun m => by simp [h3 m, k3 m]⟩
theorem sv_plain_ret {v : SV} (h : v.plain = true) : v.retOk = true ∧ v.keys = [] ∧ v.boxes = [] ∧ ∀ m, v.sh m = v := by
  cases v with
  | one c => obtain ⟨h1, h2, h3⟩ := cv_plain_ret h; exact ⟨h1, h2, rfl, fun m => by simp [SV.sh, h3 m]⟩
  | agg cs => obtain ⟨h1, h2, h3⟩ := cvL_plain_ret h; exact ⟨h1, h2, rfl, fun m => by simp [SV.sh, h3 m]⟩
  | tup ts =>
    simp only [SV.plain] at h
    have : (ts.all fun t => t.2.all CV.retOk) = true ∧ (ts.flatMap fun t => t.2.flatMap CV.keys) = [] ∧ ∀ m, (ts.map fun t => (t.1, t.2.map (CV.sh m))) = ts := by
      induction ts with
      | nil => exact ⟨rfl, rfl, fun _ => rfl⟩
      | cons t ts ih =>
        simp only [List.all_cons, Bool.and_eq_true] at h
        obtain ⟨h1, h2, h3⟩ := cvL_plain_ret h.1
        obtain ⟨k1, k2, k3⟩ := ih h.2
        exact ⟨by simp [h1, k1], by simp [h2, k2], fun m => by simp [h3 m, k3 m]⟩
    exact ⟨this.1, this.2.1, rfl, fun m => by simp [SV.sh, this.2.2 m]⟩
  | _ => simp [SV.plain] at h
theorem sh_keys {m : Nat} : ∀ {cs : List CV}, cs.all CV.retOk = true → (cs.map (CV.sh m)).flatMap CV.keys = (cs.flatMap CV.keys).map (m + ·)
  | [], _ => rfl
  | c :: cs, h => by
    simp only [List.all_cons, Bool.and_eq_true] at h
    have h1 : (c.sh m).keys = c.keys.map (m + ·) := by
      cases c with
      | dv K d => simp only [CV.retOk, Bool.and_eq_true, List.isEmpty_iff] at h; obtain ⟨⟨rfl, _⟩, _⟩ := h; rfl
      | key k => rfl
      | any => rfl
      | _ => simp [CV.retOk] at h
    simp only [List.map_cons, List.flatMap_cons, List.map_append, h1, sh_keys h.2]
theorem shS_keys {m : Nat} {v : SV} (h : v.retOk = true) : (v.sh m).keys = v.keys.map (m + ·) ∧ (v.sh m).boxes = [] := by
  cases v with
  | one c =>
    have := sh_keys (m := m) (cs := [c]) (by simpa [SV.retOk] using h)
    simpa [SV.sh, SV.keys, SV.boxes] using this
  | agg cs => exact ⟨sh_keys h, rfl⟩
  | tup ts =>
    refine ⟨?_, rfl⟩
    simp only [SV.retOk] at h
    simp only [SV.sh, SV.keys]
    induction ts with
    | nil => rfl
    | cons t ts ih =>
      simp only [List.all_cons, Bool.and_eq_true] at h
      simp only [List.map_cons, List.flatMap_cons, List.map_append, sh_keys h.1]
      congr 1
      exact ih h.2
  | _ => simp [SV.retOk] at h
theorem look_append {α : Type} (l1 l2 : List (Nat × α)) (i : Nat) : look (l1 ++ l2) i = (look l1 i).or (look l2 i) := by
  induction l1 with
  | nil => rfl
  | cons p l ih =>
    obtain ⟨k, v⟩ := p
    rw [List.cons_append, look_cons, look_cons]
    split
    · rfl
    · exact ih
theorem look_shK (m : Nat) (kk : List (Nat × Option KC)) (k : Nat) : look (shK m kk) (m + k) = (look kk k).map (Option.map KC.old) := by
  induction kk with
  | nil => rfl
  | cons p l ih =>
    obtain ⟨j, v⟩ := p
    simp only [shK, List.map_cons, look_cons] at ih ⊢
    by_cases h : k = j
    · simp [h]
    · have : ¬ m + k = m + j := by omega
      simp only [h, this, if_false]
      exact ih
theorem look_shK_no (m : Nat) (kk : List (Nat × Option KC)) (j : Nat) (h : ∀ p ∈ kk, m + p.1 ≠ j) : look (shK m kk) j = none := by
  induction kk with
  | nil => rfl
  | cons p l ih =>
    obtain ⟨k, v⟩ := p
    simp only [shK, List.map_cons, look_cons] at ih ⊢
    have := h (k, v) (by simp)
    rw [if_neg (by intro e; exact this e.symm)]
    exact ih (fun p hp => h p (by simp [hp]))
/-- the arguments, as the callee sees them -/
theorem args_rel (hr : Rel P C nt L σ a w) (L0 : Lyt) : ∀ (xs : List Operand) (us : List SV), ArgSs P C nt σ xs us →
    us.length = xs.length ∧ (∀ (i : Nat) u, us[i]? = some u → ∃ x, xs[i]? = some x ∧ SVr P ⟨w, [], L0.rv⟩ L0 w u (a.eval x) ∧ u.keys = [] ∧ u.boxes = [])
  | [], _, h => by simp only [ArgSs] at h; subst h; exact ⟨rfl, fun i u hu => by simp at hu⟩
  | x :: xs, _, ⟨v, u, us', e, h1, h2, h3⟩ => by
    subst e
    obtain ⟨k1, k2⟩ := args_rel hr L0 xs us' h3
    refine ⟨by simp [k1], fun i u' hu => ?_⟩
    cases i with
    | zero => simp at hu; subst hu; exact ⟨x, rfl, argS_lay hr L0 h2 (h1.run L a w hr)⟩
    | succ i => simp at hu; simpa using k2 i u' hu
theorem enum_tk : ∀ (us : List SV) (j : Nat), (∀ u ∈ us, u.keys = [] ∧ u.boxes = []) → ((enumS j us).flatMap fun p => p.2.keys) = [] ∧ ((enumS j us).flatMap fun p => p.2.boxes) = []
  | [], _, _ => ⟨rfl, rfl⟩
  | u :: us, j, h => by
    obtain ⟨h1, h2⟩ := enum_tk us (j + 1) (fun u hu => h u (by simp [hu]))
    have := h u (by simp)
    simp [enumS, this.1, this.2, h1, h2]
theorem rel_args (hr : Rel P C nt L σ a w) {xs : List Operand} {us : List SV} (h : ArgSs P C nt σ xs us) : Rel P ⟨w, [], L.rv⟩ us.length L ⟨enumS 0 us, [], []⟩ ⟨(xs.map a.eval).toArray, []⟩ w := by
  obtain ⟨h1, h2⟩ := args_rel hr L xs us h
  have h3 : ∀ u ∈ us, u.keys = [] ∧ u.boxes = [] := fun u hu => by
    obtain ⟨i, hi⟩ := List.mem_iff_getElem?.1 hu
    obtain ⟨_, _, _, h4⟩ := h2 i u hi
    exact h4
  obtain ⟨t1, t2⟩ := enum_tk us 0 h3
  exact {
    df := rfl
    sz := by simp [h1]
    tm := fun i v hv => by
      obtain ⟨_, h4⟩ := enumS_look us 0 i v hv
      obtain ⟨x, h5, h6, _⟩ := h2 i v (by simpa using h4)
      have : (List.map a.eval xs).toArray.getD i undef = a.eval x := by simp [Array.getD_eq_getD_getElem?, h5]
      rw [this]; exact h6
    bx := fun i t cs h => by cases h
    ks := fun k c h => by cases h
    b1 := fun i x h => by cases h
    k1 := fun k c h => by cases h
    kn := fun k c h => by cases h
    bb := fun i j x y h => by cases h
    bk := fun i k x c h => by cases h
    kk := fun k j c d h => by cases h
    lk := fun k hk => by simp only [St.tk, t1, List.flatMap_nil, List.append_nil] at hk; cases hk
    lb := fun b hb => by simp only [St.tb, t2] at hb; cases hb
    s0 := fun b hb => by cases hb
    chg := Chg.refl _ _ }
/-- behind a call: the result, with its keys, in the caller's state -/
theorem Rel.ret (h : Rel P C nt L σ a w) {rv0 : Nat → Value} {res : SV} {r : Value} {bx' : List (Nat × TypeId × List CV)} {kk : List (Nat × Option KC)} (h' : Rel P ⟨w, [], rv0⟩ 1 L' ⟨[(0, res)], bx', kk⟩ ⟨#[r], []⟩ w') (m : Nat)
    (hfree : ∀ p ∈ kk, lkk σ (m + p.1) = none) (hres : res.retOk = true) {d : Nat} (hd : d < nt) :
    ∃ L'', Rel P C nt L'' ({ σ with ks := shK m kk ++ σ.ks }.put d (res.sh m)) (a.put (some d) r) w' ∧ Gr σ L L'' w w' := by
  classical
  have hg := h.grow h'.chg
  have hmem : ∀ {k x}, look kk k = some x → (∃ p ∈ kk, m + p.1 = m + k) := fun hx => ⟨_, look_mem hx, rfl⟩
  let new : Nat → Prop := fun j => ∃ p ∈ kk, m + p.1 = j
  let L'' : Lyt := { bb := L.bb, fp := fun j => if new j then L'.fp (j - m) else L.fp j, rv := fun j => if new j then L'.rv (j - m) else L.rv j }
  have hnn : ∀ j c, lkk σ j = some c → ¬ new j := fun j c hc ⟨p, hp, e⟩ => by
    have := hfree p hp
    rw [e, hc] at this
    cases this
  have hl : ∀ j c, lkk { σ with ks := shK m kk ++ σ.ks } j = some c → (∃ k c', j = m + k ∧ lkk ⟨[(0, res)], bx', kk⟩ k = some c' ∧ c = c'.old ∧ new j) ∨ (lkk σ j = some c ∧ ¬ new j) := by
    intro j c hc
    by_cases hn : new j
    · obtain ⟨p, hp, e⟩ := hn
      left
      refine ⟨p.1, ?_⟩
      simp only [lkk, look_append, ← e, look_shK] at hc
      cases hx : look kk p.1 with
      | none =>
        exfalso
        rw [hx] at hc
        simp only [Option.map_none, Option.none_or] at hc
        have := hfree p hp
        simp only [lkk] at this
        rw [this] at hc; cases hc
      | some x =>
        rw [hx] at hc
        cases x with
        | none => simp at hc
        | some c' =>
          simp at hc
          exact ⟨c', e.symm, by simp [lkk, hx], hc.symm, ⟨p, hp, e⟩⟩
    · right
      refine ⟨?_, hn⟩
      simp only [lkk, look_append] at hc ⊢
      rw [look_shK_no m kk j (fun p hp e => hn ⟨p, hp, e⟩)] at hc
      simpa using hc
  have hlive : ∀ j, (lkk σ j).isSome = true → (lkk { σ with ks := shK m kk ++ σ.ks } j).isSome = true := by
    intro j hj
    obtain ⟨c, hc⟩ := Option.isSome_iff_exists.1 hj
    simp only [lkk, look_append]
    rw [look_shK_no m kk j (fun p hp e => hnn j c hc ⟨p, hp, e⟩)]
    simpa [lkk] using hj
  have hlive' : ∀ k, (lkk ⟨[(0, res)], bx', kk⟩ k).isSome = true → (lkk { σ with ks := shK m kk ++ σ.ks } (m + k)).isSome = true := by
    intro k hk
    obtain ⟨c, hc⟩ := Option.isSome_iff_exists.1 hk
    simp only [lkk] at hc
    cases hx : look kk k with
    | none => rw [hx] at hc; cases hc
    | some x =>
      rw [hx] at hc
      simp only [Option.join_some] at hc
      subst hc
      simp [lkk, look_append, look_shK, hx]
  have hK : ∀ ks, (∀ j ∈ ks, (lkk σ j).isSome = true) → Keeps2 C L L'' w' w' ks := fun ks hs =>
    ⟨fun j hj => by
      obtain ⟨c, hc⟩ := Option.isSome_iff_exists.1 (hs j hj)
      have := hnn j c hc
      exact ⟨if_neg this, if_neg this, fun _ _ _ => rfl⟩, fun b _ _ => rfl⟩
  have hnew : ∀ k c', lkk ⟨[(0, res)], bx', kk⟩ k = some c' → new (m + k) := fun k c' hc => by
    simp only [lkk] at hc
    cases hx : look kk k with
    | none => rw [hx] at hc; cases hc
    | some x => exact hmem hx
  have hkey : ∀ k, new (m + k) → L''.fp (m + k) = L'.fp k ∧ L''.rv (m + k) = L'.rv k := fun k hn => by
    simp only [L'', if_pos hn, Nat.add_sub_cancel_left]
    exact ⟨trivial, trivial⟩
  have hblk : ∀ k c', lkk ⟨[(0, res)], bx', kk⟩ k = some c' → ∀ b ∈ L'.fp k, w.heap.size ≤ b := fun k c' hc b hb => by
    rcases h'.k1 k c' hc b hb with h1 | h1
    · exact h1
    · cases h1
  refine ⟨L'', Rel.put (r := r) (v := res.sh m) ?_ hd ?_ ?_ ?_, ⟨h'.chg, fun k c hc => if_neg (hnn k c hc), fun _ _ _ => rfl⟩⟩
  · exact {
      df := h.df, sz := h.sz
      tm := fun j u hu => sv_conv (hK _ (fun l hl => h.lk l (tk_tm hu l hl))) (fun b hb => rfl) (hg.tm j u hu)
      bx := fun j t cs hx => by
        obtain ⟨us, h3, h4⟩ := hg.bx j t cs hx
        exact ⟨us, h3, cvL_conv (hK _ (fun l hl => h.lk l (tk_bx hx l hl))) h4⟩
      ks := fun j c hc => by
        rcases hl j c hc with ⟨k, c', rfl, h1, rfl, hn⟩ | ⟨h1, hn⟩
        · obtain ⟨e1, e2⟩ := hkey k hn
          rw [e1, e2]
          exact ⟨(h'.ks k c' h1).1, fun e => by cases e⟩
        · have e1 : L''.fp j = L.fp j := if_neg hn
          have e2 : L''.rv j = L.rv j := if_neg hn
          rw [e1, e2]
          exact hg.ks j c h1
      b1 := h.b1
      k1 := fun j c hc => by
        rcases hl j c hc with ⟨k, c', rfl, h1, rfl, hn⟩ | ⟨h1, hn⟩
        · rw [(hkey k hn).1]
          exact fun b hb => .inl (Nat.le_trans h.chg.size (hblk k c' h1 b hb))
        · rw [show L''.fp j = L.fp j from if_neg hn]; exact h.k1 j c h1
      kn := fun j c hc => by
        rcases hl j c hc with ⟨k, c', rfl, h1, rfl, hn⟩ | ⟨h1, hn⟩
        · rw [(hkey k hn).1]; exact h'.kn k c' h1
        · rw [show L''.fp j = L.fp j from if_neg hn]; exact h.kn j c h1
      bb := h.bb
      bk := fun i j x c hx hc => by
        rcases hl j c hc with ⟨k, c', rfl, h1, rfl, hn⟩ | ⟨h1, hn⟩
        · rw [(hkey k hn).1]
          intro hm
          have := hblk k c' h1 _ hm
          have h5 := h.bx_lt hx
          exact absurd h5 (by simpa [L''] using this)
        · rw [show L''.fp j = L.fp j from if_neg hn]; exact h.bk i j x c hx h1
      kk := fun i j x y hx hy hij b hb hb' => by
        rcases hl i x hx with ⟨k, c', rfl, h1, rfl, hn⟩ | ⟨h1, hn⟩ <;> rcases hl j y hy with ⟨k2, c2, rfl, h2, rfl, hn2⟩ | ⟨h2, hn2⟩
        · rw [(hkey k hn).1] at hb
          rw [(hkey k2 hn2).1] at hb'
          exact h'.kk k k2 c' c2 h1 h2 (by omega) b hb hb'
        · rw [(hkey k hn).1] at hb
          rw [show L''.fp j = L.fp j from if_neg hn2] at hb'
          have := hblk k c' h1 b hb
          have := h.k_lt h2 b hb'
          omega
        · rw [show L''.fp i = L.fp i from if_neg hn] at hb
          rw [(hkey k2 hn2).1] at hb'
          have := hblk k2 c2 h2 b hb'
          have := h.k_lt h1 b hb
          omega
        · rw [show L''.fp i = L.fp i from if_neg hn] at hb
          rw [show L''.fp j = L.fp j from if_neg hn2] at hb'
          exact h.kk i j x y h1 h2 hij b hb hb'
      lk := fun j hj => hlive j (h.lk j hj)
      lb := h.lb
      s0 := h.s0
      chg := hg.chg }
  · refine sv_ret hres (fun k hk => ?_) (h'.tm 0 res (by simp [look_cons]))
    have h1 := h'.lk k (by simp only [St.tk, List.flatMap_cons, List.mem_append]; exact .inl (.inl hk))
    obtain ⟨c', hc⟩ := Option.isSome_iff_exists.1 h1
    exact (hkey k (hnew k c' hc)).2
  · intro k hk
    rw [(shS_keys hres).1] at hk
    obtain ⟨j, hj, rfl⟩ := List.mem_map.1 hk
    exact hlive' j (h'.lk j (by simp only [St.tk, List.flatMap_cons, List.mem_append]; exact .inl (.inl hj)))
  · intro b hb
    rw [(shS_keys hres).2] at hb
    cases hb
/-! ### the calls -/
theorem wp_callGo {o : Oper} {f : FuncId} {xs : List Operand} {ats : Array TypeId} {K : Act → World → Prop} {Q : Exit → Act → World → Prop} (ho : o.op = .call { callee := .value (.func f), args := xs.toArray, argTypes := ats })
    (hc : ∀ (args : Array Value) (w : World), (callFunc f args).run P w = .ok (.enter f args) w)
    (h : Calls P f (xs.map a.eval).toArray w fun e w' => ∃ r, e = .returned r ∧ K (a.put o.dst r) w') : o.wp P a w K Q := by
  unfold Oper.wp execOp
  have hi : ∀ args : Array Value, (invoke (.fn (.func f) #[]) args).run P w = .ok (.enter f args) w := fun args => by
    simp only [invoke, Array.append_empty]; exact hc _ w
  have he : ∀ args : Array Value, Deferred.ofValue (a.eval (.func f)) args = pure { target := .fn (.func f) #[], args := args } := fun args => by
    simp [Act.eval, Deferred.ofValue]
  simp only [ho, resolve, he, Sem.run_bind, Sem.run_pure, Result.andThen_ok, hi, Oper.upon]
  refine Calls.mono (by simpa using h) ?_
  rintro e w' ⟨r, rfl, h1⟩
  exact h1
/-- a call that answers a plain value -/
theorem pc_call {o : Oper} {f : FuncId} {xs : List Operand} {ats : Array TypeId} {us : List SV} {Q : SV → St → Prop} {R : SV → Prop} (ho : o.op = .call { callee := .value (.func f), args := xs.toArray, argTypes := ats })
    (hc : ∀ (args : Array Value) (w : World), (callFunc f args).run P w = .ok (.enter f args) w) (hf : FnOk P f [] [] us Q) (ha : ArgSs P C nt σ xs us) (hQ : ∀ v σ', Q v σ' → R v ∧ v.plain = true) : Pc P C nt o σ R := Pc.mk fun L a w hr K Q' hk => by
  refine wp_callGo ho hc ?_
  have h1 := rel_args hr ha
  refine (hf w [] L (xs.map a.eval) (by simp [(args_rel hr L xs us ha).1]) h1).mono ?_
  rintro e w' ⟨r, res, σ', L', rfl, h2, h3⟩
  obtain ⟨h4, h5⟩ := hQ res σ' h2
  obtain ⟨p1, p2, p3, p4⟩ := sv_plain_ret h5
  refine ⟨r, rfl, hk res r w' h4 ⟨p2, p3⟩ ?_ h3.chg⟩
  have := sv_ret (C := C) (L := L) (m := 0) p1 (by rw [p2]; simp) (h3.tm 0 res (by simp [look_cons]))
  rwa [p4] at this
/-- a call that hands back keys -/
theorem efg_call {o : Oper} {f : FuncId} {xs : List Operand} {ats : Array TypeId} {us : List SV} {Q : SV → St → Prop} {ι : Type} {v : ι → SV} {kk : ι → List (Nat × Option KC)} {p : ι → Prop} {d : Nat} (m : Nat) (ho : o.op = .call { callee := .value (.func f), args := xs.toArray, argTypes := ats }) (hd : o.dst = some d) (hn : Nat.blt d nt = true)
    (hc : ∀ (args : Array Value) (w : World), (callFunc f args).run P w = .ok (.enter f args) w) (hf : FnOk P f [] [] us Q) (ha : ArgSs P C nt σ xs us) (hQ : ∀ u σ', Q u σ' → ∃ i, u = v i ∧ σ'.ks = kk i ∧ p i)
    (hres : ∀ i, (v i).retOk = true) (hfree : ∀ i, ((kk i).all fun q => (lkk σ (m + q.1)).isNone) = true) :
    EfG P C nt o σ (fun σ' => ∃ i, p i ∧ σ' = { σ with ks := shK m (kk i) ++ σ.ks }.put d ((v i).sh m)) := EfG.mk fun L a w hr K Q' hk => by
  refine wp_callGo ho hc ?_
  have h1 := rel_args hr ha
  refine (hf w [] L (xs.map a.eval) (by simp [(args_rel hr L xs us ha).1]) h1).mono ?_
  rintro e w' ⟨r, res, σ', L', rfl, h2, h3⟩
  obtain ⟨i, rfl, h5, h6⟩ := hQ res σ' h2
  have hfr : ∀ q ∈ kk i, lkk σ (m + q.1) = none := fun q hq => by
    have := List.all_eq_true.1 (hfree i) q hq
    simpa using this
  obtain ⟨L'', g1, g2⟩ := hr.ret (kk := kk i) (by rw [← h5]; exact h3) m hfr (hres i) (show d < nt by simpa [Nat.blt_eq] using hn)
  refine ⟨r, rfl, hk L'' _ _ _ ⟨i, h6, rfl⟩ ?_ g2⟩
  rw [hd]; exact g1
end
end Go.Proofs.Ytbmgommbmhmbgaa
