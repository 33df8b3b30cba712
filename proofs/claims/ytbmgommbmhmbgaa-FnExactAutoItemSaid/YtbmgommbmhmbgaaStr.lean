/-
  The rules of the abstract logic for strings and bytes: strings as slices of bytes, appends of strings, shifts and bits.
-/
import Derived.Test.YtbmgommbmhmbgaaNst
import Derived.Lib.AppendStr
import Derived.Lib.ConvBytes
namespace Go.Proofs.Ytbmgommbmhmbgaa
open Go.RowKit
set_option linter.unusedVariables false
set_option linter.unusedSimpArgs false

def eByt (b : UInt8) : List DV := [.int .u8 (b.toNat : Int)]
section
variable {P : Program} {C : Ctx} {nt : Nat} {L : Lyt} {σ : St} {a : Act} {w : World} {o : Oper} {x y : Operand} {T : TT}
theorem ownL_bytes (w : World) : ∀ bs : List UInt8, OwnL w (bs.flatMap fun b => [DV.int .u8 (b.toNat : Int)]) (bs.map fun b => Value.int .u8 (b.toNat : Int)) []
  | [] => by simp [OwnL]
  | b :: bs => by
    have hb := b.toNat_lt
    simp only [List.flatMap_cons, List.map_cons, List.singleton_append, OwnL]
    refine ⟨_, _, [], [], rfl, rfl, ?_, ownL_bytes w bs⟩
    unfold Own
    exact ⟨rfl, by simp [InR, IntKind.min, IntKind.max, IntKind.signed, IntKind.bits]; omega, rfl⟩
theorem chg_bytes (w : World) (e : TypeId) (s : ByteArray) : Chg [] w (Lib.bytesWorld w e s) :=
  ⟨by simp [Lib.bytesWorld, World.freeze, World.alloc, World.drew, -World.alloc_eq, -World.drew_eq], by simp [Lib.bytesWorld, World.freeze, World.alloc, World.drew, -World.alloc_eq, -World.drew_eq],
    by simp [Lib.bytesWorld, World.freeze, World.alloc, World.drew, -World.alloc_eq, -World.drew_eq], by rw [Lib.bytesWorld_size]; omega, fun k hk _ => Lib.bytesWorld_at_old w e s k hk⟩
theorem flat_bytes_len (bs : List UInt8) : (bs.flatMap fun b => [DV.int .u8 (b.toNat : Int)]).length = bs.length := by
  induction bs with
  | nil => rfl
  | cons b bs ih => rw [List.flatMap_cons, List.length_append, ih, List.length_cons]; simp; omega
/-- a string's bytes, in a slice that is only read -/
theorem efg_convSB (hT : TTOk P T) {s t e d k : Nat} {u : Unit} {J : List Nat} {v : ByteArray} (ho : o.op = .convert s t x) (hd : o.dst = some d) (hn : Nat.blt d nt = true) (hs : look T.st s = some u) (ht : look T.sl t = some e) (he : look T.it e = some .u8)
    (hx : Ev P C nt σ x (.one (.dv J (.str v)))) (hk : lkk σ k = none) :
    EfG P C nt o σ (fun σ' => σ' = { σ with ks := (k, some ⟨false, 1000005, 1, v.data.toList.length, v.data.toList.flatMap fun b : UInt8 => [DV.int .u8 (b.toNat : Int)]⟩) :: σ.ks }.put d (.one (.key k))) := EfG.mk fun L a w hr K Q hK => by
  have h1 := hx.run L a w hr
  simp only [SVr, CVr, Lay] at h1
  obtain ⟨h1, h2⟩ := h1
  have hchg := chg_bytes w e v
  have hlen : v.data.toList.length = v.size := rfl
  have hrow : rowE (Lib.bytesWorld w e v) 1000005 1 (.slice (some ⟨w.heap.size, 0, none⟩) v.size (grownCap w v.size 0 e)) v.size (v.data.toList.map fun b => Value.int .u8 (b.toNat : Int)) := by
    refine ⟨fun h => absurd h (by decide), fun _ => ⟨by simp [hlen], .inr ⟨w.heap.size, _, Lib.bytesCells w e v, e, _, rfl, Lib.bytesWorld_at_new w e v, ?_, ?_, ?_, ?_⟩⟩⟩
    · exact grownCap_ge w v.size 0 e
    · exact grownCap_le_maxLen w v.size 0 e (by simpa [maxLen] using h2)
    · simp [Lib.bytesCells]
    · simp [Lib.bytesCells]
  have hb := hr.newkey' hchg (c := ⟨false, 1000005, 1, v.data.toList.length, v.data.toList.flatMap fun b : UInt8 => [DV.int .u8 (b.toNat : Int)]⟩) (v := .slice (some ⟨w.heap.size, 0, none⟩) v.size (grownCap w v.size 0 e)) (f := [w.heap.size]) hk
    (by unfold Own; exact ⟨_, [], rfl, Nat.one_pos, by rw [flat_bytes_len, Nat.mul_one], hrow, ownL_bytes _ _⟩) rfl (by simp) (by simp)
  refine wp_new (v := .slice (some ⟨w.heap.size, 0, none⟩) v.size (grownCap w v.size 0 e)) (w' := Lib.bytesWorld w e v) ?_ ?_
  · unfold execOp
    simp only [ho, h1, Lib.run_convert_string_bytes w s t e v (hT.st s u hs) (hT.sl t e ht) (hT.it e _ he), Sem.run_bind, Result.andThen_ok, Sem.run_pure]
  · refine hK { L with fp := fun j => if j = k then [w.heap.size] else L.fp j, rv := fun j => if j = k then .slice (some ⟨w.heap.size, 0, none⟩) v.size (grownCap w v.size 0 e) else L.rv j } _ _ _ rfl (by rw [hd]; exact hb.put (v := .one (.key k)) (by simpa [Nat.blt_eq] using hn) (by simp [SVr, CVr]) (by simp [SV.keys, CV.keys, lkk, look_cons]) (by simp [SV.boxes])) ⟨hchg, fun i c hc => ?_, fun _ _ _ => rfl⟩
    have : i ≠ k := fun e => by rw [e, hk] at hc; cases hc
    simp [this]
theorem pu_lenKn (hT : TTOk P T) {t e' k n : Nat} {c : KC} (ho : o.op = .call { callee := .builtin .len, args := #[x], argTypes := #[t] }) (h : look T.sl t = some e') (hx : Ev P C nt σ x (.one (.key k))) (hk : lkk σ k = some c) (hn : c.n = n) : Pu P C nt o σ (.one (.dv [] (.int .i64 (n : Int)))) [] [] := by
  subst hn
  exact pu_lenK hT ho h hx hk
theorem kmin_le (k : IntKind) : k.min ≤ 0 := by cases k <;> decide
theorem inR_less {k : IntKind} {m z : Int} (h : InR k m) (h0 : 0 ≤ z) (h1 : z ≤ m) : InR k z := ⟨by have := kmin_le k; omega, by have := h.2; omega⟩
theorem pu_remN {t ty : TypeId} {K J : List Nat} {k : IntKind} {m n : Int} (ho : o.op = .binOp .rem t x y ty) (hx : Ev P C nt σ x (.one (.dv K (.int k m)))) (hy : Ev P C nt σ y (.one (.dv J (.int k n)))) (hm : 0 ≤ m) (hn : 0 < n) : Pu P C nt o σ (.one (.dv [] (.int k (m % n)))) [] [] := by
  have e : m.tmod n = m % n := Int.tmod_eq_emod_of_nonneg hm
  have hq : InR k m → InR k (m % n) := fun h1 => inR_less h1 (Int.emod_nonneg m (show n ≠ 0 by omega)) (by
    rcases Int.lt_or_le m n with h | h
    · rw [Int.emod_eq_of_lt hm h]; omega
    · have := Int.emod_lt_of_pos m hn; omega)
  exact pu_int ho hx hy fun h1 h2 => ⟨_, fun ok w => by unfold Lay; exact ⟨rfl, hq h1⟩, fun w => by simp [binOp, Op.intDiv, show n ≠ 0 by omega, e]⟩
theorem pu_quoN {t ty : TypeId} {K J : List Nat} {k : IntKind} {m n : Int} (ho : o.op = .binOp .quo t x y ty) (hx : Ev P C nt σ x (.one (.dv K (.int k m)))) (hy : Ev P C nt σ y (.one (.dv J (.int k n)))) (hm : 0 ≤ m) (hn : 0 < n) : Pu P C nt o σ (.one (.dv [] (.int k (m / n)))) [] [] := by
  have h := pu_quo ho hx hy (show n ≠ 0 by omega)
  have e : m.tdiv n = m / n := Int.tdiv_eq_ediv_of_nonneg hm
  rw [e] at h
  refine Pu.mk fun L a w hr => ?_
  have h1 := hx.run L a w hr
  simp only [SVr, CVr, Lay] at h1
  have h2 : InR k (m / n) := inR_less h1.2 (Int.ediv_nonneg hm (show (0 : Int) ≤ n by omega)) (Int.ediv_le_self n hm)
  have := h.run L a w hr
  rwa [wrap_inR h2] at this
/-- x >> n of a number that is not negative -/
theorem pu_shrN {t ty : TypeId} {K J : List Nat} {k j : IntKind} {m n : Int} (ho : o.op = .binOp .shr t x y ty) (hx : Ev P C nt σ x (.one (.dv K (.int k m)))) (hy : Ev P C nt σ y (.one (.dv J (.int j n)))) (hm : 0 ≤ m) (hn : 0 ≤ n) (hn2 : n.toNat ≤ k.bits) : Pu P C nt o σ (.one (.dv [] (.int k (m / (2 ^ n.toNat : Nat))))) [] [] := Pu.mk fun L a w hr => by
  have h1 := hx.run L a w hr
  have h2 := hy.run L a w hr
  simp only [SVr, CVr, Lay] at h1 h2
  have hp : (0 : Int) < ((2 ^ n.toNat : Nat) : Int) := by have : 0 < 2 ^ n.toNat := Nat.two_pow_pos _; omega
  have e : m.fdiv (2 ^ n.toNat) = m / ((2 ^ n.toNat : Nat) : Int) := by
    have : ((2 ^ n.toNat : Nat) : Int) = (2 : Int) ^ n.toNat := by simp
    rw [← this, Int.fdiv_eq_ediv_of_nonneg _ (by omega)]
  have h3 : InR k (m / ((2 ^ n.toNat : Nat) : Int)) := inR_less h1.2 (Int.ediv_nonneg hm (Int.le_of_lt hp)) (Int.ediv_le_self _ hm)
  refine ⟨.int k (m / ((2 ^ n.toNat : Nat) : Int)), by simp only [SVr, CVr, Lay]; exact ⟨trivial, h3⟩, fun w' _ => ?_⟩
  unfold execOp
  simp only [ho, h1.1, h2.1, Sem.run_bind]
  have hg : (eqGuard .shr t x y (.int k m) (.int j n)).run P w' = .ok () w' := by unfold eqGuard; rfl
  have hb : (binOp .shr t (.int k m) (.int j n)).run P w' = .ok (.int k (m / ((2 ^ n.toNat : Nat) : Int))) w' := by
    simp only [binOp, Op.shift]
    rw [if_neg (by omega), Nat.min_eq_left hn2, e]
    rfl
  simp only [hg, Result.andThen_ok, hb, Sem.run_pure]
/-- x << n -/
theorem pu_shlW {t ty : TypeId} {K J : List Nat} {k j : IntKind} {m n : Int} (ho : o.op = .binOp .shl t x y ty) (hx : Ev P C nt σ x (.one (.dv K (.int k m)))) (hy : Ev P C nt σ y (.one (.dv J (.int j n)))) (hn : 0 ≤ n) (hn2 : n.toNat ≤ k.bits) : Pu P C nt o σ (.one (.dv [] (.int k (k.wrap (m * (2 ^ n.toNat : Nat)))))) [] [] := Pu.mk fun L a w hr => by
  have h1 := hx.run L a w hr
  have h2 := hy.run L a w hr
  simp only [SVr, CVr, Lay] at h1 h2
  refine ⟨.int k (k.wrap (m * (2 ^ n.toNat : Nat))), by simp only [SVr, CVr, Lay]; exact ⟨trivial, inR_wrap _ _⟩, fun w' _ => ?_⟩
  unfold execOp
  simp only [ho, h1.1, h2.1, Sem.run_bind]
  have hg : (eqGuard .shl t x y (.int k m) (.int j n)).run P w' = .ok () w' := by unfold eqGuard; rfl
  have hb : (binOp .shl t (.int k m) (.int j n)).run P w' = .ok (.int k (k.wrap (m * (2 ^ n.toNat : Nat)))) w' := by
    simp only [binOp, Op.shift]
    rw [if_neg (by omega), Nat.min_eq_left hn2]
    have : ((2 ^ n.toNat : Nat) : Int) = (2 : Int) ^ n.toNat := by simp
    rw [this]; rfl
  simp only [hg, Result.andThen_ok, hb, Sem.run_pure]
/-- one byte, as a string -/
theorem wrap_u8 (z : Int) : IntKind.u8.wrap z = ((UInt8.ofNat (IntKind.u8.wrap z).toNat).toNat : Int) := by
  have h := inR_wrap .u8 z
  simp only [InR, IntKind.min, IntKind.max, IntKind.signed, IntKind.bits] at h
  obtain ⟨h1, h2⟩ := h
  simp at h1 h2
  simp only [UInt8.toNat_ofNat']
  have : (IntKind.u8.wrap z).toNat % 2 ^ 8 = (IntKind.u8.wrap z).toNat := Nat.mod_eq_of_lt (by omega)
  omega
theorem pu_convB1 (hT : TTOk P T) {s d e' : Nat} {v : Unit} {K : List Nat} {e : Nat} {z : Int} {b : UInt8} (ho : o.op = .convert s d x) (h : look T.sl s = some e') (he : look T.it e' = some .u8) (hd : look T.st d = some v) (hx : Ev P C nt σ x (.one (.dv K (.sl e 1 1 [.int .u8 z])))) (hz : z = (b.toNat : Int)) :
    Pu P C nt o σ (.one (.dv [] (.str (strOf [b])))) K [] := by
  subst hz
  exact pu_convBS (xs := [b]) hT ho h he hd hx
end
section
variable {P : Program} {C : Ctx} {nt : Nat} {o : Oper} {x y : Operand} {T : TT} {Q : Exit → St → Prop} {all : Array Oper} {rest : List Oper} {tm : List (Nat × SV)} {bx : List (Nat × TypeId × List CV)} {ks : List (Nat × Option KC)}
theorem o_convSB (hT : TTOk P T) {s t e d k : Nat} {u : Unit} {J : List Nat} {v : ByteArray} (hg : o.guard = none) (hd : o.dst = some d) (ho : o.op = .convert s t x) (hn : Nat.blt d nt = true) (hs : look T.st s = some u) (ht : look T.sl t = some e) (he : look T.it e = some .u8)
    (hx : Ev P C nt ⟨tm, bx, ks⟩ x (.one (.dv J (.str v)))) (hk : lkk ⟨tm, bx, ks⟩ k = none)
    (h : Ops P C nt Q all rest ⟨(d, .one (.key k)) :: tm, bx, (k, some ⟨false, 1000005, 1, v.data.toList.length, v.data.toList.flatMap fun b : UInt8 => [DV.int .u8 (b.toNat : Int)]⟩) :: ks⟩) : Ops P C nt Q all (o :: rest) ⟨tm, bx, ks⟩ := ops_ef1 hg (efg_convSB hT ho hd hn hs ht he hx hk).ef h
end
end Go.Proofs.Ytbmgommbmhmbgaa
