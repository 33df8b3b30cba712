/-
  Contracts of the program's functions for the statements OpenDisk, by the rules of the logic. Conditions: none but those in the theorems.
-/
import Derived.Test.YtfejjkndbpejbaaGreatQOD3
set_option maxHeartbeats 4000000
set_option maxRecDepth 100000
namespace Go.Proofs.YtfejjkndbpejbaaGreat
open Go.RowKit
open Go.Proofs
theorem c8h : OpensD Tryz.prog (Is fun xs => [a2H 5 1 a0V xs]) 26 := a9Q (sz := 1) 5 (fun _ => rfl) rfl Tryz.underlying26 (by kernel_rfl) (c6n Tryz.underlying5)
theorem opensKey : OpensD Tryz.prog (Is c0o) 159 :=
 (a6z (Qs := [Is a4b, Is a4b, Is a7y]) Tryz.underlying159 (by kernel_rfl) ⟨(a8h Tryz.underlying3), (a8h Tryz.underlying3), (a8m Tryz.underlying9), trivial⟩).mono fun ds h => by
  obtain ⟨_, _, rfl, ⟨a, rfl⟩, ⟨_, _, rfl, ⟨b, rfl⟩, ⟨_, _, rfl, ⟨c, rfl⟩, rfl⟩⟩⟩ := h
  exact ⟨(a, b, c), rfl⟩
theorem c1w : OpensD Tryz.prog (Is a1d) 191 :=
 (a6z (Qs := [Is a7y, Is a4b]) Tryz.underlying191 (by kernel_rfl) ⟨(a8m Tryz.underlying9), (a8h Tryz.underlying3), trivial⟩).mono fun ds h => by
  obtain ⟨_, _, rfl, ⟨a, rfl⟩, ⟨_, _, rfl, ⟨b, rfl⟩, rfl⟩⟩ := h
  exact ⟨(a, b), rfl⟩
theorem opensFields : OpensD Tryz.prog (Is fun xs => [a2H 128 2 a1d xs]) 160 := a9Q (sz := 2) 128 (fun _ => rfl) rfl Tryz.underlying160 (by kernel_rfl) c1w
theorem c0X : OpensD Tryz.prog (Is (fun r : a0y => [a0w r])) 162 :=
 (a6z (Qs := [Is (fun r : a0y => [a0w r])]) Tryz.underlying162 (by kernel_rfl) ⟨opensFields, trivial⟩).mono fun ds h => by
  obtain ⟨_, _, rfl, ⟨a, rfl⟩, rfl⟩ := h
  exact ⟨a, rfl⟩
theorem c3a : OpensD Tryz.prog (Is a0A) 164 :=
 (a6z (Qs := [Is c0o, Is (fun r : a0y => [a0w r])]) Tryz.underlying164 (by kernel_rfl) ⟨opensKey, c0X, trivial⟩).mono fun ds h => by
  obtain ⟨_, _, rfl, ⟨a, rfl⟩, ⟨_, _, rfl, ⟨b, rfl⟩, rfl⟩⟩ := h
  exact ⟨(a, b), rfl⟩
theorem c7t : OpensD Tryz.prog (Is fun xs => [a2H 107 4 a0A xs]) 101 := a9Q (sz := 4) 107 (fun _ => rfl) rfl Tryz.underlying101 (by kernel_rfl) c3a
theorem c6P : OpensD Tryz.prog (Is a1n) 103 :=
 (a6z (Qs := [Is a7y, Is (fun r : List a0L => [a0n r]), Is a4b]) Tryz.underlying103 (by kernel_rfl) ⟨(a8m Tryz.underlying9), c7t, (a8h Tryz.underlying3), trivial⟩).mono fun ds h => by
  obtain ⟨_, _, rfl, ⟨a, rfl⟩, ⟨_, _, rfl, ⟨b, rfl⟩, ⟨_, _, rfl, ⟨c, rfl⟩, rfl⟩⟩⟩ := h
  exact ⟨(a, b, c), rfl⟩
theorem c2i : OpensD Tryz.prog (Is fun xs => [a2H 67 3 a1n xs]) 22 := a9Q (sz := 3) 67 (fun _ => rfl) rfl Tryz.underlying22 (by kernel_rfl) c6P
theorem c1M : OpensD Tryz.prog (Is a1O) 105 :=
 (a6z (Qs := [Is a7y, Is a7y]) Tryz.underlying105 (by kernel_rfl) ⟨(a8m Tryz.underlying9), (a8m Tryz.underlying9), trivial⟩).mono fun ds h => by
  obtain ⟨_, _, rfl, ⟨a, rfl⟩, ⟨_, _, rfl, ⟨b, rfl⟩, rfl⟩⟩ := h
  exact ⟨(a, b), rfl⟩
theorem c5F : OpensD Tryz.prog (Is fun xs => [a2H 97 2 a1O xs]) 23 := a9Q (sz := 2) 97 (fun _ => rfl) rfl Tryz.underlying23 (by kernel_rfl) c1M
theorem opensDb : OpensD Tryz.prog (Is eDb) 25 :=
 (a6z (Qs := [Is a7y, Is a4b, Is (fun r : List a0P => [a0z r]), Is (fun r : List a2V => [a0B r])]) Tryz.underlying25 (by kernel_rfl) ⟨(a8m Tryz.underlying9), (a8h Tryz.underlying3), c2i, c5F, trivial⟩).mono fun ds h => by
  obtain ⟨_, _, rfl, ⟨a, rfl⟩, ⟨_, _, rfl, ⟨b, rfl⟩, ⟨_, _, rfl, ⟨c, rfl⟩, ⟨_, _, rfl, ⟨d, rfl⟩, rfl⟩⟩⟩⟩ := h
  exact ⟨(a, b, c, d), rfl⟩
theorem c0Q : OpensD Tryz.prog (Is (fun d : a5n => eDb d.1 ++ [a0x d.2.1, .int .i64 d.2.2])) 28 :=
 (a6z (Qs := [Is eDb, Is (fun r : List UInt8 => [a0x r]), Is a4b]) Tryz.underlying28 (by kernel_rfl) ⟨opensDb, c8h, (a8h Tryz.underlying3), trivial⟩).mono fun ds h => by
  obtain ⟨_, _, rfl, ⟨a, rfl⟩, ⟨_, _, rfl, ⟨b, rfl⟩, ⟨_, _, rfl, ⟨c, rfl⟩, rfl⟩⟩⟩ := h
  exact ⟨(a, b, c), rfl⟩
end Go.Proofs.YtfejjkndbpejbaaGreat
