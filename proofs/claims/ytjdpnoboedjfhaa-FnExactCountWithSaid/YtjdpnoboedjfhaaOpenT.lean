/-
  How the laws' types are read from the outside.
-/
import Derived.Test.YtjdpnoboedjfhaaOpenA
namespace Go.Proofs.Ytjdpnoboedjfhaa
open Go.RowKit
open Go.Proofs
theorem opensBytes : OpensD Try.prog (Is fun xs => [listD 5 1 eByte xs]) 86 := opensD_slice (sz := 1) 5 (fun _ => rfl) rfl Try.underlying86 (by kernel_rfl) (opensD_byte Try.underlying5)
theorem opensKey : OpensD Try.prog (Is eKey) 23 :=
  (opensD_struct (Qs := [Is eInt, Is eInt, Is eStr]) Try.underlying23 (by kernel_rfl) ⟨(opensD_int Try.underlying3), (opensD_int Try.underlying3), (opensD_str Try.underlying9), trivial⟩).mono fun ds h => by
    obtain ⟨_, _, rfl, ⟨a, rfl⟩, ⟨_, _, rfl, ⟨b, rfl⟩, ⟨_, _, rfl, ⟨c, rfl⟩, rfl⟩⟩⟩ := h
    exact ⟨(a, b, c), rfl⟩
theorem opensField : OpensD Try.prog (Is eField) 165 :=
  (opensD_struct (Qs := [Is eStr, Is eInt]) Try.underlying165 (by kernel_rfl) ⟨(opensD_str Try.underlying9), (opensD_int Try.underlying3), trivial⟩).mono fun ds h => by
    obtain ⟨_, _, rfl, ⟨a, rfl⟩, ⟨_, _, rfl, ⟨b, rfl⟩, rfl⟩⟩ := h
    exact ⟨(a, b), rfl⟩
theorem opensFields : OpensD Try.prog (Is fun xs => [listD 145 2 eField xs]) 24 := opensD_slice (sz := 2) 145 (fun _ => rfl) rfl Try.underlying24 (by kernel_rfl) opensField
theorem opensRecord : OpensD Try.prog (Is (fun r : RecT => [fieldsD r])) 26 :=
  (opensD_struct (Qs := [Is (fun r : RecT => [fieldsD r])]) Try.underlying26 (by kernel_rfl) ⟨opensFields, trivial⟩).mono fun ds h => by
    obtain ⟨_, _, rfl, ⟨a, rfl⟩, rfl⟩ := h
    exact ⟨a, rfl⟩
theorem opensItem : OpensD Try.prog (Is eItem) 149 :=
  (opensD_struct (Qs := [Is eKey, Is (fun r : RecT => [fieldsD r])]) Try.underlying149 (by kernel_rfl) ⟨opensKey, opensRecord, trivial⟩).mono fun ds h => by
    obtain ⟨_, _, rfl, ⟨a, rfl⟩, ⟨_, _, rfl, ⟨b, rfl⟩, rfl⟩⟩ := h
    exact ⟨(a, b), rfl⟩
theorem opensItems : OpensD Try.prog (Is fun xs => [listD 114 4 eItem xs]) 46 := opensD_slice (sz := 4) 114 (fun _ => rfl) rfl Try.underlying46 (by kernel_rfl) opensItem
theorem opensStore : OpensD Try.prog (Is eStore) 48 :=
  (opensD_struct (Qs := [Is eStr, Is (fun r : List ItemT => [itemsD r]), Is eInt]) Try.underlying48 (by kernel_rfl) ⟨(opensD_str Try.underlying9), opensItems, (opensD_int Try.underlying3), trivial⟩).mono fun ds h => by
    obtain ⟨_, _, rfl, ⟨a, rfl⟩, ⟨_, _, rfl, ⟨b, rfl⟩, ⟨_, _, rfl, ⟨c, rfl⟩, rfl⟩⟩⟩ := h
    exact ⟨(a, b, c), rfl⟩
theorem opensStores : OpensD Try.prog (Is fun xs => [listD 53 3 eStore xs]) 61 := opensD_slice (sz := 3) 53 (fun _ => rfl) rfl Try.underlying61 (by kernel_rfl) opensStore
theorem opensDef : OpensD Try.prog (Is eDef) 154 :=
  (opensD_struct (Qs := [Is eStr, Is eStr]) Try.underlying154 (by kernel_rfl) ⟨(opensD_str Try.underlying9), (opensD_str Try.underlying9), trivial⟩).mono fun ds h => by
    obtain ⟨_, _, rfl, ⟨a, rfl⟩, ⟨_, _, rfl, ⟨b, rfl⟩, rfl⟩⟩ := h
    exact ⟨(a, b), rfl⟩
theorem opensDefs : OpensD Try.prog (Is fun xs => [listD 128 2 eDef xs]) 62 := opensD_slice (sz := 2) 128 (fun _ => rfl) rfl Try.underlying62 (by kernel_rfl) opensDef
theorem opensDb : OpensD Try.prog (Is eDb) 64 :=
  (opensD_struct (Qs := [Is eStr, Is eInt, Is (fun r : List StoreT => [storesD r]), Is (fun r : List DefT => [defsD r])]) Try.underlying64 (by kernel_rfl) ⟨(opensD_str Try.underlying9), (opensD_int Try.underlying3), opensStores, opensDefs, trivial⟩).mono fun ds h => by
    obtain ⟨_, _, rfl, ⟨a, rfl⟩, ⟨_, _, rfl, ⟨b, rfl⟩, ⟨_, _, rfl, ⟨c, rfl⟩, ⟨_, _, rfl, ⟨d, rfl⟩, rfl⟩⟩⟩⟩ := h
    exact ⟨(a, b, c, d), rfl⟩
theorem opensOp : OpensD Try.prog (Is eOp) 28 :=
  (opensD_struct (Qs := [Is eInt, Is eStr, Is eKey, Is (fun r : RecT => [fieldsD r]), Is eStr]) Try.underlying28 (by kernel_rfl) ⟨(opensD_int Try.underlying3), (opensD_str Try.underlying9), opensKey, opensRecord, (opensD_str Try.underlying9), trivial⟩).mono fun ds h => by
    obtain ⟨_, _, rfl, ⟨a, rfl⟩, ⟨_, _, rfl, ⟨b, rfl⟩, ⟨_, _, rfl, ⟨c, rfl⟩, ⟨_, _, rfl, ⟨d, rfl⟩, ⟨_, _, rfl, ⟨e, rfl⟩, rfl⟩⟩⟩⟩⟩ := h
    exact ⟨(a, b, c, d, e), rfl⟩
theorem opensOps : OpensD Try.prog (Is fun xs => [listD 36 7 eOp xs]) 40 := opensD_slice (sz := 7) 36 (fun _ => rfl) rfl Try.underlying40 (by kernel_rfl) opensOp
theorem opensTx : OpensD Try.prog (Is eTx) 160 :=
  (opensD_struct (Qs := [Is eInt, Is (fun r : List OpT => [opsD r]), Is eInt, Is eInt, Is (fun r : List StoreT => [storesD r])]) Try.underlying160 (by kernel_rfl) ⟨(opensD_int Try.underlying3), opensOps, (opensD_int Try.underlying3), (opensD_int Try.underlying3), opensStores, trivial⟩).mono fun ds h => by
    obtain ⟨_, _, rfl, ⟨a, rfl⟩, ⟨_, _, rfl, ⟨b, rfl⟩, ⟨_, _, rfl, ⟨c, rfl⟩, ⟨_, _, rfl, ⟨d, rfl⟩, ⟨_, _, rfl, ⟨e, rfl⟩, rfl⟩⟩⟩⟩⟩ := h
    exact ⟨(a, b, c, d, e), rfl⟩
theorem opensTxs : OpensD Try.prog (Is fun xs => [listD 132 5 eTx xs]) 75 := opensD_slice (sz := 5) 132 (fun _ => rfl) rfl Try.underlying75 (by kernel_rfl) opensTx
theorem opensQueue : OpensD Try.prog (Is (fun r : List TxT => [txsD r])) 77 :=
  (opensD_struct (Qs := [Is (fun r : List TxT => [txsD r])]) Try.underlying77 (by kernel_rfl) ⟨opensTxs, trivial⟩).mono fun ds h => by
    obtain ⟨_, _, rfl, ⟨a, rfl⟩, rfl⟩ := h
    exact ⟨a, rfl⟩
theorem opensDisk : OpensD Try.prog (Is (fun d : DiskT => eDb d.1 ++ [bytesD d.2.1, .int .i64 d.2.2])) 88 :=
  (opensD_struct (Qs := [Is eDb, Is (fun r : List UInt8 => [bytesD r]), Is eInt]) Try.underlying88 (by kernel_rfl) ⟨opensDb, opensBytes, (opensD_int Try.underlying3), trivial⟩).mono fun ds h => by
    obtain ⟨_, _, rfl, ⟨a, rfl⟩, ⟨_, _, rfl, ⟨b, rfl⟩, ⟨_, _, rfl, ⟨c, rfl⟩, rfl⟩⟩⟩ := h
    exact ⟨(a, b, c), rfl⟩
end Go.Proofs.Ytjdpnoboedjfhaa
