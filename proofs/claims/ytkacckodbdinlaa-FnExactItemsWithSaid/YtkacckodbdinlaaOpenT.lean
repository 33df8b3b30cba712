/-
  How the laws' types are read from the outside.
-/
import Derived.Test.YtkacckodbdinlaaOpenA
namespace Go.Proofs.Ytkacckodbdinlaa
open Go.RowKit
open Go.Proofs
theorem opensBytes : OpensD Try.prog (Is fun xs => [listD 5 1 eByte xs]) 49 := opensD_slice (sz := 1) 5 (fun _ => rfl) rfl Try.underlying49 (by kernel_rfl) (opensD_byte Try.underlying5)
theorem opensKey : OpensD Try.prog (Is eKey) 81 :=
  (opensD_struct (Qs := [Is eInt, Is eInt, Is eStr]) Try.underlying81 (by kernel_rfl) ⟨(opensD_int Try.underlying3), (opensD_int Try.underlying3), (opensD_str Try.underlying9), trivial⟩).mono fun ds h => by
    obtain ⟨_, _, rfl, ⟨a, rfl⟩, ⟨_, _, rfl, ⟨b, rfl⟩, ⟨_, _, rfl, ⟨c, rfl⟩, rfl⟩⟩⟩ := h
    exact ⟨(a, b, c), rfl⟩
theorem opensField : OpensD Try.prog (Is eField) 242 :=
  (opensD_struct (Qs := [Is eStr, Is eInt]) Try.underlying242 (by kernel_rfl) ⟨(opensD_str Try.underlying9), (opensD_int Try.underlying3), trivial⟩).mono fun ds h => by
    obtain ⟨_, _, rfl, ⟨a, rfl⟩, ⟨_, _, rfl, ⟨b, rfl⟩, rfl⟩⟩ := h
    exact ⟨(a, b), rfl⟩
theorem opensFields : OpensD Try.prog (Is fun xs => [listD 187 2 eField xs]) 129 := opensD_slice (sz := 2) 187 (fun _ => rfl) rfl Try.underlying129 (by kernel_rfl) opensField
theorem opensRecord : OpensD Try.prog (Is (fun r : RecT => [fieldsD r])) 131 :=
  (opensD_struct (Qs := [Is (fun r : RecT => [fieldsD r])]) Try.underlying131 (by kernel_rfl) ⟨opensFields, trivial⟩).mono fun ds h => by
    obtain ⟨_, _, rfl, ⟨a, rfl⟩, rfl⟩ := h
    exact ⟨a, rfl⟩
theorem opensItem : OpensD Try.prog (Is eItem) 217 :=
  (opensD_struct (Qs := [Is eKey, Is (fun r : RecT => [fieldsD r])]) Try.underlying217 (by kernel_rfl) ⟨opensKey, opensRecord, trivial⟩).mono fun ds h => by
    obtain ⟨_, _, rfl, ⟨a, rfl⟩, ⟨_, _, rfl, ⟨b, rfl⟩, rfl⟩⟩ := h
    exact ⟨(a, b), rfl⟩
theorem opensItems : OpensD Try.prog (Is fun xs => [listD 66 4 eItem xs]) 22 := opensD_slice (sz := 4) 66 (fun _ => rfl) rfl Try.underlying22 (by kernel_rfl) opensItem
theorem opensStore : OpensD Try.prog (Is eStore) 24 :=
  (opensD_struct (Qs := [Is eStr, Is (fun r : List ItemT => [itemsD r]), Is eInt]) Try.underlying24 (by kernel_rfl) ⟨(opensD_str Try.underlying9), opensItems, (opensD_int Try.underlying3), trivial⟩).mono fun ds h => by
    obtain ⟨_, _, rfl, ⟨a, rfl⟩, ⟨_, _, rfl, ⟨b, rfl⟩, ⟨_, _, rfl, ⟨c, rfl⟩, rfl⟩⟩⟩ := h
    exact ⟨(a, b, c), rfl⟩
theorem opensStores : OpensD Try.prog (Is fun xs => [listD 29 3 eStore xs]) 36 := opensD_slice (sz := 3) 29 (fun _ => rfl) rfl Try.underlying36 (by kernel_rfl) opensStore
theorem opensDef : OpensD Try.prog (Is eDef) 222 :=
  (opensD_struct (Qs := [Is eStr, Is eStr]) Try.underlying222 (by kernel_rfl) ⟨(opensD_str Try.underlying9), (opensD_str Try.underlying9), trivial⟩).mono fun ds h => by
    obtain ⟨_, _, rfl, ⟨a, rfl⟩, ⟨_, _, rfl, ⟨b, rfl⟩, rfl⟩⟩ := h
    exact ⟨(a, b), rfl⟩
theorem opensDefs : OpensD Try.prog (Is fun xs => [listD 223 2 eDef xs]) 37 := opensD_slice (sz := 2) 223 (fun _ => rfl) rfl Try.underlying37 (by kernel_rfl) opensDef
theorem opensDb : OpensD Try.prog (Is eDb) 39 :=
  (opensD_struct (Qs := [Is eStr, Is eInt, Is (fun r : List StoreT => [storesD r]), Is (fun r : List DefT => [defsD r])]) Try.underlying39 (by kernel_rfl) ⟨(opensD_str Try.underlying9), (opensD_int Try.underlying3), opensStores, opensDefs, trivial⟩).mono fun ds h => by
    obtain ⟨_, _, rfl, ⟨a, rfl⟩, ⟨_, _, rfl, ⟨b, rfl⟩, ⟨_, _, rfl, ⟨c, rfl⟩, ⟨_, _, rfl, ⟨d, rfl⟩, rfl⟩⟩⟩⟩ := h
    exact ⟨(a, b, c, d), rfl⟩
theorem opensOp : OpensD Try.prog (Is eOp) 167 :=
  (opensD_struct (Qs := [Is eInt, Is eStr, Is eKey, Is (fun r : RecT => [fieldsD r]), Is eStr]) Try.underlying167 (by kernel_rfl) ⟨(opensD_int Try.underlying3), (opensD_str Try.underlying9), opensKey, opensRecord, (opensD_str Try.underlying9), trivial⟩).mono fun ds h => by
    obtain ⟨_, _, rfl, ⟨a, rfl⟩, ⟨_, _, rfl, ⟨b, rfl⟩, ⟨_, _, rfl, ⟨c, rfl⟩, ⟨_, _, rfl, ⟨d, rfl⟩, ⟨_, _, rfl, ⟨e, rfl⟩, rfl⟩⟩⟩⟩⟩ := h
    exact ⟨(a, b, c, d, e), rfl⟩
theorem opensOps : OpensD Try.prog (Is fun xs => [listD 171 7 eOp xs]) 71 := opensD_slice (sz := 7) 171 (fun _ => rfl) rfl Try.underlying71 (by kernel_rfl) opensOp
theorem opensDisk : OpensD Try.prog (Is (fun d : DiskT => eDb d.1 ++ [bytesD d.2.1, .int .i64 d.2.2])) 118 :=
  (opensD_struct (Qs := [Is eDb, Is (fun r : List UInt8 => [bytesD r]), Is eInt]) Try.underlying118 (by kernel_rfl) ⟨opensDb, opensBytes, (opensD_int Try.underlying3), trivial⟩).mono fun ds h => by
    obtain ⟨_, _, rfl, ⟨a, rfl⟩, ⟨_, _, rfl, ⟨b, rfl⟩, ⟨_, _, rfl, ⟨c, rfl⟩, rfl⟩⟩⟩ := h
    exact ⟨(a, b, c), rfl⟩
end Go.Proofs.Ytkacckodbdinlaa
