/-
  How the laws' types are read from the outside.
-/
import Derived.Test.YtbmgommbmhmbgaaOpenA
namespace Go.Proofs.Ytbmgommbmhmbgaa
open Go.RowKit
open Go.Proofs
theorem opensBytes : OpensD Try.prog (Is fun xs => [listD 5 1 eByte xs]) 112 := opensD_slice (sz := 1) 5 (fun _ => rfl) rfl Try.underlying112 (by kernel_rfl) (opensD_byte Try.underlying5)
theorem opensKey : OpensD Try.prog (Is eKey) 37 :=
  (opensD_struct (Qs := [Is eInt, Is eInt, Is eStr]) Try.underlying37 (by kernel_rfl) ⟨(opensD_int Try.underlying3), (opensD_int Try.underlying3), (opensD_str Try.underlying9), trivial⟩).mono fun ds h => by
    obtain ⟨_, _, rfl, ⟨a, rfl⟩, ⟨_, _, rfl, ⟨b, rfl⟩, ⟨_, _, rfl, ⟨c, rfl⟩, rfl⟩⟩⟩ := h
    exact ⟨(a, b, c), rfl⟩
theorem opensRange : OpensD Try.prog (Is eRange) 39 :=
  (opensD_struct (Qs := [Is eBool, Is eBool, Is eKey, Is eKey]) Try.underlying39 (by kernel_rfl) ⟨(opensD_bool Try.underlying4), (opensD_bool Try.underlying4), opensKey, opensKey, trivial⟩).mono fun ds h => by
    obtain ⟨_, _, rfl, ⟨a, rfl⟩, ⟨_, _, rfl, ⟨b, rfl⟩, ⟨_, _, rfl, ⟨c, rfl⟩, ⟨_, _, rfl, ⟨d, rfl⟩, rfl⟩⟩⟩⟩ := h
    exact ⟨(a, b, c, d), rfl⟩
theorem opensCursor : OpensD Try.prog (Is eCursor) 41 :=
  (opensD_struct (Qs := [Is eRange, Is eBool, Is eBool, Is eKey]) Try.underlying41 (by kernel_rfl) ⟨opensRange, (opensD_bool Try.underlying4), (opensD_bool Try.underlying4), opensKey, trivial⟩).mono fun ds h => by
    obtain ⟨_, _, rfl, ⟨a, rfl⟩, ⟨_, _, rfl, ⟨b, rfl⟩, ⟨_, _, rfl, ⟨c, rfl⟩, ⟨_, _, rfl, ⟨d, rfl⟩, rfl⟩⟩⟩⟩ := h
    exact ⟨(a, b, c, d), rfl⟩
theorem opensField : OpensD Try.prog (Is eField) 118 :=
  (opensD_struct (Qs := [Is eStr, Is eInt]) Try.underlying118 (by kernel_rfl) ⟨(opensD_str Try.underlying9), (opensD_int Try.underlying3), trivial⟩).mono fun ds h => by
    obtain ⟨_, _, rfl, ⟨a, rfl⟩, ⟨_, _, rfl, ⟨b, rfl⟩, rfl⟩⟩ := h
    exact ⟨(a, b), rfl⟩
theorem opensFields : OpensD Try.prog (Is fun xs => [listD 109 2 eField xs]) 66 := opensD_slice (sz := 2) 109 (fun _ => rfl) rfl Try.underlying66 (by kernel_rfl) opensField
theorem opensRecord : OpensD Try.prog (Is (fun r : RecT => [fieldsD r])) 68 :=
  (opensD_struct (Qs := [Is (fun r : RecT => [fieldsD r])]) Try.underlying68 (by kernel_rfl) ⟨opensFields, trivial⟩).mono fun ds h => by
    obtain ⟨_, _, rfl, ⟨a, rfl⟩, rfl⟩ := h
    exact ⟨a, rfl⟩
theorem opensItem : OpensD Try.prog (Is eItem) 107 :=
  (opensD_struct (Qs := [Is eKey, Is (fun r : RecT => [fieldsD r])]) Try.underlying107 (by kernel_rfl) ⟨opensKey, opensRecord, trivial⟩).mono fun ds h => by
    obtain ⟨_, _, rfl, ⟨a, rfl⟩, ⟨_, _, rfl, ⟨b, rfl⟩, rfl⟩⟩ := h
    exact ⟨(a, b), rfl⟩
theorem opensItems : OpensD Try.prog (Is fun xs => [listD 52 4 eItem xs]) 22 := opensD_slice (sz := 4) 52 (fun _ => rfl) rfl Try.underlying22 (by kernel_rfl) opensItem
theorem opensStore : OpensD Try.prog (Is eStore) 24 :=
  (opensD_struct (Qs := [Is eStr, Is (fun r : List ItemT => [itemsD r]), Is eInt]) Try.underlying24 (by kernel_rfl) ⟨(opensD_str Try.underlying9), opensItems, (opensD_int Try.underlying3), trivial⟩).mono fun ds h => by
    obtain ⟨_, _, rfl, ⟨a, rfl⟩, ⟨_, _, rfl, ⟨b, rfl⟩, ⟨_, _, rfl, ⟨c, rfl⟩, rfl⟩⟩⟩ := h
    exact ⟨(a, b, c), rfl⟩
end Go.Proofs.Ytbmgommbmhmbgaa
