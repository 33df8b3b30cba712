/-
  The data types of the program as codecs: what each of its structs reads as.
-/
import Derived.Test.YtbmgommbmhmbgaaBase
namespace Go.Proofs.Ytbmgommbmhmbgaa
abbrev Str := ByteArray
abbrev FieldT := Str × Int
abbrev RecT := List FieldT
abbrev KeyT := Int × Int × Str
abbrev ItemT := KeyT × RecT
abbrev StoreT := Str × List ItemT × Int
abbrev DefT := Str × Str
abbrev DbT := Str × Int × List StoreT × List DefT
abbrev OpT := Int × Str × KeyT × RecT × Str
abbrev TxT := Int × List OpT × Int × Int × List StoreT
abbrev DiskT := DbT × List UInt8 × Int

abbrev bytesC : Cod (List UInt8) := sliceC 5 byteC
abbrev fieldC : Cod FieldT := prodC strC intC
abbrev recC : Cod RecT := sliceC 109 fieldC
abbrev keyC : Cod KeyT := prodC intC (prodC intC strC)
abbrev itemC : Cod ItemT := prodC keyC recC
abbrev itemsC : Cod (List ItemT) := sliceC 52 itemC
abbrev storeC : Cod StoreT := prodC strC (prodC itemsC intC)
end Go.Proofs.Ytbmgommbmhmbgaa
