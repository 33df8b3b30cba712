/-
  The data types of the program as codecs: what each of its structs reads as.
-/
import Derived.Test.YtgdpeehmjhahfaaBase
namespace Go.Proofs.Ytgdpeehmjhahfaa
abbrev Str := ByteArray
abbrev FieldT := Str × Int
abbrev RecT := List FieldT
abbrev KeyT := Int × Int × Str
abbrev ItemT := KeyT × RecT
abbrev StoreT := Str × List ItemT × Int
abbrev DefT := Str × Str
abbrev DbT := Str × Int × List StoreT × List DefT
abbrev OpT := Int × Str × KeyT × RecT × Str
abbrev TxT := Int × List OpT × Int × Int × List StoreT
abbrev DiskT := DbT × List UInt8 × Int

abbrev bytesC : Cod (List UInt8) := sliceC 5 byteC
abbrev fieldC : Cod FieldT := prodC strC intC
abbrev keyC : Cod KeyT := prodC intC (prodC intC strC)
end Go.Proofs.Ytgdpeehmjhahfaa
