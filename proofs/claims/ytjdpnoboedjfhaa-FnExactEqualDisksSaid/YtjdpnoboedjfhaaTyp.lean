/-
  The types of this seat's program, as a table; the data types of the statements.
-/
import Derived.Test.YtjdpnoboedjfhaaSli
import Derived.Test.YtjdpnoboedjfhaaProg
namespace Go.Proofs.Ytjdpnoboedjfhaa
open Go.RowKit
open Go.Proofs
def TTab : TT where
  sl := [(24, 165), (32, 145), (40, 28), (43, 36), (46, 149), (51, 114), (61, 48), (62, 154), (67, 53), (68, 128), (75, 160), (80, 132), (86, 5)]
  ag := [(7, 4), (13, 2), (22, 3), (23, 3), (25, 1), (26, 1), (27, 7), (28, 7), (31, 3), (33, 1), (34, 1), (35, 7), (36, 7), (47, 3), (48, 3), (52, 3), (53, 3), (63, 4), (64, 4), (69, 4), (70, 4), (76, 1), (77, 1), (81, 1), (82, 1), (87, 6), (88, 6), (91, 6), (92, 6), (113, 4), (114, 4), (127, 2), (128, 2), (131, 5), (132, 5), (144, 2), (145, 2), (148, 4), (149, 4), (154, 2), (159, 5), (160, 5), (165, 2)]
  on := [(2, ()), (3, ()), (4, ()), (5, ()), (9, ()), (12, ()), (21, ()), (24, ()), (32, ()), (40, ()), (43, ()), (46, ()), (51, ()), (61, ()), (62, ()), (67, ()), (68, ()), (75, ()), (80, ()), (86, ()), (172, ()), (180, ())]
  of := [(7000, 0), (7001, 1), (7002, 2), (7003, 3), (13000, 0), (13001, 1), (22000, 0), (22001, 1), (22002, 2), (23000, 0), (23001, 1), (23002, 2), (25000, 0), (26000, 0), (27000, 0), (27001, 1), (27002, 2), (27003, 5), (27004, 6), (28000, 0), (28001, 1), (28002, 2), (28003, 5), (28004, 6), (31000, 0), (31001, 1), (31002, 2), (33000, 0), (34000, 0), (35000, 0), (35001, 1), (35002, 2), (35003, 5), (35004, 6), (36000, 0), (36001, 1), (36002, 2), (36003, 5), (36004, 6), (47000, 0), (47001, 1), (47002, 2), (48000, 0), (48001, 1), (48002, 2), (52000, 0), (52001, 1), (52002, 2), (53000, 0), (53001, 1), (53002, 2), (63000, 0), (63001, 1), (63002, 2), (63003, 3), (64000, 0), (64001, 1), (64002, 2), (64003, 3), (69000, 0), (69001, 1), (69002, 2), (69003, 3), (70000, 0), (70001, 1), (70002, 2), (70003, 3), (76000, 0), (77000, 0), (81000, 0), (82000, 0), (87000, 0), (87001, 4), (87002, 5), (88000, 0), (88001, 4), (88002, 5), (91000, 0), (91001, 4), (91002, 5), (92000, 0), (92001, 4), (92002, 5), (113000, 0), (113001, 3), (114000, 0), (114001, 3), (127000, 0), (127001, 1), (128000, 0), (128001, 1), (131000, 0), (131001, 1), (131002, 2), (131003, 3), (131004, 4), (132000, 0), (132001, 1), (132002, 2), (132003, 3), (132004, 4), (144000, 0), (144001, 1), (145000, 0), (145001, 1), (148000, 0), (148001, 3), (149000, 0), (149001, 3), (154000, 0), (154001, 1), (159000, 0), (159001, 1), (159002, 2), (159003, 3), (159004, 4), (160000, 0), (160001, 1), (160002, 2), (160003, 3), (160004, 4), (165000, 0), (165001, 1)]
  el := [(2, (1, 8, [.dv [] (.int .i64 0)])), (3, (1, 8, [.dv [] (.int .i64 0)])), (4, (1, 1, [.dv [] (.bool false)])), (5, (1, 1, [.dv [] (.int .u8 0)])), (7, (4, 24, [.dv [] (.int .i64 0), .dv [] (.int .i64 0), .dv [] (.bool false), .dv [] (.int .u8 0)])), (9, (1, 16, [.dv [] (.str ByteArray.empty)])), (12, (1, 8, [.dv [] (.int .u64 0)])), (13, (2, 24, [.dv [] (.str ByteArray.empty), .dv [] (.int .u64 0)])), (21, (1, 4, [.dv [] (.int .i32 0)])), (22, (3, 32, [.dv [] (.int .i64 0), .dv [] (.int .i64 0), .dv [] (.str ByteArray.empty)])), (23, (3, 32, [.dv [] (.int .i64 0), .dv [] (.int .i64 0), .dv [] (.str ByteArray.empty)])), (24, (1, 24, [.nil])), (25, (1, 24, [.nil])), (26, (1, 24, [.nil])), (27, (7, 96, [.dv [] (.int .i64 0), .dv [] (.str ByteArray.empty), .dv [] (.int .i64 0), .dv [] (.int .i64 0), .dv [] (.str ByteArray.empty), .nil, .dv [] (.str ByteArray.empty)])), (28, (7, 96, [.dv [] (.int .i64 0), .dv [] (.str ByteArray.empty), .dv [] (.int .i64 0), .dv [] (.int .i64 0), .dv [] (.str ByteArray.empty), .nil, .dv [] (.str ByteArray.empty)])), (31, (3, 32, [.dv [] (.int .i64 0), .dv [] (.int .i64 0), .dv [] (.str ByteArray.empty)])), (32, (1, 24, [.nil])), (33, (1, 24, [.nil])), (34, (1, 24, [.nil])), (35, (7, 96, [.dv [] (.int .i64 0), .dv [] (.str ByteArray.empty), .dv [] (.int .i64 0), .dv [] (.int .i64 0), .dv [] (.str ByteArray.empty), .nil, .dv [] (.str ByteArray.empty)])), (36, (7, 96, [.dv [] (.int .i64 0), .dv [] (.str ByteArray.empty), .dv [] (.int .i64 0), .dv [] (.int .i64 0), .dv [] (.str ByteArray.empty), .nil, .dv [] (.str ByteArray.empty)])), (40, (1, 24, [.nil])), (43, (1, 24, [.nil])), (46, (1, 24, [.nil])), (47, (3, 48, [.dv [] (.str ByteArray.empty), .nil, .dv [] (.int .i64 0)])), (48, (3, 48, [.dv [] (.str ByteArray.empty), .nil, .dv [] (.int .i64 0)])), (51, (1, 24, [.nil])), (52, (3, 48, [.dv [] (.str ByteArray.empty), .nil, .dv [] (.int .i64 0)])), (53, (3, 48, [.dv [] (.str ByteArray.empty), .nil, .dv [] (.int .i64 0)])), (61, (1, 24, [.nil])), (62, (1, 24, [.nil])), (63, (4, 72, [.dv [] (.str ByteArray.empty), .dv [] (.int .i64 0), .nil, .nil])), (64, (4, 72, [.dv [] (.str ByteArray.empty), .dv [] (.int .i64 0), .nil, .nil])), (67, (1, 24, [.nil])), (68, (1, 24, [.nil])), (69, (4, 72, [.dv [] (.str ByteArray.empty), .dv [] (.int .i64 0), .nil, .nil])), (70, (4, 72, [.dv [] (.str ByteArray.empty), .dv [] (.int .i64 0), .nil, .nil])), (75, (1, 24, [.nil])), (76, (1, 24, [.nil])), (77, (1, 24, [.nil])), (80, (1, 24, [.nil])), (81, (1, 24, [.nil])), (82, (1, 24, [.nil])), (86, (1, 24, [.nil])), (87, (6, 104, [.dv [] (.str ByteArray.empty), .dv [] (.int .i64 0), .nil, .nil, .nil, .dv [] (.int .i64 0)])), (88, (6, 104, [.dv [] (.str ByteArray.empty), .dv [] (.int .i64 0), .nil, .nil, .nil, .dv [] (.int .i64 0)])), (91, (6, 104, [.dv [] (.str ByteArray.empty), .dv [] (.int .i64 0), .nil, .nil, .nil, .dv [] (.int .i64 0)])), (92, (6, 104, [.dv [] (.str ByteArray.empty), .dv [] (.int .i64 0), .nil, .nil, .nil, .dv [] (.int .i64 0)])), (113, (4, 56, [.dv [] (.int .i64 0), .dv [] (.int .i64 0), .dv [] (.str ByteArray.empty), .nil])), (114, (4, 56, [.dv [] (.int .i64 0), .dv [] (.int .i64 0), .dv [] (.str ByteArray.empty), .nil])), (127, (2, 32, [.dv [] (.str ByteArray.empty), .dv [] (.str ByteArray.empty)])), (128, (2, 32, [.dv [] (.str ByteArray.empty), .dv [] (.str ByteArray.empty)])), (131, (5, 72, [.dv [] (.int .i64 0), .nil, .dv [] (.int .i64 0), .dv [] (.int .i64 0), .nil])), (132, (5, 72, [.dv [] (.int .i64 0), .nil, .dv [] (.int .i64 0), .dv [] (.int .i64 0), .nil])), (144, (2, 24, [.dv [] (.str ByteArray.empty), .dv [] (.int .i64 0)])), (145, (2, 24, [.dv [] (.str ByteArray.empty), .dv [] (.int .i64 0)])), (148, (4, 56, [.dv [] (.int .i64 0), .dv [] (.int .i64 0), .dv [] (.str ByteArray.empty), .nil])), (149, (4, 56, [.dv [] (.int .i64 0), .dv [] (.int .i64 0), .dv [] (.str ByteArray.empty), .nil])), (154, (2, 32, [.dv [] (.str ByteArray.empty), .dv [] (.str ByteArray.empty)])), (159, (5, 72, [.dv [] (.int .i64 0), .nil, .dv [] (.int .i64 0), .dv [] (.int .i64 0), .nil])), (160, (5, 72, [.dv [] (.int .i64 0), .nil, .dv [] (.int .i64 0), .dv [] (.int .i64 0), .nil])), (165, (2, 24, [.dv [] (.str ByteArray.empty), .dv [] (.int .i64 0)])), (172, (1, 8, [.dv [] (.int .u64 0)])), (180, (1, 4, [.dv [] (.int .u32 0)]))]
  st := [(9, ())]
  bo := [(4, ())]
  it := [(2, .i64), (3, .i64), (5, .u8), (12, .u64), (21, .i32), (172, .u64), (180, .u32)]

theorem hT : TTOk Try.prog TTab := TT.ok (by kernel_rfl)
theorem eql_Key (a : Int) (b : Int) (s : ByteArray) (a' : Int) (b' : Int) (s' : ByteArray) (w : World) : (binOp .eql 31 (.agg [Value.int .i64 a, .int .i64 b, .string s].toArray) (.agg [Value.int .i64 a', .int .i64 b', .string s'].toArray)).run Try.prog w = .ok (.bool (((decide (a = a') && (decide (b = b') && sEq s s'))))) w := by
  rw [run_eql_struct]; simp [go_sem, sEq]; by_cases h_a : a = a' <;> by_cases h_b : b = b' <;> by_cases h_s : s.toList = s'.toList <;> simp [h_a, h_b, h_s]
theorem neq_Key (a : Int) (b : Int) (s : ByteArray) (a' : Int) (b' : Int) (s' : ByteArray) (w : World) : (binOp .neq 31 (.agg [Value.int .i64 a, .int .i64 b, .string s].toArray) (.agg [Value.int .i64 a', .int .i64 b', .string s'].toArray)).run Try.prog w = .ok (.bool (!((decide (a = a') && (decide (b = b') && sEq s s'))))) w := by
  rw [run_neq_struct]; simp [go_sem, sEq]; by_cases h_a : a = a' <;> by_cases h_b : b = b' <;> by_cases h_s : s.toList = s'.toList <;> simp [h_a, h_b, h_s]
theorem eql_Field (s : ByteArray) (a : Int) (s' : ByteArray) (a' : Int) (w : World) : (binOp .eql 145 (.agg [Value.string s, .int .i64 a].toArray) (.agg [Value.string s', .int .i64 a'].toArray)).run Try.prog w = .ok (.bool (((sEq s s' && decide (a = a'))))) w := by
  rw [run_eql_struct]; simp [go_sem, sEq]; by_cases h_s : s.toList = s'.toList <;> by_cases h_a : a = a' <;> simp [h_s, h_a]
theorem neq_Field (s : ByteArray) (a : Int) (s' : ByteArray) (a' : Int) (w : World) : (binOp .neq 145 (.agg [Value.string s, .int .i64 a].toArray) (.agg [Value.string s', .int .i64 a'].toArray)).run Try.prog w = .ok (.bool (!((sEq s s' && decide (a = a'))))) w := by
  rw [run_neq_struct]; simp [go_sem, sEq]; by_cases h_s : s.toList = s'.toList <;> by_cases h_a : a = a' <;> simp [h_s, h_a]
theorem eql_Def (s : ByteArray) (u : ByteArray) (s' : ByteArray) (u' : ByteArray) (w : World) : (binOp .eql 128 (.agg [Value.string s, .string u].toArray) (.agg [Value.string s', .string u'].toArray)).run Try.prog w = .ok (.bool (((sEq s s' && sEq u u')))) w := by
  rw [run_eql_struct]; simp [go_sem, sEq]; by_cases h_s : s.toList = s'.toList <;> by_cases h_u : u.toList = u'.toList <;> simp [h_s, h_u]
theorem neq_Def (s : ByteArray) (u : ByteArray) (s' : ByteArray) (u' : ByteArray) (w : World) : (binOp .neq 128 (.agg [Value.string s, .string u].toArray) (.agg [Value.string s', .string u'].toArray)).run Try.prog w = .ok (.bool (!((sEq s s' && sEq u u')))) w := by
  rw [run_neq_struct]; simp [go_sem, sEq]; by_cases h_s : s.toList = s'.toList <;> by_cases h_u : u.toList = u'.toList <;> simp [h_s, h_u]
abbrev Str := ByteArray
abbrev KeyT := Int × Int × Str
abbrev FieldT := Str × Int
abbrev RecT := List FieldT
abbrev ItemT := KeyT × RecT
abbrev StoreT := Str × List ItemT × Int
abbrev DefT := Str × Str
abbrev DbT := Str × Int × List StoreT × List DefT
abbrev OpT := Int × Str × KeyT × RecT × Str
abbrev TxT := Int × List OpT × Int × Int × List StoreT
abbrev DiskT := DbT × List UInt8 × Int
@[reducible] def eByte (b : UInt8) : List DV := [.int .u8 (b.toNat : Int)]
@[reducible] def eInt (n : Int) : List DV := [.int .i64 n]
@[reducible] def eStr (s : Str) : List DV := [.str s]
@[reducible] def bytesD (bs : List UInt8) : DV := listD 5 1 eByte bs
@[reducible] def intsD (bs : List Int) : DV := listD 3 1 eInt bs
@[reducible] def strsD (bs : List Str) : DV := listD 9 1 eStr bs
@[reducible] def eKey (k : KeyT) : List DV := [.int .i64 k.1, .int .i64 k.2.1, .str k.2.2]
@[reducible] def eField (f : FieldT) : List DV := [.str f.1, .int .i64 f.2]
@[reducible] def fieldsD (r : RecT) : DV := listD 145 2 eField r
@[reducible] def eItem (x : ItemT) : List DV := [.int .i64 x.1.1, .int .i64 x.1.2.1, .str x.1.2.2, fieldsD x.2]
@[reducible] def itemsD (xs : List ItemT) : DV := listD 114 4 eItem xs
@[reducible] def eStore (s : StoreT) : List DV := [.str s.1, itemsD s.2.1, .int .i64 s.2.2]
@[reducible] def storesD (xs : List StoreT) : DV := listD 53 3 eStore xs
@[reducible] def eDef (d : DefT) : List DV := [.str d.1, .str d.2]
@[reducible] def defsD (xs : List DefT) : DV := listD 128 2 eDef xs
@[reducible] def eDb (d : DbT) : List DV := [.str d.1, .int .i64 d.2.1, storesD d.2.2.1, defsD d.2.2.2]
@[reducible] def eOp (o : OpT) : List DV := [.int .i64 o.1, .str o.2.1, .int .i64 o.2.2.1.1, .int .i64 o.2.2.1.2.1, .str o.2.2.1.2.2, fieldsD o.2.2.2.1, .str o.2.2.2.2]
@[reducible] def opsD (xs : List OpT) : DV := listD 36 7 eOp xs
@[reducible] def eTx (t : TxT) : List DV := [.int .i64 t.1, opsD t.2.1, .int .i64 t.2.2.1, .int .i64 t.2.2.2.1, storesD t.2.2.2.2]
@[reducible] def txsD (xs : List TxT) : DV := listD 132 5 eTx xs
end Go.Proofs.Ytjdpnoboedjfhaa
