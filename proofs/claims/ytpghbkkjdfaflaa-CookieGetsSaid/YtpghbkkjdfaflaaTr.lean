/- What the readings of this translation's types tell. -/
import Derived.Test.YtpghbkkjdfaflaaTy
import Derived.Test.YtpghbkkjdfaflaaOpn
set_option linter.unusedVariables false
namespace Go.Proofs.Ytpghbkkjdfaflaa
open Go.SL

abbrev Q29 : RP := PStruct 2 [(0, 1, PInt .u32), (1, 1, PStr)]
instance tst29 : TStruct Try.prog 29 := ⟨by kernel_rfl⟩
instance tr29 : Tr Try.prog 29 Q29 := tr_struct inferInstance inferInstance (.cons (j := 0) inferInstance inferInstance inferInstance (.cons (j := 1) inferInstance inferInstance inferInstance (.nil)))
abbrev Q41 : RP := PStruct 2 [(0, 1, PInt .i64), (1, 1, PStr)]
instance tst41 : TStruct Try.prog 41 := ⟨by kernel_rfl⟩
instance tr41 : Tr Try.prog 41 Q41 := tr_struct inferInstance inferInstance (.cons (j := 0) inferInstance inferInstance inferInstance (.cons (j := 1) inferInstance inferInstance inferInstance (.nil)))
abbrev Q146 : RP := PStruct 2 [(0, 1, PInt .i64), (1, 1, PStr)]
instance tst146 : TStruct Try.prog 146 := ⟨by kernel_rfl⟩
instance tr146 : Tr Try.prog 146 Q146 := tr_struct inferInstance inferInstance (.cons (j := 0) inferInstance inferInstance inferInstance (.cons (j := 1) inferInstance inferInstance inferInstance (.nil)))
abbrev Q148 : RP := PStruct 2 [(0, 1, PInt .i64), (1, 1, PInt .i64)]
instance tst148 : TStruct Try.prog 148 := ⟨by kernel_rfl⟩
instance tr148 : Tr Try.prog 148 Q148 := tr_struct inferInstance inferInstance (.cons (j := 0) inferInstance inferInstance inferInstance (.cons (j := 1) inferInstance inferInstance inferInstance (.nil)))
abbrev Q48 : RP := PStruct 15 [(0, 1, PInt .i64), (1, 1, PInt .i64), (2, 1, PInt .u32), (3, 1, PInt .i64), (4, 1, PInt .i64), (5, 1, PInt .u32), (6, 1, PStr), (7, 1, PInt .u32), (8, 1, PInt .u32), (9, 1, PInt .i64), (10, 1, PInt .i64), (11, 1, PSlice 2 (Q41)), (12, 1, PSlice 2 (Q146)), (13, 1, PSlice 2 (Q148)), (14, 1, PSlice 1 (PInt .u32))]
instance tst48 : TStruct Try.prog 48 := ⟨by kernel_rfl⟩
instance tr48 : Tr Try.prog 48 Q48 := tr_struct inferInstance inferInstance (.cons (j := 0) inferInstance inferInstance inferInstance (.cons (j := 1) inferInstance inferInstance inferInstance (.cons (j := 2) inferInstance inferInstance inferInstance (.cons (j := 3) inferInstance inferInstance inferInstance (.cons (j := 4) inferInstance inferInstance inferInstance (.cons (j := 5) inferInstance inferInstance inferInstance (.cons (j := 6) inferInstance inferInstance inferInstance (.cons (j := 7) inferInstance inferInstance inferInstance (.cons (j := 8) inferInstance inferInstance inferInstance (.cons (j := 9) inferInstance inferInstance inferInstance (.cons (j := 10) inferInstance inferInstance inferInstance (.cons (j := 11) inferInstance inferInstance inferInstance (.cons (j := 12) inferInstance inferInstance inferInstance (.cons (j := 13) inferInstance inferInstance inferInstance (.cons (j := 14) inferInstance inferInstance inferInstance (.nil))))))))))))))))
abbrev Q72 : RP := PStruct 4 [(0, 1, PInt .i64), (1, 1, PInt .i64), (2, 1, PInt .i64), (3, 1, PBool)]
instance tst72 : TStruct Try.prog 72 := ⟨by kernel_rfl⟩
instance tr72 : Tr Try.prog 72 Q72 := tr_struct inferInstance inferInstance (.cons (j := 0) inferInstance inferInstance inferInstance (.cons (j := 1) inferInstance inferInstance inferInstance (.cons (j := 2) inferInstance inferInstance inferInstance (.cons (j := 3) inferInstance inferInstance inferInstance (.nil)))))
abbrev Q74 : RP := PStruct 15 [(0, 1, PInt .u32), (1, 1, PInt .u32), (2, 1, PInt .i64), (3, 1, PInt .i64), (4, 4, Q72), (8, 1, PInt .i64), (9, 1, PInt .i64), (10, 1, PInt .i64), (11, 1, PInt .i64), (12, 1, PInt .i64), (13, 1, PInt .u32), (14, 1, PInt .i64)]
instance tst74 : TStruct Try.prog 74 := ⟨by kernel_rfl⟩
instance tr74 : Tr Try.prog 74 Q74 := tr_struct inferInstance inferInstance (.cons (j := 0) inferInstance inferInstance inferInstance (.cons (j := 1) inferInstance inferInstance inferInstance (.cons (j := 2) inferInstance inferInstance inferInstance (.cons (j := 3) inferInstance inferInstance inferInstance (.cons (j := 4) inferInstance inferInstance inferInstance (.cons (j := 5) inferInstance inferInstance inferInstance (.cons (j := 6) inferInstance inferInstance inferInstance (.cons (j := 7) inferInstance inferInstance inferInstance (.cons (j := 8) inferInstance inferInstance inferInstance (.cons (j := 9) inferInstance inferInstance inferInstance (.cons (j := 10) inferInstance inferInstance inferInstance (.cons (j := 11) inferInstance inferInstance inferInstance (.nil)))))))))))))
abbrev Q78 : RP := PStruct 4 [(0, 1, PInt .i64), (1, 1, PInt .i64), (2, 1, PInt .i64), (3, 1, PInt .i64)]
instance tst78 : TStruct Try.prog 78 := ⟨by kernel_rfl⟩
instance tr78 : Tr Try.prog 78 Q78 := tr_struct inferInstance inferInstance (.cons (j := 0) inferInstance inferInstance inferInstance (.cons (j := 1) inferInstance inferInstance inferInstance (.cons (j := 2) inferInstance inferInstance inferInstance (.cons (j := 3) inferInstance inferInstance inferInstance (.nil)))))
abbrev Q94 : RP := PStruct 16 [(0, 1, PInt .i64), (1, 1, PInt .u32), (2, 1, PInt .u32), (3, 1, PInt .u32), (4, 1, PInt .u32), (5, 1, PInt .u32), (6, 1, PInt .u32), (7, 1, PInt .i64), (8, 1, PInt .i64), (9, 1, PInt .u32), (10, 1, PInt .i64), (11, 1, PInt .i64), (12, 1, PInt .u32), (13, 1, PInt .u32), (14, 1, PStr), (15, 1, PStr)]
instance tst94 : TStruct Try.prog 94 := ⟨by kernel_rfl⟩
instance tr94 : Tr Try.prog 94 Q94 := tr_struct inferInstance inferInstance (.cons (j := 0) inferInstance inferInstance inferInstance (.cons (j := 1) inferInstance inferInstance inferInstance (.cons (j := 2) inferInstance inferInstance inferInstance (.cons (j := 3) inferInstance inferInstance inferInstance (.cons (j := 4) inferInstance inferInstance inferInstance (.cons (j := 5) inferInstance inferInstance inferInstance (.cons (j := 6) inferInstance inferInstance inferInstance (.cons (j := 7) inferInstance inferInstance inferInstance (.cons (j := 8) inferInstance inferInstance inferInstance (.cons (j := 9) inferInstance inferInstance inferInstance (.cons (j := 10) inferInstance inferInstance inferInstance (.cons (j := 11) inferInstance inferInstance inferInstance (.cons (j := 12) inferInstance inferInstance inferInstance (.cons (j := 13) inferInstance inferInstance inferInstance (.cons (j := 14) inferInstance inferInstance inferInstance (.cons (j := 15) inferInstance inferInstance inferInstance (.nil)))))))))))))))))
abbrev Q112 : RP := PStruct 4 [(0, 1, PInt .i64), (1, 1, PInt .i64), (2, 1, PInt .i64), (3, 1, PStr)]
instance tst112 : TStruct Try.prog 112 := ⟨by kernel_rfl⟩
instance tr112 : Tr Try.prog 112 Q112 := tr_struct inferInstance inferInstance (.cons (j := 0) inferInstance inferInstance inferInstance (.cons (j := 1) inferInstance inferInstance inferInstance (.cons (j := 2) inferInstance inferInstance inferInstance (.cons (j := 3) inferInstance inferInstance inferInstance (.nil)))))
abbrev Q114 : RP := PStruct 5 [(0, 1, PInt .i64), (1, 1, PInt .i64), (2, 1, PBool), (3, 1, PInt .u32), (4, 1, PStr)]
instance tst114 : TStruct Try.prog 114 := ⟨by kernel_rfl⟩
instance tr114 : Tr Try.prog 114 Q114 := tr_struct inferInstance inferInstance (.cons (j := 0) inferInstance inferInstance inferInstance (.cons (j := 1) inferInstance inferInstance inferInstance (.cons (j := 2) inferInstance inferInstance inferInstance (.cons (j := 3) inferInstance inferInstance inferInstance (.cons (j := 4) inferInstance inferInstance inferInstance (.nil))))))
abbrev Q125 : RP := PStruct 4 [(0, 1, PInt .u32), (1, 1, PInt .i64), (2, 1, PInt .i64), (3, 1, PStr)]
instance tst125 : TStruct Try.prog 125 := ⟨by kernel_rfl⟩
instance tr125 : Tr Try.prog 125 Q125 := tr_struct inferInstance inferInstance (.cons (j := 0) inferInstance inferInstance inferInstance (.cons (j := 1) inferInstance inferInstance inferInstance (.cons (j := 2) inferInstance inferInstance inferInstance (.cons (j := 3) inferInstance inferInstance inferInstance (.nil)))))
abbrev Q138 : RP := PStruct 6 [(0, 1, PInt .i64), (1, 1, PInt .u32), (2, 1, PInt .i64), (3, 1, PInt .i64), (4, 1, PInt .u32), (5, 1, PInt .i64)]
instance tst138 : TStruct Try.prog 138 := ⟨by kernel_rfl⟩
instance tr138 : Tr Try.prog 138 Q138 := tr_struct inferInstance inferInstance (.cons (j := 0) inferInstance inferInstance inferInstance (.cons (j := 1) inferInstance inferInstance inferInstance (.cons (j := 2) inferInstance inferInstance inferInstance (.cons (j := 3) inferInstance inferInstance inferInstance (.cons (j := 4) inferInstance inferInstance inferInstance (.cons (j := 5) inferInstance inferInstance inferInstance (.nil)))))))
abbrev Q150 : RP := PStruct 3 [(0, 1, PSlice 2 (Q29)), (1, 1, PSlice 1 (PInt .i64)), (2, 1, PInt .i64)]
instance tst150 : TStruct Try.prog 150 := ⟨by kernel_rfl⟩
instance tr150 : Tr Try.prog 150 Q150 := tr_struct inferInstance inferInstance (.cons (j := 0) inferInstance inferInstance inferInstance (.cons (j := 1) inferInstance inferInstance inferInstance (.cons (j := 2) inferInstance inferInstance inferInstance (.nil))))
abbrev Q154 : RP := PStruct 2 [(0, 1, PSlice 15 (Q74)), (1, 1, PInt .i64)]
instance tst154 : TStruct Try.prog 154 := ⟨by kernel_rfl⟩
instance tr154 : Tr Try.prog 154 Q154 := tr_struct inferInstance inferInstance (.cons (j := 0) inferInstance inferInstance inferInstance (.cons (j := 1) inferInstance inferInstance inferInstance (.nil)))
abbrev Q171 : RP := PStruct 1 [(0, 1, PSlice 15 (Q48))]
instance tst171 : TStruct Try.prog 171 := ⟨by kernel_rfl⟩
instance tr171 : Tr Try.prog 171 Q171 := tr_struct inferInstance inferInstance (.cons (j := 0) inferInstance inferInstance inferInstance (.nil))
abbrev Q196 : RP := PStruct 2 [(0, 1, PStr), (1, 1, PInt .i64)]
instance tst196 : TStruct Try.prog 196 := ⟨by kernel_rfl⟩
instance tr196 : Tr Try.prog 196 Q196 := tr_struct inferInstance inferInstance (.cons (j := 0) inferInstance inferInstance inferInstance (.cons (j := 1) inferInstance inferInstance inferInstance (.nil)))
abbrev Q203 : RP := PStruct 2 [(0, 1, PStr), (1, 1, PInt .i64)]
instance tst203 : TStruct Try.prog 203 := ⟨by kernel_rfl⟩
instance tr203 : Tr Try.prog 203 Q203 := tr_struct inferInstance inferInstance (.cons (j := 0) inferInstance inferInstance inferInstance (.cons (j := 1) inferInstance inferInstance inferInstance (.nil)))

end Go.Proofs.Ytpghbkkjdfaflaa
