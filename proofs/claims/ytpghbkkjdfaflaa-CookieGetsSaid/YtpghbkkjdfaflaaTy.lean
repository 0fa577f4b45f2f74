/- What the layer asks of the types and functions of this translation; each a closed fact. -/
import Derived.Test.YtpghbkkjdfaflaaVe2
import Derived.Test.YtpghbkkjdfaflaaProg
set_option linter.unusedVariables false
namespace Go.Proofs.Ytpghbkkjdfaflaa
open Go.SL

instance tc2 : TCell Try.prog 2 := ⟨fun w => by kernel_rfl, fun w => by kernel_rfl⟩
instance ts2 : TSize Try.prog 2 1 := ⟨fun w => by kernel_rfl⟩
instance ti2 : TInfo Try.prog 2 1 8 := ⟨by kernel_rfl⟩
instance tz2 : TZero Try.prog 2 (.int .i64 0) := ⟨fun w => by kernel_rfl⟩
instance te2 : TElem Try.prog 2 1 8 (.int .i64 0) := elem_of
instance tk2 : TInt Try.prog 2 .i64 := ⟨by kernel_rfl⟩
instance tc3 : TCell Try.prog 3 := ⟨fun w => by kernel_rfl, fun w => by kernel_rfl⟩
instance ts3 : TSize Try.prog 3 1 := ⟨fun w => by kernel_rfl⟩
instance ti3 : TInfo Try.prog 3 1 8 := ⟨by kernel_rfl⟩
instance tz3 : TZero Try.prog 3 (.int .i64 0) := ⟨fun w => by kernel_rfl⟩
instance te3 : TElem Try.prog 3 1 8 (.int .i64 0) := elem_of
instance tk3 : TInt Try.prog 3 .i64 := ⟨by kernel_rfl⟩
instance tc4 : TCell Try.prog 4 := ⟨fun w => by kernel_rfl, fun w => by kernel_rfl⟩
instance ts4 : TSize Try.prog 4 1 := ⟨fun w => by kernel_rfl⟩
instance ti4 : TInfo Try.prog 4 1 1 := ⟨by kernel_rfl⟩
instance tz4 : TZero Try.prog 4 (.bool false) := ⟨fun w => by kernel_rfl⟩
instance te4 : TElem Try.prog 4 1 1 (.bool false) := elem_of
instance tk4 : TBool Try.prog 4 := ⟨by kernel_rfl⟩
instance tc5 : TCell Try.prog 5 := ⟨fun w => by kernel_rfl, fun w => by kernel_rfl⟩
instance ts5 : TSize Try.prog 5 1 := ⟨fun w => by kernel_rfl⟩
instance ti5 : TInfo Try.prog 5 1 1 := ⟨by kernel_rfl⟩
instance tz5 : TZero Try.prog 5 (.int .u8 0) := ⟨fun w => by kernel_rfl⟩
instance te5 : TElem Try.prog 5 1 1 (.int .u8 0) := elem_of
instance tk5 : TInt Try.prog 5 .u8 := ⟨by kernel_rfl⟩
instance tc9 : TCell Try.prog 9 := ⟨fun w => by kernel_rfl, fun w => by kernel_rfl⟩
instance ts9 : TSize Try.prog 9 1 := ⟨fun w => by kernel_rfl⟩
instance ti9 : TInfo Try.prog 9 1 16 := ⟨by kernel_rfl⟩
instance tz9 : TZero Try.prog 9 (.string ⟨#[]⟩) := ⟨fun w => by kernel_rfl⟩
instance te9 : TElem Try.prog 9 1 16 (.string ⟨#[]⟩) := elem_of
instance tk9 : TStr Try.prog 9 := ⟨by kernel_rfl⟩
instance tc12 : TCell Try.prog 12 := ⟨fun w => by kernel_rfl, fun w => by kernel_rfl⟩
instance ts12 : TSize Try.prog 12 1 := ⟨fun w => by kernel_rfl⟩
instance ti12 : TInfo Try.prog 12 1 8 := ⟨by kernel_rfl⟩
instance tz12 : TZero Try.prog 12 (.int .u64 0) := ⟨fun w => by kernel_rfl⟩
instance te12 : TElem Try.prog 12 1 8 (.int .u64 0) := elem_of
instance tk12 : TInt Try.prog 12 .u64 := ⟨by kernel_rfl⟩
instance tg13 : TAgg Try.prog 13 2 := ⟨fun w => by kernel_rfl, fun w => by kernel_rfl⟩
instance ts13 : TSize Try.prog 13 2 := ⟨fun w => by kernel_rfl⟩
instance ti13 : TInfo Try.prog 13 2 24 := ⟨by kernel_rfl⟩
instance tz13 : TZero Try.prog 13 (.agg #[.string ⟨#[]⟩, .int .u64 0]) := ⟨fun w => by kernel_rfl⟩
instance te13 : TElem Try.prog 13 2 24 (.agg #[.string ⟨#[]⟩, .int .u64 0]) := elem_of
instance tp13 : TPl Try.prog 13 [0, 1] := ⟨trivial⟩
instance tf13_0 : TFld Try.prog 13 0 0 9 := ⟨fun a w => by kernel_rfl, by kernel_rfl⟩
instance tf13_1 : TFld Try.prog 13 1 1 12 := ⟨fun a w => by kernel_rfl, by kernel_rfl⟩
instance tc21 : TCell Try.prog 21 := ⟨fun w => by kernel_rfl, fun w => by kernel_rfl⟩
instance ts21 : TSize Try.prog 21 1 := ⟨fun w => by kernel_rfl⟩
instance ti21 : TInfo Try.prog 21 1 4 := ⟨by kernel_rfl⟩
instance tz21 : TZero Try.prog 21 (.int .i32 0) := ⟨fun w => by kernel_rfl⟩
instance te21 : TElem Try.prog 21 1 4 (.int .i32 0) := elem_of
instance tk21 : TInt Try.prog 21 .i32 := ⟨by kernel_rfl⟩
instance tc22 : TCell Try.prog 22 := ⟨fun w => by kernel_rfl, fun w => by kernel_rfl⟩
instance ts22 : TSize Try.prog 22 1 := ⟨fun w => by kernel_rfl⟩
instance ti22 : TInfo Try.prog 22 1 4 := ⟨by kernel_rfl⟩
instance tz22 : TZero Try.prog 22 (.int .u32 0) := ⟨fun w => by kernel_rfl⟩
instance te22 : TElem Try.prog 22 1 4 (.int .u32 0) := elem_of
instance tk22 : TInt Try.prog 22 .u32 := ⟨by kernel_rfl⟩
instance tg23 : TAgg Try.prog 23 2 := ⟨fun w => by kernel_rfl, fun w => by kernel_rfl⟩
instance ts23 : TSize Try.prog 23 2 := ⟨fun w => by kernel_rfl⟩
instance ti23 : TInfo Try.prog 23 2 16 := ⟨by kernel_rfl⟩
instance tz23 : TZero Try.prog 23 (.agg #[.int .i64 0, .int .i64 0]) := ⟨fun w => by kernel_rfl⟩
instance te23 : TElem Try.prog 23 2 16 (.agg #[.int .i64 0, .int .i64 0]) := elem_of
instance tk23 : TArr Try.prog 23 2 3 := ⟨by kernel_rfl⟩
instance tp23 : TPl Try.prog 23 [0, 1] := ⟨trivial⟩
instance tc25 : TCell Try.prog 25 := ⟨fun w => by kernel_rfl, fun w => by kernel_rfl⟩
instance ts25 : TSize Try.prog 25 1 := ⟨fun w => by kernel_rfl⟩
instance ti25 : TInfo Try.prog 25 1 8 := ⟨by kernel_rfl⟩
instance tz25 : TZero Try.prog 25 (.int .u64 0) := ⟨fun w => by kernel_rfl⟩
instance te25 : TElem Try.prog 25 1 8 (.int .u64 0) := elem_of
instance tk25 : TInt Try.prog 25 .u64 := ⟨by kernel_rfl⟩
instance tc26 : TCell Try.prog 26 := ⟨fun w => by kernel_rfl, fun w => by kernel_rfl⟩
instance ts26 : TSize Try.prog 26 1 := ⟨fun w => by kernel_rfl⟩
instance ti26 : TInfo Try.prog 26 1 8 := ⟨by kernel_rfl⟩
instance tz26 : TZero Try.prog 26 (.pointer none) := ⟨fun w => by kernel_rfl⟩
instance te26 : TElem Try.prog 26 1 8 (.pointer none) := elem_of
instance tk26 : TPtr Try.prog 26 123 := ⟨by kernel_rfl⟩
instance tg28 : TAgg Try.prog 28 2 := ⟨fun w => by kernel_rfl, fun w => by kernel_rfl⟩
instance ts28 : TSize Try.prog 28 2 := ⟨fun w => by kernel_rfl⟩
instance ti28 : TInfo Try.prog 28 2 24 := ⟨by kernel_rfl⟩
instance tz28 : TZero Try.prog 28 (.agg #[.int .u32 0, .string ⟨#[]⟩]) := ⟨fun w => by kernel_rfl⟩
instance te28 : TElem Try.prog 28 2 24 (.agg #[.int .u32 0, .string ⟨#[]⟩]) := elem_of
instance tp28 : TPl Try.prog 28 [0, 1] := ⟨trivial⟩
instance tf28_0 : TFld Try.prog 28 0 0 22 := ⟨fun a w => by kernel_rfl, by kernel_rfl⟩
instance tf28_1 : TFld Try.prog 28 1 1 9 := ⟨fun a w => by kernel_rfl, by kernel_rfl⟩
instance tg29 : TAgg Try.prog 29 2 := ⟨fun w => by kernel_rfl, fun w => by kernel_rfl⟩
instance ts29 : TSize Try.prog 29 2 := ⟨fun w => by kernel_rfl⟩
instance ti29 : TInfo Try.prog 29 2 24 := ⟨by kernel_rfl⟩
instance tz29 : TZero Try.prog 29 (.agg #[.int .u32 0, .string ⟨#[]⟩]) := ⟨fun w => by kernel_rfl⟩
instance te29 : TElem Try.prog 29 2 24 (.agg #[.int .u32 0, .string ⟨#[]⟩]) := elem_of
instance tp29 : TPl Try.prog 29 [0, 1] := ⟨trivial⟩
instance tf29_0 : TFld Try.prog 29 0 0 22 := ⟨fun a w => by kernel_rfl, by kernel_rfl⟩
instance tf29_1 : TFld Try.prog 29 1 1 9 := ⟨fun a w => by kernel_rfl, by kernel_rfl⟩
instance tc30 : TCell Try.prog 30 := ⟨fun w => by kernel_rfl, fun w => by kernel_rfl⟩
instance ts30 : TSize Try.prog 30 1 := ⟨fun w => by kernel_rfl⟩
instance ti30 : TInfo Try.prog 30 1 8 := ⟨by kernel_rfl⟩
instance tz30 : TZero Try.prog 30 (.int .i64 0) := ⟨fun w => by kernel_rfl⟩
instance te30 : TElem Try.prog 30 1 8 (.int .i64 0) := elem_of
instance tk30 : TInt Try.prog 30 .i64 := ⟨by kernel_rfl⟩
instance tc36 : TCell Try.prog 36 := ⟨fun w => by kernel_rfl, fun w => by kernel_rfl⟩
instance ts36 : TSize Try.prog 36 1 := ⟨fun w => by kernel_rfl⟩
instance ti36 : TInfo Try.prog 36 1 24 := ⟨by kernel_rfl⟩
instance tz36 : TZero Try.prog 36 (.slice none 0 0) := ⟨fun w => by kernel_rfl⟩
instance te36 : TElem Try.prog 36 1 24 (.slice none 0 0) := elem_of
instance tk36 : TSlc Try.prog 36 3 := ⟨by kernel_rfl⟩
instance tc37 : TCell Try.prog 37 := ⟨fun w => by kernel_rfl, fun w => by kernel_rfl⟩
instance ts37 : TSize Try.prog 37 1 := ⟨fun w => by kernel_rfl⟩
instance ti37 : TInfo Try.prog 37 1 8 := ⟨by kernel_rfl⟩
instance tz37 : TZero Try.prog 37 (.pointer none) := ⟨fun w => by kernel_rfl⟩
instance te37 : TElem Try.prog 37 1 8 (.pointer none) := elem_of
instance tk37 : TPtr Try.prog 37 138 := ⟨by kernel_rfl⟩
instance tc39 : TCell Try.prog 39 := ⟨fun w => by kernel_rfl, fun w => by kernel_rfl⟩
instance ts39 : TSize Try.prog 39 1 := ⟨fun w => by kernel_rfl⟩
instance ti39 : TInfo Try.prog 39 1 8 := ⟨by kernel_rfl⟩
instance tz39 : TZero Try.prog 39 (.int .u64 0) := ⟨fun w => by kernel_rfl⟩
instance te39 : TElem Try.prog 39 1 8 (.int .u64 0) := elem_of
instance tk39 : TInt Try.prog 39 .u64 := ⟨by kernel_rfl⟩
instance tg40 : TAgg Try.prog 40 2 := ⟨fun w => by kernel_rfl, fun w => by kernel_rfl⟩
instance ts40 : TSize Try.prog 40 2 := ⟨fun w => by kernel_rfl⟩
instance ti40 : TInfo Try.prog 40 2 24 := ⟨by kernel_rfl⟩
instance tz40 : TZero Try.prog 40 (.agg #[.int .i64 0, .string ⟨#[]⟩]) := ⟨fun w => by kernel_rfl⟩
instance te40 : TElem Try.prog 40 2 24 (.agg #[.int .i64 0, .string ⟨#[]⟩]) := elem_of
instance tp40 : TPl Try.prog 40 [0, 1] := ⟨trivial⟩
instance tf40_0 : TFld Try.prog 40 0 0 3 := ⟨fun a w => by kernel_rfl, by kernel_rfl⟩
instance tf40_1 : TFld Try.prog 40 1 1 9 := ⟨fun a w => by kernel_rfl, by kernel_rfl⟩
instance tg41 : TAgg Try.prog 41 2 := ⟨fun w => by kernel_rfl, fun w => by kernel_rfl⟩
instance ts41 : TSize Try.prog 41 2 := ⟨fun w => by kernel_rfl⟩
instance ti41 : TInfo Try.prog 41 2 24 := ⟨by kernel_rfl⟩
instance tz41 : TZero Try.prog 41 (.agg #[.int .i64 0, .string ⟨#[]⟩]) := ⟨fun w => by kernel_rfl⟩
instance te41 : TElem Try.prog 41 2 24 (.agg #[.int .i64 0, .string ⟨#[]⟩]) := elem_of
instance tp41 : TPl Try.prog 41 [0, 1] := ⟨trivial⟩
instance tf41_0 : TFld Try.prog 41 0 0 3 := ⟨fun a w => by kernel_rfl, by kernel_rfl⟩
instance tf41_1 : TFld Try.prog 41 1 1 9 := ⟨fun a w => by kernel_rfl, by kernel_rfl⟩
instance tc43 : TCell Try.prog 43 := ⟨fun w => by kernel_rfl, fun w => by kernel_rfl⟩
instance ts43 : TSize Try.prog 43 1 := ⟨fun w => by kernel_rfl⟩
instance ti43 : TInfo Try.prog 43 1 24 := ⟨by kernel_rfl⟩
instance tz43 : TZero Try.prog 43 (.slice none 0 0) := ⟨fun w => by kernel_rfl⟩
instance te43 : TElem Try.prog 43 1 24 (.slice none 0 0) := elem_of
instance tk43 : TSlc Try.prog 43 41 := ⟨by kernel_rfl⟩
instance tc44 : TCell Try.prog 44 := ⟨fun w => by kernel_rfl, fun w => by kernel_rfl⟩
instance ts44 : TSize Try.prog 44 1 := ⟨fun w => by kernel_rfl⟩
instance ti44 : TInfo Try.prog 44 1 24 := ⟨by kernel_rfl⟩
instance tz44 : TZero Try.prog 44 (.slice none 0 0) := ⟨fun w => by kernel_rfl⟩
instance te44 : TElem Try.prog 44 1 24 (.slice none 0 0) := elem_of
instance tk44 : TSlc Try.prog 44 146 := ⟨by kernel_rfl⟩
instance tc45 : TCell Try.prog 45 := ⟨fun w => by kernel_rfl, fun w => by kernel_rfl⟩
instance ts45 : TSize Try.prog 45 1 := ⟨fun w => by kernel_rfl⟩
instance ti45 : TInfo Try.prog 45 1 24 := ⟨by kernel_rfl⟩
instance tz45 : TZero Try.prog 45 (.slice none 0 0) := ⟨fun w => by kernel_rfl⟩
instance te45 : TElem Try.prog 45 1 24 (.slice none 0 0) := elem_of
instance tk45 : TSlc Try.prog 45 148 := ⟨by kernel_rfl⟩
instance tc46 : TCell Try.prog 46 := ⟨fun w => by kernel_rfl, fun w => by kernel_rfl⟩
instance ts46 : TSize Try.prog 46 1 := ⟨fun w => by kernel_rfl⟩
instance ti46 : TInfo Try.prog 46 1 24 := ⟨by kernel_rfl⟩
instance tz46 : TZero Try.prog 46 (.slice none 0 0) := ⟨fun w => by kernel_rfl⟩
instance te46 : TElem Try.prog 46 1 24 (.slice none 0 0) := elem_of
instance tk46 : TSlc Try.prog 46 22 := ⟨by kernel_rfl⟩
instance tg47 : TAgg Try.prog 47 15 := ⟨fun w => by kernel_rfl, fun w => by kernel_rfl⟩
instance ts47 : TSize Try.prog 47 15 := ⟨fun w => by kernel_rfl⟩
instance ti47 : TInfo Try.prog 47 15 184 := ⟨by kernel_rfl⟩
instance tz47 : TZero Try.prog 47 (.agg #[.int .i64 0, .int .i64 0, .int .u32 0, .int .i64 0, .int .i64 0, .int .u32 0, .string ⟨#[]⟩, .int .u32 0, .int .u32 0, .int .i64 0, .int .i64 0, .slice none 0 0, .slice none 0 0, .slice none 0 0, .slice none 0 0]) := ⟨fun w => by kernel_rfl⟩
instance te47 : TElem Try.prog 47 15 184 (.agg #[.int .i64 0, .int .i64 0, .int .u32 0, .int .i64 0, .int .i64 0, .int .u32 0, .string ⟨#[]⟩, .int .u32 0, .int .u32 0, .int .i64 0, .int .i64 0, .slice none 0 0, .slice none 0 0, .slice none 0 0, .slice none 0 0]) := elem_of
instance tp47 : TPl Try.prog 47 [0, 1, 2, 3, 4, 5, 6, 7, 8, 9, 10, 11, 12, 13, 14] := ⟨trivial⟩
instance tf47_0 : TFld Try.prog 47 0 0 3 := ⟨fun a w => by kernel_rfl, by kernel_rfl⟩
instance tf47_1 : TFld Try.prog 47 1 1 3 := ⟨fun a w => by kernel_rfl, by kernel_rfl⟩
instance tf47_2 : TFld Try.prog 47 2 2 22 := ⟨fun a w => by kernel_rfl, by kernel_rfl⟩
instance tf47_3 : TFld Try.prog 47 3 3 3 := ⟨fun a w => by kernel_rfl, by kernel_rfl⟩
instance tf47_4 : TFld Try.prog 47 4 4 3 := ⟨fun a w => by kernel_rfl, by kernel_rfl⟩
instance tf47_5 : TFld Try.prog 47 5 5 22 := ⟨fun a w => by kernel_rfl, by kernel_rfl⟩
instance tf47_6 : TFld Try.prog 47 6 6 9 := ⟨fun a w => by kernel_rfl, by kernel_rfl⟩
instance tf47_7 : TFld Try.prog 47 7 7 22 := ⟨fun a w => by kernel_rfl, by kernel_rfl⟩
instance tf47_8 : TFld Try.prog 47 8 8 22 := ⟨fun a w => by kernel_rfl, by kernel_rfl⟩
instance tf47_9 : TFld Try.prog 47 9 9 3 := ⟨fun a w => by kernel_rfl, by kernel_rfl⟩
instance tf47_10 : TFld Try.prog 47 10 10 3 := ⟨fun a w => by kernel_rfl, by kernel_rfl⟩
instance tf47_11 : TFld Try.prog 47 11 11 43 := ⟨fun a w => by kernel_rfl, by kernel_rfl⟩
instance tf47_12 : TFld Try.prog 47 12 12 44 := ⟨fun a w => by kernel_rfl, by kernel_rfl⟩
instance tf47_13 : TFld Try.prog 47 13 13 45 := ⟨fun a w => by kernel_rfl, by kernel_rfl⟩
instance tf47_14 : TFld Try.prog 47 14 14 46 := ⟨fun a w => by kernel_rfl, by kernel_rfl⟩
instance tg48 : TAgg Try.prog 48 15 := ⟨fun w => by kernel_rfl, fun w => by kernel_rfl⟩
instance ts48 : TSize Try.prog 48 15 := ⟨fun w => by kernel_rfl⟩
instance ti48 : TInfo Try.prog 48 15 184 := ⟨by kernel_rfl⟩
instance tz48 : TZero Try.prog 48 (.agg #[.int .i64 0, .int .i64 0, .int .u32 0, .int .i64 0, .int .i64 0, .int .u32 0, .string ⟨#[]⟩, .int .u32 0, .int .u32 0, .int .i64 0, .int .i64 0, .slice none 0 0, .slice none 0 0, .slice none 0 0, .slice none 0 0]) := ⟨fun w => by kernel_rfl⟩
instance te48 : TElem Try.prog 48 15 184 (.agg #[.int .i64 0, .int .i64 0, .int .u32 0, .int .i64 0, .int .i64 0, .int .u32 0, .string ⟨#[]⟩, .int .u32 0, .int .u32 0, .int .i64 0, .int .i64 0, .slice none 0 0, .slice none 0 0, .slice none 0 0, .slice none 0 0]) := elem_of
instance tp48 : TPl Try.prog 48 [0, 1, 2, 3, 4, 5, 6, 7, 8, 9, 10, 11, 12, 13, 14] := ⟨trivial⟩
instance tf48_0 : TFld Try.prog 48 0 0 3 := ⟨fun a w => by kernel_rfl, by kernel_rfl⟩
instance tf48_1 : TFld Try.prog 48 1 1 3 := ⟨fun a w => by kernel_rfl, by kernel_rfl⟩
instance tf48_2 : TFld Try.prog 48 2 2 22 := ⟨fun a w => by kernel_rfl, by kernel_rfl⟩
instance tf48_3 : TFld Try.prog 48 3 3 3 := ⟨fun a w => by kernel_rfl, by kernel_rfl⟩
instance tf48_4 : TFld Try.prog 48 4 4 3 := ⟨fun a w => by kernel_rfl, by kernel_rfl⟩
instance tf48_5 : TFld Try.prog 48 5 5 22 := ⟨fun a w => by kernel_rfl, by kernel_rfl⟩
instance tf48_6 : TFld Try.prog 48 6 6 9 := ⟨fun a w => by kernel_rfl, by kernel_rfl⟩
instance tf48_7 : TFld Try.prog 48 7 7 22 := ⟨fun a w => by kernel_rfl, by kernel_rfl⟩
instance tf48_8 : TFld Try.prog 48 8 8 22 := ⟨fun a w => by kernel_rfl, by kernel_rfl⟩
instance tf48_9 : TFld Try.prog 48 9 9 3 := ⟨fun a w => by kernel_rfl, by kernel_rfl⟩
instance tf48_10 : TFld Try.prog 48 10 10 3 := ⟨fun a w => by kernel_rfl, by kernel_rfl⟩
instance tf48_11 : TFld Try.prog 48 11 11 43 := ⟨fun a w => by kernel_rfl, by kernel_rfl⟩
instance tf48_12 : TFld Try.prog 48 12 12 44 := ⟨fun a w => by kernel_rfl, by kernel_rfl⟩
instance tf48_13 : TFld Try.prog 48 13 13 45 := ⟨fun a w => by kernel_rfl, by kernel_rfl⟩
instance tf48_14 : TFld Try.prog 48 14 14 46 := ⟨fun a w => by kernel_rfl, by kernel_rfl⟩
instance tc54 : TCell Try.prog 54 := ⟨fun w => by kernel_rfl, fun w => by kernel_rfl⟩
instance ts54 : TSize Try.prog 54 1 := ⟨fun w => by kernel_rfl⟩
instance ti54 : TInfo Try.prog 54 1 8 := ⟨by kernel_rfl⟩
instance tz54 : TZero Try.prog 54 (.pointer none) := ⟨fun w => by kernel_rfl⟩
instance te54 : TElem Try.prog 54 1 8 (.pointer none) := elem_of
instance tk54 : TPtr Try.prog 54 150 := ⟨by kernel_rfl⟩
instance tc56 : TCell Try.prog 56 := ⟨fun w => by kernel_rfl, fun w => by kernel_rfl⟩
instance ts56 : TSize Try.prog 56 1 := ⟨fun w => by kernel_rfl⟩
instance ti56 : TInfo Try.prog 56 1 24 := ⟨by kernel_rfl⟩
instance tz56 : TZero Try.prog 56 (.slice none 0 0) := ⟨fun w => by kernel_rfl⟩
instance te56 : TElem Try.prog 56 1 24 (.slice none 0 0) := elem_of
instance tk56 : TSlc Try.prog 56 5 := ⟨by kernel_rfl⟩
instance tb56 : TByt Try.prog 56 := ⟨⟨5, by kernel_rfl, by kernel_rfl⟩⟩
instance tc67 : TCell Try.prog 67 := ⟨fun w => by kernel_rfl, fun w => by kernel_rfl⟩
instance ts67 : TSize Try.prog 67 1 := ⟨fun w => by kernel_rfl⟩
instance ti67 : TInfo Try.prog 67 1 24 := ⟨by kernel_rfl⟩
instance tz67 : TZero Try.prog 67 (.slice none 0 0) := ⟨fun w => by kernel_rfl⟩
instance te67 : TElem Try.prog 67 1 24 (.slice none 0 0) := elem_of
instance tk67 : TSlc Try.prog 67 78 := ⟨by kernel_rfl⟩
instance tc68 : TCell Try.prog 68 := ⟨fun w => by kernel_rfl, fun w => by kernel_rfl⟩
instance ts68 : TSize Try.prog 68 1 := ⟨fun w => by kernel_rfl⟩
instance ti68 : TInfo Try.prog 68 1 8 := ⟨by kernel_rfl⟩
instance tz68 : TZero Try.prog 68 (.pointer none) := ⟨fun w => by kernel_rfl⟩
instance te68 : TElem Try.prog 68 1 8 (.pointer none) := elem_of
instance tk68 : TPtr Try.prog 68 154 := ⟨by kernel_rfl⟩
instance tc70 : TCell Try.prog 70 := ⟨fun w => by kernel_rfl, fun w => by kernel_rfl⟩
instance ts70 : TSize Try.prog 70 1 := ⟨fun w => by kernel_rfl⟩
instance ti70 : TInfo Try.prog 70 1 4 := ⟨by kernel_rfl⟩
instance tz70 : TZero Try.prog 70 (.int .u32 0) := ⟨fun w => by kernel_rfl⟩
instance te70 : TElem Try.prog 70 1 4 (.int .u32 0) := elem_of
instance tk70 : TInt Try.prog 70 .u32 := ⟨by kernel_rfl⟩
instance tg71 : TAgg Try.prog 71 4 := ⟨fun w => by kernel_rfl, fun w => by kernel_rfl⟩
instance ts71 : TSize Try.prog 71 4 := ⟨fun w => by kernel_rfl⟩
instance ti71 : TInfo Try.prog 71 4 32 := ⟨by kernel_rfl⟩
instance tz71 : TZero Try.prog 71 (.agg #[.int .i64 0, .int .i64 0, .int .i64 0, .bool false]) := ⟨fun w => by kernel_rfl⟩
instance te71 : TElem Try.prog 71 4 32 (.agg #[.int .i64 0, .int .i64 0, .int .i64 0, .bool false]) := elem_of
instance tp71 : TPl Try.prog 71 [0, 1, 2, 3] := ⟨trivial⟩
instance tf71_0 : TFld Try.prog 71 0 0 3 := ⟨fun a w => by kernel_rfl, by kernel_rfl⟩
instance tf71_1 : TFld Try.prog 71 1 1 3 := ⟨fun a w => by kernel_rfl, by kernel_rfl⟩
instance tf71_2 : TFld Try.prog 71 2 2 3 := ⟨fun a w => by kernel_rfl, by kernel_rfl⟩
instance tf71_3 : TFld Try.prog 71 3 3 4 := ⟨fun a w => by kernel_rfl, by kernel_rfl⟩
instance tg72 : TAgg Try.prog 72 4 := ⟨fun w => by kernel_rfl, fun w => by kernel_rfl⟩
instance ts72 : TSize Try.prog 72 4 := ⟨fun w => by kernel_rfl⟩
instance ti72 : TInfo Try.prog 72 4 32 := ⟨by kernel_rfl⟩
instance tz72 : TZero Try.prog 72 (.agg #[.int .i64 0, .int .i64 0, .int .i64 0, .bool false]) := ⟨fun w => by kernel_rfl⟩
instance te72 : TElem Try.prog 72 4 32 (.agg #[.int .i64 0, .int .i64 0, .int .i64 0, .bool false]) := elem_of
instance tp72 : TPl Try.prog 72 [0, 1, 2, 3] := ⟨trivial⟩
instance tf72_0 : TFld Try.prog 72 0 0 3 := ⟨fun a w => by kernel_rfl, by kernel_rfl⟩
instance tf72_1 : TFld Try.prog 72 1 1 3 := ⟨fun a w => by kernel_rfl, by kernel_rfl⟩
instance tf72_2 : TFld Try.prog 72 2 2 3 := ⟨fun a w => by kernel_rfl, by kernel_rfl⟩
instance tf72_3 : TFld Try.prog 72 3 3 4 := ⟨fun a w => by kernel_rfl, by kernel_rfl⟩
instance tg73 : TAgg Try.prog 73 15 := ⟨fun w => by kernel_rfl, fun w => by kernel_rfl⟩
instance ts73 : TSize Try.prog 73 15 := ⟨fun w => by kernel_rfl⟩
instance ti73 : TInfo Try.prog 73 15 112 := ⟨by kernel_rfl⟩
instance tz73 : TZero Try.prog 73 (.agg #[.int .u32 0, .int .u32 0, .int .i64 0, .int .i64 0, .int .i64 0, .int .i64 0, .int .i64 0, .bool false, .int .i64 0, .int .i64 0, .int .i64 0, .int .i64 0, .int .i64 0, .int .u32 0, .int .i64 0]) := ⟨fun w => by kernel_rfl⟩
instance te73 : TElem Try.prog 73 15 112 (.agg #[.int .u32 0, .int .u32 0, .int .i64 0, .int .i64 0, .int .i64 0, .int .i64 0, .int .i64 0, .bool false, .int .i64 0, .int .i64 0, .int .i64 0, .int .i64 0, .int .i64 0, .int .u32 0, .int .i64 0]) := elem_of
instance tp73 : TPl Try.prog 73 [0, 1, 2, 3, 4, 8, 9, 10, 11, 12, 13, 14] := ⟨trivial⟩
instance tf73_0 : TFld Try.prog 73 0 0 70 := ⟨fun a w => by kernel_rfl, by kernel_rfl⟩
instance tf73_1 : TFld Try.prog 73 1 1 70 := ⟨fun a w => by kernel_rfl, by kernel_rfl⟩
instance tf73_2 : TFld Try.prog 73 2 2 3 := ⟨fun a w => by kernel_rfl, by kernel_rfl⟩
instance tf73_3 : TFld Try.prog 73 3 3 3 := ⟨fun a w => by kernel_rfl, by kernel_rfl⟩
instance tf73_4 : TFld Try.prog 73 4 4 72 := ⟨fun a w => by kernel_rfl, by kernel_rfl⟩
instance tf73_5 : TFld Try.prog 73 5 8 3 := ⟨fun a w => by kernel_rfl, by kernel_rfl⟩
instance tf73_6 : TFld Try.prog 73 6 9 3 := ⟨fun a w => by kernel_rfl, by kernel_rfl⟩
instance tf73_7 : TFld Try.prog 73 7 10 3 := ⟨fun a w => by kernel_rfl, by kernel_rfl⟩
instance tf73_8 : TFld Try.prog 73 8 11 3 := ⟨fun a w => by kernel_rfl, by kernel_rfl⟩
instance tf73_9 : TFld Try.prog 73 9 12 3 := ⟨fun a w => by kernel_rfl, by kernel_rfl⟩
instance tf73_10 : TFld Try.prog 73 10 13 22 := ⟨fun a w => by kernel_rfl, by kernel_rfl⟩
instance tf73_11 : TFld Try.prog 73 11 14 3 := ⟨fun a w => by kernel_rfl, by kernel_rfl⟩
instance tg74 : TAgg Try.prog 74 15 := ⟨fun w => by kernel_rfl, fun w => by kernel_rfl⟩
instance ts74 : TSize Try.prog 74 15 := ⟨fun w => by kernel_rfl⟩
instance ti74 : TInfo Try.prog 74 15 112 := ⟨by kernel_rfl⟩
instance tz74 : TZero Try.prog 74 (.agg #[.int .u32 0, .int .u32 0, .int .i64 0, .int .i64 0, .int .i64 0, .int .i64 0, .int .i64 0, .bool false, .int .i64 0, .int .i64 0, .int .i64 0, .int .i64 0, .int .i64 0, .int .u32 0, .int .i64 0]) := ⟨fun w => by kernel_rfl⟩
instance te74 : TElem Try.prog 74 15 112 (.agg #[.int .u32 0, .int .u32 0, .int .i64 0, .int .i64 0, .int .i64 0, .int .i64 0, .int .i64 0, .bool false, .int .i64 0, .int .i64 0, .int .i64 0, .int .i64 0, .int .i64 0, .int .u32 0, .int .i64 0]) := elem_of
instance tp74 : TPl Try.prog 74 [0, 1, 2, 3, 4, 8, 9, 10, 11, 12, 13, 14] := ⟨trivial⟩
instance tf74_0 : TFld Try.prog 74 0 0 70 := ⟨fun a w => by kernel_rfl, by kernel_rfl⟩
instance tf74_1 : TFld Try.prog 74 1 1 70 := ⟨fun a w => by kernel_rfl, by kernel_rfl⟩
instance tf74_2 : TFld Try.prog 74 2 2 3 := ⟨fun a w => by kernel_rfl, by kernel_rfl⟩
instance tf74_3 : TFld Try.prog 74 3 3 3 := ⟨fun a w => by kernel_rfl, by kernel_rfl⟩
instance tf74_4 : TFld Try.prog 74 4 4 72 := ⟨fun a w => by kernel_rfl, by kernel_rfl⟩
instance tf74_5 : TFld Try.prog 74 5 8 3 := ⟨fun a w => by kernel_rfl, by kernel_rfl⟩
instance tf74_6 : TFld Try.prog 74 6 9 3 := ⟨fun a w => by kernel_rfl, by kernel_rfl⟩
instance tf74_7 : TFld Try.prog 74 7 10 3 := ⟨fun a w => by kernel_rfl, by kernel_rfl⟩
instance tf74_8 : TFld Try.prog 74 8 11 3 := ⟨fun a w => by kernel_rfl, by kernel_rfl⟩
instance tf74_9 : TFld Try.prog 74 9 12 3 := ⟨fun a w => by kernel_rfl, by kernel_rfl⟩
instance tf74_10 : TFld Try.prog 74 10 13 22 := ⟨fun a w => by kernel_rfl, by kernel_rfl⟩
instance tf74_11 : TFld Try.prog 74 11 14 3 := ⟨fun a w => by kernel_rfl, by kernel_rfl⟩
instance tc76 : TCell Try.prog 76 := ⟨fun w => by kernel_rfl, fun w => by kernel_rfl⟩
instance ts76 : TSize Try.prog 76 1 := ⟨fun w => by kernel_rfl⟩
instance ti76 : TInfo Try.prog 76 1 24 := ⟨by kernel_rfl⟩
instance tz76 : TZero Try.prog 76 (.slice none 0 0) := ⟨fun w => by kernel_rfl⟩
instance te76 : TElem Try.prog 76 1 24 (.slice none 0 0) := elem_of
instance tk76 : TSlc Try.prog 76 74 := ⟨by kernel_rfl⟩
instance tg77 : TAgg Try.prog 77 4 := ⟨fun w => by kernel_rfl, fun w => by kernel_rfl⟩
instance ts77 : TSize Try.prog 77 4 := ⟨fun w => by kernel_rfl⟩
instance ti77 : TInfo Try.prog 77 4 32 := ⟨by kernel_rfl⟩
instance tz77 : TZero Try.prog 77 (.agg #[.int .i64 0, .int .i64 0, .int .i64 0, .int .i64 0]) := ⟨fun w => by kernel_rfl⟩
instance te77 : TElem Try.prog 77 4 32 (.agg #[.int .i64 0, .int .i64 0, .int .i64 0, .int .i64 0]) := elem_of
instance tp77 : TPl Try.prog 77 [0, 1, 2, 3] := ⟨trivial⟩
instance tf77_0 : TFld Try.prog 77 0 0 3 := ⟨fun a w => by kernel_rfl, by kernel_rfl⟩
instance tf77_1 : TFld Try.prog 77 1 1 3 := ⟨fun a w => by kernel_rfl, by kernel_rfl⟩
instance tf77_2 : TFld Try.prog 77 2 2 3 := ⟨fun a w => by kernel_rfl, by kernel_rfl⟩
instance tf77_3 : TFld Try.prog 77 3 3 3 := ⟨fun a w => by kernel_rfl, by kernel_rfl⟩
instance tg78 : TAgg Try.prog 78 4 := ⟨fun w => by kernel_rfl, fun w => by kernel_rfl⟩
instance ts78 : TSize Try.prog 78 4 := ⟨fun w => by kernel_rfl⟩
instance ti78 : TInfo Try.prog 78 4 32 := ⟨by kernel_rfl⟩
instance tz78 : TZero Try.prog 78 (.agg #[.int .i64 0, .int .i64 0, .int .i64 0, .int .i64 0]) := ⟨fun w => by kernel_rfl⟩
instance te78 : TElem Try.prog 78 4 32 (.agg #[.int .i64 0, .int .i64 0, .int .i64 0, .int .i64 0]) := elem_of
instance tp78 : TPl Try.prog 78 [0, 1, 2, 3] := ⟨trivial⟩
instance tf78_0 : TFld Try.prog 78 0 0 3 := ⟨fun a w => by kernel_rfl, by kernel_rfl⟩
instance tf78_1 : TFld Try.prog 78 1 1 3 := ⟨fun a w => by kernel_rfl, by kernel_rfl⟩
instance tf78_2 : TFld Try.prog 78 2 2 3 := ⟨fun a w => by kernel_rfl, by kernel_rfl⟩
instance tf78_3 : TFld Try.prog 78 3 3 3 := ⟨fun a w => by kernel_rfl, by kernel_rfl⟩
instance tc86 : TCell Try.prog 86 := ⟨fun w => by kernel_rfl, fun w => by kernel_rfl⟩
instance ts86 : TSize Try.prog 86 1 := ⟨fun w => by kernel_rfl⟩
instance ti86 : TInfo Try.prog 86 1 24 := ⟨by kernel_rfl⟩
instance tz86 : TZero Try.prog 86 (.slice none 0 0) := ⟨fun w => by kernel_rfl⟩
instance te86 : TElem Try.prog 86 1 24 (.slice none 0 0) := elem_of
instance tk86 : TSlc Try.prog 86 9 := ⟨by kernel_rfl⟩
instance tc87 : TCell Try.prog 87 := ⟨fun w => by kernel_rfl, fun w => by kernel_rfl⟩
instance ts87 : TSize Try.prog 87 1 := ⟨fun w => by kernel_rfl⟩
instance ti87 : TInfo Try.prog 87 1 24 := ⟨by kernel_rfl⟩
instance tz87 : TZero Try.prog 87 (.slice none 0 0) := ⟨fun w => by kernel_rfl⟩
instance te87 : TElem Try.prog 87 1 24 (.slice none 0 0) := elem_of
instance tk87 : TSlc Try.prog 87 29 := ⟨by kernel_rfl⟩
instance tg93 : TAgg Try.prog 93 16 := ⟨fun w => by kernel_rfl, fun w => by kernel_rfl⟩
instance ts93 : TSize Try.prog 93 16 := ⟨fun w => by kernel_rfl⟩
instance ti93 : TInfo Try.prog 93 16 112 := ⟨by kernel_rfl⟩
instance tz93 : TZero Try.prog 93 (.agg #[.int .i64 0, .int .u32 0, .int .u32 0, .int .u32 0, .int .u32 0, .int .u32 0, .int .u32 0, .int .i64 0, .int .i64 0, .int .u32 0, .int .i64 0, .int .i64 0, .int .u32 0, .int .u32 0, .string ⟨#[]⟩, .string ⟨#[]⟩]) := ⟨fun w => by kernel_rfl⟩
instance te93 : TElem Try.prog 93 16 112 (.agg #[.int .i64 0, .int .u32 0, .int .u32 0, .int .u32 0, .int .u32 0, .int .u32 0, .int .u32 0, .int .i64 0, .int .i64 0, .int .u32 0, .int .i64 0, .int .i64 0, .int .u32 0, .int .u32 0, .string ⟨#[]⟩, .string ⟨#[]⟩]) := elem_of
instance tp93 : TPl Try.prog 93 [0, 1, 2, 3, 4, 5, 6, 7, 8, 9, 10, 11, 12, 13, 14, 15] := ⟨trivial⟩
instance tf93_0 : TFld Try.prog 93 0 0 3 := ⟨fun a w => by kernel_rfl, by kernel_rfl⟩
instance tf93_1 : TFld Try.prog 93 1 1 22 := ⟨fun a w => by kernel_rfl, by kernel_rfl⟩
instance tf93_2 : TFld Try.prog 93 2 2 22 := ⟨fun a w => by kernel_rfl, by kernel_rfl⟩
instance tf93_3 : TFld Try.prog 93 3 3 22 := ⟨fun a w => by kernel_rfl, by kernel_rfl⟩
instance tf93_4 : TFld Try.prog 93 4 4 22 := ⟨fun a w => by kernel_rfl, by kernel_rfl⟩
instance tf93_5 : TFld Try.prog 93 5 5 70 := ⟨fun a w => by kernel_rfl, by kernel_rfl⟩
instance tf93_6 : TFld Try.prog 93 6 6 70 := ⟨fun a w => by kernel_rfl, by kernel_rfl⟩
instance tf93_7 : TFld Try.prog 93 7 7 3 := ⟨fun a w => by kernel_rfl, by kernel_rfl⟩
instance tf93_8 : TFld Try.prog 93 8 8 3 := ⟨fun a w => by kernel_rfl, by kernel_rfl⟩
instance tf93_9 : TFld Try.prog 93 9 9 22 := ⟨fun a w => by kernel_rfl, by kernel_rfl⟩
instance tf93_10 : TFld Try.prog 93 10 10 3 := ⟨fun a w => by kernel_rfl, by kernel_rfl⟩
instance tf93_11 : TFld Try.prog 93 11 11 3 := ⟨fun a w => by kernel_rfl, by kernel_rfl⟩
instance tf93_12 : TFld Try.prog 93 12 12 22 := ⟨fun a w => by kernel_rfl, by kernel_rfl⟩
instance tf93_13 : TFld Try.prog 93 13 13 22 := ⟨fun a w => by kernel_rfl, by kernel_rfl⟩
instance tf93_14 : TFld Try.prog 93 14 14 9 := ⟨fun a w => by kernel_rfl, by kernel_rfl⟩
instance tf93_15 : TFld Try.prog 93 15 15 9 := ⟨fun a w => by kernel_rfl, by kernel_rfl⟩
instance tg94 : TAgg Try.prog 94 16 := ⟨fun w => by kernel_rfl, fun w => by kernel_rfl⟩
instance ts94 : TSize Try.prog 94 16 := ⟨fun w => by kernel_rfl⟩
instance ti94 : TInfo Try.prog 94 16 112 := ⟨by kernel_rfl⟩
instance tz94 : TZero Try.prog 94 (.agg #[.int .i64 0, .int .u32 0, .int .u32 0, .int .u32 0, .int .u32 0, .int .u32 0, .int .u32 0, .int .i64 0, .int .i64 0, .int .u32 0, .int .i64 0, .int .i64 0, .int .u32 0, .int .u32 0, .string ⟨#[]⟩, .string ⟨#[]⟩]) := ⟨fun w => by kernel_rfl⟩
instance te94 : TElem Try.prog 94 16 112 (.agg #[.int .i64 0, .int .u32 0, .int .u32 0, .int .u32 0, .int .u32 0, .int .u32 0, .int .u32 0, .int .i64 0, .int .i64 0, .int .u32 0, .int .i64 0, .int .i64 0, .int .u32 0, .int .u32 0, .string ⟨#[]⟩, .string ⟨#[]⟩]) := elem_of
instance tp94 : TPl Try.prog 94 [0, 1, 2, 3, 4, 5, 6, 7, 8, 9, 10, 11, 12, 13, 14, 15] := ⟨trivial⟩
instance tf94_0 : TFld Try.prog 94 0 0 3 := ⟨fun a w => by kernel_rfl, by kernel_rfl⟩
instance tf94_1 : TFld Try.prog 94 1 1 22 := ⟨fun a w => by kernel_rfl, by kernel_rfl⟩
instance tf94_2 : TFld Try.prog 94 2 2 22 := ⟨fun a w => by kernel_rfl, by kernel_rfl⟩
instance tf94_3 : TFld Try.prog 94 3 3 22 := ⟨fun a w => by kernel_rfl, by kernel_rfl⟩
instance tf94_4 : TFld Try.prog 94 4 4 22 := ⟨fun a w => by kernel_rfl, by kernel_rfl⟩
instance tf94_5 : TFld Try.prog 94 5 5 70 := ⟨fun a w => by kernel_rfl, by kernel_rfl⟩
instance tf94_6 : TFld Try.prog 94 6 6 70 := ⟨fun a w => by kernel_rfl, by kernel_rfl⟩
instance tf94_7 : TFld Try.prog 94 7 7 3 := ⟨fun a w => by kernel_rfl, by kernel_rfl⟩
instance tf94_8 : TFld Try.prog 94 8 8 3 := ⟨fun a w => by kernel_rfl, by kernel_rfl⟩
instance tf94_9 : TFld Try.prog 94 9 9 22 := ⟨fun a w => by kernel_rfl, by kernel_rfl⟩
instance tf94_10 : TFld Try.prog 94 10 10 3 := ⟨fun a w => by kernel_rfl, by kernel_rfl⟩
instance tf94_11 : TFld Try.prog 94 11 11 3 := ⟨fun a w => by kernel_rfl, by kernel_rfl⟩
instance tf94_12 : TFld Try.prog 94 12 12 22 := ⟨fun a w => by kernel_rfl, by kernel_rfl⟩
instance tf94_13 : TFld Try.prog 94 13 13 22 := ⟨fun a w => by kernel_rfl, by kernel_rfl⟩
instance tf94_14 : TFld Try.prog 94 14 14 9 := ⟨fun a w => by kernel_rfl, by kernel_rfl⟩
instance tf94_15 : TFld Try.prog 94 15 15 9 := ⟨fun a w => by kernel_rfl, by kernel_rfl⟩
instance tg104 : TAgg Try.prog 104 2 := ⟨fun w => by kernel_rfl, fun w => by kernel_rfl⟩
instance ts104 : TSize Try.prog 104 2 := ⟨fun w => by kernel_rfl⟩
instance ti104 : TInfo Try.prog 104 2 2 := ⟨by kernel_rfl⟩
instance tz104 : TZero Try.prog 104 (.agg #[.int .u8 0, .int .u8 0]) := ⟨fun w => by kernel_rfl⟩
instance te104 : TElem Try.prog 104 2 2 (.agg #[.int .u8 0, .int .u8 0]) := elem_of
instance tk104 : TArr Try.prog 104 2 5 := ⟨by kernel_rfl⟩
instance tp104 : TPl Try.prog 104 [0, 1] := ⟨trivial⟩
instance tc106 : TCell Try.prog 106 := ⟨fun w => by kernel_rfl, fun w => by kernel_rfl⟩
instance ts106 : TSize Try.prog 106 1 := ⟨fun w => by kernel_rfl⟩
instance ti106 : TInfo Try.prog 106 1 24 := ⟨by kernel_rfl⟩
instance tz106 : TZero Try.prog 106 (.slice none 0 0) := ⟨fun w => by kernel_rfl⟩
instance te106 : TElem Try.prog 106 1 24 (.slice none 0 0) := elem_of
instance tk106 : TSlc Try.prog 106 112 := ⟨by kernel_rfl⟩
instance tc107 : TCell Try.prog 107 := ⟨fun w => by kernel_rfl, fun w => by kernel_rfl⟩
instance ts107 : TSize Try.prog 107 1 := ⟨fun w => by kernel_rfl⟩
instance ti107 : TInfo Try.prog 107 1 8 := ⟨by kernel_rfl⟩
instance tz107 : TZero Try.prog 107 (.pointer none) := ⟨fun w => by kernel_rfl⟩
instance te107 : TElem Try.prog 107 1 8 (.pointer none) := elem_of
instance tk107 : TPtr Try.prog 107 171 := ⟨by kernel_rfl⟩
instance tc109 : TCell Try.prog 109 := ⟨fun w => by kernel_rfl, fun w => by kernel_rfl⟩
instance ts109 : TSize Try.prog 109 1 := ⟨fun w => by kernel_rfl⟩
instance ti109 : TInfo Try.prog 109 1 24 := ⟨by kernel_rfl⟩
instance tz109 : TZero Try.prog 109 (.slice none 0 0) := ⟨fun w => by kernel_rfl⟩
instance te109 : TElem Try.prog 109 1 24 (.slice none 0 0) := elem_of
instance tk109 : TSlc Try.prog 109 48 := ⟨by kernel_rfl⟩
instance tc110 : TCell Try.prog 110 := ⟨fun w => by kernel_rfl, fun w => by kernel_rfl⟩
instance ts110 : TSize Try.prog 110 1 := ⟨fun w => by kernel_rfl⟩
instance ti110 : TInfo Try.prog 110 1 24 := ⟨by kernel_rfl⟩
instance tz110 : TZero Try.prog 110 (.slice none 0 0) := ⟨fun w => by kernel_rfl⟩
instance te110 : TElem Try.prog 110 1 24 (.slice none 0 0) := elem_of
instance tk110 : TSlc Try.prog 110 4 := ⟨by kernel_rfl⟩
instance tg111 : TAgg Try.prog 111 4 := ⟨fun w => by kernel_rfl, fun w => by kernel_rfl⟩
instance ts111 : TSize Try.prog 111 4 := ⟨fun w => by kernel_rfl⟩
instance ti111 : TInfo Try.prog 111 4 40 := ⟨by kernel_rfl⟩
instance tz111 : TZero Try.prog 111 (.agg #[.int .i64 0, .int .i64 0, .int .i64 0, .string ⟨#[]⟩]) := ⟨fun w => by kernel_rfl⟩
instance te111 : TElem Try.prog 111 4 40 (.agg #[.int .i64 0, .int .i64 0, .int .i64 0, .string ⟨#[]⟩]) := elem_of
instance tp111 : TPl Try.prog 111 [0, 1, 2, 3] := ⟨trivial⟩
instance tf111_0 : TFld Try.prog 111 0 0 3 := ⟨fun a w => by kernel_rfl, by kernel_rfl⟩
instance tf111_1 : TFld Try.prog 111 1 1 3 := ⟨fun a w => by kernel_rfl, by kernel_rfl⟩
instance tf111_2 : TFld Try.prog 111 2 2 3 := ⟨fun a w => by kernel_rfl, by kernel_rfl⟩
instance tf111_3 : TFld Try.prog 111 3 3 9 := ⟨fun a w => by kernel_rfl, by kernel_rfl⟩
instance tg112 : TAgg Try.prog 112 4 := ⟨fun w => by kernel_rfl, fun w => by kernel_rfl⟩
instance ts112 : TSize Try.prog 112 4 := ⟨fun w => by kernel_rfl⟩
instance ti112 : TInfo Try.prog 112 4 40 := ⟨by kernel_rfl⟩
instance tz112 : TZero Try.prog 112 (.agg #[.int .i64 0, .int .i64 0, .int .i64 0, .string ⟨#[]⟩]) := ⟨fun w => by kernel_rfl⟩
instance te112 : TElem Try.prog 112 4 40 (.agg #[.int .i64 0, .int .i64 0, .int .i64 0, .string ⟨#[]⟩]) := elem_of
instance tp112 : TPl Try.prog 112 [0, 1, 2, 3] := ⟨trivial⟩
instance tf112_0 : TFld Try.prog 112 0 0 3 := ⟨fun a w => by kernel_rfl, by kernel_rfl⟩
instance tf112_1 : TFld Try.prog 112 1 1 3 := ⟨fun a w => by kernel_rfl, by kernel_rfl⟩
instance tf112_2 : TFld Try.prog 112 2 2 3 := ⟨fun a w => by kernel_rfl, by kernel_rfl⟩
instance tf112_3 : TFld Try.prog 112 3 3 9 := ⟨fun a w => by kernel_rfl, by kernel_rfl⟩
instance tg113 : TAgg Try.prog 113 5 := ⟨fun w => by kernel_rfl, fun w => by kernel_rfl⟩
instance ts113 : TSize Try.prog 113 5 := ⟨fun w => by kernel_rfl⟩
instance ti113 : TInfo Try.prog 113 5 40 := ⟨by kernel_rfl⟩
instance tz113 : TZero Try.prog 113 (.agg #[.int .i64 0, .int .i64 0, .bool false, .int .u32 0, .string ⟨#[]⟩]) := ⟨fun w => by kernel_rfl⟩
instance te113 : TElem Try.prog 113 5 40 (.agg #[.int .i64 0, .int .i64 0, .bool false, .int .u32 0, .string ⟨#[]⟩]) := elem_of
instance tp113 : TPl Try.prog 113 [0, 1, 2, 3, 4] := ⟨trivial⟩
instance tf113_0 : TFld Try.prog 113 0 0 3 := ⟨fun a w => by kernel_rfl, by kernel_rfl⟩
instance tf113_1 : TFld Try.prog 113 1 1 3 := ⟨fun a w => by kernel_rfl, by kernel_rfl⟩
instance tf113_2 : TFld Try.prog 113 2 2 4 := ⟨fun a w => by kernel_rfl, by kernel_rfl⟩
instance tf113_3 : TFld Try.prog 113 3 3 22 := ⟨fun a w => by kernel_rfl, by kernel_rfl⟩
instance tf113_4 : TFld Try.prog 113 4 4 9 := ⟨fun a w => by kernel_rfl, by kernel_rfl⟩
instance tg114 : TAgg Try.prog 114 5 := ⟨fun w => by kernel_rfl, fun w => by kernel_rfl⟩
instance ts114 : TSize Try.prog 114 5 := ⟨fun w => by kernel_rfl⟩
instance ti114 : TInfo Try.prog 114 5 40 := ⟨by kernel_rfl⟩
instance tz114 : TZero Try.prog 114 (.agg #[.int .i64 0, .int .i64 0, .bool false, .int .u32 0, .string ⟨#[]⟩]) := ⟨fun w => by kernel_rfl⟩
instance te114 : TElem Try.prog 114 5 40 (.agg #[.int .i64 0, .int .i64 0, .bool false, .int .u32 0, .string ⟨#[]⟩]) := elem_of
instance tp114 : TPl Try.prog 114 [0, 1, 2, 3, 4] := ⟨trivial⟩
instance tf114_0 : TFld Try.prog 114 0 0 3 := ⟨fun a w => by kernel_rfl, by kernel_rfl⟩
instance tf114_1 : TFld Try.prog 114 1 1 3 := ⟨fun a w => by kernel_rfl, by kernel_rfl⟩
instance tf114_2 : TFld Try.prog 114 2 2 4 := ⟨fun a w => by kernel_rfl, by kernel_rfl⟩
instance tf114_3 : TFld Try.prog 114 3 3 22 := ⟨fun a w => by kernel_rfl, by kernel_rfl⟩
instance tf114_4 : TFld Try.prog 114 4 4 9 := ⟨fun a w => by kernel_rfl, by kernel_rfl⟩
instance tc121 : TCell Try.prog 121 := ⟨fun w => by kernel_rfl, fun w => by kernel_rfl⟩
instance ts121 : TSize Try.prog 121 1 := ⟨fun w => by kernel_rfl⟩
instance ti121 : TInfo Try.prog 121 1 24 := ⟨by kernel_rfl⟩
instance tz121 : TZero Try.prog 121 (.slice none 0 0) := ⟨fun w => by kernel_rfl⟩
instance te121 : TElem Try.prog 121 1 24 (.slice none 0 0) := elem_of
instance tk121 : TSlc Try.prog 121 129 := ⟨by kernel_rfl⟩
instance tg122 : TAgg Try.prog 122 1 := ⟨fun w => by kernel_rfl, fun w => by kernel_rfl⟩
instance ts122 : TSize Try.prog 122 1 := ⟨fun w => by kernel_rfl⟩
instance ti122 : TInfo Try.prog 122 1 24 := ⟨by kernel_rfl⟩
instance tz122 : TZero Try.prog 122 (.agg #[.slice none 0 0]) := ⟨fun w => by kernel_rfl⟩
instance te122 : TElem Try.prog 122 1 24 (.agg #[.slice none 0 0]) := elem_of
instance tp122 : TPl Try.prog 122 [0] := ⟨trivial⟩
instance tf122_0 : TFld Try.prog 122 0 0 121 := ⟨fun a w => by kernel_rfl, by kernel_rfl⟩
instance tg123 : TAgg Try.prog 123 1 := ⟨fun w => by kernel_rfl, fun w => by kernel_rfl⟩
instance ts123 : TSize Try.prog 123 1 := ⟨fun w => by kernel_rfl⟩
instance ti123 : TInfo Try.prog 123 1 24 := ⟨by kernel_rfl⟩
instance tz123 : TZero Try.prog 123 (.agg #[.slice none 0 0]) := ⟨fun w => by kernel_rfl⟩
instance te123 : TElem Try.prog 123 1 24 (.agg #[.slice none 0 0]) := elem_of
instance tp123 : TPl Try.prog 123 [0] := ⟨trivial⟩
instance tf123_0 : TFld Try.prog 123 0 0 121 := ⟨fun a w => by kernel_rfl, by kernel_rfl⟩
instance tg124 : TAgg Try.prog 124 4 := ⟨fun w => by kernel_rfl, fun w => by kernel_rfl⟩
instance ts124 : TSize Try.prog 124 4 := ⟨fun w => by kernel_rfl⟩
instance ti124 : TInfo Try.prog 124 4 40 := ⟨by kernel_rfl⟩
instance tz124 : TZero Try.prog 124 (.agg #[.int .u32 0, .int .i64 0, .int .i64 0, .string ⟨#[]⟩]) := ⟨fun w => by kernel_rfl⟩
instance te124 : TElem Try.prog 124 4 40 (.agg #[.int .u32 0, .int .i64 0, .int .i64 0, .string ⟨#[]⟩]) := elem_of
instance tp124 : TPl Try.prog 124 [0, 1, 2, 3] := ⟨trivial⟩
instance tf124_0 : TFld Try.prog 124 0 0 22 := ⟨fun a w => by kernel_rfl, by kernel_rfl⟩
instance tf124_1 : TFld Try.prog 124 1 1 3 := ⟨fun a w => by kernel_rfl, by kernel_rfl⟩
instance tf124_2 : TFld Try.prog 124 2 2 3 := ⟨fun a w => by kernel_rfl, by kernel_rfl⟩
instance tf124_3 : TFld Try.prog 124 3 3 9 := ⟨fun a w => by kernel_rfl, by kernel_rfl⟩
instance tg125 : TAgg Try.prog 125 4 := ⟨fun w => by kernel_rfl, fun w => by kernel_rfl⟩
instance ts125 : TSize Try.prog 125 4 := ⟨fun w => by kernel_rfl⟩
instance ti125 : TInfo Try.prog 125 4 40 := ⟨by kernel_rfl⟩
instance tz125 : TZero Try.prog 125 (.agg #[.int .u32 0, .int .i64 0, .int .i64 0, .string ⟨#[]⟩]) := ⟨fun w => by kernel_rfl⟩
instance te125 : TElem Try.prog 125 4 40 (.agg #[.int .u32 0, .int .i64 0, .int .i64 0, .string ⟨#[]⟩]) := elem_of
instance tp125 : TPl Try.prog 125 [0, 1, 2, 3] := ⟨trivial⟩
instance tf125_0 : TFld Try.prog 125 0 0 22 := ⟨fun a w => by kernel_rfl, by kernel_rfl⟩
instance tf125_1 : TFld Try.prog 125 1 1 3 := ⟨fun a w => by kernel_rfl, by kernel_rfl⟩
instance tf125_2 : TFld Try.prog 125 2 2 3 := ⟨fun a w => by kernel_rfl, by kernel_rfl⟩
instance tf125_3 : TFld Try.prog 125 3 3 9 := ⟨fun a w => by kernel_rfl, by kernel_rfl⟩
instance tc129 : TCell Try.prog 129 := ⟨fun w => by kernel_rfl, fun w => by kernel_rfl⟩
instance ts129 : TSize Try.prog 129 1 := ⟨fun w => by kernel_rfl⟩
instance ti129 : TInfo Try.prog 129 1 8 := ⟨by kernel_rfl⟩
instance tz129 : TZero Try.prog 129 (.pointer none) := ⟨fun w => by kernel_rfl⟩
instance te129 : TElem Try.prog 129 1 8 (.pointer none) := elem_of
instance tk129 : TPtr Try.prog 129 133 := ⟨by kernel_rfl⟩
instance tc131 : TCell Try.prog 131 := ⟨fun w => by kernel_rfl, fun w => by kernel_rfl⟩
instance ts131 : TSize Try.prog 131 1 := ⟨fun w => by kernel_rfl⟩
instance ti131 : TInfo Try.prog 131 1 8 := ⟨by kernel_rfl⟩
instance tz131 : TZero Try.prog 131 (.map none) := ⟨fun w => by kernel_rfl⟩
instance te131 : TElem Try.prog 131 1 8 (.map none) := elem_of
instance tk131 : TMap Try.prog 131 3 9 := ⟨by kernel_rfl⟩
instance tg132 : TAgg Try.prog 132 3 := ⟨fun w => by kernel_rfl, fun w => by kernel_rfl⟩
instance ts132 : TSize Try.prog 132 3 := ⟨fun w => by kernel_rfl⟩
instance ti132 : TInfo Try.prog 132 3 24 := ⟨by kernel_rfl⟩
instance tz132 : TZero Try.prog 132 (.agg #[.int .u32 0, .int .i64 0, .map none]) := ⟨fun w => by kernel_rfl⟩
instance te132 : TElem Try.prog 132 3 24 (.agg #[.int .u32 0, .int .i64 0, .map none]) := elem_of
instance tp132 : TPl Try.prog 132 [0, 1, 2] := ⟨trivial⟩
instance tf132_0 : TFld Try.prog 132 0 0 22 := ⟨fun a w => by kernel_rfl, by kernel_rfl⟩
instance tf132_1 : TFld Try.prog 132 1 1 3 := ⟨fun a w => by kernel_rfl, by kernel_rfl⟩
instance tf132_2 : TFld Try.prog 132 2 2 131 := ⟨fun a w => by kernel_rfl, by kernel_rfl⟩
instance tg133 : TAgg Try.prog 133 3 := ⟨fun w => by kernel_rfl, fun w => by kernel_rfl⟩
instance ts133 : TSize Try.prog 133 3 := ⟨fun w => by kernel_rfl⟩
instance ti133 : TInfo Try.prog 133 3 24 := ⟨by kernel_rfl⟩
instance tz133 : TZero Try.prog 133 (.agg #[.int .u32 0, .int .i64 0, .map none]) := ⟨fun w => by kernel_rfl⟩
instance te133 : TElem Try.prog 133 3 24 (.agg #[.int .u32 0, .int .i64 0, .map none]) := elem_of
instance tp133 : TPl Try.prog 133 [0, 1, 2] := ⟨trivial⟩
instance tf133_0 : TFld Try.prog 133 0 0 22 := ⟨fun a w => by kernel_rfl, by kernel_rfl⟩
instance tf133_1 : TFld Try.prog 133 1 1 3 := ⟨fun a w => by kernel_rfl, by kernel_rfl⟩
instance tf133_2 : TFld Try.prog 133 2 2 131 := ⟨fun a w => by kernel_rfl, by kernel_rfl⟩
instance tg137 : TAgg Try.prog 137 6 := ⟨fun w => by kernel_rfl, fun w => by kernel_rfl⟩
instance ts137 : TSize Try.prog 137 6 := ⟨fun w => by kernel_rfl⟩
instance ti137 : TInfo Try.prog 137 6 48 := ⟨by kernel_rfl⟩
instance tz137 : TZero Try.prog 137 (.agg #[.int .i64 0, .int .u32 0, .int .i64 0, .int .i64 0, .int .u32 0, .int .i64 0]) := ⟨fun w => by kernel_rfl⟩
instance te137 : TElem Try.prog 137 6 48 (.agg #[.int .i64 0, .int .u32 0, .int .i64 0, .int .i64 0, .int .u32 0, .int .i64 0]) := elem_of
instance tp137 : TPl Try.prog 137 [0, 1, 2, 3, 4, 5] := ⟨trivial⟩
instance tf137_0 : TFld Try.prog 137 0 0 3 := ⟨fun a w => by kernel_rfl, by kernel_rfl⟩
instance tf137_1 : TFld Try.prog 137 1 1 22 := ⟨fun a w => by kernel_rfl, by kernel_rfl⟩
instance tf137_2 : TFld Try.prog 137 2 2 3 := ⟨fun a w => by kernel_rfl, by kernel_rfl⟩
instance tf137_3 : TFld Try.prog 137 3 3 3 := ⟨fun a w => by kernel_rfl, by kernel_rfl⟩
instance tf137_4 : TFld Try.prog 137 4 4 22 := ⟨fun a w => by kernel_rfl, by kernel_rfl⟩
instance tf137_5 : TFld Try.prog 137 5 5 3 := ⟨fun a w => by kernel_rfl, by kernel_rfl⟩
instance tg138 : TAgg Try.prog 138 6 := ⟨fun w => by kernel_rfl, fun w => by kernel_rfl⟩
instance ts138 : TSize Try.prog 138 6 := ⟨fun w => by kernel_rfl⟩
instance ti138 : TInfo Try.prog 138 6 48 := ⟨by kernel_rfl⟩
instance tz138 : TZero Try.prog 138 (.agg #[.int .i64 0, .int .u32 0, .int .i64 0, .int .i64 0, .int .u32 0, .int .i64 0]) := ⟨fun w => by kernel_rfl⟩
instance te138 : TElem Try.prog 138 6 48 (.agg #[.int .i64 0, .int .u32 0, .int .i64 0, .int .i64 0, .int .u32 0, .int .i64 0]) := elem_of
instance tp138 : TPl Try.prog 138 [0, 1, 2, 3, 4, 5] := ⟨trivial⟩
instance tf138_0 : TFld Try.prog 138 0 0 3 := ⟨fun a w => by kernel_rfl, by kernel_rfl⟩
instance tf138_1 : TFld Try.prog 138 1 1 22 := ⟨fun a w => by kernel_rfl, by kernel_rfl⟩
instance tf138_2 : TFld Try.prog 138 2 2 3 := ⟨fun a w => by kernel_rfl, by kernel_rfl⟩
instance tf138_3 : TFld Try.prog 138 3 3 3 := ⟨fun a w => by kernel_rfl, by kernel_rfl⟩
instance tf138_4 : TFld Try.prog 138 4 4 22 := ⟨fun a w => by kernel_rfl, by kernel_rfl⟩
instance tf138_5 : TFld Try.prog 138 5 5 3 := ⟨fun a w => by kernel_rfl, by kernel_rfl⟩
instance tg145 : TAgg Try.prog 145 2 := ⟨fun w => by kernel_rfl, fun w => by kernel_rfl⟩
instance ts145 : TSize Try.prog 145 2 := ⟨fun w => by kernel_rfl⟩
instance ti145 : TInfo Try.prog 145 2 24 := ⟨by kernel_rfl⟩
instance tz145 : TZero Try.prog 145 (.agg #[.int .i64 0, .string ⟨#[]⟩]) := ⟨fun w => by kernel_rfl⟩
instance te145 : TElem Try.prog 145 2 24 (.agg #[.int .i64 0, .string ⟨#[]⟩]) := elem_of
instance tp145 : TPl Try.prog 145 [0, 1] := ⟨trivial⟩
instance tf145_0 : TFld Try.prog 145 0 0 3 := ⟨fun a w => by kernel_rfl, by kernel_rfl⟩
instance tf145_1 : TFld Try.prog 145 1 1 9 := ⟨fun a w => by kernel_rfl, by kernel_rfl⟩
instance tg146 : TAgg Try.prog 146 2 := ⟨fun w => by kernel_rfl, fun w => by kernel_rfl⟩
instance ts146 : TSize Try.prog 146 2 := ⟨fun w => by kernel_rfl⟩
instance ti146 : TInfo Try.prog 146 2 24 := ⟨by kernel_rfl⟩
instance tz146 : TZero Try.prog 146 (.agg #[.int .i64 0, .string ⟨#[]⟩]) := ⟨fun w => by kernel_rfl⟩
instance te146 : TElem Try.prog 146 2 24 (.agg #[.int .i64 0, .string ⟨#[]⟩]) := elem_of
instance tp146 : TPl Try.prog 146 [0, 1] := ⟨trivial⟩
instance tf146_0 : TFld Try.prog 146 0 0 3 := ⟨fun a w => by kernel_rfl, by kernel_rfl⟩
instance tf146_1 : TFld Try.prog 146 1 1 9 := ⟨fun a w => by kernel_rfl, by kernel_rfl⟩
instance tg147 : TAgg Try.prog 147 2 := ⟨fun w => by kernel_rfl, fun w => by kernel_rfl⟩
instance ts147 : TSize Try.prog 147 2 := ⟨fun w => by kernel_rfl⟩
instance ti147 : TInfo Try.prog 147 2 16 := ⟨by kernel_rfl⟩
instance tz147 : TZero Try.prog 147 (.agg #[.int .i64 0, .int .i64 0]) := ⟨fun w => by kernel_rfl⟩
instance te147 : TElem Try.prog 147 2 16 (.agg #[.int .i64 0, .int .i64 0]) := elem_of
instance tp147 : TPl Try.prog 147 [0, 1] := ⟨trivial⟩
instance tf147_0 : TFld Try.prog 147 0 0 3 := ⟨fun a w => by kernel_rfl, by kernel_rfl⟩
instance tf147_1 : TFld Try.prog 147 1 1 3 := ⟨fun a w => by kernel_rfl, by kernel_rfl⟩
instance tg148 : TAgg Try.prog 148 2 := ⟨fun w => by kernel_rfl, fun w => by kernel_rfl⟩
instance ts148 : TSize Try.prog 148 2 := ⟨fun w => by kernel_rfl⟩
instance ti148 : TInfo Try.prog 148 2 16 := ⟨by kernel_rfl⟩
instance tz148 : TZero Try.prog 148 (.agg #[.int .i64 0, .int .i64 0]) := ⟨fun w => by kernel_rfl⟩
instance te148 : TElem Try.prog 148 2 16 (.agg #[.int .i64 0, .int .i64 0]) := elem_of
instance tp148 : TPl Try.prog 148 [0, 1] := ⟨trivial⟩
instance tf148_0 : TFld Try.prog 148 0 0 3 := ⟨fun a w => by kernel_rfl, by kernel_rfl⟩
instance tf148_1 : TFld Try.prog 148 1 1 3 := ⟨fun a w => by kernel_rfl, by kernel_rfl⟩
instance tg149 : TAgg Try.prog 149 3 := ⟨fun w => by kernel_rfl, fun w => by kernel_rfl⟩
instance ts149 : TSize Try.prog 149 3 := ⟨fun w => by kernel_rfl⟩
instance ti149 : TInfo Try.prog 149 3 56 := ⟨by kernel_rfl⟩
instance tz149 : TZero Try.prog 149 (.agg #[.slice none 0 0, .slice none 0 0, .int .i64 0]) := ⟨fun w => by kernel_rfl⟩
instance te149 : TElem Try.prog 149 3 56 (.agg #[.slice none 0 0, .slice none 0 0, .int .i64 0]) := elem_of
instance tp149 : TPl Try.prog 149 [0, 1, 2] := ⟨trivial⟩
instance tf149_0 : TFld Try.prog 149 0 0 87 := ⟨fun a w => by kernel_rfl, by kernel_rfl⟩
instance tf149_1 : TFld Try.prog 149 1 1 36 := ⟨fun a w => by kernel_rfl, by kernel_rfl⟩
instance tf149_2 : TFld Try.prog 149 2 2 3 := ⟨fun a w => by kernel_rfl, by kernel_rfl⟩
instance tg150 : TAgg Try.prog 150 3 := ⟨fun w => by kernel_rfl, fun w => by kernel_rfl⟩
instance ts150 : TSize Try.prog 150 3 := ⟨fun w => by kernel_rfl⟩
instance ti150 : TInfo Try.prog 150 3 56 := ⟨by kernel_rfl⟩
instance tz150 : TZero Try.prog 150 (.agg #[.slice none 0 0, .slice none 0 0, .int .i64 0]) := ⟨fun w => by kernel_rfl⟩
instance te150 : TElem Try.prog 150 3 56 (.agg #[.slice none 0 0, .slice none 0 0, .int .i64 0]) := elem_of
instance tp150 : TPl Try.prog 150 [0, 1, 2] := ⟨trivial⟩
instance tf150_0 : TFld Try.prog 150 0 0 87 := ⟨fun a w => by kernel_rfl, by kernel_rfl⟩
instance tf150_1 : TFld Try.prog 150 1 1 36 := ⟨fun a w => by kernel_rfl, by kernel_rfl⟩
instance tf150_2 : TFld Try.prog 150 2 2 3 := ⟨fun a w => by kernel_rfl, by kernel_rfl⟩
instance tg153 : TAgg Try.prog 153 2 := ⟨fun w => by kernel_rfl, fun w => by kernel_rfl⟩
instance ts153 : TSize Try.prog 153 2 := ⟨fun w => by kernel_rfl⟩
instance ti153 : TInfo Try.prog 153 2 32 := ⟨by kernel_rfl⟩
instance tz153 : TZero Try.prog 153 (.agg #[.slice none 0 0, .int .i64 0]) := ⟨fun w => by kernel_rfl⟩
instance te153 : TElem Try.prog 153 2 32 (.agg #[.slice none 0 0, .int .i64 0]) := elem_of
instance tp153 : TPl Try.prog 153 [0, 1] := ⟨trivial⟩
instance tf153_0 : TFld Try.prog 153 0 0 76 := ⟨fun a w => by kernel_rfl, by kernel_rfl⟩
instance tf153_1 : TFld Try.prog 153 1 1 3 := ⟨fun a w => by kernel_rfl, by kernel_rfl⟩
instance tg154 : TAgg Try.prog 154 2 := ⟨fun w => by kernel_rfl, fun w => by kernel_rfl⟩
instance ts154 : TSize Try.prog 154 2 := ⟨fun w => by kernel_rfl⟩
instance ti154 : TInfo Try.prog 154 2 32 := ⟨by kernel_rfl⟩
instance tz154 : TZero Try.prog 154 (.agg #[.slice none 0 0, .int .i64 0]) := ⟨fun w => by kernel_rfl⟩
instance te154 : TElem Try.prog 154 2 32 (.agg #[.slice none 0 0, .int .i64 0]) := elem_of
instance tp154 : TPl Try.prog 154 [0, 1] := ⟨trivial⟩
instance tf154_0 : TFld Try.prog 154 0 0 76 := ⟨fun a w => by kernel_rfl, by kernel_rfl⟩
instance tf154_1 : TFld Try.prog 154 1 1 3 := ⟨fun a w => by kernel_rfl, by kernel_rfl⟩
instance tg170 : TAgg Try.prog 170 1 := ⟨fun w => by kernel_rfl, fun w => by kernel_rfl⟩
instance ts170 : TSize Try.prog 170 1 := ⟨fun w => by kernel_rfl⟩
instance ti170 : TInfo Try.prog 170 1 24 := ⟨by kernel_rfl⟩
instance tz170 : TZero Try.prog 170 (.agg #[.slice none 0 0]) := ⟨fun w => by kernel_rfl⟩
instance te170 : TElem Try.prog 170 1 24 (.agg #[.slice none 0 0]) := elem_of
instance tp170 : TPl Try.prog 170 [0] := ⟨trivial⟩
instance tf170_0 : TFld Try.prog 170 0 0 109 := ⟨fun a w => by kernel_rfl, by kernel_rfl⟩
instance tg171 : TAgg Try.prog 171 1 := ⟨fun w => by kernel_rfl, fun w => by kernel_rfl⟩
instance ts171 : TSize Try.prog 171 1 := ⟨fun w => by kernel_rfl⟩
instance ti171 : TInfo Try.prog 171 1 24 := ⟨by kernel_rfl⟩
instance tz171 : TZero Try.prog 171 (.agg #[.slice none 0 0]) := ⟨fun w => by kernel_rfl⟩
instance te171 : TElem Try.prog 171 1 24 (.agg #[.slice none 0 0]) := elem_of
instance tp171 : TPl Try.prog 171 [0] := ⟨trivial⟩
instance tf171_0 : TFld Try.prog 171 0 0 109 := ⟨fun a w => by kernel_rfl, by kernel_rfl⟩
instance tc179 : TCell Try.prog 179 := ⟨fun w => by kernel_rfl, fun w => by kernel_rfl⟩
instance ts179 : TSize Try.prog 179 1 := ⟨fun w => by kernel_rfl⟩
instance ti179 : TInfo Try.prog 179 1 8 := ⟨by kernel_rfl⟩
instance tz179 : TZero Try.prog 179 (.pointer none) := ⟨fun w => by kernel_rfl⟩
instance te179 : TElem Try.prog 179 1 8 (.pointer none) := elem_of
instance tk179 : TPtr Try.prog 179 196 := ⟨by kernel_rfl⟩
instance tc185 : TCell Try.prog 185 := ⟨fun w => by kernel_rfl, fun w => by kernel_rfl⟩
instance ts185 : TSize Try.prog 185 1 := ⟨fun w => by kernel_rfl⟩
instance ti185 : TInfo Try.prog 185 1 24 := ⟨by kernel_rfl⟩
instance tz185 : TZero Try.prog 185 (.slice none 0 0) := ⟨fun w => by kernel_rfl⟩
instance te185 : TElem Try.prog 185 1 24 (.slice none 0 0) := elem_of
instance tk185 : TSlc Try.prog 185 23 := ⟨by kernel_rfl⟩
instance tg191 : TAgg Try.prog 191 5 := ⟨fun w => by kernel_rfl, fun w => by kernel_rfl⟩
instance ts191 : TSize Try.prog 191 5 := ⟨fun w => by kernel_rfl⟩
instance ti191 : TInfo Try.prog 191 5 20 := ⟨by kernel_rfl⟩
instance tz191 : TZero Try.prog 191 (.agg #[.int .u32 0, .int .u32 0, .int .u32 0, .int .u32 0, .int .u32 0]) := ⟨fun w => by kernel_rfl⟩
instance te191 : TElem Try.prog 191 5 20 (.agg #[.int .u32 0, .int .u32 0, .int .u32 0, .int .u32 0, .int .u32 0]) := elem_of
instance tk191 : TArr Try.prog 191 5 22 := ⟨by kernel_rfl⟩
instance tp191 : TPl Try.prog 191 [0, 1, 2, 3, 4] := ⟨trivial⟩
instance tg195 : TAgg Try.prog 195 2 := ⟨fun w => by kernel_rfl, fun w => by kernel_rfl⟩
instance ts195 : TSize Try.prog 195 2 := ⟨fun w => by kernel_rfl⟩
instance ti195 : TInfo Try.prog 195 2 24 := ⟨by kernel_rfl⟩
instance tz195 : TZero Try.prog 195 (.agg #[.string ⟨#[]⟩, .int .i64 0]) := ⟨fun w => by kernel_rfl⟩
instance te195 : TElem Try.prog 195 2 24 (.agg #[.string ⟨#[]⟩, .int .i64 0]) := elem_of
instance tp195 : TPl Try.prog 195 [0, 1] := ⟨trivial⟩
instance tf195_0 : TFld Try.prog 195 0 0 9 := ⟨fun a w => by kernel_rfl, by kernel_rfl⟩
instance tf195_1 : TFld Try.prog 195 1 1 30 := ⟨fun a w => by kernel_rfl, by kernel_rfl⟩
instance tg196 : TAgg Try.prog 196 2 := ⟨fun w => by kernel_rfl, fun w => by kernel_rfl⟩
instance ts196 : TSize Try.prog 196 2 := ⟨fun w => by kernel_rfl⟩
instance ti196 : TInfo Try.prog 196 2 24 := ⟨by kernel_rfl⟩
instance tz196 : TZero Try.prog 196 (.agg #[.string ⟨#[]⟩, .int .i64 0]) := ⟨fun w => by kernel_rfl⟩
instance te196 : TElem Try.prog 196 2 24 (.agg #[.string ⟨#[]⟩, .int .i64 0]) := elem_of
instance tp196 : TPl Try.prog 196 [0, 1] := ⟨trivial⟩
instance tf196_0 : TFld Try.prog 196 0 0 9 := ⟨fun a w => by kernel_rfl, by kernel_rfl⟩
instance tf196_1 : TFld Try.prog 196 1 1 30 := ⟨fun a w => by kernel_rfl, by kernel_rfl⟩
instance tg199 : TAgg Try.prog 199 5 := ⟨fun w => by kernel_rfl, fun w => by kernel_rfl⟩
instance ts199 : TSize Try.prog 199 5 := ⟨fun w => by kernel_rfl⟩
instance ti199 : TInfo Try.prog 199 5 20 := ⟨by kernel_rfl⟩
instance tz199 : TZero Try.prog 199 (.agg #[.int .u32 0, .int .u32 0, .int .u32 0, .int .u32 0, .int .u32 0]) := ⟨fun w => by kernel_rfl⟩
instance te199 : TElem Try.prog 199 5 20 (.agg #[.int .u32 0, .int .u32 0, .int .u32 0, .int .u32 0, .int .u32 0]) := elem_of
instance tk199 : TArr Try.prog 199 5 22 := ⟨by kernel_rfl⟩
instance tp199 : TPl Try.prog 199 [0, 1, 2, 3, 4] := ⟨trivial⟩
instance tg202 : TAgg Try.prog 202 2 := ⟨fun w => by kernel_rfl, fun w => by kernel_rfl⟩
instance ts202 : TSize Try.prog 202 2 := ⟨fun w => by kernel_rfl⟩
instance ti202 : TInfo Try.prog 202 2 24 := ⟨by kernel_rfl⟩
instance tz202 : TZero Try.prog 202 (.agg #[.string ⟨#[]⟩, .int .i64 0]) := ⟨fun w => by kernel_rfl⟩
instance te202 : TElem Try.prog 202 2 24 (.agg #[.string ⟨#[]⟩, .int .i64 0]) := elem_of
instance tp202 : TPl Try.prog 202 [0, 1] := ⟨trivial⟩
instance tf202_0 : TFld Try.prog 202 0 0 9 := ⟨fun a w => by kernel_rfl, by kernel_rfl⟩
instance tf202_1 : TFld Try.prog 202 1 1 3 := ⟨fun a w => by kernel_rfl, by kernel_rfl⟩
instance tg203 : TAgg Try.prog 203 2 := ⟨fun w => by kernel_rfl, fun w => by kernel_rfl⟩
instance ts203 : TSize Try.prog 203 2 := ⟨fun w => by kernel_rfl⟩
instance ti203 : TInfo Try.prog 203 2 24 := ⟨by kernel_rfl⟩
instance tz203 : TZero Try.prog 203 (.agg #[.string ⟨#[]⟩, .int .i64 0]) := ⟨fun w => by kernel_rfl⟩
instance te203 : TElem Try.prog 203 2 24 (.agg #[.string ⟨#[]⟩, .int .i64 0]) := elem_of
instance tp203 : TPl Try.prog 203 [0, 1] := ⟨trivial⟩
instance tf203_0 : TFld Try.prog 203 0 0 9 := ⟨fun a w => by kernel_rfl, by kernel_rfl⟩
instance tf203_1 : TFld Try.prog 203 1 1 3 := ⟨fun a w => by kernel_rfl, by kernel_rfl⟩
instance tg209 : TAgg Try.prog 209 80 := ⟨fun w => by kernel_rfl, fun w => by kernel_rfl⟩
instance ts209 : TSize Try.prog 209 80 := ⟨fun w => by kernel_rfl⟩
instance ti209 : TInfo Try.prog 209 80 320 := ⟨by kernel_rfl⟩
instance tz209 : TZero Try.prog 209 (.agg #[.int .u32 0, .int .u32 0, .int .u32 0, .int .u32 0, .int .u32 0, .int .u32 0, .int .u32 0, .int .u32 0, .int .u32 0, .int .u32 0, .int .u32 0, .int .u32 0, .int .u32 0, .int .u32 0, .int .u32 0, .int .u32 0, .int .u32 0, .int .u32 0, .int .u32 0, .int .u32 0, .int .u32 0, .int .u32 0, .int .u32 0, .int .u32 0, .int .u32 0, .int .u32 0, .int .u32 0, .int .u32 0, .int .u32 0, .int .u32 0, .int .u32 0, .int .u32 0, .int .u32 0, .int .u32 0, .int .u32 0, .int .u32 0, .int .u32 0, .int .u32 0, .int .u32 0, .int .u32 0, .int .u32 0, .int .u32 0, .int .u32 0, .int .u32 0, .int .u32 0, .int .u32 0, .int .u32 0, .int .u32 0, .int .u32 0, .int .u32 0, .int .u32 0, .int .u32 0, .int .u32 0, .int .u32 0, .int .u32 0, .int .u32 0, .int .u32 0, .int .u32 0, .int .u32 0, .int .u32 0, .int .u32 0, .int .u32 0, .int .u32 0, .int .u32 0, .int .u32 0, .int .u32 0, .int .u32 0, .int .u32 0, .int .u32 0, .int .u32 0, .int .u32 0, .int .u32 0, .int .u32 0, .int .u32 0, .int .u32 0, .int .u32 0, .int .u32 0, .int .u32 0, .int .u32 0, .int .u32 0]) := ⟨fun w => by kernel_rfl⟩
instance te209 : TElem Try.prog 209 80 320 (.agg #[.int .u32 0, .int .u32 0, .int .u32 0, .int .u32 0, .int .u32 0, .int .u32 0, .int .u32 0, .int .u32 0, .int .u32 0, .int .u32 0, .int .u32 0, .int .u32 0, .int .u32 0, .int .u32 0, .int .u32 0, .int .u32 0, .int .u32 0, .int .u32 0, .int .u32 0, .int .u32 0, .int .u32 0, .int .u32 0, .int .u32 0, .int .u32 0, .int .u32 0, .int .u32 0, .int .u32 0, .int .u32 0, .int .u32 0, .int .u32 0, .int .u32 0, .int .u32 0, .int .u32 0, .int .u32 0, .int .u32 0, .int .u32 0, .int .u32 0, .int .u32 0, .int .u32 0, .int .u32 0, .int .u32 0, .int .u32 0, .int .u32 0, .int .u32 0, .int .u32 0, .int .u32 0, .int .u32 0, .int .u32 0, .int .u32 0, .int .u32 0, .int .u32 0, .int .u32 0, .int .u32 0, .int .u32 0, .int .u32 0, .int .u32 0, .int .u32 0, .int .u32 0, .int .u32 0, .int .u32 0, .int .u32 0, .int .u32 0, .int .u32 0, .int .u32 0, .int .u32 0, .int .u32 0, .int .u32 0, .int .u32 0, .int .u32 0, .int .u32 0, .int .u32 0, .int .u32 0, .int .u32 0, .int .u32 0, .int .u32 0, .int .u32 0, .int .u32 0, .int .u32 0, .int .u32 0, .int .u32 0]) := elem_of
instance tk209 : TArr Try.prog 209 80 22 := ⟨by kernel_rfl⟩
instance tp209 : TPl Try.prog 209 [0, 1, 2, 3, 4, 5, 6, 7, 8, 9, 10, 11, 12, 13, 14, 15, 16, 17, 18, 19, 20, 21, 22, 23, 24, 25, 26, 27, 28, 29, 30, 31, 32, 33, 34, 35, 36, 37, 38, 39, 40, 41, 42, 43, 44, 45, 46, 47, 48, 49, 50, 51, 52, 53, 54, 55, 56, 57, 58, 59, 60, 61, 62, 63, 64, 65, 66, 67, 68, 69, 70, 71, 72, 73, 74, 75, 76, 77, 78, 79] := ⟨trivial⟩
instance tc224 : TCell Try.prog 224 := ⟨fun w => by kernel_rfl, fun w => by kernel_rfl⟩
instance ts224 : TSize Try.prog 224 1 := ⟨fun w => by kernel_rfl⟩
instance ti224 : TInfo Try.prog 224 1 8 := ⟨by kernel_rfl⟩
instance tz224 : TZero Try.prog 224 (.pointer none) := ⟨fun w => by kernel_rfl⟩
instance te224 : TElem Try.prog 224 1 8 (.pointer none) := elem_of
instance tk224 : TPtr Try.prog 224 5 := ⟨by kernel_rfl⟩
instance fn3 : TFn Try.prog 3 := ⟨fun a w => by kernel_rfl⟩   -- crossway crosswaylaw40.FilerReads
instance fn4 : TFn Try.prog 4 := ⟨fun a w => by kernel_rfl⟩   -- crossway crosswaylaw28.ReconfAnswers
instance fn5 : TFn Try.prog 5 := ⟨fun a w => by kernel_rfl⟩   -- crossway crosswaylaw40.FilerLimits
instance fn6 : TFn Try.prog 6 := ⟨fun a w => by kernel_rfl⟩   -- crossway crosswaylaw28.ReconfAsks
instance fn7 : TFn Try.prog 7 := ⟨fun a w => by kernel_rfl⟩   -- crossway crosswaylaw15.PathsPlays
instance fn8 : TFn Try.prog 8 := ⟨fun a w => by kernel_rfl⟩   -- crossway crosswaylaw40.FilerSends
instance fn9 : TFn Try.prog 9 := ⟨fun a w => by kernel_rfl⟩   -- crossway crosswaylaw40.FilerNone
instance fn10 : TFn Try.prog 10 := ⟨fun a w => by kernel_rfl⟩   -- crossway crosswaylaw10.CookiePuts
instance fn11 : TFn Try.prog 11 := ⟨fun a w => by kernel_rfl⟩   -- crossway crosswaylaw10.CookieGets
instance fn12 : TFn Try.prog 12 := ⟨fun a w => by kernel_rfl⟩   -- crossway crosswaylaw10.CookieBent
instance fn13 : TFn Try.prog 13 := ⟨fun a w => by kernel_rfl⟩   -- crossway crosswaylaw17.ReasmPlays
instance fn14 : TFn Try.prog 14 := ⟨fun a w => by kernel_rfl⟩   -- crossway crosswaylaw17.ReasmNone
instance fn15 : TFn Try.prog 15 := ⟨fun a w => by kernel_rfl⟩   -- crossway crosswayref03.Put
instance fn16 : TFn Try.prog 16 := ⟨fun a w => by kernel_rfl⟩   -- crossway filer.NewReceiver
instance fn17 : TFn Try.prog 17 := ⟨fun a w => by kernel_rfl⟩   -- (*crossway filer.Receiver).Take
instance fn18 : TFn Try.prog 18 := ⟨fun a w => by kernel_rfl⟩   -- crossway crosswaylaw40.awake
instance fn19 : TFn Try.prog 19 := ⟨fun a w => by kernel_rfl⟩   -- (*crossway filer.Receiver).Len
instance fn20 : TFn Try.prog 20 := ⟨fun a w => by kernel_rfl⟩   -- crossway reconf.New
instance fn21 : TFn Try.prog 21 := ⟨fun a w => by kernel_rfl⟩   -- crossway crosswaylaw28.awake
instance fn22 : TFn Try.prog 22 := ⟨fun a w => by kernel_rfl⟩   -- crossway reconf.More
instance fn23 : TFn Try.prog 23 := ⟨fun a w => by kernel_rfl⟩   -- (*crossway reconf.Streams).Asked
instance fn24 : TFn Try.prog 24 := ⟨fun a w => by kernel_rfl⟩   -- crossway crosswaylaw28.four
instance fn25 : TFn Try.prog 25 := ⟨fun a w => by kernel_rfl⟩   -- crossway crosswayref06.Same
instance fn26 : TFn Try.prog 26 := ⟨fun a w => by kernel_rfl⟩   -- crossway filer.NewSender
instance fn27 : TFn Try.prog 27 := ⟨fun a w => by kernel_rfl⟩   -- (*crossway filer.Sender).Put
instance fn28 : TFn Try.prog 28 := ⟨fun a w => by kernel_rfl⟩   -- crossway filer.Piece
instance fn29 : TFn Try.prog 29 := ⟨fun a w => by kernel_rfl⟩   -- (*crossway reconf.Streams).Ask
instance fn30 : TFn Try.prog 30 := ⟨fun a w => by kernel_rfl⟩   -- (*crossway reconf.Streams).Send
instance fn31 : TFn Try.prog 31 := ⟨fun a w => by kernel_rfl⟩   -- (*crossway reconf.Streams).Answer
instance fn32 : TFn Try.prog 32 := ⟨fun a w => by kernel_rfl⟩   -- (*crossway reconf.Streams).At
instance fn33 : TFn Try.prog 33 := ⟨fun a w => by kernel_rfl⟩   -- (*crossway reconf.Streams).Want
instance fn34 : TFn Try.prog 34 := ⟨fun a w => by kernel_rfl⟩   -- (*crossway reconf.Streams).Times
instance fn35 : TFn Try.prog 35 := ⟨fun a w => by kernel_rfl⟩   -- crossway paths.New
instance fn36 : TFn Try.prog 36 := ⟨fun a w => by kernel_rfl⟩   -- crossway path.New
instance fn37 : TFn Try.prog 37 := ⟨fun a w => by kernel_rfl⟩   -- crossway crosswaylaw15.awake
instance fn38 : TFn Try.prog 38 := ⟨fun a w => by kernel_rfl⟩   -- crossway crosswaylaw15.find
instance fn39 : TFn Try.prog 39 := ⟨fun a w => by kernel_rfl⟩   -- (*crossway paths.Paths).Add
instance fn40 : TFn Try.prog 40 := ⟨fun a w => by kernel_rfl⟩   -- crossway crosswaylaw15.drop
instance fn41 : TFn Try.prog 41 := ⟨fun a w => by kernel_rfl⟩   -- (*crossway paths.Paths).Drop
instance fn42 : TFn Try.prog 42 := ⟨fun a w => by kernel_rfl⟩   -- (*crossway paths.Paths).Choose
instance fn43 : TFn Try.prog 43 := ⟨fun a w => by kernel_rfl⟩   -- (*crossway paths.Paths).Set
instance fn44 : TFn Try.prog 44 := ⟨fun a w => by kernel_rfl⟩   -- crossway crosswaylaw15.same
instance fn45 : TFn Try.prog 45 := ⟨fun a w => by kernel_rfl⟩   -- crossway crosswaylaw40.bytes
instance fn46 : TFn Try.prog 46 := ⟨fun a w => by kernel_rfl⟩   -- (*crossway filer.Sender).Peek
instance fn47 : TFn Try.prog 47 := ⟨fun a w => by kernel_rfl⟩   -- crossway crosswaylaw40.piece
instance fn48 : TFn Try.prog 48 := ⟨fun a w => by kernel_rfl⟩   -- (*crossway filer.Sender).Len
instance fn49 : TFn Try.prog 49 := ⟨fun a w => by kernel_rfl⟩   -- (*crossway filer.Sender).Done
instance fn50 : TFn Try.prog 50 := ⟨fun a w => by kernel_rfl⟩   -- crossway crosswaylaw10.random
instance fn51 : TFn Try.prog 51 := ⟨fun a w => by kernel_rfl⟩   -- crossway cookie.Put
instance fn52 : TFn Try.prog 52 := ⟨fun a w => by kernel_rfl⟩   -- crossway crosswaylaw10.awake
instance fn53 : TFn Try.prog 53 := ⟨fun a w => by kernel_rfl⟩   -- crossway crosswayref10.Put
instance fn54 : TFn Try.prog 54 := ⟨fun a w => by kernel_rfl⟩   -- crossway cookie.Bytes
instance fn55 : TFn Try.prog 55 := ⟨fun a w => by kernel_rfl⟩   -- crossway crosswayref10.Bytes
instance fn56 : TFn Try.prog 56 := ⟨fun a w => by kernel_rfl⟩   -- crossway cookie.May
instance fn57 : TFn Try.prog 57 := ⟨fun a w => by kernel_rfl⟩   -- crossway cookie.Get
instance fn58 : TFn Try.prog 58 := ⟨fun a w => by kernel_rfl⟩   -- crossway crosswayref08.Mac
instance fn59 : TFn Try.prog 59 := ⟨fun a w => by kernel_rfl⟩   -- crossway crosswayref10.May
instance fn60 : TFn Try.prog 60 := ⟨fun a w => by kernel_rfl⟩   -- crossway reasm.New
instance fn61 : TFn Try.prog 61 := ⟨fun a w => by kernel_rfl⟩   -- crossway crosswaylaw17.awake
instance fn62 : TFn Try.prog 62 := ⟨fun a w => by kernel_rfl⟩   -- (*crossway reasm.Parts).Add
instance fn63 : TFn Try.prog 63 := ⟨fun a w => by kernel_rfl⟩   -- crossway crosswayref17.Add
instance fn64 : TFn Try.prog 64 := ⟨fun a w => by kernel_rfl⟩   -- (*crossway reasm.Parts).Len
instance fn65 : TFn Try.prog 65 := ⟨fun a w => by kernel_rfl⟩   -- (*crossway reasm.Parts).Bytes
instance fn66 : TFn Try.prog 66 := ⟨fun a w => by kernel_rfl⟩   -- crossway filer.parse
instance fn67 : TFn Try.prog 67 := ⟨fun a w => by kernel_rfl⟩   -- slices.IndexFunc[[]*crossway filer.part,*crossway filer.part]
instance fn68 : TFn Try.prog 68 := ⟨fun a w => by kernel_rfl⟩   -- (crossway filer.piece).of
instance fn69 : TFn Try.prog 69 := ⟨fun a w => by kernel_rfl⟩   -- (*crossway filer.part).whole
instance fn70 : TFn Try.prog 70 := ⟨fun a w => by kernel_rfl⟩   -- slices.Delete[[]*crossway filer.part,*crossway filer.part]
instance fn71 : TFn Try.prog 71 := ⟨fun a w => by kernel_rfl⟩   -- crossway octet.U32
instance fn72 : TFn Try.prog 72 := ⟨fun a w => by kernel_rfl⟩   -- crossway octet.U16
instance fn73 : TFn Try.prog 73 := ⟨fun a w => by kernel_rfl⟩   -- crossway param.Find
instance fn74 : TFn Try.prog 74 := ⟨fun a w => by kernel_rfl⟩   -- crossway reconf.AsMore
instance fn75 : TFn Try.prog 75 := ⟨fun a w => by kernel_rfl⟩   -- (*crossway reconf.Streams).Asked$1
instance fn76 : TFn Try.prog 76 := ⟨fun a w => by kernel_rfl⟩   -- crossway reconf.Result
instance fn77 : TFn Try.prog 77 := ⟨fun a w => by kernel_rfl⟩   -- slices.ContainsFunc[[]crossway api.Object,crossway api.Object]
instance fn78 : TFn Try.prog 78 := ⟨fun a w => by kernel_rfl⟩   -- (*crossway filer.Sender).Put$1
instance fn79 : TFn Try.prog 79 := ⟨fun a w => by kernel_rfl⟩   -- crossway reconf.AsResult
instance fn80 : TFn Try.prog 80 := ⟨fun a w => by kernel_rfl⟩   -- crossway rto.First
instance fn81 : TFn Try.prog 81 := ⟨fun a w => by kernel_rfl⟩   -- (*crossway paths.Paths).At
instance fn82 : TFn Try.prog 82 := ⟨fun a w => by kernel_rfl⟩   -- (*crossway paths.Paths).Use
instance fn83 : TFn Try.prog 83 := ⟨fun a w => by kernel_rfl⟩   -- (*crossway paths.Paths).Find
instance fn84 : TFn Try.prog 84 := ⟨fun a w => by kernel_rfl⟩   -- slices.Index[[]int,int]
instance fn85 : TFn Try.prog 85 := ⟨fun a w => by kernel_rfl⟩   -- crossway path.Same
instance fn86 : TFn Try.prog 86 := ⟨fun a w => by kernel_rfl⟩   -- (*crossway paths.Paths).All
instance fn87 : TFn Try.prog 87 := ⟨fun a w => by kernel_rfl⟩   -- (*crossway paths.Paths).First
instance fn88 : TFn Try.prog 88 := ⟨fun a w => by kernel_rfl⟩   -- crossway crosswaylaw15.use
instance fn89 : TFn Try.prog 89 := ⟨fun a w => by kernel_rfl⟩   -- (*crossway paths.Paths).Peer
instance fn90 : TFn Try.prog 90 := ⟨fun a w => by kernel_rfl⟩   -- (*crossway paths.Paths).Other
instance fn91 : TFn Try.prog 91 := ⟨fun a w => by kernel_rfl⟩   -- (*crossway paths.Paths).Alive
instance fn92 : TFn Try.prog 92 := ⟨fun a w => by kernel_rfl⟩   -- slices.Delete[[]crossway api.Object,crossway api.Object]
instance fn93 : TFn Try.prog 93 := ⟨fun a w => by kernel_rfl⟩   -- slices.Delete[[]int,int]
instance fn94 : TFn Try.prog 94 := ⟨fun a w => by kernel_rfl⟩   -- crossway mac.Of
instance fn95 : TFn Try.prog 95 := ⟨fun a w => by kernel_rfl⟩   -- crossway octet.U64
instance fn96 : TFn Try.prog 96 := ⟨fun a w => by kernel_rfl⟩   -- crossway cookie.word
instance fn97 : TFn Try.prog 97 := ⟨fun a w => by kernel_rfl⟩   -- crossway mac.Is
instance fn98 : TFn Try.prog 98 := ⟨fun a w => by kernel_rfl⟩   -- crossway cookie.parse
instance fn99 : TFn Try.prog 99 := ⟨fun a w => by kernel_rfl⟩   -- crossway crosswayref08.Of
instance fn100 : TFn Try.prog 100 := ⟨fun a w => by kernel_rfl⟩   -- crossway crosswayref08.pad
instance fn101 : TFn Try.prog 101 := ⟨fun a w => by kernel_rfl⟩   -- crossway crosswayref10.word
instance fn102 : TFn Try.prog 102 := ⟨fun a w => by kernel_rfl⟩   -- slices.IndexFunc[[]crossway api.Chunk,crossway api.Chunk]
instance fn103 : TFn Try.prog 103 := ⟨fun a w => by kernel_rfl⟩   -- (*crossway reasm.Parts).Add$1
instance fn104 : TFn Try.prog 104 := ⟨fun a w => by kernel_rfl⟩   -- crossway serial.Less
instance fn105 : TFn Try.prog 105 := ⟨fun a w => by kernel_rfl⟩   -- slices.Insert[[]crossway api.Chunk,crossway api.Chunk]
instance fn106 : TFn Try.prog 106 := ⟨fun a w => by kernel_rfl⟩   -- (*crossway reasm.Parts).around
instance fn107 : TFn Try.prog 107 := ⟨fun a w => by kernel_rfl⟩   -- slices.Delete[[]crossway api.Chunk,crossway api.Chunk]
instance fn108 : TFn Try.prog 108 := ⟨fun a w => by kernel_rfl⟩   -- crossway crosswayref17.at
instance fn109 : TFn Try.prog 109 := ⟨fun a w => by kernel_rfl⟩   -- crossway crosswayref17.alike
instance fn110 : TFn Try.prog 110 := ⟨fun a w => by kernel_rfl⟩   -- crossway octet.New
instance fn111 : TFn Try.prog 111 := ⟨fun a w => by kernel_rfl⟩   -- (*crossway octet.Reader).U32
instance fn112 : TFn Try.prog 112 := ⟨fun a w => by kernel_rfl⟩   -- (*crossway octet.Reader).Rest
instance fn113 : TFn Try.prog 113 := ⟨fun a w => by kernel_rfl⟩   -- (*crossway octet.Reader).Err
instance fn114 : TFn Try.prog 114 := ⟨fun a w => by kernel_rfl⟩   -- (*crossway octet.Reader).U16
instance fn115 : TFn Try.prog 115 := ⟨fun a w => by kernel_rfl⟩   -- (*crossway octet.Reader).End
instance fn116 : TFn Try.prog 116 := ⟨fun a w => by kernel_rfl⟩   -- slices.IndexFunc[[]crossway api.Object,crossway api.Object]
instance fn117 : TFn Try.prog 117 := ⟨fun a w => by kernel_rfl⟩   -- slices.IndexFunc[[]crossway api.Path,crossway api.Path]
instance fn118 : TFn Try.prog 118 := ⟨fun a w => by kernel_rfl⟩   -- (*crossway paths.Paths).Find$1
instance fn119 : TFn Try.prog 119 := ⟨fun a w => by kernel_rfl⟩   -- slices.Clone[[]crossway api.Path,crossway api.Path]
instance fn120 : TFn Try.prog 120 := ⟨fun a w => by kernel_rfl⟩   -- (*crossway paths.Paths).Peer$1
instance fn121 : TFn Try.prog 121 := ⟨fun a w => by kernel_rfl⟩   -- slices.ContainsFunc[[]crossway api.Path,crossway api.Path]
instance fn122 : TFn Try.prog 122 := ⟨fun a w => by kernel_rfl⟩   -- (*crossway paths.Paths).Alive$1
instance fn123 : TFn Try.prog 123 := ⟨fun a w => by kernel_rfl⟩   -- crossway digest.Of
instance fn124 : TFn Try.prog 124 := ⟨fun a w => by kernel_rfl⟩   -- crossway mac.pad
instance fn125 : TFn Try.prog 125 := ⟨fun a w => by kernel_rfl⟩   -- (*crossway octet.Reader).U64
instance fn126 : TFn Try.prog 126 := ⟨fun a w => by kernel_rfl⟩   -- (*crossway octet.Reader).Take
instance fn127 : TFn Try.prog 127 := ⟨fun a w => by kernel_rfl⟩   -- crossway crosswayref08.block
instance fn129 : TFn Try.prog 129 := ⟨fun a w => by kernel_rfl⟩   -- slices.rotateRight[crossway api.Chunk]
instance fn130 : TFn Try.prog 130 := ⟨fun a w => by kernel_rfl⟩   -- crossway reasm.fits
instance fn131 : TFn Try.prog 131 := ⟨fun a w => by kernel_rfl⟩   -- (*crossway octet.Reader).number
instance fn132 : TFn Try.prog 132 := ⟨fun a w => by kernel_rfl⟩   -- (*crossway octet.Reader).Left
instance fn133 : TFn Try.prog 133 := ⟨fun a w => by kernel_rfl⟩   -- (*crossway octet.Reader).Fail
instance fn134 : TFn Try.prog 134 := ⟨fun a w => by kernel_rfl⟩   -- crossway digest.begin
instance fn135 : TFn Try.prog 135 := ⟨fun a w => by kernel_rfl⟩   -- (crossway digest.state).add
instance fn136 : TFn Try.prog 136 := ⟨fun a w => by kernel_rfl⟩   -- (crossway crosswayref03.R).Num
instance fn137 : TFn Try.prog 137 := ⟨fun a w => by kernel_rfl⟩   -- crossway crosswayref08.turn
instance fn138 : TFn Try.prog 138 := ⟨fun a w => by kernel_rfl⟩   -- crossway crosswayref08.round
instance fn139 : TFn Try.prog 139 := ⟨fun a w => by kernel_rfl⟩   -- slices.rotateLeft[crossway api.Chunk]
instance fn140 : TFn Try.prog 140 := ⟨fun a w => by kernel_rfl⟩   -- crossway digest.words
instance fn141 : TFn Try.prog 141 := ⟨fun a w => by kernel_rfl⟩   -- crossway digest.mix
instance fn142 : TFn Try.prog 142 := ⟨fun a w => by kernel_rfl⟩   -- math bits.RotateLeft32
instance fn143 : TFn Try.prog 143 := ⟨fun a w => by kernel_rfl⟩   -- (crossway crosswayref03.R).Take
instance fn144 : TFn Try.prog 144 := ⟨fun a w => by kernel_rfl⟩   -- slices.Reverse[[]crossway api.Chunk,crossway api.Chunk]
instance fn145 : TFn Try.prog 145 := ⟨fun a w => by kernel_rfl⟩   -- (crossway crosswayref03.R).Fail

end Go.Proofs.Ytpghbkkjdfaflaa
