/- What the program's tables say of its types and functions. Printed by wip/stab.py of this session; Lean checks it. -/
import Derived.Test.YtmngmmjmphknlaaDoorS12
import Derived.Test.YtmngmmjmphknlaaDoorProg
namespace Go.Proofs.YtmngmmjmphknlaaDoor.S
set_option linter.unusedVariables false

instance und_3 : Und Tryd.prog 3 (.int .i64) := ⟨Tryd.underlying3⟩
instance siz_3 : Siz Tryd.prog 3 1 := ⟨Tryd.sizeOf3⟩
instance agg_3 : Agg Tryd.prog 3 false := ⟨Tryd.isAgg3⟩
instance byt_3 : Byt Tryd.prog 3 8 := ⟨fun w => ⟨_, Tryd.typeInfo3 w, rfl⟩⟩
instance zro_3 : Zro Tryd.prog 3 (.int .i64 0) := ⟨Tryd.zeroValue3⟩
instance und_4 : Und Tryd.prog 4 (.bool) := ⟨Tryd.underlying4⟩
instance siz_4 : Siz Tryd.prog 4 1 := ⟨Tryd.sizeOf4⟩
instance agg_4 : Agg Tryd.prog 4 false := ⟨Tryd.isAgg4⟩
instance byt_4 : Byt Tryd.prog 4 1 := ⟨fun w => ⟨_, Tryd.typeInfo4 w, rfl⟩⟩
instance zro_4 : Zro Tryd.prog 4 (.bool false) := ⟨Tryd.zeroValue4⟩
instance und_5 : Und Tryd.prog 5 (.int .u8) := ⟨Tryd.underlying5⟩
instance siz_5 : Siz Tryd.prog 5 1 := ⟨Tryd.sizeOf5⟩
instance agg_5 : Agg Tryd.prog 5 false := ⟨Tryd.isAgg5⟩
instance byt_5 : Byt Tryd.prog 5 1 := ⟨fun w => ⟨_, Tryd.typeInfo5 w, rfl⟩⟩
instance zro_5 : Zro Tryd.prog 5 (.int .u8 0) := ⟨Tryd.zeroValue5⟩
instance und_9 : Und Tryd.prog 9 (.string) := ⟨Tryd.underlying9⟩
instance siz_9 : Siz Tryd.prog 9 1 := ⟨Tryd.sizeOf9⟩
instance agg_9 : Agg Tryd.prog 9 false := ⟨Tryd.isAgg9⟩
instance byt_9 : Byt Tryd.prog 9 16 := ⟨fun w => ⟨_, Tryd.typeInfo9 w, rfl⟩⟩
instance zro_9 : Zro Tryd.prog 9 (.string ⟨#[]⟩) := ⟨Tryd.zeroValue9⟩
instance und_21 : Und Tryd.prog 21 (.int .i32) := ⟨Tryd.underlying21⟩
instance siz_21 : Siz Tryd.prog 21 1 := ⟨Tryd.sizeOf21⟩
instance agg_21 : Agg Tryd.prog 21 false := ⟨Tryd.isAgg21⟩
instance byt_21 : Byt Tryd.prog 21 4 := ⟨fun w => ⟨_, Tryd.typeInfo21 w, rfl⟩⟩
instance zro_21 : Zro Tryd.prog 21 (.int .i32 0) := ⟨Tryd.zeroValue21⟩
instance und_22 : Und Tryd.prog 22 (.slice 9) := ⟨Tryd.underlying22⟩
instance siz_22 : Siz Tryd.prog 22 1 := ⟨Tryd.sizeOf22⟩
instance agg_22 : Agg Tryd.prog 22 false := ⟨Tryd.isAgg22⟩
instance byt_22 : Byt Tryd.prog 22 24 := ⟨fun w => ⟨_, Tryd.typeInfo22 w, rfl⟩⟩
instance zro_22 : Zro Tryd.prog 22 (.slice none 0 0) := ⟨Tryd.zeroValue22⟩
instance und_23 : Und Tryd.prog 23 (.int .i64) := ⟨Tryd.underlying23⟩
instance siz_23 : Siz Tryd.prog 23 1 := ⟨Tryd.sizeOf23⟩
instance agg_23 : Agg Tryd.prog 23 false := ⟨Tryd.isAgg23⟩
instance byt_23 : Byt Tryd.prog 23 8 := ⟨fun w => ⟨_, Tryd.typeInfo23 w, rfl⟩⟩
instance zro_23 : Zro Tryd.prog 23 (.int .i64 0) := ⟨Tryd.zeroValue23⟩
instance siz_30 : Siz Tryd.prog 30 1 := ⟨Tryd.sizeOf30⟩
instance agg_30 : Agg Tryd.prog 30 false := ⟨Tryd.isAgg30⟩
instance byt_30 : Byt Tryd.prog 30 8 := ⟨fun w => ⟨_, Tryd.typeInfo30 w, rfl⟩⟩
instance zro_30 : Zro Tryd.prog 30 (.nilFunc) := ⟨Tryd.zeroValue30⟩
instance siz_44 : Siz Tryd.prog 44 1 := ⟨Tryd.sizeOf44⟩
instance agg_44 : Agg Tryd.prog 44 false := ⟨Tryd.isAgg44⟩
instance byt_44 : Byt Tryd.prog 44 8 := ⟨fun w => ⟨_, Tryd.typeInfo44 w, rfl⟩⟩
instance zro_44 : Zro Tryd.prog 44 (.nilFunc) := ⟨Tryd.zeroValue44⟩
instance und_48 : Und Tryd.prog 48 (.pointer 51) := ⟨Tryd.underlying48⟩
instance siz_48 : Siz Tryd.prog 48 1 := ⟨Tryd.sizeOf48⟩
instance agg_48 : Agg Tryd.prog 48 false := ⟨Tryd.isAgg48⟩
instance byt_48 : Byt Tryd.prog 48 8 := ⟨fun w => ⟨_, Tryd.typeInfo48 w, rfl⟩⟩
instance zro_48 : Zro Tryd.prog 48 (.pointer none) := ⟨Tryd.zeroValue48⟩
instance und_49 : Und Tryd.prog 49 (.slice 5) := ⟨Tryd.underlying49⟩
instance siz_49 : Siz Tryd.prog 49 1 := ⟨Tryd.sizeOf49⟩
instance agg_49 : Agg Tryd.prog 49 false := ⟨Tryd.isAgg49⟩
instance byt_49 : Byt Tryd.prog 49 24 := ⟨fun w => ⟨_, Tryd.typeInfo49 w, rfl⟩⟩
instance zro_49 : Zro Tryd.prog 49 (.slice none 0 0) := ⟨Tryd.zeroValue49⟩
instance siz_51 : Siz Tryd.prog 51 2 := ⟨Tryd.sizeOf51⟩
instance agg_51 : Agg Tryd.prog 51 true := ⟨Tryd.isAgg51⟩
instance byt_51 : Byt Tryd.prog 51 32 := ⟨fun w => ⟨_, Tryd.typeInfo51 w, rfl⟩⟩
instance zro_51 : Zro Tryd.prog 51 (.agg #[.pointer none, .slice none 0 0]) := ⟨Tryd.zeroValue51⟩
instance und_62 : Und Tryd.prog 62 (.pointer 5) := ⟨Tryd.underlying62⟩
instance siz_62 : Siz Tryd.prog 62 1 := ⟨Tryd.sizeOf62⟩
instance agg_62 : Agg Tryd.prog 62 false := ⟨Tryd.isAgg62⟩
instance byt_62 : Byt Tryd.prog 62 8 := ⟨fun w => ⟨_, Tryd.typeInfo62 w, rfl⟩⟩
instance zro_62 : Zro Tryd.prog 62 (.pointer none) := ⟨Tryd.zeroValue62⟩
instance und_64 : Und Tryd.prog 64 (.int .u64) := ⟨Tryd.underlying64⟩
instance siz_64 : Siz Tryd.prog 64 1 := ⟨Tryd.sizeOf64⟩
instance agg_64 : Agg Tryd.prog 64 false := ⟨Tryd.isAgg64⟩
instance byt_64 : Byt Tryd.prog 64 8 := ⟨fun w => ⟨_, Tryd.typeInfo64 w, rfl⟩⟩
instance zro_64 : Zro Tryd.prog 64 (.int .u64 0) := ⟨Tryd.zeroValue64⟩
instance und_68 : Und Tryd.prog 68 (.array 256 5) := ⟨Tryd.underlying68⟩
instance siz_68 : Siz Tryd.prog 68 256 := ⟨Tryd.sizeOf68⟩
instance agg_68 : Agg Tryd.prog 68 true := ⟨Tryd.isAgg68⟩
instance byt_68 : Byt Tryd.prog 68 256 := ⟨fun w => ⟨_, Tryd.typeInfo68 w, rfl⟩⟩
instance siz_70 : Siz Tryd.prog 70 2 := ⟨Tryd.sizeOf70⟩
instance agg_70 : Agg Tryd.prog 70 true := ⟨Tryd.isAgg70⟩
instance byt_70 : Byt Tryd.prog 70 2 := ⟨fun w => ⟨_, Tryd.typeInfo70 w, rfl⟩⟩
instance zro_70 : Zro Tryd.prog 70 (.agg #[.int .u8 0, .int .u8 0]) := ⟨Tryd.zeroValue70⟩
instance und_71 : Und Tryd.prog 71 (.array 16 70) := ⟨Tryd.underlying71⟩
instance siz_71 : Siz Tryd.prog 71 32 := ⟨Tryd.sizeOf71⟩
instance agg_71 : Agg Tryd.prog 71 true := ⟨Tryd.isAgg71⟩
instance byt_71 : Byt Tryd.prog 71 32 := ⟨fun w => ⟨_, Tryd.typeInfo71 w, rfl⟩⟩
instance zro_71 : Zro Tryd.prog 71 (.agg #[.int .u8 0, .int .u8 0, .int .u8 0, .int .u8 0, .int .u8 0, .int .u8 0, .int .u8 0, .int .u8 0, .int .u8 0, .int .u8 0, .int .u8 0, .int .u8 0, .int .u8 0, .int .u8 0, .int .u8 0, .int .u8 0, .int .u8 0, .int .u8 0, .int .u8 0, .int .u8 0, .int .u8 0, .int .u8 0, .int .u8 0, .int .u8 0, .int .u8 0, .int .u8 0, .int .u8 0, .int .u8 0, .int .u8 0, .int .u8 0, .int .u8 0, .int .u8 0]) := ⟨Tryd.zeroValue71⟩
instance und_72 : Und Tryd.prog 72 (.int .u32) := ⟨Tryd.underlying72⟩
instance siz_72 : Siz Tryd.prog 72 1 := ⟨Tryd.sizeOf72⟩
instance agg_72 : Agg Tryd.prog 72 false := ⟨Tryd.isAgg72⟩
instance byt_72 : Byt Tryd.prog 72 4 := ⟨fun w => ⟨_, Tryd.typeInfo72 w, rfl⟩⟩
instance zro_72 : Zro Tryd.prog 72 (.int .u32 0) := ⟨Tryd.zeroValue72⟩
instance foff_51_0 : FOff Tryd.prog 51 0 0 := fOff_of (n := 0) Tryd.underlying51 rfl Tryd.sizeOf48 rfl
instance foff_51_1 : FOff Tryd.prog 51 1 1 := fOff_of (n := 0) Tryd.underlying51 rfl Tryd.sizeOf49 rfl
instance foff_70_0 : FOff Tryd.prog 70 0 0 := fOff_of (n := 0) Tryd.underlying70 rfl Tryd.sizeOf5 rfl
instance foff_70_1 : FOff Tryd.prog 70 1 1 := fOff_of (n := 0) Tryd.underlying70 rfl Tryd.sizeOf5 rfl
instance btab_70 : BTab Tryd.prog 70 [.int .u8 0, .int .u8 0] [(0, 1), (1, 1)] := ⟨fun parts w => by simp [Instr.build]; exact run_fill (fillP _ _ parts.toList)⟩
instance callee_2 : Callee Tryd.prog 2 := ⟨Tryd.call2⟩
instance callee_3 : Callee Tryd.prog 3 := ⟨Tryd.call3⟩
instance callee_4 : Callee Tryd.prog 4 := ⟨Tryd.call4⟩
instance callee_5 : Callee Tryd.prog 5 := ⟨Tryd.call5⟩
instance callee_6 : Callee Tryd.prog 6 := ⟨Tryd.call6⟩
instance callee_7 : Callee Tryd.prog 7 := ⟨Tryd.call7⟩
instance callee_8 : Callee Tryd.prog 8 := ⟨Tryd.call8⟩
instance callee_9 : Callee Tryd.prog 9 := ⟨Tryd.call9⟩
instance callee_10 : Callee Tryd.prog 10 := ⟨Tryd.call10⟩
instance callee_11 : Callee Tryd.prog 11 := ⟨Tryd.call11⟩
instance callee_12 : Callee Tryd.prog 12 := ⟨Tryd.call12⟩
instance callee_13 : Callee Tryd.prog 13 := ⟨Tryd.call13⟩
instance callee_14 : Callee Tryd.prog 14 := ⟨Tryd.call14⟩
instance callee_15 : Callee Tryd.prog 15 := ⟨Tryd.call15⟩
instance callee_16 : Callee Tryd.prog 16 := ⟨Tryd.call16⟩
instance callee_17 : Callee Tryd.prog 17 := ⟨Tryd.call17⟩
instance callee_18 : Callee Tryd.prog 18 := ⟨Tryd.call18⟩
instance callee_19 : Callee Tryd.prog 19 := ⟨Tryd.call19⟩
instance callee_20 : Callee Tryd.prog 20 := ⟨Tryd.call20⟩
instance callee_21 : Callee Tryd.prog 21 := ⟨Tryd.call21⟩
instance callee_22 : Callee Tryd.prog 22 := ⟨Tryd.call22⟩
instance callee_23 : Callee Tryd.prog 23 := ⟨Tryd.call23⟩
instance callee_24 : Callee Tryd.prog 24 := ⟨Tryd.call24⟩
instance callee_25 : Callee Tryd.prog 25 := ⟨Tryd.call25⟩
instance callee_26 : Callee Tryd.prog 26 := ⟨Tryd.call26⟩
instance callee_27 : Callee Tryd.prog 27 := ⟨Tryd.call27⟩
instance callee_28 : Callee Tryd.prog 28 := ⟨Tryd.call28⟩
instance callee_29 : Callee Tryd.prog 29 := ⟨Tryd.call29⟩
instance callee_30 : Callee Tryd.prog 30 := ⟨Tryd.call30⟩
instance callee_31 : Callee Tryd.prog 31 := ⟨Tryd.call31⟩
instance callee_32 : Callee Tryd.prog 32 := ⟨Tryd.call32⟩
instance callee_33 : Callee Tryd.prog 33 := ⟨Tryd.call33⟩
instance callee_34 : Callee Tryd.prog 34 := ⟨Tryd.call34⟩
instance callee_35 : Callee Tryd.prog 35 := ⟨Tryd.call35⟩
instance callee_36 : Callee Tryd.prog 36 := ⟨Tryd.call36⟩
instance callee_38 : Callee Tryd.prog 38 := ⟨Tryd.call38⟩
instance callee_39 : Callee Tryd.prog 39 := ⟨Tryd.call39⟩
instance callee_40 : Callee Tryd.prog 40 := ⟨Tryd.call40⟩
instance callee_41 : Callee Tryd.prog 41 := ⟨Tryd.call41⟩
instance callee_42 : Callee Tryd.prog 42 := ⟨Tryd.call42⟩
instance callee_44 : Callee Tryd.prog 44 := ⟨Tryd.call44⟩
instance callee_45 : Callee Tryd.prog 45 := ⟨Tryd.call45⟩
instance callee_49 : Callee Tryd.prog 49 := ⟨Tryd.call49⟩
instance callee_71 : Callee Tryd.prog 71 := ⟨Tryd.call71⟩
instance resT_2 : ResT Tryd.f2 [] := ⟨rfl⟩
instance resT_3 : ResT Tryd.f3 [2] := ⟨rfl⟩
instance resT_4 : ResT Tryd.f4 [2, 3] := ⟨rfl⟩
instance resT_5 : ResT Tryd.f5 [2] := ⟨rfl⟩
instance resT_6 : ResT Tryd.f6 [4] := ⟨rfl⟩
instance resT_7 : ResT Tryd.f7 [2] := ⟨rfl⟩
instance resT_8 : ResT Tryd.f8 [0] := ⟨rfl⟩
instance resT_9 : ResT Tryd.f9 [4] := ⟨rfl⟩
instance resT_10 : ResT Tryd.f10 [4] := ⟨rfl⟩
instance resT_11 : ResT Tryd.f11 [4] := ⟨rfl⟩
instance resT_12 : ResT Tryd.f12 [2] := ⟨rfl⟩
instance resT_13 : ResT Tryd.f13 [2] := ⟨rfl⟩
instance resT_14 : ResT Tryd.f14 [2, 3] := ⟨rfl⟩
instance resT_15 : ResT Tryd.f15 [4] := ⟨rfl⟩
instance resT_16 : ResT Tryd.f16 [6, 7] := ⟨rfl⟩
instance resT_17 : ResT Tryd.f17 [4] := ⟨rfl⟩
instance resT_18 : ResT Tryd.f18 [4] := ⟨rfl⟩
instance resT_19 : ResT Tryd.f19 [8] := ⟨rfl⟩
instance resT_20 : ResT Tryd.f20 [4] := ⟨rfl⟩
instance resT_21 : ResT Tryd.f21 [2] := ⟨rfl⟩
instance resT_22 : ResT Tryd.f22 [2] := ⟨rfl⟩
instance resT_23 : ResT Tryd.f23 [4] := ⟨rfl⟩
instance resT_24 : ResT Tryd.f24 [4] := ⟨rfl⟩
instance resT_25 : ResT Tryd.f25 [4] := ⟨rfl⟩
instance resT_26 : ResT Tryd.f26 [4] := ⟨rfl⟩
instance resT_27 : ResT Tryd.f27 [4] := ⟨rfl⟩
instance resT_28 : ResT Tryd.f28 [4] := ⟨rfl⟩
instance resT_29 : ResT Tryd.f29 [4] := ⟨rfl⟩
instance resT_30 : ResT Tryd.f30 [4] := ⟨rfl⟩
instance resT_31 : ResT Tryd.f31 [4] := ⟨rfl⟩
instance resT_32 : ResT Tryd.f32 [] := ⟨rfl⟩
instance resT_33 : ResT Tryd.f33 [4, 5] := ⟨rfl⟩
instance resT_34 : ResT Tryd.f34 [2] := ⟨rfl⟩
instance resT_35 : ResT Tryd.f35 [2] := ⟨rfl⟩
instance resT_36 : ResT Tryd.f36 [2, 3] := ⟨rfl⟩
instance resT_38 : ResT Tryd.f38 [4] := ⟨rfl⟩
instance resT_39 : ResT Tryd.f39 [] := ⟨rfl⟩
instance resT_40 : ResT Tryd.f40 [] := ⟨rfl⟩
instance resT_41 : ResT Tryd.f41 [2, 3] := ⟨rfl⟩
instance resT_42 : ResT Tryd.f42 [4] := ⟨rfl⟩
instance resT_44 : ResT Tryd.f44 [2] := ⟨rfl⟩
instance resT_45 : ResT Tryd.f45 [4] := ⟨rfl⟩
instance resT_49 : ResT Tryd.f49 [2, 3] := ⟨rfl⟩
instance resT_71 : ResT Tryd.f71 [] := ⟨rfl⟩
instance natIdx_c2 : NatIdx 2 2 := ⟨rfl⟩
instance natIdx_c3 : NatIdx 3 3 := ⟨rfl⟩
instance natIdx_c4 : NatIdx 4 4 := ⟨rfl⟩
instance natIdx_c6 : NatIdx 6 6 := ⟨rfl⟩
instance natIdx_c7 : NatIdx 7 7 := ⟨rfl⟩
instance natIdx_c8 : NatIdx 8 8 := ⟨rfl⟩
instance natIdx_c12 : NatIdx 12 12 := ⟨rfl⟩
instance natIdx_c15 : NatIdx 15 15 := ⟨rfl⟩
instance natIdx_c16 : NatIdx 16 16 := ⟨rfl⟩
instance natIdx_c18 : NatIdx 18 18 := ⟨rfl⟩
instance natIdx_c31 : NatIdx 31 31 := ⟨rfl⟩
instance natIdx_c32 : NatIdx 32 32 := ⟨rfl⟩
instance natIdx_c47 : NatIdx 47 47 := ⟨rfl⟩
instance natIdx_c63 : NatIdx 63 63 := ⟨rfl⟩
instance natIdx_c64 : NatIdx 64 64 := ⟨rfl⟩
instance natIdx_c65 : NatIdx 65 65 := ⟨rfl⟩
instance natIdx_c110 : NatIdx 110 110 := ⟨rfl⟩
instance natIdx_c111 : NatIdx 111 111 := ⟨rfl⟩
instance natIdx_c112 : NatIdx 112 112 := ⟨rfl⟩
instance natIdx_c126 : NatIdx 126 126 := ⟨rfl⟩
instance natIdx_c128 : NatIdx 128 128 := ⟨rfl⟩
instance natIdx_c143 : NatIdx 143 143 := ⟨rfl⟩
instance natIdx_c144 : NatIdx 144 144 := ⟨rfl⟩
instance natIdx_c159 : NatIdx 159 159 := ⟨rfl⟩
instance natIdx_c160 : NatIdx 160 160 := ⟨rfl⟩
instance natIdx_c191 : NatIdx 191 191 := ⟨rfl⟩
instance natIdx_c240 : NatIdx 240 240 := ⟨rfl⟩
instance natIdx_c1024 : NatIdx 1024 1024 := ⟨rfl⟩
instance natIdx_c65533 : NatIdx 65533 65533 := ⟨rfl⟩
instance natIdx_c16777619 : NatIdx 16777619 16777619 := ⟨rfl⟩
theorem mixed : Tryd.prog.follows .mixedOrders = true := by kernel_rfl
end Go.Proofs.YtmngmmjmphknlaaDoor.S
