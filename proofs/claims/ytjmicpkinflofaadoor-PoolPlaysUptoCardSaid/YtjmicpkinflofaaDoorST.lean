/- What the program's tables say of its types and functions. Printed by wip/stab.py of this session; Lean checks it. -/
import Derived.Test.YtjmicpkinflofaaDoorS12
import Derived.Test.YtjmicpkinflofaaDoorProg
namespace Go.Proofs.YtjmicpkinflofaaDoor.S
set_option linter.unusedVariables false

instance und_2 : Und Tryd.prog 2 (.int .i64) := ⟨Tryd.underlying2⟩
instance siz_2 : Siz Tryd.prog 2 1 := ⟨Tryd.sizeOf2⟩
instance agg_2 : Agg Tryd.prog 2 false := ⟨Tryd.isAgg2⟩
instance byt_2 : Byt Tryd.prog 2 8 := ⟨fun w => ⟨_, Tryd.typeInfo2 w, rfl⟩⟩
instance zro_2 : Zro Tryd.prog 2 (.int .i64 0) := ⟨Tryd.zeroValue2⟩
instance und_3 : Und Tryd.prog 3 (.int .i64) := ⟨Tryd.underlying3⟩
instance siz_3 : Siz Tryd.prog 3 1 := ⟨Tryd.sizeOf3⟩
instance agg_3 : Agg Tryd.prog 3 false := ⟨Tryd.isAgg3⟩
instance byt_3 : Byt Tryd.prog 3 8 := ⟨fun w => ⟨_, Tryd.typeInfo3 w, rfl⟩⟩
instance zro_3 : Zro Tryd.prog 3 (.int .i64 0) := ⟨Tryd.zeroValue3⟩
instance und_4 : Und Tryd.prog 4 (.bool) := ⟨Tryd.underlying4⟩
instance siz_4 : Siz Tryd.prog 4 1 := ⟨Tryd.sizeOf4⟩
instance agg_4 : Agg Tryd.prog 4 false := ⟨Tryd.isAgg4⟩
instance byt_4 : Byt Tryd.prog 4 1 := ⟨fun w => ⟨_, Tryd.typeInfo4 w, rfl⟩⟩
instance zro_4 : Zro Tryd.prog 4 (.bool false) := ⟨Tryd.zeroValue4⟩
instance und_5 : Und Tryd.prog 5 (.int .u8) := ⟨Tryd.underlying5⟩
instance siz_5 : Siz Tryd.prog 5 1 := ⟨Tryd.sizeOf5⟩
instance agg_5 : Agg Tryd.prog 5 false := ⟨Tryd.isAgg5⟩
instance byt_5 : Byt Tryd.prog 5 1 := ⟨fun w => ⟨_, Tryd.typeInfo5 w, rfl⟩⟩
instance zro_5 : Zro Tryd.prog 5 (.int .u8 0) := ⟨Tryd.zeroValue5⟩
instance und_9 : Und Tryd.prog 9 (.string) := ⟨Tryd.underlying9⟩
instance siz_9 : Siz Tryd.prog 9 1 := ⟨Tryd.sizeOf9⟩
instance agg_9 : Agg Tryd.prog 9 false := ⟨Tryd.isAgg9⟩
instance byt_9 : Byt Tryd.prog 9 16 := ⟨fun w => ⟨_, Tryd.typeInfo9 w, rfl⟩⟩
instance zro_9 : Zro Tryd.prog 9 (.string ⟨#[]⟩) := ⟨Tryd.zeroValue9⟩
instance und_22 : Und Tryd.prog 22 (.slice 37) := ⟨Tryd.underlying22⟩
instance siz_22 : Siz Tryd.prog 22 1 := ⟨Tryd.sizeOf22⟩
instance agg_22 : Agg Tryd.prog 22 false := ⟨Tryd.isAgg22⟩
instance byt_22 : Byt Tryd.prog 22 24 := ⟨fun w => ⟨_, Tryd.typeInfo22 w, rfl⟩⟩
instance zro_22 : Zro Tryd.prog 22 (.slice none 0 0) := ⟨Tryd.zeroValue22⟩
instance und_23 : Und Tryd.prog 23 (.pointer 30) := ⟨Tryd.underlying23⟩
instance siz_23 : Siz Tryd.prog 23 1 := ⟨Tryd.sizeOf23⟩
instance agg_23 : Agg Tryd.prog 23 false := ⟨Tryd.isAgg23⟩
instance byt_23 : Byt Tryd.prog 23 8 := ⟨fun w => ⟨_, Tryd.typeInfo23 w, rfl⟩⟩
instance zro_23 : Zro Tryd.prog 23 (.pointer none) := ⟨Tryd.zeroValue23⟩
instance und_24 : Und Tryd.prog 24 (.pointer 85) := ⟨Tryd.underlying24⟩
instance siz_24 : Siz Tryd.prog 24 1 := ⟨Tryd.sizeOf24⟩
instance agg_24 : Agg Tryd.prog 24 false := ⟨Tryd.isAgg24⟩
instance byt_24 : Byt Tryd.prog 24 8 := ⟨fun w => ⟨_, Tryd.typeInfo24 w, rfl⟩⟩
instance zro_24 : Zro Tryd.prog 24 (.pointer none) := ⟨Tryd.zeroValue24⟩
instance und_25 : Und Tryd.prog 25 (.array 3 24) := ⟨Tryd.underlying25⟩
instance siz_25 : Siz Tryd.prog 25 3 := ⟨Tryd.sizeOf25⟩
instance agg_25 : Agg Tryd.prog 25 true := ⟨Tryd.isAgg25⟩
instance byt_25 : Byt Tryd.prog 25 24 := ⟨fun w => ⟨_, Tryd.typeInfo25 w, rfl⟩⟩
instance zro_25 : Zro Tryd.prog 25 (.agg #[.pointer none, .pointer none, .pointer none]) := ⟨Tryd.zeroValue25⟩
instance und_26 : Und Tryd.prog 26 (.pointer 90) := ⟨Tryd.underlying26⟩
instance siz_26 : Siz Tryd.prog 26 1 := ⟨Tryd.sizeOf26⟩
instance agg_26 : Agg Tryd.prog 26 false := ⟨Tryd.isAgg26⟩
instance byt_26 : Byt Tryd.prog 26 8 := ⟨fun w => ⟨_, Tryd.typeInfo26 w, rfl⟩⟩
instance zro_26 : Zro Tryd.prog 26 (.pointer none) := ⟨Tryd.zeroValue26⟩
instance und_27 : Und Tryd.prog 27 (.array 3 26) := ⟨Tryd.underlying27⟩
instance siz_27 : Siz Tryd.prog 27 3 := ⟨Tryd.sizeOf27⟩
instance agg_27 : Agg Tryd.prog 27 true := ⟨Tryd.isAgg27⟩
instance byt_27 : Byt Tryd.prog 27 24 := ⟨fun w => ⟨_, Tryd.typeInfo27 w, rfl⟩⟩
instance zro_27 : Zro Tryd.prog 27 (.agg #[.pointer none, .pointer none, .pointer none]) := ⟨Tryd.zeroValue27⟩
instance und_28 : Und Tryd.prog 28 (.slice 54) := ⟨Tryd.underlying28⟩
instance siz_28 : Siz Tryd.prog 28 1 := ⟨Tryd.sizeOf28⟩
instance agg_28 : Agg Tryd.prog 28 false := ⟨Tryd.isAgg28⟩
instance byt_28 : Byt Tryd.prog 28 24 := ⟨fun w => ⟨_, Tryd.typeInfo28 w, rfl⟩⟩
instance zro_28 : Zro Tryd.prog 28 (.slice none 0 0) := ⟨Tryd.zeroValue28⟩
instance siz_30 : Siz Tryd.prog 30 8 := ⟨Tryd.sizeOf30⟩
instance agg_30 : Agg Tryd.prog 30 true := ⟨Tryd.isAgg30⟩
instance byt_30 : Byt Tryd.prog 30 80 := ⟨fun w => ⟨_, Tryd.typeInfo30 w, rfl⟩⟩
instance zro_30 : Zro Tryd.prog 30 (.agg #[.pointer none, .pointer none, .pointer none, .pointer none, .pointer none, .pointer none, .slice none 0 0, .int .i64 0]) := ⟨Tryd.zeroValue30⟩
instance und_32 : Und Tryd.prog 32 (.slice 69) := ⟨Tryd.underlying32⟩
instance siz_32 : Siz Tryd.prog 32 1 := ⟨Tryd.sizeOf32⟩
instance agg_32 : Agg Tryd.prog 32 false := ⟨Tryd.isAgg32⟩
instance byt_32 : Byt Tryd.prog 32 24 := ⟨fun w => ⟨_, Tryd.typeInfo32 w, rfl⟩⟩
instance zro_32 : Zro Tryd.prog 32 (.slice none 0 0) := ⟨Tryd.zeroValue32⟩
instance und_33 : Und Tryd.prog 33 (.slice 3) := ⟨Tryd.underlying33⟩
instance siz_33 : Siz Tryd.prog 33 1 := ⟨Tryd.sizeOf33⟩
instance agg_33 : Agg Tryd.prog 33 false := ⟨Tryd.isAgg33⟩
instance byt_33 : Byt Tryd.prog 33 24 := ⟨fun w => ⟨_, Tryd.typeInfo33 w, rfl⟩⟩
instance zro_33 : Zro Tryd.prog 33 (.slice none 0 0) := ⟨Tryd.zeroValue33⟩
instance siz_35 : Siz Tryd.prog 35 2 := ⟨Tryd.sizeOf35⟩
instance agg_35 : Agg Tryd.prog 35 true := ⟨Tryd.isAgg35⟩
instance byt_35 : Byt Tryd.prog 35 48 := ⟨fun w => ⟨_, Tryd.typeInfo35 w, rfl⟩⟩
instance zro_35 : Zro Tryd.prog 35 (.agg #[.slice none 0 0, .slice none 0 0]) := ⟨Tryd.zeroValue35⟩
instance siz_37 : Siz Tryd.prog 37 9 := ⟨Tryd.sizeOf37⟩
instance agg_37 : Agg Tryd.prog 37 true := ⟨Tryd.isAgg37⟩
instance byt_37 : Byt Tryd.prog 37 120 := ⟨fun w => ⟨_, Tryd.typeInfo37 w, rfl⟩⟩
instance zro_37 : Zro Tryd.prog 37 (.agg #[.int .i64 0, .int .i64 0, .int .i64 0, .int .i64 0, .int .i64 0, .string ⟨#[]⟩, .string ⟨#[]⟩, .slice none 0 0, .slice none 0 0]) := ⟨Tryd.zeroValue37⟩
instance und_42 : Und Tryd.prog 42 (.int .i64) := ⟨Tryd.underlying42⟩
instance siz_42 : Siz Tryd.prog 42 1 := ⟨Tryd.sizeOf42⟩
instance agg_42 : Agg Tryd.prog 42 false := ⟨Tryd.isAgg42⟩
instance byt_42 : Byt Tryd.prog 42 8 := ⟨fun w => ⟨_, Tryd.typeInfo42 w, rfl⟩⟩
instance zro_42 : Zro Tryd.prog 42 (.int .i64 0) := ⟨Tryd.zeroValue42⟩
instance siz_54 : Siz Tryd.prog 54 8 := ⟨Tryd.sizeOf54⟩
instance agg_54 : Agg Tryd.prog 54 true := ⟨Tryd.isAgg54⟩
instance byt_54 : Byt Tryd.prog 54 192 := ⟨fun w => ⟨_, Tryd.typeInfo54 w, rfl⟩⟩
instance zro_54 : Zro Tryd.prog 54 (.agg #[.slice none 0 0, .slice none 0 0, .slice none 0 0, .slice none 0 0, .slice none 0 0, .slice none 0 0, .slice none 0 0, .slice none 0 0]) := ⟨Tryd.zeroValue54⟩
instance siz_69 : Siz Tryd.prog 69 4 := ⟨Tryd.sizeOf69⟩
instance agg_69 : Agg Tryd.prog 69 true := ⟨Tryd.isAgg69⟩
instance byt_69 : Byt Tryd.prog 69 48 := ⟨fun w => ⟨_, Tryd.typeInfo69 w, rfl⟩⟩
instance zro_69 : Zro Tryd.prog 69 (.agg #[.string ⟨#[]⟩, .string ⟨#[]⟩, .int .i64 0, .int .i64 0]) := ⟨Tryd.zeroValue69⟩
instance und_79 : Und Tryd.prog 79 (.slice 88) := ⟨Tryd.underlying79⟩
instance siz_79 : Siz Tryd.prog 79 1 := ⟨Tryd.sizeOf79⟩
instance agg_79 : Agg Tryd.prog 79 false := ⟨Tryd.isAgg79⟩
instance byt_79 : Byt Tryd.prog 79 24 := ⟨fun w => ⟨_, Tryd.typeInfo79 w, rfl⟩⟩
instance zro_79 : Zro Tryd.prog 79 (.slice none 0 0) := ⟨Tryd.zeroValue79⟩
instance und_80 : Und Tryd.prog 80 (.map 9 3) := ⟨Tryd.underlying80⟩
instance siz_80 : Siz Tryd.prog 80 1 := ⟨Tryd.sizeOf80⟩
instance agg_80 : Agg Tryd.prog 80 false := ⟨Tryd.isAgg80⟩
instance byt_80 : Byt Tryd.prog 80 8 := ⟨fun w => ⟨_, Tryd.typeInfo80 w, rfl⟩⟩
instance zro_80 : Zro Tryd.prog 80 (.map none) := ⟨Tryd.zeroValue80⟩
instance und_81 : Und Tryd.prog 81 (.map 3 3) := ⟨Tryd.underlying81⟩
instance siz_81 : Siz Tryd.prog 81 1 := ⟨Tryd.sizeOf81⟩
instance agg_81 : Agg Tryd.prog 81 false := ⟨Tryd.isAgg81⟩
instance byt_81 : Byt Tryd.prog 81 8 := ⟨fun w => ⟨_, Tryd.typeInfo81 w, rfl⟩⟩
instance zro_81 : Zro Tryd.prog 81 (.map none) := ⟨Tryd.zeroValue81⟩
instance siz_83 : Siz Tryd.prog 83 3 := ⟨Tryd.sizeOf83⟩
instance agg_83 : Agg Tryd.prog 83 true := ⟨Tryd.isAgg83⟩
instance byt_83 : Byt Tryd.prog 83 40 := ⟨fun w => ⟨_, Tryd.typeInfo83 w, rfl⟩⟩
instance zro_83 : Zro Tryd.prog 83 (.agg #[.slice none 0 0, .int .i64 0, .int .i64 0]) := ⟨Tryd.zeroValue83⟩
instance siz_85 : Siz Tryd.prog 85 7 := ⟨Tryd.sizeOf85⟩
instance agg_85 : Agg Tryd.prog 85 true := ⟨Tryd.isAgg85⟩
instance byt_85 : Byt Tryd.prog 85 88 := ⟨fun w => ⟨_, Tryd.typeInfo85 w, rfl⟩⟩
instance zro_85 : Zro Tryd.prog 85 (.agg #[.int .i64 0, .slice none 0 0, .map none, .map none, .slice none 0 0, .int .i64 0, .int .i64 0]) := ⟨Tryd.zeroValue85⟩
instance siz_88 : Siz Tryd.prog 88 5 := ⟨Tryd.sizeOf88⟩
instance agg_88 : Agg Tryd.prog 88 true := ⟨Tryd.isAgg88⟩
instance byt_88 : Byt Tryd.prog 88 56 := ⟨fun w => ⟨_, Tryd.typeInfo88 w, rfl⟩⟩
instance zro_88 : Zro Tryd.prog 88 (.agg #[.string ⟨#[]⟩, .string ⟨#[]⟩, .int .i64 0, .int .i64 0, .bool false]) := ⟨Tryd.zeroValue88⟩
instance siz_90 : Siz Tryd.prog 90 3 := ⟨Tryd.sizeOf90⟩
instance agg_90 : Agg Tryd.prog 90 true := ⟨Tryd.isAgg90⟩
instance byt_90 : Byt Tryd.prog 90 56 := ⟨fun w => ⟨_, Tryd.typeInfo90 w, rfl⟩⟩
instance zro_90 : Zro Tryd.prog 90 (.agg #[.int .i64 0, .slice none 0 0, .slice none 0 0]) := ⟨Tryd.zeroValue90⟩
instance und_110 : Und Tryd.prog 110 (.pointer 83) := ⟨Tryd.underlying110⟩
instance siz_110 : Siz Tryd.prog 110 1 := ⟨Tryd.sizeOf110⟩
instance agg_110 : Agg Tryd.prog 110 false := ⟨Tryd.isAgg110⟩
instance byt_110 : Byt Tryd.prog 110 8 := ⟨fun w => ⟨_, Tryd.typeInfo110 w, rfl⟩⟩
instance zro_110 : Zro Tryd.prog 110 (.pointer none) := ⟨Tryd.zeroValue110⟩
instance und_115 : Und Tryd.prog 115 (.array 24 5) := ⟨Tryd.underlying115⟩
instance siz_115 : Siz Tryd.prog 115 24 := ⟨Tryd.sizeOf115⟩
instance agg_115 : Agg Tryd.prog 115 true := ⟨Tryd.isAgg115⟩
instance byt_115 : Byt Tryd.prog 115 24 := ⟨fun w => ⟨_, Tryd.typeInfo115 w, rfl⟩⟩
instance zro_115 : Zro Tryd.prog 115 (.agg #[.int .u8 0, .int .u8 0, .int .u8 0, .int .u8 0, .int .u8 0, .int .u8 0, .int .u8 0, .int .u8 0, .int .u8 0, .int .u8 0, .int .u8 0, .int .u8 0, .int .u8 0, .int .u8 0, .int .u8 0, .int .u8 0, .int .u8 0, .int .u8 0, .int .u8 0, .int .u8 0, .int .u8 0, .int .u8 0, .int .u8 0, .int .u8 0]) := ⟨Tryd.zeroValue115⟩
instance und_116 : Und Tryd.prog 116 (.int .u64) := ⟨Tryd.underlying116⟩
instance siz_116 : Siz Tryd.prog 116 1 := ⟨Tryd.sizeOf116⟩
instance agg_116 : Agg Tryd.prog 116 false := ⟨Tryd.isAgg116⟩
instance byt_116 : Byt Tryd.prog 116 8 := ⟨fun w => ⟨_, Tryd.typeInfo116 w, rfl⟩⟩
instance zro_116 : Zro Tryd.prog 116 (.int .u64 0) := ⟨Tryd.zeroValue116⟩
instance und_119 : Und Tryd.prog 119 (.slice 5) := ⟨Tryd.underlying119⟩
instance siz_119 : Siz Tryd.prog 119 1 := ⟨Tryd.sizeOf119⟩
instance agg_119 : Agg Tryd.prog 119 false := ⟨Tryd.isAgg119⟩
instance byt_119 : Byt Tryd.prog 119 24 := ⟨fun w => ⟨_, Tryd.typeInfo119 w, rfl⟩⟩
instance zro_119 : Zro Tryd.prog 119 (.slice none 0 0) := ⟨Tryd.zeroValue119⟩
instance und_123 : Und Tryd.prog 123 (.array 20 116) := ⟨Tryd.underlying123⟩
instance siz_123 : Siz Tryd.prog 123 20 := ⟨Tryd.sizeOf123⟩
instance agg_123 : Agg Tryd.prog 123 true := ⟨Tryd.isAgg123⟩
instance byt_123 : Byt Tryd.prog 123 160 := ⟨fun w => ⟨_, Tryd.typeInfo123 w, rfl⟩⟩
instance zro_123 : Zro Tryd.prog 123 (.agg #[.int .u64 0, .int .u64 0, .int .u64 0, .int .u64 0, .int .u64 0, .int .u64 0, .int .u64 0, .int .u64 0, .int .u64 0, .int .u64 0, .int .u64 0, .int .u64 0, .int .u64 0, .int .u64 0, .int .u64 0, .int .u64 0, .int .u64 0, .int .u64 0, .int .u64 0, .int .u64 0]) := ⟨Tryd.zeroValue123⟩
instance und_124 : Und Tryd.prog 124 (.int .u32) := ⟨Tryd.underlying124⟩
instance siz_124 : Siz Tryd.prog 124 1 := ⟨Tryd.sizeOf124⟩
instance agg_124 : Agg Tryd.prog 124 false := ⟨Tryd.isAgg124⟩
instance byt_124 : Byt Tryd.prog 124 4 := ⟨fun w => ⟨_, Tryd.typeInfo124 w, rfl⟩⟩
instance zro_124 : Zro Tryd.prog 124 (.int .u32 0) := ⟨Tryd.zeroValue124⟩
instance und_125 : Und Tryd.prog 125 (.array 65 5) := ⟨Tryd.underlying125⟩
instance siz_125 : Siz Tryd.prog 125 65 := ⟨Tryd.sizeOf125⟩
instance agg_125 : Agg Tryd.prog 125 true := ⟨Tryd.isAgg125⟩
instance byt_125 : Byt Tryd.prog 125 65 := ⟨fun w => ⟨_, Tryd.typeInfo125 w, rfl⟩⟩
instance und_126 : Und Tryd.prog 126 (.int .u64) := ⟨Tryd.underlying126⟩
instance siz_126 : Siz Tryd.prog 126 1 := ⟨Tryd.sizeOf126⟩
instance agg_126 : Agg Tryd.prog 126 false := ⟨Tryd.isAgg126⟩
instance byt_126 : Byt Tryd.prog 126 8 := ⟨fun w => ⟨_, Tryd.typeInfo126 w, rfl⟩⟩
instance zro_126 : Zro Tryd.prog 126 (.int .u64 0) := ⟨Tryd.zeroValue126⟩
instance und_129 : Und Tryd.prog 129 (.array 32 5) := ⟨Tryd.underlying129⟩
instance siz_129 : Siz Tryd.prog 129 32 := ⟨Tryd.sizeOf129⟩
instance agg_129 : Agg Tryd.prog 129 true := ⟨Tryd.isAgg129⟩
instance byt_129 : Byt Tryd.prog 129 32 := ⟨fun w => ⟨_, Tryd.typeInfo129 w, rfl⟩⟩
instance zro_129 : Zro Tryd.prog 129 (.agg #[.int .u8 0, .int .u8 0, .int .u8 0, .int .u8 0, .int .u8 0, .int .u8 0, .int .u8 0, .int .u8 0, .int .u8 0, .int .u8 0, .int .u8 0, .int .u8 0, .int .u8 0, .int .u8 0, .int .u8 0, .int .u8 0, .int .u8 0, .int .u8 0, .int .u8 0, .int .u8 0, .int .u8 0, .int .u8 0, .int .u8 0, .int .u8 0, .int .u8 0, .int .u8 0, .int .u8 0, .int .u8 0, .int .u8 0, .int .u8 0, .int .u8 0, .int .u8 0]) := ⟨Tryd.zeroValue129⟩
instance und_130 : Und Tryd.prog 130 (.array 64 5) := ⟨Tryd.underlying130⟩
instance siz_130 : Siz Tryd.prog 130 64 := ⟨Tryd.sizeOf130⟩
instance agg_130 : Agg Tryd.prog 130 true := ⟨Tryd.isAgg130⟩
instance byt_130 : Byt Tryd.prog 130 64 := ⟨fun w => ⟨_, Tryd.typeInfo130 w, rfl⟩⟩
instance zro_130 : Zro Tryd.prog 130 (.agg #[.int .u8 0, .int .u8 0, .int .u8 0, .int .u8 0, .int .u8 0, .int .u8 0, .int .u8 0, .int .u8 0, .int .u8 0, .int .u8 0, .int .u8 0, .int .u8 0, .int .u8 0, .int .u8 0, .int .u8 0, .int .u8 0, .int .u8 0, .int .u8 0, .int .u8 0, .int .u8 0, .int .u8 0, .int .u8 0, .int .u8 0, .int .u8 0, .int .u8 0, .int .u8 0, .int .u8 0, .int .u8 0, .int .u8 0, .int .u8 0, .int .u8 0, .int .u8 0, .int .u8 0, .int .u8 0, .int .u8 0, .int .u8 0, .int .u8 0, .int .u8 0, .int .u8 0, .int .u8 0, .int .u8 0, .int .u8 0, .int .u8 0, .int .u8 0, .int .u8 0, .int .u8 0, .int .u8 0, .int .u8 0, .int .u8 0, .int .u8 0, .int .u8 0, .int .u8 0, .int .u8 0, .int .u8 0, .int .u8 0, .int .u8 0, .int .u8 0, .int .u8 0, .int .u8 0, .int .u8 0, .int .u8 0, .int .u8 0, .int .u8 0, .int .u8 0]) := ⟨Tryd.zeroValue130⟩
instance strT_69 : StrT Tryd.prog 69 [(9, 0), (9, 1), (3, 2), (3, 3)] := ⟨_, Tryd.underlying69, Tryd.stoodInHeld69, Tryd.eqGuardType69, rfl, by decide⟩
instance foff_30_0 : FOff Tryd.prog 30 0 0 := fOff_of (n := 2) Tryd.underlying30 rfl Tryd.sizeOf25 rfl
instance foff_30_1 : FOff Tryd.prog 30 1 3 := fOff_of (n := 2) Tryd.underlying30 rfl Tryd.sizeOf27 rfl
instance foff_30_2 : FOff Tryd.prog 30 2 6 := fOff_of (n := 0) Tryd.underlying30 rfl Tryd.sizeOf28 rfl
instance foff_30_3 : FOff Tryd.prog 30 3 7 := fOff_of (n := 0) Tryd.underlying30 rfl Tryd.sizeOf3 rfl
instance foff_35_0 : FOff Tryd.prog 35 0 0 := fOff_of (n := 0) Tryd.underlying35 rfl Tryd.sizeOf32 rfl
instance foff_35_1 : FOff Tryd.prog 35 1 1 := fOff_of (n := 0) Tryd.underlying35 rfl Tryd.sizeOf33 rfl
instance foff_37_0 : FOff Tryd.prog 37 0 0 := fOff_of (n := 0) Tryd.underlying37 rfl Tryd.sizeOf3 rfl
instance foff_37_1 : FOff Tryd.prog 37 1 1 := fOff_of (n := 0) Tryd.underlying37 rfl Tryd.sizeOf3 rfl
instance foff_37_2 : FOff Tryd.prog 37 2 2 := fOff_of (n := 0) Tryd.underlying37 rfl Tryd.sizeOf3 rfl
instance foff_37_3 : FOff Tryd.prog 37 3 3 := fOff_of (n := 0) Tryd.underlying37 rfl Tryd.sizeOf3 rfl
instance foff_37_4 : FOff Tryd.prog 37 4 4 := fOff_of (n := 0) Tryd.underlying37 rfl Tryd.sizeOf3 rfl
instance foff_37_5 : FOff Tryd.prog 37 5 5 := fOff_of (n := 0) Tryd.underlying37 rfl Tryd.sizeOf9 rfl
instance foff_37_6 : FOff Tryd.prog 37 6 6 := fOff_of (n := 0) Tryd.underlying37 rfl Tryd.sizeOf9 rfl
instance foff_37_7 : FOff Tryd.prog 37 7 7 := fOff_of (n := 1) Tryd.underlying37 rfl Tryd.sizeOf35 rfl
instance foff_54_0 : FOff Tryd.prog 54 0 0 := fOff_of (n := 0) Tryd.underlying54 rfl Tryd.sizeOf32 rfl
instance foff_54_1 : FOff Tryd.prog 54 1 1 := fOff_of (n := 0) Tryd.underlying54 rfl Tryd.sizeOf32 rfl
instance foff_54_2 : FOff Tryd.prog 54 2 2 := fOff_of (n := 0) Tryd.underlying54 rfl Tryd.sizeOf32 rfl
instance foff_54_3 : FOff Tryd.prog 54 3 3 := fOff_of (n := 0) Tryd.underlying54 rfl Tryd.sizeOf32 rfl
instance foff_54_4 : FOff Tryd.prog 54 4 4 := fOff_of (n := 0) Tryd.underlying54 rfl Tryd.sizeOf33 rfl
instance foff_54_5 : FOff Tryd.prog 54 5 5 := fOff_of (n := 0) Tryd.underlying54 rfl Tryd.sizeOf33 rfl
instance foff_54_6 : FOff Tryd.prog 54 6 6 := fOff_of (n := 0) Tryd.underlying54 rfl Tryd.sizeOf33 rfl
instance foff_54_7 : FOff Tryd.prog 54 7 7 := fOff_of (n := 0) Tryd.underlying54 rfl Tryd.sizeOf33 rfl
instance foff_69_0 : FOff Tryd.prog 69 0 0 := fOff_of (n := 0) Tryd.underlying69 rfl Tryd.sizeOf9 rfl
instance foff_69_1 : FOff Tryd.prog 69 1 1 := fOff_of (n := 0) Tryd.underlying69 rfl Tryd.sizeOf9 rfl
instance foff_69_2 : FOff Tryd.prog 69 2 2 := fOff_of (n := 0) Tryd.underlying69 rfl Tryd.sizeOf3 rfl
instance foff_69_3 : FOff Tryd.prog 69 3 3 := fOff_of (n := 0) Tryd.underlying69 rfl Tryd.sizeOf3 rfl
instance foff_83_0 : FOff Tryd.prog 83 0 0 := fOff_of (n := 0) Tryd.underlying83 rfl Tryd.sizeOf33 rfl
instance foff_83_1 : FOff Tryd.prog 83 1 1 := fOff_of (n := 0) Tryd.underlying83 rfl Tryd.sizeOf3 rfl
instance foff_83_2 : FOff Tryd.prog 83 2 2 := fOff_of (n := 0) Tryd.underlying83 rfl Tryd.sizeOf3 rfl
instance foff_85_0 : FOff Tryd.prog 85 0 0 := fOff_of (n := 0) Tryd.underlying85 rfl Tryd.sizeOf3 rfl
instance foff_85_1 : FOff Tryd.prog 85 1 1 := fOff_of (n := 0) Tryd.underlying85 rfl Tryd.sizeOf79 rfl
instance foff_85_2 : FOff Tryd.prog 85 2 2 := fOff_of (n := 0) Tryd.underlying85 rfl Tryd.sizeOf80 rfl
instance foff_85_3 : FOff Tryd.prog 85 3 3 := fOff_of (n := 0) Tryd.underlying85 rfl Tryd.sizeOf81 rfl
instance foff_85_4 : FOff Tryd.prog 85 4 4 := fOff_of (n := 2) Tryd.underlying85 rfl Tryd.sizeOf83 rfl
instance foff_88_0 : FOff Tryd.prog 88 0 0 := fOff_of (n := 3) Tryd.underlying88 rfl Tryd.sizeOf69 rfl
instance foff_88_1 : FOff Tryd.prog 88 1 4 := fOff_of (n := 0) Tryd.underlying88 rfl Tryd.sizeOf4 rfl
instance foff_90_0 : FOff Tryd.prog 90 0 0 := fOff_of (n := 0) Tryd.underlying90 rfl Tryd.sizeOf3 rfl
instance foff_90_1 : FOff Tryd.prog 90 1 1 := fOff_of (n := 0) Tryd.underlying90 rfl Tryd.sizeOf32 rfl
instance foff_90_2 : FOff Tryd.prog 90 2 2 := fOff_of (n := 0) Tryd.underlying90 rfl Tryd.sizeOf33 rfl
instance btab_30 : BTab Tryd.prog 30 [.pointer none, .pointer none, .pointer none, .pointer none, .pointer none, .pointer none, .slice none 0 0, .int .i64 0] [(0, 3), (3, 3), (6, 1), (7, 1)] := ⟨fun parts w => by simp [Instr.build]; exact run_fill (fillP _ _ parts.toList)⟩
instance btab_35 : BTab Tryd.prog 35 [.slice none 0 0, .slice none 0 0] [(0, 1), (1, 1)] := ⟨fun parts w => by simp [Instr.build]; exact run_fill (fillP _ _ parts.toList)⟩
instance btab_37 : BTab Tryd.prog 37 [.int .i64 0, .int .i64 0, .int .i64 0, .int .i64 0, .int .i64 0, .string ⟨#[]⟩, .string ⟨#[]⟩, .slice none 0 0, .slice none 0 0] [(0, 1), (1, 1), (2, 1), (3, 1), (4, 1), (5, 1), (6, 1), (7, 2)] := ⟨fun parts w => by simp [Instr.build]; exact run_fill (fillP _ _ parts.toList)⟩
instance btab_54 : BTab Tryd.prog 54 [.slice none 0 0, .slice none 0 0, .slice none 0 0, .slice none 0 0, .slice none 0 0, .slice none 0 0, .slice none 0 0, .slice none 0 0] [(0, 1), (1, 1), (2, 1), (3, 1), (4, 1), (5, 1), (6, 1), (7, 1)] := ⟨fun parts w => by simp [Instr.build]; exact run_fill (fillP _ _ parts.toList)⟩
instance btab_69 : BTab Tryd.prog 69 [.string ⟨#[]⟩, .string ⟨#[]⟩, .int .i64 0, .int .i64 0] [(0, 1), (1, 1), (2, 1), (3, 1)] := ⟨fun parts w => by simp [Instr.build]; exact run_fill (fillP _ _ parts.toList)⟩
instance btab_83 : BTab Tryd.prog 83 [.slice none 0 0, .int .i64 0, .int .i64 0] [(0, 1), (1, 1), (2, 1)] := ⟨fun parts w => by simp [Instr.build]; exact run_fill (fillP _ _ parts.toList)⟩
instance btab_85 : BTab Tryd.prog 85 [.int .i64 0, .slice none 0 0, .map none, .map none, .slice none 0 0, .int .i64 0, .int .i64 0] [(0, 1), (1, 1), (2, 1), (3, 1), (4, 3)] := ⟨fun parts w => by simp [Instr.build]; exact run_fill (fillP _ _ parts.toList)⟩
instance btab_88 : BTab Tryd.prog 88 [.string ⟨#[]⟩, .string ⟨#[]⟩, .int .i64 0, .int .i64 0, .bool false] [(0, 4), (4, 1)] := ⟨fun parts w => by simp [Instr.build]; exact run_fill (fillP _ _ parts.toList)⟩
instance btab_90 : BTab Tryd.prog 90 [.int .i64 0, .slice none 0 0, .slice none 0 0] [(0, 1), (1, 1), (2, 1)] := ⟨fun parts w => by simp [Instr.build]; exact run_fill (fillP _ _ parts.toList)⟩
instance callee_2 : Callee Tryd.prog 2 := ⟨Tryd.call2⟩
instance callee_3 : Callee Tryd.prog 3 := ⟨Tryd.call3⟩
instance callee_4 : Callee Tryd.prog 4 := ⟨Tryd.call4⟩
instance callee_5 : Callee Tryd.prog 5 := ⟨Tryd.call5⟩
instance callee_6 : Callee Tryd.prog 6 := ⟨Tryd.call6⟩
instance callee_7 : Callee Tryd.prog 7 := ⟨Tryd.call7⟩
instance callee_8 : Callee Tryd.prog 8 := ⟨Tryd.call8⟩
instance callee_9 : Callee Tryd.prog 9 := ⟨Tryd.call9⟩
instance callee_10 : Callee Tryd.prog 10 := ⟨Tryd.call10⟩
instance callee_11 : Callee Tryd.prog 11 := ⟨Tryd.call11⟩
instance callee_12 : Callee Tryd.prog 12 := ⟨Tryd.call12⟩
instance callee_13 : Callee Tryd.prog 13 := ⟨Tryd.call13⟩
instance callee_14 : Callee Tryd.prog 14 := ⟨Tryd.call14⟩
instance callee_15 : Callee Tryd.prog 15 := ⟨Tryd.call15⟩
instance callee_16 : Callee Tryd.prog 16 := ⟨Tryd.call16⟩
instance callee_17 : Callee Tryd.prog 17 := ⟨Tryd.call17⟩
instance callee_18 : Callee Tryd.prog 18 := ⟨Tryd.call18⟩
instance callee_19 : Callee Tryd.prog 19 := ⟨Tryd.call19⟩
instance callee_20 : Callee Tryd.prog 20 := ⟨Tryd.call20⟩
instance callee_21 : Callee Tryd.prog 21 := ⟨Tryd.call21⟩
instance callee_22 : Callee Tryd.prog 22 := ⟨Tryd.call22⟩
instance callee_23 : Callee Tryd.prog 23 := ⟨Tryd.call23⟩
instance callee_24 : Callee Tryd.prog 24 := ⟨Tryd.call24⟩
instance callee_25 : Callee Tryd.prog 25 := ⟨Tryd.call25⟩
instance callee_26 : Callee Tryd.prog 26 := ⟨Tryd.call26⟩
instance callee_27 : Callee Tryd.prog 27 := ⟨Tryd.call27⟩
instance callee_28 : Callee Tryd.prog 28 := ⟨Tryd.call28⟩
instance callee_29 : Callee Tryd.prog 29 := ⟨Tryd.call29⟩
instance callee_30 : Callee Tryd.prog 30 := ⟨Tryd.call30⟩
instance callee_31 : Callee Tryd.prog 31 := ⟨Tryd.call31⟩
instance callee_32 : Callee Tryd.prog 32 := ⟨Tryd.call32⟩
instance callee_33 : Callee Tryd.prog 33 := ⟨Tryd.call33⟩
instance callee_34 : Callee Tryd.prog 34 := ⟨Tryd.call34⟩
instance callee_35 : Callee Tryd.prog 35 := ⟨Tryd.call35⟩
instance callee_36 : Callee Tryd.prog 36 := ⟨Tryd.call36⟩
instance callee_37 : Callee Tryd.prog 37 := ⟨Tryd.call37⟩
instance callee_38 : Callee Tryd.prog 38 := ⟨Tryd.call38⟩
instance callee_39 : Callee Tryd.prog 39 := ⟨Tryd.call39⟩
instance callee_40 : Callee Tryd.prog 40 := ⟨Tryd.call40⟩
instance callee_41 : Callee Tryd.prog 41 := ⟨Tryd.call41⟩
instance callee_42 : Callee Tryd.prog 42 := ⟨Tryd.call42⟩
instance callee_43 : Callee Tryd.prog 43 := ⟨Tryd.call43⟩
instance callee_44 : Callee Tryd.prog 44 := ⟨Tryd.call44⟩
instance callee_45 : Callee Tryd.prog 45 := ⟨Tryd.call45⟩
instance callee_46 : Callee Tryd.prog 46 := ⟨Tryd.call46⟩
instance callee_47 : Callee Tryd.prog 47 := ⟨Tryd.call47⟩
instance callee_48 : Callee Tryd.prog 48 := ⟨Tryd.call48⟩
instance callee_49 : Callee Tryd.prog 49 := ⟨Tryd.call49⟩
instance callee_50 : Callee Tryd.prog 50 := ⟨Tryd.call50⟩
instance callee_51 : Callee Tryd.prog 51 := ⟨Tryd.call51⟩
instance callee_52 : Callee Tryd.prog 52 := ⟨Tryd.call52⟩
instance callee_53 : Callee Tryd.prog 53 := ⟨Tryd.call53⟩
instance callee_54 : Callee Tryd.prog 54 := ⟨Tryd.call54⟩
instance callee_55 : Callee Tryd.prog 55 := ⟨Tryd.call55⟩
instance callee_56 : Callee Tryd.prog 56 := ⟨Tryd.call56⟩
instance callee_57 : Callee Tryd.prog 57 := ⟨Tryd.call57⟩
instance callee_58 : Callee Tryd.prog 58 := ⟨Tryd.call58⟩
instance callee_59 : Callee Tryd.prog 59 := ⟨Tryd.call59⟩
instance callee_60 : Callee Tryd.prog 60 := ⟨Tryd.call60⟩
instance callee_61 : Callee Tryd.prog 61 := ⟨Tryd.call61⟩
instance callee_62 : Callee Tryd.prog 62 := ⟨Tryd.call62⟩
instance callee_63 : Callee Tryd.prog 63 := ⟨Tryd.call63⟩
instance callee_64 : Callee Tryd.prog 64 := ⟨Tryd.call64⟩
instance callee_65 : Callee Tryd.prog 65 := ⟨Tryd.call65⟩
instance callee_67 : Callee Tryd.prog 67 := ⟨Tryd.call67⟩
instance callee_68 : Callee Tryd.prog 68 := ⟨Tryd.call68⟩
instance callee_69 : Callee Tryd.prog 69 := ⟨Tryd.call69⟩
instance callee_70 : Callee Tryd.prog 70 := ⟨Tryd.call70⟩
instance callee_71 : Callee Tryd.prog 71 := ⟨Tryd.call71⟩
instance callee_72 : Callee Tryd.prog 72 := ⟨Tryd.call72⟩
instance callee_73 : Callee Tryd.prog 73 := ⟨Tryd.call73⟩
instance callee_74 : Callee Tryd.prog 74 := ⟨Tryd.call74⟩
instance callee_75 : Callee Tryd.prog 75 := ⟨Tryd.call75⟩
instance callee_76 : Callee Tryd.prog 76 := ⟨Tryd.call76⟩
instance callee_77 : Callee Tryd.prog 77 := ⟨Tryd.call77⟩
instance callee_78 : Callee Tryd.prog 78 := ⟨Tryd.call78⟩
instance callee_79 : Callee Tryd.prog 79 := ⟨Tryd.call79⟩
instance callee_80 : Callee Tryd.prog 80 := ⟨Tryd.call80⟩
instance callee_81 : Callee Tryd.prog 81 := ⟨Tryd.call81⟩
instance callee_103 : Callee Tryd.prog 103 := ⟨Tryd.call103⟩
instance resT_2 : ResT Tryd.f2 [] := ⟨rfl⟩
instance resT_3 : ResT Tryd.f3 [2] := ⟨rfl⟩
instance resT_4 : ResT Tryd.f4 [4] := ⟨rfl⟩
instance resT_5 : ResT Tryd.f5 [2] := ⟨rfl⟩
instance resT_6 : ResT Tryd.f6 [2] := ⟨rfl⟩
instance resT_7 : ResT Tryd.f7 [6] := ⟨rfl⟩
instance resT_8 : ResT Tryd.f8 [6] := ⟨rfl⟩
instance resT_9 : ResT Tryd.f9 [2, 3] := ⟨rfl⟩
instance resT_10 : ResT Tryd.f10 [2, 3] := ⟨rfl⟩
instance resT_11 : ResT Tryd.f11 [2] := ⟨rfl⟩
instance resT_12 : ResT Tryd.f12 [4] := ⟨rfl⟩
instance resT_13 : ResT Tryd.f13 [4] := ⟨rfl⟩
instance resT_14 : ResT Tryd.f14 [6] := ⟨rfl⟩
instance resT_15 : ResT Tryd.f15 [6] := ⟨rfl⟩
instance resT_16 : ResT Tryd.f16 [4] := ⟨rfl⟩
instance resT_17 : ResT Tryd.f17 [4] := ⟨rfl⟩
instance resT_18 : ResT Tryd.f18 [10] := ⟨rfl⟩
instance resT_19 : ResT Tryd.f19 [10] := ⟨rfl⟩
instance resT_20 : ResT Tryd.f20 [4] := ⟨rfl⟩
instance resT_21 : ResT Tryd.f21 [4] := ⟨rfl⟩
instance resT_22 : ResT Tryd.f22 [4, 5] := ⟨rfl⟩
instance resT_23 : ResT Tryd.f23 [4, 5] := ⟨rfl⟩
instance resT_24 : ResT Tryd.f24 [10] := ⟨rfl⟩
instance resT_26 : ResT Tryd.f26 [4] := ⟨rfl⟩
instance resT_28 : ResT Tryd.f28 [2] := ⟨rfl⟩
instance resT_29 : ResT Tryd.f29 [2] := ⟨rfl⟩
instance resT_30 : ResT Tryd.f30 [] := ⟨rfl⟩
instance resT_31 : ResT Tryd.f31 [2] := ⟨rfl⟩
instance resT_32 : ResT Tryd.f32 [2] := ⟨rfl⟩
instance resT_35 : ResT Tryd.f35 [4, 5] := ⟨rfl⟩
instance resT_36 : ResT Tryd.f36 [4, 5] := ⟨rfl⟩
instance resT_37 : ResT Tryd.f37 [4, 5] := ⟨rfl⟩
instance resT_38 : ResT Tryd.f38 [4, 5] := ⟨rfl⟩
instance resT_39 : ResT Tryd.f39 [2, 3] := ⟨rfl⟩
instance resT_40 : ResT Tryd.f40 [2] := ⟨rfl⟩
instance resT_41 : ResT Tryd.f41 [4] := ⟨rfl⟩
instance resT_42 : ResT Tryd.f42 [4] := ⟨rfl⟩
instance resT_43 : ResT Tryd.f43 [] := ⟨rfl⟩
instance resT_44 : ResT Tryd.f44 [4] := ⟨rfl⟩
instance resT_45 : ResT Tryd.f45 [6] := ⟨rfl⟩
instance resT_46 : ResT Tryd.f46 [6] := ⟨rfl⟩
instance resT_47 : ResT Tryd.f47 [2] := ⟨rfl⟩
instance resT_48 : ResT Tryd.f48 [4] := ⟨rfl⟩
instance resT_49 : ResT Tryd.f49 [6] := ⟨rfl⟩
instance resT_50 : ResT Tryd.f50 [4] := ⟨rfl⟩
instance resT_51 : ResT Tryd.f51 [2] := ⟨rfl⟩
instance resT_52 : ResT Tryd.f52 [4] := ⟨rfl⟩
instance resT_53 : ResT Tryd.f53 [2] := ⟨rfl⟩
instance resT_54 : ResT Tryd.f54 [2] := ⟨rfl⟩
instance resT_55 : ResT Tryd.f55 [6, 7] := ⟨rfl⟩
instance resT_56 : ResT Tryd.f56 [6, 7] := ⟨rfl⟩
instance resT_57 : ResT Tryd.f57 [2] := ⟨rfl⟩
instance resT_58 : ResT Tryd.f58 [2] := ⟨rfl⟩
instance resT_59 : ResT Tryd.f59 [2] := ⟨rfl⟩
instance resT_60 : ResT Tryd.f60 [2] := ⟨rfl⟩
instance resT_61 : ResT Tryd.f61 [2] := ⟨rfl⟩
instance resT_64 : ResT Tryd.f64 [2] := ⟨rfl⟩
instance resT_65 : ResT Tryd.f65 [4] := ⟨rfl⟩
instance resT_67 : ResT Tryd.f67 [2] := ⟨rfl⟩
instance resT_68 : ResT Tryd.f68 [2] := ⟨rfl⟩
instance resT_69 : ResT Tryd.f69 [2] := ⟨rfl⟩
instance resT_70 : ResT Tryd.f70 [4] := ⟨rfl⟩
instance resT_71 : ResT Tryd.f71 [2] := ⟨rfl⟩
instance resT_72 : ResT Tryd.f72 [2] := ⟨rfl⟩
instance resT_73 : ResT Tryd.f73 [] := ⟨rfl⟩
instance resT_74 : ResT Tryd.f74 [10, 11] := ⟨rfl⟩
instance resT_75 : ResT Tryd.f75 [2] := ⟨rfl⟩
instance resT_76 : ResT Tryd.f76 [2] := ⟨rfl⟩
instance resT_77 : ResT Tryd.f77 [2] := ⟨rfl⟩
instance resT_78 : ResT Tryd.f78 [2] := ⟨rfl⟩
instance resT_79 : ResT Tryd.f79 [2] := ⟨rfl⟩
instance resT_80 : ResT Tryd.f80 [2] := ⟨rfl⟩
instance resT_81 : ResT Tryd.f81 [2] := ⟨rfl⟩
instance resT_103 : ResT Tryd.f103 [] := ⟨rfl⟩
instance resC_25 : ResC Tryd.f25 2 35 := ⟨rfl⟩
instance resC_27 : ResC Tryd.f27 2 35 := ⟨rfl⟩
instance resC_62 : ResC Tryd.f62 2 83 := ⟨rfl⟩
instance cloneF_66 : CloneF Tryd.prog 66 := cloneF_of (fn := Tryd.f66) rfl (by kernel_rfl) rfl (by kernel_rfl) (by kernel_rfl)
instance resL_25 : ResL Tryd.f25 [.cell 2 35] := ⟨rfl⟩
instance resL_27 : ResL Tryd.f27 [.cell 2 35] := ⟨rfl⟩
instance resL_33 : ResL Tryd.f33 [.cell 4 69, .tmp 5] := ⟨rfl⟩
instance resL_34 : ResL Tryd.f34 [.cell 4 69, .tmp 5] := ⟨rfl⟩
instance resL_62 : ResL Tryd.f62 [.cell 2 83] := ⟨rfl⟩
instance resL_63 : ResL Tryd.f63 [.cell 2 69, .tmp 3] := ⟨rfl⟩
instance natIdx_c2 : NatIdx 2 2 := ⟨rfl⟩
instance natIdx_c3 : NatIdx 3 3 := ⟨rfl⟩
instance natIdx_c4 : NatIdx 4 4 := ⟨rfl⟩
instance natIdx_c5 : NatIdx 5 5 := ⟨rfl⟩
instance natIdx_c6 : NatIdx 6 6 := ⟨rfl⟩
instance natIdx_c7 : NatIdx 7 7 := ⟨rfl⟩
instance natIdx_c8 : NatIdx 8 8 := ⟨rfl⟩
instance natIdx_c9 : NatIdx 9 9 := ⟨rfl⟩
instance natIdx_c10 : NatIdx 10 10 := ⟨rfl⟩
instance natIdx_c11 : NatIdx 11 11 := ⟨rfl⟩
instance natIdx_c12 : NatIdx 12 12 := ⟨rfl⟩
instance natIdx_c13 : NatIdx 13 13 := ⟨rfl⟩
instance natIdx_c14 : NatIdx 14 14 := ⟨rfl⟩
instance natIdx_c15 : NatIdx 15 15 := ⟨rfl⟩
instance natIdx_c16 : NatIdx 16 16 := ⟨rfl⟩
instance natIdx_c17 : NatIdx 17 17 := ⟨rfl⟩
instance natIdx_c18 : NatIdx 18 18 := ⟨rfl⟩
instance natIdx_c19 : NatIdx 19 19 := ⟨rfl⟩
instance natIdx_c20 : NatIdx 20 20 := ⟨rfl⟩
instance natIdx_c21 : NatIdx 21 21 := ⟨rfl⟩
instance natIdx_c22 : NatIdx 22 22 := ⟨rfl⟩
instance natIdx_c23 : NatIdx 23 23 := ⟨rfl⟩
instance natIdx_c24 : NatIdx 24 24 := ⟨rfl⟩
instance natIdx_c25 : NatIdx 25 25 := ⟨rfl⟩
instance natIdx_c26 : NatIdx 26 26 := ⟨rfl⟩
instance natIdx_c27 : NatIdx 27 27 := ⟨rfl⟩
instance natIdx_c28 : NatIdx 28 28 := ⟨rfl⟩
instance natIdx_c29 : NatIdx 29 29 := ⟨rfl⟩
instance natIdx_c30 : NatIdx 30 30 := ⟨rfl⟩
instance natIdx_c31 : NatIdx 31 31 := ⟨rfl⟩
instance natIdx_c32 : NatIdx 32 32 := ⟨rfl⟩
instance natIdx_c33 : NatIdx 33 33 := ⟨rfl⟩
instance natIdx_c34 : NatIdx 34 34 := ⟨rfl⟩
instance natIdx_c35 : NatIdx 35 35 := ⟨rfl⟩
instance natIdx_c36 : NatIdx 36 36 := ⟨rfl⟩
instance natIdx_c37 : NatIdx 37 37 := ⟨rfl⟩
instance natIdx_c38 : NatIdx 38 38 := ⟨rfl⟩
instance natIdx_c39 : NatIdx 39 39 := ⟨rfl⟩
instance natIdx_c40 : NatIdx 40 40 := ⟨rfl⟩
instance natIdx_c41 : NatIdx 41 41 := ⟨rfl⟩
instance natIdx_c42 : NatIdx 42 42 := ⟨rfl⟩
instance natIdx_c43 : NatIdx 43 43 := ⟨rfl⟩
instance natIdx_c44 : NatIdx 44 44 := ⟨rfl⟩
instance natIdx_c45 : NatIdx 45 45 := ⟨rfl⟩
instance natIdx_c46 : NatIdx 46 46 := ⟨rfl⟩
instance natIdx_c47 : NatIdx 47 47 := ⟨rfl⟩
instance natIdx_c48 : NatIdx 48 48 := ⟨rfl⟩
instance natIdx_c49 : NatIdx 49 49 := ⟨rfl⟩
instance natIdx_c50 : NatIdx 50 50 := ⟨rfl⟩
instance natIdx_c51 : NatIdx 51 51 := ⟨rfl⟩
instance natIdx_c52 : NatIdx 52 52 := ⟨rfl⟩
instance natIdx_c53 : NatIdx 53 53 := ⟨rfl⟩
instance natIdx_c54 : NatIdx 54 54 := ⟨rfl⟩
instance natIdx_c55 : NatIdx 55 55 := ⟨rfl⟩
instance natIdx_c56 : NatIdx 56 56 := ⟨rfl⟩
instance natIdx_c57 : NatIdx 57 57 := ⟨rfl⟩
instance natIdx_c58 : NatIdx 58 58 := ⟨rfl⟩
instance natIdx_c59 : NatIdx 59 59 := ⟨rfl⟩
instance natIdx_c60 : NatIdx 60 60 := ⟨rfl⟩
instance natIdx_c61 : NatIdx 61 61 := ⟨rfl⟩
instance natIdx_c62 : NatIdx 62 62 := ⟨rfl⟩
instance natIdx_c63 : NatIdx 63 63 := ⟨rfl⟩
instance natIdx_c64 : NatIdx 64 64 := ⟨rfl⟩
instance natIdx_c65 : NatIdx 65 65 := ⟨rfl⟩
instance natIdx_c100 : NatIdx 100 100 := ⟨rfl⟩
instance natIdx_c130 : NatIdx 130 130 := ⟨rfl⟩
instance natIdx_c131 : NatIdx 131 131 := ⟨rfl⟩
instance natIdx_c132 : NatIdx 132 132 := ⟨rfl⟩
instance natIdx_c256 : NatIdx 256 256 := ⟨rfl⟩
instance natIdx_c1000 : NatIdx 1000 1000 := ⟨rfl⟩
instance natIdx_c10000 : NatIdx 10000 10000 := ⟨rfl⟩
instance natIdx_c65536 : NatIdx 65536 65536 := ⟨rfl⟩
instance natIdx_c78913 : NatIdx 78913 78913 := ⟨rfl⟩
instance natIdx_c100000 : NatIdx 100000 100000 := ⟨rfl⟩
instance natIdx_c1000000 : NatIdx 1000000 1000000 := ⟨rfl⟩
instance natIdx_c1048576 : NatIdx 1048576 1048576 := ⟨rfl⟩
instance natIdx_c10000000 : NatIdx 10000000 10000000 := ⟨rfl⟩
instance natIdx_c100000000 : NatIdx 100000000 100000000 := ⟨rfl⟩
instance natIdx_c125613361 : NatIdx 125613361 125613361 := ⟨rfl⟩
instance natIdx_c1000000000 : NatIdx 1000000000 1000000000 := ⟨rfl⟩
instance natIdx_c4294967296 : NatIdx 4294967296 4294967296 := ⟨rfl⟩
instance natIdx_c10000000000 : NatIdx 10000000000 10000000000 := ⟨rfl⟩
instance natIdx_c100000000000 : NatIdx 100000000000 100000000000 := ⟨rfl⟩
instance natIdx_c1000000000000 : NatIdx 1000000000000 1000000000000 := ⟨rfl⟩
theorem mixed : Tryd.prog.follows .mixedOrders = true := by kernel_rfl
end Go.Proofs.YtjmicpkinflofaaDoor.S
