/-
  Closed facts of the program that the walks use. No condition.
-/
import Derived.Test.YtfhhfhiooehlcaaMore
import Derived.Test.YtfhhfhiooehlcaaProg
namespace Go.Proofs.Ytfhhfhiooehlcaa
open Go Go.RowKit

theorem slT_34 : SlT Try.prog 34 3 (.int .i64 0) 1 8 := ⟨Try.underlying34, by kernel_rfl, rfl, by decide⟩
theorem slT_43 : SlT Try.prog 43 34 (.slice none 0 0) 1 24 := ⟨Try.underlying43, by kernel_rfl, rfl, by decide⟩
theorem slT_26 : SlT Try.prog 26 9 (.string ByteArray.empty) 1 16 := ⟨Try.underlying26, by kernel_rfl, rfl, by decide⟩
theorem slT_22 : SlT Try.prog 22 5 (.int .u8 0) 1 1 := ⟨Try.underlying22, by kernel_rfl, rfl, by decide⟩
theorem one_3 : One Try.prog 3 := ⟨fun _ => by kernel_rfl, by kernel_rfl⟩
theorem one_4 : One Try.prog 4 := ⟨fun _ => by kernel_rfl, by kernel_rfl⟩
theorem one_9 : One Try.prog 9 := ⟨fun _ => by kernel_rfl, by kernel_rfl⟩
theorem one_5 : One Try.prog 5 := ⟨fun _ => by kernel_rfl, by kernel_rfl⟩
theorem one_34 : One Try.prog 34 := ⟨fun _ => by kernel_rfl, by kernel_rfl⟩
theorem one_43 : One Try.prog 43 := ⟨fun _ => by kernel_rfl, by kernel_rfl⟩
theorem one_26 : One Try.prog 26 := ⟨fun _ => by kernel_rfl, by kernel_rfl⟩
theorem one_22 : One Try.prog 22 := ⟨fun _ => by kernel_rfl, by kernel_rfl⟩
theorem one_59 : One Try.prog 59 := ⟨fun _ => by kernel_rfl, by kernel_rfl⟩
theorem fa_45_0 (b : Nat) (w : World) : (Instr.fieldAt 45 (.pointer (some ⟨b, 0, none⟩)) 0).run Try.prog w = .ok (.pointer (some ⟨b, 0, none⟩)) w := by kernel_rfl
theorem agg_45 : AggT Try.prog 45 1 := ⟨.inl ⟨_, Try.underlying45⟩, by kernel_rfl⟩
theorem bd_45_0 (w : World) : (Instr.build 45 #[]).run Try.prog w = .ok (.agg #[.slice none 0 0]) w := by kernel_rfl
theorem bd_45_1 (A : Option Addr) (n c : Nat) (w : World) : (Instr.build 45 #[(0, .slice A n c)]).run Try.prog w = .ok (.agg #[.slice A n c]) w := by kernel_rfl
theorem fd_45_0 (v : Value) (w : World) : (Instr.field 45 (.agg #[v]) 0).run Try.prog w = .ok v w := by kernel_rfl
theorem en_2 : En Try.prog 2 := en_of Try.func2 (by kernel_rfl) (by kernel_rfl)
theorem en_3 : En Try.prog 3 := en_of Try.func3 (by kernel_rfl) (by kernel_rfl)
theorem en_4 : En Try.prog 4 := en_of Try.func4 (by kernel_rfl) (by kernel_rfl)
theorem en_5 : En Try.prog 5 := en_of Try.func5 (by kernel_rfl) (by kernel_rfl)
theorem en_6 : En Try.prog 6 := en_of Try.func6 (by kernel_rfl) (by kernel_rfl)
theorem en_7 : En Try.prog 7 := en_of Try.func7 (by kernel_rfl) (by kernel_rfl)
theorem en_8 : En Try.prog 8 := en_of Try.func8 (by kernel_rfl) (by kernel_rfl)
theorem en_9 : En Try.prog 9 := en_of Try.func9 (by kernel_rfl) (by kernel_rfl)
theorem en_10 : En Try.prog 10 := en_of Try.func10 (by kernel_rfl) (by kernel_rfl)
theorem en_11 : En Try.prog 11 := en_of Try.func11 (by kernel_rfl) (by kernel_rfl)
theorem en_12 : En Try.prog 12 := en_of Try.func12 (by kernel_rfl) (by kernel_rfl)
theorem en_13 : En Try.prog 13 := en_of Try.func13 (by kernel_rfl) (by kernel_rfl)
theorem en_14 : En Try.prog 14 := en_of Try.func14 (by kernel_rfl) (by kernel_rfl)
theorem en_15 : En Try.prog 15 := en_of Try.func15 (by kernel_rfl) (by kernel_rfl)
theorem en_16 : En Try.prog 16 := en_of Try.func16 (by kernel_rfl) (by kernel_rfl)
theorem en_17 : En Try.prog 17 := en_of Try.func17 (by kernel_rfl) (by kernel_rfl)
theorem en_18 : En Try.prog 18 := en_of Try.func18 (by kernel_rfl) (by kernel_rfl)
theorem en_19 : En Try.prog 19 := en_of Try.func19 (by kernel_rfl) (by kernel_rfl)
theorem en_20 : En Try.prog 20 := en_of Try.func20 (by kernel_rfl) (by kernel_rfl)
theorem en_21 : En Try.prog 21 := en_of Try.func21 (by kernel_rfl) (by kernel_rfl)
theorem en_22 : En Try.prog 22 := en_of Try.func22 (by kernel_rfl) (by kernel_rfl)
theorem en_23 : En Try.prog 23 := en_of Try.func23 (by kernel_rfl) (by kernel_rfl)
theorem en_24 : En Try.prog 24 := en_of Try.func24 (by kernel_rfl) (by kernel_rfl)
theorem en_25 : En Try.prog 25 := en_of Try.func25 (by kernel_rfl) (by kernel_rfl)
theorem en_26 : En Try.prog 26 := en_of Try.func26 (by kernel_rfl) (by kernel_rfl)
theorem en_27 : En Try.prog 27 := en_of Try.func27 (by kernel_rfl) (by kernel_rfl)
theorem en_28 : En Try.prog 28 := en_of Try.func28 (by kernel_rfl) (by kernel_rfl)
theorem en_29 : En Try.prog 29 := en_of Try.func29 (by kernel_rfl) (by kernel_rfl)
theorem en_30 : En Try.prog 30 := en_of Try.func30 (by kernel_rfl) (by kernel_rfl)
theorem en_31 : En Try.prog 31 := en_of Try.func31 (by kernel_rfl) (by kernel_rfl)
theorem en_32 : En Try.prog 32 := en_of Try.func32 (by kernel_rfl) (by kernel_rfl)
theorem en_33 : En Try.prog 33 := en_of Try.func33 (by kernel_rfl) (by kernel_rfl)
theorem en_34 : En Try.prog 34 := en_of Try.func34 (by kernel_rfl) (by kernel_rfl)
theorem en_35 : En Try.prog 35 := en_of Try.func35 (by kernel_rfl) (by kernel_rfl)
theorem en_36 : En Try.prog 36 := en_of Try.func36 (by kernel_rfl) (by kernel_rfl)
theorem en_37 : En Try.prog 37 := en_of Try.func37 (by kernel_rfl) (by kernel_rfl)
theorem en_38 : En Try.prog 38 := en_of Try.func38 (by kernel_rfl) (by kernel_rfl)
theorem en_39 : En Try.prog 39 := en_of Try.func39 (by kernel_rfl) (by kernel_rfl)
theorem en_40 : En Try.prog 40 := en_of Try.func40 (by kernel_rfl) (by kernel_rfl)
theorem en_41 : En Try.prog 41 := en_of Try.func41 (by kernel_rfl) (by kernel_rfl)
theorem en_42 : En Try.prog 42 := en_of Try.func42 (by kernel_rfl) (by kernel_rfl)
theorem en_43 : En Try.prog 43 := en_of Try.func43 (by kernel_rfl) (by kernel_rfl)
theorem en_44 : En Try.prog 44 := en_of Try.func44 (by kernel_rfl) (by kernel_rfl)
theorem en_45 : En Try.prog 45 := en_of Try.func45 (by kernel_rfl) (by kernel_rfl)
theorem en_46 : En Try.prog 46 := en_of Try.func46 (by kernel_rfl) (by kernel_rfl)
theorem en_47 : En Try.prog 47 := en_of Try.func47 (by kernel_rfl) (by kernel_rfl)
theorem en_48 : En Try.prog 48 := en_of Try.func48 (by kernel_rfl) (by kernel_rfl)
theorem en_49 : En Try.prog 49 := en_of Try.func49 (by kernel_rfl) (by kernel_rfl)
theorem en_50 : En Try.prog 50 := en_of Try.func50 (by kernel_rfl) (by kernel_rfl)
theorem en_51 : En Try.prog 51 := en_of Try.func51 (by kernel_rfl) (by kernel_rfl)
theorem en_52 : En Try.prog 52 := en_of Try.func52 (by kernel_rfl) (by kernel_rfl)
theorem en_53 : En Try.prog 53 := en_of Try.func53 (by kernel_rfl) (by kernel_rfl)
theorem en_54 : En Try.prog 54 := en_of Try.func54 (by kernel_rfl) (by kernel_rfl)
theorem en_55 : En Try.prog 55 := en_of Try.func55 (by kernel_rfl) (by kernel_rfl)
theorem en_56 : En Try.prog 56 := en_of Try.func56 (by kernel_rfl) (by kernel_rfl)
theorem en_57 : En Try.prog 57 := en_of Try.func57 (by kernel_rfl) (by kernel_rfl)
theorem en_58 : En Try.prog 58 := en_of Try.func58 (by kernel_rfl) (by kernel_rfl)
theorem en_59 : En Try.prog 59 := en_of Try.func59 (by kernel_rfl) (by kernel_rfl)
theorem en_60 : En Try.prog 60 := en_of Try.func60 (by kernel_rfl) (by kernel_rfl)
theorem en_61 : En Try.prog 61 := en_of Try.func61 (by kernel_rfl) (by kernel_rfl)
theorem en_62 : En Try.prog 62 := en_of Try.func62 (by kernel_rfl) (by kernel_rfl)
theorem en_63 : En Try.prog 63 := en_of Try.func63 (by kernel_rfl) (by kernel_rfl)
theorem en_64 : En Try.prog 64 := en_of Try.func64 (by kernel_rfl) (by kernel_rfl)
theorem en_65 : En Try.prog 65 := en_of Try.func65 (by kernel_rfl) (by kernel_rfl)
theorem en_66 : En Try.prog 66 := en_of Try.func66 (by kernel_rfl) (by kernel_rfl)
theorem en_67 : En Try.prog 67 := en_of Try.func67 (by kernel_rfl) (by kernel_rfl)
theorem en_68 : En Try.prog 68 := en_of Try.func68 (by kernel_rfl) (by kernel_rfl)
theorem en_69 : En Try.prog 69 := en_of Try.func69 (by kernel_rfl) (by kernel_rfl)
theorem en_70 : En Try.prog 70 := en_of Try.func70 (by kernel_rfl) (by kernel_rfl)
theorem en_71 : En Try.prog 71 := en_of Try.func71 (by kernel_rfl) (by kernel_rfl)
theorem en_72 : En Try.prog 72 := en_of Try.func72 (by kernel_rfl) (by kernel_rfl)
theorem en_73 : En Try.prog 73 := en_of Try.func73 (by kernel_rfl) (by kernel_rfl)
theorem en_74 : En Try.prog 74 := en_of Try.func74 (by kernel_rfl) (by kernel_rfl)
theorem en_75 : En Try.prog 75 := en_of Try.func75 (by kernel_rfl) (by kernel_rfl)
theorem en_76 : En Try.prog 76 := en_of Try.func76 (by kernel_rfl) (by kernel_rfl)
theorem en_77 : En Try.prog 77 := en_of Try.func77 (by kernel_rfl) (by kernel_rfl)
theorem en_78 : En Try.prog 78 := en_of Try.func78 (by kernel_rfl) (by kernel_rfl)
theorem en_79 : En Try.prog 79 := en_of Try.func79 (by kernel_rfl) (by kernel_rfl)
theorem en_80 : En Try.prog 80 := en_of Try.func80 (by kernel_rfl) (by kernel_rfl)
theorem en_81 : En Try.prog 81 := en_of Try.func81 (by kernel_rfl) (by kernel_rfl)
theorem en_82 : En Try.prog 82 := en_of Try.func82 (by kernel_rfl) (by kernel_rfl)
theorem en_83 : En Try.prog 83 := en_of Try.func83 (by kernel_rfl) (by kernel_rfl)
theorem en_84 : En Try.prog 84 := en_of Try.func84 (by kernel_rfl) (by kernel_rfl)
theorem en_85 : En Try.prog 85 := en_of Try.func85 (by kernel_rfl) (by kernel_rfl)
theorem en_86 : En Try.prog 86 := en_of Try.func86 (by kernel_rfl) (by kernel_rfl)
theorem en_87 : En Try.prog 87 := en_of Try.func87 (by kernel_rfl) (by kernel_rfl)
theorem en_88 : En Try.prog 88 := en_of Try.func88 (by kernel_rfl) (by kernel_rfl)
theorem en_89 : En Try.prog 89 := en_of Try.func89 (by kernel_rfl) (by kernel_rfl)
theorem en_90 : En Try.prog 90 := en_of Try.func90 (by kernel_rfl) (by kernel_rfl)
theorem en_91 : En Try.prog 91 := en_of Try.func91 (by kernel_rfl) (by kernel_rfl)
theorem en_92 : En Try.prog 92 := en_of Try.func92 (by kernel_rfl) (by kernel_rfl)
theorem en_93 : En Try.prog 93 := en_of Try.func93 (by kernel_rfl) (by kernel_rfl)
theorem en_94 : En Try.prog 94 := en_of Try.func94 (by kernel_rfl) (by kernel_rfl)
theorem en_95 : En Try.prog 95 := en_of Try.func95 (by kernel_rfl) (by kernel_rfl)
theorem en_96 : En Try.prog 96 := en_of Try.func96 (by kernel_rfl) (by kernel_rfl)
theorem en_97 : En Try.prog 97 := en_of Try.func97 (by kernel_rfl) (by kernel_rfl)
theorem en_98 : En Try.prog 98 := en_of Try.func98 (by kernel_rfl) (by kernel_rfl)
theorem en_99 : En Try.prog 99 := en_of Try.func99 (by kernel_rfl) (by kernel_rfl)
theorem en_100 : En Try.prog 100 := en_of Try.func100 (by kernel_rfl) (by kernel_rfl)
theorem en_101 : En Try.prog 101 := en_of Try.func101 (by kernel_rfl) (by kernel_rfl)
theorem en_102 : En Try.prog 102 := en_of Try.func102 (by kernel_rfl) (by kernel_rfl)
theorem en_103 : En Try.prog 103 := en_of Try.func103 (by kernel_rfl) (by kernel_rfl)
theorem en_104 : En Try.prog 104 := en_of Try.func104 (by kernel_rfl) (by kernel_rfl)
theorem en_106 : En Try.prog 106 := en_of Try.func106 (by kernel_rfl) (by kernel_rfl)
theorem en_107 : En Try.prog 107 := en_of Try.func107 (by kernel_rfl) (by kernel_rfl)
theorem en_108 : En Try.prog 108 := en_of Try.func108 (by kernel_rfl) (by kernel_rfl)
theorem en_109 : En Try.prog 109 := en_of Try.func109 (by kernel_rfl) (by kernel_rfl)
theorem en_110 : En Try.prog 110 := en_of Try.func110 (by kernel_rfl) (by kernel_rfl)
theorem en_111 : En Try.prog 111 := en_of Try.func111 (by kernel_rfl) (by kernel_rfl)
theorem en_112 : En Try.prog 112 := en_of Try.func112 (by kernel_rfl) (by kernel_rfl)
theorem en_113 : En Try.prog 113 := en_of Try.func113 (by kernel_rfl) (by kernel_rfl)
theorem en_116 : En Try.prog 116 := en_of Try.func116 (by kernel_rfl) (by kernel_rfl)
theorem en_117 : En Try.prog 117 := en_of Try.func117 (by kernel_rfl) (by kernel_rfl)
theorem en_118 : En Try.prog 118 := en_of Try.func118 (by kernel_rfl) (by kernel_rfl)
theorem en_119 : En Try.prog 119 := en_of Try.func119 (by kernel_rfl) (by kernel_rfl)

end Go.Proofs.Ytfhhfhiooehlcaa
