import Derived.Test.YtcaaebjjgbcjpaaGreatDoorGB
import Derived.Test.YtcaaebjjgbcjpaaGreatDoorOP
/-! awake of chapter 23, run. -/
namespace GoD
open Go Go.Proofs
set_option linter.unusedVariables false
set_option maxRecDepth 100000
noncomputable def ext0 : List (FuncId × Ct) := [(274, pIdxC), (42, pUParseC), (112, pAddressC)]
theorem ext0_ok : Sound (ctx Tryz.prog G0 ext0) := sound_cons pIdx_ok (sound_cons pUParse_ok (sound_cons pAddress_ok sound_nil))
-- OK true heap 0 ops 5918 recs 18
def ab0 : Blk := ⟨2, true, [mI 0, mI 0]⟩
def ab1 : Blk := ⟨2, true, [.c (.slice none 0 0), .c (.slice none 0 0), .s [], .c (.slice none 0 0), .b false]⟩
def ab2 : Blk := ⟨2, true, [.s [100, 101, 102, 97, 117, 108, 116, 32, 97, 108, 108, 111, 119, 59], mI 0, .c (.slice none 0 0)]⟩
def ah0 : Heap := [ab0, ab1, ab0, ab0, ab2]
-- parapet/lex.wrong 528
def aa0 : List V := [.s [100, 101, 102, 97, 117, 108, 116, 32, 97, 108, 108, 111, 119, 59]]
def av0 : V := mI 15
def aH0 : Heap := ah0
def aK0 : Heap := ah0
theorem aT0 : Known Tryz.prog G0 151 aa0 aH0 av0 aK0 := callN_ok (tr := [151] ++ []) (ext := ext0) (k := 300) fol okA ext0_ok 40 [] _ _ _ _ _ (by kernel_rfl)
def ab3 : Blk := ⟨2, true, [mI 0, mI 0, .s []]⟩
def ah1 : Heap := [ab0, ab1, ab0, ab0, ab2, ab3]
def ab4 : Blk := ⟨2, true, [.s [100, 101, 102, 97, 117, 108, 116, 32, 97, 108, 108, 111, 119, 59], mI 7, .c (.slice none 0 0)]⟩
def ah2 : Heap := [ab0, ab1, ab0, ab0, ab4, ab3]
-- (*parapet/lex.text).row 585
def aa1 : List V := [.p 4 0, .f (.func 217) []]
def av1 : V := .s [100, 101, 102, 97, 117, 108, 116]
def aH1 : Heap := ah1
def aK1 : Heap := ah2
theorem aT1 : Known Tryz.prog G0 213 aa1 aH1 av1 aK1 := callN_ok (tr := [] ++ []) (ext := ext0) (k := 300) fol okA ext0_ok 40 [] _ _ _ _ _ (by kernel_rfl)
def ab5 : Blk := ⟨2, true, [.s [100, 101, 102, 97, 117, 108, 116, 32, 97, 108, 108, 111, 119, 59], mI 8, .sl 7 0 1 3]⟩
def ab6 : Blk := ⟨2, true, [mI 1, mI 0, .s [100, 101, 102, 97, 117, 108, 116]]⟩
def ab7 : Blk := ⟨2, false, [mI 1, mI 0, .s [100, 101, 102, 97, 117, 108, 116]]⟩
def ab8 : Blk := ⟨2, true, [mI 0, mI 8, .s []]⟩
def ah3 : Heap := [ab0, ab1, ab0, ab0, ab5, ab6, ab6, ab7, ab8]
def ab9 : Blk := ⟨2, true, [.s [100, 101, 102, 97, 117, 108, 116, 32, 97, 108, 108, 111, 119, 59], mI 13, .sl 7 0 1 3]⟩
def ah4 : Heap := [ab0, ab1, ab0, ab0, ab9, ab6, ab6, ab7, ab8]
-- (*parapet/lex.text).row 441
def aa2 : List V := [.p 4 0, .f (.func 217) []]
def av2 : V := .s [97, 108, 108, 111, 119]
def aH2 : Heap := ah3
def aK2 : Heap := ah4
theorem aT2 : Known Tryz.prog G0 213 aa2 aH2 av2 aK2 := callN_ok (tr := [] ++ []) (ext := ext0) (k := 300) fol okA ext0_ok 40 [] _ _ _ _ _ (by kernel_rfl)
def ah5 : Heap := [ab0, ab1, ab0]
def ab10 : Blk := ⟨2, true, [.s [100, 101, 102, 97, 117, 108, 116, 32, 97, 108, 108, 111, 119, 59], mI 14, .sl 13 0 3 3]⟩
def ab11 : Blk := ⟨0, false, []⟩
def ab12 : Blk := ⟨2, true, [mI 1, mI 8, .s [97, 108, 108, 111, 119]]⟩
def ab13 : Blk := ⟨2, true, [mI 5, mI 13, .s [59]]⟩
def ab14 : Blk := ⟨2, false, [mI 1, mI 0, .s [100, 101, 102, 97, 117, 108, 116], mI 1, mI 8, .s [97, 108, 108, 111, 119], mI 5, mI 13, .s [59]]⟩
def ah6 : Heap := [ab0, ab1, ab0, ab0, ab10, ab6, ab6, ab11, ab12, ab12, ab11, ab13, ab13, ab14]
-- parapet/lex.Tokens 768
def aa3 : List V := [.s [100, 101, 102, 97, 117, 108, 116, 32, 97, 108, 108, 111, 119, 59]]
def av3 : V := .tup [.sl 13 0 3 3, .agg [mI 0, mI 0]]
def aH3 : Heap := ah5
def aK3 : Heap := ah6
theorem aT3 : Known Tryz.prog G0 86 aa3 aH3 av3 aK3 := callN_ok (tr := [] ++ []) (ext := (151, (memC aa0 aH0 av0 aK0 nilC)) :: (213, (memC aa1 aH1 av1 aK1 (memC aa2 aH2 av2 aK2 nilC))) :: ext0) (k := 300) fol okA (sound_cons (memC_ok aT0 nilC_ok) (sound_cons (memC_ok aT1 (memC_ok aT2 nilC_ok)) ext0_ok)) 40 [] _ _ _ _ _ (by kernel_rfl)
def ab15 : Blk := ⟨0, true, [mI 0]⟩
def ab16 : Blk := ⟨2, true, [.sl 13 0 3 3, mI 0, mI 14, .c (.slice none 0 0), .c (.slice none 0 0), .s [98, 108, 111, 99, 107], .c (.slice none 0 0), .b false, mI 0, .m 14, mI 0]⟩
def ah7 : Heap := [ab0, ab1, ab0, ab0, ab10, ab6, ab6, ab11, ab12, ab12, ab11, ab13, ab13, ab14, ab15, ab16]
def ab17 : Blk := ⟨0, true, [mI 1, .tup [.s [100, 101, 102, 97, 117, 108, 116], mI 1, mI 0]]⟩
def ab18 : Blk := ⟨2, true, [.sl 13 0 3 3, mI 2, mI 14, .c (.slice none 0 0), .c (.slice none 0 0), .s [98, 108, 111, 99, 107], .c (.slice none 0 0), .b true, mI 1, .m 14, mI 0]⟩
def ab19 : Blk := ⟨2, true, [.s [99, 115, 112], .s [115, 104, 97, 114, 101], .s [109, 105, 120, 101, 100], .s [100, 101, 102, 97, 117, 108, 116], .s [97, 108, 108, 111, 119], .s [100, 101, 110, 121]]⟩
def ab20 : Blk := ⟨2, true, [.s [109, 105, 120, 101, 100], .s [100, 101, 102, 97, 117, 108, 116]]⟩
def ab21 : Blk := ⟨2, true, [.s [97, 108, 108, 111, 119], .s [100, 101, 110, 121]]⟩
def ah8 : Heap := [ab0, ab1, ab0, ab0, ab10, ab6, ab6, ab11, ab12, ab12, ab11, ab13, ab13, ab14, ab17, ab18, ab19, ab6, ab6, ab20, ab6, ab6, ab6, ab6, ab6, ab21, ab12, ab12, ab12, ab12]
-- (*parapet/parse.parser).item 423
def aa4 : List V := [.p 15 0]
def av4 : V := .tup []
def aH4 : Heap := ah7
def aK4 : Heap := ah8
theorem aT4 : Known Tryz.prog G0 88 aa4 aH4 av4 aK4 := callN_ok (tr := [] ++ []) (ext := ext0) (k := 300) fol okA ext0_ok 40 [] _ _ _ _ _ (by kernel_rfl)
def ah9 : Heap := [ab0]
def ab22 : Blk := ⟨2, true, [.c (.slice none 0 0), .c (.slice none 0 0), .s [98, 108, 111, 99, 107], .c (.slice none 0 0), .b true]⟩
def ab23 : Blk := ⟨2, true, [.sl 13 0 3 3, mI 3, mI 14, .c (.slice none 0 0), .c (.slice none 0 0), .s [98, 108, 111, 99, 107], .c (.slice none 0 0), .b true, mI 1, .m 14, mI 0]⟩
def ah10 : Heap := [ab0, ab22, ab0, ab0, ab10, ab6, ab6, ab11, ab12, ab12, ab11, ab13, ab13, ab14, ab17, ab23, ab19, ab6, ab6, ab20, ab6, ab6, ab6, ab6, ab6, ab21, ab12, ab12, ab12, ab12, ab13, ab13]
-- parapet/parse.Policy 102
def aa5 : List V := [.s [100, 101, 102, 97, 117, 108, 116, 32, 97, 108, 108, 111, 119, 59]]
def av5 : V := .tup [.agg [.c (.slice none 0 0), .c (.slice none 0 0), .s [98, 108, 111, 99, 107], .c (.slice none 0 0), .b true], .agg [mI 0, mI 0]]
def aH5 : Heap := ah9
def aK5 : Heap := ah10
theorem aT5 : Known Tryz.prog G0 38 aa5 aH5 av5 aK5 := polT (tr := []) (ext := (86, (memC aa3 aH3 av3 aK3 nilC)) :: (88, (memC aa4 aH4 av4 aK4 nilC)) :: ext0) (sound_cons (memC_ok aT3 nilC_ok) (sound_cons (memC_ok aT4 nilC_ok) ext0_ok)) (by kernel_rfl) (by kernel_rfl)
def ab24 : Blk := ⟨2, true, [.c (.slice none 0 0), .c (.slice none 0 0), .c (.slice none 0 0), mI 0]⟩
def ab25 : Blk := ⟨2, true, [.s [98, 108, 111, 99, 107], .s [117, 112, 103, 114, 97, 100, 101], .s [97, 108, 108, 111, 119]]⟩
def ab26 : Blk := ⟨2, true, [.c (.slice none 0 0)]⟩
def ab27 : Blk := ⟨2, true, [.m 41]⟩
def ab28 : Blk := ⟨2, true, [.m 45]⟩
def ab29 : Blk := ⟨2, true, [.c (.slice none 0 0), .m 48, .m 49, .b false]⟩
def ab30 : Blk := ⟨2, true, [.p 50 0]⟩
def ah11 : Heap := [ab0, ab22, ab0, ab0, ab10, ab6, ab6, ab11, ab12, ab12, ab11, ab13, ab13, ab14, ab17, ab23, ab19, ab6, ab6, ab20, ab6, ab6, ab6, ab6, ab6, ab21, ab12, ab12, ab12, ab12, ab13, ab13, ab22, ab0, ab22, ab24, ab22, ab25, ab15, ab22, ab26, ab15, ab27, ab22, ab26, ab15, ab28, ab24, ab15, ab15, ab29, ab30]
def ab31 : Blk := ⟨2, true, [mI (-3)]⟩
def ah12 : Heap := [ab0, ab22, ab0, ab0, ab10, ab6, ab6, ab11, ab12, ab12, ab11, ab13, ab13, ab14, ab17, ab23, ab19, ab6, ab6, ab20, ab6, ab6, ab6, ab6, ab6, ab21, ab12, ab12, ab12, ab12, ab13, ab13, ab22, ab0, ab22, ab24, ab22, ab25, ab15, ab22, ab26, ab15, ab27, ab22, ab26, ab15, ab28, ab24, ab15, ab15, ab29, ab30, ab30, ab22, ab31, ab31, ab26]
-- (*parapet/dag.builder).rules 14
def aa6 : List V := [.p 50 0, .agg [.c (.slice none 0 0), .c (.slice none 0 0), .s [98, 108, 111, 99, 107], .c (.slice none 0 0), .b true]]
def av6 : V := mI (-3)
def aH6 : Heap := ah11
def aK6 : Heap := ah12
theorem aT6 : Known Tryz.prog G0 90 aa6 aH6 av6 aK6 := ruleT (tr := []) (ext := ext0) ext0_ok (by kernel_rfl) (by kernel_rfl)
def ab32 : Blk := ⟨2, true, [.c (.slice none 0 0), .sl 62 0 1 2, .c (.slice none 0 0), mI (-1)]⟩
def ab33 : Blk := ⟨0, true, [mI 1, .tup [mI (-3), mI (-1), mI 0]]⟩
def ab34 : Blk := ⟨2, true, [.m 57]⟩
def ab35 : Blk := ⟨2, true, [.f (.func 91) [.p 58 0, .p 34 0, .p 47 0, .p 51 0, .p 59 0]]⟩
def ab36 : Blk := ⟨2, true, [.b true, mI 0]⟩
def ab37 : Blk := ⟨2, false, [.b true, mI 0]⟩
def ab38 : Blk := ⟨2, true, [.c (.slice none 0 0), .c (.slice none 0 0), .s [98, 108, 111, 99, 107], .c (.slice none 0 0), .b true, .c (.slice none 0 0), .sl 62 0 1 2, .c (.slice none 0 0), mI (-1)]⟩
def ah13 : Heap := [ab0, ab22, ab0, ab0, ab10, ab6, ab6, ab11, ab12, ab12, ab11, ab13, ab13, ab14, ab17, ab23, ab19, ab6, ab6, ab20, ab6, ab6, ab6, ab6, ab6, ab21, ab12, ab12, ab12, ab12, ab13, ab13, ab22, ab0, ab22, ab32, ab22, ab25, ab15, ab22, ab26, ab15, ab27, ab22, ab26, ab15, ab28, ab32, ab15, ab15, ab29, ab30, ab30, ab22, ab31, ab31, ab26, ab33, ab34, ab35, ab36, ab36, ab37, ab32, ab38]
-- parapet/eval.Compile 225
def aa7 : List V := [.s [100, 101, 102, 97, 117, 108, 116, 32, 97, 108, 108, 111, 119, 59]]
def av7 : V := .tup [.p 64 0, .agg [mI 0, mI 0]]
def aH7 : Heap := []
def aK7 : Heap := ah13
theorem aT7 : Known Tryz.prog G0 12 aa7 aH7 av7 aK7 := callN_ok (tr := [] ++ []) (ext := (38, (memC aa5 aH5 av5 aK5 nilC)) :: (90, (memC aa6 aH6 av6 aK6 nilC)) :: ext0) (k := 300) fol okA (sound_cons (memC_ok aT5 nilC_ok) (sound_cons (memC_ok aT6 nilC_ok) ext0_ok)) 40 [] _ _ _ _ _ (by kernel_rfl)
def ab39 : Blk := ⟨2, true, [.s [104, 116, 116, 112, 115, 58, 47, 47, 98, 47], .s [104, 116, 116, 112, 58, 47, 47, 97, 47], .s [115, 99, 114, 105, 112, 116], .s [71, 69, 84], .b false, .b false, mI 0, .c (.slice none 0 0)]⟩
def ab40 : Blk := ⟨2, true, [.b false, mI 0, mI 0, .b false, .b false]⟩
def ab41 : Blk := ⟨2, true, [mI 0]⟩
def ab42 : Blk := ⟨2, true, [mI 1]⟩
def ab43 : Blk := ⟨0, true, [mI 1, .tup [mI (-1), mI 1, mI 0]]⟩
def ab44 : Blk := ⟨2, true, [.m 72]⟩
def ab45 : Blk := ⟨2, true, [.f (.func 165) [.p 69 0, .p 73 0, .p 71 0, .p 70 0, .p 74 0]]⟩
def ab46 : Blk := ⟨0, true, [mI 1, .tup [.agg [.b true, mI 0], mI 1, mI 0]]⟩
def ab47 : Blk := ⟨2, true, [.s [67, 79, 78, 78, 69, 67, 84], .s [84, 82, 65, 67, 69], .s [84, 82, 65, 67, 75]]⟩
def ab48 : Blk := ⟨2, true, [.s [71, 69, 84]]⟩
def ah14 : Heap := [ab0, ab22, ab0, ab0, ab10, ab6, ab6, ab11, ab12, ab12, ab11, ab13, ab13, ab14, ab17, ab23, ab19, ab6, ab6, ab20, ab6, ab6, ab6, ab6, ab6, ab21, ab12, ab12, ab12, ab12, ab13, ab13, ab22, ab0, ab22, ab32, ab22, ab25, ab15, ab22, ab26, ab15, ab27, ab22, ab26, ab15, ab28, ab32, ab15, ab15, ab29, ab30, ab30, ab22, ab31, ab31, ab26, ab33, ab34, ab35, ab36, ab36, ab37, ab32, ab38, ab0, ab39, ab40, ab32, ab32, ab41, ab42, ab43, ab44, ab45, ab15, ab46, ab36, ab22, ab39, ab40, ab47, ab48]
-- parapet/ascii.Same 239
def aa8 : List V := [.s [67, 79, 78, 78, 69, 67, 84], .s [71, 69, 84]]
def av8 : V := .b false
def aH8 : Heap := ah14
def aK8 : Heap := ah14
theorem aT8 : Known Tryz.prog G0 109 aa8 aH8 av8 aK8 := callN_ok (tr := [109] ++ []) (ext := ext0) (k := 300) fol okA ext0_ok 40 [] _ _ _ _ _ (by kernel_rfl)
-- parapet/cors.same$1 202
def aa9 : List V := [.s [84, 82, 65, 67, 69], .p 82 0]
def av9 : V := .b false
def aH9 : Heap := ah14
def aK9 : Heap := ah14
theorem aT9 : Known Tryz.prog G0 195 aa9 aH9 av9 aK9 := callN_ok (tr := [195] ++ []) (ext := ext0) (k := 300) fol okA ext0_ok 40 [] _ _ _ _ _ (by kernel_rfl)
-- parapet/cors.same$1 202
def aa10 : List V := [.s [84, 82, 65, 67, 75], .p 82 0]
def av10 : V := .b false
def aH10 : Heap := ah14
def aK10 : Heap := ah14
theorem aT10 : Known Tryz.prog G0 195 aa10 aH10 av10 aK10 := callN_ok (tr := [195] ++ []) (ext := ext0) (k := 300) fol okA ext0_ok 40 [] _ _ _ _ _ (by kernel_rfl)
def ab49 : Blk := ⟨2, true, [.s [104, 116, 116, 112, 115, 58, 47, 47, 98, 47], .s [104, 116, 116, 112, 58, 47, 47, 97, 47], .s [115, 99, 114, 105, 112, 116], .s [71, 69, 84], .b false, .b false, mI 0, .c (.slice none 0 0), .s [104, 116, 116, 112], .s [], .s [], .s [97], mI (-1), .s [47], .b false, .s [], .b false, .s [], .b true, .s [104, 116, 116, 112, 115], .s [98], mI 443, .b true]⟩
def ab50 : Blk := ⟨2, true, [.s [104, 116, 116, 112], .s [], .s [], .s [97], mI (-1), .s [47], .b false, .s [], .b false, .s []]⟩
def ab51 : Blk := ⟨2, true, [.s [104, 116, 116, 112, 115], .s [], .s [], .s [98], mI (-1), .s [47], .b false, .s [], .b false, .s []]⟩
def ab52 : Blk := ⟨2, true, [.s [104, 116, 116, 112, 115], .s [98], mI 443]⟩
def ah15 : Heap := [ab0, ab22, ab0, ab0, ab10, ab6, ab6, ab11, ab12, ab12, ab11, ab13, ab13, ab14, ab17, ab23, ab19, ab6, ab6, ab20, ab6, ab6, ab6, ab6, ab6, ab21, ab12, ab12, ab12, ab12, ab13, ab13, ab22, ab0, ab22, ab32, ab22, ab25, ab15, ab22, ab26, ab15, ab27, ab22, ab26, ab15, ab28, ab32, ab15, ab15, ab29, ab30, ab30, ab22, ab31, ab31, ab26, ab33, ab34, ab35, ab36, ab36, ab37, ab32, ab38, ab0, ab39, ab40, ab32, ab32, ab41, ab42, ab43, ab44, ab45, ab15, ab46, ab36, ab22, ab39, ab40, ab47, ab48, ab39, ab49, ab49, ab50, ab51, ab51, ab52, ab51, ab49, ab22]
-- parapet/mixed.Class 239
def aa11 : List V := [.agg [.s [104, 116, 116, 112, 115], .s [98], mI 443], .agg [.s [104, 116, 116, 112], .s [], .s [], .s [97], mI (-1), .s [47], .b false, .s [], .b false, .s []], .s [115, 99, 114, 105, 112, 116]]
def av11 : V := mI 2
def aH11 : Heap := ah15
def aK11 : Heap := ah15
theorem aT11 : Known Tryz.prog G0 135 aa11 aH11 av11 aK11 := callN_ok (tr := [135] ++ []) (ext := ext0) (k := 300) fol okA ext0_ok 40 [] _ _ _ _ _ (by kernel_rfl)
def ah16 : Heap := [ab0, ab22, ab0, ab0, ab10, ab6, ab6, ab11, ab12, ab12, ab11, ab13, ab13, ab14, ab17, ab23, ab19, ab6, ab6, ab20, ab6, ab6, ab6, ab6, ab6, ab21, ab12, ab12, ab12, ab12, ab13, ab13, ab22, ab0, ab22, ab32, ab22, ab25, ab15, ab22, ab26, ab15, ab27, ab22, ab26, ab15, ab28, ab32, ab15, ab15, ab29, ab30, ab30, ab22, ab31, ab31, ab26, ab33, ab34, ab35, ab36, ab36, ab37, ab32, ab38, ab0, ab39, ab40, ab32, ab32, ab41, ab42, ab43, ab44, ab45, ab15, ab46, ab36]
def ab53 : Blk := ⟨2, true, [.b false, mI 2, mI 0, .b false, .b false]⟩
def ab54 : Blk := ⟨2, true, [.b false]⟩
def ah17 : Heap := [ab0, ab22, ab0, ab0, ab10, ab6, ab6, ab11, ab12, ab12, ab11, ab13, ab13, ab14, ab17, ab23, ab19, ab6, ab6, ab20, ab6, ab6, ab6, ab6, ab6, ab21, ab12, ab12, ab12, ab12, ab13, ab13, ab22, ab0, ab22, ab32, ab22, ab25, ab15, ab22, ab26, ab15, ab27, ab22, ab26, ab15, ab28, ab32, ab15, ab15, ab29, ab30, ab30, ab22, ab31, ab31, ab26, ab33, ab34, ab35, ab36, ab36, ab37, ab32, ab38, ab0, ab39, ab40, ab32, ab32, ab41, ab42, ab43, ab44, ab45, ab15, ab46, ab36, ab22, ab39, ab53, ab47, ab48, ab39, ab49, ab49, ab50, ab51, ab51, ab52, ab51, ab49, ab22, ab54, ab53, ab53]
-- parapet/eval.judge 344
def aa12 : List V := [.agg [.c (.slice none 0 0), .c (.slice none 0 0), .s [98, 108, 111, 99, 107], .c (.slice none 0 0), .b true], .agg [.s [104, 116, 116, 112, 115, 58, 47, 47, 98, 47], .s [104, 116, 116, 112, 58, 47, 47, 97, 47], .s [115, 99, 114, 105, 112, 116], .s [71, 69, 84], .b false, .b false, mI 0, .c (.slice none 0 0)], .bf (.func 41) [.agg [.c (.slice none 0 0), .sl 62 0 1 2, .c (.slice none 0 0), mI (-1)]]]
def av12 : V := .agg [.b false, mI 2, mI 0, .b false, .b false]
def aH12 : Heap := ah16
def aK12 : Heap := ah17
theorem aT12 : Known Tryz.prog G0 20 aa12 aH12 av12 aK12 := callN_ok (tr := [] ++ []) (ext := (109, (memC aa8 aH8 av8 aK8 nilC)) :: (195, (memC aa9 aH9 av9 aK9 (memC aa10 aH10 av10 aK10 nilC))) :: (135, (memC aa11 aH11 av11 aK11 nilC)) :: ext0) (k := 300) fol okA (sound_cons (memC_ok aT8 nilC_ok) (sound_cons (memC_ok aT9 (memC_ok aT10 nilC_ok)) (sound_cons (memC_ok aT11 nilC_ok) ext0_ok))) 40 [] _ _ _ _ _ (by kernel_rfl)
def ab55 : Blk := ⟨2, true, [.s [], .s [104, 116, 116, 112, 115, 58, 47, 47, 97, 47], .s [], .s [71, 69, 84], .b false, .b false, mI 0, .c (.slice none 0 0)]⟩
def ab56 : Blk := ⟨2, true, [.m 103]⟩
def ab57 : Blk := ⟨2, true, [.f (.func 165) [.p 100 0, .p 104 0, .p 102 0, .p 101 0, .p 105 0]]⟩
def ah18 : Heap := [ab0, ab22, ab0, ab0, ab10, ab6, ab6, ab11, ab12, ab12, ab11, ab13, ab13, ab14, ab17, ab23, ab19, ab6, ab6, ab20, ab6, ab6, ab6, ab6, ab6, ab21, ab12, ab12, ab12, ab12, ab13, ab13, ab22, ab0, ab22, ab32, ab22, ab25, ab15, ab22, ab26, ab15, ab27, ab22, ab26, ab15, ab28, ab32, ab15, ab15, ab29, ab30, ab30, ab22, ab31, ab31, ab26, ab33, ab34, ab35, ab36, ab36, ab37, ab32, ab38, ab0, ab39, ab53, ab32, ab32, ab41, ab42, ab43, ab44, ab45, ab15, ab46, ab36, ab22, ab39, ab53, ab47, ab48, ab39, ab49, ab49, ab50, ab51, ab51, ab52, ab51, ab49, ab22, ab54, ab53, ab53, ab53, ab55, ab40, ab32, ab32, ab41, ab42, ab43, ab56, ab57, ab15, ab46, ab36, ab22, ab55, ab40, ab47, ab48]
-- parapet/ascii.Same 239
def aa13 : List V := [.s [67, 79, 78, 78, 69, 67, 84], .s [71, 69, 84]]
def av13 : V := .b false
def aH13 : Heap := ah18
def aK13 : Heap := ah18
theorem aT13 : Known Tryz.prog G0 109 aa13 aH13 av13 aK13 := callN_ok (tr := [109] ++ []) (ext := ext0) (k := 300) fol okA ext0_ok 40 [] _ _ _ _ _ (by kernel_rfl)
-- parapet/cors.same$1 202
def aa14 : List V := [.s [84, 82, 65, 67, 69], .p 113 0]
def av14 : V := .b false
def aH14 : Heap := ah18
def aK14 : Heap := ah18
theorem aT14 : Known Tryz.prog G0 195 aa14 aH14 av14 aK14 := callN_ok (tr := [195] ++ []) (ext := ext0) (k := 300) fol okA ext0_ok 40 [] _ _ _ _ _ (by kernel_rfl)
-- parapet/cors.same$1 202
def aa15 : List V := [.s [84, 82, 65, 67, 75], .p 113 0]
def av15 : V := .b false
def aH15 : Heap := ah18
def aK15 : Heap := ah18
theorem aT15 : Known Tryz.prog G0 195 aa15 aH15 av15 aK15 := callN_ok (tr := [195] ++ []) (ext := ext0) (k := 300) fol okA ext0_ok 40 [] _ _ _ _ _ (by kernel_rfl)
def ah19 : Heap := [ab0, ab22, ab0, ab0, ab10, ab6, ab6, ab11, ab12, ab12, ab11, ab13, ab13, ab14, ab17, ab23, ab19, ab6, ab6, ab20, ab6, ab6, ab6, ab6, ab6, ab21, ab12, ab12, ab12, ab12, ab13, ab13, ab22, ab0, ab22, ab32, ab22, ab25, ab15, ab22, ab26, ab15, ab27, ab22, ab26, ab15, ab28, ab32, ab15, ab15, ab29, ab30, ab30, ab22, ab31, ab31, ab26, ab33, ab34, ab35, ab36, ab36, ab37, ab32, ab38, ab0, ab39, ab53, ab32, ab32, ab41, ab42, ab43, ab44, ab45, ab15, ab46, ab36, ab22, ab39, ab53, ab47, ab48, ab39, ab49, ab49, ab50, ab51, ab51, ab52, ab51, ab49, ab22, ab54, ab53, ab53, ab53, ab55, ab40, ab32, ab32, ab41, ab42, ab43, ab56, ab57, ab15, ab46, ab36]
def ab58 : Blk := ⟨2, true, [.b true, mI 1, mI 0, .b false, .b false]⟩
def ab59 : Blk := ⟨2, true, [.s [], .s [104, 116, 116, 112, 115, 58, 47, 47, 97, 47], .s [], .s [71, 69, 84], .b false, .b false, mI 0, .c (.slice none 0 0), .s [104, 116, 116, 112, 115], .s [], .s [], .s [97], mI (-1), .s [47], .b false, .s [], .b false, .s [], .b true, .s [], .s [], mI 0, .b true]⟩
def ab60 : Blk := ⟨2, true, [.s [104, 116, 116, 112, 115], .s [], .s [], .s [97], mI (-1), .s [47], .b false, .s [], .b false, .s []]⟩
def ab61 : Blk := ⟨2, true, [.s [], .s [], mI 0]⟩
def ab62 : Blk := ⟨2, true, [.s [104, 116, 116, 112, 115], .s [119, 115, 115]]⟩
def ab63 : Blk := ⟨2, true, [.m 132]⟩
def ab64 : Blk := ⟨2, true, [.f (.func 165) [.p 129 0, .p 133 0, .p 131 0, .p 130 0, .p 134 0]]⟩
def ab65 : Blk := ⟨2, true, [.f (.func 71) [.p 123 0], .f (.func 74) [.p 125 0]]⟩
def ah20 : Heap := [ab0, ab22, ab0, ab0, ab10, ab6, ab6, ab11, ab12, ab12, ab11, ab13, ab13, ab14, ab17, ab23, ab19, ab6, ab6, ab20, ab6, ab6, ab6, ab6, ab6, ab21, ab12, ab12, ab12, ab12, ab13, ab13, ab22, ab0, ab22, ab32, ab22, ab25, ab15, ab22, ab26, ab15, ab27, ab22, ab26, ab15, ab28, ab32, ab15, ab15, ab29, ab30, ab30, ab22, ab31, ab31, ab26, ab33, ab34, ab35, ab36, ab36, ab37, ab32, ab38, ab0, ab39, ab53, ab32, ab32, ab41, ab42, ab43, ab44, ab45, ab15, ab46, ab36, ab22, ab39, ab53, ab47, ab48, ab39, ab49, ab49, ab50, ab51, ab51, ab52, ab51, ab49, ab22, ab54, ab53, ab53, ab53, ab55, ab40, ab32, ab32, ab41, ab42, ab43, ab56, ab57, ab15, ab46, ab36, ab22, ab55, ab58, ab47, ab48, ab55, ab59, ab59, ab60, ab59, ab22, ab61, ab60, ab62, ab54, ab22, ab54, ab32, ab36, ab32, ab32, ab41, ab42, ab43, ab63, ab64, ab15, ab46, ab36, ab32, ab36, ab36, ab65, ab40, ab40, ab58]
-- parapet/eval.judge 625
def aa16 : List V := [.agg [.c (.slice none 0 0), .c (.slice none 0 0), .s [98, 108, 111, 99, 107], .c (.slice none 0 0), .b true], .agg [.s [], .s [104, 116, 116, 112, 115, 58, 47, 47, 97, 47], .s [], .s [71, 69, 84], .b false, .b false, mI 0, .c (.slice none 0 0)], .bf (.func 41) [.agg [.c (.slice none 0 0), .sl 62 0 1 2, .c (.slice none 0 0), mI (-1)]]]
def av16 : V := .agg [.b true, mI 1, mI 0, .b false, .b false]
def aH16 : Heap := ah19
def aK16 : Heap := ah20
theorem aT16 : Known Tryz.prog G0 20 aa16 aH16 av16 aK16 := callN_ok (tr := [] ++ []) (ext := (109, (memC aa13 aH13 av13 aK13 nilC)) :: (195, (memC aa14 aH14 av14 aK14 (memC aa15 aH15 av15 aK15 nilC))) :: ext0) (k := 300) fol okA (sound_cons (memC_ok aT13 nilC_ok) (sound_cons (memC_ok aT14 (memC_ok aT15 nilC_ok)) ext0_ok)) 40 [] _ _ _ _ _ (by kernel_rfl)
-- parapet/parapetlaw23.awake 389
def aa17 : List V := []
def av17 : V := .b true
def aH17 : Heap := []
def aK17 : Heap := []
theorem aT17 : Known Tryz.prog G0 6 aa17 aH17 av17 aK17 := callN_ok (tr := [6] ++ []) (ext := (12, (memC aa7 aH7 av7 aK7 nilC)) :: (20, (memC aa12 aH12 av12 aK12 (memC aa16 aH16 av16 aK16 nilC))) :: ext0) (k := 300) fol okA (sound_cons (memC_ok aT7 nilC_ok) (sound_cons (memC_ok aT12 (memC_ok aT16 nilC_ok)) ext0_ok)) 40 [] _ _ _ _ _ (by kernel_rfl)
theorem known_still {P : Program} {G : Nat → List V} {f : FuncId} {args : List V} {v : V} {h' : Heap} (hk : Known P G f args [] v h') (h1 : flatL args = true) (h2 : flatV v = true) (h : Heap) : Known P G f args h v h := by
  rcases hk with ⟨h3, h4⟩ | ⟨rfl, h4⟩
  · exact .inl ⟨h3, h4.still h1 h2⟩
  · exact .inr ⟨rfl, h4⟩
def pAwake23C : Ct := fun args h => match args with | [] => some (.b true, h) | _ => none
theorem pAwake23_ok : CtOk Tryz.prog G0 6 pAwake23C := fun args h v h' hc => by
  unfold pAwake23C at hc
  split at hc
  · cases hc; exact known_still aT17 rfl rfl _
  · cases hc
end GoD
