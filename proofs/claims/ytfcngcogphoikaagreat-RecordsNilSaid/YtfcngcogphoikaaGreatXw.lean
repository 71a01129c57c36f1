/- The works of RecordsNil: the sample, piece by piece (written by chain.py; own work). -/
import Derived.Test.YtfcngcogphoikaaGreatXg
import Derived.ProofKit
set_option maxRecDepth 100000
set_option linter.unusedVariables false
namespace Go.Ev

noncomputable abbrev RQ (n : Nat) : Run := withCut cutT n (runc Tryz.cfg cutT n)
noncomputable def b10 : Code := bodyOf Go.Proofs.Tryz.f10
noncomputable def b10a : Code := cfst b10
noncomputable def b10b : Code := cfst (csnd b10)
noncomputable def b10c : Code := cfst (csnd (csnd b10))
noncomputable def b10d : Code := cfst (csnd (csnd (csnd b10)))
noncomputable def b10e : Code := cfst (csnd (csnd (csnd (csnd b10))))
noncomputable def b10f : Code := csnd (csnd (csnd (csnd (csnd b10))))
noncomputable def b10l : Code := blkC (blkC (csnd b10e))
noncomputable def b5 : Code := bodyOf Go.Proofs.Tryz.f5
noncomputable def b5a : Code := cfst b5
noncomputable def b5b : Code := cfst (csnd b5)
noncomputable def b5c : Code := cfst (csnd (csnd b5))
noncomputable def b5d : Code := cfst (csnd (csnd (csnd b5)))
noncomputable def b5e : Code := cfst (csnd (csnd (csnd (csnd b5))))
noncomputable def b5f : Code := cfst (csnd (csnd (csnd (csnd (csnd b5)))))
noncomputable def b5g : Code := cfst (csnd (csnd (csnd (csnd (csnd (csnd b5))))))
noncomputable def b5h : Code := cfst (csnd (csnd (csnd (csnd (csnd (csnd (csnd b5)))))))
noncomputable def b5i : Code := csnd (csnd (csnd (csnd (csnd (csnd (csnd (csnd b5)))))))

noncomputable def wE1 : Option (Ex × Env × St) := evalCode Tryz.cfg (RQ 101) 101 10 (Tryz.cfg.fc 10) b10a { nt := (Go.Proofs.Tryz.f10).ntmps, tmps := number 0 [], locs := [], fix := [] } St.empty
noncomputable def wS2 : St := { heap := appN [] (tabB (blkE wE1) 0 0), toks := [] }
def w0 : Env := { nt := 41, tmps := [], locs := [], fix := [] }
noncomputable def wE4 : Option (Ex × Env × St) := evalCode Tryz.cfg (RQ 101) 101 10 (Tryz.cfg.fc 10) b10b w0 wS2
noncomputable def wS5 : St := { heap := appN [.map 80 [], .cells 82 [.map 0, .list 0 .tight 0 []]] (tabB (blkE wE4) 2 0), toks := [] }
def w1 : Env := { nt := 41, tmps := [(2, .ptr (.box 1) 0)], locs := [], fix := [] }
noncomputable def wE7 : Option (Ex × Env × St) := evalCode Tryz.cfg (RQ 101) 101 10 (Tryz.cfg.fc 10) b10c w1 wS5
def w2 : List V := [.int .i64 0, .int .i64 (-1), .int .i64 (-1), .int .i64 (-1), .int .i64 (-1)]
def w3 : List V := [.int .u8 4, .str [78], .int .i64 0, .int .u8 1, .int .i64 0, .str [], .list 5 .tight 0 [.agg w2], .list 0 .tight 0 [], .int .u8 0, .int .i64 0, .str [], .list 0 .tight 0 [], .list 0 .tight 0 [], .int .i64 0, .str [78], .str [78], .int .i64 0, .int .i64 0, .int .i64 0, .int .i64 0, .int .i64 0, .int .i64 0, .list 0 .tight 0 [], .int .i64 2, .bool false]
def w4 : List V := [.int .u8 5, .str [78, 46, 122, 101, 114, 111], .int .i64 0, .int .u8 3, .int .i64 0, .str [78], .list 0 .tight 0 [], .list 0 .tight 0 [], .int .u8 0, .int .i64 0, .str [], .list 0 .tight 0 [], .list 0 .tight 0 [], .int .i64 0, .str [78], .str [78], .int .i64 0, .int .i64 0, .int .i64 0, .int .i64 0, .int .i64 0, .int .i64 0, .list 0 .tight 0 [], .int .i64 0, .bool false]
def w5 : List V := [.int .u8 3, .int .i64 0, .str [78], .list 0 .tight 0 [], .list 0 .tight 0 []]
def w6 : List V := [.int .u8 5, .str [78, 46, 115, 117, 99, 99], .int .i64 0, .int .u8 6, .int .i64 0, .str [], .list 0 .tight 0 [], .list 5 .tight 0 [.agg w5, .agg w5], .int .u8 0, .int .i64 0, .str [], .list 0 .tight 0 [], .list 0 .tight 0 [], .int .i64 0, .str [78], .str [78], .int .i64 0, .int .i64 0, .int .i64 1, .int .i64 1, .int .i64 0, .int .i64 0, .list 0 .tight 0 [], .int .i64 0, .bool false]
def w7 : List V := [.int .i64 0, .int .i64 0, .int .i64 (-1), .int .i64 (-1), .int .i64 (-1)]
def w8 : List V := [.int .u8 1, .int .i64 0, .str [], .list 5 .tight 0 [.agg w7], .list 0 .tight 0 []]
def w9 : List V := [.int .u8 6, .int .i64 0, .str [], .list 0 .tight 0 [], .list 5 .tight 0 [.agg w5, .agg w8]]
def w10 : List V := [.int .u8 2, .int .i64 0, .str [], .list 0 .tight 0 [], .list 0 .tight 0 []]
def w11 : List V := [.int .u8 3, .int .i64 0, .str [78, 46, 122, 101, 114, 111], .list 0 .tight 0 [], .list 0 .tight 0 []]
def w12 : List V := [.int .u8 4, .int .i64 0, .str [], .list 0 .tight 0 [], .list 5 .tight 0 [.agg w10, .agg w11]]
def w13 : List V := [.int .u8 2, .int .i64 2, .str [], .list 0 .tight 0 [], .list 0 .tight 0 []]
def w14 : List V := [.int .u8 4, .int .i64 0, .str [], .list 0 .tight 0 [], .list 5 .tight 0 [.agg w13, .agg w10]]
def w15 : List V := [.int .u8 2, .int .i64 3, .str [], .list 0 .tight 0 [], .list 0 .tight 0 []]
def w16 : List V := [.int .u8 3, .int .i64 0, .str [78, 46, 115, 117, 99, 99], .list 0 .tight 0 [], .list 0 .tight 0 []]
def w17 : List V := [.int .u8 2, .int .i64 1, .str [], .list 0 .tight 0 [], .list 0 .tight 0 []]
def w18 : List V := [.int .u8 4, .int .i64 0, .str [], .list 0 .tight 0 [], .list 5 .tight 0 [.agg w16, .agg w17]]
def w19 : List V := [.int .u8 4, .int .i64 0, .str [], .list 0 .tight 0 [], .list 5 .tight 0 [.agg w15, .agg w18]]
def w20 : List V := [.int .u8 6, .int .i64 0, .str [], .list 0 .tight 0 [], .list 5 .tight 0 [.agg w14, .agg w19]]
def w21 : List V := [.int .u8 6, .int .i64 0, .str [], .list 0 .tight 0 [], .list 5 .tight 0 [.agg w5, .agg w20]]
def w22 : List V := [.int .u8 4, .int .i64 0, .str [], .list 0 .tight 0 [], .list 5 .tight 0 [.agg w15, .agg w10]]
def w23 : List V := [.int .u8 6, .int .i64 0, .str [], .list 0 .tight 0 [], .list 5 .tight 0 [.agg w5, .agg w22]]
def w24 : List V := [.int .u8 6, .int .i64 0, .str [], .list 0 .tight 0 [], .list 5 .tight 0 [.agg w21, .agg w23]]
def w25 : List V := [.int .u8 6, .int .i64 0, .str [], .list 0 .tight 0 [], .list 5 .tight 0 [.agg w12, .agg w24]]
def w26 : List V := [.int .u8 5, .int .i64 0, .str [], .list 0 .tight 0 [], .list 5 .tight 0 [.agg w21, .agg w17]]
def w27 : List V := [.int .u8 5, .int .i64 0, .str [], .list 0 .tight 0 [], .list 5 .tight 0 [.agg w12, .agg w26]]
def w28 : List V := [.str [78, 46, 122, 101, 114, 111], .int .i64 0, .int .u8 5, .int .i64 0, .str [], .list 0 .tight 0 [], .list 5 .tight 0 [.agg w9, .agg w27]]
def w29 : List V := [.int .u8 4, .int .i64 0, .str [], .list 0 .tight 0 [], .list 5 .tight 0 [.agg w17, .agg w10]]
def w30 : List V := [.int .u8 3, .int .i64 0, .str [78, 46, 114, 101, 99], .list 5 .tight 0 [.agg w7], .list 0 .tight 0 []]
def w31 : List V := [.int .u8 4, .int .i64 0, .str [], .list 0 .tight 0 [], .list 5 .tight 0 [.agg w30, .agg w15]]
def w32 : List V := [.int .u8 4, .int .i64 0, .str [], .list 0 .tight 0 [], .list 5 .tight 0 [.agg w31, .agg w13]]
def w33 : List V := [.int .u8 4, .int .i64 0, .str [], .list 0 .tight 0 [], .list 5 .tight 0 [.agg w32, .agg w17]]
def w34 : List V := [.int .u8 4, .int .i64 0, .str [], .list 0 .tight 0 [], .list 5 .tight 0 [.agg w33, .agg w10]]
def w35 : List V := [.int .u8 4, .int .i64 0, .str [], .list 0 .tight 0 [], .list 5 .tight 0 [.agg w29, .agg w34]]
def w36 : List V := [.int .u8 5, .int .i64 0, .str [], .list 0 .tight 0 [], .list 5 .tight 0 [.agg w5, .agg w35]]
def w37 : List V := [.int .u8 5, .int .i64 0, .str [], .list 0 .tight 0 [], .list 5 .tight 0 [.agg w21, .agg w36]]
def w38 : List V := [.int .u8 5, .int .i64 0, .str [], .list 0 .tight 0 [], .list 5 .tight 0 [.agg w12, .agg w37]]
def w39 : List V := [.str [78, 46, 115, 117, 99, 99], .int .i64 1, .int .u8 5, .int .i64 0, .str [], .list 0 .tight 0 [], .list 5 .tight 0 [.agg w9, .agg w38]]
def w40 : List V := [.int .u8 6, .str [78, 46, 114, 101, 99], .int .i64 1, .int .u8 6, .int .i64 0, .str [], .list 0 .tight 0 [], .list 5 .tight 0 [.agg w9, .agg w25], .int .u8 0, .int .i64 0, .str [], .list 0 .tight 0 [], .list 0 .tight 0 [], .int .i64 0, .str [78], .str [78], .int .i64 0, .int .i64 0, .int .i64 0, .int .i64 0, .int .i64 1, .int .i64 2, .list 7 .tight 0 [.agg w28, .agg w39], .int .i64 0, .bool false]
def w41 : List V := [.int .u8 1, .int .i64 0, .str [], .list 5 .tight 0 [.agg w2], .list 0 .tight 0 []]
def w42 : List V := [.int .u8 6, .int .i64 0, .str [], .list 0 .tight 0 [], .list 5 .tight 0 [.agg w41, .agg w41]]
def w43 : List V := [.int .u8 4, .str [80, 97, 105, 114], .int .i64 0, .int .u8 6, .int .i64 0, .str [], .list 0 .tight 0 [], .list 5 .tight 0 [.agg w41, .agg w42], .int .u8 0, .int .i64 0, .str [], .list 0 .tight 0 [], .list 0 .tight 0 [], .int .i64 0, .str [80, 97, 105, 114], .str [80, 97, 105, 114], .int .i64 2, .int .i64 0, .int .i64 0, .int .i64 0, .int .i64 0, .int .i64 0, .list 0 .tight 0 [], .int .i64 1, .bool true]
def w44 : List V := [.int .u8 3, .int .i64 0, .str [80, 97, 105, 114], .list 0 .tight 0 [], .list 0 .tight 0 []]
def w45 : List V := [.int .u8 4, .int .i64 0, .str [], .list 0 .tight 0 [], .list 5 .tight 0 [.agg w44, .agg w15]]
def w46 : List V := [.int .u8 4, .int .i64 0, .str [], .list 0 .tight 0 [], .list 5 .tight 0 [.agg w45, .agg w13]]
def w47 : List V := [.int .u8 6, .int .i64 0, .str [], .list 0 .tight 0 [], .list 5 .tight 0 [.agg w17, .agg w46]]
def w48 : List V := [.int .u8 6, .int .i64 0, .str [], .list 0 .tight 0 [], .list 5 .tight 0 [.agg w17, .agg w47]]
def w49 : List V := [.int .u8 6, .int .i64 0, .str [], .list 0 .tight 0 [], .list 5 .tight 0 [.agg w41, .agg w48]]
def w50 : List V := [.int .u8 5, .str [80, 97, 105, 114, 46, 109, 107], .int .i64 0, .int .u8 6, .int .i64 0, .str [], .list 0 .tight 0 [], .list 5 .tight 0 [.agg w41, .agg w49], .int .u8 0, .int .i64 0, .str [], .list 0 .tight 0 [], .list 0 .tight 0 [], .int .i64 0, .str [80, 97, 105, 114], .str [80, 97, 105, 114], .int .i64 2, .int .i64 0, .int .i64 0, .int .i64 2, .int .i64 0, .int .i64 0, .list 0 .tight 0 [], .int .i64 0, .bool false]
def w51 : List V := [.int .u8 4, .int .i64 0, .str [], .list 0 .tight 0 [], .list 5 .tight 0 [.agg w44, .agg w17]]
def w52 : List V := [.int .u8 4, .int .i64 0, .str [], .list 0 .tight 0 [], .list 5 .tight 0 [.agg w51, .agg w10]]
def w53 : List V := [.int .u8 6, .int .i64 0, .str [], .list 0 .tight 0 [], .list 5 .tight 0 [.agg w52, .agg w8]]
def w54 : List V := [.int .u8 3, .int .i64 0, .str [80, 97, 105, 114, 46, 109, 107], .list 0 .tight 0 [], .list 0 .tight 0 []]
def w55 : List V := [.int .u8 2, .int .i64 4, .str [], .list 0 .tight 0 [], .list 0 .tight 0 []]
def w56 : List V := [.int .u8 4, .int .i64 0, .str [], .list 0 .tight 0 [], .list 5 .tight 0 [.agg w54, .agg w55]]
def w57 : List V := [.int .u8 4, .int .i64 0, .str [], .list 0 .tight 0 [], .list 5 .tight 0 [.agg w56, .agg w15]]
def w58 : List V := [.int .u8 4, .int .i64 0, .str [], .list 0 .tight 0 [], .list 5 .tight 0 [.agg w57, .agg w17]]
def w59 : List V := [.int .u8 4, .int .i64 0, .str [], .list 0 .tight 0 [], .list 5 .tight 0 [.agg w58, .agg w10]]
def w60 : List V := [.int .u8 4, .int .i64 0, .str [], .list 0 .tight 0 [], .list 5 .tight 0 [.agg w13, .agg w59]]
def w61 : List V := [.int .u8 6, .int .i64 0, .str [], .list 0 .tight 0 [], .list 5 .tight 0 [.agg w13, .agg w60]]
def w62 : List V := [.int .u8 6, .int .i64 0, .str [], .list 0 .tight 0 [], .list 5 .tight 0 [.agg w13, .agg w61]]
def w63 : List V := [.int .u8 6, .int .i64 0, .str [], .list 0 .tight 0 [], .list 5 .tight 0 [.agg w46, .agg w14]]
def w64 : List V := [.int .u8 6, .int .i64 0, .str [], .list 0 .tight 0 [], .list 5 .tight 0 [.agg w62, .agg w63]]
def w65 : List V := [.int .u8 6, .int .i64 0, .str [], .list 0 .tight 0 [], .list 5 .tight 0 [.agg w53, .agg w64]]
def w66 : List V := [.int .u8 6, .int .i64 0, .str [], .list 0 .tight 0 [], .list 5 .tight 0 [.agg w41, .agg w65]]
def w67 : List V := [.int .u8 8, .int .i64 0, .str [80, 97, 105, 114], .list 0 .tight 0 [], .list 5 .tight 0 [.agg w10]]
def w68 : List V := [.int .u8 4, .int .i64 0, .str [], .list 0 .tight 0 [], .list 5 .tight 0 [.agg w17, .agg w67]]
def w69 : List V := [.int .u8 8, .int .i64 1, .str [80, 97, 105, 114], .list 0 .tight 0 [], .list 5 .tight 0 [.agg w10]]
def w70 : List V := [.int .u8 4, .int .i64 0, .str [], .list 0 .tight 0 [], .list 5 .tight 0 [.agg w68, .agg w69]]
def w71 : List V := [.int .u8 5, .int .i64 0, .str [], .list 0 .tight 0 [], .list 5 .tight 0 [.agg w46, .agg w70]]
def w72 : List V := [.int .u8 5, .int .i64 0, .str [], .list 0 .tight 0 [], .list 5 .tight 0 [.agg w62, .agg w71]]
def w73 : List V := [.int .u8 5, .int .i64 0, .str [], .list 0 .tight 0 [], .list 5 .tight 0 [.agg w53, .agg w72]]
def w74 : List V := [.int .u8 5, .int .i64 0, .str [], .list 0 .tight 0 [], .list 5 .tight 0 [.agg w41, .agg w73]]
def w75 : List V := [.int .u8 2, .str [80, 97, 105, 114, 46, 114, 101, 99], .int .i64 1, .int .u8 6, .int .i64 0, .str [], .list 0 .tight 0 [], .list 5 .tight 0 [.agg w41, .agg w66], .int .u8 5, .int .i64 0, .str [], .list 0 .tight 0 [], .list 5 .tight 0 [.agg w41, .agg w74], .int .i64 0, .str [80, 97, 105, 114], .str [80, 97, 105, 114], .int .i64 2, .int .i64 0, .int .i64 0, .int .i64 0, .int .i64 1, .int .i64 1, .list 0 .tight 0 [], .int .i64 0, .bool false]
def w76 : List V := [.int .u8 4, .str [76, 105, 115, 116], .int .i64 0, .int .u8 6, .int .i64 0, .str [], .list 0 .tight 0 [], .list 5 .tight 0 [.agg w41, .agg w41], .int .u8 0, .int .i64 0, .str [], .list 0 .tight 0 [], .list 0 .tight 0 [], .int .i64 0, .str [76, 105, 115, 116], .str [76, 105, 115, 116], .int .i64 1, .int .i64 0, .int .i64 0, .int .i64 0, .int .i64 0, .int .i64 0, .list 0 .tight 0 [], .int .i64 2, .bool false]
def w77 : List V := [.int .u8 3, .int .i64 0, .str [76, 105, 115, 116], .list 0 .tight 0 [], .list 0 .tight 0 []]
def w78 : List V := [.int .u8 4, .int .i64 0, .str [], .list 0 .tight 0 [], .list 5 .tight 0 [.agg w77, .agg w10]]
def w79 : List V := [.int .u8 5, .str [76, 105, 115, 116, 46, 110, 105, 108], .int .i64 0, .int .u8 6, .int .i64 0, .str [], .list 0 .tight 0 [], .list 5 .tight 0 [.agg w41, .agg w78], .int .u8 0, .int .i64 0, .str [], .list 0 .tight 0 [], .list 0 .tight 0 [], .int .i64 0, .str [76, 105, 115, 116], .str [76, 105, 115, 116], .int .i64 1, .int .i64 0, .int .i64 0, .int .i64 0, .int .i64 0, .int .i64 0, .list 0 .tight 0 [], .int .i64 0, .bool false]
def w80 : List V := [.int .u8 4, .int .i64 0, .str [], .list 0 .tight 0 [], .list 5 .tight 0 [.agg w77, .agg w17]]
def w81 : List V := [.int .u8 4, .int .i64 0, .str [], .list 0 .tight 0 [], .list 5 .tight 0 [.agg w77, .agg w13]]
def w82 : List V := [.int .u8 6, .int .i64 0, .str [], .list 0 .tight 0 [], .list 5 .tight 0 [.agg w80, .agg w81]]
def w83 : List V := [.int .u8 6, .int .i64 0, .str [], .list 0 .tight 0 [], .list 5 .tight 0 [.agg w10, .agg w82]]
def w84 : List V := [.int .u8 5, .str [76, 105, 115, 116, 46, 99, 111, 110, 115], .int .i64 0, .int .u8 6, .int .i64 0, .str [], .list 0 .tight 0 [], .list 5 .tight 0 [.agg w41, .agg w83], .int .u8 0, .int .i64 0, .str [], .list 0 .tight 0 [], .list 0 .tight 0 [], .int .i64 0, .str [76, 105, 115, 116], .str [76, 105, 115, 116], .int .i64 1, .int .i64 0, .int .i64 1, .int .i64 2, .int .i64 0, .int .i64 0, .list 0 .tight 0 [], .int .i64 0, .bool false]
def w85 : List V := [.int .u8 6, .int .i64 0, .str [], .list 0 .tight 0 [], .list 5 .tight 0 [.agg w78, .agg w8]]
def w86 : List V := [.int .u8 3, .int .i64 0, .str [76, 105, 115, 116, 46, 110, 105, 108], .list 0 .tight 0 [], .list 0 .tight 0 []]
def w87 : List V := [.int .u8 4, .int .i64 0, .str [], .list 0 .tight 0 [], .list 5 .tight 0 [.agg w86, .agg w17]]
def w88 : List V := [.int .u8 4, .int .i64 0, .str [], .list 0 .tight 0 [], .list 5 .tight 0 [.agg w10, .agg w87]]
def w89 : List V := [.int .u8 4, .int .i64 0, .str [], .list 0 .tight 0 [], .list 5 .tight 0 [.agg w77, .agg w15]]
def w90 : List V := [.int .u8 3, .int .i64 0, .str [76, 105, 115, 116, 46, 99, 111, 110, 115], .list 0 .tight 0 [], .list 0 .tight 0 []]
def w91 : List V := [.int .u8 2, .int .i64 5, .str [], .list 0 .tight 0 [], .list 0 .tight 0 []]
def w92 : List V := [.int .u8 4, .int .i64 0, .str [], .list 0 .tight 0 [], .list 5 .tight 0 [.agg w90, .agg w91]]
def w93 : List V := [.int .u8 4, .int .i64 0, .str [], .list 0 .tight 0 [], .list 5 .tight 0 [.agg w92, .agg w13]]
def w94 : List V := [.int .u8 4, .int .i64 0, .str [], .list 0 .tight 0 [], .list 5 .tight 0 [.agg w93, .agg w17]]
def w95 : List V := [.int .u8 4, .int .i64 0, .str [], .list 0 .tight 0 [], .list 5 .tight 0 [.agg w55, .agg w94]]
def w96 : List V := [.int .u8 6, .int .i64 0, .str [], .list 0 .tight 0 [], .list 5 .tight 0 [.agg w22, .agg w95]]
def w97 : List V := [.int .u8 6, .int .i64 0, .str [], .list 0 .tight 0 [], .list 5 .tight 0 [.agg w89, .agg w96]]
def w98 : List V := [.int .u8 6, .int .i64 0, .str [], .list 0 .tight 0 [], .list 5 .tight 0 [.agg w13, .agg w97]]
def w99 : List V := [.int .u8 6, .int .i64 0, .str [], .list 0 .tight 0 [], .list 5 .tight 0 [.agg w89, .agg w22]]
def w100 : List V := [.int .u8 6, .int .i64 0, .str [], .list 0 .tight 0 [], .list 5 .tight 0 [.agg w98, .agg w99]]
def w101 : List V := [.int .u8 6, .int .i64 0, .str [], .list 0 .tight 0 [], .list 5 .tight 0 [.agg w88, .agg w100]]
def w102 : List V := [.int .u8 6, .int .i64 0, .str [], .list 0 .tight 0 [], .list 5 .tight 0 [.agg w85, .agg w101]]
def w103 : List V := [.int .u8 5, .int .i64 0, .str [], .list 0 .tight 0 [], .list 5 .tight 0 [.agg w98, .agg w17]]
def w104 : List V := [.int .u8 5, .int .i64 0, .str [], .list 0 .tight 0 [], .list 5 .tight 0 [.agg w88, .agg w103]]
def w105 : List V := [.int .u8 5, .int .i64 0, .str [], .list 0 .tight 0 [], .list 5 .tight 0 [.agg w85, .agg w104]]
def w106 : List V := [.str [76, 105, 115, 116, 46, 110, 105, 108], .int .i64 0, .int .u8 5, .int .i64 0, .str [], .list 0 .tight 0 [], .list 5 .tight 0 [.agg w41, .agg w105]]
def w107 : List V := [.int .u8 4, .int .i64 0, .str [], .list 0 .tight 0 [], .list 5 .tight 0 [.agg w77, .agg w55]]
def w108 : List V := [.int .u8 4, .int .i64 0, .str [], .list 0 .tight 0 [], .list 5 .tight 0 [.agg w13, .agg w17]]
def w109 : List V := [.int .u8 4, .int .i64 0, .str [], .list 0 .tight 0 [], .list 5 .tight 0 [.agg w108, .agg w10]]
def w110 : List V := [.int .u8 3, .int .i64 0, .str [76, 105, 115, 116, 46, 114, 101, 99], .list 5 .tight 0 [.agg w7], .list 0 .tight 0 []]
def w111 : List V := [.int .u8 4, .int .i64 0, .str [], .list 0 .tight 0 [], .list 5 .tight 0 [.agg w110, .agg w91]]
def w112 : List V := [.int .u8 4, .int .i64 0, .str [], .list 0 .tight 0 [], .list 5 .tight 0 [.agg w111, .agg w55]]
def w113 : List V := [.int .u8 4, .int .i64 0, .str [], .list 0 .tight 0 [], .list 5 .tight 0 [.agg w112, .agg w15]]
def w114 : List V := [.int .u8 4, .int .i64 0, .str [], .list 0 .tight 0 [], .list 5 .tight 0 [.agg w113, .agg w13]]
def w115 : List V := [.int .u8 4, .int .i64 0, .str [], .list 0 .tight 0 [], .list 5 .tight 0 [.agg w114, .agg w10]]
def w116 : List V := [.int .u8 4, .int .i64 0, .str [], .list 0 .tight 0 [], .list 5 .tight 0 [.agg w109, .agg w115]]
def w117 : List V := [.int .u8 5, .int .i64 0, .str [], .list 0 .tight 0 [], .list 5 .tight 0 [.agg w107, .agg w116]]
def w118 : List V := [.int .u8 5, .int .i64 0, .str [], .list 0 .tight 0 [], .list 5 .tight 0 [.agg w15, .agg w117]]
def w119 : List V := [.int .u8 5, .int .i64 0, .str [], .list 0 .tight 0 [], .list 5 .tight 0 [.agg w98, .agg w118]]
def w120 : List V := [.int .u8 5, .int .i64 0, .str [], .list 0 .tight 0 [], .list 5 .tight 0 [.agg w88, .agg w119]]
def w121 : List V := [.int .u8 5, .int .i64 0, .str [], .list 0 .tight 0 [], .list 5 .tight 0 [.agg w85, .agg w120]]
def w122 : List V := [.str [76, 105, 115, 116, 46, 99, 111, 110, 115], .int .i64 2, .int .u8 5, .int .i64 0, .str [], .list 0 .tight 0 [], .list 5 .tight 0 [.agg w41, .agg w121]]
def w123 : List V := [.int .u8 6, .str [76, 105, 115, 116, 46, 114, 101, 99], .int .i64 1, .int .u8 6, .int .i64 0, .str [], .list 0 .tight 0 [], .list 5 .tight 0 [.agg w41, .agg w102], .int .u8 0, .int .i64 0, .str [], .list 0 .tight 0 [], .list 0 .tight 0 [], .int .i64 0, .str [76, 105, 115, 116], .str [76, 105, 115, 116], .int .i64 1, .int .i64 0, .int .i64 0, .int .i64 0, .int .i64 1, .int .i64 2, .list 7 .tight 0 [.agg w106, .agg w122], .int .i64 0, .bool false]
def w124 : List V := [.int .u8 1, .str [97], .int .i64 0, .int .u8 3, .int .i64 0, .str [78], .list 0 .tight 0 [], .list 0 .tight 0 [], .int .u8 0, .int .i64 0, .str [], .list 0 .tight 0 [], .list 0 .tight 0 [], .int .i64 0, .str [], .str [], .int .i64 0, .int .i64 0, .int .i64 0, .int .i64 0, .int .i64 0, .int .i64 0, .list 0 .tight 0 [], .int .i64 0, .bool false]
def w125 : List V := [.int .u8 1, .str [102], .int .i64 0, .int .u8 6, .int .i64 0, .str [], .list 0 .tight 0 [], .list 5 .tight 0 [.agg w5, .agg w5], .int .u8 0, .int .i64 0, .str [], .list 0 .tight 0 [], .list 0 .tight 0 [], .int .i64 0, .str [], .str [], .int .i64 0, .int .i64 0, .int .i64 0, .int .i64 0, .int .i64 0, .int .i64 0, .list 0 .tight 0 [], .int .i64 0, .bool false]
def w126 : List V := [.int .u8 4, .int .i64 0, .str [], .list 0 .tight 0 [], .list 5 .tight 0 [.agg w44, .agg w5]]
def w127 : List V := [.int .u8 1, .str [112], .int .i64 0, .int .u8 4, .int .i64 0, .str [], .list 0 .tight 0 [], .list 5 .tight 0 [.agg w126, .agg w5], .int .u8 0, .int .i64 0, .str [], .list 0 .tight 0 [], .list 0 .tight 0 [], .int .i64 0, .str [], .str [], .int .i64 0, .int .i64 0, .int .i64 0, .int .i64 0, .int .i64 0, .int .i64 0, .list 0 .tight 0 [], .int .i64 0, .bool false]
def w128 : List V := [.int .u8 6, .int .i64 0, .str [], .list 0 .tight 0 [], .list 5 .tight 0 [.agg w5, .agg w5]]
def w129 : List V := [.int .u8 3, .int .i64 0, .str [78, 46, 114, 101, 99], .list 5 .tight 0 [.agg w2], .list 0 .tight 0 []]
def w130 : List V := [.int .u8 5, .int .i64 0, .str [], .list 0 .tight 0 [], .list 5 .tight 0 [.agg w5, .agg w5]]
def w131 : List V := [.int .u8 4, .int .i64 0, .str [], .list 0 .tight 0 [], .list 5 .tight 0 [.agg w129, .agg w130]]
def w132 : List V := [.int .u8 4, .int .i64 0, .str [], .list 0 .tight 0 [], .list 5 .tight 0 [.agg w131, .agg w17]]
def w133 : List V := [.int .u8 4, .int .i64 0, .str [], .list 0 .tight 0 [], .list 5 .tight 0 [.agg w16, .agg w10]]
def w134 : List V := [.int .u8 5, .int .i64 0, .str [], .list 0 .tight 0 [], .list 5 .tight 0 [.agg w5, .agg w133]]
def w135 : List V := [.int .u8 5, .int .i64 0, .str [], .list 0 .tight 0 [], .list 5 .tight 0 [.agg w5, .agg w134]]
def w136 : List V := [.int .u8 4, .int .i64 0, .str [], .list 0 .tight 0 [], .list 5 .tight 0 [.agg w132, .agg w135]]
def w137 : List V := [.int .u8 4, .int .i64 0, .str [], .list 0 .tight 0 [], .list 5 .tight 0 [.agg w136, .agg w10]]
def w138 : List V := [.int .u8 5, .int .i64 0, .str [], .list 0 .tight 0 [], .list 5 .tight 0 [.agg w5, .agg w137]]
def w139 : List V := [.int .u8 2, .str [97, 100, 100], .int .i64 0, .int .u8 6, .int .i64 0, .str [], .list 0 .tight 0 [], .list 5 .tight 0 [.agg w5, .agg w128], .int .u8 5, .int .i64 0, .str [], .list 0 .tight 0 [], .list 5 .tight 0 [.agg w5, .agg w138], .int .i64 0, .str [], .str [], .int .i64 0, .int .i64 0, .int .i64 0, .int .i64 0, .int .i64 0, .int .i64 0, .list 0 .tight 0 [], .int .i64 0, .bool false]
def w140 : List V := [.int .u8 2, .str [111, 110, 101], .int .i64 0, .int .u8 3, .int .i64 0, .str [78], .list 0 .tight 0 [], .list 0 .tight 0 [], .int .u8 4, .int .i64 0, .str [], .list 0 .tight 0 [], .list 5 .tight 0 [.agg w16, .agg w11], .int .i64 0, .str [], .str [], .int .i64 0, .int .i64 0, .int .i64 0, .int .i64 0, .int .i64 0, .int .i64 0, .list 0 .tight 0 [], .int .i64 0, .bool false]
def w141 : List V := [.int .u8 3, .int .i64 0, .str [97, 100, 100], .list 0 .tight 0 [], .list 0 .tight 0 []]
def w142 : List V := [.int .u8 4, .int .i64 0, .str [], .list 0 .tight 0 [], .list 5 .tight 0 [.agg w141, .agg w10]]
def w143 : List V := [.int .u8 4, .int .i64 0, .str [], .list 0 .tight 0 [], .list 5 .tight 0 [.agg w142, .agg w10]]
def w144 : List V := [.int .u8 2, .str [100, 111, 117, 98, 108, 101], .int .i64 0, .int .u8 6, .int .i64 0, .str [], .list 0 .tight 0 [], .list 5 .tight 0 [.agg w5, .agg w5], .int .u8 5, .int .i64 0, .str [], .list 0 .tight 0 [], .list 5 .tight 0 [.agg w5, .agg w143], .int .i64 0, .str [], .str [], .int .i64 0, .int .i64 0, .int .i64 0, .int .i64 0, .int .i64 0, .int .i64 0, .list 0 .tight 0 [], .int .i64 0, .bool false]
def w145 : List V := [.int .u8 6, .int .i64 0, .str [], .list 0 .tight 0 [], .list 5 .tight 0 [.agg w10, .agg w17]]
def w146 : List V := [.int .u8 5, .int .i64 0, .str [], .list 0 .tight 0 [], .list 5 .tight 0 [.agg w10, .agg w10]]
def w147 : List V := [.int .u8 2, .str [105, 100], .int .i64 1, .int .u8 6, .int .i64 0, .str [], .list 0 .tight 0 [], .list 5 .tight 0 [.agg w8, .agg w145], .int .u8 5, .int .i64 0, .str [], .list 0 .tight 0 [], .list 5 .tight 0 [.agg w8, .agg w146], .int .i64 0, .str [], .str [], .int .i64 0, .int .i64 0, .int .i64 0, .int .i64 0, .int .i64 0, .int .i64 0, .list 0 .tight 0 [], .int .i64 0, .bool false]
def w148 : List V := [.int .u8 4, .int .i64 0, .str [], .list 0 .tight 0 [], .list 5 .tight 0 [.agg w51, .agg w13]]
def w149 : List V := [.int .u8 6, .int .i64 0, .str [], .list 0 .tight 0 [], .list 5 .tight 0 [.agg w52, .agg w148]]
def w150 : List V := [.int .u8 6, .int .i64 0, .str [], .list 0 .tight 0 [], .list 5 .tight 0 [.agg w41, .agg w149]]
def w151 : List V := [.int .u8 4, .int .i64 0, .str [], .list 0 .tight 0 [], .list 5 .tight 0 [.agg w54, .agg w17]]
def w152 : List V := [.int .u8 4, .int .i64 0, .str [], .list 0 .tight 0 [], .list 5 .tight 0 [.agg w151, .agg w13]]
def w153 : List V := [.int .u8 4, .int .i64 0, .str [], .list 0 .tight 0 [], .list 5 .tight 0 [.agg w152, .agg w69]]
def w154 : List V := [.int .u8 4, .int .i64 0, .str [], .list 0 .tight 0 [], .list 5 .tight 0 [.agg w153, .agg w67]]
def w155 : List V := [.int .u8 5, .int .i64 0, .str [], .list 0 .tight 0 [], .list 5 .tight 0 [.agg w52, .agg w154]]
def w156 : List V := [.int .u8 5, .int .i64 0, .str [], .list 0 .tight 0 [], .list 5 .tight 0 [.agg w41, .agg w155]]
def w157 : List V := [.int .u8 2, .str [115, 119, 97, 112], .int .i64 0, .int .u8 6, .int .i64 0, .str [], .list 0 .tight 0 [], .list 5 .tight 0 [.agg w41, .agg w150], .int .u8 5, .int .i64 0, .str [], .list 0 .tight 0 [], .list 5 .tight 0 [.agg w41, .agg w156], .int .i64 0, .str [], .str [], .int .i64 0, .int .i64 0, .int .i64 0, .int .i64 0, .int .i64 0, .int .i64 0, .list 0 .tight 0 [], .int .i64 0, .bool false]
def w158 : List V := [.int .u8 4, .int .i64 0, .str [], .list 0 .tight 0 [], .list 5 .tight 0 [.agg w16, .agg w11]]
def w159 : List V := [.int .u8 3, .str [116, 104, 109], .int .i64 0, .int .u8 3, .int .i64 0, .str [78], .list 0 .tight 0 [], .list 0 .tight 0 [], .int .u8 4, .int .i64 0, .str [], .list 0 .tight 0 [], .list 5 .tight 0 [.agg w16, .agg w158], .int .i64 0, .str [], .str [], .int .i64 0, .int .i64 0, .int .i64 0, .int .i64 0, .int .i64 0, .int .i64 0, .list 0 .tight 0 [], .int .i64 0, .bool false]
def w160 : List V := [.agg w3, .agg w4, .agg w6, .agg w40, .agg w43, .agg w50, .agg w75, .agg w76, .agg w79, .agg w84, .agg w123, .agg w124, .agg w125, .agg w127, .agg w139, .agg w140, .agg w144, .agg w147, .agg w157, .agg w159]
noncomputable def wS8 : St := { heap := appN [.map 80 [], .cells 82 [.map 0, .list 0 .tight 0 []]] (tabB (blkE wE7) 2 0), toks := [] }
def w161 : Env := { nt := 41, tmps := [(2, .ptr (.box 1) 0), (3, .list 25 .no 0 w160)], locs := [], fix := [] }
noncomputable def wE10 : Option (Env × St) := evalOps Tryz.cfg (RQ 101) (Tryz.cfg.fc 10) (fun _ => .any) (regArr (cfst b10d)).toList (takeN 5 (regArr (cfst b10d)).toList) 0 w161 wS8
def w162 : List V := [.int .u8 6, .str [78, 46, 114, 101, 99], .int .i64 1, .int .u8 6, .int .i64 0, .str [], .list 0 .tight 0 [], .list 5 .tight 0 [.agg w9, .agg w25], .int .u8 0, .int .i64 0, .str [], .list 0 .tight 0 [], .list 0 .tight 0 [], .int .i64 0, .str [78], .str [78], .int .i64 0, .int .i64 0, .int .i64 0, .int .i64 0, .int .i64 1, .int .i64 2, .list 7 (.own 1) 0 [.agg w28, .agg w39], .int .i64 0, .bool false]
def w163 : Blk := .map 80 [(.str [78], .agg w3), (.str [78, 46, 122, 101, 114, 111], .agg w4), (.str [78, 46, 115, 117, 99, 99], .agg w6), (.str [78, 46, 114, 101, 99], .agg w162)]
def w164 : List V := [.agg [.str [78]], .agg [.str [78, 46, 122, 101, 114, 111]], .agg [.str [78, 46, 115, 117, 99, 99]], .agg [.str [78, 46, 114, 101, 99]]]
noncomputable def wS11 : St := { heap := appN [w163, .cells 82 [.map 0, .list 1 (.own 0) 0 w164]] (tabB (blkA wE10) 2 16), toks := [4, 2] }
def w165 : Env := { nt := 41, tmps := [(11, .bool false), (10, .int .i64 0), (9, .list 25 .no 0 [.agg w3, .agg w4, .agg w6, .agg w40]), (8, .list 25 .no 0 w160), (7, .ptr (.box 1) 0), (2, .ptr (.box 1) 0), (3, .list 25 .no 0 w160)], locs := [], fix := [] }
noncomputable def wE13 : Option (Env × St) := evalOps Tryz.cfg (RQ 101) (Tryz.cfg.fc 10) (fun _ => .any) (regArr (cfst b10d)).toList (takeN 6 (dropN 5 (regArr (cfst b10d)).toList)) 5 w165 wS11
def w166 : List V := [.int .u8 2, .str [80, 97, 105, 114, 46, 114, 101, 99], .int .i64 1, .int .u8 6, .int .i64 0, .str [], .list 0 .tight 0 [], .list 5 .tight 0 [.agg w41, .agg w66], .int .u8 5, .int .i64 0, .str [], .list 0 .tight 0 [], .list 5 .tight 0 [.agg w41, .agg w74], .int .i64 1, .str [80, 97, 105, 114], .str [80, 97, 105, 114], .int .i64 2, .int .i64 0, .int .i64 0, .int .i64 0, .int .i64 1, .int .i64 1, .list 0 .tight 0 [], .int .i64 0, .bool false]
def w167 : Blk := .map 80 [(.str [78], .agg w3), (.str [78, 46, 122, 101, 114, 111], .agg w4), (.str [78, 46, 115, 117, 99, 99], .agg w6), (.str [78, 46, 114, 101, 99], .agg w162), (.str [80, 97, 105, 114], .agg w43), (.str [80, 97, 105, 114, 46, 109, 107], .agg w50), (.str [80, 97, 105, 114, 46, 114, 101, 99], .agg w166)]
def w168 : List V := [.agg [.str [78]], .agg [.str [78, 46, 122, 101, 114, 111]], .agg [.str [78, 46, 115, 117, 99, 99]], .agg [.str [78, 46, 114, 101, 99]], .agg [.str [80, 97, 105, 114]], .agg [.str [80, 97, 105, 114, 46, 109, 107]], .agg [.str [80, 97, 105, 114, 46, 114, 101, 99]]]
noncomputable def wS14 : St := { heap := appN [w167, .cells 82 [.map 0, .list 1 (.own 0) 0 w168]] (tabB (blkA wE13) 2 28), toks := [7, 2] }
def w169 : Env := { nt := 41, tmps := [(17, .bool false), (16, .int .i64 0), (15, .list 25 .no 0 [.agg w43, .agg w50, .agg w75]), (14, .list 25 .no 0 w160), (13, .ptr (.box 1) 0), (12, .bool false), (11, .bool false), (10, .int .i64 0), (9, .list 25 .no 0 [.agg w3, .agg w4, .agg w6, .agg w40]), (8, .list 25 .no 0 w160), (7, .ptr (.box 1) 0), (2, .ptr (.box 1) 0), (3, .list 25 .no 0 w160)], locs := [], fix := [] }
noncomputable def wE16 : Option (Env × St) := evalOps Tryz.cfg (RQ 101) (Tryz.cfg.fc 10) (fun _ => .any) (regArr (cfst b10d)).toList (takeN 7 (dropN 6 (dropN 5 (regArr (cfst b10d)).toList))) 11 w169 wS14
def w170 : List V := [.int .u8 6, .str [76, 105, 115, 116, 46, 114, 101, 99], .int .i64 1, .int .u8 6, .int .i64 0, .str [], .list 0 .tight 0 [], .list 5 .tight 0 [.agg w41, .agg w102], .int .u8 0, .int .i64 0, .str [], .list 0 .tight 0 [], .list 0 .tight 0 [], .int .i64 0, .str [76, 105, 115, 116], .str [76, 105, 115, 116], .int .i64 1, .int .i64 0, .int .i64 0, .int .i64 0, .int .i64 1, .int .i64 2, .list 7 (.own 2) 0 [.agg w106, .agg w122], .int .i64 0, .bool false]
def w171 : Blk := .map 80 [(.str [78], .agg w3), (.str [78, 46, 122, 101, 114, 111], .agg w4), (.str [78, 46, 115, 117, 99, 99], .agg w6), (.str [78, 46, 114, 101, 99], .agg w162), (.str [80, 97, 105, 114], .agg w43), (.str [80, 97, 105, 114, 46, 109, 107], .agg w50), (.str [80, 97, 105, 114, 46, 114, 101, 99], .agg w166), (.str [76, 105, 115, 116], .agg w76), (.str [76, 105, 115, 116, 46, 110, 105, 108], .agg w79), (.str [76, 105, 115, 116, 46, 99, 111, 110, 115], .agg w84), (.str [76, 105, 115, 116, 46, 114, 101, 99], .agg w170)]
def w172 : List V := [.agg [.str [78]], .agg [.str [78, 46, 122, 101, 114, 111]], .agg [.str [78, 46, 115, 117, 99, 99]], .agg [.str [78, 46, 114, 101, 99]], .agg [.str [80, 97, 105, 114]], .agg [.str [80, 97, 105, 114, 46, 109, 107]], .agg [.str [80, 97, 105, 114, 46, 114, 101, 99]], .agg [.str [76, 105, 115, 116]], .agg [.str [76, 105, 115, 116, 46, 110, 105, 108]], .agg [.str [76, 105, 115, 116, 46, 99, 111, 110, 115]], .agg [.str [76, 105, 115, 116, 46, 114, 101, 99]]]
noncomputable def wS17 : St := { heap := appN [w171, .cells 82 [.map 0, .list 1 (.own 0) 0 w172]] (tabB (blkA wE16) 2 44), toks := [11, 2, 2] }
def w173 : Env := { nt := 41, tmps := [(24, .bool false), (23, .int .i64 0), (22, .list 25 .no 0 [.agg w76, .agg w79, .agg w84, .agg w123]), (21, .list 25 .no 0 w160), (20, .ptr (.box 1) 0), (19, .bool false), (18, .bool false), (17, .bool false), (16, .int .i64 0), (15, .list 25 .no 0 [.agg w43, .agg w50, .agg w75]), (14, .list 25 .no 0 w160), (13, .ptr (.box 1) 0), (12, .bool false), (11, .bool false), (10, .int .i64 0), (9, .list 25 .no 0 [.agg w3, .agg w4, .agg w6, .agg w40]), (8, .list 25 .no 0 w160), (7, .ptr (.box 1) 0), (2, .ptr (.box 1) 0), (3, .list 25 .no 0 w160)], locs := [], fix := [] }
noncomputable def wE19 : Option (Env × St) := evalOps Tryz.cfg (RQ 101) (Tryz.cfg.fc 10) (fun _ => .any) (regArr (cfst b10d)).toList (dropN 7 (dropN 6 (dropN 5 (regArr (cfst b10d)).toList))) 18 w173 wS17
noncomputable def wS20 : St := { heap := appN [w171, .cells 82 [.map 0, .list 1 (.own 0) 0 w172]] (tabB (blkA wE19) 2 44), toks := [11, 2, 2] }
def w174 : Env := { nt := 41, tmps := [(25, .bool false), (24, .bool false), (23, .int .i64 0), (22, .list 25 .no 0 [.agg w76, .agg w79, .agg w84, .agg w123]), (21, .list 25 .no 0 w160), (20, .ptr (.box 1) 0), (19, .bool false), (18, .bool false), (17, .bool false), (16, .int .i64 0), (15, .list 25 .no 0 [.agg w43, .agg w50, .agg w75]), (14, .list 25 .no 0 w160), (13, .ptr (.box 1) 0), (12, .bool false), (11, .bool false), (10, .int .i64 0), (9, .list 25 .no 0 [.agg w3, .agg w4, .agg w6, .agg w40]), (8, .list 25 .no 0 w160), (7, .ptr (.box 1) 0), (2, .ptr (.box 1) 0), (3, .list 25 .no 0 w160)], locs := [], fix := [] }
def w175 : Env := { nt := 41, tmps := [(2, .ptr (.box 1) 0), (3, .list 25 .no 0 w160), (25, .bool false)], locs := [], fix := [] }
noncomputable def wE24 : Option (Ex × Env × St) := evalCode Tryz.cfg (RQ 101) 101 10 (Tryz.cfg.fc 10) (csnd b10d) w175 wS20
noncomputable def wS25 : St := { heap := appN [w171, .cells 82 [.map 0, .list 1 (.own 0) 0 w172]] (tabB (blkE wE24) 2 44), toks := [11, 2, 2] }
noncomputable def wE27 : Option (Ex × Env × St) := evalCode Tryz.cfg (RQ 101) 101 10 (Tryz.cfg.fc 10) (cfst b10e) w175 wS25
noncomputable def wS28 : St := { heap := appN [w171, .cells 82 [.map 0, .list 1 (.own 0) 0 w172]] (tabB (blkE wE27) 2 44), toks := [11, 2, 2] }
def w176 : Env := { nt := 41, tmps := [(2, .ptr (.box 1) 0), (3, .list 25 .no 0 w160), (4, .int .i64 11)], locs := [], fix := [] }
noncomputable def wE30 : Option (Ex × Env × St) := evalCode Tryz.cfg (RQ 101) 101 10 (Tryz.cfg.fc 10) b10l w176 wS28
def w177 : Blk := .map 80 [(.str [78], .agg w3), (.str [78, 46, 122, 101, 114, 111], .agg w4), (.str [78, 46, 115, 117, 99, 99], .agg w6), (.str [78, 46, 114, 101, 99], .agg w162), (.str [80, 97, 105, 114], .agg w43), (.str [80, 97, 105, 114, 46, 109, 107], .agg w50), (.str [80, 97, 105, 114, 46, 114, 101, 99], .agg w166), (.str [76, 105, 115, 116], .agg w76), (.str [76, 105, 115, 116, 46, 110, 105, 108], .agg w79), (.str [76, 105, 115, 116, 46, 99, 111, 110, 115], .agg w84), (.str [76, 105, 115, 116, 46, 114, 101, 99], .agg w170), (.str [97], .agg w124)]
def w178 : List V := [.agg [.str [78]], .agg [.str [78, 46, 122, 101, 114, 111]], .agg [.str [78, 46, 115, 117, 99, 99]], .agg [.str [78, 46, 114, 101, 99]], .agg [.str [80, 97, 105, 114]], .agg [.str [80, 97, 105, 114, 46, 109, 107]], .agg [.str [80, 97, 105, 114, 46, 114, 101, 99]], .agg [.str [76, 105, 115, 116]], .agg [.str [76, 105, 115, 116, 46, 110, 105, 108]], .agg [.str [76, 105, 115, 116, 46, 99, 111, 110, 115]], .agg [.str [76, 105, 115, 116, 46, 114, 101, 99]], .agg [.str [97]]]
noncomputable def wS31 : St := { heap := appN [w177, .cells 82 [.map 0, .list 1 (.own 0) 0 w178]] (tabB (blkE wE30) 2 48), toks := [12, 2, 2] }
def w179 : Env := { nt := 41, tmps := [(2, .ptr (.box 1) 0), (3, .list 25 .no 0 w160), (4, .int .i64 12)], locs := [], fix := [] }
noncomputable def wE33 : Option (Ex × Env × St) := evalCode Tryz.cfg (RQ 101) 101 10 (Tryz.cfg.fc 10) b10l w179 wS31
def w180 : Blk := .map 80 [(.str [78], .agg w3), (.str [78, 46, 122, 101, 114, 111], .agg w4), (.str [78, 46, 115, 117, 99, 99], .agg w6), (.str [78, 46, 114, 101, 99], .agg w162), (.str [80, 97, 105, 114], .agg w43), (.str [80, 97, 105, 114, 46, 109, 107], .agg w50), (.str [80, 97, 105, 114, 46, 114, 101, 99], .agg w166), (.str [76, 105, 115, 116], .agg w76), (.str [76, 105, 115, 116, 46, 110, 105, 108], .agg w79), (.str [76, 105, 115, 116, 46, 99, 111, 110, 115], .agg w84), (.str [76, 105, 115, 116, 46, 114, 101, 99], .agg w170), (.str [97], .agg w124), (.str [102], .agg w125)]
def w181 : List V := [.agg [.str [78]], .agg [.str [78, 46, 122, 101, 114, 111]], .agg [.str [78, 46, 115, 117, 99, 99]], .agg [.str [78, 46, 114, 101, 99]], .agg [.str [80, 97, 105, 114]], .agg [.str [80, 97, 105, 114, 46, 109, 107]], .agg [.str [80, 97, 105, 114, 46, 114, 101, 99]], .agg [.str [76, 105, 115, 116]], .agg [.str [76, 105, 115, 116, 46, 110, 105, 108]], .agg [.str [76, 105, 115, 116, 46, 99, 111, 110, 115]], .agg [.str [76, 105, 115, 116, 46, 114, 101, 99]], .agg [.str [97]], .agg [.str [102]]]
noncomputable def wS34 : St := { heap := appN [w180, .cells 82 [.map 0, .list 1 (.own 0) 0 w181]] (tabB (blkE wE33) 2 52), toks := [13, 2, 2] }
def w182 : Env := { nt := 41, tmps := [(2, .ptr (.box 1) 0), (3, .list 25 .no 0 w160), (4, .int .i64 13)], locs := [], fix := [] }
noncomputable def wE36 : Option (Ex × Env × St) := evalCode Tryz.cfg (RQ 101) 101 10 (Tryz.cfg.fc 10) b10l w182 wS34
def w183 : Blk := .map 80 [(.str [78], .agg w3), (.str [78, 46, 122, 101, 114, 111], .agg w4), (.str [78, 46, 115, 117, 99, 99], .agg w6), (.str [78, 46, 114, 101, 99], .agg w162), (.str [80, 97, 105, 114], .agg w43), (.str [80, 97, 105, 114, 46, 109, 107], .agg w50), (.str [80, 97, 105, 114, 46, 114, 101, 99], .agg w166), (.str [76, 105, 115, 116], .agg w76), (.str [76, 105, 115, 116, 46, 110, 105, 108], .agg w79), (.str [76, 105, 115, 116, 46, 99, 111, 110, 115], .agg w84), (.str [76, 105, 115, 116, 46, 114, 101, 99], .agg w170), (.str [97], .agg w124), (.str [102], .agg w125), (.str [112], .agg w127)]
def w184 : List V := [.agg [.str [78]], .agg [.str [78, 46, 122, 101, 114, 111]], .agg [.str [78, 46, 115, 117, 99, 99]], .agg [.str [78, 46, 114, 101, 99]], .agg [.str [80, 97, 105, 114]], .agg [.str [80, 97, 105, 114, 46, 109, 107]], .agg [.str [80, 97, 105, 114, 46, 114, 101, 99]], .agg [.str [76, 105, 115, 116]], .agg [.str [76, 105, 115, 116, 46, 110, 105, 108]], .agg [.str [76, 105, 115, 116, 46, 99, 111, 110, 115]], .agg [.str [76, 105, 115, 116, 46, 114, 101, 99]], .agg [.str [97]], .agg [.str [102]], .agg [.str [112]]]
noncomputable def wS37 : St := { heap := appN [w183, .cells 82 [.map 0, .list 1 (.own 0) 0 w184]] (tabB (blkE wE36) 2 56), toks := [14, 2, 2] }
def w185 : Env := { nt := 41, tmps := [(2, .ptr (.box 1) 0), (3, .list 25 .no 0 w160), (4, .int .i64 14)], locs := [], fix := [] }
noncomputable def wE39 : Option (Ex × Env × St) := evalCode Tryz.cfg (RQ 101) 101 10 (Tryz.cfg.fc 10) b10l w185 wS37
def w186 : List V := [.int .u8 2, .str [97, 100, 100], .int .i64 0, .int .u8 6, .int .i64 0, .str [], .list 0 .tight 0 [], .list 5 .tight 0 [.agg w5, .agg w128], .int .u8 5, .int .i64 0, .str [], .list 0 .tight 0 [], .list 5 .tight 0 [.agg w5, .agg w138], .int .i64 1, .str [], .str [], .int .i64 0, .int .i64 0, .int .i64 0, .int .i64 0, .int .i64 0, .int .i64 0, .list 0 .tight 0 [], .int .i64 0, .bool false]
def w187 : Blk := .map 80 [(.str [78], .agg w3), (.str [78, 46, 122, 101, 114, 111], .agg w4), (.str [78, 46, 115, 117, 99, 99], .agg w6), (.str [78, 46, 114, 101, 99], .agg w162), (.str [80, 97, 105, 114], .agg w43), (.str [80, 97, 105, 114, 46, 109, 107], .agg w50), (.str [80, 97, 105, 114, 46, 114, 101, 99], .agg w166), (.str [76, 105, 115, 116], .agg w76), (.str [76, 105, 115, 116, 46, 110, 105, 108], .agg w79), (.str [76, 105, 115, 116, 46, 99, 111, 110, 115], .agg w84), (.str [76, 105, 115, 116, 46, 114, 101, 99], .agg w170), (.str [97], .agg w124), (.str [102], .agg w125), (.str [112], .agg w127), (.str [97, 100, 100], .agg w186)]
def w188 : List V := [.agg [.str [78]], .agg [.str [78, 46, 122, 101, 114, 111]], .agg [.str [78, 46, 115, 117, 99, 99]], .agg [.str [78, 46, 114, 101, 99]], .agg [.str [80, 97, 105, 114]], .agg [.str [80, 97, 105, 114, 46, 109, 107]], .agg [.str [80, 97, 105, 114, 46, 114, 101, 99]], .agg [.str [76, 105, 115, 116]], .agg [.str [76, 105, 115, 116, 46, 110, 105, 108]], .agg [.str [76, 105, 115, 116, 46, 99, 111, 110, 115]], .agg [.str [76, 105, 115, 116, 46, 114, 101, 99]], .agg [.str [97]], .agg [.str [102]], .agg [.str [112]], .agg [.str [97, 100, 100]]]
noncomputable def wS40 : St := { heap := appN [w187, .cells 82 [.map 0, .list 1 (.own 0) 0 w188]] (tabB (blkE wE39) 2 60), toks := [15, 2, 2] }
def w189 : Env := { nt := 41, tmps := [(2, .ptr (.box 1) 0), (3, .list 25 .no 0 w160), (4, .int .i64 15)], locs := [], fix := [] }
noncomputable def wE42 : Option (Ex × Env × St) := evalCode Tryz.cfg (RQ 101) 101 10 (Tryz.cfg.fc 10) b10l w189 wS40
def w190 : List V := [.int .u8 2, .str [111, 110, 101], .int .i64 0, .int .u8 3, .int .i64 0, .str [78], .list 0 .tight 0 [], .list 0 .tight 0 [], .int .u8 4, .int .i64 0, .str [], .list 0 .tight 0 [], .list 5 .tight 0 [.agg w16, .agg w11], .int .i64 1, .str [], .str [], .int .i64 0, .int .i64 0, .int .i64 0, .int .i64 0, .int .i64 0, .int .i64 0, .list 0 .tight 0 [], .int .i64 0, .bool false]
def w191 : Blk := .map 80 [(.str [78], .agg w3), (.str [78, 46, 122, 101, 114, 111], .agg w4), (.str [78, 46, 115, 117, 99, 99], .agg w6), (.str [78, 46, 114, 101, 99], .agg w162), (.str [80, 97, 105, 114], .agg w43), (.str [80, 97, 105, 114, 46, 109, 107], .agg w50), (.str [80, 97, 105, 114, 46, 114, 101, 99], .agg w166), (.str [76, 105, 115, 116], .agg w76), (.str [76, 105, 115, 116, 46, 110, 105, 108], .agg w79), (.str [76, 105, 115, 116, 46, 99, 111, 110, 115], .agg w84), (.str [76, 105, 115, 116, 46, 114, 101, 99], .agg w170), (.str [97], .agg w124), (.str [102], .agg w125), (.str [112], .agg w127), (.str [97, 100, 100], .agg w186), (.str [111, 110, 101], .agg w190)]
def w192 : List V := [.agg [.str [78]], .agg [.str [78, 46, 122, 101, 114, 111]], .agg [.str [78, 46, 115, 117, 99, 99]], .agg [.str [78, 46, 114, 101, 99]], .agg [.str [80, 97, 105, 114]], .agg [.str [80, 97, 105, 114, 46, 109, 107]], .agg [.str [80, 97, 105, 114, 46, 114, 101, 99]], .agg [.str [76, 105, 115, 116]], .agg [.str [76, 105, 115, 116, 46, 110, 105, 108]], .agg [.str [76, 105, 115, 116, 46, 99, 111, 110, 115]], .agg [.str [76, 105, 115, 116, 46, 114, 101, 99]], .agg [.str [97]], .agg [.str [102]], .agg [.str [112]], .agg [.str [97, 100, 100]], .agg [.str [111, 110, 101]]]
noncomputable def wS43 : St := { heap := appN [w191, .cells 82 [.map 0, .list 1 (.own 0) 0 w192]] (tabB (blkE wE42) 2 64), toks := [16, 2, 2] }
def w193 : Env := { nt := 41, tmps := [(2, .ptr (.box 1) 0), (3, .list 25 .no 0 w160), (4, .int .i64 16)], locs := [], fix := [] }
noncomputable def wE45 : Option (Ex × Env × St) := evalCode Tryz.cfg (RQ 101) 101 10 (Tryz.cfg.fc 10) b10l w193 wS43
def w194 : List V := [.int .u8 2, .str [100, 111, 117, 98, 108, 101], .int .i64 0, .int .u8 6, .int .i64 0, .str [], .list 0 .tight 0 [], .list 5 .tight 0 [.agg w5, .agg w5], .int .u8 5, .int .i64 0, .str [], .list 0 .tight 0 [], .list 5 .tight 0 [.agg w5, .agg w143], .int .i64 2, .str [], .str [], .int .i64 0, .int .i64 0, .int .i64 0, .int .i64 0, .int .i64 0, .int .i64 0, .list 0 .tight 0 [], .int .i64 0, .bool false]
def w195 : Blk := .map 80 [(.str [78], .agg w3), (.str [78, 46, 122, 101, 114, 111], .agg w4), (.str [78, 46, 115, 117, 99, 99], .agg w6), (.str [78, 46, 114, 101, 99], .agg w162), (.str [80, 97, 105, 114], .agg w43), (.str [80, 97, 105, 114, 46, 109, 107], .agg w50), (.str [80, 97, 105, 114, 46, 114, 101, 99], .agg w166), (.str [76, 105, 115, 116], .agg w76), (.str [76, 105, 115, 116, 46, 110, 105, 108], .agg w79), (.str [76, 105, 115, 116, 46, 99, 111, 110, 115], .agg w84), (.str [76, 105, 115, 116, 46, 114, 101, 99], .agg w170), (.str [97], .agg w124), (.str [102], .agg w125), (.str [112], .agg w127), (.str [97, 100, 100], .agg w186), (.str [111, 110, 101], .agg w190), (.str [100, 111, 117, 98, 108, 101], .agg w194)]
def w196 : List V := [.agg [.str [78]], .agg [.str [78, 46, 122, 101, 114, 111]], .agg [.str [78, 46, 115, 117, 99, 99]], .agg [.str [78, 46, 114, 101, 99]], .agg [.str [80, 97, 105, 114]], .agg [.str [80, 97, 105, 114, 46, 109, 107]], .agg [.str [80, 97, 105, 114, 46, 114, 101, 99]], .agg [.str [76, 105, 115, 116]], .agg [.str [76, 105, 115, 116, 46, 110, 105, 108]], .agg [.str [76, 105, 115, 116, 46, 99, 111, 110, 115]], .agg [.str [76, 105, 115, 116, 46, 114, 101, 99]], .agg [.str [97]], .agg [.str [102]], .agg [.str [112]], .agg [.str [97, 100, 100]], .agg [.str [111, 110, 101]], .agg [.str [100, 111, 117, 98, 108, 101]]]
noncomputable def wS46 : St := { heap := appN [w195, .cells 82 [.map 0, .list 1 (.own 0) 0 w196]] (tabB (blkE wE45) 2 68), toks := [17, 2, 2] }
def w197 : Env := { nt := 41, tmps := [(2, .ptr (.box 1) 0), (3, .list 25 .no 0 w160), (4, .int .i64 17)], locs := [], fix := [] }
noncomputable def wE48 : Option (Ex × Env × St) := evalCode Tryz.cfg (RQ 101) 101 10 (Tryz.cfg.fc 10) b10l w197 wS46
def w198 : List V := [.int .u8 2, .str [105, 100], .int .i64 1, .int .u8 6, .int .i64 0, .str [], .list 0 .tight 0 [], .list 5 .tight 0 [.agg w8, .agg w145], .int .u8 5, .int .i64 0, .str [], .list 0 .tight 0 [], .list 5 .tight 0 [.agg w8, .agg w146], .int .i64 1, .str [], .str [], .int .i64 0, .int .i64 0, .int .i64 0, .int .i64 0, .int .i64 0, .int .i64 0, .list 0 .tight 0 [], .int .i64 0, .bool false]
def w199 : Blk := .map 80 [(.str [78], .agg w3), (.str [78, 46, 122, 101, 114, 111], .agg w4), (.str [78, 46, 115, 117, 99, 99], .agg w6), (.str [78, 46, 114, 101, 99], .agg w162), (.str [80, 97, 105, 114], .agg w43), (.str [80, 97, 105, 114, 46, 109, 107], .agg w50), (.str [80, 97, 105, 114, 46, 114, 101, 99], .agg w166), (.str [76, 105, 115, 116], .agg w76), (.str [76, 105, 115, 116, 46, 110, 105, 108], .agg w79), (.str [76, 105, 115, 116, 46, 99, 111, 110, 115], .agg w84), (.str [76, 105, 115, 116, 46, 114, 101, 99], .agg w170), (.str [97], .agg w124), (.str [102], .agg w125), (.str [112], .agg w127), (.str [97, 100, 100], .agg w186), (.str [111, 110, 101], .agg w190), (.str [100, 111, 117, 98, 108, 101], .agg w194), (.str [105, 100], .agg w198)]
def w200 : List V := [.agg [.str [78]], .agg [.str [78, 46, 122, 101, 114, 111]], .agg [.str [78, 46, 115, 117, 99, 99]], .agg [.str [78, 46, 114, 101, 99]], .agg [.str [80, 97, 105, 114]], .agg [.str [80, 97, 105, 114, 46, 109, 107]], .agg [.str [80, 97, 105, 114, 46, 114, 101, 99]], .agg [.str [76, 105, 115, 116]], .agg [.str [76, 105, 115, 116, 46, 110, 105, 108]], .agg [.str [76, 105, 115, 116, 46, 99, 111, 110, 115]], .agg [.str [76, 105, 115, 116, 46, 114, 101, 99]], .agg [.str [97]], .agg [.str [102]], .agg [.str [112]], .agg [.str [97, 100, 100]], .agg [.str [111, 110, 101]], .agg [.str [100, 111, 117, 98, 108, 101]], .agg [.str [105, 100]]]
noncomputable def wS49 : St := { heap := appN [w199, .cells 82 [.map 0, .list 1 (.own 0) 0 w200]] (tabB (blkE wE48) 2 72), toks := [18, 2, 2] }
def w201 : Env := { nt := 41, tmps := [(2, .ptr (.box 1) 0), (3, .list 25 .no 0 w160), (4, .int .i64 18)], locs := [], fix := [] }
noncomputable def wE51 : Option (Ex × Env × St) := evalCode Tryz.cfg (RQ 101) 101 10 (Tryz.cfg.fc 10) b10l w201 wS49
def w202 : List V := [.int .u8 2, .str [115, 119, 97, 112], .int .i64 0, .int .u8 6, .int .i64 0, .str [], .list 0 .tight 0 [], .list 5 .tight 0 [.agg w41, .agg w150], .int .u8 5, .int .i64 0, .str [], .list 0 .tight 0 [], .list 5 .tight 0 [.agg w41, .agg w156], .int .i64 1, .str [], .str [], .int .i64 0, .int .i64 0, .int .i64 0, .int .i64 0, .int .i64 0, .int .i64 0, .list 0 .tight 0 [], .int .i64 0, .bool false]
def w203 : Blk := .map 80 [(.str [78], .agg w3), (.str [78, 46, 122, 101, 114, 111], .agg w4), (.str [78, 46, 115, 117, 99, 99], .agg w6), (.str [78, 46, 114, 101, 99], .agg w162), (.str [80, 97, 105, 114], .agg w43), (.str [80, 97, 105, 114, 46, 109, 107], .agg w50), (.str [80, 97, 105, 114, 46, 114, 101, 99], .agg w166), (.str [76, 105, 115, 116], .agg w76), (.str [76, 105, 115, 116, 46, 110, 105, 108], .agg w79), (.str [76, 105, 115, 116, 46, 99, 111, 110, 115], .agg w84), (.str [76, 105, 115, 116, 46, 114, 101, 99], .agg w170), (.str [97], .agg w124), (.str [102], .agg w125), (.str [112], .agg w127), (.str [97, 100, 100], .agg w186), (.str [111, 110, 101], .agg w190), (.str [100, 111, 117, 98, 108, 101], .agg w194), (.str [105, 100], .agg w198), (.str [115, 119, 97, 112], .agg w202)]
def w204 : List V := [.agg [.str [78]], .agg [.str [78, 46, 122, 101, 114, 111]], .agg [.str [78, 46, 115, 117, 99, 99]], .agg [.str [78, 46, 114, 101, 99]], .agg [.str [80, 97, 105, 114]], .agg [.str [80, 97, 105, 114, 46, 109, 107]], .agg [.str [80, 97, 105, 114, 46, 114, 101, 99]], .agg [.str [76, 105, 115, 116]], .agg [.str [76, 105, 115, 116, 46, 110, 105, 108]], .agg [.str [76, 105, 115, 116, 46, 99, 111, 110, 115]], .agg [.str [76, 105, 115, 116, 46, 114, 101, 99]], .agg [.str [97]], .agg [.str [102]], .agg [.str [112]], .agg [.str [97, 100, 100]], .agg [.str [111, 110, 101]], .agg [.str [100, 111, 117, 98, 108, 101]], .agg [.str [105, 100]], .agg [.str [115, 119, 97, 112]]]
noncomputable def wS52 : St := { heap := appN [w203, .cells 82 [.map 0, .list 1 (.own 0) 0 w204]] (tabB (blkE wE51) 2 76), toks := [19, 2, 2] }
def w205 : Env := { nt := 41, tmps := [(2, .ptr (.box 1) 0), (3, .list 25 .no 0 w160), (4, .int .i64 19)], locs := [], fix := [] }
noncomputable def wE54 : Option (Ex × Env × St) := evalCode Tryz.cfg (RQ 101) 101 10 (Tryz.cfg.fc 10) b10l w205 wS52
def w206 : Blk := .map 80 [(.str [78], .agg w3), (.str [78, 46, 122, 101, 114, 111], .agg w4), (.str [78, 46, 115, 117, 99, 99], .agg w6), (.str [78, 46, 114, 101, 99], .agg w162), (.str [80, 97, 105, 114], .agg w43), (.str [80, 97, 105, 114, 46, 109, 107], .agg w50), (.str [80, 97, 105, 114, 46, 114, 101, 99], .agg w166), (.str [76, 105, 115, 116], .agg w76), (.str [76, 105, 115, 116, 46, 110, 105, 108], .agg w79), (.str [76, 105, 115, 116, 46, 99, 111, 110, 115], .agg w84), (.str [76, 105, 115, 116, 46, 114, 101, 99], .agg w170), (.str [97], .agg w124), (.str [102], .agg w125), (.str [112], .agg w127), (.str [97, 100, 100], .agg w186), (.str [111, 110, 101], .agg w190), (.str [100, 111, 117, 98, 108, 101], .agg w194), (.str [105, 100], .agg w198), (.str [115, 119, 97, 112], .agg w202), (.str [116, 104, 109], .agg w159)]
def w207 : List V := [.agg [.str [78]], .agg [.str [78, 46, 122, 101, 114, 111]], .agg [.str [78, 46, 115, 117, 99, 99]], .agg [.str [78, 46, 114, 101, 99]], .agg [.str [80, 97, 105, 114]], .agg [.str [80, 97, 105, 114, 46, 109, 107]], .agg [.str [80, 97, 105, 114, 46, 114, 101, 99]], .agg [.str [76, 105, 115, 116]], .agg [.str [76, 105, 115, 116, 46, 110, 105, 108]], .agg [.str [76, 105, 115, 116, 46, 99, 111, 110, 115]], .agg [.str [76, 105, 115, 116, 46, 114, 101, 99]], .agg [.str [97]], .agg [.str [102]], .agg [.str [112]], .agg [.str [97, 100, 100]], .agg [.str [111, 110, 101]], .agg [.str [100, 111, 117, 98, 108, 101]], .agg [.str [105, 100]], .agg [.str [115, 119, 97, 112]], .agg [.str [116, 104, 109]]]
noncomputable def wS55 : St := { heap := appN [w206, .cells 82 [.map 0, .list 1 (.own 0) 0 w207]] (tabB (blkE wE54) 2 80), toks := [20, 2, 2] }
def w208 : Env := { nt := 41, tmps := [(2, .ptr (.box 1) 0), (3, .list 25 .no 0 w160), (4, .int .i64 20)], locs := [], fix := [] }
noncomputable def wE57 : Option (Ex × Env × St) := evalCode Tryz.cfg (RQ 101) 101 10 (Tryz.cfg.fc 10) b10l w208 wS55
noncomputable def wS58 : St := { heap := appN [w206, .cells 82 [.map 0, .list 1 (.own 0) 0 w207]] (tabB (blkE wE57) 2 80), toks := [20, 2, 2] }
def w209 : Env := { nt := 41, tmps := [(2, .ptr (.box 1) 0), (3, .list 25 .no 0 w160), (4, .int .i64 20), (29, .bool false)], locs := [], fix := [] }
noncomputable def wE62 : Option (Ex × Env × St) := evalCode Tryz.cfg (RQ 101) 101 10 (Tryz.cfg.fc 10) b10f w209 wS58
noncomputable def wS63 : St := { heap := appN [w206, .cells 82 [.map 0, .list 1 (.own 0) 0 w207]] (tabB (blkE wE62) 2 80), toks := [20, 2, 2] }
def w210 : Env := { nt := 41, tmps := [(0, .ptr (.box 1) 0), (1, .bool true)], locs := [], fix := [] }
noncomputable def wE67 : Option (Ex × Env × St) := evalCode Tryz.cfg (RQ 102) 102 5 (Tryz.cfg.fc 5) b5a { nt := (Go.Proofs.Tryz.f5).ntmps, tmps := number 0 (mapN V.strip []), locs := [], fix := [] } St.empty
noncomputable def wS68 : St := { heap := appN [] (tabB (blkE wE67) 0 0), toks := [] }
def w211 : Env := { nt := 85, tmps := [], locs := [], fix := [] }
def w212 : Env := { nt := 85, tmps := [(13, .tuple [.ptr (.box 1) 0, .bool true])], locs := [], fix := [] }
noncomputable def wE71 : Option (Env × St) := evalOps Tryz.cfg (RQ 102) (Tryz.cfg.fc 5) (fun _ => .any) (regArr b5b).toList (dropN 1 (regArr b5b).toList) 1 w212 wS63
noncomputable def wS72 : St := { heap := appN [w206, .cells 82 [.map 0, .list 1 (.own 0) 0 w207]] (tabB (blkA wE71) 2 80), toks := [20, 2, 2] }
def w213 : Env := { nt := 85, tmps := [(2, .bool true), (1, .ptr (.box 1) 0), (15, .bool true), (14, .ptr (.box 1) 0), (12, .tuple [.ptr (.box 1) 0, .bool true]), (13, .tuple [.ptr (.box 1) 0, .bool true])], locs := [], fix := [] }
def w214 : Env := { nt := 85, tmps := [(1, .ptr (.box 1) 0), (2, .bool true)], locs := [], fix := [] }
noncomputable def wE76 : Option (Ex × Env × St) := evalCode Tryz.cfg (RQ 102) 102 5 (Tryz.cfg.fc 5) b5c w214 wS72
noncomputable def wS77 : St := { heap := appN [w206, .cells 82 [.map 0, .list 1 (.own 0) 0 w207]] (tabB (blkE wE76) 2 80), toks := [20, 2, 2] }
def w215 : Env := { nt := 85, tmps := [(1, .ptr (.box 1) 0), (17, .bool false)], locs := [], fix := [] }
noncomputable def wE79 : Option (Ex × Env × St) := evalCode Tryz.cfg (RQ 102) 102 5 (Tryz.cfg.fc 5) b5d w215 wS77
def w216 : List V := [.int .u8 3, .int .i64 0, .str [112], .list 0 .tight 0 [], .list 0 .tight 0 []]
noncomputable def wS80 : St := { heap := appN [w206, .cells 82 [.map 0, .list 1 (.own 0) 0 w207]] (tabB (blkE wE79) 2 80), toks := [20, 2, 2] }
def w217 : Env := { nt := 85, tmps := [(1, .ptr (.box 1) 0), (3, .ptr (.loc 3) 0)], locs := [(3, w216)], fix := [] }
noncomputable def wE82 : Option (Ex × Env × St) := evalCode Tryz.cfg (RQ 102) 102 5 (Tryz.cfg.fc 5) b5e w217 wS80
def w218 : List V := [.int .u8 4, .int .i64 0, .str [], .list 0 .tight 0 [], .list 5 .tight 0 [.agg w54, .agg w5]]
def w219 : List V := [.int .u8 4, .int .i64 0, .str [], .list 0 .tight 0 [], .list 5 .tight 0 [.agg w218, .agg w5]]
def w220 : List V := [.int .u8 8, .int .i64 0, .str [80, 97, 105, 114], .list 0 .tight 0 [], .list 5 .tight 0 [.agg w216]]
def w221 : List V := [.int .u8 4, .int .i64 0, .str [], .list 0 .tight 0 [], .list 5 .tight 0 [.agg w219, .agg w220]]
def w222 : List V := [.int .u8 8, .int .i64 1, .str [80, 97, 105, 114], .list 0 .tight 0 [], .list 5 .tight 0 [.agg w216]]
def w223 : List V := [.int .u8 4, .int .i64 0, .str [], .list 0 .tight 0 [], .list 5 .tight 0 [.agg w221, .agg w222]]
noncomputable def wS83 : St := { heap := appN [w206, .cells 82 [.map 0, .list 1 (.own 0) 0 w207]] (tabB (blkE wE82) 2 84), toks := [20, 2, 2, 20, 2, 4] }
def w224 : Env := { nt := 85, tmps := [(1, .ptr (.box 1) 0), (3, .ptr (.loc 3) 0), (4, .ptr (.loc 4) 0), (5, .int .i64 0)], locs := [(3, w216), (4, w223)], fix := [] }
noncomputable def wE85 : Option (Ex × Env × St) := evalCode Tryz.cfg (RQ 102) 102 5 (Tryz.cfg.fc 5) b5f w224 wS83
noncomputable def wS86 : St := { heap := appN [w206, .cells 82 [.map 0, .list 1 (.own 0) 0 w207]] (tabB (blkE wE85) 2 88), toks := [20, 2, 2, 20, 2, 4, 20, 2] }
def w225 : Env := { nt := 85, tmps := [(1, .ptr (.box 1) 0), (4, .ptr (.loc 4) 0), (5, .int .i64 0), (6, .ptr (.loc 6) 0), (7, .int .i64 0)], locs := [(3, w216), (4, w223), (6, w5)], fix := [] }
noncomputable def wE88 : Option (Ex × Env × St) := evalCode Tryz.cfg (RQ 102) 102 5 (Tryz.cfg.fc 5) b5g w225 wS86
noncomputable def wS89 : St := { heap := appN [w206, .cells 82 [.map 0, .list 1 (.own 0) 0 w207]] (tabB (blkE wE88) 2 88), toks := [20, 2, 2, 20, 2, 4, 20, 2, 20, 2] }
def w226 : Env := { nt := 85, tmps := [(4, .ptr (.loc 4) 0), (5, .int .i64 0), (6, .ptr (.loc 6) 0), (7, .int .i64 0), (8, .int .i64 2), (9, .bool true)], locs := [(3, w216), (4, w223), (6, w5)], fix := [] }
noncomputable def wE91 : Option (Ex × Env × St) := evalCode Tryz.cfg (RQ 102) 102 5 (Tryz.cfg.fc 5) b5h w226 wS89
def w227 : V := .list 5 (.own 10) 0 [.agg w5, .agg w5, .agg w220, .agg w222]
noncomputable def wS92 : St := { heap := appN [w206, .cells 82 [.map 0, .list 1 (.own 0) 0 w207]] (tabB (blkE wE91) 2 88), toks := [20, 2, 2, 20, 2, 4, 20, 2, 20, 2, 4] }
def w228 : Env := { nt := 85, tmps := [(5, .int .i64 0), (6, .ptr (.loc 6) 0), (7, .int .i64 0), (8, .int .i64 2), (9, .bool true), (10, .ptr (.loc 10) 0), (11, w227)], locs := [(3, w216), (4, w223), (6, w5), (10, w54)], fix := [] }
noncomputable def wE94 : Option (Ex × Env × St) := evalCode Tryz.cfg (RQ 102) 102 5 (Tryz.cfg.fc 5) b5i w228 wS92
noncomputable def wS95 : St := { heap := appN [w206, .cells 82 [.map 0, .list 1 (.own 0) 0 w207]] (tabB (blkE wE94) 2 88), toks := [20, 2, 2, 20, 2, 4, 20, 2, 20, 2, 4] }
def w229 : Env := { nt := 85, tmps := [(0, .bool true)], locs := [(3, w216), (4, w223), (6, w5), (10, w54)], fix := [] }

theorem wT3 : evalCode Tryz.cfg (RQ 101) 101 10 (Tryz.cfg.fc 10) b10a { nt := (Go.Proofs.Tryz.f10).ntmps, tmps := number 0 [], locs := [], fix := [] } St.empty = some (.normal, w0, wS2) := eas_is (E := wE1) (e := .normal) (A := w0) (bs := []) (m := 0) (d := 0) (tk := []) (by kernel_rfl)

theorem wT6 : evalCode Tryz.cfg (RQ 101) 101 10 (Tryz.cfg.fc 10) b10b w0 wS2 = some (.normal, w1, wS5) := eas_is (E := wE4) (e := .normal) (A := w1) (bs := [.map 80 [], .cells 82 [.map 0, .list 0 .tight 0 []]]) (m := 2) (d := 0) (tk := []) (by kernel_rfl)

theorem wT9 : evalCode Tryz.cfg (RQ 101) 101 10 (Tryz.cfg.fc 10) b10c w1 wS5 = some (.normal, w161, wS8) := eas_is (E := wE7) (e := .normal) (A := w161) (bs := [.map 80 [], .cells 82 [.map 0, .list 0 .tight 0 []]]) (m := 2) (d := 0) (tk := []) (by kernel_rfl)

theorem wT12 : evalOps Tryz.cfg (RQ 101) (Tryz.cfg.fc 10) (fun _ => .any) (regArr (cfst b10d)).toList (takeN 5 (regArr (cfst b10d)).toList) 0 w161 wS8 = some (w165, wS11) := as_is (E := wE10) (A := w165) (bs := [w163, .cells 82 [.map 0, .list 1 (.own 0) 0 w164]]) (m := 2) (d := 16) (tk := [4, 2]) (by kernel_rfl)

theorem wT15 : evalOps Tryz.cfg (RQ 101) (Tryz.cfg.fc 10) (fun _ => .any) (regArr (cfst b10d)).toList (takeN 6 (dropN 5 (regArr (cfst b10d)).toList)) 5 w165 wS11 = some (w169, wS14) := as_is (E := wE13) (A := w169) (bs := [w167, .cells 82 [.map 0, .list 1 (.own 0) 0 w168]]) (m := 2) (d := 28) (tk := [7, 2]) (by kernel_rfl)

theorem wT18 : evalOps Tryz.cfg (RQ 101) (Tryz.cfg.fc 10) (fun _ => .any) (regArr (cfst b10d)).toList (takeN 7 (dropN 6 (dropN 5 (regArr (cfst b10d)).toList))) 11 w169 wS14 = some (w173, wS17) := as_is (E := wE16) (A := w173) (bs := [w171, .cells 82 [.map 0, .list 1 (.own 0) 0 w172]]) (m := 2) (d := 44) (tk := [11, 2, 2]) (by kernel_rfl)

theorem wT21 : evalOps Tryz.cfg (RQ 101) (Tryz.cfg.fc 10) (fun _ => .any) (regArr (cfst b10d)).toList (dropN 7 (dropN 6 (dropN 5 (regArr (cfst b10d)).toList))) 18 w173 wS17 = some (w174, wS20) := as_is (E := wE19) (A := w174) (bs := [w171, .cells 82 [.map 0, .list 1 (.own 0) 0 w172]]) (m := 2) (d := 44) (tk := [11, 2, 2]) (by kernel_rfl)

theorem wT22 : evalOps Tryz.cfg (RQ 101) (Tryz.cfg.fc 10) (fun _ => .any) (regArr (cfst b10d)).toList (regArr (cfst b10d)).toList 0 w161 wS8 = some (w174, wS20) := ops_cut 5 (by kernel_rfl) wT12 (ops_cut 6 (by kernel_rfl) wT15 (ops_cut 7 (by kernel_rfl) wT18 (wT21)))

theorem wT23 : evalCode Tryz.cfg (RQ 101) 101 10 (Tryz.cfg.fc 10) (cfst b10d) w161 wS8 = some (.normal, w175, wS20) := (ev_region (id := 3) (by kernel_rfl) wT22).trans (by kernel_rfl)

theorem wT26 : evalCode Tryz.cfg (RQ 101) 101 10 (Tryz.cfg.fc 10) (csnd b10d) w175 wS20 = some (.normal, w175, wS25) := eas_is (E := wE24) (e := .normal) (A := w175) (bs := [w171, .cells 82 [.map 0, .list 1 (.own 0) 0 w172]]) (m := 2) (d := 44) (tk := [11, 2, 2]) (by kernel_rfl)

theorem wT29 : evalCode Tryz.cfg (RQ 101) 101 10 (Tryz.cfg.fc 10) (cfst b10e) w175 wS25 = some (.normal, w176, wS28) := eas_is (E := wE27) (e := .normal) (A := w176) (bs := [w171, .cells 82 [.map 0, .list 1 (.own 0) 0 w172]]) (m := 2) (d := 44) (tk := [11, 2, 2]) (by kernel_rfl)

theorem wT32 : evalCode Tryz.cfg (RQ 101) 101 10 (Tryz.cfg.fc 10) b10l w176 wS28 = some (.normal, w179, wS31) := eas_is (E := wE30) (e := .normal) (A := w179) (bs := [w177, .cells 82 [.map 0, .list 1 (.own 0) 0 w178]]) (m := 2) (d := 48) (tk := [12, 2, 2]) (by kernel_rfl)

theorem wT35 : evalCode Tryz.cfg (RQ 101) 101 10 (Tryz.cfg.fc 10) b10l w179 wS31 = some (.normal, w182, wS34) := eas_is (E := wE33) (e := .normal) (A := w182) (bs := [w180, .cells 82 [.map 0, .list 1 (.own 0) 0 w181]]) (m := 2) (d := 52) (tk := [13, 2, 2]) (by kernel_rfl)

theorem wT38 : evalCode Tryz.cfg (RQ 101) 101 10 (Tryz.cfg.fc 10) b10l w182 wS34 = some (.normal, w185, wS37) := eas_is (E := wE36) (e := .normal) (A := w185) (bs := [w183, .cells 82 [.map 0, .list 1 (.own 0) 0 w184]]) (m := 2) (d := 56) (tk := [14, 2, 2]) (by kernel_rfl)

theorem wT41 : evalCode Tryz.cfg (RQ 101) 101 10 (Tryz.cfg.fc 10) b10l w185 wS37 = some (.normal, w189, wS40) := eas_is (E := wE39) (e := .normal) (A := w189) (bs := [w187, .cells 82 [.map 0, .list 1 (.own 0) 0 w188]]) (m := 2) (d := 60) (tk := [15, 2, 2]) (by kernel_rfl)

theorem wT44 : evalCode Tryz.cfg (RQ 101) 101 10 (Tryz.cfg.fc 10) b10l w189 wS40 = some (.normal, w193, wS43) := eas_is (E := wE42) (e := .normal) (A := w193) (bs := [w191, .cells 82 [.map 0, .list 1 (.own 0) 0 w192]]) (m := 2) (d := 64) (tk := [16, 2, 2]) (by kernel_rfl)

theorem wT47 : evalCode Tryz.cfg (RQ 101) 101 10 (Tryz.cfg.fc 10) b10l w193 wS43 = some (.normal, w197, wS46) := eas_is (E := wE45) (e := .normal) (A := w197) (bs := [w195, .cells 82 [.map 0, .list 1 (.own 0) 0 w196]]) (m := 2) (d := 68) (tk := [17, 2, 2]) (by kernel_rfl)

theorem wT50 : evalCode Tryz.cfg (RQ 101) 101 10 (Tryz.cfg.fc 10) b10l w197 wS46 = some (.normal, w201, wS49) := eas_is (E := wE48) (e := .normal) (A := w201) (bs := [w199, .cells 82 [.map 0, .list 1 (.own 0) 0 w200]]) (m := 2) (d := 72) (tk := [18, 2, 2]) (by kernel_rfl)

theorem wT53 : evalCode Tryz.cfg (RQ 101) 101 10 (Tryz.cfg.fc 10) b10l w201 wS49 = some (.normal, w205, wS52) := eas_is (E := wE51) (e := .normal) (A := w205) (bs := [w203, .cells 82 [.map 0, .list 1 (.own 0) 0 w204]]) (m := 2) (d := 76) (tk := [19, 2, 2]) (by kernel_rfl)

theorem wT56 : evalCode Tryz.cfg (RQ 101) 101 10 (Tryz.cfg.fc 10) b10l w205 wS52 = some (.normal, w208, wS55) := eas_is (E := wE54) (e := .normal) (A := w208) (bs := [w206, .cells 82 [.map 0, .list 1 (.own 0) 0 w207]]) (m := 2) (d := 80) (tk := [20, 2, 2]) (by kernel_rfl)

theorem wT59 : evalCode Tryz.cfg (RQ 101) 101 10 (Tryz.cfg.fc 10) b10l w208 wS55 = some ((.exit 0), w209, wS58) := eas_is (E := wE57) (e := (.exit 0)) (A := w209) (bs := [w206, .cells 82 [.map 0, .list 1 (.own 0) 0 w207]]) (m := 2) (d := 80) (tk := [20, 2, 2]) (by kernel_rfl)

theorem wT60 : iter (evalCode Tryz.cfg (RQ 101) 101 10 (Tryz.cfg.fc 10) b10l) 101 w176 wS28 = some ((.exit 0), w209, wS58) := it_go wT32 (it_go wT35 (it_go wT38 (it_go wT41 (it_go wT44 (it_go wT47 (it_go wT50 (it_go wT53 (it_go wT56 (it_out wT59 (by decide))))))))))

theorem wT61 : evalCode Tryz.cfg (RQ 101) 101 10 (Tryz.cfg.fc 10) (csnd b10e) w176 wS28 = some (.normal, w209, wS58) := (show evalCode Tryz.cfg (RQ 101) 101 10 (Tryz.cfg.fc 10) (.block 0 (.loop b10l)) w176 wS28 = _ from ev_block (show evalCode Tryz.cfg (RQ 101) 101 10 (Tryz.cfg.fc 10) (.loop b10l) w176 wS28 = _ from wT60))

theorem wT64 : evalCode Tryz.cfg (RQ 101) 101 10 (Tryz.cfg.fc 10) b10f w209 wS58 = some (.ret, w210, wS63) := eas_is (E := wE62) (e := .ret) (A := w210) (bs := [w206, .cells 82 [.map 0, .list 1 (.own 0) 0 w207]]) (m := 2) (d := 80) (tk := [20, 2, 2]) (by kernel_rfl)

theorem wT65 : evalCode Tryz.cfg (RQ 101) 101 10 (Tryz.cfg.fc 10) b10 { nt := (Go.Proofs.Tryz.f10).ntmps, tmps := number 0 [], locs := [], fix := [] } St.empty = some (.ret, w210, wS63) := (show evalCode Tryz.cfg (RQ 101) 101 10 (Tryz.cfg.fc 10) (.seq b10a (.seq b10b (.seq b10c (.seq b10d (.seq b10e b10f))))) { nt := (Go.Proofs.Tryz.f10).ntmps, tmps := number 0 [], locs := [], fix := [] } St.empty = _ from ev_seq wT3 (ev_seq wT6 (ev_seq wT9 (ev_seq (show evalCode Tryz.cfg (RQ 101) 101 10 (Tryz.cfg.fc 10) (.seq (cfst b10d) (csnd b10d)) w161 wS8 = _ from ev_seq wT23 wT26) (ev_seq (show evalCode Tryz.cfg (RQ 101) 101 10 (Tryz.cfg.fc 10) (.seq (cfst b10e) (csnd b10e)) w175 wS25 = _ from ev_seq wT29 wT61) wT64)))))

theorem rq_step {id n : Nat} {args : List V} {S : St} (h : cutT id = none) : RQ (n + 1) (.f id) args S = step Tryz.cfg (RQ n) n (.f id) args S := by
  show withCut cutT (n + 1) (runc Tryz.cfg cutT (n + 1)) (.f id) args S = _
  unfold withCut
  simp only [h]
  rfl

theorem sample_is : RQ 102 (.f 10) [] St.empty = some (.tuple [.ptr (.box 1) 0, .bool true], wS63) := (rq_step (n := 101) (id := 10) (by kernel_rfl)).trans (step_here (by kernel_rfl) (frame_is (fn := Go.Proofs.Tryz.f10) (c := b10) (vs := [.ptr (.box 1) 0, .bool true]) (A1 := w210) (S1 := wS63) (e := .ret) (by kernel_rfl) (by kernel_rfl) wT65 (fun i h => by cases h) (by kernel_rfl) (by kernel_rfl)))

theorem wT69 : evalCode Tryz.cfg (RQ 102) 102 5 (Tryz.cfg.fc 5) b5a { nt := (Go.Proofs.Tryz.f5).ntmps, tmps := number 0 (mapN V.strip []), locs := [], fix := [] } St.empty = some (.normal, w211, wS68) := eas_is (E := wE67) (e := .normal) (A := w211) (bs := []) (m := 0) (d := 0) (tk := []) (by kernel_rfl)

theorem op5 : ∃ o c, takeN 1 (regArr b5b).toList = [o] ∧ o.op = .call c ∧ c.callee = .value (.func 10) ∧ c.args = #[] ∧ o.guard = none ∧ o.dst = some 13 := ⟨_, _, rfl, rfl, rfl, rfl, rfl, rfl⟩

theorem wT70 : evalOps Tryz.cfg (RQ 102) (Tryz.cfg.fc 5) (fun _ => .any) (regArr b5b).toList (takeN 1 (regArr b5b).toList) 0 w211 wS68 = some (w212, wS63) := by
  obtain ⟨o, c, h0, h1, h2, h3, h4, h5⟩ := op5
  rw [h0]
  exact ops_call h4 rfl (exec_call h1 h2 (args := []) (by rw [h3]; rfl) rfl rfl sample_is) (by rw [h5]; rfl) rfl

theorem wT73 : evalOps Tryz.cfg (RQ 102) (Tryz.cfg.fc 5) (fun _ => .any) (regArr b5b).toList (dropN 1 (regArr b5b).toList) 1 w212 wS63 = some (w213, wS72) := as_is (E := wE71) (A := w213) (bs := [w206, .cells 82 [.map 0, .list 1 (.own 0) 0 w207]]) (m := 2) (d := 80) (tk := [20, 2, 2]) (by kernel_rfl)

theorem wT74 : evalOps Tryz.cfg (RQ 102) (Tryz.cfg.fc 5) (fun _ => .any) (regArr b5b).toList (regArr b5b).toList 0 w211 wS68 = some (w213, wS72) := ops_cut 1 (by kernel_rfl) wT70 wT73

theorem wT75 : evalCode Tryz.cfg (RQ 102) 102 5 (Tryz.cfg.fc 5) b5b w211 wS68 = some (.normal, w214, wS72) := (ev_region (id := 1) (by kernel_rfl) wT74).trans (by kernel_rfl)

theorem wT78 : evalCode Tryz.cfg (RQ 102) 102 5 (Tryz.cfg.fc 5) b5c w214 wS72 = some (.normal, w215, wS77) := eas_is (E := wE76) (e := .normal) (A := w215) (bs := [w206, .cells 82 [.map 0, .list 1 (.own 0) 0 w207]]) (m := 2) (d := 80) (tk := [20, 2, 2]) (by kernel_rfl)

theorem wT81 : evalCode Tryz.cfg (RQ 102) 102 5 (Tryz.cfg.fc 5) b5d w215 wS77 = some (.normal, w217, wS80) := eas_is (E := wE79) (e := .normal) (A := w217) (bs := [w206, .cells 82 [.map 0, .list 1 (.own 0) 0 w207]]) (m := 2) (d := 80) (tk := [20, 2, 2]) (by kernel_rfl)

theorem wT84 : evalCode Tryz.cfg (RQ 102) 102 5 (Tryz.cfg.fc 5) b5e w217 wS80 = some (.normal, w224, wS83) := eas_is (E := wE82) (e := .normal) (A := w224) (bs := [w206, .cells 82 [.map 0, .list 1 (.own 0) 0 w207]]) (m := 2) (d := 84) (tk := [20, 2, 2, 20, 2, 4]) (by kernel_rfl)

theorem wT87 : evalCode Tryz.cfg (RQ 102) 102 5 (Tryz.cfg.fc 5) b5f w224 wS83 = some (.normal, w225, wS86) := eas_is (E := wE85) (e := .normal) (A := w225) (bs := [w206, .cells 82 [.map 0, .list 1 (.own 0) 0 w207]]) (m := 2) (d := 88) (tk := [20, 2, 2, 20, 2, 4, 20, 2]) (by kernel_rfl)

theorem wT90 : evalCode Tryz.cfg (RQ 102) 102 5 (Tryz.cfg.fc 5) b5g w225 wS86 = some (.normal, w226, wS89) := eas_is (E := wE88) (e := .normal) (A := w226) (bs := [w206, .cells 82 [.map 0, .list 1 (.own 0) 0 w207]]) (m := 2) (d := 88) (tk := [20, 2, 2, 20, 2, 4, 20, 2, 20, 2]) (by kernel_rfl)

theorem wT93 : evalCode Tryz.cfg (RQ 102) 102 5 (Tryz.cfg.fc 5) b5h w226 wS89 = some (.normal, w228, wS92) := eas_is (E := wE91) (e := .normal) (A := w228) (bs := [w206, .cells 82 [.map 0, .list 1 (.own 0) 0 w207]]) (m := 2) (d := 88) (tk := [20, 2, 2, 20, 2, 4, 20, 2, 20, 2, 4]) (by kernel_rfl)

theorem wT96 : evalCode Tryz.cfg (RQ 102) 102 5 (Tryz.cfg.fc 5) b5i w228 wS92 = some (.ret, w229, wS95) := eas_is (E := wE94) (e := .ret) (A := w229) (bs := [w206, .cells 82 [.map 0, .list 1 (.own 0) 0 w207]]) (m := 2) (d := 88) (tk := [20, 2, 2, 20, 2, 4, 20, 2, 20, 2, 4]) (by kernel_rfl)

theorem wT97 : evalCode Tryz.cfg (RQ 102) 102 5 (Tryz.cfg.fc 5) b5 { nt := (Go.Proofs.Tryz.f5).ntmps, tmps := number 0 (mapN V.strip []), locs := [], fix := [] } St.empty = some (.ret, w229, wS95) := (show evalCode Tryz.cfg (RQ 102) 102 5 (Tryz.cfg.fc 5) (.seq b5a (.seq b5b (.seq b5c (.seq b5d (.seq b5e (.seq b5f (.seq b5g (.seq b5h b5i)))))))) { nt := (Go.Proofs.Tryz.f5).ntmps, tmps := number 0 (mapN V.strip []), locs := [], fix := [] } St.empty = _ from ev_seq wT69 (ev_seq wT75 (ev_seq wT78 (ev_seq wT81 (ev_seq wT84 (ev_seq wT87 (ev_seq wT90 (ev_seq wT93 (wT96)))))))))

theorem works_is : ∀ S : St, RQ 103 (.f 5) [] S = some (.bool true, S) := fun S => (rq_step (n := 102) (id := 5) (by kernel_rfl)).trans (step_val (v := .bool true) (v' := .bool true) (frame_is (fn := Go.Proofs.Tryz.f5) (c := b5) (vs := [.bool true]) (A1 := w229) (S1 := wS95) (e := .ret) (by kernel_rfl) (by kernel_rfl) wT97 (fun i h => by cases h) (by kernel_rfl) (by kernel_rfl)) (by kernel_rfl) (by kernel_rfl) (by kernel_rfl) (by kernel_rfl) (by kernel_rfl))

end Go.Ev
