/- The compact code of some functions of the program, each held against the loaded program by the kernel. No statement of the seat is proved in this text. -/
import Derived.Test.YtofoamkiidkbkaaVal
import Derived.Test.YtofoamkiidkbkaaProg
set_option linter.unusedSimpArgs false
set_option linter.unusedVariables false
set_option linter.unusedSectionVars false
set_option linter.unnecessarySimpa false
namespace Go.Lk
/-- `locket/suite.put` -/
def x56 : XFn := ⟨23, .seq (.ops [.i (.mv 4 (.const (.slice .none 0 0)))]) (.seq (.seq (.ops [.i (.mv 5 (.const (vi 1)))]) (.block 0 (.loop (.seq (.seq (.ops [.i (.mv 6 (.tmp 5)), .i (.bin .leq 7 (.tmp 6) (.const (vi 8)))]) (.cond (.tmp 7) .skip (.exit 0)))
  (.seq (.block 1 (.ops [.i (.mv 10 (.tmp 0)), .i (.mv 11 (.tmp 0)), .i (.len 12 (.tmp 11)), .i (.mv 13 (.tmp 5)), .i (.bin .sub 14 (.tmp 12) (.tmp 13)), .i (.mv 15 (.tmp 1)), .i (.mv 16 (.tmp 5)), .i (.bin .sub 17 (.tmp 16) (.const (vi
  1))), .i (.bin .mul 18 (.const (vi 8)) (.tmp 17)), .i (.bin .shr 19 (.tmp 15) (.tmp 18)), .i (.cvi .u8 20 (.tmp 19)), .i (.ix 21 (.tmp 10) (.tmp 14) 1), .i (.st (.tmp 21) (.tmp 20))])) (.ops [.i (.mv 8 (.tmp 5)), .i (.bin .add 9 (.tmp 8)
  (.const (vi 1))), .i (.mv 5 (.tmp 9))])))))) (.seq (.ops [.i (.mv 22 (.tmp 0)), .i (.mv 4 (.tmp 22))]) .ret)), [.t 4]⟩
theorem c56 : cfn Go.Proofs.Try.prog Go.Proofs.Try.f56 = some x56 := by kernel_rfl
/-- `locket/suite.signed` -/
def x57 : XFn := ⟨15, .seq (.ops [.i (.mv 4 (.const (.slice .none 0 0)))]) (.seq (.ops [.i (.raw (.some 6) (.makeSlice 22 (.const (vi 32)) (.const (vi 32))) 22), .i (.mv 5 (.tmp 6))]) (.seq (.ops [.i (.mv 7 (.tmp 5)), .i (.mv 8 (.tmp 5)), .i (.mv 9 (.tmp
  0)), .i (.ix 10 (.tmp 7) (.const (vi 0)) 1), .i (.st (.tmp 10) (.const (w8 83))), .i (.ix 11 (.tmp 8) (.const (vi 1)) 1), .i (.st (.tmp 11) (.tmp 9))]) (.seq (.ops [.i (.mv 12 (.tmp 5)), .i (.mv 13 (.tmp 1)), .i (.call (.some 14)
  56 [.tmp 12, .tmp 13]), .i (.mv 4 (.tmp 14))]) .ret))), [.t 4]⟩
theorem c57 : cfn Go.Proofs.Try.prog Go.Proofs.Try.f57 = some x57 := by kernel_rfl
/-- `locket/suite.box` -/
def x54 : XFn := ⟨14, .seq (.ops [.i (.mv 4 (.const (.slice .none 0 0)))]) (.seq (.ops [.i (.mv 6 (.tmp 1)), .i (.bin .add 7 (.tmp 6) (.const (vi 16))), .i (.raw (.some 8) (.makeSlice 22 (.tmp 7) (.tmp 7)) 22), .i (.mv 5 (.tmp 8))]) (.seq (.ops [.i (.mv 9
  (.tmp 5)), .i (.ix 10 (.tmp 9) (.const (vi 0)) 1), .i (.st (.tmp 10) (.const (w8 66)))]) (.seq (.ops [.i (.mv 11 (.tmp 5)), .i (.mv 12 (.tmp 0)), .i (.call (.some 13) 56 [.tmp 11, .tmp 12]), .i (.mv 4 (.tmp 13))])
  .ret))), [.t 4]⟩
theorem c54 : cfn Go.Proofs.Try.prog Go.Proofs.Try.f54 = some x54 := by kernel_rfl
/-- `(*locket/suite.Suite).add` -/
def x53 : XFn := ⟨20, .seq (.ops [.i (.box 3 81 (.tmp 1)), .i (.mv 4 (.const (vi 0)))]) (.seq (.par (.take (.i (.mv 5 (.tmp 0))) (.take (.i (.mv 6 (.tmp 0))) (.take (.i (.nc 7 (.tmp 6))) (.take (.i (.fa 8 (.tmp 7) 3)) (.take (.i (.ld 9 (.tmp 8))) (.take (.i
  (.lda 10 (.tmp 3) 5)) (.step true (.i (.raw (.some 11) (.buildSlice 74 1 #[Prod.mk 0 (.tmp 10)]) 74)) (.step false (.i (.raw (.some 12) (.call (.mk (.builtin .append) #[.tmp 9, .tmp 11] #[74, 74])) 74)) (.take (.i (.nc 13 (.tmp 5)))
  (.take (.i (.fa 14 (.tmp 13) 3)) (.step false (.i (.st (.tmp 14) (.tmp 12))) .done .stop))) .stop) .stop)))))))) (.seq (.ops [.i (.mv 15 (.tmp 0)), .i (.nc 16 (.tmp 15)), .i (.fa 17 (.tmp 16) 3), .i (.ld 18 (.tmp 17)), .i (.len 19 (.tmp
  18)), .i (.mv 4 (.tmp 19))]) .ret)), [.t 4]⟩
theorem c53 : cfn Go.Proofs.Try.prog Go.Proofs.Try.f53 = some x53 := by kernel_rfl
/-- `(*locket/suite.Suite).once` -/
def x59 : XFn := ⟨28, .seq (.ops [.i (.box 3 81 (.tmp 1)), .i (.mv 4 (.const (vi 0)))]) (.seq (.par (.take (.i (.mv 8 (.tmp 0))) (.take (.i (.nc 9 (.tmp 8))) (.take (.i (.fa 10 (.tmp 9) 4)) (.take (.i (.ld 11 (.tmp 10))) (.take (.i (.lda 12 (.tmp 3) 5))
  (.step false (.i (.raw (.some 13) (.lookup 75 (.tmp 11) (.tmp 12) true) 125)) (.take (.i (.mv 7 (.tmp 13))) (.take (.i (.ext 14 (.tmp 7) 0)) (.take (.i (.ext 15 (.tmp 7) 1)) (.take (.i (.mv 5 (.tmp 14))) (.take (.i (.mv 6 (.tmp 15)))
  .done))))) .stop))))))) (.seq (.seq (.ops [.i (.mv 16 (.tmp 6)), .i (.un .not 17 (.tmp 16))]) (.cond (.tmp 17) (.seq (.ops [.i (.mv 18 (.tmp 0)), .i (.lda 19 (.tmp 3) 5), .i (.call (.some 20) 53 [.tmp 18, .tmp
  19]), .i (.mv 5 (.tmp 20))]) (.par (.take (.i (.mv 21 (.tmp 0))) (.take (.i (.nc 22 (.tmp 21))) (.take (.i (.fa 23 (.tmp 22) 4)) (.take (.i (.ld 24 (.tmp 23))) (.take (.i (.lda 25 (.tmp 3) 5)) (.take (.i (.mv 26 (.tmp 5))) (.step false
  (.i (.raw .none (.mapUpdate 75 (.tmp 24) (.tmp 25) (.tmp 26)) 0)) .done .stop))))))))) .skip)) (.seq (.ops [.i (.mv 27 (.tmp 5)), .i (.mv 4 (.tmp 27))]) .ret))), [.t 4]⟩
theorem c59 : cfn Go.Proofs.Try.prog Go.Proofs.Try.f59 = some x59 := by kernel_rfl
/-- `locket/suite.joined` -/
def x60 : XFn := ⟨18, .seq (.ops [.i (.mv 2 (.const (ws [])))]) (.seq (.ops [.i (.mv 3 (.const (.slice .none 0 0)))]) (.seq (.seq (.ops [.i (.mv 6 (.tmp 0)), .i (.len 7 (.tmp 6)), .i (.mv 8 (.const (vi 0)))]) (.block 0 (.loop (.seq (.ops [.i (.bin .lss 9
  (.tmp 8) (.tmp 7))]) (.seq (.cond (.tmp 9) .skip (.exit 0)) (.seq (.block 1 (.seq (.ops [.i (.ix 10 (.tmp 6) (.tmp 8) 1), .i (.ld 11 (.tmp 10)), .i (.mv 5 (.tmp 11))]) (.ops [.i (.mv 12 (.tmp 3)), .i (.mv 13 (.tmp 5)), .i (.raw (.some 14)
  (.call (.mk (.builtin .append) #[.tmp 12, .tmp 13] #[22, 22])) 22), .i (.mv 3 (.tmp 14))]))) (.ops [.i (.bin .add 15 (.tmp 8) (.const (vi 1))), .i (.mv 8 (.tmp 15))]))))))) (.seq (.ops [.i (.mv 16 (.tmp 3)), .i (.b2s 17 (.tmp 16)), .i
  (.mv 2 (.tmp 17))]) .ret))), [.t 2]⟩
theorem c60 : cfn Go.Proofs.Try.prog Go.Proofs.Try.f60 = some x60 := by kernel_rfl
/-- `locket/suite.sizes` -/
def x52 : XFn := ⟨13, .seq (.ops [.i (.mv 4 (.const (.bool false)))]) (.seq (.ops [.i (.mv 5 (.tmp 0)), .i (.len 6 (.tmp 5)), .i (.bin .eql 7 (.tmp 6) (.const (vi 32))), .i (.mv 8 (.tmp 7)), .g 8 true (.some 9) (.mv 9 (.tmp 1)), .g 8 true (.some 10) (.len
  10 (.tmp 9)), .g 8 true (.some 11) (.bin .eql 11 (.tmp 10) (.const (vi 12))), .i (.pick 12 (.tmp 8) (.tmp 11) (.const (.bool false))), .i (.mv 4 (.tmp 12))]) .ret), [.t 4]⟩
theorem c52 : cfn Go.Proofs.Try.prog Go.Proofs.Try.f52 = some x52 := by kernel_rfl
/-- `locket/suite.Signs` -/
def x17 : XFn := ⟨4, .seq (.ops [.i (.mv 0 (.const (.pointer .none)))]) (.seq (.ops [.i (.raw (.some 1) (.makeMap 75 .none) 75), .i (.bld 2 [.const (.bool false), .const (.slice .none 0 0), .const (vi 0), .const (.slice .none 0 0), .tmp 1]), .i (.box 3 77
  (.tmp 2)), .i (.mv 0 (.tmp 3))]) .ret), [.t 0]⟩
theorem c17 : cfn Go.Proofs.Try.prog Go.Proofs.Try.f17 = some x17 := by kernel_rfl
/-- `locket/suite.Real` -/
def x13 : XFn := ⟨7, .seq (.ops [.i (.mv 2 (.const (.pointer .none)))]) (.seq (.ops [.i (.mv 3 (.tmp 0)), .i (.raw (.some 4) (.call (.mk (.builtin .append) #[.const (.slice .none 0 0), .tmp 3] #[22, 22])) 22), .i (.bld 5 [.const (.bool true), .tmp 4, .const
  (vi 0), .const (.slice .none 0 0), .const (.map .none)]), .i (.box 6 77 (.tmp 5)), .i (.mv 2 (.tmp 6))]) .ret), [.t 2]⟩
theorem c13 : cfn Go.Proofs.Try.prog Go.Proofs.Try.f13 = some x13 := by kernel_rfl
/-- `(*locket/suite.Suite).Count` -/
def x20 : XFn := ⟨13, .seq (.ops [.i (.mv 2 (.const (vi 0)))]) (.seq (.par (.take (.i (.mv 3 (.tmp 0))) (.take (.i (.nc 4 (.tmp 3))) (.take (.i (.fa 5 (.tmp 4) 2)) (.take (.i (.ld 6 (.tmp 5))) (.take (.i (.mv 7 (.tmp 0))) (.take (.i (.nc 8 (.tmp 7))) (.take
  (.i (.fa 9 (.tmp 8) 3)) (.take (.i (.ld 10 (.tmp 9))) (.take (.i (.len 11 (.tmp 10))) (.take (.i (.bin .add 12 (.tmp 6) (.tmp 11))) (.take (.i (.mv 2 (.tmp 12))) .done)))))))))))) .ret), [.t 2]⟩
theorem c20 : cfn Go.Proofs.Try.prog Go.Proofs.Try.f20 = some x20 := by kernel_rfl
/-- `(*locket/suite.Suite).Key` -/
def x15 : XFn := ⟨30, .seq (.ops [.i (.mv 2 (.const (.slice .none 0 0)))]) (.seq (.seq (.ops [.i (.mv 3 (.tmp 0)), .i (.nc 4 (.tmp 3)), .i (.fa 5 (.tmp 4) 0), .i (.ld 6 (.tmp 5))]) (.cond (.tmp 6) (.seq (.ops [.i (.mv 7 (.tmp 0)), .i (.nc 8 (.tmp 7)), .i
  (.fa 9 (.tmp 8) 2), .i (.ld 10 (.tmp 9)), .i (.bin .add 11 (.tmp 10) (.const (vi 1))), .i (.nc 12 (.tmp 7)), .i (.fa 13 (.tmp 12) 2), .i (.st (.tmp 13) (.tmp 11))]) (.seq (.par (.take (.i (.mv 14 (.tmp 0))) (.take (.i (.nc 15 (.tmp 14)))
  (.take (.i (.fa 16 (.tmp 15) 1)) (.take (.i (.ld 17 (.tmp 16))) (.take (.i (.mv 19 (.tmp 0))) (.take (.i (.nc 20 (.tmp 19))) (.take (.i (.fa 21 (.tmp 20) 2)) (.take (.i (.ld 22 (.tmp 21))) (.step true (.i (.raw (.some 18) (.makeSlice 22
  (.const (vi 8)) (.const (vi 8))) 22)) (.step true (.i (.call (.some 23) 56 [.tmp 18, .tmp 22])) (.step true (.i (.raw (.some 24) (.buildSlice 84 1 #[Prod.mk 0 (.tmp 23)]) 84)) (.step false (.i (.call (.some 25)
  55 [.tmp 17, .tmp 24])) (.take (.i (.mv 2 (.tmp 25))) .done) .stop) .stop) .stop) .stop)))))))))) .ret)) .skip)) (.seq (.ops [.i (.mv 26 (.tmp 0)), .i (.bld 27 [.const (w8 75), .const (ws []), .const (ws []), .const (ws
  []), .const (ws [])]), .i (.call (.some 28) 53 [.tmp 26, .tmp 27]), .i (.call (.some 29) 57 [.const (w8 75), .tmp 28]), .i (.mv 2 (.tmp 29))]) .ret)), [.t 2]⟩
theorem c15 : cfn Go.Proofs.Try.prog Go.Proofs.Try.f15 = some x15 := by kernel_rfl
/-- `(*locket/suite.Suite).Sum` -/
def x16 : XFn := ⟨17, .seq (.ops [.i (.mv 4 (.const (.slice .none 0 0)))]) (.seq (.seq (.ops [.i (.mv 5 (.tmp 0)), .i (.nc 6 (.tmp 5)), .i (.fa 7 (.tmp 6) 0), .i (.ld 8 (.tmp 7))]) (.cond (.tmp 8) (.seq (.ops [.i (.mv 9 (.tmp 1)), .i (.call (.some 10)
  58 [.tmp 9]), .i (.mv 4 (.tmp 10))]) .ret) .skip)) (.seq (.ops [.i (.mv 11 (.tmp 0)), .i (.mv 12 (.tmp 1)), .i (.call (.some 13) 60 [.tmp 12]), .i (.bld 14 [.const (w8 72), .const (ws []), .const (ws
  []), .tmp 13, .const (ws [])]), .i (.call (.some 15) 59 [.tmp 11, .tmp 14]), .i (.call (.some 16) 57 [.const (w8 72), .tmp 15]), .i (.mv 4 (.tmp 16))]) .ret)), [.t 4]⟩
theorem c16 : cfn Go.Proofs.Try.prog Go.Proofs.Try.f16 = some x16 := by kernel_rfl
/-- `(*locket/suite.Suite).Seal` -/
def x14 : XFn := ⟨45, .seq (.ops [.i (.mv 10 (.const (.slice .none 0 0))), .i (.mv 11 (.const (vi 0)))]) (.seq (.block 0 (.seq (.ops [.i (.mv 14 (.tmp 0)), .i (.nc 15 (.tmp 14)), .i (.fa 16 (.tmp 15) 0), .i (.ld 17 (.tmp 16)), .i (.mv 13 (.tmp 17))]) (.cond
  (.tmp 13) (.seq (.ops [.i (.mv 18 (.tmp 1)), .i (.mv 19 (.tmp 2)), .i (.mv 20 (.tmp 3)), .i (.mv 21 (.tmp 4)), .i (.call (.some 22) 51 [.tmp 18, .tmp 19, .tmp 20, .tmp 21]), .i (.ext 23 (.tmp 22) 0), .i (.ext 24 (.tmp
  22) 1), .i (.mv 10 (.tmp 23)), .i (.mv 11 (.tmp 24))]) .ret) (.seq (.ops [.i (.mv 26 (.tmp 1)), .i (.mv 27 (.tmp 2)), .i (.call (.some 28) 52 [.tmp 26, .tmp 27]), .i (.un .not 29 (.tmp 28)), .i (.mv 25 (.tmp 29))])
  (.cond (.tmp 25) (.seq (.ops [.i (.mv 10 (.const (.slice .none 0 0))), .i (.mv 11 (.const (vi 11)))]) .ret) .skip))))) (.seq (.ops [.i (.mv 30 (.tmp 0)), .i (.mv 31 (.tmp 1)), .i (.b2s 32 (.tmp 31)), .i (.mv 33 (.tmp 2)), .i (.b2s 34
  (.tmp 33)), .i (.mv 35 (.tmp 4)), .i (.b2s 36 (.tmp 35)), .i (.mv 37 (.tmp 3)), .i (.b2s 38 (.tmp 37)), .i (.bld 39 [.const (w8 66), .tmp 32, .tmp 34, .tmp 36, .tmp 38]), .i (.call (.some 40) 53 [.tmp 30, .tmp
  39]), .i (.mv 12 (.tmp 40))]) (.seq (.ops [.i (.mv 41 (.tmp 12)), .i (.mv 42 (.tmp 4)), .i (.len 43 (.tmp 42)), .i (.call (.some 44) 54 [.tmp 41, .tmp 43]), .i (.mv 10 (.tmp 44)), .i (.mv 11 (.const (vi 0)))]) .ret))),
  [.t 10, .t 11]⟩
theorem c14 : cfn Go.Proofs.Try.prog Go.Proofs.Try.f14 = some x14 := by kernel_rfl
/-- `(*locket/suite.Suite).Open` -/
def x19 : XFn := ⟨97, .seq (.ops [.i (.mv 10 (.const (.slice .none 0 0))), .i (.mv 11 (.const (vi 0)))]) (.seq (.block 0 (.seq (.ops [.i (.mv 17 (.tmp 0)), .i (.nc 18 (.tmp 17)), .i (.fa 19 (.tmp 18) 0), .i (.ld 20 (.tmp 19)), .i (.mv 16 (.tmp 20))]) (.cond
  (.tmp 16) (.seq (.ops [.i (.mv 21 (.tmp 1)), .i (.mv 22 (.tmp 2)), .i (.mv 23 (.tmp 3)), .i (.mv 24 (.tmp 4)), .i (.call (.some 25) 62 [.tmp 21, .tmp 22, .tmp 23, .tmp 24]), .i (.ext 26 (.tmp 25) 0), .i (.ext 27 (.tmp
  25) 1), .i (.mv 10 (.tmp 26)), .i (.mv 11 (.tmp 27))]) .ret) (.seq (.ops [.i (.mv 29 (.tmp 1)), .i (.mv 30 (.tmp 2)), .i (.call (.some 31) 52 [.tmp 29, .tmp 30]), .i (.un .not 32 (.tmp 31)), .i (.mv 28 (.tmp 32))])
  (.cond (.tmp 28) (.seq (.ops [.i (.mv 10 (.const (.slice .none 0 0))), .i (.mv 11 (.const (vi 11)))]) .ret) (.seq (.ops [.i (.mv 34 (.tmp 4)), .i (.len 35 (.tmp 34)), .i (.bin .lss 36 (.tmp 35) (.const (vi 16))), .i (.mv 33 (.tmp 36))])
  (.cond (.tmp 33) (.seq (.ops [.i (.mv 10 (.const (.slice .none 0 0))), .i (.mv 11 (.const (vi 20)))]) .ret) .skip))))))) (.seq (.ops [.i (.mv 12 (.const (vi 0)))]) (.seq (.seq (.ops [.i (.mv 37 (.tmp 4)), .i (.mv 38 (.tmp 4)), .i (.len 39
  (.tmp 38)), .i (.bin .sub 40 (.tmp 39) (.const (vi 8))), .i (.sl 41 (.tmp 37) (.some (.tmp 40)) .none .none 1), .i (.len 42 (.tmp 41)), .i (.mv 43 (.const (vi 0)))]) (.block 1 (.loop (.seq (.ops [.i (.bin .lss 44 (.tmp 43) (.tmp 42))])
  (.seq (.cond (.tmp 44) .skip (.exit 1)) (.seq (.block 2 (.seq (.ops [.i (.ix 45 (.tmp 41) (.tmp 43) 1), .i (.ld 46 (.tmp 45)), .i (.mv 14 (.tmp 46))]) (.ops [.i (.mv 47 (.tmp 12)), .i (.bin .shl 48 (.tmp 47) (.const (w64 8#64))), .i (.mv
  49 (.tmp 14)), .i (.cvi .i64 50 (.tmp 49)), .i (.bin .or 51 (.tmp 48) (.tmp 50)), .i (.mv 12 (.tmp 51))]))) (.ops [.i (.bin .add 52 (.tmp 43) (.const (vi 1))), .i (.mv 43 (.tmp 52))]))))))) (.seq (.seq (.ops [.i (.mv 53 (.tmp 12)), .i
  (.bin .lss 54 (.tmp 53) (.const (vi 1))), .i (.mv 55 (.tmp 54)), .g 55 false (.some 56) (.mv 56 (.tmp 12)), .g 55 false (.some 57) (.mv 57 (.tmp 0)), .g 55 false (.some 58) (.nc 58 (.tmp 57)), .g 55 false (.some 59) (.fa 59 (.tmp 58) 3),
  .g 55 false (.some 60) (.ld 60 (.tmp 59)), .g 55 false (.some 61) (.len 61 (.tmp 60)), .g 55 false (.some 62) (.bin .gtr 62 (.tmp 56) (.tmp 61)), .i (.pick 63 (.tmp 55) (.const (.bool true)) (.tmp 62))]) (.cond (.tmp 63) (.seq (.ops [.i
  (.mv 10 (.const (.slice .none 0 0))), .i (.mv 11 (.const (vi 20)))]) .ret) .skip)) (.seq (.ops [.i (.mv 64 (.tmp 0)), .i (.nc 65 (.tmp 64)), .i (.fa 66 (.tmp 65) 3), .i (.ld 67 (.tmp 66)), .i (.mv 68 (.tmp 12)), .i (.bin .sub 69 (.tmp 68)
  (.const (vi 1))), .i (.ix 70 (.tmp 67) (.tmp 69) 5), .i (.lda 71 (.tmp 70) 5), .i (.raw (.some 15) (.alloc 81) 0), .i (.sta (.tmp 15) (.tmp 71) 5)]) (.seq (.seq (.par (.take (.i (.lda 72 (.tmp 15) 5)) (.take (.i (.mv 73 (.tmp 1))) (.take
  (.i (.b2s 74 (.tmp 73))) (.take (.i (.mv 75 (.tmp 2))) (.take (.i (.b2s 76 (.tmp 75))) (.take (.i (.fa 77 (.tmp 15) 3)) (.take (.i (.ld 78 (.tmp 77))) (.take (.i (.mv 79 (.tmp 3))) (.take (.i (.b2s 80 (.tmp 79))) (.take (.i (.bld 81
  [.const (w8 66), .tmp 74, .tmp 76, .tmp 78, .tmp 80])) (.step false (.i (.raw (.some 82) (.binOp .neq 81 (.tmp 72) (.tmp 81) 81) 4)) (.take (.i (.mv 83 (.tmp 82))) (.take (.g 83 false (.some 84) (.mv 84 (.tmp 12))) (.take (.g 83 false
  (.some 85) (.fa 85 (.tmp 15) 3)) (.take (.g 83 false (.some 86) (.ld 86 (.tmp 85))) (.take (.g 83 false (.some 87) (.lens 87 (.tmp 86))) (.take (.g 83 false (.some 90) (.mv 90 (.tmp 4))) (.take (.g 83 false (.some 91) (.b2s 91 (.tmp 90)))
  (.step true (.g 83 false (.some 88) (.call (.some 88) 54 [.tmp 84, .tmp 87])) (.take (.g 83 false (.some 89) (.b2s 89 (.tmp 88))) (.take (.g 83 false (.some 92) (.bin .neq 92 (.tmp 89) (.tmp 91))) (.take (.i (.pick 93
  (.tmp 83) (.const (.bool true)) (.tmp 92))) .done))) .stop)))))))) .stop)))))))))))) (.cond (.tmp 93) (.seq (.ops [.i (.mv 10 (.const (.slice .none 0 0))), .i (.mv 11 (.const (vi 20)))]) .ret) .skip)) (.seq (.ops [.i (.fa 94 (.tmp 15) 3),
  .i (.ld 95 (.tmp 94)), .i (.raw (.some 96) (.convert 9 22 (.tmp 95)) 22), .i (.mv 10 (.tmp 96)), .i (.mv 11 (.const (vi 0)))]) .ret))))))), [.t 10, .t 11]⟩
theorem c19 : cfn Go.Proofs.Try.prog Go.Proofs.Try.f19 = some x19 := by kernel_rfl
/-- `(*locket/suite.Suite).Code` -/
def x22 : XFn := ⟨22, .seq (.ops [.i (.mv 6 (.const (.slice .none 0 0)))]) (.seq (.seq (.ops [.i (.mv 7 (.tmp 0)), .i (.nc 8 (.tmp 7)), .i (.fa 9 (.tmp 8) 0), .i (.ld 10 (.tmp 9))]) (.cond (.tmp 10) (.seq (.ops [.i (.mv 11 (.tmp 1)), .i (.mv 12 (.tmp 2)),
  .i (.call (.some 13) 55 [.tmp 11, .tmp 12]), .i (.mv 6 (.tmp 13))]) .ret) .skip)) (.seq (.par (.take (.i (.mv 14 (.tmp 0))) (.take (.i (.mv 15 (.tmp 1))) (.take (.i (.b2s 16 (.tmp 15))) (.take (.i (.mv 17 (.tmp 2)))
  (.step true (.i (.call (.some 18) 60 [.tmp 17])) (.take (.i (.bld 19 [.const (w8 77), .tmp 16, .const (ws []), .tmp 18, .const (ws [])])) (.step false (.i (.call (.some 20) 59 [.tmp 14,
  .tmp 19])) (.step false (.i (.call (.some 21) 57 [.const (w8 77), .tmp 20])) (.take (.i (.mv 6 (.tmp 21))) .done) .stop) .stop)) .stop)))))) .ret)), [.t 6]⟩
theorem c22 : cfn Go.Proofs.Try.prog Go.Proofs.Try.f22 = some x22 := by kernel_rfl
end Go.Lk
