/- The compact code of some functions of the program, each held against the loaded program by the kernel. No statement of the seat is proved in this text. -/
import Derived.Test.YtofoamkiidkbkaaVal
import Derived.Test.YtofoamkiidkbkaaProg
set_option linter.unusedSimpArgs false
set_option linter.unusedVariables false
set_option linter.unusedSectionVars false
set_option linter.unnecessarySimpa false
namespace Go.Lk
/-- `locket/chacha.get` -/
def x138 : XFn := ⟨25, .seq (.ops [.i (.mv 2 (.const (w32 0#32)))]) (.seq (.par (.take (.i (.mv 3 (.tmp 0))) (.take (.i (.ix 4 (.tmp 3) (.const (vi 0)) 1)) (.take (.i (.ld 5 (.tmp 4))) (.take (.i (.cvi .u32 6 (.tmp 5))) (.take (.i (.mv 7 (.tmp 0))) (.take
  (.i (.ix 8 (.tmp 7) (.const (vi 1)) 1)) (.take (.i (.ld 9 (.tmp 8))) (.take (.i (.cvi .u32 10 (.tmp 9))) (.take (.i (.bin .shl 11 (.tmp 10) (.const (w64 8#64)))) (.take (.i (.bin .or 12 (.tmp 6) (.tmp 11))) (.take (.i (.mv 13 (.tmp 0)))
  (.take (.i (.ix 14 (.tmp 13) (.const (vi 2)) 1)) (.take (.i (.ld 15 (.tmp 14))) (.take (.i (.cvi .u32 16 (.tmp 15))) (.take (.i (.bin .shl 17 (.tmp 16) (.const (w64 16#64)))) (.take (.i (.bin .or 18 (.tmp 12) (.tmp 17))) (.take (.i (.mv
  19 (.tmp 0))) (.take (.i (.ix 20 (.tmp 19) (.const (vi 3)) 1)) (.take (.i (.ld 21 (.tmp 20))) (.take (.i (.cvi .u32 22 (.tmp 21))) (.take (.i (.bin .shl 23 (.tmp 22) (.const (w64 24#64)))) (.take (.i (.bin .or 24 (.tmp 18) (.tmp 23)))
  (.take (.i (.mv 2 (.tmp 24))) .done)))))))))))))))))))))))) .ret), [.t 2]⟩
theorem c138 : cfn Go.Proofs.Try.prog Go.Proofs.Try.f138 = some x138 := by kernel_rfl
/-- `(*locket/chacha.state).quarter` -/
def x139 : XFn := ⟨126, .seq (.par (.take (.i (.mv 10 (.tmp 0))) (.take (.i (.mv 11 (.tmp 1))) (.take (.i (.nc 12 (.tmp 10))) (.take (.i (.ixa 13 (.tmp 12) (.tmp 11) 16 1)) (.take (.i (.ld 14 (.tmp 13))) (.take (.i (.mv 15 (.tmp 0))) (.take (.i (.mv 16 (.tmp
  2))) (.take (.i (.nc 17 (.tmp 15))) (.take (.i (.ixa 18 (.tmp 17) (.tmp 16) 16 1)) (.take (.i (.ld 19 (.tmp 18))) (.take (.i (.bin .add 20 (.tmp 14) (.tmp 19))) (.take (.i (.nc 21 (.tmp 10))) (.take (.i (.ixa 22 (.tmp 21) (.tmp 11) 16 1))
  (.step false (.i (.st (.tmp 22) (.tmp 20))) .done .stop))))))))))))))) (.seq (.par (.take (.i (.mv 23 (.tmp 0))) (.take (.i (.mv 24 (.tmp 4))) (.take (.i (.mv 25 (.tmp 0))) (.take (.i (.mv 26 (.tmp 4))) (.take (.i (.nc 27 (.tmp 25)))
  (.take (.i (.ixa 28 (.tmp 27) (.tmp 26) 16 1)) (.take (.i (.ld 29 (.tmp 28))) (.take (.i (.mv 30 (.tmp 0))) (.take (.i (.mv 31 (.tmp 1))) (.take (.i (.nc 32 (.tmp 30))) (.take (.i (.ixa 33 (.tmp 32) (.tmp 31) 16 1)) (.take (.i (.ld 34
  (.tmp 33))) (.take (.i (.bin .xor 35 (.tmp 29) (.tmp 34))) (.take (.i (.nc 37 (.tmp 23))) (.step false (.i (.call (.some 36) 150 [.tmp 35, .const (vi 16)])) (.take (.i (.ixa 38 (.tmp 37) (.tmp 24) 16 1)) (.step
  false (.i (.st (.tmp 38) (.tmp 36))) .done .stop)) .stop)))))))))))))))) (.seq (.par (.take (.i (.mv 39 (.tmp 0))) (.take (.i (.mv 40 (.tmp 3))) (.take (.i (.nc 41 (.tmp 39))) (.take (.i (.ixa 42 (.tmp 41) (.tmp 40) 16 1)) (.take (.i (.ld
  43 (.tmp 42))) (.take (.i (.mv 44 (.tmp 0))) (.take (.i (.mv 45 (.tmp 4))) (.take (.i (.nc 46 (.tmp 44))) (.take (.i (.ixa 47 (.tmp 46) (.tmp 45) 16 1)) (.take (.i (.ld 48 (.tmp 47))) (.take (.i (.bin .add 49 (.tmp 43) (.tmp 48))) (.take
  (.i (.nc 50 (.tmp 39))) (.take (.i (.ixa 51 (.tmp 50) (.tmp 40) 16 1)) (.step false (.i (.st (.tmp 51) (.tmp 49))) .done .stop))))))))))))))) (.seq (.par (.take (.i (.mv 52 (.tmp 0))) (.take (.i (.mv 53 (.tmp 2))) (.take (.i (.mv 54 (.tmp
  0))) (.take (.i (.mv 55 (.tmp 2))) (.take (.i (.nc 56 (.tmp 54))) (.take (.i (.ixa 57 (.tmp 56) (.tmp 55) 16 1)) (.take (.i (.ld 58 (.tmp 57))) (.take (.i (.mv 59 (.tmp 0))) (.take (.i (.mv 60 (.tmp 3))) (.take (.i (.nc 61 (.tmp 59)))
  (.take (.i (.ixa 62 (.tmp 61) (.tmp 60) 16 1)) (.take (.i (.ld 63 (.tmp 62))) (.take (.i (.bin .xor 64 (.tmp 58) (.tmp 63))) (.take (.i (.nc 66 (.tmp 52))) (.step false (.i (.call (.some 65) 150 [.tmp 64, .const
  (vi 12)])) (.take (.i (.ixa 67 (.tmp 66) (.tmp 53) 16 1)) (.step false (.i (.st (.tmp 67) (.tmp 65))) .done .stop)) .stop)))))))))))))))) (.seq (.par (.take (.i (.mv 68 (.tmp 0))) (.take (.i (.mv 69 (.tmp 1))) (.take (.i (.nc 70 (.tmp
  68))) (.take (.i (.ixa 71 (.tmp 70) (.tmp 69) 16 1)) (.take (.i (.ld 72 (.tmp 71))) (.take (.i (.mv 73 (.tmp 0))) (.take (.i (.mv 74 (.tmp 2))) (.take (.i (.nc 75 (.tmp 73))) (.take (.i (.ixa 76 (.tmp 75) (.tmp 74) 16 1)) (.take (.i (.ld
  77 (.tmp 76))) (.take (.i (.bin .add 78 (.tmp 72) (.tmp 77))) (.take (.i (.nc 79 (.tmp 68))) (.take (.i (.ixa 80 (.tmp 79) (.tmp 69) 16 1)) (.step false (.i (.st (.tmp 80) (.tmp 78))) .done .stop))))))))))))))) (.seq (.par (.take (.i (.mv
  81 (.tmp 0))) (.take (.i (.mv 82 (.tmp 4))) (.take (.i (.mv 83 (.tmp 0))) (.take (.i (.mv 84 (.tmp 4))) (.take (.i (.nc 85 (.tmp 83))) (.take (.i (.ixa 86 (.tmp 85) (.tmp 84) 16 1)) (.take (.i (.ld 87 (.tmp 86))) (.take (.i (.mv 88 (.tmp
  0))) (.take (.i (.mv 89 (.tmp 1))) (.take (.i (.nc 90 (.tmp 88))) (.take (.i (.ixa 91 (.tmp 90) (.tmp 89) 16 1)) (.take (.i (.ld 92 (.tmp 91))) (.take (.i (.bin .xor 93 (.tmp 87) (.tmp 92))) (.take (.i (.nc 95 (.tmp 81))) (.step false (.i
  (.call (.some 94) 150 [.tmp 93, .const (vi 8)])) (.take (.i (.ixa 96 (.tmp 95) (.tmp 82) 16 1)) (.step false (.i (.st (.tmp 96) (.tmp 94))) .done .stop)) .stop)))))))))))))))) (.seq (.par (.take (.i (.mv 97 (.tmp
  0))) (.take (.i (.mv 98 (.tmp 3))) (.take (.i (.nc 99 (.tmp 97))) (.take (.i (.ixa 100 (.tmp 99) (.tmp 98) 16 1)) (.take (.i (.ld 101 (.tmp 100))) (.take (.i (.mv 102 (.tmp 0))) (.take (.i (.mv 103 (.tmp 4))) (.take (.i (.nc 104 (.tmp
  102))) (.take (.i (.ixa 105 (.tmp 104) (.tmp 103) 16 1)) (.take (.i (.ld 106 (.tmp 105))) (.take (.i (.bin .add 107 (.tmp 101) (.tmp 106))) (.take (.i (.nc 108 (.tmp 97))) (.take (.i (.ixa 109 (.tmp 108) (.tmp 98) 16 1)) (.step false (.i
  (.st (.tmp 109) (.tmp 107))) .done .stop))))))))))))))) (.par (.take (.i (.mv 110 (.tmp 0))) (.take (.i (.mv 111 (.tmp 2))) (.take (.i (.mv 112 (.tmp 0))) (.take (.i (.mv 113 (.tmp 2))) (.take (.i (.nc 114 (.tmp 112))) (.take (.i (.ixa
  115 (.tmp 114) (.tmp 113) 16 1)) (.take (.i (.ld 116 (.tmp 115))) (.take (.i (.mv 117 (.tmp 0))) (.take (.i (.mv 118 (.tmp 3))) (.take (.i (.nc 119 (.tmp 117))) (.take (.i (.ixa 120 (.tmp 119) (.tmp 118) 16 1)) (.take (.i (.ld 121 (.tmp
  120))) (.take (.i (.bin .xor 122 (.tmp 116) (.tmp 121))) (.take (.i (.nc 124 (.tmp 110))) (.step false (.i (.call (.some 123) 150 [.tmp 122, .const (vi 7)])) (.take (.i (.ixa 125 (.tmp 124) (.tmp 111) 16 1)) (.step
  false (.i (.st (.tmp 125) (.tmp 123))) .done .stop)) .stop)))))))))))))))))))))), []⟩
theorem c139 : cfn Go.Proofs.Try.prog Go.Proofs.Try.f139 = some x139 := by kernel_rfl
/-- `locket/chacha.check` -/
def x120 : XFn := ⟨23, .seq (.ops [.i (.mv 6 (.const (vi 0)))]) (.seq (.block 0 (.seq (.ops [.i (.mv 8 (.tmp 0)), .i (.len 9 (.tmp 8)), .i (.bin .neq 10 (.tmp 9) (.const (vi 32))), .i (.mv 11 (.tmp 10)), .g 11 false (.some 12) (.mv 12 (.tmp 2)), .g 11 false
  (.some 13) (.len 13 (.tmp 12)), .g 11 false (.some 14) (.bin .neq 14 (.tmp 13) (.const (vi 12))), .i (.pick 15 (.tmp 11) (.const (.bool true)) (.tmp 14)), .i (.mv 7 (.tmp 15))]) (.cond (.tmp 7) (.seq (.ops [.i (.mv 6 (.const (vi 11)))])
  .ret) (.seq (.ops [.i (.mv 17 (.tmp 1)), .i (.bin .lss 18 (.tmp 17) (.const (vi 0))), .i (.mv 19 (.tmp 18)), .g 19 false (.some 20) (.mv 20 (.tmp 1)), .g 19 false (.some 21) (.bin .gtr 21 (.tmp 20) (.const (vi 4294967295))), .i (.pick 22
  (.tmp 19) (.const (.bool true)) (.tmp 21)), .i (.mv 16 (.tmp 22))]) (.cond (.tmp 16) (.seq (.ops [.i (.mv 6 (.const (vi 12)))]) .ret) .skip))))) (.seq (.ops [.i (.mv 6 (.const (vi 0)))]) .ret)), [.t 6]⟩
theorem c120 : cfn Go.Proofs.Try.prog Go.Proofs.Try.f120 = some x120 := by kernel_rfl
/-- `locket/chacha.first` -/
def x121 : XFn := ⟨39, .seq (.ops [.i (.raw (.some 6) (.alloc 139) 0)]) (.seq (.ops [.i (.bld 10 [.const (w32 1634760805#32), .const (w32 857760878#32), .const (w32 2036477234#32), .const (w32 1797285236#32), .const (w32 0#32), .const (w32 0#32), .const (w32
  0#32), .const (w32 0#32), .const (w32 0#32), .const (w32 0#32), .const (w32 0#32), .const (w32 0#32), .const (w32 0#32), .const (w32 0#32), .const (w32 0#32), .const (w32 0#32)]), .i (.raw (.some 7) (.alloc 139) 0), .i (.sta (.tmp 7)
  (.tmp 10) 16)]) (.seq (.seq (.ops [.i (.mv 11 (.const (vi 0)))]) (.block 0 (.loop (.seq (.ops [.i (.bin .lss 12 (.tmp 11) (.const (vi 8)))]) (.seq (.cond (.tmp 12) .skip (.exit 0)) (.seq (.block 1 (.seq (.ops [.i (.mv 13 (.tmp 11)), .i
  (.mv 8 (.tmp 13))]) (.ops [.i (.mv 14 (.tmp 8)), .i (.bin .add 15 (.const (vi 4)) (.tmp 14)), .i (.mv 16 (.tmp 0)), .i (.mv 17 (.tmp 8)), .i (.bin .mul 18 (.const (vi 4)) (.tmp 17)), .i (.sl 19 (.tmp 16) (.some (.tmp 18)) .none .none 1),
  .i (.call (.some 20) 138 [.tmp 19]), .i (.ixa 21 (.tmp 7) (.tmp 15) 16 1), .i (.st (.tmp 21) (.tmp 20))]))) (.ops [.i (.bin .add 22 (.tmp 11) (.const (vi 1))), .i (.mv 11 (.tmp 22))]))))))) (.seq (.ops [.i (.mv 23 (.tmp
  1)), .i (.cvi .u32 24 (.tmp 23)), .i (.ixa 25 (.tmp 7) (.const (vi 12)) 16 1), .i (.st (.tmp 25) (.tmp 24))]) (.seq (.seq (.ops [.i (.mv 26 (.const (vi 0)))]) (.block 2 (.loop (.seq (.ops [.i (.bin .lss 27 (.tmp 26) (.const (vi 3)))])
  (.seq (.cond (.tmp 27) .skip (.exit 2)) (.seq (.block 3 (.seq (.ops [.i (.mv 28 (.tmp 26)), .i (.mv 9 (.tmp 28))]) (.ops [.i (.mv 29 (.tmp 9)), .i (.bin .add 30 (.const (vi 13)) (.tmp 29)), .i (.mv 31 (.tmp 2)), .i (.mv 32 (.tmp 9)), .i
  (.bin .mul 33 (.const (vi 4)) (.tmp 32)), .i (.sl 34 (.tmp 31) (.some (.tmp 33)) .none .none 1), .i (.call (.some 35) 138 [.tmp 34]), .i (.ixa 36 (.tmp 7) (.tmp 30) 16 1), .i (.st (.tmp 36) (.tmp 35))]))) (.ops [.i
  (.bin .add 37 (.tmp 26) (.const (vi 1))), .i (.mv 26 (.tmp 37))]))))))) (.seq (.ops [.i (.lda 38 (.tmp 7) 16), .i (.sta (.tmp 6) (.tmp 38) 16)]) .ret))))), [.ca 6 16]⟩
theorem c121 : cfn Go.Proofs.Try.prog Go.Proofs.Try.f121 = some x121 := by kernel_rfl
/-- `(locket/chacha.state).block` -/
def x122 : XFn := ⟨71, .seq (.ops [.i (.box 1 139 (.tmp 0)), .i (.mv 2 (.const (.slice .none 0 0)))]) (.scope1 (.seq (.ops [.i (.lda 10 (.tmp 1) 16), .i (.raw (.some 3) (.alloc 139) 0), .i (.sta (.tmp 3) (.tmp 10) 16), .i (.mv 4 (.const (vi 0)))]) (.seq
  (.label 0) (.seq (.seq (.ops [.i (.mv 11 (.const (vi 0)))]) (.block 0 (.loop (.seq (.ops [.i (.bin .lss 12 (.tmp 11) (.const (vi 4)))]) (.seq (.cond (.tmp 12) .skip (.exit 0)) (.seq (.block 1 (.seq (.ops [.i (.mv 13 (.tmp 11)), .i (.mv 5
  (.tmp 13))]) (.ops [.i (.mv 14 (.tmp 5)), .i (.mv 15 (.tmp 5)), .i (.bin .add 16 (.const (vi 4)) (.tmp 15)), .i (.mv 17 (.tmp 5)), .i (.bin .add 18 (.const (vi 8)) (.tmp 17)), .i (.mv 19 (.tmp 5)), .i (.bin .add 20 (.const (vi 12)) (.tmp
  19)), .i (.call (.some 21) 139 [.tmp 3, .tmp 14, .tmp 16, .tmp 18, .tmp 20])]))) (.ops [.i (.bin .add 22 (.tmp 11) (.const (vi 1))), .i (.mv 11 (.tmp 22))]))))))) (.seq (.seq (.ops [.i (.mv 23 (.const (vi
  0)))]) (.block 2 (.loop (.seq (.ops [.i (.bin .lss 24 (.tmp 23) (.const (vi 4)))]) (.seq (.cond (.tmp 24) .skip (.exit 2)) (.seq (.block 3 (.seq (.ops [.i (.mv 25 (.tmp 23)), .i (.mv 6 (.tmp 25))]) (.ops [.i (.mv 26 (.tmp 6)), .i (.mv 27
  (.tmp 6)), .i (.bin .add 28 (.tmp 27) (.const (vi 1))), .i (.bin .rem 29 (.tmp 28) (.const (vi 4))), .i (.bin .add 30 (.const (vi 4)) (.tmp 29)), .i (.mv 31 (.tmp 6)), .i (.bin .add 32 (.tmp 31) (.const (vi 2))), .i (.bin .rem 33 (.tmp
  32) (.const (vi 4))), .i (.bin .add 34 (.const (vi 8)) (.tmp 33)), .i (.mv 35 (.tmp 6)), .i (.bin .add 36 (.tmp 35) (.const (vi 3))), .i (.bin .rem 37 (.tmp 36) (.const (vi 4))), .i (.bin .add 38 (.const (vi 12)) (.tmp 37)), .i (.call
  (.some 39) 139 [.tmp 3, .tmp 26, .tmp 30, .tmp 34, .tmp 38])]))) (.ops [.i (.bin .add 40 (.tmp 23) (.const (vi 1))), .i (.mv 23 (.tmp 40))]))))))) (.seq (.seq (.ops [.i (.mv 41 (.tmp 4)), .i (.bin .add 42
  (.tmp 41) (.const (vi 1))), .i (.mv 4 (.tmp 42))]) (.seq (.ops [.i (.mv 43 (.tmp 4)), .i (.bin .lss 44 (.tmp 43) (.const (vi 10)))]) (.cond (.tmp 44) (.goto 0) .skip))) (.seq (.ops [.i (.mv 7 (.const (.slice .none 0 0)))]) (.seq (.seq
  (.ops [.i (.lda 45 (.tmp 3) 16), .i (.mv 46 (.const (vi 0)))]) (.block 4 (.loop (.seq (.ops [.i (.bin .lss 47 (.tmp 46) (.const (vi 16)))]) (.seq (.cond (.tmp 47) .skip (.exit 4)) (.seq (.block 5 (.seq (.ops [.i (.mv 48 (.tmp 46)), .i
  (.idx 49 (.tmp 45) (.tmp 46) 16 1 false), .i (.mv 8 (.tmp 48)), .i (.mv 9 (.tmp 49))]) (.seq (.ops [.i (.mv 50 (.tmp 9)), .i (.mv 51 (.tmp 8)), .i (.ixa 52 (.tmp 1) (.tmp 51) 16 1), .i (.ld 53 (.tmp 52)), .i (.bin .add 54 (.tmp 50) (.tmp
  53)), .i (.mv 9 (.tmp 54))]) (.ops [.i (.mv 55 (.tmp 7)), .i (.mv 56 (.tmp 9)), .i (.cvi .u8 57 (.tmp 56)), .i (.mv 58 (.tmp 9)), .i (.bin .shr 59 (.tmp 58) (.const (w64 8#64))), .i (.cvi .u8 60 (.tmp 59)), .i (.mv 61 (.tmp 9)), .i (.bin
  .shr 62 (.tmp 61) (.const (w64 16#64))), .i (.cvi .u8 63 (.tmp 62)), .i (.mv 64 (.tmp 9)), .i (.bin .shr 65 (.tmp 64) (.const (w64 24#64))), .i (.cvi .u8 66 (.tmp 65)), .i (.raw (.some 67) (.buildSlice 22 4 #[Prod.mk 0 (.tmp 57), Prod.mk
  1 (.tmp 60), Prod.mk 2 (.tmp 63), Prod.mk 3 (.tmp 66)]) 22), .i (.raw (.some 68) (.call (.mk (.builtin .append) #[.tmp 55, .tmp 67] #[22, 22])) 22), .i (.mv 7 (.tmp 68))])))) (.ops [.i (.bin .add 69 (.tmp 46) (.const (vi 1))), .i (.mv 46
  (.tmp 69))]))))))) (.seq (.ops [.i (.mv 70 (.tmp 7)), .i (.mv 2 (.tmp 70))]) .ret)))))))) 0 (.seq .skip (.seq (.seq (.ops [.i (.mv 11 (.const (vi 0)))]) (.block 0 (.loop (.seq (.ops [.i (.bin .lss 12 (.tmp 11) (.const (vi 4)))]) (.seq
  (.cond (.tmp 12) .skip (.exit 0)) (.seq (.block 1 (.seq (.ops [.i (.mv 13 (.tmp 11)), .i (.mv 5 (.tmp 13))]) (.ops [.i (.mv 14 (.tmp 5)), .i (.mv 15 (.tmp 5)), .i (.bin .add 16 (.const (vi 4)) (.tmp 15)), .i (.mv 17 (.tmp 5)), .i (.bin
  .add 18 (.const (vi 8)) (.tmp 17)), .i (.mv 19 (.tmp 5)), .i (.bin .add 20 (.const (vi 12)) (.tmp 19)), .i (.call (.some 21) 139 [.tmp 3, .tmp 14, .tmp 16, .tmp 18, .tmp 20])]))) (.ops [.i (.bin .add 22
  (.tmp 11) (.const (vi 1))), .i (.mv 11 (.tmp 22))]))))))) (.seq (.seq (.ops [.i (.mv 23 (.const (vi 0)))]) (.block 2 (.loop (.seq (.ops [.i (.bin .lss 24 (.tmp 23) (.const (vi 4)))]) (.seq (.cond (.tmp 24) .skip (.exit 2)) (.seq (.block 3
  (.seq (.ops [.i (.mv 25 (.tmp 23)), .i (.mv 6 (.tmp 25))]) (.ops [.i (.mv 26 (.tmp 6)), .i (.mv 27 (.tmp 6)), .i (.bin .add 28 (.tmp 27) (.const (vi 1))), .i (.bin .rem 29 (.tmp 28) (.const (vi 4))), .i (.bin .add 30 (.const (vi 4)) (.tmp
  29)), .i (.mv 31 (.tmp 6)), .i (.bin .add 32 (.tmp 31) (.const (vi 2))), .i (.bin .rem 33 (.tmp 32) (.const (vi 4))), .i (.bin .add 34 (.const (vi 8)) (.tmp 33)), .i (.mv 35 (.tmp 6)), .i (.bin .add 36 (.tmp 35) (.const (vi 3))), .i (.bin
  .rem 37 (.tmp 36) (.const (vi 4))), .i (.bin .add 38 (.const (vi 12)) (.tmp 37)), .i (.call (.some 39) 139 [.tmp 3, .tmp 26, .tmp 30, .tmp 34, .tmp 38])]))) (.ops [.i (.bin .add 40 (.tmp 23) (.const (vi
  1))), .i (.mv 23 (.tmp 40))]))))))) (.seq (.seq (.ops [.i (.mv 41 (.tmp 4)), .i (.bin .add 42 (.tmp 41) (.const (vi 1))), .i (.mv 4 (.tmp 42))]) (.seq (.ops [.i (.mv 43 (.tmp 4)), .i (.bin .lss 44 (.tmp 43) (.const (vi 10)))]) (.cond
  (.tmp 44) (.goto 0) .skip))) (.seq (.ops [.i (.mv 7 (.const (.slice .none 0 0)))]) (.seq (.seq (.ops [.i (.lda 45 (.tmp 3) 16), .i (.mv 46 (.const (vi 0)))]) (.block 4 (.loop (.seq (.ops [.i (.bin .lss 47 (.tmp 46) (.const (vi 16)))])
  (.seq (.cond (.tmp 47) .skip (.exit 4)) (.seq (.block 5 (.seq (.ops [.i (.mv 48 (.tmp 46)), .i (.idx 49 (.tmp 45) (.tmp 46) 16 1 false), .i (.mv 8 (.tmp 48)), .i (.mv 9 (.tmp 49))]) (.seq (.ops [.i (.mv 50 (.tmp 9)), .i (.mv 51 (.tmp 8)),
  .i (.ixa 52 (.tmp 1) (.tmp 51) 16 1), .i (.ld 53 (.tmp 52)), .i (.bin .add 54 (.tmp 50) (.tmp 53)), .i (.mv 9 (.tmp 54))]) (.ops [.i (.mv 55 (.tmp 7)), .i (.mv 56 (.tmp 9)), .i (.cvi .u8 57 (.tmp 56)), .i (.mv 58 (.tmp 9)), .i (.bin .shr
  59 (.tmp 58) (.const (w64 8#64))), .i (.cvi .u8 60 (.tmp 59)), .i (.mv 61 (.tmp 9)), .i (.bin .shr 62 (.tmp 61) (.const (w64 16#64))), .i (.cvi .u8 63 (.tmp 62)), .i (.mv 64 (.tmp 9)), .i (.bin .shr 65 (.tmp 64) (.const (w64 24#64))), .i
  (.cvi .u8 66 (.tmp 65)), .i (.raw (.some 67) (.buildSlice 22 4 #[Prod.mk 0 (.tmp 57), Prod.mk 1 (.tmp 60), Prod.mk 2 (.tmp 63), Prod.mk 3 (.tmp 66)]) 22), .i (.raw (.some 68) (.call (.mk (.builtin .append) #[.tmp 55, .tmp 67] #[22, 22]))
  22), .i (.mv 7 (.tmp 68))])))) (.ops [.i (.bin .add 69 (.tmp 46) (.const (vi 1))), .i (.mv 46 (.tmp 69))]))))))) (.seq (.ops [.i (.mv 70 (.tmp 7)), .i (.mv 2 (.tmp 70))]) .ret)))))))), [.t 2]⟩
theorem c122 : cfn Go.Proofs.Try.prog Go.Proofs.Try.f122 = some x122 := by kernel_rfl
/-- `locket/chacha.Block` -/
def x123 : XFn := ⟨21, .seq (.ops [.i (.mv 6 (.const (.slice .none 0 0))), .i (.mv 7 (.const (vi 0)))]) (.seq (.seq (.ops [.i (.mv 9 (.tmp 0)), .i (.mv 10 (.tmp 1)), .i (.mv 11 (.tmp 2)), .i (.call (.some 12) 120 [.tmp 9, .tmp 10, .tmp
  11]), .i (.mv 8 (.tmp 12))]) (.seq (.ops [.i (.mv 13 (.tmp 8)), .i (.bin .neq 14 (.tmp 13) (.const (vi 0)))]) (.cond (.tmp 14) (.seq (.ops [.i (.mv 15 (.tmp 8)), .i (.mv 6 (.const (.slice .none 0 0))), .i (.mv 7 (.tmp 15))]) .ret)
  .skip))) (.seq (.ops [.i (.mv 16 (.tmp 0)), .i (.mv 17 (.tmp 1)), .i (.mv 18 (.tmp 2)), .i (.call (.some 19) 121 [.tmp 16, .tmp 17, .tmp 18]), .i (.call (.some 20) 122 [.tmp 19]), .i (.mv
  6 (.tmp 20)), .i (.mv 7 (.const (vi 0)))]) .ret)), [.t 6, .t 7]⟩
theorem c123 : cfn Go.Proofs.Try.prog Go.Proofs.Try.f123 = some x123 := by kernel_rfl
/-- `locket/chacha.XOR` -/
def x102 : XFn := ⟨58, .seq (.ops [.i (.mv 8 (.const (.slice .none 0 0))), .i (.mv 9 (.const (vi 0)))]) (.seq (.seq (.ops [.i (.mv 16 (.tmp 0)), .i (.mv 17 (.tmp 1)), .i (.mv 18 (.tmp 2)), .i (.call (.some 19) 120 [.tmp 16, .tmp 17, .tmp
  18]), .i (.mv 10 (.tmp 19))]) (.seq (.ops [.i (.mv 20 (.tmp 10)), .i (.bin .neq 21 (.tmp 20) (.const (vi 0)))]) (.cond (.tmp 21) (.seq (.ops [.i (.mv 22 (.tmp 10)), .i (.mv 8 (.const (.slice .none 0 0))), .i (.mv 9 (.tmp 22))]) .ret)
  .skip))) (.seq (.ops [.i (.mv 23 (.tmp 0)), .i (.mv 24 (.tmp 1)), .i (.mv 25 (.tmp 2)), .i (.call (.some 26) 121 [.tmp 23, .tmp 24, .tmp 25]), .i (.raw (.some 11) (.alloc 139) 0), .i (.sta (.tmp 11) (.tmp 26) 16)])
  (.seq (.ops [.i (.mv 27 (.tmp 3)), .i (.len 28 (.tmp 27)), .i (.raw (.some 29) (.makeSlice 22 (.tmp 28) (.tmp 28)) 22), .i (.mv 12 (.tmp 29))]) (.seq (.ops [.i (.mv 13 (.const (.slice .none 0 0)))]) (.seq (.seq (.ops [.i (.mv 30 (.tmp
  3)), .i (.len 31 (.tmp 30)), .i (.mv 32 (.const (vi 0)))]) (.block 0 (.loop (.seq (.ops [.i (.bin .lss 33 (.tmp 32) (.tmp 31))]) (.seq (.cond (.tmp 33) .skip (.exit 0)) (.seq (.block 1 (.seq (.ops [.i (.mv 34 (.tmp 32)), .i (.ix 35 (.tmp
  30) (.tmp 32) 1), .i (.ld 36 (.tmp 35)), .i (.mv 14 (.tmp 34)), .i (.mv 15 (.tmp 36))]) (.seq (.seq (.ops [.i (.mv 37 (.tmp 14)), .i (.bin .rem 38 (.tmp 37) (.const (vi 64))), .i (.bin .eql 39 (.tmp 38) (.const (vi 0)))]) (.cond (.tmp 39)
  (.seq (.ops [.i (.lda 40 (.tmp 11) 16), .i (.call (.some 41) 122 [.tmp 40]), .i (.mv 13 (.tmp 41))]) (.ops [.i (.ixa 42 (.tmp 11) (.const (vi 12)) 16 1), .i (.ld 43 (.tmp 42)), .i (.bin .add 44 (.tmp 43)
  (.const (w32 1#32))), .i (.ixa 45 (.tmp 11) (.const (vi 12)) 16 1), .i (.st (.tmp 45) (.tmp 44))])) .skip)) (.ops [.i (.mv 46 (.tmp 12)), .i (.mv 47 (.tmp 14)), .i (.mv 48 (.tmp 15)), .i (.mv 49 (.tmp 13)), .i (.mv 50 (.tmp 14)), .i (.bin
  .rem 51 (.tmp 50) (.const (vi 64))), .i (.ix 52 (.tmp 49) (.tmp 51) 1), .i (.ld 53 (.tmp 52)), .i (.bin .xor 54 (.tmp 48) (.tmp 53)), .i (.ix 55 (.tmp 46) (.tmp 47) 1), .i (.st (.tmp 55) (.tmp 54))])))) (.ops [.i (.bin .add 56 (.tmp 32)
  (.const (vi 1))), .i (.mv 32 (.tmp 56))]))))))) (.seq (.ops [.i (.mv 57 (.tmp 12)), .i (.mv 8 (.tmp 57)), .i (.mv 9 (.const (vi 0)))]) .ret)))))), [.t 8, .t 9]⟩
theorem c102 : cfn Go.Proofs.Try.prog Go.Proofs.Try.f102 = some x102 := by kernel_rfl
end Go.Lk
