/- The compact code of some functions of the program, each held against the loaded program by the kernel. No statement of the seat is proved in this text. -/
import Derived.Test.YtofoamkiidkbkaaVal
import Derived.Test.YtofoamkiidkbkaaProg
set_option linter.unusedSimpArgs false
set_option linter.unusedVariables false
set_option linter.unusedSectionVars false
set_option linter.unnecessarySimpa false
namespace Go.Lk
/-- `locket/poly.get` -/
def x140 : XFn := ⟨27, .seq (.ops [.i (.raw (.some 2) (.alloc 156) 0)]) (.seq (.ops [.i (.raw (.some 3) (.alloc 156) 0)]) (.seq (.seq (.ops [.i (.mv 6 (.tmp 0)), .i (.len 7 (.tmp 6)), .i (.mv 8 (.const (vi 0)))]) (.block 0 (.loop (.seq (.ops [.i (.bin .lss 9
  (.tmp 8) (.tmp 7))]) (.seq (.cond (.tmp 9) .skip (.exit 0)) (.seq (.block 1 (.seq (.ops [.i (.mv 10 (.tmp 8)), .i (.ix 11 (.tmp 6) (.tmp 8) 1), .i (.ld 12 (.tmp 11)), .i (.mv 4 (.tmp 10)), .i (.mv 5 (.tmp 12))]) (.par (.take (.i (.mv 13
  (.tmp 4))) (.take (.i (.bin .quo 14 (.tmp 13) (.const (vi 8)))) (.take (.i (.ixa 15 (.tmp 3) (.tmp 14) 3 1)) (.take (.i (.ld 16 (.tmp 15))) (.take (.i (.mv 17 (.tmp 5))) (.take (.i (.cvi .u64 18 (.tmp 17))) (.take (.i (.mv 19 (.tmp 4)))
  (.take (.i (.bin .rem 20 (.tmp 19) (.const (vi 8)))) (.take (.i (.bin .mul 21 (.const (vi 8)) (.tmp 20))) (.take (.i (.bin .shl 22 (.tmp 18) (.tmp 21))) (.take (.i (.bin .or 23 (.tmp 16) (.tmp 22))) (.take (.i (.ixa 24 (.tmp 3) (.tmp 14)
  3 1)) (.step false (.i (.st (.tmp 24) (.tmp 23))) .done .stop)))))))))))))))) (.ops [.i (.bin .add 25 (.tmp 8) (.const (vi 1))), .i (.mv 8 (.tmp 25))]))))))) (.seq (.ops [.i (.lda 26 (.tmp 3) 3), .i (.sta (.tmp 2) (.tmp 26) 3)]) .ret))),
  [.ca 2 3]⟩
theorem c140 : cfn Go.Proofs.Try.prog Go.Proofs.Try.f140 = some x140 := by kernel_rfl
/-- `(locket/poly.wide).add` -/
def x142 : XFn := ⟨25, .seq (.ops [.i (.box 2 156 (.tmp 0)), .i (.box 3 156 (.tmp 1)), .i (.raw (.some 4) (.alloc 156) 0)]) (.seq (.ops [.i (.mv 5 (.const (w64 0#64)))]) (.seq (.seq (.ops [.i (.mv 7 (.const (vi 0)))]) (.block 0 (.loop (.seq (.ops [.i (.bin
  .lss 8 (.tmp 7) (.const (vi 3)))]) (.seq (.cond (.tmp 8) .skip (.exit 0)) (.seq (.block 1 (.seq (.ops [.i (.mv 9 (.tmp 7)), .i (.mv 6 (.tmp 9))]) (.par (.take (.i (.mv 11 (.tmp 6))) (.take (.i (.mv 12 (.tmp 6))) (.take (.i (.ixa 13 (.tmp
  2) (.tmp 12) 3 1)) (.take (.i (.ld 14 (.tmp 13))) (.take (.i (.mv 15 (.tmp 6))) (.take (.i (.ixa 16 (.tmp 3) (.tmp 15) 3 1)) (.take (.i (.ld 17 (.tmp 16))) (.take (.i (.mv 18 (.tmp 5))) (.step false (.i (.raw (.some 19) (.call (.mk
  (.value (.func 151)) #[.tmp 14, .tmp 17, .tmp 18] #[154, 154, 154])) 166)) (.take (.i (.mv 10 (.tmp 19))) (.take (.i (.ext 20 (.tmp 10) 0)) (.take (.i (.ext 21 (.tmp 10) 1)) (.take (.i (.ixa 22 (.tmp 2) (.tmp 11) 3 1)) (.step false (.i
  (.st (.tmp 22) (.tmp 20))) (.take (.i (.mv 5 (.tmp 21))) .done) .stop))))) .stop)))))))))))) (.ops [.i (.bin .add 23 (.tmp 7) (.const (vi 1))), .i (.mv 7 (.tmp 23))]))))))) (.seq (.ops [.i (.lda 24 (.tmp 2) 3), .i (.sta (.tmp 4) (.tmp 24)
  3)]) .ret))), [.ca 4 3]⟩
theorem c142 : cfn Go.Proofs.Try.prog Go.Proofs.Try.f142 = some x142 := by kernel_rfl
/-- `(locket/poly.wide).times` -/
def x143 : XFn := ⟨120, .seq (.ops [.i (.box 2 156 (.tmp 0)), .i (.box 3 156 (.tmp 1)), .i (.raw (.some 4) (.alloc 156) 0)]) (.seq (.ops [.i (.raw (.some 5) (.alloc 168) 0)]) (.seq (.seq (.ops [.i (.lda 17 (.tmp 2) 3), .i (.mv 18 (.const (vi 0)))]) (.block 0
  (.loop (.seq (.ops [.i (.bin .lss 19 (.tmp 18) (.const (vi 3)))]) (.seq (.cond (.tmp 19) .skip (.exit 0)) (.seq (.block 1 (.seq (.ops [.i (.mv 20 (.tmp 18)), .i (.idx 21 (.tmp 17) (.tmp 18) 3 1 false), .i (.mv 6 (.tmp 20)), .i (.mv 7
  (.tmp 21))]) (.seq (.ops [.i (.mv 8 (.const (w64 0#64)))]) (.seq (.seq (.ops [.i (.sla 22 (.tmp 3) .none (.some (.const (vi 2))) .none 3 1), .i (.len 23 (.tmp 22)), .i (.mv 24 (.const (vi 0)))]) (.block 2 (.loop (.seq (.ops [.i (.bin .lss
  25 (.tmp 24) (.tmp 23))]) (.seq (.cond (.tmp 25) .skip (.exit 2)) (.seq (.block 3 (.seq (.ops [.i (.mv 26 (.tmp 24)), .i (.ix 27 (.tmp 22) (.tmp 24) 1), .i (.ld 28 (.tmp 27)), .i (.mv 9 (.tmp 26)), .i (.mv 10 (.tmp 28))]) (.seq (.ops [.i
  (.mv 30 (.tmp 7)), .i (.mv 31 (.tmp 10)), .i (.call (.some 32) 152 [.tmp 30, .tmp 31]), .i (.mv 29 (.tmp 32)), .i (.ext 33 (.tmp 29) 0), .i (.ext 34 (.tmp 29) 1), .i (.mv 11 (.tmp 33)), .i (.mv 12 (.tmp 34))]) (.seq (.ops
  [.i (.mv 13 (.const (w64 0#64)))]) (.seq (.ops [.i (.mv 36 (.tmp 12)), .i (.mv 37 (.tmp 6)), .i (.mv 38 (.tmp 9)), .i (.bin .add 39 (.tmp 37) (.tmp 38)), .i (.ixa 40 (.tmp 5) (.tmp 39) 5 1), .i (.ld 41 (.tmp 40)), .i (.raw (.some 42)
  (.call (.mk (.value (.func 151)) #[.tmp 36, .tmp 41, .const (w64 0#64)] #[154, 154, 154])) 166), .i (.mv 35 (.tmp 42)), .i (.ext 43 (.tmp 35) 0), .i (.ext 44 (.tmp 35) 1), .i (.mv 12 (.tmp 43)), .i (.mv 13 (.tmp 44))]) (.seq (.ops [.i
  (.mv 45 (.tmp 11)), .i (.mv 46 (.tmp 13)), .i (.bin .add 47 (.tmp 45) (.tmp 46)), .i (.mv 11 (.tmp 47))]) (.seq (.ops [.i (.mv 49 (.tmp 12)), .i (.mv 50 (.tmp 8)), .i (.raw (.some 51) (.call (.mk (.value (.func 151)) #[.tmp 49, .tmp 50,
  .const (w64 0#64)] #[154, 154, 154])) 166), .i (.mv 48 (.tmp 51)), .i (.ext 52 (.tmp 48) 0), .i (.ext 53 (.tmp 48) 1), .i (.mv 12 (.tmp 52)), .i (.mv 13 (.tmp 53))]) (.ops [.i (.mv 54 (.tmp 6)), .i (.mv 55 (.tmp 9)), .i (.bin .add 56
  (.tmp 54) (.tmp 55)), .i (.mv 57 (.tmp 12)), .i (.mv 58 (.tmp 11)), .i (.mv 59 (.tmp 13)), .i (.bin .add 60 (.tmp 58) (.tmp 59)), .i (.ixa 61 (.tmp 5) (.tmp 56) 5 1), .i (.st (.tmp 61) (.tmp 57)), .i (.mv 8 (.tmp 60))])))))))) (.ops [.i
  (.bin .add 62 (.tmp 24) (.const (vi 1))), .i (.mv 24 (.tmp 62))]))))))) (.ops [.i (.mv 63 (.tmp 6)), .i (.bin .add 64 (.tmp 63) (.const (vi 2))), .i (.ixa 65 (.tmp 5) (.tmp 64) 5 1), .i (.ld 66 (.tmp 65)), .i (.mv 67 (.tmp 8)), .i (.bin
  .add 68 (.tmp 66) (.tmp 67)), .i (.ixa 69 (.tmp 5) (.tmp 64) 5 1), .i (.st (.tmp 69) (.tmp 68))]))))) (.ops [.i (.bin .add 70 (.tmp 18) (.const (vi 1))), .i (.mv 18 (.tmp 70))]))))))) (.seq (.ops [.i (.ixa 71 (.tmp 5) (.const (vi 0)) 5
  1), .i (.ld 72 (.tmp 71)), .i (.ixa 73 (.tmp 5) (.const (vi 1)) 5 1), .i (.ld 74 (.tmp 73)), .i (.ixa 75 (.tmp 5) (.const (vi 2)) 5 1), .i (.ld 76 (.tmp 75)), .i (.bin .and 77 (.tmp 76) (.const (w64 3#64))), .i (.bld 78 [.tmp 72, .tmp 74,
  .tmp 77]), .i (.raw (.some 14) (.alloc 156) 0), .i (.sta (.tmp 14) (.tmp 78) 3)]) (.seq (.ops [.i (.ixa 79 (.tmp 5) (.const (vi 2)) 5 1), .i (.ld 80 (.tmp 79)), .i (.bin .shr 81 (.tmp 80) (.const (w64 2#64))), .i (.ixa 82 (.tmp 5) (.const
  (vi 3)) 5 1), .i (.ld 83 (.tmp 82)), .i (.bin .shl 84 (.tmp 83) (.const (w64 62#64))), .i (.bin .or 85 (.tmp 81) (.tmp 84)), .i (.ixa 86 (.tmp 5) (.const (vi 3)) 5 1), .i (.ld 87 (.tmp 86)), .i (.bin .shr 88 (.tmp 87) (.const (w64
  2#64))), .i (.ixa 89 (.tmp 5) (.const (vi 4)) 5 1), .i (.ld 90 (.tmp 89)), .i (.bin .shl 91 (.tmp 90) (.const (w64 62#64))), .i (.bin .or 92 (.tmp 88) (.tmp 91)), .i (.ixa 93 (.tmp 5) (.const (vi 4)) 5 1), .i (.ld 94 (.tmp 93)), .i (.bin
  .shr 95 (.tmp 94) (.const (w64 2#64))), .i (.bld 96 [.tmp 85, .tmp 92, .tmp 95]), .i (.raw (.some 15) (.alloc 156) 0), .i (.sta (.tmp 15) (.tmp 96) 3)]) (.seq (.ops [.i (.ixa 97 (.tmp 15) (.const (vi 0)) 3 1), .i (.ld 98 (.tmp 97)), .i
  (.bin .shl 99 (.tmp 98) (.const (w64 2#64))), .i (.ixa 100 (.tmp 15) (.const (vi 1)) 3 1), .i (.ld 101 (.tmp 100)), .i (.bin .shl 102 (.tmp 101) (.const (w64 2#64))), .i (.ixa 103 (.tmp 15) (.const (vi 0)) 3 1), .i (.ld 104 (.tmp 103)),
  .i (.bin .shr 105 (.tmp 104) (.const (w64 62#64))), .i (.bin .or 106 (.tmp 102) (.tmp 105)), .i (.ixa 107 (.tmp 15) (.const (vi 2)) 3 1), .i (.ld 108 (.tmp 107)), .i (.bin .shl 109 (.tmp 108) (.const (w64 2#64))), .i (.ixa 110 (.tmp 15)
  (.const (vi 1)) 3 1), .i (.ld 111 (.tmp 110)), .i (.bin .shr 112 (.tmp 111) (.const (w64 62#64))), .i (.bin .or 113 (.tmp 109) (.tmp 112)), .i (.bld 114 [.tmp 99, .tmp 106, .tmp 113]), .i (.raw (.some 16) (.alloc 156) 0), .i (.sta (.tmp
  16) (.tmp 114) 3)]) (.seq (.par (.take (.i (.lda 115 (.tmp 14) 3)) (.take (.i (.lda 116 (.tmp 15) 3)) (.take (.i (.lda 118 (.tmp 16) 3)) (.step true (.i (.call (.some 117) 142 [.tmp 115, .tmp 116])) (.step false
  (.i (.call (.some 119) 142 [.tmp 117, .tmp 118])) (.step false (.i (.sta (.tmp 4) (.tmp 119) 3)) .done .stop) .stop) .stop))))) .ret)))))), [.ca 4 3]⟩
theorem c143 : cfn Go.Proofs.Try.prog Go.Proofs.Try.f143 = some x143 := by kernel_rfl
/-- `(locket/poly.wide).least` -/
def x141 : XFn := ⟨32, .seq (.ops [.i (.box 1 156 (.tmp 0)), .i (.raw (.some 2) (.alloc 156) 0)]) (.scope1 (.seq (.ops [.i (.raw (.some 3) (.alloc 156) 0)]) (.seq (.label 0) (.seq (.ops [.i (.ixa 5 (.tmp 1) (.const (vi 2)) 3 1), .i (.ld 6 (.tmp 5)), .i (.bin
  .shr 7 (.tmp 6) (.const (w64 2#64))), .i (.bin .mul 8 (.tmp 7) (.const (w64 5#64))), .i (.ixa 9 (.tmp 3) (.const (vi 0)) 3 1), .i (.st (.tmp 9) (.tmp 8))]) (.seq (.ops [.i (.ixa 10 (.tmp 1) (.const (vi 2)) 3 1), .i (.ld 11 (.tmp 10)), .i
  (.bin .and 12 (.tmp 11) (.const (w64 3#64))), .i (.ixa 13 (.tmp 1) (.const (vi 2)) 3 1), .i (.st (.tmp 13) (.tmp 12))]) (.seq (.seq (.ops [.i (.lda 14 (.tmp 1) 3), .i (.lda 15 (.tmp 3) 3), .i (.call (.some 16) 142
  [.tmp 14, .tmp 15]), .i (.sta (.tmp 1) (.tmp 16) 3)]) (.seq (.ops [.i (.ixa 17 (.tmp 1) (.const (vi 2)) 3 1), .i (.ld 18 (.tmp 17)), .i (.bin .gtr 19 (.tmp 18) (.const (w64 3#64)))]) (.cond (.tmp 19) (.goto 0) .skip))) (.seq (.seq (.ops
  [.i (.lda 20 (.tmp 1) 3), .i (.bld 21 [.const (w64 5#64), .const (w64 0#64), .const (w64 0#64)]), .i (.call (.some 22) 142 [.tmp 20, .tmp 21]), .i (.raw (.some 4) (.alloc 156) 0), .i (.sta (.tmp 4) (.tmp 22) 3)])
  (.seq (.ops [.i (.ixa 23 (.tmp 4) (.const (vi 2)) 3 1), .i (.ld 24 (.tmp 23)), .i (.bin .gtr 25 (.tmp 24) (.const (w64 3#64)))]) (.cond (.tmp 25) (.seq (.ops [.i (.ixa 26 (.tmp 4) (.const (vi 2)) 3 1), .i (.ld 27 (.tmp 26)), .i (.bin .and
  28 (.tmp 27) (.const (w64 3#64))), .i (.ixa 29 (.tmp 4) (.const (vi 2)) 3 1), .i (.st (.tmp 29) (.tmp 28))]) (.seq (.ops [.i (.lda 30 (.tmp 4) 3), .i (.sta (.tmp 2) (.tmp 30) 3)]) .ret)) .skip))) (.seq (.ops [.i (.lda 31 (.tmp 1) 3), .i
  (.sta (.tmp 2) (.tmp 31) 3)]) .ret))))))) 0 (.seq .skip (.seq (.ops [.i (.ixa 5 (.tmp 1) (.const (vi 2)) 3 1), .i (.ld 6 (.tmp 5)), .i (.bin .shr 7 (.tmp 6) (.const (w64 2#64))), .i (.bin .mul 8 (.tmp 7) (.const (w64 5#64))), .i (.ixa 9
  (.tmp 3) (.const (vi 0)) 3 1), .i (.st (.tmp 9) (.tmp 8))]) (.seq (.ops [.i (.ixa 10 (.tmp 1) (.const (vi 2)) 3 1), .i (.ld 11 (.tmp 10)), .i (.bin .and 12 (.tmp 11) (.const (w64 3#64))), .i (.ixa 13 (.tmp 1) (.const (vi 2)) 3 1), .i (.st
  (.tmp 13) (.tmp 12))]) (.seq (.seq (.ops [.i (.lda 14 (.tmp 1) 3), .i (.lda 15 (.tmp 3) 3), .i (.call (.some 16) 142 [.tmp 14, .tmp 15]), .i (.sta (.tmp 1) (.tmp 16) 3)]) (.seq (.ops [.i (.ixa 17 (.tmp 1) (.const
  (vi 2)) 3 1), .i (.ld 18 (.tmp 17)), .i (.bin .gtr 19 (.tmp 18) (.const (w64 3#64)))]) (.cond (.tmp 19) (.goto 0) .skip))) (.seq (.seq (.ops [.i (.lda 20 (.tmp 1) 3), .i (.bld 21 [.const (w64 5#64), .const (w64 0#64), .const (w64 0#64)]),
  .i (.call (.some 22) 142 [.tmp 20, .tmp 21]), .i (.raw (.some 4) (.alloc 156) 0), .i (.sta (.tmp 4) (.tmp 22) 3)]) (.seq (.ops [.i (.ixa 23 (.tmp 4) (.const (vi 2)) 3 1), .i (.ld 24 (.tmp 23)), .i (.bin .gtr 25
  (.tmp 24) (.const (w64 3#64)))]) (.cond (.tmp 25) (.seq (.ops [.i (.ixa 26 (.tmp 4) (.const (vi 2)) 3 1), .i (.ld 27 (.tmp 26)), .i (.bin .and 28 (.tmp 27) (.const (w64 3#64))), .i (.ixa 29 (.tmp 4) (.const (vi 2)) 3 1), .i (.st (.tmp 29)
  (.tmp 28))]) (.seq (.ops [.i (.lda 30 (.tmp 4) 3), .i (.sta (.tmp 2) (.tmp 30) 3)]) .ret)) .skip))) (.seq (.ops [.i (.lda 31 (.tmp 1) 3), .i (.sta (.tmp 2) (.tmp 31) 3)]) .ret))))))), [.ca 2 3]⟩
theorem c141 : cfn Go.Proofs.Try.prog Go.Proofs.Try.f141 = some x141 := by kernel_rfl
/-- `math/bits.Mul64` -/
def x152 : XFn := ⟨51, .seq (.ops [.i (.mv 4 (.const (w64 0#64))), .i (.mv 5 (.const (w64 0#64)))]) (.seq (.ops [.i (.mv 14 (.tmp 0)), .i (.bin .and 15 (.tmp 14) (.const (w64 4294967295#64))), .i (.mv 6 (.tmp 15))]) (.seq (.ops [.i (.mv 16 (.tmp 0)), .i
  (.bin .shr 17 (.tmp 16) (.const (w64 32#64))), .i (.mv 7 (.tmp 17))]) (.seq (.ops [.i (.mv 18 (.tmp 1)), .i (.bin .and 19 (.tmp 18) (.const (w64 4294967295#64))), .i (.mv 8 (.tmp 19))]) (.seq (.ops [.i (.mv 20 (.tmp 1)), .i (.bin .shr 21
  (.tmp 20) (.const (w64 32#64))), .i (.mv 9 (.tmp 21))]) (.seq (.ops [.i (.mv 22 (.tmp 6)), .i (.mv 23 (.tmp 8)), .i (.bin .mul 24 (.tmp 22) (.tmp 23)), .i (.mv 10 (.tmp 24))]) (.seq (.ops [.i (.mv 25 (.tmp 7)), .i (.mv 26 (.tmp 8)), .i
  (.bin .mul 27 (.tmp 25) (.tmp 26)), .i (.mv 28 (.tmp 10)), .i (.bin .shr 29 (.tmp 28) (.const (w64 32#64))), .i (.bin .add 30 (.tmp 27) (.tmp 29)), .i (.mv 11 (.tmp 30))]) (.seq (.ops [.i (.mv 31 (.tmp 11)), .i (.bin .and 32 (.tmp 31)
  (.const (w64 4294967295#64))), .i (.mv 12 (.tmp 32))]) (.seq (.ops [.i (.mv 33 (.tmp 11)), .i (.bin .shr 34 (.tmp 33) (.const (w64 32#64))), .i (.mv 13 (.tmp 34))]) (.seq (.ops [.i (.mv 35 (.tmp 12)), .i (.mv 36 (.tmp 6)), .i (.mv 37
  (.tmp 9)), .i (.bin .mul 38 (.tmp 36) (.tmp 37)), .i (.bin .add 39 (.tmp 35) (.tmp 38)), .i (.mv 12 (.tmp 39))]) (.seq (.ops [.i (.mv 40 (.tmp 7)), .i (.mv 41 (.tmp 9)), .i (.bin .mul 42 (.tmp 40) (.tmp 41)), .i (.mv 43 (.tmp 13)), .i
  (.bin .add 44 (.tmp 42) (.tmp 43)), .i (.mv 45 (.tmp 12)), .i (.bin .shr 46 (.tmp 45) (.const (w64 32#64))), .i (.bin .add 47 (.tmp 44) (.tmp 46)), .i (.mv 4 (.tmp 47))]) (.seq (.ops [.i (.mv 48 (.tmp 0)), .i (.mv 49 (.tmp 1)), .i (.bin
  .mul 50 (.tmp 48) (.tmp 49)), .i (.mv 5 (.tmp 50))]) .ret))))))))))), [.t 4, .t 5]⟩
theorem c152 : cfn Go.Proofs.Try.prog Go.Proofs.Try.f152 = some x152 := by kernel_rfl
/-- `locket/poly.Tag` -/
def x125 : XFn := ⟨72, .seq (.ops [.i (.mv 4 (.const (.slice .none 0 0))), .i (.mv 5 (.const (vi 0)))]) (.seq (.seq (.ops [.i (.mv 12 (.tmp 0)), .i (.len 13 (.tmp 12)), .i (.bin .neq 14 (.tmp 13) (.const (vi 32)))]) (.cond (.tmp 14) (.seq (.ops [.i (.mv 4
  (.const (.slice .none 0 0))), .i (.mv 5 (.const (vi 11)))]) .ret) .skip)) (.seq (.par (.take (.i (.mv 15 (.tmp 0))) (.take (.i (.sl 16 (.tmp 15) .none (.some (.const (vi 16))) .none 1)) (.take (.i (.mv 18 (.tmp 0))) (.take (.i (.sl 19
  (.tmp 18) (.some (.const (vi 16))) .none .none 1)) (.step false (.i (.call (.some 17) 140 [.tmp 16])) (.step false (.i (.call (.some 20) 140 [.tmp 19])) (.step false (.i (.raw (.some 6) (.alloc 156) 0))
  (.step false (.i (.raw (.some 7) (.alloc 156) 0)) (.step false (.i (.sta (.tmp 6) (.tmp 17) 3)) (.step false (.i (.sta (.tmp 7) (.tmp 20) 3)) .done .stop) .stop) .stop) (.step false (.i (.raw (.some 7) (.alloc 156) 0)) (.step false (.i
  (.raw (.some 6) (.alloc 156) 0)) (.step false (.i (.sta (.tmp 6) (.tmp 17) 3)) (.step false (.i (.sta (.tmp 7) (.tmp 20) 3)) .done .stop) .stop) .stop) .stop)) (.step false (.i (.raw (.some 6) (.alloc 156) 0)) (.step false (.i (.call
  (.some 20) 140 [.tmp 19])) (.step false (.i (.raw (.some 7) (.alloc 156) 0)) (.step false (.i (.sta (.tmp 6) (.tmp 17) 3)) (.step false (.i (.sta (.tmp 7) (.tmp 20) 3)) .done .stop) .stop) .stop) (.step false (.i (.raw
  (.some 7) (.alloc 156) 0)) (.step false (.i (.call (.some 20) 140 [.tmp 19])) (.step false (.i (.sta (.tmp 6) (.tmp 17) 3)) (.step false (.i (.sta (.tmp 7) (.tmp 20) 3)) .done .stop) .stop) .stop) .stop)) (.step false (.i
  (.raw (.some 7) (.alloc 156) 0)) (.step false (.i (.call (.some 20) 140 [.tmp 19])) (.step false (.i (.raw (.some 6) (.alloc 156) 0)) (.step false (.i (.sta (.tmp 6) (.tmp 17) 3)) (.step false (.i (.sta (.tmp 7) (.tmp 20)
  3)) .done .stop) .stop) .stop) (.step false (.i (.raw (.some 6) (.alloc 156) 0)) (.step false (.i (.call (.some 20) 140 [.tmp 19])) (.step false (.i (.sta (.tmp 6) (.tmp 17) 3)) (.step false (.i (.sta (.tmp 7) (.tmp 20)
  3)) .done .stop) .stop) .stop) .stop)) .stop))) (.step false (.i (.raw (.some 6) (.alloc 156) 0)) (.step false (.i (.call (.some 17) 140 [.tmp 16])) (.step false (.i (.call (.some 20) 140 [.tmp 19]))
  (.step false (.i (.raw (.some 7) (.alloc 156) 0)) (.step false (.i (.sta (.tmp 6) (.tmp 17) 3)) (.step false (.i (.sta (.tmp 7) (.tmp 20) 3)) .done .stop) .stop) .stop) (.step false (.i (.raw (.some 7) (.alloc 156) 0)) (.step false (.i
  (.call (.some 20) 140 [.tmp 19])) (.step false (.i (.sta (.tmp 6) (.tmp 17) 3)) (.step false (.i (.sta (.tmp 7) (.tmp 20) 3)) .done .stop) .stop) .stop) .stop)) (.step false (.i (.raw (.some 7) (.alloc 156) 0)) (.step
  false (.i (.call (.some 17) 140 [.tmp 16])) (.step false (.i (.call (.some 20) 140 [.tmp 19])) (.step false (.i (.sta (.tmp 6) (.tmp 17) 3)) (.step false (.i (.sta (.tmp 7) (.tmp 20) 3)) .done .stop)
  .stop) .stop) .stop) .stop)) (.step false (.i (.raw (.some 7) (.alloc 156) 0)) (.step false (.i (.call (.some 17) 140 [.tmp 16])) (.step false (.i (.call (.some 20) 140 [.tmp 19])) (.step false (.i (.raw
  (.some 6) (.alloc 156) 0)) (.step false (.i (.sta (.tmp 6) (.tmp 17) 3)) (.step false (.i (.sta (.tmp 7) (.tmp 20) 3)) .done .stop) .stop) .stop) (.step false (.i (.raw (.some 6) (.alloc 156) 0)) (.step false (.i (.call (.some 20)
  140 [.tmp 19])) (.step false (.i (.sta (.tmp 6) (.tmp 17) 3)) (.step false (.i (.sta (.tmp 7) (.tmp 20) 3)) .done .stop) .stop) .stop) .stop)) (.step false (.i (.raw (.some 6) (.alloc 156) 0)) (.step false (.i (.call
  (.some 17) 140 [.tmp 16])) (.step false (.i (.call (.some 20) 140 [.tmp 19])) (.step false (.i (.sta (.tmp 6) (.tmp 17) 3)) (.step false (.i (.sta (.tmp 7) (.tmp 20) 3)) .done .stop) .stop) .stop) .stop)
  .stop)) .stop)))))))) (.seq (.ops [.i (.ixa 21 (.tmp 6) (.const (vi 0)) 3 1), .i (.ld 22 (.tmp 21)), .i (.bin .and 23 (.tmp 22) (.const (w64 1152921487695413247#64))), .i (.ixa 24 (.tmp 6) (.const (vi 0)) 3 1), .i (.st (.tmp 24) (.tmp
  23))]) (.seq (.ops [.i (.ixa 25 (.tmp 6) (.const (vi 1)) 3 1), .i (.ld 26 (.tmp 25)), .i (.bin .and 27 (.tmp 26) (.const (w64 1152921487695413244#64))), .i (.ixa 28 (.tmp 6) (.const (vi 1)) 3 1), .i (.st (.tmp 28) (.tmp 27))]) (.seq (.ops
  [.i (.raw (.some 8) (.alloc 156) 0)]) (.seq (.block 0 (.loop (.seq (.seq (.ops [.i (.mv 29 (.tmp 1)), .i (.len 30 (.tmp 29)), .i (.bin .gtr 31 (.tmp 30) (.const (vi 0)))]) (.cond (.tmp 31) .skip (.exit 0))) (.block 1 (.seq (.ops [.i (.mv
  32 (.tmp 1)), .i (.len 33 (.tmp 32)), .i (.raw (.some 34) (.call (.mk (.builtin .min) #[.const (vi 16), .tmp 33] #[3, 3])) 3), .i (.mv 9 (.tmp 34))]) (.seq (.par (.take (.i (.lda 35 (.tmp 8) 3)) (.take (.i (.mv 38 (.tmp 1))) (.take (.i
  (.mv 39 (.tmp 9))) (.take (.i (.sl 40 (.tmp 38) .none (.some (.tmp 39)) .none 1)) (.take (.i (.lda 46 (.tmp 6) 3)) (.step true (.i (.call (.some 36) 141 [.tmp 35])) (.step true (.i (.raw (.some 37) (.buildSlice
  22 0 #[]) 22)) (.step true (.i (.raw (.some 41) (.call (.mk (.builtin .append) #[.tmp 37, .tmp 40] #[22, 22])) 22)) (.step true (.i (.raw (.some 42) (.buildSlice 22 1 #[Prod.mk 0 (.const (w8 1))]) 22)) (.step true (.i (.raw (.some 43)
  (.call (.mk (.builtin .append) #[.tmp 41, .tmp 42] #[22, 22])) 22)) (.step true (.i (.call (.some 44) 140 [.tmp 43])) (.step true (.i (.call (.some 45) 142 [.tmp 36, .tmp 44])) (.step false (.i
  (.call (.some 47) 143 [.tmp 45, .tmp 46])) (.step false (.i (.sta (.tmp 8) (.tmp 47) 3)) .done .stop) .stop) .stop) .stop) .stop) .stop) (.step true (.i (.raw (.some 42) (.buildSlice 22 1 #[Prod.mk 0 (.const (w8
  1))]) 22)) (.step true (.i (.raw (.some 41) (.call (.mk (.builtin .append) #[.tmp 37, .tmp 40] #[22, 22])) 22)) (.step true (.i (.raw (.some 43) (.call (.mk (.builtin .append) #[.tmp 41, .tmp 42] #[22, 22])) 22)) (.step true (.i (.call
  (.some 44) 140 [.tmp 43])) (.step true (.i (.call (.some 45) 142 [.tmp 36, .tmp 44])) (.step false (.i (.call (.some 47) 143 [.tmp 45, .tmp 46])) (.step false (.i (.sta
  (.tmp 8) (.tmp 47) 3)) .done .stop) .stop) .stop) .stop) .stop) .stop) .stop)) (.step true (.i (.raw (.some 42) (.buildSlice 22 1 #[Prod.mk 0 (.const (w8 1))]) 22)) (.step true (.i (.raw (.some 37) (.buildSlice 22 0 #[]) 22)) (.step true
  (.i (.raw (.some 41) (.call (.mk (.builtin .append) #[.tmp 37, .tmp 40] #[22, 22])) 22)) (.step true (.i (.raw (.some 43) (.call (.mk (.builtin .append) #[.tmp 41, .tmp 42] #[22, 22])) 22)) (.step true (.i (.call (.some 44)
  140 [.tmp 43])) (.step true (.i (.call (.some 45) 142 [.tmp 36, .tmp 44])) (.step false (.i (.call (.some 47) 143 [.tmp 45, .tmp 46])) (.step false (.i (.sta (.tmp 8)
  (.tmp 47) 3)) .done .stop) .stop) .stop) .stop) .stop) .stop) .stop) .stop)) (.step true (.i (.raw (.some 37) (.buildSlice 22 0 #[]) 22)) (.step true (.i (.call (.some 36) 141 [.tmp 35])) (.step true (.i (.raw
  (.some 41) (.call (.mk (.builtin .append) #[.tmp 37, .tmp 40] #[22, 22])) 22)) (.step true (.i (.raw (.some 42) (.buildSlice 22 1 #[Prod.mk 0 (.const (w8 1))]) 22)) (.step true (.i (.raw (.some 43) (.call (.mk (.builtin .append) #[.tmp
  41, .tmp 42] #[22, 22])) 22)) (.step true (.i (.call (.some 44) 140 [.tmp 43])) (.step true (.i (.call (.some 45) 142 [.tmp 36, .tmp 44])) (.step false (.i (.call (.some 47)
  143 [.tmp 45, .tmp 46])) (.step false (.i (.sta (.tmp 8) (.tmp 47) 3)) .done .stop) .stop) .stop) .stop) .stop) .stop) (.step true (.i (.raw (.some 42) (.buildSlice 22 1 #[Prod.mk 0 (.const (w8 1))]) 22)) (.step
  true (.i (.raw (.some 41) (.call (.mk (.builtin .append) #[.tmp 37, .tmp 40] #[22, 22])) 22)) (.step true (.i (.raw (.some 43) (.call (.mk (.builtin .append) #[.tmp 41, .tmp 42] #[22, 22])) 22)) (.step true (.i (.call (.some 44)
  140 [.tmp 43])) (.step true (.i (.call (.some 45) 142 [.tmp 36, .tmp 44])) (.step false (.i (.call (.some 47) 143 [.tmp 45, .tmp 46])) (.step false (.i (.sta (.tmp 8)
  (.tmp 47) 3)) .done .stop) .stop) .stop) .stop) .stop) .stop) .stop)) (.step true (.i (.raw (.some 42) (.buildSlice 22 1 #[Prod.mk 0 (.const (w8 1))]) 22)) (.step true (.i (.call (.some 36) 141 [.tmp 35])) (.step
  true (.i (.raw (.some 41) (.call (.mk (.builtin .append) #[.tmp 37, .tmp 40] #[22, 22])) 22)) (.step true (.i (.raw (.some 43) (.call (.mk (.builtin .append) #[.tmp 41, .tmp 42] #[22, 22])) 22)) (.step true (.i (.call (.some 44)
  140 [.tmp 43])) (.step true (.i (.call (.some 45) 142 [.tmp 36, .tmp 44])) (.step false (.i (.call (.some 47) 143 [.tmp 45, .tmp 46])) (.step false (.i (.sta (.tmp 8)
  (.tmp 47) 3)) .done .stop) .stop) .stop) .stop) .stop) .stop) .stop) .stop)) (.step true (.i (.raw (.some 42) (.buildSlice 22 1 #[Prod.mk 0 (.const (w8 1))]) 22)) (.step true (.i (.call (.some 36) 141 [.tmp 35]))
  (.step true (.i (.raw (.some 37) (.buildSlice 22 0 #[]) 22)) (.step true (.i (.raw (.some 41) (.call (.mk (.builtin .append) #[.tmp 37, .tmp 40] #[22, 22])) 22)) (.step true (.i (.raw (.some 43) (.call (.mk (.builtin .append) #[.tmp 41,
  .tmp 42] #[22, 22])) 22)) (.step true (.i (.call (.some 44) 140 [.tmp 43])) (.step true (.i (.call (.some 45) 142 [.tmp 36, .tmp 44])) (.step false (.i (.call (.some 47)
  143 [.tmp 45, .tmp 46])) (.step false (.i (.sta (.tmp 8) (.tmp 47) 3)) .done .stop) .stop) .stop) .stop) .stop) .stop) .stop) (.step true (.i (.raw (.some 37) (.buildSlice 22 0 #[]) 22)) (.step true (.i (.call
  (.some 36) 141 [.tmp 35])) (.step true (.i (.raw (.some 41) (.call (.mk (.builtin .append) #[.tmp 37, .tmp 40] #[22, 22])) 22)) (.step true (.i (.raw (.some 43) (.call (.mk (.builtin .append) #[.tmp 41, .tmp 42]
  #[22, 22])) 22)) (.step true (.i (.call (.some 44) 140 [.tmp 43])) (.step true (.i (.call (.some 45) 142 [.tmp 36, .tmp 44])) (.step false (.i (.call (.some 47) 143 [.tmp
  45, .tmp 46])) (.step false (.i (.sta (.tmp 8) (.tmp 47) 3)) .done .stop) .stop) .stop) .stop) .stop) .stop) .stop) .stop)) .stop))))))))) (.ops [.i (.mv 48 (.tmp 1)), .i (.mv 49 (.tmp 9)), .i (.sl 50 (.tmp 48) (.some (.tmp 49)) .none
  .none 1), .i (.mv 1 (.tmp 50))]))))))) (.seq (.par (.take (.i (.lda 51 (.tmp 8) 3)) (.take (.i (.lda 53 (.tmp 7) 3)) (.step true (.i (.call (.some 52) 141 [.tmp 51])) (.step false (.i (.call (.some 54)
  142 [.tmp 52, .tmp 53])) (.step false (.i (.sta (.tmp 8) (.tmp 54) 3)) .done .stop) .stop) .stop)))) (.seq (.ops [.i (.mv 10 (.const (.slice .none 0 0)))]) (.seq (.seq (.ops [.i (.mv 55 (.const (vi 0)))]) (.block 2
  (.loop (.seq (.ops [.i (.bin .lss 56 (.tmp 55) (.const (vi 16)))]) (.seq (.cond (.tmp 56) .skip (.exit 2)) (.seq (.block 3 (.seq (.ops [.i (.mv 57 (.tmp 55)), .i (.mv 11 (.tmp 57))]) (.ops [.i (.mv 58 (.tmp 10)), .i (.mv 59 (.tmp 11)), .i
  (.bin .quo 60 (.tmp 59) (.const (vi 8))), .i (.ixa 61 (.tmp 8) (.tmp 60) 3 1), .i (.ld 62 (.tmp 61)), .i (.mv 63 (.tmp 11)), .i (.bin .rem 64 (.tmp 63) (.const (vi 8))), .i (.bin .mul 65 (.const (vi 8)) (.tmp 64)), .i (.bin .shr 66 (.tmp
  62) (.tmp 65)), .i (.cvi .u8 67 (.tmp 66)), .i (.raw (.some 68) (.buildSlice 22 1 #[Prod.mk 0 (.tmp 67)]) 22), .i (.raw (.some 69) (.call (.mk (.builtin .append) #[.tmp 58, .tmp 68] #[22, 22])) 22), .i (.mv 10 (.tmp 69))]))) (.ops [.i
  (.bin .add 70 (.tmp 55) (.const (vi 1))), .i (.mv 55 (.tmp 70))]))))))) (.seq (.ops [.i (.mv 71 (.tmp 10)), .i (.mv 4 (.tmp 71)), .i (.mv 5 (.const (vi 0)))]) .ret)))))))))), [.t 4, .t 5]⟩
theorem c125 : cfn Go.Proofs.Try.prog Go.Proofs.Try.f125 = some x125 := by kernel_rfl
/-- `locket/aead.filled` -/
def x124 : XFn := ⟨15, .seq (.ops [.i (.mv 4 (.const (.slice .none 0 0)))]) (.seq (.ops [.i (.mv 5 (.tmp 0)), .i (.mv 6 (.tmp 1)), .i (.raw (.some 7) (.call (.mk (.builtin .append) #[.tmp 5, .tmp 6] #[22, 22])) 22), .i (.mv 0 (.tmp 7))]) (.seq (.ops [.i (.mv
  8 (.tmp 0)), .i (.mv 9 (.tmp 1)), .i (.len 10 (.tmp 9)), .i (.bin .rem 11 (.tmp 10) (.const (vi 16))), .i (.bin .sub 12 (.const (vi 16)) (.tmp 11)), .i (.bin .rem 13 (.tmp 12) (.const (vi 16))), .i (.raw (.some 14) (.call (.mk (.builtin
  .append) #[.tmp 8, .tmp 13] #[22, 3])) 22), .i (.mv 4 (.tmp 14))]) .ret)), [.t 4]⟩
theorem c124 : cfn Go.Proofs.Try.prog Go.Proofs.Try.f124 = some x124 := by kernel_rfl
/-- `locket/aead.count` -/
def x126 : XFn := ⟨19, .seq (.ops [.i (.mv 4 (.const (.slice .none 0 0)))]) (.seq (.seq (.ops [.i (.mv 6 (.const (vi 0)))]) (.block 0 (.loop (.seq (.ops [.i (.bin .lss 7 (.tmp 6) (.const (vi 8)))]) (.seq (.cond (.tmp 7) .skip (.exit 0)) (.seq (.block 1 (.seq
  (.ops [.i (.mv 8 (.tmp 6)), .i (.mv 5 (.tmp 8))]) (.ops [.i (.mv 9 (.tmp 0)), .i (.mv 10 (.tmp 1)), .i (.mv 11 (.tmp 5)), .i (.bin .mul 12 (.const (vi 8)) (.tmp 11)), .i (.bin .shr 13 (.tmp 10) (.tmp 12)), .i (.cvi .u8 14 (.tmp 13)), .i
  (.raw (.some 15) (.buildSlice 22 1 #[Prod.mk 0 (.tmp 14)]) 22), .i (.raw (.some 16) (.call (.mk (.builtin .append) #[.tmp 9, .tmp 15] #[22, 22])) 22), .i (.mv 0 (.tmp 16))]))) (.ops [.i (.bin .add 17 (.tmp 6) (.const (vi 1))), .i (.mv 6
  (.tmp 17))]))))))) (.seq (.ops [.i (.mv 18 (.tmp 0)), .i (.mv 4 (.tmp 18))]) .ret)), [.t 4]⟩
theorem c126 : cfn Go.Proofs.Try.prog Go.Proofs.Try.f126 = some x126 := by kernel_rfl
/-- `locket/aead.tag` -/
def x103 : XFn := ⟨38, .seq (.ops [.i (.mv 8 (.const (.slice .none 0 0))), .i (.mv 9 (.const (vi 0)))]) (.seq (.ops [.i (.mv 14 (.tmp 0)), .i (.mv 15 (.tmp 1)), .i (.call (.some 16) 123 [.tmp 14, .const (vi 0), .tmp 15]), .i (.mv 13
  (.tmp 16)), .i (.ext 17 (.tmp 13) 0), .i (.ext 18 (.tmp 13) 1), .i (.mv 10 (.tmp 17)), .i (.mv 11 (.tmp 18))]) (.seq (.seq (.ops [.i (.mv 19 (.tmp 11)), .i (.bin .neq 20 (.tmp 19) (.const (vi 0)))]) (.cond (.tmp 20) (.seq (.ops [.i (.mv
  21 (.tmp 11)), .i (.mv 8 (.const (.slice .none 0 0))), .i (.mv 9 (.tmp 21))]) .ret) .skip)) (.seq (.ops [.i (.mv 22 (.tmp 2)), .i (.call (.some 23) 124 [.const (.slice .none 0 0), .tmp 22]), .i (.mv 24 (.tmp 3)), .i
  (.call (.some 25) 124 [.tmp 23, .tmp 24]), .i (.mv 12 (.tmp 25))]) (.seq (.par (.take (.i (.mv 26 (.tmp 10))) (.take (.i (.sl 27 (.tmp 26) .none (.some (.const (vi 32))) .none 1)) (.take (.i (.mv 28 (.tmp 12))) (.take
  (.i (.mv 29 (.tmp 2))) (.take (.i (.len 30 (.tmp 29))) (.take (.i (.mv 32 (.tmp 3))) (.take (.i (.len 33 (.tmp 32))) (.step false (.i (.call (.some 31) 126 [.tmp 28, .tmp 30])) (.step false (.i (.call (.some 34)
  126 [.tmp 31, .tmp 33])) (.step false (.i (.call (.some 35) 125 [.tmp 27, .tmp 34])) (.take (.i (.ext 36 (.tmp 35) 0)) (.take (.i (.ext 37 (.tmp 35) 1)) (.take (.i (.mv 8 (.tmp 36))) (.take (.i (.mv 9
  (.tmp 37))) .done)))) .stop) .stop) .stop))))))))) .ret)))), [.t 8, .t 9]⟩
theorem c103 : cfn Go.Proofs.Try.prog Go.Proofs.Try.f103 = some x103 := by kernel_rfl
/-- `locket/aead.Seal` -/
def x51 : XFn := ⟨35, .seq (.ops [.i (.mv 8 (.const (.slice .none 0 0))), .i (.mv 9 (.const (vi 0)))]) (.seq (.ops [.i (.mv 15 (.tmp 0)), .i (.mv 16 (.tmp 1)), .i (.mv 17 (.tmp 3)), .i (.call (.some 18) 102 [.tmp 15, .const (vi 1), .tmp
  16, .tmp 17]), .i (.mv 14 (.tmp 18)), .i (.ext 19 (.tmp 14) 0), .i (.ext 20 (.tmp 14) 1), .i (.mv 10 (.tmp 19)), .i (.mv 11 (.tmp 20))]) (.seq (.seq (.ops [.i (.mv 21 (.tmp 11)), .i (.bin .neq 22 (.tmp 21) (.const (vi 0)))]) (.cond (.tmp
  22) (.seq (.ops [.i (.mv 23 (.tmp 11)), .i (.mv 8 (.const (.slice .none 0 0))), .i (.mv 9 (.tmp 23))]) .ret) .skip)) (.seq (.ops [.i (.mv 25 (.tmp 0)), .i (.mv 26 (.tmp 1)), .i (.mv 27 (.tmp 2)), .i (.mv 28 (.tmp 10)), .i (.call (.some
  29) 103 [.tmp 25, .tmp 26, .tmp 27, .tmp 28]), .i (.mv 24 (.tmp 29)), .i (.ext 30 (.tmp 24) 0), .i (.ext 31 (.tmp 24) 1), .i (.mv 12 (.tmp 30)), .i (.mv 13 (.tmp 31))]) (.seq (.ops [.i (.mv 32 (.tmp 10)), .i (.mv 33 (.tmp
  12)), .i (.raw (.some 34) (.call (.mk (.builtin .append) #[.tmp 32, .tmp 33] #[22, 22])) 22), .i (.mv 8 (.tmp 34)), .i (.mv 9 (.const (vi 0)))]) .ret)))), [.t 8, .t 9]⟩
theorem c51 : cfn Go.Proofs.Try.prog Go.Proofs.Try.f51 = some x51 := by kernel_rfl
/-- `locket/aead.Open` -/
def x62 : XFn := ⟨46, .seq (.ops [.i (.mv 8 (.const (.slice .none 0 0))), .i (.mv 9 (.const (vi 0)))]) (.seq (.ops [.i (.mv 13 (.tmp 3)), .i (.len 14 (.tmp 13)), .i (.bin .sub 15 (.tmp 14) (.const (vi 16))), .i (.raw (.some 16) (.call (.mk (.builtin .max)
  #[.tmp 15, .const (vi 0)] #[3, 3])) 3), .i (.mv 10 (.tmp 16))]) (.seq (.ops [.i (.mv 18 (.tmp 0)), .i (.mv 19 (.tmp 1)), .i (.mv 20 (.tmp 2)), .i (.mv 21 (.tmp 3)), .i (.mv 22 (.tmp 10)), .i (.sl 23 (.tmp 21) .none (.some (.tmp 22)) .none
  1), .i (.call (.some 24) 103 [.tmp 18, .tmp 19, .tmp 20, .tmp 23]), .i (.mv 17 (.tmp 24)), .i (.ext 25 (.tmp 17) 0), .i (.ext 26 (.tmp 17) 1), .i (.mv 11 (.tmp 25)), .i (.mv 12 (.tmp 26))]) (.seq (.block 0 (.seq (.ops [.i
  (.mv 28 (.tmp 12)), .i (.bin .neq 29 (.tmp 28) (.const (vi 0))), .i (.mv 27 (.tmp 29))]) (.cond (.tmp 27) (.seq (.ops [.i (.mv 30 (.tmp 12)), .i (.mv 8 (.const (.slice .none 0 0))), .i (.mv 9 (.tmp 30))]) .ret) (.seq (.ops [.i (.mv 32
  (.tmp 11)), .i (.mv 33 (.tmp 3)), .i (.mv 34 (.tmp 10)), .i (.sl 35 (.tmp 33) (.some (.tmp 34)) .none .none 1), .i (.call (.some 36) 93 [.tmp 32, .tmp 35]), .i (.un .not 37 (.tmp 36)), .i (.mv 31 (.tmp 37))]) (.cond
  (.tmp 31) (.seq (.ops [.i (.mv 8 (.const (.slice .none 0 0))), .i (.mv 9 (.const (vi 20)))]) .ret) .skip))))) (.seq (.ops [.i (.mv 38 (.tmp 0)), .i (.mv 39 (.tmp 1)), .i (.mv 40 (.tmp 3)), .i (.mv 41 (.tmp 10)), .i (.sl 42 (.tmp 40) .none
  (.some (.tmp 41)) .none 1), .i (.call (.some 43) 102 [.tmp 38, .const (vi 1), .tmp 39, .tmp 42]), .i (.ext 44 (.tmp 43) 0), .i (.ext 45 (.tmp 43) 1), .i (.mv 8 (.tmp 44)), .i (.mv 9 (.tmp 45))]) .ret)))), [.t 8, .t 9]⟩
theorem c62 : cfn Go.Proofs.Try.prog Go.Proofs.Try.f62 = some x62 := by kernel_rfl
end Go.Lk
