/- The compact code of some functions of the program, each held against the loaded program by the kernel. No statement of the seat is proved in this text. -/
import Derived.Test.YtofoamkiidkbkaaVal
import Derived.Test.YtofoamkiidkbkaaProg
set_option linter.unusedSimpArgs false
set_option linter.unusedVariables false
set_option linter.unusedSectionVars false
set_option linter.unnecessarySimpa false
namespace Go.Lk
/-- `math/bits.RotateLeft32` -/
def x150 : XFn := ⟨17, .seq (.ops [.i (.mv 4 (.const (w32 0#32)))]) (.seq (.ops [.i (.mv 6 (.tmp 1)), .i (.cvi .u64 7 (.tmp 6)), .i (.bin .and 8 (.tmp 7) (.const (w64 31#64))), .i (.mv 5 (.tmp 8))]) (.seq (.ops [.i (.mv 9 (.tmp 0)), .i (.mv 10 (.tmp 5)), .i
  (.bin .shl 11 (.tmp 9) (.tmp 10)), .i (.mv 12 (.tmp 0)), .i (.mv 13 (.tmp 5)), .i (.bin .sub 14 (.const (w64 32#64)) (.tmp 13)), .i (.bin .shr 15 (.tmp 12) (.tmp 14)), .i (.bin .or 16 (.tmp 11) (.tmp 15)), .i (.mv 4 (.tmp 16))]) .ret)),
  [.t 4]⟩
theorem c150 : cfn Go.Proofs.Try.prog Go.Proofs.Try.f150 = some x150 := by kernel_rfl
/-- `locket/sha.right` -/
def x145 : XFn := ⟨9, .seq (.ops [.i (.mv 4 (.const (w32 0#32)))]) (.seq (.ops [.i (.mv 5 (.tmp 0)), .i (.mv 6 (.tmp 1)), .i (.un .neg 7 (.tmp 6)), .i (.call (.some 8) 150 [.tmp 5, .tmp 7]), .i (.mv 4 (.tmp 8))]) .ret), [.t 4]⟩
theorem c145 : cfn Go.Proofs.Try.prog Go.Proofs.Try.f145 = some x145 := by kernel_rfl
/-- `locket/sha.k` -/
def x146 : XFn := ⟨6, .seq (.ops [.i (.mv 2 (.const (w32 0#32)))]) (.seq (.ops [.i (.bld 3 [.const (w32 1116352408#32), .const (w32 1899447441#32), .const (w32 3049323471#32), .const (w32 3921009573#32), .const (w32 961987163#32), .const (w32 1508970993#32),
  .const (w32 2453635748#32), .const (w32 2870763221#32), .const (w32 3624381080#32), .const (w32 310598401#32), .const (w32 607225278#32), .const (w32 1426881987#32), .const (w32 1925078388#32), .const (w32 2162078206#32), .const (w32
  2614888103#32), .const (w32 3248222580#32), .const (w32 3835390401#32), .const (w32 4022224774#32), .const (w32 264347078#32), .const (w32 604807628#32), .const (w32 770255983#32), .const (w32 1249150122#32), .const (w32 1555081692#32),
  .const (w32 1996064986#32), .const (w32 2554220882#32), .const (w32 2821834349#32), .const (w32 2952996808#32), .const (w32 3210313671#32), .const (w32 3336571891#32), .const (w32 3584528711#32), .const (w32 113926993#32), .const (w32
  338241895#32), .const (w32 666307205#32), .const (w32 773529912#32), .const (w32 1294757372#32), .const (w32 1396182291#32), .const (w32 1695183700#32), .const (w32 1986661051#32), .const (w32 2177026350#32), .const (w32 2456956037#32),
  .const (w32 2730485921#32), .const (w32 2820302411#32), .const (w32 3259730800#32), .const (w32 3345764771#32), .const (w32 3516065817#32), .const (w32 3600352804#32), .const (w32 4094571909#32), .const (w32 275423344#32), .const (w32
  430227734#32), .const (w32 506948616#32), .const (w32 659060556#32), .const (w32 883997877#32), .const (w32 958139571#32), .const (w32 1322822218#32), .const (w32 1537002063#32), .const (w32 1747873779#32), .const (w32 1955562222#32),
  .const (w32 2024104815#32), .const (w32 2227730452#32), .const (w32 2361852424#32), .const (w32 2428436474#32), .const (w32 2756734187#32), .const (w32 3204031479#32), .const (w32 3329325298#32)]), .i (.mv 4 (.tmp 0)), .i (.idx 5 (.tmp 3)
  (.tmp 4) 64 1 false), .i (.mv 2 (.tmp 5))]) .ret), [.t 2]⟩
theorem c146 : cfn Go.Proofs.Try.prog Go.Proofs.Try.f146 = some x146 := by kernel_rfl
/-- `locket/sha.schedule` -/
def x144 : XFn := ⟨86, .seq (.ops [.i (.raw (.some 2) (.alloc 160) 0)]) (.seq (.ops [.i (.raw (.some 3) (.alloc 160) 0)]) (.seq (.seq (.ops [.i (.mv 7 (.const (vi 0)))]) (.block 0 (.loop (.seq (.ops [.i (.bin .lss 8 (.tmp 7) (.const (vi 64)))]) (.seq (.cond
  (.tmp 8) .skip (.exit 0)) (.seq (.block 1 (.seq (.ops [.i (.mv 9 (.tmp 7)), .i (.mv 4 (.tmp 9))]) (.seq (.seq (.ops [.i (.mv 10 (.tmp 4)), .i (.bin .lss 11 (.tmp 10) (.const (vi 16)))]) (.cond (.tmp 11) (.seq (.par (.take (.i (.mv 12
  (.tmp 4))) (.take (.i (.mv 13 (.tmp 0))) (.take (.i (.mv 14 (.tmp 4))) (.take (.i (.bin .mul 15 (.const (vi 4)) (.tmp 14))) (.take (.i (.ix 16 (.tmp 13) (.tmp 15) 1)) (.take (.i (.ld 17 (.tmp 16))) (.take (.i (.cvi .u32 18 (.tmp 17)))
  (.take (.i (.bin .shl 19 (.tmp 18) (.const (w64 24#64)))) (.take (.i (.mv 20 (.tmp 0))) (.take (.i (.mv 21 (.tmp 4))) (.take (.i (.bin .mul 22 (.const (vi 4)) (.tmp 21))) (.take (.i (.bin .add 23 (.tmp 22) (.const (vi 1)))) (.take (.i
  (.ix 24 (.tmp 20) (.tmp 23) 1)) (.take (.i (.ld 25 (.tmp 24))) (.take (.i (.cvi .u32 26 (.tmp 25))) (.take (.i (.bin .shl 27 (.tmp 26) (.const (w64 16#64)))) (.take (.i (.bin .or 28 (.tmp 19) (.tmp 27))) (.take (.i (.mv 29 (.tmp 0)))
  (.take (.i (.mv 30 (.tmp 4))) (.take (.i (.bin .mul 31 (.const (vi 4)) (.tmp 30))) (.take (.i (.bin .add 32 (.tmp 31) (.const (vi 2)))) (.take (.i (.ix 33 (.tmp 29) (.tmp 32) 1)) (.take (.i (.ld 34 (.tmp 33))) (.take (.i (.cvi .u32 35
  (.tmp 34))) (.take (.i (.bin .shl 36 (.tmp 35) (.const (w64 8#64)))) (.take (.i (.bin .or 37 (.tmp 28) (.tmp 36))) (.take (.i (.mv 38 (.tmp 0))) (.take (.i (.mv 39 (.tmp 4))) (.take (.i (.bin .mul 40 (.const (vi 4)) (.tmp 39))) (.take (.i
  (.bin .add 41 (.tmp 40) (.const (vi 3)))) (.take (.i (.ix 42 (.tmp 38) (.tmp 41) 1)) (.take (.i (.ld 43 (.tmp 42))) (.take (.i (.cvi .u32 44 (.tmp 43))) (.take (.i (.bin .or 45 (.tmp 37) (.tmp 44))) (.take (.i (.ixa 46 (.tmp 3) (.tmp 12)
  64 1)) (.step false (.i (.st (.tmp 46) (.tmp 45))) .done .stop))))))))))))))))))))))))))))))))))))) (.exit 1)) .skip)) (.seq (.par (.take (.i (.mv 47 (.tmp 4))) (.take (.i (.bin .sub 48 (.tmp 47) (.const (vi 15)))) (.take (.i (.ixa 49
  (.tmp 3) (.tmp 48) 64 1)) (.take (.i (.ld 50 (.tmp 49))) (.take (.i (.mv 51 (.tmp 4))) (.take (.i (.bin .sub 52 (.tmp 51) (.const (vi 2)))) (.take (.i (.ixa 53 (.tmp 3) (.tmp 52) 64 1)) (.take (.i (.ld 54 (.tmp 53))) (.take (.i (.mv 5
  (.tmp 50))) (.take (.i (.mv 6 (.tmp 54))) .done))))))))))) (.par (.take (.i (.mv 55 (.tmp 4))) (.take (.i (.mv 56 (.tmp 6))) (.take (.i (.mv 58 (.tmp 6))) (.take (.i (.mv 61 (.tmp 6))) (.take (.i (.bin .shr 62 (.tmp 61) (.const (w64
  10#64)))) (.take (.i (.mv 64 (.tmp 4))) (.take (.i (.bin .sub 65 (.tmp 64) (.const (vi 7)))) (.take (.i (.ixa 66 (.tmp 3) (.tmp 65) 64 1)) (.take (.i (.ld 67 (.tmp 66))) (.take (.i (.mv 69 (.tmp 5))) (.take (.i (.mv 71 (.tmp 5))) (.take
  (.i (.mv 74 (.tmp 5))) (.take (.i (.bin .shr 75 (.tmp 74) (.const (w64 3#64)))) (.take (.i (.mv 78 (.tmp 4))) (.take (.i (.bin .sub 79 (.tmp 78) (.const (vi 16)))) (.take (.i (.ixa 80 (.tmp 3) (.tmp 79) 64 1)) (.take (.i (.ld 81 (.tmp
  80))) (.step true (.i (.call (.some 57) 145 [.tmp 56, .const (vi 17)])) (.step true (.i (.call (.some 59) 145 [.tmp 58, .const (vi 19)])) (.take (.i (.bin .xor 60 (.tmp 57) (.tmp 59))) (.take (.i (.bin
  .xor 63 (.tmp 60) (.tmp 62))) (.take (.i (.bin .add 68 (.tmp 63) (.tmp 67))) (.step true (.i (.call (.some 70) 145 [.tmp 69, .const (vi 7)])) (.step true (.i (.call (.some 72) 145 [.tmp 71, .const (vi
  18)])) (.take (.i (.bin .xor 73 (.tmp 70) (.tmp 72))) (.take (.i (.bin .xor 76 (.tmp 73) (.tmp 75))) (.take (.i (.bin .add 77 (.tmp 68) (.tmp 76))) (.take (.i (.bin .add 82 (.tmp 77) (.tmp 81))) (.take (.i (.ixa 83 (.tmp 3) (.tmp 55) 64
  1)) (.step false (.i (.st (.tmp 83) (.tmp 82))) .done .stop)))))) .stop) .stop)))) .stop) .stop))))))))))))))))))))))) (.ops [.i (.bin .add 84 (.tmp 7) (.const (vi 1))), .i (.mv 7 (.tmp 84))]))))))) (.seq (.ops [.i (.lda 85 (.tmp 3) 64),
  .i (.sta (.tmp 2) (.tmp 85) 64)]) .ret))), [.ca 2 64]⟩
theorem c144 : cfn Go.Proofs.Try.prog Go.Proofs.Try.f144 = some x144 := by kernel_rfl
/-- `locket/sha.compress` -/
def x127 : XFn := ⟨115, .seq (.ops [.i (.box 2 143 (.tmp 0)), .i (.raw (.some 4) (.alloc 143) 0)]) (.scope1 (.seq (.par (.take (.i (.mv 12 (.tmp 1))) (.take (.i (.lda 14 (.tmp 2) 8)) (.step true (.i (.call (.some 13) 144 [.tmp 12]))
  (.step true (.i (.raw (.some 5) (.alloc 160) 0)) (.step true (.i (.raw (.some 6) (.alloc 143) 0)) (.step true (.i (.sta (.tmp 5) (.tmp 13) 64)) (.step false (.i (.sta (.tmp 6) (.tmp 14) 8)) (.take (.i (.mv 7 (.const (vi 0)))) .done)
  .stop) .stop) .stop) (.step true (.i (.raw (.some 6) (.alloc 143) 0)) (.step true (.i (.raw (.some 5) (.alloc 160) 0)) (.step true (.i (.sta (.tmp 5) (.tmp 13) 64)) (.step false (.i (.sta (.tmp 6) (.tmp 14) 8)) (.take (.i (.mv 7 (.const
  (vi 0)))) .done) .stop) .stop) .stop) .stop)) (.step true (.i (.raw (.some 5) (.alloc 160) 0)) (.step true (.i (.call (.some 13) 144 [.tmp 12])) (.step true (.i (.raw (.some 6) (.alloc 143) 0)) (.step true (.i (.sta
  (.tmp 5) (.tmp 13) 64)) (.step false (.i (.sta (.tmp 6) (.tmp 14) 8)) (.take (.i (.mv 7 (.const (vi 0)))) .done) .stop) .stop) .stop) (.step true (.i (.raw (.some 6) (.alloc 143) 0)) (.step true (.i (.call (.some 13)
  144 [.tmp 12])) (.step true (.i (.sta (.tmp 5) (.tmp 13) 64)) (.step false (.i (.sta (.tmp 6) (.tmp 14) 8)) (.take (.i (.mv 7 (.const (vi 0)))) .done) .stop) .stop) .stop) .stop)) (.step true (.i (.raw (.some 6)
  (.alloc 143) 0)) (.step true (.i (.call (.some 13) 144 [.tmp 12])) (.step true (.i (.raw (.some 5) (.alloc 160) 0)) (.step true (.i (.sta (.tmp 5) (.tmp 13) 64)) (.step false (.i (.sta (.tmp 6) (.tmp 14) 8)) (.take
  (.i (.mv 7 (.const (vi 0)))) .done) .stop) .stop) .stop) (.step true (.i (.raw (.some 5) (.alloc 160) 0)) (.step true (.i (.call (.some 13) 144 [.tmp 12])) (.step true (.i (.sta (.tmp 5) (.tmp 13) 64)) (.step false
  (.i (.sta (.tmp 6) (.tmp 14) 8)) (.take (.i (.mv 7 (.const (vi 0)))) .done) .stop) .stop) .stop) .stop)) .stop)))))) (.seq (.ops [.i (.mv 8 (.const (w32 0#32))), .i (.mv 9 (.const (w32 0#32)))]) (.seq (.label 0) (.seq (.par (.take (.i
  (.ixa 15 (.tmp 6) (.const (vi 7)) 8 1)) (.take (.i (.ld 16 (.tmp 15))) (.take (.i (.ixa 17 (.tmp 6) (.const (vi 4)) 8 1)) (.take (.i (.ld 18 (.tmp 17))) (.take (.i (.ixa 20 (.tmp 6) (.const (vi 4)) 8 1)) (.take (.i (.ld 21 (.tmp 20)))
  (.take (.i (.ixa 24 (.tmp 6) (.const (vi 4)) 8 1)) (.take (.i (.ld 25 (.tmp 24))) (.take (.i (.ixa 29 (.tmp 6) (.const (vi 4)) 8 1)) (.take (.i (.ld 30 (.tmp 29))) (.take (.i (.ixa 31 (.tmp 6) (.const (vi 5)) 8 1)) (.take (.i (.ld 32
  (.tmp 31))) (.take (.i (.bin .and 33 (.tmp 30) (.tmp 32))) (.take (.i (.ixa 34 (.tmp 6) (.const (vi 4)) 8 1)) (.take (.i (.ld 35 (.tmp 34))) (.take (.i (.un .xor 36 (.tmp 35))) (.take (.i (.ixa 37 (.tmp 6) (.const (vi 6)) 8 1)) (.take (.i
  (.ld 38 (.tmp 37))) (.take (.i (.bin .and 39 (.tmp 36) (.tmp 38))) (.take (.i (.bin .xor 40 (.tmp 33) (.tmp 39))) (.take (.i (.mv 42 (.tmp 7))) (.take (.i (.mv 45 (.tmp 7))) (.take (.i (.ixa 46 (.tmp 5) (.tmp 45) 64 1)) (.take (.i (.ld 47
  (.tmp 46))) (.step true (.i (.call (.some 19) 145 [.tmp 18, .const (vi 6)])) (.step true (.i (.call (.some 22) 145 [.tmp 21, .const (vi 11)])) (.take (.i (.bin .xor 23 (.tmp 19) (.tmp 22))) (.step true
  (.i (.call (.some 26) 145 [.tmp 25, .const (vi 25)])) (.take (.i (.bin .xor 27 (.tmp 23) (.tmp 26))) (.take (.i (.bin .add 28 (.tmp 16) (.tmp 27))) (.take (.i (.bin .add 41 (.tmp 28) (.tmp 40))) (.step true (.i (.call
  (.some 43) 146 [.tmp 42])) (.take (.i (.bin .add 44 (.tmp 41) (.tmp 43))) (.take (.i (.bin .add 48 (.tmp 44) (.tmp 47))) (.take (.i (.mv 8 (.tmp 48))) .done))) .stop)))) .stop)) .stop) .stop)))))))))))))))))))))))))) (.seq
  (.par (.take (.i (.ixa 49 (.tmp 6) (.const (vi 0)) 8 1)) (.take (.i (.ld 50 (.tmp 49))) (.take (.i (.ixa 52 (.tmp 6) (.const (vi 0)) 8 1)) (.take (.i (.ld 53 (.tmp 52))) (.take (.i (.ixa 56 (.tmp 6) (.const (vi 0)) 8 1)) (.take (.i (.ld
  57 (.tmp 56))) (.take (.i (.ixa 60 (.tmp 6) (.const (vi 0)) 8 1)) (.take (.i (.ld 61 (.tmp 60))) (.take (.i (.ixa 62 (.tmp 6) (.const (vi 1)) 8 1)) (.take (.i (.ld 63 (.tmp 62))) (.take (.i (.bin .and 64 (.tmp 61) (.tmp 63))) (.take (.i
  (.ixa 65 (.tmp 6) (.const (vi 0)) 8 1)) (.take (.i (.ld 66 (.tmp 65))) (.take (.i (.ixa 67 (.tmp 6) (.const (vi 2)) 8 1)) (.take (.i (.ld 68 (.tmp 67))) (.take (.i (.bin .and 69 (.tmp 66) (.tmp 68))) (.take (.i (.bin .xor 70 (.tmp 64)
  (.tmp 69))) (.take (.i (.ixa 71 (.tmp 6) (.const (vi 1)) 8 1)) (.take (.i (.ld 72 (.tmp 71))) (.take (.i (.ixa 73 (.tmp 6) (.const (vi 2)) 8 1)) (.take (.i (.ld 74 (.tmp 73))) (.take (.i (.bin .and 75 (.tmp 72) (.tmp 74))) (.take (.i
  (.bin .xor 76 (.tmp 70) (.tmp 75))) (.step true (.i (.call (.some 51) 145 [.tmp 50, .const (vi 2)])) (.step true (.i (.call (.some 54) 145 [.tmp 53, .const (vi 13)])) (.take (.i (.bin .xor 55 (.tmp 51)
  (.tmp 54))) (.step true (.i (.call (.some 58) 145 [.tmp 57, .const (vi 22)])) (.take (.i (.bin .xor 59 (.tmp 55) (.tmp 58))) (.take (.i (.bin .add 77 (.tmp 59) (.tmp 76))) (.take (.i (.mv 9 (.tmp 77))) .done))) .stop))
  .stop) .stop))))))))))))))))))))))))) (.seq (.ops [.i (.mv 78 (.tmp 8)), .i (.mv 79 (.tmp 9)), .i (.bin .add 80 (.tmp 78) (.tmp 79)), .i (.ixa 81 (.tmp 6) (.const (vi 0)) 8 1), .i (.ld 82 (.tmp 81)), .i (.ixa 83 (.tmp 6) (.const (vi 1)) 8
  1), .i (.ld 84 (.tmp 83)), .i (.ixa 85 (.tmp 6) (.const (vi 2)) 8 1), .i (.ld 86 (.tmp 85)), .i (.ixa 87 (.tmp 6) (.const (vi 3)) 8 1), .i (.ld 88 (.tmp 87)), .i (.mv 89 (.tmp 8)), .i (.bin .add 90 (.tmp 88) (.tmp 89)), .i (.ixa 91 (.tmp
  6) (.const (vi 4)) 8 1), .i (.ld 92 (.tmp 91)), .i (.ixa 93 (.tmp 6) (.const (vi 5)) 8 1), .i (.ld 94 (.tmp 93)), .i (.ixa 95 (.tmp 6) (.const (vi 6)) 8 1), .i (.ld 96 (.tmp 95)), .i (.bld 97 [.tmp 80, .tmp 82, .tmp 84, .tmp 86, .tmp 90,
  .tmp 92, .tmp 94, .tmp 96]), .i (.sta (.tmp 6) (.tmp 97) 8)]) (.seq (.seq (.ops [.i (.mv 98 (.tmp 7)), .i (.bin .add 99 (.tmp 98) (.const (vi 1))), .i (.mv 7 (.tmp 99))]) (.seq (.ops [.i (.mv 100 (.tmp 7)), .i (.bin .lss 101 (.tmp 100)
  (.const (vi 64)))]) (.cond (.tmp 101) (.goto 0) .skip))) (.seq (.seq (.ops [.i (.lda 102 (.tmp 2) 8), .i (.mv 103 (.const (vi 0)))]) (.block 0 (.loop (.seq (.ops [.i (.bin .lss 104 (.tmp 103) (.const (vi 8)))]) (.seq (.cond (.tmp 104)
  .skip (.exit 0)) (.seq (.block 1 (.seq (.ops [.i (.mv 105 (.tmp 103)), .i (.idx 106 (.tmp 102) (.tmp 103) 8 1 false), .i (.mv 10 (.tmp 105)), .i (.mv 11 (.tmp 106))]) (.ops [.i (.mv 107 (.tmp 10)), .i (.ixa 108 (.tmp 6) (.tmp 107) 8 1),
  .i (.ld 109 (.tmp 108)), .i (.mv 110 (.tmp 11)), .i (.bin .add 111 (.tmp 109) (.tmp 110)), .i (.ixa 112 (.tmp 6) (.tmp 107) 8 1), .i (.st (.tmp 112) (.tmp 111))]))) (.ops [.i (.bin .add 113 (.tmp 103) (.const (vi 1))), .i (.mv 103 (.tmp
  113))]))))))) (.seq (.ops [.i (.lda 114 (.tmp 6) 8), .i (.sta (.tmp 4) (.tmp 114) 8)]) .ret))))))))) 0 (.seq .skip (.seq (.par (.take (.i (.ixa 15 (.tmp 6) (.const (vi 7)) 8 1)) (.take (.i (.ld 16 (.tmp 15))) (.take (.i (.ixa 17 (.tmp 6)
  (.const (vi 4)) 8 1)) (.take (.i (.ld 18 (.tmp 17))) (.take (.i (.ixa 20 (.tmp 6) (.const (vi 4)) 8 1)) (.take (.i (.ld 21 (.tmp 20))) (.take (.i (.ixa 24 (.tmp 6) (.const (vi 4)) 8 1)) (.take (.i (.ld 25 (.tmp 24))) (.take (.i (.ixa 29
  (.tmp 6) (.const (vi 4)) 8 1)) (.take (.i (.ld 30 (.tmp 29))) (.take (.i (.ixa 31 (.tmp 6) (.const (vi 5)) 8 1)) (.take (.i (.ld 32 (.tmp 31))) (.take (.i (.bin .and 33 (.tmp 30) (.tmp 32))) (.take (.i (.ixa 34 (.tmp 6) (.const (vi 4)) 8
  1)) (.take (.i (.ld 35 (.tmp 34))) (.take (.i (.un .xor 36 (.tmp 35))) (.take (.i (.ixa 37 (.tmp 6) (.const (vi 6)) 8 1)) (.take (.i (.ld 38 (.tmp 37))) (.take (.i (.bin .and 39 (.tmp 36) (.tmp 38))) (.take (.i (.bin .xor 40 (.tmp 33)
  (.tmp 39))) (.take (.i (.mv 42 (.tmp 7))) (.take (.i (.mv 45 (.tmp 7))) (.take (.i (.ixa 46 (.tmp 5) (.tmp 45) 64 1)) (.take (.i (.ld 47 (.tmp 46))) (.step true (.i (.call (.some 19) 145 [.tmp 18, .const (vi 6)])) (.step
  true (.i (.call (.some 22) 145 [.tmp 21, .const (vi 11)])) (.take (.i (.bin .xor 23 (.tmp 19) (.tmp 22))) (.step true (.i (.call (.some 26) 145 [.tmp 25, .const (vi 25)])) (.take (.i (.bin .xor 27 (.tmp
  23) (.tmp 26))) (.take (.i (.bin .add 28 (.tmp 16) (.tmp 27))) (.take (.i (.bin .add 41 (.tmp 28) (.tmp 40))) (.step true (.i (.call (.some 43) 146 [.tmp 42])) (.take (.i (.bin .add 44 (.tmp 41) (.tmp 43))) (.take (.i (.bin
  .add 48 (.tmp 44) (.tmp 47))) (.take (.i (.mv 8 (.tmp 48))) .done))) .stop)))) .stop)) .stop) .stop)))))))))))))))))))))))))) (.seq (.par (.take (.i (.ixa 49 (.tmp 6) (.const (vi 0)) 8 1)) (.take (.i (.ld 50 (.tmp 49))) (.take (.i (.ixa
  52 (.tmp 6) (.const (vi 0)) 8 1)) (.take (.i (.ld 53 (.tmp 52))) (.take (.i (.ixa 56 (.tmp 6) (.const (vi 0)) 8 1)) (.take (.i (.ld 57 (.tmp 56))) (.take (.i (.ixa 60 (.tmp 6) (.const (vi 0)) 8 1)) (.take (.i (.ld 61 (.tmp 60))) (.take
  (.i (.ixa 62 (.tmp 6) (.const (vi 1)) 8 1)) (.take (.i (.ld 63 (.tmp 62))) (.take (.i (.bin .and 64 (.tmp 61) (.tmp 63))) (.take (.i (.ixa 65 (.tmp 6) (.const (vi 0)) 8 1)) (.take (.i (.ld 66 (.tmp 65))) (.take (.i (.ixa 67 (.tmp 6)
  (.const (vi 2)) 8 1)) (.take (.i (.ld 68 (.tmp 67))) (.take (.i (.bin .and 69 (.tmp 66) (.tmp 68))) (.take (.i (.bin .xor 70 (.tmp 64) (.tmp 69))) (.take (.i (.ixa 71 (.tmp 6) (.const (vi 1)) 8 1)) (.take (.i (.ld 72 (.tmp 71))) (.take
  (.i (.ixa 73 (.tmp 6) (.const (vi 2)) 8 1)) (.take (.i (.ld 74 (.tmp 73))) (.take (.i (.bin .and 75 (.tmp 72) (.tmp 74))) (.take (.i (.bin .xor 76 (.tmp 70) (.tmp 75))) (.step true (.i (.call (.some 51) 145 [.tmp 50,
  .const (vi 2)])) (.step true (.i (.call (.some 54) 145 [.tmp 53, .const (vi 13)])) (.take (.i (.bin .xor 55 (.tmp 51) (.tmp 54))) (.step true (.i (.call (.some 58) 145 [.tmp 57, .const (vi 22)])) (.take
  (.i (.bin .xor 59 (.tmp 55) (.tmp 58))) (.take (.i (.bin .add 77 (.tmp 59) (.tmp 76))) (.take (.i (.mv 9 (.tmp 77))) .done))) .stop)) .stop) .stop))))))))))))))))))))))))) (.seq (.ops [.i (.mv 78 (.tmp 8)), .i (.mv 79 (.tmp 9)), .i (.bin
  .add 80 (.tmp 78) (.tmp 79)), .i (.ixa 81 (.tmp 6) (.const (vi 0)) 8 1), .i (.ld 82 (.tmp 81)), .i (.ixa 83 (.tmp 6) (.const (vi 1)) 8 1), .i (.ld 84 (.tmp 83)), .i (.ixa 85 (.tmp 6) (.const (vi 2)) 8 1), .i (.ld 86 (.tmp 85)), .i (.ixa
  87 (.tmp 6) (.const (vi 3)) 8 1), .i (.ld 88 (.tmp 87)), .i (.mv 89 (.tmp 8)), .i (.bin .add 90 (.tmp 88) (.tmp 89)), .i (.ixa 91 (.tmp 6) (.const (vi 4)) 8 1), .i (.ld 92 (.tmp 91)), .i (.ixa 93 (.tmp 6) (.const (vi 5)) 8 1), .i (.ld 94
  (.tmp 93)), .i (.ixa 95 (.tmp 6) (.const (vi 6)) 8 1), .i (.ld 96 (.tmp 95)), .i (.bld 97 [.tmp 80, .tmp 82, .tmp 84, .tmp 86, .tmp 90, .tmp 92, .tmp 94, .tmp 96]), .i (.sta (.tmp 6) (.tmp 97) 8)]) (.seq (.seq (.ops [.i (.mv 98 (.tmp 7)),
  .i (.bin .add 99 (.tmp 98) (.const (vi 1))), .i (.mv 7 (.tmp 99))]) (.seq (.ops [.i (.mv 100 (.tmp 7)), .i (.bin .lss 101 (.tmp 100) (.const (vi 64)))]) (.cond (.tmp 101) (.goto 0) .skip))) (.seq (.seq (.ops [.i (.lda 102 (.tmp 2) 8), .i
  (.mv 103 (.const (vi 0)))]) (.block 0 (.loop (.seq (.ops [.i (.bin .lss 104 (.tmp 103) (.const (vi 8)))]) (.seq (.cond (.tmp 104) .skip (.exit 0)) (.seq (.block 1 (.seq (.ops [.i (.mv 105 (.tmp 103)), .i (.idx 106 (.tmp 102) (.tmp 103) 8
  1 false), .i (.mv 10 (.tmp 105)), .i (.mv 11 (.tmp 106))]) (.ops [.i (.mv 107 (.tmp 10)), .i (.ixa 108 (.tmp 6) (.tmp 107) 8 1), .i (.ld 109 (.tmp 108)), .i (.mv 110 (.tmp 11)), .i (.bin .add 111 (.tmp 109) (.tmp 110)), .i (.ixa 112 (.tmp
  6) (.tmp 107) 8 1), .i (.st (.tmp 112) (.tmp 111))]))) (.ops [.i (.bin .add 113 (.tmp 103) (.const (vi 1))), .i (.mv 103 (.tmp 113))]))))))) (.seq (.ops [.i (.lda 114 (.tmp 6) 8), .i (.sta (.tmp 4) (.tmp 114) 8)]) .ret)))))))), [.ca 4 8]⟩
theorem c127 : cfn Go.Proofs.Try.prog Go.Proofs.Try.f127 = some x127 := by kernel_rfl
/-- `locket/sha.New` -/
def x104 : XFn := ⟨4, .seq (.ops [.i (.mv 0 (.const (.pointer .none)))]) (.seq (.ops [.i (.bld 1 [.const (w32 1779033703#32), .const (w32 3144134277#32), .const (w32 1013904242#32), .const (w32 2773480762#32), .const (w32 1359893119#32), .const (w32
  2600822924#32), .const (w32 528734635#32), .const (w32 1541459225#32)]), .i (.raw (.some 2) (.build 145 #[Prod.mk 0 (.tmp 1)]) 145), .i (.box 3 145 (.tmp 2)), .i (.mv 0 (.tmp 3))]) .ret), [.t 0]⟩
theorem c104 : cfn Go.Proofs.Try.prog Go.Proofs.Try.f104 = some x104 := by kernel_rfl
/-- `(*locket/sha.Hash).Write` -/
def x105 : XFn := ⟨48, .seq (.ops [.i (.mv 4 (.tmp 0)), .i (.nc 5 (.tmp 4)), .i (.fa 6 (.tmp 5) 9), .i (.ld 7 (.tmp 6)), .i (.mv 8 (.tmp 1)), .i (.len 9 (.tmp 8)), .i (.bin .add 10 (.tmp 7) (.tmp 9)), .i (.nc 11 (.tmp 4)), .i (.fa 12 (.tmp 11) 9), .i (.st
  (.tmp 12) (.tmp 10))]) (.seq (.ops [.i (.mv 13 (.tmp 0)), .i (.mv 14 (.tmp 0)), .i (.nc 15 (.tmp 14)), .i (.fa 16 (.tmp 15) 8), .i (.ld 17 (.tmp 16)), .i (.mv 18 (.tmp 1)), .i (.raw (.some 19) (.call (.mk (.builtin .append) #[.tmp 17,
  .tmp 18] #[22, 22])) 22), .i (.nc 20 (.tmp 13)), .i (.fa 21 (.tmp 20) 8), .i (.st (.tmp 21) (.tmp 19))]) (.block 0 (.loop (.seq (.seq (.ops [.i (.mv 22 (.tmp 0)), .i (.nc 23 (.tmp 22)), .i (.fa 24 (.tmp 23) 8), .i (.ld 25 (.tmp 24)), .i
  (.len 26 (.tmp 25)), .i (.bin .geq 27 (.tmp 26) (.const (vi 64)))]) (.cond (.tmp 27) .skip (.exit 0))) (.block 1 (.seq (.par (.take (.i (.mv 28 (.tmp 0))) (.take (.i (.mv 29 (.tmp 0))) (.take (.i (.nc 30 (.tmp 29))) (.take (.i (.fa 31
  (.tmp 30) 0)) (.take (.i (.lda 32 (.tmp 31) 8)) (.take (.i (.mv 33 (.tmp 0))) (.take (.i (.nc 34 (.tmp 33))) (.take (.i (.fa 35 (.tmp 34) 8)) (.take (.i (.ld 36 (.tmp 35))) (.step false (.i (.call (.some 37) 127 [.tmp
  32, .tmp 36])) (.take (.i (.nc 38 (.tmp 28))) (.take (.i (.fa 39 (.tmp 38) 0)) (.step false (.i (.sta (.tmp 39) (.tmp 37) 8)) .done .stop))) .stop))))))))))) (.ops [.i (.mv 40 (.tmp 0)), .i (.mv 41 (.tmp 0)), .i (.nc 42 (.tmp 41)), .i
  (.fa 43 (.tmp 42) 8), .i (.ld 44 (.tmp 43)), .i (.sl 45 (.tmp 44) (.some (.const (vi 64))) .none .none 1), .i (.nc 46 (.tmp 40)), .i (.fa 47 (.tmp 46) 8), .i (.st (.tmp 47) (.tmp 45))]))))))), []⟩
theorem c105 : cfn Go.Proofs.Try.prog Go.Proofs.Try.f105 = some x105 := by kernel_rfl
/-- `(*locket/sha.Hash).Sum` -/
def x107 : XFn := ⟨71, .seq (.ops [.i (.mv 2 (.const (.slice .none 0 0)))]) (.seq (.ops [.i (.raw (.some 9) (.buildSlice 22 0 #[]) 22), .i (.mv 10 (.tmp 0)), .i (.nc 11 (.tmp 10)), .i (.fa 12 (.tmp 11) 8), .i (.ld 13 (.tmp 12)), .i (.raw (.some 14) (.call
  (.mk (.builtin .append) #[.tmp 9, .tmp 13] #[22, 22])) 22), .i (.raw (.some 15) (.buildSlice 22 1 #[Prod.mk 0 (.const (w8 128))]) 22), .i (.raw (.some 16) (.call (.mk (.builtin .append) #[.tmp 14, .tmp 15] #[22, 22])) 22), .i (.mv 3 (.tmp
  16))]) (.seq (.block 0 (.loop (.seq (.seq (.ops [.i (.mv 17 (.tmp 3)), .i (.len 18 (.tmp 17)), .i (.bin .rem 19 (.tmp 18) (.const (vi 64))), .i (.bin .neq 20 (.tmp 19) (.const (vi 56)))]) (.cond (.tmp 20) .skip (.exit 0))) (.block 1 (.ops
  [.i (.mv 21 (.tmp 3)), .i (.raw (.some 22) (.buildSlice 22 1 #[Prod.mk 0 (.const (w8 0))]) 22), .i (.raw (.some 23) (.call (.mk (.builtin .append) #[.tmp 21, .tmp 22] #[22, 22])) 22), .i (.mv 3 (.tmp 23))]))))) (.seq (.seq (.ops [.i (.mv
  4 (.const (vi 56)))]) (.block 2 (.loop (.seq (.seq (.ops [.i (.mv 24 (.tmp 4)), .i (.bin .geq 25 (.tmp 24) (.const (vi 0)))]) (.cond (.tmp 25) .skip (.exit 2))) (.seq (.block 3 (.ops [.i (.mv 28 (.tmp 3)), .i (.mv 29 (.tmp 0)), .i (.nc 30
  (.tmp 29)), .i (.fa 31 (.tmp 30) 9), .i (.ld 32 (.tmp 31)), .i (.bin .mul 33 (.tmp 32) (.const (vi 8))), .i (.mv 34 (.tmp 4)), .i (.bin .shr 35 (.tmp 33) (.tmp 34)), .i (.cvi .u8 36 (.tmp 35)), .i (.raw (.some 37) (.buildSlice 22 1
  #[Prod.mk 0 (.tmp 36)]) 22), .i (.raw (.some 38) (.call (.mk (.builtin .append) #[.tmp 28, .tmp 37] #[22, 22])) 22), .i (.mv 3 (.tmp 38))])) (.ops [.i (.mv 26 (.tmp 4)), .i (.bin .sub 27 (.tmp 26) (.const (vi 8))), .i (.mv 4 (.tmp
  27))])))))) (.seq (.ops [.i (.mv 39 (.tmp 0)), .i (.nc 40 (.tmp 39)), .i (.fa 41 (.tmp 40) 0), .i (.lda 42 (.tmp 41) 8), .i (.raw (.some 5) (.alloc 143) 0), .i (.sta (.tmp 5) (.tmp 42) 8)]) (.seq (.block 4 (.loop (.seq (.seq (.ops [.i
  (.mv 43 (.tmp 3)), .i (.len 44 (.tmp 43)), .i (.bin .gtr 45 (.tmp 44) (.const (vi 0)))]) (.cond (.tmp 45) .skip (.exit 4))) (.seq (.block 5 (.ops [.i (.lda 48 (.tmp 5) 8), .i (.mv 49 (.tmp 3)), .i (.call (.some 50)
  127 [.tmp 48, .tmp 49]), .i (.sta (.tmp 5) (.tmp 50) 8)])) (.ops [.i (.mv 46 (.tmp 3)), .i (.sl 47 (.tmp 46) (.some (.const (vi 64))) .none .none 1), .i (.mv 3 (.tmp 47))]))))) (.seq (.ops [.i (.mv 6 (.const (.slice
  .none 0 0)))]) (.seq (.seq (.ops [.i (.lda 51 (.tmp 5) 8), .i (.mv 52 (.const (vi 0)))]) (.block 6 (.loop (.seq (.ops [.i (.bin .lss 53 (.tmp 52) (.const (vi 8)))]) (.seq (.cond (.tmp 53) .skip (.exit 6)) (.seq (.block 7 (.seq (.ops [.i
  (.idx 54 (.tmp 51) (.tmp 52) 8 1 false), .i (.mv 8 (.tmp 54))]) (.ops [.i (.mv 55 (.tmp 6)), .i (.mv 56 (.tmp 8)), .i (.bin .shr 57 (.tmp 56) (.const (w64 24#64))), .i (.cvi .u8 58 (.tmp 57)), .i (.mv 59 (.tmp 8)), .i (.bin .shr 60 (.tmp
  59) (.const (w64 16#64))), .i (.cvi .u8 61 (.tmp 60)), .i (.mv 62 (.tmp 8)), .i (.bin .shr 63 (.tmp 62) (.const (w64 8#64))), .i (.cvi .u8 64 (.tmp 63)), .i (.mv 65 (.tmp 8)), .i (.cvi .u8 66 (.tmp 65)), .i (.raw (.some 67) (.buildSlice
  22 4 #[Prod.mk 0 (.tmp 58), Prod.mk 1 (.tmp 61), Prod.mk 2 (.tmp 64), Prod.mk 3 (.tmp 66)]) 22), .i (.raw (.some 68) (.call (.mk (.builtin .append) #[.tmp 55, .tmp 67] #[22, 22])) 22), .i (.mv 6 (.tmp 68))]))) (.ops [.i (.bin .add 69
  (.tmp 52) (.const (vi 1))), .i (.mv 52 (.tmp 69))]))))))) (.seq (.ops [.i (.mv 70 (.tmp 6)), .i (.mv 2 (.tmp 70))]) .ret)))))))), [.t 2]⟩
theorem c107 : cfn Go.Proofs.Try.prog Go.Proofs.Try.f107 = some x107 := by kernel_rfl
/-- `locket/sha.Sum` -/
def x58 : XFn := ⟨19, .seq (.ops [.i (.mv 2 (.const (.slice .none 0 0)))]) (.seq (.ops [.i (.call (.some 6) 104 []), .i (.mv 3 (.tmp 6))]) (.seq (.seq (.ops [.i (.mv 7 (.tmp 0)), .i (.len 8 (.tmp 7)), .i (.mv 9 (.const (vi 0)))]) (.block 0
  (.loop (.seq (.ops [.i (.bin .lss 10 (.tmp 9) (.tmp 8))]) (.seq (.cond (.tmp 10) .skip (.exit 0)) (.seq (.block 1 (.seq (.ops [.i (.ix 11 (.tmp 7) (.tmp 9) 1), .i (.ld 12 (.tmp 11)), .i (.mv 5 (.tmp 12))]) (.ops [.i (.mv 13 (.tmp 3)), .i
  (.mv 14 (.tmp 5)), .i (.call (.some 15) 105 [.tmp 13, .tmp 14])]))) (.ops [.i (.bin .add 16 (.tmp 9) (.const (vi 1))), .i (.mv 9 (.tmp 16))]))))))) (.seq (.ops [.i (.mv 17 (.tmp 3)), .i (.call (.some 18)
  107 [.tmp 17]), .i (.mv 2 (.tmp 18))]) .ret))), [.t 2]⟩
theorem c58 : cfn Go.Proofs.Try.prog Go.Proofs.Try.f58 = some x58 := by kernel_rfl
/-- `locket/mac.pad` -/
def x106 : XFn := ⟨31, .seq (.ops [.i (.mv 4 (.const (.slice .none 0 0)))]) (.seq (.seq (.ops [.i (.mv 7 (.tmp 0)), .i (.len 8 (.tmp 7)), .i (.bin .gtr 9 (.tmp 8) (.const (vi 64)))]) (.cond (.tmp 9) (.ops [.i (.mv 10 (.tmp 0)), .i (.raw (.some 11)
  (.buildSlice 84 1 #[Prod.mk 0 (.tmp 10)]) 84), .i (.call (.some 12) 58 [.tmp 11]), .i (.mv 0 (.tmp 12))]) .skip)) (.seq (.ops [.i (.raw (.some 13) (.makeSlice 22 (.const (vi 64)) (.const (vi 64))) 22), .i (.mv 5 (.tmp
  13))]) (.seq (.ops [.i (.mv 14 (.tmp 5)), .i (.mv 15 (.tmp 0)), .i (.raw (.some 16) (.call (.mk (.builtin .copy) #[.tmp 14, .tmp 15] #[22, 22])) 3)]) (.seq (.seq (.ops [.i (.mv 17 (.tmp 5)), .i (.len 18 (.tmp 17)), .i (.mv 19 (.const (vi
  0)))]) (.block 0 (.loop (.seq (.ops [.i (.bin .lss 20 (.tmp 19) (.tmp 18))]) (.seq (.cond (.tmp 20) .skip (.exit 0)) (.seq (.block 1 (.seq (.ops [.i (.mv 21 (.tmp 19)), .i (.mv 6 (.tmp 21))]) (.ops [.i (.mv 22 (.tmp 5)), .i (.mv 23 (.tmp
  6)), .i (.ix 24 (.tmp 22) (.tmp 23) 1), .i (.ld 25 (.tmp 24)), .i (.mv 26 (.tmp 1)), .i (.bin .xor 27 (.tmp 25) (.tmp 26)), .i (.ix 28 (.tmp 22) (.tmp 23) 1), .i (.st (.tmp 28) (.tmp 27))]))) (.ops [.i (.bin .add 29 (.tmp 19) (.const (vi
  1))), .i (.mv 19 (.tmp 29))]))))))) (.seq (.ops [.i (.mv 30 (.tmp 5)), .i (.mv 4 (.tmp 30))]) .ret))))), [.t 4]⟩
theorem c106 : cfn Go.Proofs.Try.prog Go.Proofs.Try.f106 = some x106 := by kernel_rfl
/-- `locket/mac.Code` -/
def x55 : XFn := ⟨29, .seq (.ops [.i (.mv 4 (.const (.slice .none 0 0)))]) (.seq (.ops [.i (.call (.some 8) 104 []), .i (.mv 5 (.tmp 8))]) (.seq (.ops [.i (.mv 9 (.tmp 5)), .i (.mv 10 (.tmp 0)), .i (.call (.some 11) 106 [.tmp
  10, .const (w8 54)]), .i (.call (.some 12) 105 [.tmp 9, .tmp 11])]) (.seq (.seq (.ops [.i (.mv 13 (.tmp 1)), .i (.len 14 (.tmp 13)), .i (.mv 15 (.const (vi 0)))]) (.block 0 (.loop (.seq (.ops [.i (.bin .lss 16
  (.tmp 15) (.tmp 14))]) (.seq (.cond (.tmp 16) .skip (.exit 0)) (.seq (.block 1 (.seq (.ops [.i (.ix 17 (.tmp 13) (.tmp 15) 1), .i (.ld 18 (.tmp 17)), .i (.mv 7 (.tmp 18))]) (.ops [.i (.mv 19 (.tmp 5)), .i (.mv 20 (.tmp 7)), .i (.call
  (.some 21) 105 [.tmp 19, .tmp 20])]))) (.ops [.i (.bin .add 22 (.tmp 15) (.const (vi 1))), .i (.mv 15 (.tmp 22))]))))))) (.seq (.ops [.i (.mv 23 (.tmp 0)), .i (.call (.some 24) 106 [.tmp 23,
  .const (w8 92)]), .i (.mv 25 (.tmp 5)), .i (.call (.some 26) 107 [.tmp 25]), .i (.raw (.some 27) (.buildSlice 84 2 #[Prod.mk 0 (.tmp 24), Prod.mk 1 (.tmp 26)]) 84), .i (.call (.some 28) 58 [.tmp
  27]), .i (.mv 4 (.tmp 28))]) .ret)))), [.t 4]⟩
theorem c55 : cfn Go.Proofs.Try.prog Go.Proofs.Try.f55 = some x55 := by kernel_rfl
/-- `locket/mac.Equal` -/
def x93 : XFn := ⟨31, .seq (.ops [.i (.mv 4 (.const (.bool false)))]) (.seq (.seq (.ops [.i (.mv 7 (.tmp 0)), .i (.len 8 (.tmp 7)), .i (.mv 9 (.tmp 1)), .i (.len 10 (.tmp 9)), .i (.bin .neq 11 (.tmp 8) (.tmp 10))]) (.cond (.tmp 11) (.seq (.ops [.i (.mv 4
  (.const (.bool false)))]) .ret) .skip)) (.seq (.ops [.i (.mv 5 (.const (w8 0)))]) (.seq (.seq (.ops [.i (.mv 12 (.tmp 0)), .i (.len 13 (.tmp 12)), .i (.mv 14 (.const (vi 0)))]) (.block 0 (.loop (.seq (.ops [.i (.bin .lss 15 (.tmp 14)
  (.tmp 13))]) (.seq (.cond (.tmp 15) .skip (.exit 0)) (.seq (.block 1 (.seq (.ops [.i (.mv 16 (.tmp 14)), .i (.mv 6 (.tmp 16))]) (.par (.take (.i (.mv 17 (.tmp 5))) (.take (.i (.mv 18 (.tmp 0))) (.take (.i (.mv 19 (.tmp 6))) (.take (.i
  (.ix 20 (.tmp 18) (.tmp 19) 1)) (.take (.i (.ld 21 (.tmp 20))) (.take (.i (.mv 22 (.tmp 1))) (.take (.i (.mv 23 (.tmp 6))) (.take (.i (.ix 24 (.tmp 22) (.tmp 23) 1)) (.take (.i (.ld 25 (.tmp 24))) (.take (.i (.bin .xor 26 (.tmp 21) (.tmp
  25))) (.take (.i (.bin .or 27 (.tmp 17) (.tmp 26))) (.take (.i (.mv 5 (.tmp 27))) .done))))))))))))))) (.ops [.i (.bin .add 28 (.tmp 14) (.const (vi 1))), .i (.mv 14 (.tmp 28))]))))))) (.seq (.ops [.i (.mv 29 (.tmp 5)), .i (.bin .eql 30
  (.tmp 29) (.const (w8 0))), .i (.mv 4 (.tmp 30))]) .ret)))), [.t 4]⟩
theorem c93 : cfn Go.Proofs.Try.prog Go.Proofs.Try.f93 = some x93 := by kernel_rfl
end Go.Lk
