/-
  The program's functions, compiled: a table, whole. No condition.
-/
import Derived.Test.YtblohnpdcjgmcaaGreatDoorCode2
namespace Go.Proofs.YtblohnpdcjgmcaaGreatDoor.Clo
set_option linter.all false
set_option maxRecDepth 100000

def c311 : FE := .fn (.seq (.reg [.op (some (.d0,.d3)) (.box 292 2 true (.t .d0 .d1)),
 .op (some (.d0,.d4)) (.mv (.c (.i .i64 0)))]) (.seq (.seq (.reg [.op (some (.d0,.d5)) (.mv (.t .d0 .d0)),
 .op (some (.d0,.d6)) (.ld true 2 (.t .d0 .d3)),
 .op (some (.d0,.d7)) (.call ⟨.d1,.d1,.d6⟩ [(.t .d0 .d5), (.t .d0 .d6)]),
 .op (some (.d0,.d8)) (.not (.t .d0 .d7))]) (.cond (.t .d0 .d8)
 (.seq (.reg [.op (some (.d0,.d4)) (.mv (.c (.i .i64 7)))]) .ret)
 .skip)) (.seq (.reg [.op (some (.d0,.d9)) (.mv (.t .d0 .d0)),
 .op (some (.d0,.d10)) (.nil (.t .d0 .d9)),
 .op (some (.d0,.d11)) (.fa 0 (.t .d0 .d10)),
 .op (some (.d0,.d12)) (.ld false 1 (.t .d0 .d11)),
 .op (some (.d0,.d13)) (.fa 0 (.t .d0 .d3)),
 .op (some (.d0,.d14)) (.ld false 1 (.t .d0 .d13)),
 .op (some (.d0,.d15)) (.ias 2 (.t .d0 .d12) (.t .d0 .d14)),
 .op (some (.d1,.d0)) (.fa 1 (.t .d0 .d15)),
 .op (some (.d1,.d1)) (.ld false 1 (.t .d1 .d0)),
 .op (some (.d1,.d2)) (.ar .add (.t .d1 .d1) (.c (.i .i64 1))),
 .op (some (.d1,.d3)) (.ias 2 (.t .d0 .d12) (.t .d0 .d14)),
 .op (some (.d1,.d4)) (.fa 1 (.t .d1 .d3)),
 .op none (.st false 1 (.t .d1 .d4) (.t .d1 .d2))]) (.seq (.reg [.op (some (.d0,.d4)) (.mv (.c (.i .i64 0)))]) .ret)))) [.t .d0 .d4]
def c312 : FE := .fn (.seq (.reg [.op (some (.d0,.d2)) (.mv (.c (.i .u8 0)))]) (.seq (.reg [.op (some (.d0,.d3)) (.mv (.t .d0 .d0)),
 .op (some (.d0,.d4)) (.ar .or (.t .d0 .d3) (.c (.i .u8 32))),
 .op (some (.d0,.d2)) (.mv (.t .d0 .d4))]) .ret)) [.t .d0 .d2]
def c314 : FE := .fn (.seq (.reg [.op (some (.d0,.d2)) (.mv (.c (.i .i64 0))),
 .op (some (.d0,.d3)) (.mv (.c (.i .i64 0))),
 .op (some (.d0,.d4)) (.mv (.c (.i .i64 0)))]) (.seq (.reg [.op (some (.d0,.d8)) (.mv (.t .d0 .d0)),
 .op (some (.d0,.d9)) (.call ⟨.d0,.d11,.d5⟩ [(.t .d0 .d8)]),
 .op (some (.d0,.d7)) (.mv (.t .d0 .d9)),
 .op (some (.d0,.d10)) (.ext 0 (.t .d0 .d7)),
 .op (some (.d0,.d11)) (.ext 1 (.t .d0 .d7)),
 .op (some (.d0,.d5)) (.alloc 332 3 [(.i .i64 0), (.i .i64 0), (.i .i64 0)]),
 .op none (.st true 3 (.t .d0 .d5) (.t .d0 .d10)),
 .op (some (.d0,.d6)) (.mv (.t .d0 .d11))]) (.seq (.reg [.op (some (.d0,.d12)) (.fa 1 (.t .d0 .d5)),
 .op (some (.d0,.d13)) (.ld false 1 (.t .d0 .d12)),
 .op (some (.d0,.d14)) (.fa 2 (.t .d0 .d5)),
 .op (some (.d0,.d15)) (.ld false 1 (.t .d0 .d14)),
 .op (some (.d1,.d0)) (.mv (.t .d0 .d6)),
 .op (some (.d0,.d2)) (.mv (.t .d0 .d13)),
 .op (some (.d0,.d3)) (.mv (.t .d0 .d15)),
 .op (some (.d0,.d4)) (.mv (.t .d1 .d0))]) .ret))) [.t .d0 .d2, .t .d0 .d3, .t .d0 .d4]
def c315 : FE := .fn (.seq (.reg [.op (some (.d0,.d4)) (.ld false 1 (.t .d0 .d1)),
 .op (some (.d0,.d5)) (.len false (.t .d0 .d4)),
 .op (some (.d0,.d6)) (.ar .sub (.t .d0 .d5) (.c (.i .i64 1))),
 .op (some (.d0,.d3)) (.mv (.t .d0 .d6))]) (.block 0 (.loop (.seq (.seq (.reg [.op (some (.d0,.d7)) (.mv (.t .d0 .d3)),
 .op (some (.d0,.d8)) (.ar .ge (.t .d0 .d7) (.c (.i .i64 0)))]) (.cond (.t .d0 .d8)
 .skip
 (.exit 0))) (.seq (.block 1 (.seq (.reg [.op (some (.d0,.d11)) (.mv (.t .d0 .d0)),
 .op (some (.d0,.d12)) (.mv (.t .d0 .d3)),
 .op (some (.d0,.d13)) (.ld false 1 (.t .d0 .d1)),
 .op (some (.d0,.d14)) (.mv (.t .d0 .d3)),
 .op (some (.d0,.d15)) (.ias 7 (.t .d0 .d13) (.t .d0 .d14)),
 .op (some (.d1,.d0)) (.ld true 7 (.t .d0 .d15)),
 .op (some (.d1,.d1)) (.callv (.t .d0 .d11) [(.t .d0 .d12), (.t .d1 .d0)]),
 .op (some (.d1,.d2)) (.not (.t .d1 .d1))]) (.cond (.t .d1 .d2)
 .ret
 .skip))) (.reg [.op (some (.d0,.d9)) (.mv (.t .d0 .d3)),
 .op (some (.d0,.d10)) (.ar .sub (.t .d0 .d9) (.c (.i .i64 1))),
 .op (some (.d0,.d3)) (.mv (.t .d0 .d10))])))))) []
def c318 : FE := .fn (.seq (.reg [.op (some (.d0,.d1)) (.box 175 11 true (.t .d0 .d0)),
 .op (some (.d0,.d2)) (.mv (.c (.b false)))]) (.seq (.seq (.reg [.op (some (.d0,.d3)) (.fa 1 (.t .d0 .d1)),
 .op (some (.d0,.d4)) (.ld false 1 (.t .d0 .d3)),
 .op (some (.d0,.d5)) (.ar .lt (.t .d0 .d4) (.c (.i .i64 0))),
 .op (some (.d0,.d6)) (.mv (.t .d0 .d5)),
 .og (.d0,.d6) false (some (.d0,.d7)) (.fa 1 (.t .d0 .d1)),
 .og (.d0,.d6) false (some (.d0,.d8)) (.ld false 1 (.t .d0 .d7)),
 .og (.d0,.d6) false (some (.d0,.d9)) (.ar .gt (.t .d0 .d8) (.c (.i .i64 127))),
 .op (some (.d0,.d10)) (.pick (.t .d0 .d6) (.c (.b true)) (.t .d0 .d9)),
 .op (some (.d0,.d11)) (.mv (.t .d0 .d10)),
 .og (.d0,.d11) false (some (.d0,.d12)) (.ld true 11 (.t .d0 .d1)),
 .og (.d0,.d11) false (some (.d0,.d13)) (.call ⟨.d1,.d3,.d5⟩ [(.t .d0 .d12)]),
 .og (.d0,.d11) false (some (.d0,.d14)) (.call ⟨.d0,.d15,.d13⟩ [(.t .d0 .d13)]),
 .op (some (.d0,.d15)) (.pick (.t .d0 .d11) (.c (.b true)) (.t .d0 .d14)),
 .op (some (.d1,.d0)) (.mv (.t .d0 .d15)),
 .og (.d1,.d0) false (some (.d1,.d1)) (.fa 5 (.t .d0 .d1)),
 .og (.d1,.d0) false (some (.d1,.d2)) (.ld false 1 (.t .d1 .d1)),
 .og (.d1,.d0) false (some (.d1,.d3)) (.len false (.t .d1 .d2)),
 .og (.d1,.d0) false (some (.d1,.d4)) (.ar .gt (.t .d1 .d3) (.c (.i .i64 15))),
 .op (some (.d1,.d5)) (.pick (.t .d1 .d0) (.c (.b true)) (.t .d1 .d4)),
 .op (some (.d1,.d6)) (.mv (.t .d1 .d5)),
 .og (.d1,.d6) false (some (.d1,.d7)) (.fa 10 (.t .d0 .d1)),
 .og (.d1,.d6) false (some (.d1,.d8)) (.ld false 1 (.t .d1 .d7)),
 .og (.d1,.d6) false (some (.d1,.d9)) (.ar .lt (.t .d1 .d8) (.c (.i .i64 0))),
 .op (some (.d1,.d10)) (.pick (.t .d1 .d6) (.c (.b true)) (.t .d1 .d9)),
 .op (some (.d1,.d11)) (.mv (.t .d1 .d10)),
 .og (.d1,.d11) false (some (.d1,.d12)) (.fa 10 (.t .d0 .d1)),
 .og (.d1,.d11) false (some (.d1,.d13)) (.ld false 1 (.t .d1 .d12)),
 .og (.d1,.d11) false (some (.d1,.d14)) (.ar .gt (.t .d1 .d13) (.c (.i .i64 255))),
 .op (some (.d1,.d15)) (.pick (.t .d1 .d11) (.c (.b true)) (.t .d1 .d14))]) (.cond (.t .d1 .d15)
 (.seq (.reg [.op (some (.d0,.d2)) (.mv (.c (.b false)))]) .ret)
 .skip)) (.seq (.reg [.op (some (.d2,.d0)) (.fa 8 (.t .d0 .d1)),
 .op (some (.d2,.d1)) (.ld false 1 (.t .d2 .d0)),
 .op (some (.d2,.d2)) (.len false (.t .d2 .d1)),
 .op (some (.d2,.d3)) (.ar .rem (.t .d2 .d2) (.c (.i .i64 4))),
 .op (some (.d2,.d4)) (.ar .eq (.t .d2 .d3) (.c (.i .i64 0))),
 .op (some (.d2,.d5)) (.mv (.t .d2 .d4)),
 .og (.d2,.d5) true (some (.d2,.d6)) (.fa 6 (.t .d0 .d1)),
 .og (.d2,.d5) true (some (.d2,.d7)) (.ld false 1 (.t .d2 .d6)),
 .og (.d2,.d5) true (some (.d2,.d8)) (.mv (.t .d2 .d7)),
 .og (.d2,.d8) false (some (.d2,.d9)) (.fa 8 (.t .d0 .d1)),
 .og (.d2,.d8) false (some (.d2,.d10)) (.ld false 1 (.t .d2 .d9)),
 .og (.d2,.d8) false (some (.d2,.d11)) (.len false (.t .d2 .d10)),
 .og (.d2,.d8) false (some (.d2,.d12)) (.ar .eq (.t .d2 .d11) (.c (.i .i64 0))),
 .og (.d2,.d8) false (some (.d2,.d13)) (.mv (.t .d2 .d12)),
 .og (.d2,.d13) true (some (.d2,.d14)) (.fa 7 (.t .d0 .d1)),
 .og (.d2,.d13) true (some (.d2,.d15)) (.ld false 1 (.t .d2 .d14)),
 .og (.d2,.d13) true (some (.d3,.d0)) (.ar .eq (.t .d2 .d15) (.c (.i .u16 0))),
 .og (.d2,.d8) false (some (.d3,.d1)) (.pick (.t .d2 .d13) (.t .d3 .d0) (.c (.b false))),
 .og (.d2,.d5) true (some (.d3,.d2)) (.pick (.t .d2 .d8) (.c (.b true)) (.t .d3 .d1)),
 .op (some (.d3,.d3)) (.pick (.t .d2 .d5) (.t .d3 .d2) (.c (.b false))),
 .op (some (.d0,.d2)) (.mv (.t .d3 .d3))]) .ret))) [.t .d0 .d2]
def c342 : FE := .fn (.seq (.reg [.op (some (.d0,.d1)) (.box 183 1 true (.t .d0 .d0)),
 .op (some (.d0,.d2)) (.mv (.c (.i .i64 0)))]) (.seq (.reg [.op (some (.d0,.d2)) (.mv (.c (.i .i64 2)))]) .ret)) [.t .d0 .d2]
def noQ : QF := QF.all .no
def noQ2 : QF2 := QF2.all noQ
def tab : QF3 := ⟨⟨⟨.no, .no, .no, c3, c4, c5, c6, c7, c8, c9, c10, c11, c12, c13, c14, c15⟩, ⟨c16, c17, c18, c19, .no, c21, c22, c23, c24, c25, c26, c27, c28, c29, c30, c31⟩, ⟨c32, c33, c34, c35, c36, c37, c38, c39, c40, c41, c42, c43, c44, c45, c46, c47⟩, ⟨c48, c49, c50, c51, c52, c53, c54, c55, c56, c57, c58, c59, c60, c61, c62, c63⟩, ⟨c64, c65, c66, c67, c68, c69, c70, c71, c72, c73, c74, c75, c76, c77, c78, c79⟩, ⟨c80, c81, c82, c83, c84, c85, c86, c87, c88, c89, c90, c91, c92, c93, c94, c95⟩, ⟨c96, c97, c98, .no, c100, c101, c102, c103, c104, c105, c106, c107, c108, c109, c110, c111⟩, ⟨c112, c113, c114, c115, c116, c117, c118, c119, c120, .no, c122, c123, c124, c125, c126, c127⟩, ⟨c128, c129, .no, c131, c132, c133, .no, c135, c136, c137, c138, .no, .no, c141, c142, c143⟩, ⟨c144, c145, c146, c147, c148, c149, c150, c151, c152, c153, c154, c155, c156, c157, c158, c159⟩, ⟨c160, c161, c162, .no, .no, c165, c166, c167, c168, c169, c170, c171, c172, c173, c174, c175⟩, ⟨.no, .no, .no, c179, c180, c181, c182, c183, c184, c185, c186, c187, c188, c189, c190, .no⟩, ⟨.no, c193, c194, c195, c196, c197, c198, c199, c200, c201, c202, c203, c204, c205, c206, .no⟩, ⟨.no, c209, c210, .no, c212, c213, c214, c215, c216, c217, c218, c219, c220, c221, c222, c223⟩, ⟨c224, c225, c226, c227, c228, .no, c230, .no, c232, c233, .no, .no, .no, .no, c238, c239⟩, ⟨c240, c241, .no, .no, .no, .no, .no, .no, .no, c249, .no, c251, c252, c253, c254, c255⟩⟩,
 ⟨⟨c256, c257, c258, c259, c260, c261, c262, .no, c264, c265, c266, c267, c268, c269, .no, c271⟩, ⟨c272, c273, c274, c275, c276, c277, c278, c279, c280, c281, c282, c283, .no, c285, c286, .no⟩, ⟨.no, .no, .no, .no, .no, c293, c294, c295, c296, c297, .no, .no, c300, .no, c302, .no⟩, ⟨.no, .no, .no, c307, c308, c309, c310, c311, c312, .no, c314, c315, .no, .no, c318, .no⟩, noQ, ⟨.no, .no, .no, .no, .no, .no, c342, .no, .no, .no, .no, .no, .no, .no, .no, .no⟩, noQ, noQ, noQ, noQ, noQ, noQ, noQ, noQ, noQ, noQ⟩,
 noQ2,
 noQ2,
 noQ2,
 noQ2,
 noQ2,
 noQ2,
 noQ2,
 noQ2,
 noQ2,
 noQ2,
 noQ2,
 noQ2,
 noQ2,
 noQ2⟩

end Go.Proofs.YtblohnpdcjgmcaaGreatDoor.Clo
