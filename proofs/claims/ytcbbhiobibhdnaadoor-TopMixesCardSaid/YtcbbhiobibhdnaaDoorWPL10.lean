/- By an AI agent. No person has read it. -/
import Derived.Test.YtcbbhiobibhdnaaDoorWPL10a
import Derived.Ground.NamesProg
import Derived.Shelf.Strings.SlTrimAscii
namespace Go.Proofs
open Go.Shelf
end Go.Proofs
namespace Go.Proofs.YtcbbhiobibhdnaaDoor
open Go.RowKit Go.Proofs
noncomputable section
end
abbrev C_r : TC := (TC.pair (TC.int IntKind.i64) (TC.int IntKind.i64))
abbrev C_3 : TC := (TC.pair (TC.int IntKind.i64) (TC.pair (TC.int IntKind.i64) (TC.int IntKind.i64)))
abbrev C_7 : TC := (TC.pair (TC.int IntKind.i64) (TC.pair (TC.int IntKind.i64) (TC.pair (TC.int IntKind.i64) (TC.pair (TC.int IntKind.i64) (TC.pair (TC.int IntKind.i64) (TC.pair (TC.int IntKind.i64) (TC.int IntKind.i64)))))))
abbrev C_b : TC := (TC.pair (TC.pair (TC.int IntKind.i64) (TC.int IntKind.i64)) (TC.pair (TC.pair (TC.int IntKind.i64) (TC.int IntKind.i64)) (TC.pair (TC.int IntKind.i64) (TC.int IntKind.i64))))
abbrev xAM : TC := (TC.pair (TC.int IntKind.i64) (TC.pair (TC.pair (TC.int IntKind.i64) (TC.int IntKind.i64)) (TC.pair (TC.pair (TC.int IntKind.i64) (TC.int IntKind.i64)) (TC.pair (TC.int IntKind.i64) (TC.int IntKind.i64)))))
abbrev xAi : TC := (TC.pair (TC.int IntKind.u8) (TC.pair (TC.int IntKind.i64) (TC.pair (TC.pair (TC.int IntKind.i64) (TC.int IntKind.i64)) (TC.pair (TC.pair (TC.int IntKind.i64) (TC.int IntKind.i64)) (TC.pair (TC.int IntKind.i64) (TC.int IntKind.i64))))))
abbrev C_sp : TC := (TC.pair (TC.pair (TC.pair (TC.int IntKind.i64) (TC.int IntKind.i64)) (TC.pair (TC.pair (TC.int IntKind.i64) (TC.int IntKind.i64)) (TC.pair (TC.pair (TC.int IntKind.i64) (TC.int IntKind.i64)) (TC.pair (TC.pair (TC.int IntKind.i64) (TC.int IntKind.i64)) (TC.pair (TC.pair (TC.int IntKind.i64) (TC.int IntKind.i64)) (TC.pair (TC.int IntKind.i64) (TC.int IntKind.i64))))))) (TC.int IntKind.u8))
abbrev C_wf : TC := (TC.pair (TC.pair (TC.pair (TC.int IntKind.i64) (TC.int IntKind.i64)) (TC.pair (TC.pair (TC.int IntKind.i64) (TC.int IntKind.i64)) (TC.pair (TC.pair (TC.int IntKind.i64) (TC.int IntKind.i64)) (TC.pair (TC.pair (TC.int IntKind.i64) (TC.int IntKind.i64)) (TC.pair (TC.pair (TC.int IntKind.i64) (TC.int IntKind.i64)) (TC.pair (TC.int IntKind.i64) (TC.int IntKind.i64))))))) (TC.pair (TC.int IntKind.u8) (TC.pair TC.str (TC.pair TC.str (TC.pair TC.str (TC.pair TC.str (TC.pair TC.str TC.str)))))))
abbrev C_Q25 : TC := (TC.pair (TC.int IntKind.i64) (TC.pair (TC.int IntKind.i64) (TC.pair (TC.int IntKind.i64) (TC.pair (TC.int IntKind.i64) (TC.pair (TC.int IntKind.i64) (TC.pair (TC.int IntKind.i64) (TC.pair (TC.int IntKind.i64) (TC.pair (TC.int IntKind.i64) (TC.pair (TC.int IntKind.i64) (TC.pair (TC.int IntKind.i64) (TC.pair (TC.int IntKind.i64) (TC.pair (TC.int IntKind.i64) (TC.pair (TC.int IntKind.i64) (TC.pair (TC.int IntKind.i64) (TC.pair (TC.int IntKind.i64) (TC.pair (TC.int IntKind.i64) (TC.pair (TC.int IntKind.i64) (TC.pair (TC.int IntKind.i64) (TC.pair (TC.int IntKind.i64) (TC.pair (TC.int IntKind.i64) (TC.pair (TC.int IntKind.i64) (TC.pair (TC.int IntKind.i64) (TC.pair (TC.int IntKind.i64) (TC.pair (TC.int IntKind.i64) (TC.int IntKind.i64)))))))))))))))))))))))))
abbrev xIj : Type := (Bool × (Bool × Bool))
abbrev T_3 : Type := (Int × (Int × Int))
abbrev T_7 : Type := (Int × (Int × (Int × (Int × (Int × (Int × Int))))))
abbrev T_b : Type := ((Int × Int) × ((Int × Int) × (Int × Int)))
abbrev xCw : Type := (Int × ((Int × Int) × ((Int × Int) × (Int × Int))))
abbrev xCG : Type := (Int × (Int × ((Int × Int) × ((Int × Int) × (Int × Int)))))
abbrev T_sp : Type := (((Int × Int) × ((Int × Int) × ((Int × Int) × ((Int × Int) × ((Int × Int) × (Int × Int)))))) × Int)
abbrev T_wf : Type := (((Int × Int) × ((Int × Int) × ((Int × Int) × ((Int × Int) × ((Int × Int) × (Int × Int)))))) × (Int × (ByteArray × (ByteArray × (ByteArray × (ByteArray × (ByteArray × ByteArray)))))))
abbrev xEi : Type := (Int × (Int × (Int × (Int × (Int × (Int × (Int × (Int × (Int × (Int × (Int × (Int × (Int × (Int × (Int × (Int × (Int × (Int × (Int × (Int × (Int × (Int × (Int × (Int × Int))))))))))))))))))))))))
end Go.Proofs.YtcbbhiobibhdnaaDoor
