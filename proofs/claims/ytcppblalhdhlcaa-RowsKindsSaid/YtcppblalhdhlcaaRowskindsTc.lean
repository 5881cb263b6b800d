/- Abstract states run over the code; what each function gives, printed by program and checked by the kernel; and what follows of it. -/
import Derived.Test.YtcppblalhdhlcaaRowskindsTb
set_option linter.unusedVariables false
set_option maxRecDepth 100000
set_option linter.constructorNameAsVariable false
namespace Go.Eng
open Go Go.Proofs
def r_api_classes  (R : PV → Prop) : Prop :=

  R
    (PV.sl false true
      [[PV.int IntKind.i64 (1 : Int), PV.int IntKind.i64 (768 : Int), PV.int IntKind.i64 (788 : Int),
          PV.int IntKind.i64 (230 : Int), PV.int IntKind.i64 (0 : Int)],
        [PV.int IntKind.i64 (1 : Int), PV.int IntKind.i64 (789 : Int), PV.int IntKind.i64 (789 : Int),
          PV.int IntKind.i64 (232 : Int), PV.int IntKind.i64 (0 : Int)],
        [PV.int IntKind.i64 (1 : Int), PV.int IntKind.i64 (790 : Int), PV.int IntKind.i64 (793 : Int),
          PV.int IntKind.i64 (220 : Int), PV.int IntKind.i64 (0 : Int)],
        [PV.int IntKind.i64 (1 : Int), PV.int IntKind.i64 (794 : Int), PV.int IntKind.i64 (794 : Int),
          PV.int IntKind.i64 (232 : Int), PV.int IntKind.i64 (0 : Int)],
        [PV.int IntKind.i64 (1 : Int), PV.int IntKind.i64 (795 : Int), PV.int IntKind.i64 (795 : Int),
          PV.int IntKind.i64 (216 : Int), PV.int IntKind.i64 (0 : Int)],
        [PV.int IntKind.i64 (1 : Int), PV.int IntKind.i64 (796 : Int), PV.int IntKind.i64 (800 : Int),
          PV.int IntKind.i64 (220 : Int), PV.int IntKind.i64 (0 : Int)],
        [PV.int IntKind.i64 (1 : Int), PV.int IntKind.i64 (801 : Int), PV.int IntKind.i64 (802 : Int),
          PV.int IntKind.i64 (202 : Int), PV.int IntKind.i64 (0 : Int)],
        [PV.int IntKind.i64 (1 : Int), PV.int IntKind.i64 (803 : Int), PV.int IntKind.i64 (806 : Int),
          PV.int IntKind.i64 (220 : Int), PV.int IntKind.i64 (0 : Int)],
        [PV.int IntKind.i64 (1 : Int), PV.int IntKind.i64 (807 : Int), PV.int IntKind.i64 (808 : Int),
          PV.int IntKind.i64 (202 : Int), PV.int IntKind.i64 (0 : Int)],
        [PV.int IntKind.i64 (1 : Int), PV.int IntKind.i64 (809 : Int), PV.int IntKind.i64 (819 : Int),
          PV.int IntKind.i64 (220 : Int), PV.int IntKind.i64 (0 : Int)],
        [PV.int IntKind.i64 (1 : Int), PV.int IntKind.i64 (820 : Int), PV.int IntKind.i64 (824 : Int),
          PV.int IntKind.i64 (1 : Int), PV.int IntKind.i64 (0 : Int)],
        [PV.int IntKind.i64 (1 : Int), PV.int IntKind.i64 (825 : Int), PV.int IntKind.i64 (828 : Int),
          PV.int IntKind.i64 (220 : Int), PV.int IntKind.i64 (0 : Int)],
        [PV.int IntKind.i64 (1 : Int), PV.int IntKind.i64 (829 : Int), PV.int IntKind.i64 (836 : Int),
          PV.int IntKind.i64 (230 : Int), PV.int IntKind.i64 (0 : Int)],
        [PV.int IntKind.i64 (1 : Int), PV.int IntKind.i64 (837 : Int), PV.int IntKind.i64 (837 : Int),
          PV.int IntKind.i64 (240 : Int), PV.int IntKind.i64 (0 : Int)],
        [PV.int IntKind.i64 (1 : Int), PV.int IntKind.i64 (838 : Int), PV.int IntKind.i64 (838 : Int),
          PV.int IntKind.i64 (230 : Int), PV.int IntKind.i64 (0 : Int)],
        [PV.int IntKind.i64 (1 : Int), PV.int IntKind.i64 (839 : Int), PV.int IntKind.i64 (841 : Int),
          PV.int IntKind.i64 (220 : Int), PV.int IntKind.i64 (0 : Int)],
        [PV.int IntKind.i64 (1 : Int), PV.int IntKind.i64 (842 : Int), PV.int IntKind.i64 (844 : Int),
          PV.int IntKind.i64 (230 : Int), PV.int IntKind.i64 (0 : Int)],
        [PV.int IntKind.i64 (1 : Int), PV.int IntKind.i64 (845 : Int), PV.int IntKind.i64 (846 : Int),
          PV.int IntKind.i64 (220 : Int), PV.int IntKind.i64 (0 : Int)],
        [PV.int IntKind.i64 (1 : Int), PV.int IntKind.i64 (848 : Int), PV.int IntKind.i64 (850 : Int),
          PV.int IntKind.i64 (230 : Int), PV.int IntKind.i64 (0 : Int)],
        [PV.int IntKind.i64 (1 : Int), PV.int IntKind.i64 (851 : Int), PV.int IntKind.i64 (854 : Int),
          PV.int IntKind.i64 (220 : Int), PV.int IntKind.i64 (0 : Int)],
        [PV.int IntKind.i64 (1 : Int), PV.int IntKind.i64 (855 : Int), PV.int IntKind.i64 (855 : Int),
          PV.int IntKind.i64 (230 : Int), PV.int IntKind.i64 (0 : Int)],
        [PV.int IntKind.i64 (1 : Int), PV.int IntKind.i64 (856 : Int), PV.int IntKind.i64 (856 : Int),
          PV.int IntKind.i64 (232 : Int), PV.int IntKind.i64 (0 : Int)],
        [PV.int IntKind.i64 (1 : Int), PV.int IntKind.i64 (857 : Int), PV.int IntKind.i64 (858 : Int),
          PV.int IntKind.i64 (220 : Int), PV.int IntKind.i64 (0 : Int)],
        [PV.int IntKind.i64 (1 : Int), PV.int IntKind.i64 (859 : Int), PV.int IntKind.i64 (859 : Int),
          PV.int IntKind.i64 (230 : Int), PV.int IntKind.i64 (0 : Int)],
        [PV.int IntKind.i64 (1 : Int), PV.int IntKind.i64 (860 : Int), PV.int IntKind.i64 (860 : Int),
          PV.int IntKind.i64 (233 : Int), PV.int IntKind.i64 (0 : Int)],
        [PV.int IntKind.i64 (1 : Int), PV.int IntKind.i64 (861 : Int), PV.int IntKind.i64 (862 : Int),
          PV.int IntKind.i64 (234 : Int), PV.int IntKind.i64 (0 : Int)],
        [PV.int IntKind.i64 (1 : Int), PV.int IntKind.i64 (863 : Int), PV.int IntKind.i64 (863 : Int),
          PV.int IntKind.i64 (233 : Int), PV.int IntKind.i64 (0 : Int)],
        [PV.int IntKind.i64 (1 : Int), PV.int IntKind.i64 (864 : Int), PV.int IntKind.i64 (865 : Int),
          PV.int IntKind.i64 (234 : Int), PV.int IntKind.i64 (0 : Int)],
        [PV.int IntKind.i64 (1 : Int), PV.int IntKind.i64 (866 : Int), PV.int IntKind.i64 (866 : Int),
          PV.int IntKind.i64 (233 : Int), PV.int IntKind.i64 (0 : Int)],
        [PV.int IntKind.i64 (1 : Int), PV.int IntKind.i64 (867 : Int), PV.int IntKind.i64 (879 : Int),
          PV.int IntKind.i64 (230 : Int), PV.int IntKind.i64 (0 : Int)],
        [PV.int IntKind.i64 (1 : Int), PV.int IntKind.i64 (1155 : Int), PV.int IntKind.i64 (1159 : Int),
          PV.int IntKind.i64 (230 : Int), PV.int IntKind.i64 (0 : Int)],
        [PV.int IntKind.i64 (1 : Int), PV.int IntKind.i64 (1456 : Int), PV.int IntKind.i64 (1456 : Int),
          PV.int IntKind.i64 (10 : Int), PV.int IntKind.i64 (0 : Int)],
        [PV.int IntKind.i64 (1 : Int), PV.int IntKind.i64 (1457 : Int), PV.int IntKind.i64 (1457 : Int),
          PV.int IntKind.i64 (11 : Int), PV.int IntKind.i64 (0 : Int)],
        [PV.int IntKind.i64 (1 : Int), PV.int IntKind.i64 (1458 : Int), PV.int IntKind.i64 (1458 : Int),
          PV.int IntKind.i64 (12 : Int), PV.int IntKind.i64 (0 : Int)],
        [PV.int IntKind.i64 (1 : Int), PV.int IntKind.i64 (1459 : Int), PV.int IntKind.i64 (1459 : Int),
          PV.int IntKind.i64 (13 : Int), PV.int IntKind.i64 (0 : Int)],
        [PV.int IntKind.i64 (1 : Int), PV.int IntKind.i64 (1460 : Int), PV.int IntKind.i64 (1460 : Int),
          PV.int IntKind.i64 (14 : Int), PV.int IntKind.i64 (0 : Int)],
        [PV.int IntKind.i64 (1 : Int), PV.int IntKind.i64 (1461 : Int), PV.int IntKind.i64 (1461 : Int),
          PV.int IntKind.i64 (15 : Int), PV.int IntKind.i64 (0 : Int)],
        [PV.int IntKind.i64 (1 : Int), PV.int IntKind.i64 (1462 : Int), PV.int IntKind.i64 (1462 : Int),
          PV.int IntKind.i64 (16 : Int), PV.int IntKind.i64 (0 : Int)],
        [PV.int IntKind.i64 (1 : Int), PV.int IntKind.i64 (1463 : Int), PV.int IntKind.i64 (1463 : Int),
          PV.int IntKind.i64 (17 : Int), PV.int IntKind.i64 (0 : Int)],
        [PV.int IntKind.i64 (1 : Int), PV.int IntKind.i64 (1464 : Int), PV.int IntKind.i64 (1464 : Int),
          PV.int IntKind.i64 (18 : Int), PV.int IntKind.i64 (0 : Int)],
        [PV.int IntKind.i64 (1 : Int), PV.int IntKind.i64 (1465 : Int), PV.int IntKind.i64 (1466 : Int),
          PV.int IntKind.i64 (19 : Int), PV.int IntKind.i64 (0 : Int)],
        [PV.int IntKind.i64 (1 : Int), PV.int IntKind.i64 (1467 : Int), PV.int IntKind.i64 (1467 : Int),
          PV.int IntKind.i64 (20 : Int), PV.int IntKind.i64 (0 : Int)],
        [PV.int IntKind.i64 (1 : Int), PV.int IntKind.i64 (1468 : Int), PV.int IntKind.i64 (1468 : Int),
          PV.int IntKind.i64 (21 : Int), PV.int IntKind.i64 (0 : Int)],
        [PV.int IntKind.i64 (1 : Int), PV.int IntKind.i64 (1469 : Int), PV.int IntKind.i64 (1469 : Int),
          PV.int IntKind.i64 (22 : Int), PV.int IntKind.i64 (0 : Int)],
        [PV.int IntKind.i64 (1 : Int), PV.int IntKind.i64 (1471 : Int), PV.int IntKind.i64 (1471 : Int),
          PV.int IntKind.i64 (23 : Int), PV.int IntKind.i64 (0 : Int)],
        [PV.int IntKind.i64 (1 : Int), PV.int IntKind.i64 (1473 : Int), PV.int IntKind.i64 (1473 : Int),
          PV.int IntKind.i64 (24 : Int), PV.int IntKind.i64 (0 : Int)],
        [PV.int IntKind.i64 (1 : Int), PV.int IntKind.i64 (1474 : Int), PV.int IntKind.i64 (1474 : Int),
          PV.int IntKind.i64 (25 : Int), PV.int IntKind.i64 (0 : Int)],
        [PV.int IntKind.i64 (1 : Int), PV.int IntKind.i64 (1479 : Int), PV.int IntKind.i64 (1479 : Int),
          PV.int IntKind.i64 (18 : Int), PV.int IntKind.i64 (0 : Int)],
        [PV.int IntKind.i64 (1 : Int), PV.int IntKind.i64 (1611 : Int), PV.int IntKind.i64 (1611 : Int),
          PV.int IntKind.i64 (27 : Int), PV.int IntKind.i64 (0 : Int)],
        [PV.int IntKind.i64 (1 : Int), PV.int IntKind.i64 (1612 : Int), PV.int IntKind.i64 (1612 : Int),
          PV.int IntKind.i64 (28 : Int), PV.int IntKind.i64 (0 : Int)],
        [PV.int IntKind.i64 (1 : Int), PV.int IntKind.i64 (1613 : Int), PV.int IntKind.i64 (1613 : Int),
          PV.int IntKind.i64 (29 : Int), PV.int IntKind.i64 (0 : Int)],
        [PV.int IntKind.i64 (1 : Int), PV.int IntKind.i64 (1614 : Int), PV.int IntKind.i64 (1614 : Int),
          PV.int IntKind.i64 (30 : Int), PV.int IntKind.i64 (0 : Int)],
        [PV.int IntKind.i64 (1 : Int), PV.int IntKind.i64 (1615 : Int), PV.int IntKind.i64 (1615 : Int),
          PV.int IntKind.i64 (31 : Int), PV.int IntKind.i64 (0 : Int)],
        [PV.int IntKind.i64 (1 : Int), PV.int IntKind.i64 (1616 : Int), PV.int IntKind.i64 (1616 : Int),
          PV.int IntKind.i64 (32 : Int), PV.int IntKind.i64 (0 : Int)],
        [PV.int IntKind.i64 (1 : Int), PV.int IntKind.i64 (1617 : Int), PV.int IntKind.i64 (1617 : Int),
          PV.int IntKind.i64 (33 : Int), PV.int IntKind.i64 (0 : Int)],
        [PV.int IntKind.i64 (1 : Int), PV.int IntKind.i64 (1618 : Int), PV.int IntKind.i64 (1618 : Int),
          PV.int IntKind.i64 (34 : Int), PV.int IntKind.i64 (0 : Int)],
        [PV.int IntKind.i64 (1 : Int), PV.int IntKind.i64 (1619 : Int), PV.int IntKind.i64 (1620 : Int),
          PV.int IntKind.i64 (230 : Int), PV.int IntKind.i64 (0 : Int)],
        [PV.int IntKind.i64 (1 : Int), PV.int IntKind.i64 (1621 : Int), PV.int IntKind.i64 (1622 : Int),
          PV.int IntKind.i64 (220 : Int), PV.int IntKind.i64 (0 : Int)],
        [PV.int IntKind.i64 (1 : Int), PV.int IntKind.i64 (1648 : Int), PV.int IntKind.i64 (1648 : Int),
          PV.int IntKind.i64 (35 : Int), PV.int IntKind.i64 (0 : Int)],
        [PV.int IntKind.i64 (1 : Int), PV.int IntKind.i64 (2364 : Int), PV.int IntKind.i64 (2364 : Int),
          PV.int IntKind.i64 (7 : Int), PV.int IntKind.i64 (0 : Int)],
        [PV.int IntKind.i64 (1 : Int), PV.int IntKind.i64 (2381 : Int), PV.int IntKind.i64 (2381 : Int),
          PV.int IntKind.i64 (9 : Int), PV.int IntKind.i64 (0 : Int)],
        [PV.int IntKind.i64 (1 : Int), PV.int IntKind.i64 (2385 : Int), PV.int IntKind.i64 (2385 : Int),
          PV.int IntKind.i64 (230 : Int), PV.int IntKind.i64 (0 : Int)],
        [PV.int IntKind.i64 (1 : Int), PV.int IntKind.i64 (2386 : Int), PV.int IntKind.i64 (2386 : Int),
          PV.int IntKind.i64 (220 : Int), PV.int IntKind.i64 (0 : Int)],
        [PV.int IntKind.i64 (1 : Int), PV.int IntKind.i64 (2387 : Int), PV.int IntKind.i64 (2388 : Int),
          PV.int IntKind.i64 (230 : Int), PV.int IntKind.i64 (0 : Int)],
        [PV.int IntKind.i64 (1 : Int), PV.int IntKind.i64 (2492 : Int), PV.int IntKind.i64 (2492 : Int),
          PV.int IntKind.i64 (7 : Int), PV.int IntKind.i64 (0 : Int)],
        [PV.int IntKind.i64 (1 : Int), PV.int IntKind.i64 (2509 : Int), PV.int IntKind.i64 (2509 : Int),
          PV.int IntKind.i64 (9 : Int), PV.int IntKind.i64 (0 : Int)],
        [PV.int IntKind.i64 (1 : Int), PV.int IntKind.i64 (3021 : Int), PV.int IntKind.i64 (3021 : Int),
          PV.int IntKind.i64 (9 : Int), PV.int IntKind.i64 (0 : Int)],
        [PV.int IntKind.i64 (1 : Int), PV.int IntKind.i64 (3640 : Int), PV.int IntKind.i64 (3641 : Int),
          PV.int IntKind.i64 (103 : Int), PV.int IntKind.i64 (0 : Int)],
        [PV.int IntKind.i64 (1 : Int), PV.int IntKind.i64 (3642 : Int), PV.int IntKind.i64 (3642 : Int),
          PV.int IntKind.i64 (9 : Int), PV.int IntKind.i64 (0 : Int)],
        [PV.int IntKind.i64 (1 : Int), PV.int IntKind.i64 (3656 : Int), PV.int IntKind.i64 (3659 : Int),
          PV.int IntKind.i64 (107 : Int), PV.int IntKind.i64 (0 : Int)],
        [PV.int IntKind.i64 (1 : Int), PV.int IntKind.i64 (3953 : Int), PV.int IntKind.i64 (3953 : Int),
          PV.int IntKind.i64 (129 : Int), PV.int IntKind.i64 (0 : Int)],
        [PV.int IntKind.i64 (1 : Int), PV.int IntKind.i64 (3954 : Int), PV.int IntKind.i64 (3954 : Int),
          PV.int IntKind.i64 (130 : Int), PV.int IntKind.i64 (0 : Int)],
        [PV.int IntKind.i64 (1 : Int), PV.int IntKind.i64 (3956 : Int), PV.int IntKind.i64 (3956 : Int),
          PV.int IntKind.i64 (132 : Int), PV.int IntKind.i64 (0 : Int)],
        [PV.int IntKind.i64 (1 : Int), PV.int IntKind.i64 (8400 : Int), PV.int IntKind.i64 (8401 : Int),
          PV.int IntKind.i64 (230 : Int), PV.int IntKind.i64 (0 : Int)],
        [PV.int IntKind.i64 (1 : Int), PV.int IntKind.i64 (8402 : Int), PV.int IntKind.i64 (8403 : Int),
          PV.int IntKind.i64 (1 : Int), PV.int IntKind.i64 (0 : Int)],
        [PV.int IntKind.i64 (1 : Int), PV.int IntKind.i64 (8404 : Int), PV.int IntKind.i64 (8407 : Int),
          PV.int IntKind.i64 (230 : Int), PV.int IntKind.i64 (0 : Int)],
        [PV.int IntKind.i64 (1 : Int), PV.int IntKind.i64 (8411 : Int), PV.int IntKind.i64 (8412 : Int),
          PV.int IntKind.i64 (230 : Int), PV.int IntKind.i64 (0 : Int)],
        [PV.int IntKind.i64 (1 : Int), PV.int IntKind.i64 (8417 : Int), PV.int IntKind.i64 (8417 : Int),
          PV.int IntKind.i64 (230 : Int), PV.int IntKind.i64 (0 : Int)],
        [PV.int IntKind.i64 (1 : Int), PV.int IntKind.i64 (8424 : Int), PV.int IntKind.i64 (8424 : Int),
          PV.int IntKind.i64 (220 : Int), PV.int IntKind.i64 (0 : Int)],
        [PV.int IntKind.i64 (1 : Int), PV.int IntKind.i64 (12441 : Int), PV.int IntKind.i64 (12442 : Int),
          PV.int IntKind.i64 (8 : Int), PV.int IntKind.i64 (0 : Int)],
        [PV.int IntKind.i64 (1 : Int), PV.int IntKind.i64 (65056 : Int), PV.int IntKind.i64 (65062 : Int),
          PV.int IntKind.i64 (230 : Int), PV.int IntKind.i64 (0 : Int)],
        [PV.int IntKind.i64 (1 : Int), PV.int IntKind.i64 (119141 : Int), PV.int IntKind.i64 (119141 : Int),
          PV.int IntKind.i64 (216 : Int), PV.int IntKind.i64 (0 : Int)]])
theorem e_api_classes  (R : PV → Prop) : aFn Try.prog (fun _ => none) Try.f72 [0] (fun _ => none) (Try.f72.body.getD .skip) [] R = r_api_classes  R := by kernel_rfl
theorem a_api_classes  {R : PV → Prop} (h : r_api_classes  R) : PCall Try.prog 72 [] R :=
  PCall.of Try.func72 (by kernel_rfl) (by kernel_rfl) (Nat.le_of_ble_eq_true (by kernel_rfl)) (Eq.mpr (e_api_classes  R) h)

def r_api_pairs  (R : PV → Prop) : Prop :=

  R
    (PV.sl false true
      [[PV.int IntKind.i64 (2 : Int), PV.int IntKind.i64 (192 : Int), PV.int IntKind.i64 (192 : Int),
          PV.int IntKind.i64 (65 : Int), PV.int IntKind.i64 (768 : Int)],
        [PV.int IntKind.i64 (2 : Int), PV.int IntKind.i64 (193 : Int), PV.int IntKind.i64 (193 : Int),
          PV.int IntKind.i64 (65 : Int), PV.int IntKind.i64 (769 : Int)],
        [PV.int IntKind.i64 (2 : Int), PV.int IntKind.i64 (194 : Int), PV.int IntKind.i64 (194 : Int),
          PV.int IntKind.i64 (65 : Int), PV.int IntKind.i64 (770 : Int)],
        [PV.int IntKind.i64 (2 : Int), PV.int IntKind.i64 (195 : Int), PV.int IntKind.i64 (195 : Int),
          PV.int IntKind.i64 (65 : Int), PV.int IntKind.i64 (771 : Int)],
        [PV.int IntKind.i64 (2 : Int), PV.int IntKind.i64 (196 : Int), PV.int IntKind.i64 (196 : Int),
          PV.int IntKind.i64 (65 : Int), PV.int IntKind.i64 (776 : Int)],
        [PV.int IntKind.i64 (2 : Int), PV.int IntKind.i64 (197 : Int), PV.int IntKind.i64 (197 : Int),
          PV.int IntKind.i64 (65 : Int), PV.int IntKind.i64 (778 : Int)],
        [PV.int IntKind.i64 (2 : Int), PV.int IntKind.i64 (199 : Int), PV.int IntKind.i64 (199 : Int),
          PV.int IntKind.i64 (67 : Int), PV.int IntKind.i64 (807 : Int)],
        [PV.int IntKind.i64 (2 : Int), PV.int IntKind.i64 (200 : Int), PV.int IntKind.i64 (200 : Int),
          PV.int IntKind.i64 (69 : Int), PV.int IntKind.i64 (768 : Int)],
        [PV.int IntKind.i64 (2 : Int), PV.int IntKind.i64 (201 : Int), PV.int IntKind.i64 (201 : Int),
          PV.int IntKind.i64 (69 : Int), PV.int IntKind.i64 (769 : Int)],
        [PV.int IntKind.i64 (2 : Int), PV.int IntKind.i64 (202 : Int), PV.int IntKind.i64 (202 : Int),
          PV.int IntKind.i64 (69 : Int), PV.int IntKind.i64 (770 : Int)],
        [PV.int IntKind.i64 (2 : Int), PV.int IntKind.i64 (203 : Int), PV.int IntKind.i64 (203 : Int),
          PV.int IntKind.i64 (69 : Int), PV.int IntKind.i64 (776 : Int)],
        [PV.int IntKind.i64 (2 : Int), PV.int IntKind.i64 (204 : Int), PV.int IntKind.i64 (204 : Int),
          PV.int IntKind.i64 (73 : Int), PV.int IntKind.i64 (768 : Int)],
        [PV.int IntKind.i64 (2 : Int), PV.int IntKind.i64 (205 : Int), PV.int IntKind.i64 (205 : Int),
          PV.int IntKind.i64 (73 : Int), PV.int IntKind.i64 (769 : Int)],
        [PV.int IntKind.i64 (2 : Int), PV.int IntKind.i64 (206 : Int), PV.int IntKind.i64 (206 : Int),
          PV.int IntKind.i64 (73 : Int), PV.int IntKind.i64 (770 : Int)],
        [PV.int IntKind.i64 (2 : Int), PV.int IntKind.i64 (207 : Int), PV.int IntKind.i64 (207 : Int),
          PV.int IntKind.i64 (73 : Int), PV.int IntKind.i64 (776 : Int)],
        [PV.int IntKind.i64 (2 : Int), PV.int IntKind.i64 (209 : Int), PV.int IntKind.i64 (209 : Int),
          PV.int IntKind.i64 (78 : Int), PV.int IntKind.i64 (771 : Int)],
        [PV.int IntKind.i64 (2 : Int), PV.int IntKind.i64 (210 : Int), PV.int IntKind.i64 (210 : Int),
          PV.int IntKind.i64 (79 : Int), PV.int IntKind.i64 (768 : Int)],
        [PV.int IntKind.i64 (2 : Int), PV.int IntKind.i64 (211 : Int), PV.int IntKind.i64 (211 : Int),
          PV.int IntKind.i64 (79 : Int), PV.int IntKind.i64 (769 : Int)],
        [PV.int IntKind.i64 (2 : Int), PV.int IntKind.i64 (212 : Int), PV.int IntKind.i64 (212 : Int),
          PV.int IntKind.i64 (79 : Int), PV.int IntKind.i64 (770 : Int)],
        [PV.int IntKind.i64 (2 : Int), PV.int IntKind.i64 (213 : Int), PV.int IntKind.i64 (213 : Int),
          PV.int IntKind.i64 (79 : Int), PV.int IntKind.i64 (771 : Int)],
        [PV.int IntKind.i64 (2 : Int), PV.int IntKind.i64 (214 : Int), PV.int IntKind.i64 (214 : Int),
          PV.int IntKind.i64 (79 : Int), PV.int IntKind.i64 (776 : Int)],
        [PV.int IntKind.i64 (2 : Int), PV.int IntKind.i64 (217 : Int), PV.int IntKind.i64 (217 : Int),
          PV.int IntKind.i64 (85 : Int), PV.int IntKind.i64 (768 : Int)],
        [PV.int IntKind.i64 (2 : Int), PV.int IntKind.i64 (218 : Int), PV.int IntKind.i64 (218 : Int),
          PV.int IntKind.i64 (85 : Int), PV.int IntKind.i64 (769 : Int)],
        [PV.int IntKind.i64 (2 : Int), PV.int IntKind.i64 (219 : Int), PV.int IntKind.i64 (219 : Int),
          PV.int IntKind.i64 (85 : Int), PV.int IntKind.i64 (770 : Int)],
        [PV.int IntKind.i64 (2 : Int), PV.int IntKind.i64 (220 : Int), PV.int IntKind.i64 (220 : Int),
          PV.int IntKind.i64 (85 : Int), PV.int IntKind.i64 (776 : Int)],
        [PV.int IntKind.i64 (2 : Int), PV.int IntKind.i64 (221 : Int), PV.int IntKind.i64 (221 : Int),
          PV.int IntKind.i64 (89 : Int), PV.int IntKind.i64 (769 : Int)],
        [PV.int IntKind.i64 (2 : Int), PV.int IntKind.i64 (224 : Int), PV.int IntKind.i64 (224 : Int),
          PV.int IntKind.i64 (97 : Int), PV.int IntKind.i64 (768 : Int)],
        [PV.int IntKind.i64 (2 : Int), PV.int IntKind.i64 (225 : Int), PV.int IntKind.i64 (225 : Int),
          PV.int IntKind.i64 (97 : Int), PV.int IntKind.i64 (769 : Int)],
        [PV.int IntKind.i64 (2 : Int), PV.int IntKind.i64 (226 : Int), PV.int IntKind.i64 (226 : Int),
          PV.int IntKind.i64 (97 : Int), PV.int IntKind.i64 (770 : Int)],
        [PV.int IntKind.i64 (2 : Int), PV.int IntKind.i64 (227 : Int), PV.int IntKind.i64 (227 : Int),
          PV.int IntKind.i64 (97 : Int), PV.int IntKind.i64 (771 : Int)],
        [PV.int IntKind.i64 (2 : Int), PV.int IntKind.i64 (228 : Int), PV.int IntKind.i64 (228 : Int),
          PV.int IntKind.i64 (97 : Int), PV.int IntKind.i64 (776 : Int)],
        [PV.int IntKind.i64 (2 : Int), PV.int IntKind.i64 (229 : Int), PV.int IntKind.i64 (229 : Int),
          PV.int IntKind.i64 (97 : Int), PV.int IntKind.i64 (778 : Int)],
        [PV.int IntKind.i64 (2 : Int), PV.int IntKind.i64 (231 : Int), PV.int IntKind.i64 (231 : Int),
          PV.int IntKind.i64 (99 : Int), PV.int IntKind.i64 (807 : Int)],
        [PV.int IntKind.i64 (2 : Int), PV.int IntKind.i64 (232 : Int), PV.int IntKind.i64 (232 : Int),
          PV.int IntKind.i64 (101 : Int), PV.int IntKind.i64 (768 : Int)],
        [PV.int IntKind.i64 (2 : Int), PV.int IntKind.i64 (233 : Int), PV.int IntKind.i64 (233 : Int),
          PV.int IntKind.i64 (101 : Int), PV.int IntKind.i64 (769 : Int)],
        [PV.int IntKind.i64 (2 : Int), PV.int IntKind.i64 (234 : Int), PV.int IntKind.i64 (234 : Int),
          PV.int IntKind.i64 (101 : Int), PV.int IntKind.i64 (770 : Int)],
        [PV.int IntKind.i64 (2 : Int), PV.int IntKind.i64 (235 : Int), PV.int IntKind.i64 (235 : Int),
          PV.int IntKind.i64 (101 : Int), PV.int IntKind.i64 (776 : Int)],
        [PV.int IntKind.i64 (2 : Int), PV.int IntKind.i64 (236 : Int), PV.int IntKind.i64 (236 : Int),
          PV.int IntKind.i64 (105 : Int), PV.int IntKind.i64 (768 : Int)],
        [PV.int IntKind.i64 (2 : Int), PV.int IntKind.i64 (237 : Int), PV.int IntKind.i64 (237 : Int),
          PV.int IntKind.i64 (105 : Int), PV.int IntKind.i64 (769 : Int)],
        [PV.int IntKind.i64 (2 : Int), PV.int IntKind.i64 (238 : Int), PV.int IntKind.i64 (238 : Int),
          PV.int IntKind.i64 (105 : Int), PV.int IntKind.i64 (770 : Int)],
        [PV.int IntKind.i64 (2 : Int), PV.int IntKind.i64 (239 : Int), PV.int IntKind.i64 (239 : Int),
          PV.int IntKind.i64 (105 : Int), PV.int IntKind.i64 (776 : Int)],
        [PV.int IntKind.i64 (2 : Int), PV.int IntKind.i64 (241 : Int), PV.int IntKind.i64 (241 : Int),
          PV.int IntKind.i64 (110 : Int), PV.int IntKind.i64 (771 : Int)],
        [PV.int IntKind.i64 (2 : Int), PV.int IntKind.i64 (242 : Int), PV.int IntKind.i64 (242 : Int),
          PV.int IntKind.i64 (111 : Int), PV.int IntKind.i64 (768 : Int)],
        [PV.int IntKind.i64 (2 : Int), PV.int IntKind.i64 (243 : Int), PV.int IntKind.i64 (243 : Int),
          PV.int IntKind.i64 (111 : Int), PV.int IntKind.i64 (769 : Int)],
        [PV.int IntKind.i64 (2 : Int), PV.int IntKind.i64 (244 : Int), PV.int IntKind.i64 (244 : Int),
          PV.int IntKind.i64 (111 : Int), PV.int IntKind.i64 (770 : Int)],
        [PV.int IntKind.i64 (2 : Int), PV.int IntKind.i64 (245 : Int), PV.int IntKind.i64 (245 : Int),
          PV.int IntKind.i64 (111 : Int), PV.int IntKind.i64 (771 : Int)],
        [PV.int IntKind.i64 (2 : Int), PV.int IntKind.i64 (246 : Int), PV.int IntKind.i64 (246 : Int),
          PV.int IntKind.i64 (111 : Int), PV.int IntKind.i64 (776 : Int)],
        [PV.int IntKind.i64 (2 : Int), PV.int IntKind.i64 (249 : Int), PV.int IntKind.i64 (249 : Int),
          PV.int IntKind.i64 (117 : Int), PV.int IntKind.i64 (768 : Int)],
        [PV.int IntKind.i64 (2 : Int), PV.int IntKind.i64 (250 : Int), PV.int IntKind.i64 (250 : Int),
          PV.int IntKind.i64 (117 : Int), PV.int IntKind.i64 (769 : Int)],
        [PV.int IntKind.i64 (2 : Int), PV.int IntKind.i64 (251 : Int), PV.int IntKind.i64 (251 : Int),
          PV.int IntKind.i64 (117 : Int), PV.int IntKind.i64 (770 : Int)],
        [PV.int IntKind.i64 (2 : Int), PV.int IntKind.i64 (252 : Int), PV.int IntKind.i64 (252 : Int),
          PV.int IntKind.i64 (117 : Int), PV.int IntKind.i64 (776 : Int)],
        [PV.int IntKind.i64 (2 : Int), PV.int IntKind.i64 (253 : Int), PV.int IntKind.i64 (253 : Int),
          PV.int IntKind.i64 (121 : Int), PV.int IntKind.i64 (769 : Int)],
        [PV.int IntKind.i64 (2 : Int), PV.int IntKind.i64 (255 : Int), PV.int IntKind.i64 (255 : Int),
          PV.int IntKind.i64 (121 : Int), PV.int IntKind.i64 (776 : Int)],
        [PV.int IntKind.i64 (2 : Int), PV.int IntKind.i64 (256 : Int), PV.int IntKind.i64 (256 : Int),
          PV.int IntKind.i64 (65 : Int), PV.int IntKind.i64 (772 : Int)],
        [PV.int IntKind.i64 (2 : Int), PV.int IntKind.i64 (257 : Int), PV.int IntKind.i64 (257 : Int),
          PV.int IntKind.i64 (97 : Int), PV.int IntKind.i64 (772 : Int)],
        [PV.int IntKind.i64 (2 : Int), PV.int IntKind.i64 (258 : Int), PV.int IntKind.i64 (258 : Int),
          PV.int IntKind.i64 (65 : Int), PV.int IntKind.i64 (774 : Int)],
        [PV.int IntKind.i64 (2 : Int), PV.int IntKind.i64 (259 : Int), PV.int IntKind.i64 (259 : Int),
          PV.int IntKind.i64 (97 : Int), PV.int IntKind.i64 (774 : Int)],
        [PV.int IntKind.i64 (2 : Int), PV.int IntKind.i64 (260 : Int), PV.int IntKind.i64 (260 : Int),
          PV.int IntKind.i64 (65 : Int), PV.int IntKind.i64 (808 : Int)],
        [PV.int IntKind.i64 (2 : Int), PV.int IntKind.i64 (261 : Int), PV.int IntKind.i64 (261 : Int),
          PV.int IntKind.i64 (97 : Int), PV.int IntKind.i64 (808 : Int)],
        [PV.int IntKind.i64 (2 : Int), PV.int IntKind.i64 (262 : Int), PV.int IntKind.i64 (262 : Int),
          PV.int IntKind.i64 (67 : Int), PV.int IntKind.i64 (769 : Int)],
        [PV.int IntKind.i64 (2 : Int), PV.int IntKind.i64 (263 : Int), PV.int IntKind.i64 (263 : Int),
          PV.int IntKind.i64 (99 : Int), PV.int IntKind.i64 (769 : Int)],
        [PV.int IntKind.i64 (2 : Int), PV.int IntKind.i64 (268 : Int), PV.int IntKind.i64 (268 : Int),
          PV.int IntKind.i64 (67 : Int), PV.int IntKind.i64 (780 : Int)],
        [PV.int IntKind.i64 (2 : Int), PV.int IntKind.i64 (269 : Int), PV.int IntKind.i64 (269 : Int),
          PV.int IntKind.i64 (99 : Int), PV.int IntKind.i64 (780 : Int)],
        [PV.int IntKind.i64 (2 : Int), PV.int IntKind.i64 (274 : Int), PV.int IntKind.i64 (274 : Int),
          PV.int IntKind.i64 (69 : Int), PV.int IntKind.i64 (772 : Int)],
        [PV.int IntKind.i64 (2 : Int), PV.int IntKind.i64 (275 : Int), PV.int IntKind.i64 (275 : Int),
          PV.int IntKind.i64 (101 : Int), PV.int IntKind.i64 (772 : Int)],
        [PV.int IntKind.i64 (2 : Int), PV.int IntKind.i64 (280 : Int), PV.int IntKind.i64 (280 : Int),
          PV.int IntKind.i64 (69 : Int), PV.int IntKind.i64 (808 : Int)],
        [PV.int IntKind.i64 (2 : Int), PV.int IntKind.i64 (281 : Int), PV.int IntKind.i64 (281 : Int),
          PV.int IntKind.i64 (101 : Int), PV.int IntKind.i64 (808 : Int)],
        [PV.int IntKind.i64 (2 : Int), PV.int IntKind.i64 (304 : Int), PV.int IntKind.i64 (304 : Int),
          PV.int IntKind.i64 (73 : Int), PV.int IntKind.i64 (775 : Int)],
        [PV.int IntKind.i64 (2 : Int), PV.int IntKind.i64 (323 : Int), PV.int IntKind.i64 (323 : Int),
          PV.int IntKind.i64 (78 : Int), PV.int IntKind.i64 (769 : Int)],
        [PV.int IntKind.i64 (2 : Int), PV.int IntKind.i64 (324 : Int), PV.int IntKind.i64 (324 : Int),
          PV.int IntKind.i64 (110 : Int), PV.int IntKind.i64 (769 : Int)],
        [PV.int IntKind.i64 (2 : Int), PV.int IntKind.i64 (352 : Int), PV.int IntKind.i64 (352 : Int),
          PV.int IntKind.i64 (83 : Int), PV.int IntKind.i64 (780 : Int)],
        [PV.int IntKind.i64 (2 : Int), PV.int IntKind.i64 (353 : Int), PV.int IntKind.i64 (353 : Int),
          PV.int IntKind.i64 (115 : Int), PV.int IntKind.i64 (780 : Int)],
        [PV.int IntKind.i64 (2 : Int), PV.int IntKind.i64 (381 : Int), PV.int IntKind.i64 (381 : Int),
          PV.int IntKind.i64 (90 : Int), PV.int IntKind.i64 (780 : Int)],
        [PV.int IntKind.i64 (2 : Int), PV.int IntKind.i64 (382 : Int), PV.int IntKind.i64 (382 : Int),
          PV.int IntKind.i64 (122 : Int), PV.int IntKind.i64 (780 : Int)],
        [PV.int IntKind.i64 (2 : Int), PV.int IntKind.i64 (416 : Int), PV.int IntKind.i64 (416 : Int),
          PV.int IntKind.i64 (79 : Int), PV.int IntKind.i64 (795 : Int)],
        [PV.int IntKind.i64 (2 : Int), PV.int IntKind.i64 (417 : Int), PV.int IntKind.i64 (417 : Int),
          PV.int IntKind.i64 (111 : Int), PV.int IntKind.i64 (795 : Int)],
        [PV.int IntKind.i64 (2 : Int), PV.int IntKind.i64 (431 : Int), PV.int IntKind.i64 (431 : Int),
          PV.int IntKind.i64 (85 : Int), PV.int IntKind.i64 (795 : Int)],
        [PV.int IntKind.i64 (2 : Int), PV.int IntKind.i64 (432 : Int), PV.int IntKind.i64 (432 : Int),
          PV.int IntKind.i64 (117 : Int), PV.int IntKind.i64 (795 : Int)],
        [PV.int IntKind.i64 (2 : Int), PV.int IntKind.i64 (469 : Int), PV.int IntKind.i64 (469 : Int),
          PV.int IntKind.i64 (220 : Int), PV.int IntKind.i64 (772 : Int)],
        [PV.int IntKind.i64 (2 : Int), PV.int IntKind.i64 (470 : Int), PV.int IntKind.i64 (470 : Int),
          PV.int IntKind.i64 (252 : Int), PV.int IntKind.i64 (772 : Int)],
        [PV.int IntKind.i64 (2 : Int), PV.int IntKind.i64 (471 : Int), PV.int IntKind.i64 (471 : Int),
          PV.int IntKind.i64 (220 : Int), PV.int IntKind.i64 (769 : Int)],
        [PV.int IntKind.i64 (2 : Int), PV.int IntKind.i64 (472 : Int), PV.int IntKind.i64 (472 : Int),
          PV.int IntKind.i64 (252 : Int), PV.int IntKind.i64 (769 : Int)],
        [PV.int IntKind.i64 (2 : Int), PV.int IntKind.i64 (480 : Int), PV.int IntKind.i64 (480 : Int),
          PV.int IntKind.i64 (550 : Int), PV.int IntKind.i64 (772 : Int)],
        [PV.int IntKind.i64 (2 : Int), PV.int IntKind.i64 (481 : Int), PV.int IntKind.i64 (481 : Int),
          PV.int IntKind.i64 (551 : Int), PV.int IntKind.i64 (772 : Int)],
        [PV.int IntKind.i64 (2 : Int), PV.int IntKind.i64 (550 : Int), PV.int IntKind.i64 (550 : Int),
          PV.int IntKind.i64 (65 : Int), PV.int IntKind.i64 (775 : Int)],
        [PV.int IntKind.i64 (2 : Int), PV.int IntKind.i64 (551 : Int), PV.int IntKind.i64 (551 : Int),
          PV.int IntKind.i64 (97 : Int), PV.int IntKind.i64 (775 : Int)],
        [PV.int IntKind.i64 (2 : Int), PV.int IntKind.i64 (832 : Int), PV.int IntKind.i64 (832 : Int),
          PV.int IntKind.i64 (768 : Int), PV.int IntKind.i64 (0 : Int)],
        [PV.int IntKind.i64 (2 : Int), PV.int IntKind.i64 (833 : Int), PV.int IntKind.i64 (833 : Int),
          PV.int IntKind.i64 (769 : Int), PV.int IntKind.i64 (0 : Int)],
        [PV.int IntKind.i64 (2 : Int), PV.int IntKind.i64 (835 : Int), PV.int IntKind.i64 (835 : Int),
          PV.int IntKind.i64 (787 : Int), PV.int IntKind.i64 (0 : Int)],
        [PV.int IntKind.i64 (2 : Int), PV.int IntKind.i64 (836 : Int), PV.int IntKind.i64 (836 : Int),
          PV.int IntKind.i64 (776 : Int), PV.int IntKind.i64 (769 : Int)],
        [PV.int IntKind.i64 (2 : Int), PV.int IntKind.i64 (884 : Int), PV.int IntKind.i64 (884 : Int),
          PV.int IntKind.i64 (697 : Int), PV.int IntKind.i64 (0 : Int)],
        [PV.int IntKind.i64 (2 : Int), PV.int IntKind.i64 (894 : Int), PV.int IntKind.i64 (894 : Int),
          PV.int IntKind.i64 (59 : Int), PV.int IntKind.i64 (0 : Int)],
        [PV.int IntKind.i64 (2 : Int), PV.int IntKind.i64 (901 : Int), PV.int IntKind.i64 (901 : Int),
          PV.int IntKind.i64 (168 : Int), PV.int IntKind.i64 (769 : Int)],
        [PV.int IntKind.i64 (2 : Int), PV.int IntKind.i64 (902 : Int), PV.int IntKind.i64 (902 : Int),
          PV.int IntKind.i64 (913 : Int), PV.int IntKind.i64 (769 : Int)],
        [PV.int IntKind.i64 (2 : Int), PV.int IntKind.i64 (903 : Int), PV.int IntKind.i64 (903 : Int),
          PV.int IntKind.i64 (183 : Int), PV.int IntKind.i64 (0 : Int)],
        [PV.int IntKind.i64 (2 : Int), PV.int IntKind.i64 (904 : Int), PV.int IntKind.i64 (904 : Int),
          PV.int IntKind.i64 (917 : Int), PV.int IntKind.i64 (769 : Int)],
        [PV.int IntKind.i64 (2 : Int), PV.int IntKind.i64 (912 : Int), PV.int IntKind.i64 (912 : Int),
          PV.int IntKind.i64 (970 : Int), PV.int IntKind.i64 (769 : Int)],
        [PV.int IntKind.i64 (2 : Int), PV.int IntKind.i64 (940 : Int), PV.int IntKind.i64 (940 : Int),
          PV.int IntKind.i64 (945 : Int), PV.int IntKind.i64 (769 : Int)],
        [PV.int IntKind.i64 (2 : Int), PV.int IntKind.i64 (941 : Int), PV.int IntKind.i64 (941 : Int),
          PV.int IntKind.i64 (949 : Int), PV.int IntKind.i64 (769 : Int)],
        [PV.int IntKind.i64 (2 : Int), PV.int IntKind.i64 (944 : Int), PV.int IntKind.i64 (944 : Int),
          PV.int IntKind.i64 (971 : Int), PV.int IntKind.i64 (769 : Int)],
        [PV.int IntKind.i64 (2 : Int), PV.int IntKind.i64 (970 : Int), PV.int IntKind.i64 (970 : Int),
          PV.int IntKind.i64 (953 : Int), PV.int IntKind.i64 (776 : Int)],
        [PV.int IntKind.i64 (2 : Int), PV.int IntKind.i64 (971 : Int), PV.int IntKind.i64 (971 : Int),
          PV.int IntKind.i64 (965 : Int), PV.int IntKind.i64 (776 : Int)],
        [PV.int IntKind.i64 (2 : Int), PV.int IntKind.i64 (2345 : Int), PV.int IntKind.i64 (2345 : Int),
          PV.int IntKind.i64 (2344 : Int), PV.int IntKind.i64 (2364 : Int)],
        [PV.int IntKind.i64 (2 : Int), PV.int IntKind.i64 (2353 : Int), PV.int IntKind.i64 (2353 : Int),
          PV.int IntKind.i64 (2352 : Int), PV.int IntKind.i64 (2364 : Int)],
        [PV.int IntKind.i64 (2 : Int), PV.int IntKind.i64 (2356 : Int), PV.int IntKind.i64 (2356 : Int),
          PV.int IntKind.i64 (2355 : Int), PV.int IntKind.i64 (2364 : Int)],
        [PV.int IntKind.i64 (2 : Int), PV.int IntKind.i64 (2392 : Int), PV.int IntKind.i64 (2392 : Int),
          PV.int IntKind.i64 (2325 : Int), PV.int IntKind.i64 (2364 : Int)],
        [PV.int IntKind.i64 (2 : Int), PV.int IntKind.i64 (2393 : Int), PV.int IntKind.i64 (2393 : Int),
          PV.int IntKind.i64 (2326 : Int), PV.int IntKind.i64 (2364 : Int)],
        [PV.int IntKind.i64 (2 : Int), PV.int IntKind.i64 (2396 : Int), PV.int IntKind.i64 (2396 : Int),
          PV.int IntKind.i64 (2337 : Int), PV.int IntKind.i64 (2364 : Int)],
        [PV.int IntKind.i64 (2 : Int), PV.int IntKind.i64 (2507 : Int), PV.int IntKind.i64 (2507 : Int),
          PV.int IntKind.i64 (2503 : Int), PV.int IntKind.i64 (2494 : Int)],
        [PV.int IntKind.i64 (2 : Int), PV.int IntKind.i64 (2508 : Int), PV.int IntKind.i64 (2508 : Int),
          PV.int IntKind.i64 (2503 : Int), PV.int IntKind.i64 (2519 : Int)],
        [PV.int IntKind.i64 (2 : Int), PV.int IntKind.i64 (3018 : Int), PV.int IntKind.i64 (3018 : Int),
          PV.int IntKind.i64 (3014 : Int), PV.int IntKind.i64 (3006 : Int)],
        [PV.int IntKind.i64 (2 : Int), PV.int IntKind.i64 (3955 : Int), PV.int IntKind.i64 (3955 : Int),
          PV.int IntKind.i64 (3953 : Int), PV.int IntKind.i64 (3954 : Int)],
        [PV.int IntKind.i64 (2 : Int), PV.int IntKind.i64 (3957 : Int), PV.int IntKind.i64 (3957 : Int),
          PV.int IntKind.i64 (3953 : Int), PV.int IntKind.i64 (3956 : Int)],
        [PV.int IntKind.i64 (2 : Int), PV.int IntKind.i64 (7692 : Int), PV.int IntKind.i64 (7692 : Int),
          PV.int IntKind.i64 (68 : Int), PV.int IntKind.i64 (803 : Int)],
        [PV.int IntKind.i64 (2 : Int), PV.int IntKind.i64 (7693 : Int), PV.int IntKind.i64 (7693 : Int),
          PV.int IntKind.i64 (100 : Int), PV.int IntKind.i64 (803 : Int)],
        [PV.int IntKind.i64 (2 : Int), PV.int IntKind.i64 (7776 : Int), PV.int IntKind.i64 (7776 : Int),
          PV.int IntKind.i64 (83 : Int), PV.int IntKind.i64 (775 : Int)],
        [PV.int IntKind.i64 (2 : Int), PV.int IntKind.i64 (7777 : Int), PV.int IntKind.i64 (7777 : Int),
          PV.int IntKind.i64 (115 : Int), PV.int IntKind.i64 (775 : Int)],
        [PV.int IntKind.i64 (2 : Int), PV.int IntKind.i64 (7778 : Int), PV.int IntKind.i64 (7778 : Int),
          PV.int IntKind.i64 (83 : Int), PV.int IntKind.i64 (803 : Int)],
        [PV.int IntKind.i64 (2 : Int), PV.int IntKind.i64 (7779 : Int), PV.int IntKind.i64 (7779 : Int),
          PV.int IntKind.i64 (115 : Int), PV.int IntKind.i64 (803 : Int)],
        [PV.int IntKind.i64 (2 : Int), PV.int IntKind.i64 (7784 : Int), PV.int IntKind.i64 (7784 : Int),
          PV.int IntKind.i64 (7778 : Int), PV.int IntKind.i64 (775 : Int)],
        [PV.int IntKind.i64 (2 : Int), PV.int IntKind.i64 (7785 : Int), PV.int IntKind.i64 (7785 : Int),
          PV.int IntKind.i64 (7779 : Int), PV.int IntKind.i64 (775 : Int)],
        [PV.int IntKind.i64 (2 : Int), PV.int IntKind.i64 (7840 : Int), PV.int IntKind.i64 (7840 : Int),
          PV.int IntKind.i64 (65 : Int), PV.int IntKind.i64 (803 : Int)],
        [PV.int IntKind.i64 (2 : Int), PV.int IntKind.i64 (7841 : Int), PV.int IntKind.i64 (7841 : Int),
          PV.int IntKind.i64 (97 : Int), PV.int IntKind.i64 (803 : Int)],
        [PV.int IntKind.i64 (2 : Int), PV.int IntKind.i64 (7842 : Int), PV.int IntKind.i64 (7842 : Int),
          PV.int IntKind.i64 (65 : Int), PV.int IntKind.i64 (777 : Int)],
        [PV.int IntKind.i64 (2 : Int), PV.int IntKind.i64 (7843 : Int), PV.int IntKind.i64 (7843 : Int),
          PV.int IntKind.i64 (97 : Int), PV.int IntKind.i64 (777 : Int)],
        [PV.int IntKind.i64 (2 : Int), PV.int IntKind.i64 (7844 : Int), PV.int IntKind.i64 (7844 : Int),
          PV.int IntKind.i64 (194 : Int), PV.int IntKind.i64 (769 : Int)],
        [PV.int IntKind.i64 (2 : Int), PV.int IntKind.i64 (7845 : Int), PV.int IntKind.i64 (7845 : Int),
          PV.int IntKind.i64 (226 : Int), PV.int IntKind.i64 (769 : Int)],
        [PV.int IntKind.i64 (2 : Int), PV.int IntKind.i64 (7846 : Int), PV.int IntKind.i64 (7846 : Int),
          PV.int IntKind.i64 (194 : Int), PV.int IntKind.i64 (768 : Int)],
        [PV.int IntKind.i64 (2 : Int), PV.int IntKind.i64 (7847 : Int), PV.int IntKind.i64 (7847 : Int),
          PV.int IntKind.i64 (226 : Int), PV.int IntKind.i64 (768 : Int)],
        [PV.int IntKind.i64 (2 : Int), PV.int IntKind.i64 (7848 : Int), PV.int IntKind.i64 (7848 : Int),
          PV.int IntKind.i64 (194 : Int), PV.int IntKind.i64 (777 : Int)],
        [PV.int IntKind.i64 (2 : Int), PV.int IntKind.i64 (7849 : Int), PV.int IntKind.i64 (7849 : Int),
          PV.int IntKind.i64 (226 : Int), PV.int IntKind.i64 (777 : Int)],
        [PV.int IntKind.i64 (2 : Int), PV.int IntKind.i64 (7850 : Int), PV.int IntKind.i64 (7850 : Int),
          PV.int IntKind.i64 (194 : Int), PV.int IntKind.i64 (771 : Int)],
        [PV.int IntKind.i64 (2 : Int), PV.int IntKind.i64 (7851 : Int), PV.int IntKind.i64 (7851 : Int),
          PV.int IntKind.i64 (226 : Int), PV.int IntKind.i64 (771 : Int)],
        [PV.int IntKind.i64 (2 : Int), PV.int IntKind.i64 (7852 : Int), PV.int IntKind.i64 (7852 : Int),
          PV.int IntKind.i64 (7840 : Int), PV.int IntKind.i64 (770 : Int)],
        [PV.int IntKind.i64 (2 : Int), PV.int IntKind.i64 (7853 : Int), PV.int IntKind.i64 (7853 : Int),
          PV.int IntKind.i64 (7841 : Int), PV.int IntKind.i64 (770 : Int)],
        [PV.int IntKind.i64 (2 : Int), PV.int IntKind.i64 (7854 : Int), PV.int IntKind.i64 (7854 : Int),
          PV.int IntKind.i64 (258 : Int), PV.int IntKind.i64 (769 : Int)],
        [PV.int IntKind.i64 (2 : Int), PV.int IntKind.i64 (7855 : Int), PV.int IntKind.i64 (7855 : Int),
          PV.int IntKind.i64 (259 : Int), PV.int IntKind.i64 (769 : Int)],
        [PV.int IntKind.i64 (2 : Int), PV.int IntKind.i64 (7856 : Int), PV.int IntKind.i64 (7856 : Int),
          PV.int IntKind.i64 (258 : Int), PV.int IntKind.i64 (768 : Int)],
        [PV.int IntKind.i64 (2 : Int), PV.int IntKind.i64 (7857 : Int), PV.int IntKind.i64 (7857 : Int),
          PV.int IntKind.i64 (259 : Int), PV.int IntKind.i64 (768 : Int)],
        [PV.int IntKind.i64 (2 : Int), PV.int IntKind.i64 (7858 : Int), PV.int IntKind.i64 (7858 : Int),
          PV.int IntKind.i64 (258 : Int), PV.int IntKind.i64 (777 : Int)],
        [PV.int IntKind.i64 (2 : Int), PV.int IntKind.i64 (7859 : Int), PV.int IntKind.i64 (7859 : Int),
          PV.int IntKind.i64 (259 : Int), PV.int IntKind.i64 (777 : Int)],
        [PV.int IntKind.i64 (2 : Int), PV.int IntKind.i64 (7860 : Int), PV.int IntKind.i64 (7860 : Int),
          PV.int IntKind.i64 (258 : Int), PV.int IntKind.i64 (771 : Int)],
        [PV.int IntKind.i64 (2 : Int), PV.int IntKind.i64 (7861 : Int), PV.int IntKind.i64 (7861 : Int),
          PV.int IntKind.i64 (259 : Int), PV.int IntKind.i64 (771 : Int)],
        [PV.int IntKind.i64 (2 : Int), PV.int IntKind.i64 (7862 : Int), PV.int IntKind.i64 (7862 : Int),
          PV.int IntKind.i64 (7840 : Int), PV.int IntKind.i64 (774 : Int)],
        [PV.int IntKind.i64 (2 : Int), PV.int IntKind.i64 (7863 : Int), PV.int IntKind.i64 (7863 : Int),
          PV.int IntKind.i64 (7841 : Int), PV.int IntKind.i64 (774 : Int)],
        [PV.int IntKind.i64 (2 : Int), PV.int IntKind.i64 (7884 : Int), PV.int IntKind.i64 (7884 : Int),
          PV.int IntKind.i64 (79 : Int), PV.int IntKind.i64 (803 : Int)],
        [PV.int IntKind.i64 (2 : Int), PV.int IntKind.i64 (7885 : Int), PV.int IntKind.i64 (7885 : Int),
          PV.int IntKind.i64 (111 : Int), PV.int IntKind.i64 (803 : Int)],
        [PV.int IntKind.i64 (2 : Int), PV.int IntKind.i64 (7896 : Int), PV.int IntKind.i64 (7896 : Int),
          PV.int IntKind.i64 (7884 : Int), PV.int IntKind.i64 (770 : Int)],
        [PV.int IntKind.i64 (2 : Int), PV.int IntKind.i64 (7897 : Int), PV.int IntKind.i64 (7897 : Int),
          PV.int IntKind.i64 (7885 : Int), PV.int IntKind.i64 (770 : Int)],
        [PV.int IntKind.i64 (2 : Int), PV.int IntKind.i64 (7936 : Int), PV.int IntKind.i64 (7936 : Int),
          PV.int IntKind.i64 (945 : Int), PV.int IntKind.i64 (787 : Int)],
        [PV.int IntKind.i64 (2 : Int), PV.int IntKind.i64 (7937 : Int), PV.int IntKind.i64 (7937 : Int),
          PV.int IntKind.i64 (945 : Int), PV.int IntKind.i64 (788 : Int)],
        [PV.int IntKind.i64 (2 : Int), PV.int IntKind.i64 (7938 : Int), PV.int IntKind.i64 (7938 : Int),
          PV.int IntKind.i64 (7936 : Int), PV.int IntKind.i64 (768 : Int)],
        [PV.int IntKind.i64 (2 : Int), PV.int IntKind.i64 (7939 : Int), PV.int IntKind.i64 (7939 : Int),
          PV.int IntKind.i64 (7937 : Int), PV.int IntKind.i64 (768 : Int)],
        [PV.int IntKind.i64 (2 : Int), PV.int IntKind.i64 (8049 : Int), PV.int IntKind.i64 (8049 : Int),
          PV.int IntKind.i64 (940 : Int), PV.int IntKind.i64 (0 : Int)],
        [PV.int IntKind.i64 (2 : Int), PV.int IntKind.i64 (8064 : Int), PV.int IntKind.i64 (8064 : Int),
          PV.int IntKind.i64 (7936 : Int), PV.int IntKind.i64 (837 : Int)],
        [PV.int IntKind.i64 (2 : Int), PV.int IntKind.i64 (8115 : Int), PV.int IntKind.i64 (8115 : Int),
          PV.int IntKind.i64 (945 : Int), PV.int IntKind.i64 (837 : Int)],
        [PV.int IntKind.i64 (2 : Int), PV.int IntKind.i64 (8486 : Int), PV.int IntKind.i64 (8486 : Int),
          PV.int IntKind.i64 (937 : Int), PV.int IntKind.i64 (0 : Int)],
        [PV.int IntKind.i64 (2 : Int), PV.int IntKind.i64 (8490 : Int), PV.int IntKind.i64 (8490 : Int),
          PV.int IntKind.i64 (75 : Int), PV.int IntKind.i64 (0 : Int)],
        [PV.int IntKind.i64 (2 : Int), PV.int IntKind.i64 (8491 : Int), PV.int IntKind.i64 (8491 : Int),
          PV.int IntKind.i64 (197 : Int), PV.int IntKind.i64 (0 : Int)],
        [PV.int IntKind.i64 (2 : Int), PV.int IntKind.i64 (8800 : Int), PV.int IntKind.i64 (8800 : Int),
          PV.int IntKind.i64 (61 : Int), PV.int IntKind.i64 (824 : Int)],
        [PV.int IntKind.i64 (2 : Int), PV.int IntKind.i64 (8814 : Int), PV.int IntKind.i64 (8814 : Int),
          PV.int IntKind.i64 (60 : Int), PV.int IntKind.i64 (824 : Int)],
        [PV.int IntKind.i64 (2 : Int), PV.int IntKind.i64 (10972 : Int), PV.int IntKind.i64 (10972 : Int),
          PV.int IntKind.i64 (10973 : Int), PV.int IntKind.i64 (824 : Int)],
        [PV.int IntKind.i64 (2 : Int), PV.int IntKind.i64 (12364 : Int), PV.int IntKind.i64 (12364 : Int),
          PV.int IntKind.i64 (12363 : Int), PV.int IntKind.i64 (12441 : Int)],
        [PV.int IntKind.i64 (2 : Int), PV.int IntKind.i64 (12366 : Int), PV.int IntKind.i64 (12366 : Int),
          PV.int IntKind.i64 (12365 : Int), PV.int IntKind.i64 (12441 : Int)],
        [PV.int IntKind.i64 (2 : Int), PV.int IntKind.i64 (12400 : Int), PV.int IntKind.i64 (12400 : Int),
          PV.int IntKind.i64 (12399 : Int), PV.int IntKind.i64 (12441 : Int)],
        [PV.int IntKind.i64 (2 : Int), PV.int IntKind.i64 (12401 : Int), PV.int IntKind.i64 (12401 : Int),
          PV.int IntKind.i64 (12399 : Int), PV.int IntKind.i64 (12442 : Int)],
        [PV.int IntKind.i64 (2 : Int), PV.int IntKind.i64 (12460 : Int), PV.int IntKind.i64 (12460 : Int),
          PV.int IntKind.i64 (12459 : Int), PV.int IntKind.i64 (12441 : Int)],
        [PV.int IntKind.i64 (2 : Int), PV.int IntKind.i64 (12497 : Int), PV.int IntKind.i64 (12497 : Int),
          PV.int IntKind.i64 (12495 : Int), PV.int IntKind.i64 (12442 : Int)],
        [PV.int IntKind.i64 (2 : Int), PV.int IntKind.i64 (12532 : Int), PV.int IntKind.i64 (12532 : Int),
          PV.int IntKind.i64 (12454 : Int), PV.int IntKind.i64 (12441 : Int)],
        [PV.int IntKind.i64 (2 : Int), PV.int IntKind.i64 (63744 : Int), PV.int IntKind.i64 (63744 : Int),
          PV.int IntKind.i64 (35912 : Int), PV.int IntKind.i64 (0 : Int)],
        [PV.int IntKind.i64 (2 : Int), PV.int IntKind.i64 (63745 : Int), PV.int IntKind.i64 (63745 : Int),
          PV.int IntKind.i64 (26356 : Int), PV.int IntKind.i64 (0 : Int)],
        [PV.int IntKind.i64 (2 : Int), PV.int IntKind.i64 (64285 : Int), PV.int IntKind.i64 (64285 : Int),
          PV.int IntKind.i64 (1497 : Int), PV.int IntKind.i64 (1460 : Int)],
        [PV.int IntKind.i64 (2 : Int), PV.int IntKind.i64 (64287 : Int), PV.int IntKind.i64 (64287 : Int),
          PV.int IntKind.i64 (1522 : Int), PV.int IntKind.i64 (1463 : Int)],
        [PV.int IntKind.i64 (2 : Int), PV.int IntKind.i64 (64298 : Int), PV.int IntKind.i64 (64298 : Int),
          PV.int IntKind.i64 (1513 : Int), PV.int IntKind.i64 (1473 : Int)],
        [PV.int IntKind.i64 (2 : Int), PV.int IntKind.i64 (64299 : Int), PV.int IntKind.i64 (64299 : Int),
          PV.int IntKind.i64 (1513 : Int), PV.int IntKind.i64 (1474 : Int)],
        [PV.int IntKind.i64 (2 : Int), PV.int IntKind.i64 (64300 : Int), PV.int IntKind.i64 (64300 : Int),
          PV.int IntKind.i64 (64329 : Int), PV.int IntKind.i64 (1473 : Int)],
        [PV.int IntKind.i64 (2 : Int), PV.int IntKind.i64 (64329 : Int), PV.int IntKind.i64 (64329 : Int),
          PV.int IntKind.i64 (1513 : Int), PV.int IntKind.i64 (1468 : Int)],
        [PV.int IntKind.i64 (2 : Int), PV.int IntKind.i64 (119134 : Int), PV.int IntKind.i64 (119134 : Int),
          PV.int IntKind.i64 (119127 : Int), PV.int IntKind.i64 (119141 : Int)]])
theorem e_api_pairs  (R : PV → Prop) : aFn Try.prog (fun _ => none) Try.f73 [0] (fun _ => none) (Try.f73.body.getD .skip) [] R = r_api_pairs  R := by kernel_rfl
theorem a_api_pairs  {R : PV → Prop} (h : r_api_pairs  R) : PCall Try.prog 73 [] R :=
  PCall.of Try.func73 (by kernel_rfl) (by kernel_rfl) (Nat.le_of_ble_eq_true (by kernel_rfl)) (Eq.mpr (e_api_pairs  R) h)

def r_api_outs  (R : PV → Prop) : Prop :=

  R
    (PV.sl false true
      [[PV.int IntKind.i64 (3 : Int), PV.int IntKind.i64 (2392 : Int), PV.int IntKind.i64 (2393 : Int),
          PV.int IntKind.i64 (1 : Int), PV.int IntKind.i64 (0 : Int)],
        [PV.int IntKind.i64 (3 : Int), PV.int IntKind.i64 (2396 : Int), PV.int IntKind.i64 (2396 : Int),
          PV.int IntKind.i64 (1 : Int), PV.int IntKind.i64 (0 : Int)],
        [PV.int IntKind.i64 (3 : Int), PV.int IntKind.i64 (10972 : Int), PV.int IntKind.i64 (10972 : Int),
          PV.int IntKind.i64 (1 : Int), PV.int IntKind.i64 (0 : Int)],
        [PV.int IntKind.i64 (3 : Int), PV.int IntKind.i64 (64285 : Int), PV.int IntKind.i64 (64285 : Int),
          PV.int IntKind.i64 (1 : Int), PV.int IntKind.i64 (0 : Int)],
        [PV.int IntKind.i64 (3 : Int), PV.int IntKind.i64 (64287 : Int), PV.int IntKind.i64 (64287 : Int),
          PV.int IntKind.i64 (1 : Int), PV.int IntKind.i64 (0 : Int)],
        [PV.int IntKind.i64 (3 : Int), PV.int IntKind.i64 (64298 : Int), PV.int IntKind.i64 (64300 : Int),
          PV.int IntKind.i64 (1 : Int), PV.int IntKind.i64 (0 : Int)],
        [PV.int IntKind.i64 (3 : Int), PV.int IntKind.i64 (64329 : Int), PV.int IntKind.i64 (64329 : Int),
          PV.int IntKind.i64 (1 : Int), PV.int IntKind.i64 (0 : Int)],
        [PV.int IntKind.i64 (3 : Int), PV.int IntKind.i64 (119134 : Int), PV.int IntKind.i64 (119134 : Int),
          PV.int IntKind.i64 (1 : Int), PV.int IntKind.i64 (0 : Int)]])
theorem e_api_outs  (R : PV → Prop) : aFn Try.prog (fun _ => none) Try.f74 [0] (fun _ => none) (Try.f74.body.getD .skip) [] R = r_api_outs  R := by kernel_rfl
theorem a_api_outs  {R : PV → Prop} (h : r_api_outs  R) : PCall Try.prog 74 [] R :=
  PCall.of Try.func74 (by kernel_rfl) (by kernel_rfl) (Nat.le_of_ble_eq_true (by kernel_rfl)) (Eq.mpr (e_api_outs  R) h)

def r_api_breaks  (R : PV → Prop) : Prop :=

  R
    (PV.sl false true
      [[PV.int IntKind.i64 (4 : Int), PV.int IntKind.i64 (0 : Int), PV.int IntKind.i64 (9 : Int),
          PV.int IntKind.i64 (3 : Int), PV.int IntKind.i64 (0 : Int)],
        [PV.int IntKind.i64 (4 : Int), PV.int IntKind.i64 (10 : Int), PV.int IntKind.i64 (10 : Int),
          PV.int IntKind.i64 (2 : Int), PV.int IntKind.i64 (0 : Int)],
        [PV.int IntKind.i64 (4 : Int), PV.int IntKind.i64 (11 : Int), PV.int IntKind.i64 (12 : Int),
          PV.int IntKind.i64 (3 : Int), PV.int IntKind.i64 (0 : Int)],
        [PV.int IntKind.i64 (4 : Int), PV.int IntKind.i64 (13 : Int), PV.int IntKind.i64 (13 : Int),
          PV.int IntKind.i64 (1 : Int), PV.int IntKind.i64 (0 : Int)],
        [PV.int IntKind.i64 (4 : Int), PV.int IntKind.i64 (14 : Int), PV.int IntKind.i64 (31 : Int),
          PV.int IntKind.i64 (3 : Int), PV.int IntKind.i64 (0 : Int)],
        [PV.int IntKind.i64 (4 : Int), PV.int IntKind.i64 (127 : Int), PV.int IntKind.i64 (159 : Int),
          PV.int IntKind.i64 (3 : Int), PV.int IntKind.i64 (0 : Int)],
        [PV.int IntKind.i64 (4 : Int), PV.int IntKind.i64 (173 : Int), PV.int IntKind.i64 (173 : Int),
          PV.int IntKind.i64 (3 : Int), PV.int IntKind.i64 (0 : Int)],
        [PV.int IntKind.i64 (4 : Int), PV.int IntKind.i64 (768 : Int), PV.int IntKind.i64 (879 : Int),
          PV.int IntKind.i64 (4 : Int), PV.int IntKind.i64 (0 : Int)],
        [PV.int IntKind.i64 (4 : Int), PV.int IntKind.i64 (1155 : Int), PV.int IntKind.i64 (1161 : Int),
          PV.int IntKind.i64 (4 : Int), PV.int IntKind.i64 (0 : Int)],
        [PV.int IntKind.i64 (4 : Int), PV.int IntKind.i64 (1425 : Int), PV.int IntKind.i64 (1469 : Int),
          PV.int IntKind.i64 (4 : Int), PV.int IntKind.i64 (0 : Int)],
        [PV.int IntKind.i64 (4 : Int), PV.int IntKind.i64 (1471 : Int), PV.int IntKind.i64 (1471 : Int),
          PV.int IntKind.i64 (4 : Int), PV.int IntKind.i64 (0 : Int)],
        [PV.int IntKind.i64 (4 : Int), PV.int IntKind.i64 (1473 : Int), PV.int IntKind.i64 (1474 : Int),
          PV.int IntKind.i64 (4 : Int), PV.int IntKind.i64 (0 : Int)],
        [PV.int IntKind.i64 (4 : Int), PV.int IntKind.i64 (1479 : Int), PV.int IntKind.i64 (1479 : Int),
          PV.int IntKind.i64 (4 : Int), PV.int IntKind.i64 (0 : Int)],
        [PV.int IntKind.i64 (4 : Int), PV.int IntKind.i64 (1536 : Int), PV.int IntKind.i64 (1541 : Int),
          PV.int IntKind.i64 (7 : Int), PV.int IntKind.i64 (0 : Int)],
        [PV.int IntKind.i64 (4 : Int), PV.int IntKind.i64 (1611 : Int), PV.int IntKind.i64 (1631 : Int),
          PV.int IntKind.i64 (4 : Int), PV.int IntKind.i64 (0 : Int)],
        [PV.int IntKind.i64 (4 : Int), PV.int IntKind.i64 (1648 : Int), PV.int IntKind.i64 (1648 : Int),
          PV.int IntKind.i64 (4 : Int), PV.int IntKind.i64 (0 : Int)],
        [PV.int IntKind.i64 (4 : Int), PV.int IntKind.i64 (1757 : Int), PV.int IntKind.i64 (1757 : Int),
          PV.int IntKind.i64 (7 : Int), PV.int IntKind.i64 (0 : Int)],
        [PV.int IntKind.i64 (4 : Int), PV.int IntKind.i64 (1807 : Int), PV.int IntKind.i64 (1807 : Int),
          PV.int IntKind.i64 (7 : Int), PV.int IntKind.i64 (0 : Int)],
        [PV.int IntKind.i64 (4 : Int), PV.int IntKind.i64 (2307 : Int), PV.int IntKind.i64 (2307 : Int),
          PV.int IntKind.i64 (8 : Int), PV.int IntKind.i64 (0 : Int)],
        [PV.int IntKind.i64 (4 : Int), PV.int IntKind.i64 (2362 : Int), PV.int IntKind.i64 (2362 : Int),
          PV.int IntKind.i64 (4 : Int), PV.int IntKind.i64 (0 : Int)],
        [PV.int IntKind.i64 (4 : Int), PV.int IntKind.i64 (2363 : Int), PV.int IntKind.i64 (2363 : Int),
          PV.int IntKind.i64 (8 : Int), PV.int IntKind.i64 (0 : Int)],
        [PV.int IntKind.i64 (4 : Int), PV.int IntKind.i64 (2364 : Int), PV.int IntKind.i64 (2364 : Int),
          PV.int IntKind.i64 (4 : Int), PV.int IntKind.i64 (0 : Int)],
        [PV.int IntKind.i64 (4 : Int), PV.int IntKind.i64 (2366 : Int), PV.int IntKind.i64 (2368 : Int),
          PV.int IntKind.i64 (8 : Int), PV.int IntKind.i64 (0 : Int)],
        [PV.int IntKind.i64 (4 : Int), PV.int IntKind.i64 (2369 : Int), PV.int IntKind.i64 (2376 : Int),
          PV.int IntKind.i64 (4 : Int), PV.int IntKind.i64 (0 : Int)],
        [PV.int IntKind.i64 (4 : Int), PV.int IntKind.i64 (2377 : Int), PV.int IntKind.i64 (2380 : Int),
          PV.int IntKind.i64 (8 : Int), PV.int IntKind.i64 (0 : Int)],
        [PV.int IntKind.i64 (4 : Int), PV.int IntKind.i64 (2381 : Int), PV.int IntKind.i64 (2381 : Int),
          PV.int IntKind.i64 (4 : Int), PV.int IntKind.i64 (0 : Int)],
        [PV.int IntKind.i64 (4 : Int), PV.int IntKind.i64 (2385 : Int), PV.int IntKind.i64 (2391 : Int),
          PV.int IntKind.i64 (4 : Int), PV.int IntKind.i64 (0 : Int)],
        [PV.int IntKind.i64 (4 : Int), PV.int IntKind.i64 (2434 : Int), PV.int IntKind.i64 (2435 : Int),
          PV.int IntKind.i64 (8 : Int), PV.int IntKind.i64 (0 : Int)],
        [PV.int IntKind.i64 (4 : Int), PV.int IntKind.i64 (2492 : Int), PV.int IntKind.i64 (2492 : Int),
          PV.int IntKind.i64 (4 : Int), PV.int IntKind.i64 (0 : Int)],
        [PV.int IntKind.i64 (4 : Int), PV.int IntKind.i64 (2494 : Int), PV.int IntKind.i64 (2494 : Int),
          PV.int IntKind.i64 (4 : Int), PV.int IntKind.i64 (0 : Int)],
        [PV.int IntKind.i64 (4 : Int), PV.int IntKind.i64 (2495 : Int), PV.int IntKind.i64 (2496 : Int),
          PV.int IntKind.i64 (8 : Int), PV.int IntKind.i64 (0 : Int)],
        [PV.int IntKind.i64 (4 : Int), PV.int IntKind.i64 (2503 : Int), PV.int IntKind.i64 (2504 : Int),
          PV.int IntKind.i64 (8 : Int), PV.int IntKind.i64 (0 : Int)],
        [PV.int IntKind.i64 (4 : Int), PV.int IntKind.i64 (2507 : Int), PV.int IntKind.i64 (2508 : Int),
          PV.int IntKind.i64 (8 : Int), PV.int IntKind.i64 (0 : Int)],
        [PV.int IntKind.i64 (4 : Int), PV.int IntKind.i64 (2509 : Int), PV.int IntKind.i64 (2509 : Int),
          PV.int IntKind.i64 (4 : Int), PV.int IntKind.i64 (0 : Int)],
        [PV.int IntKind.i64 (4 : Int), PV.int IntKind.i64 (2519 : Int), PV.int IntKind.i64 (2519 : Int),
          PV.int IntKind.i64 (4 : Int), PV.int IntKind.i64 (0 : Int)],
        [PV.int IntKind.i64 (4 : Int), PV.int IntKind.i64 (3006 : Int), PV.int IntKind.i64 (3006 : Int),
          PV.int IntKind.i64 (4 : Int), PV.int IntKind.i64 (0 : Int)],
        [PV.int IntKind.i64 (4 : Int), PV.int IntKind.i64 (3007 : Int), PV.int IntKind.i64 (3007 : Int),
          PV.int IntKind.i64 (8 : Int), PV.int IntKind.i64 (0 : Int)],
        [PV.int IntKind.i64 (4 : Int), PV.int IntKind.i64 (3014 : Int), PV.int IntKind.i64 (3016 : Int),
          PV.int IntKind.i64 (8 : Int), PV.int IntKind.i64 (0 : Int)],
        [PV.int IntKind.i64 (4 : Int), PV.int IntKind.i64 (3018 : Int), PV.int IntKind.i64 (3020 : Int),
          PV.int IntKind.i64 (8 : Int), PV.int IntKind.i64 (0 : Int)],
        [PV.int IntKind.i64 (4 : Int), PV.int IntKind.i64 (3021 : Int), PV.int IntKind.i64 (3021 : Int),
          PV.int IntKind.i64 (4 : Int), PV.int IntKind.i64 (0 : Int)],
        [PV.int IntKind.i64 (4 : Int), PV.int IntKind.i64 (3633 : Int), PV.int IntKind.i64 (3633 : Int),
          PV.int IntKind.i64 (4 : Int), PV.int IntKind.i64 (0 : Int)],
        [PV.int IntKind.i64 (4 : Int), PV.int IntKind.i64 (3635 : Int), PV.int IntKind.i64 (3635 : Int),
          PV.int IntKind.i64 (8 : Int), PV.int IntKind.i64 (0 : Int)],
        [PV.int IntKind.i64 (4 : Int), PV.int IntKind.i64 (3636 : Int), PV.int IntKind.i64 (3642 : Int),
          PV.int IntKind.i64 (4 : Int), PV.int IntKind.i64 (0 : Int)],
        [PV.int IntKind.i64 (4 : Int), PV.int IntKind.i64 (3655 : Int), PV.int IntKind.i64 (3662 : Int),
          PV.int IntKind.i64 (4 : Int), PV.int IntKind.i64 (0 : Int)],
        [PV.int IntKind.i64 (4 : Int), PV.int IntKind.i64 (3953 : Int), PV.int IntKind.i64 (3966 : Int),
          PV.int IntKind.i64 (4 : Int), PV.int IntKind.i64 (0 : Int)],
        [PV.int IntKind.i64 (4 : Int), PV.int IntKind.i64 (4352 : Int), PV.int IntKind.i64 (4447 : Int),
          PV.int IntKind.i64 (9 : Int), PV.int IntKind.i64 (0 : Int)],
        [PV.int IntKind.i64 (4 : Int), PV.int IntKind.i64 (4448 : Int), PV.int IntKind.i64 (4519 : Int),
          PV.int IntKind.i64 (10 : Int), PV.int IntKind.i64 (0 : Int)],
        [PV.int IntKind.i64 (4 : Int), PV.int IntKind.i64 (4520 : Int), PV.int IntKind.i64 (4607 : Int),
          PV.int IntKind.i64 (11 : Int), PV.int IntKind.i64 (0 : Int)],
        [PV.int IntKind.i64 (4 : Int), PV.int IntKind.i64 (8203 : Int), PV.int IntKind.i64 (8203 : Int),
          PV.int IntKind.i64 (3 : Int), PV.int IntKind.i64 (0 : Int)],
        [PV.int IntKind.i64 (4 : Int), PV.int IntKind.i64 (8204 : Int), PV.int IntKind.i64 (8204 : Int),
          PV.int IntKind.i64 (4 : Int), PV.int IntKind.i64 (0 : Int)],
        [PV.int IntKind.i64 (4 : Int), PV.int IntKind.i64 (8205 : Int), PV.int IntKind.i64 (8205 : Int),
          PV.int IntKind.i64 (5 : Int), PV.int IntKind.i64 (0 : Int)],
        [PV.int IntKind.i64 (4 : Int), PV.int IntKind.i64 (8206 : Int), PV.int IntKind.i64 (8207 : Int),
          PV.int IntKind.i64 (3 : Int), PV.int IntKind.i64 (0 : Int)],
        [PV.int IntKind.i64 (4 : Int), PV.int IntKind.i64 (8232 : Int), PV.int IntKind.i64 (8238 : Int),
          PV.int IntKind.i64 (3 : Int), PV.int IntKind.i64 (0 : Int)],
        [PV.int IntKind.i64 (4 : Int), PV.int IntKind.i64 (8288 : Int), PV.int IntKind.i64 (8303 : Int),
          PV.int IntKind.i64 (3 : Int), PV.int IntKind.i64 (0 : Int)],
        [PV.int IntKind.i64 (4 : Int), PV.int IntKind.i64 (8400 : Int), PV.int IntKind.i64 (8432 : Int),
          PV.int IntKind.i64 (4 : Int), PV.int IntKind.i64 (0 : Int)],
        [PV.int IntKind.i64 (4 : Int), PV.int IntKind.i64 (12330 : Int), PV.int IntKind.i64 (12335 : Int),
          PV.int IntKind.i64 (4 : Int), PV.int IntKind.i64 (0 : Int)],
        [PV.int IntKind.i64 (4 : Int), PV.int IntKind.i64 (12441 : Int), PV.int IntKind.i64 (12442 : Int),
          PV.int IntKind.i64 (4 : Int), PV.int IntKind.i64 (0 : Int)],
        [PV.int IntKind.i64 (4 : Int), PV.int IntKind.i64 (43360 : Int), PV.int IntKind.i64 (43388 : Int),
          PV.int IntKind.i64 (9 : Int), PV.int IntKind.i64 (0 : Int)],
        [PV.int IntKind.i64 (4 : Int), PV.int IntKind.i64 (55216 : Int), PV.int IntKind.i64 (55238 : Int),
          PV.int IntKind.i64 (10 : Int), PV.int IntKind.i64 (0 : Int)],
        [PV.int IntKind.i64 (4 : Int), PV.int IntKind.i64 (55243 : Int), PV.int IntKind.i64 (55291 : Int),
          PV.int IntKind.i64 (11 : Int), PV.int IntKind.i64 (0 : Int)],
        [PV.int IntKind.i64 (4 : Int), PV.int IntKind.i64 (65024 : Int), PV.int IntKind.i64 (65039 : Int),
          PV.int IntKind.i64 (4 : Int), PV.int IntKind.i64 (0 : Int)],
        [PV.int IntKind.i64 (4 : Int), PV.int IntKind.i64 (65056 : Int), PV.int IntKind.i64 (65071 : Int),
          PV.int IntKind.i64 (4 : Int), PV.int IntKind.i64 (0 : Int)],
        [PV.int IntKind.i64 (4 : Int), PV.int IntKind.i64 (65279 : Int), PV.int IntKind.i64 (65279 : Int),
          PV.int IntKind.i64 (3 : Int), PV.int IntKind.i64 (0 : Int)],
        [PV.int IntKind.i64 (4 : Int), PV.int IntKind.i64 (119141 : Int), PV.int IntKind.i64 (119141 : Int),
          PV.int IntKind.i64 (4 : Int), PV.int IntKind.i64 (0 : Int)],
        [PV.int IntKind.i64 (4 : Int), PV.int IntKind.i64 (127462 : Int), PV.int IntKind.i64 (127487 : Int),
          PV.int IntKind.i64 (6 : Int), PV.int IntKind.i64 (0 : Int)],
        [PV.int IntKind.i64 (4 : Int), PV.int IntKind.i64 (127995 : Int), PV.int IntKind.i64 (127999 : Int),
          PV.int IntKind.i64 (4 : Int), PV.int IntKind.i64 (0 : Int)],
        [PV.int IntKind.i64 (4 : Int), PV.int IntKind.i64 (917505 : Int), PV.int IntKind.i64 (917535 : Int),
          PV.int IntKind.i64 (3 : Int), PV.int IntKind.i64 (0 : Int)],
        [PV.int IntKind.i64 (4 : Int), PV.int IntKind.i64 (917536 : Int), PV.int IntKind.i64 (917631 : Int),
          PV.int IntKind.i64 (4 : Int), PV.int IntKind.i64 (0 : Int)],
        [PV.int IntKind.i64 (4 : Int), PV.int IntKind.i64 (917760 : Int), PV.int IntKind.i64 (917999 : Int),
          PV.int IntKind.i64 (4 : Int), PV.int IntKind.i64 (0 : Int)]])
theorem e_api_breaks  (R : PV → Prop) : aFn Try.prog (fun _ => none) Try.f75 [0] (fun _ => none) (Try.f75.body.getD .skip) [] R = r_api_breaks  R := by kernel_rfl
theorem a_api_breaks  {R : PV → Prop} (h : r_api_breaks  R) : PCall Try.prog 75 [] R :=
  PCall.of Try.func75 (by kernel_rfl) (by kernel_rfl) (Nat.le_of_ble_eq_true (by kernel_rfl)) (Eq.mpr (e_api_breaks  R) h)

def r_api_picts  (R : PV → Prop) : Prop :=

  R
    (PV.sl false true
      [[PV.int IntKind.i64 (5 : Int), PV.int IntKind.i64 (169 : Int), PV.int IntKind.i64 (169 : Int),
          PV.int IntKind.i64 (1 : Int), PV.int IntKind.i64 (0 : Int)],
        [PV.int IntKind.i64 (5 : Int), PV.int IntKind.i64 (174 : Int), PV.int IntKind.i64 (174 : Int),
          PV.int IntKind.i64 (1 : Int), PV.int IntKind.i64 (0 : Int)],
        [PV.int IntKind.i64 (5 : Int), PV.int IntKind.i64 (8252 : Int), PV.int IntKind.i64 (8252 : Int),
          PV.int IntKind.i64 (1 : Int), PV.int IntKind.i64 (0 : Int)],
        [PV.int IntKind.i64 (5 : Int), PV.int IntKind.i64 (8265 : Int), PV.int IntKind.i64 (8265 : Int),
          PV.int IntKind.i64 (1 : Int), PV.int IntKind.i64 (0 : Int)],
        [PV.int IntKind.i64 (5 : Int), PV.int IntKind.i64 (8482 : Int), PV.int IntKind.i64 (8482 : Int),
          PV.int IntKind.i64 (1 : Int), PV.int IntKind.i64 (0 : Int)],
        [PV.int IntKind.i64 (5 : Int), PV.int IntKind.i64 (8505 : Int), PV.int IntKind.i64 (8505 : Int),
          PV.int IntKind.i64 (1 : Int), PV.int IntKind.i64 (0 : Int)],
        [PV.int IntKind.i64 (5 : Int), PV.int IntKind.i64 (8596 : Int), PV.int IntKind.i64 (8601 : Int),
          PV.int IntKind.i64 (1 : Int), PV.int IntKind.i64 (0 : Int)],
        [PV.int IntKind.i64 (5 : Int), PV.int IntKind.i64 (8617 : Int), PV.int IntKind.i64 (8618 : Int),
          PV.int IntKind.i64 (1 : Int), PV.int IntKind.i64 (0 : Int)],
        [PV.int IntKind.i64 (5 : Int), PV.int IntKind.i64 (8986 : Int), PV.int IntKind.i64 (8987 : Int),
          PV.int IntKind.i64 (1 : Int), PV.int IntKind.i64 (0 : Int)],
        [PV.int IntKind.i64 (5 : Int), PV.int IntKind.i64 (9193 : Int), PV.int IntKind.i64 (9203 : Int),
          PV.int IntKind.i64 (1 : Int), PV.int IntKind.i64 (0 : Int)],
        [PV.int IntKind.i64 (5 : Int), PV.int IntKind.i64 (9728 : Int), PV.int IntKind.i64 (9733 : Int),
          PV.int IntKind.i64 (1 : Int), PV.int IntKind.i64 (0 : Int)],
        [PV.int IntKind.i64 (5 : Int), PV.int IntKind.i64 (9735 : Int), PV.int IntKind.i64 (9746 : Int),
          PV.int IntKind.i64 (1 : Int), PV.int IntKind.i64 (0 : Int)],
        [PV.int IntKind.i64 (5 : Int), PV.int IntKind.i64 (9748 : Int), PV.int IntKind.i64 (9861 : Int),
          PV.int IntKind.i64 (1 : Int), PV.int IntKind.i64 (0 : Int)],
        [PV.int IntKind.i64 (5 : Int), PV.int IntKind.i64 (9872 : Int), PV.int IntKind.i64 (9989 : Int),
          PV.int IntKind.i64 (1 : Int), PV.int IntKind.i64 (0 : Int)],
        [PV.int IntKind.i64 (5 : Int), PV.int IntKind.i64 (9992 : Int), PV.int IntKind.i64 (10002 : Int),
          PV.int IntKind.i64 (1 : Int), PV.int IntKind.i64 (0 : Int)],
        [PV.int IntKind.i64 (5 : Int), PV.int IntKind.i64 (10084 : Int), PV.int IntKind.i64 (10087 : Int),
          PV.int IntKind.i64 (1 : Int), PV.int IntKind.i64 (0 : Int)],
        [PV.int IntKind.i64 (5 : Int), PV.int IntKind.i64 (127744 : Int), PV.int IntKind.i64 (127994 : Int),
          PV.int IntKind.i64 (1 : Int), PV.int IntKind.i64 (0 : Int)],
        [PV.int IntKind.i64 (5 : Int), PV.int IntKind.i64 (128000 : Int), PV.int IntKind.i64 (128317 : Int),
          PV.int IntKind.i64 (1 : Int), PV.int IntKind.i64 (0 : Int)],
        [PV.int IntKind.i64 (5 : Int), PV.int IntKind.i64 (128326 : Int), PV.int IntKind.i64 (128591 : Int),
          PV.int IntKind.i64 (1 : Int), PV.int IntKind.i64 (0 : Int)],
        [PV.int IntKind.i64 (5 : Int), PV.int IntKind.i64 (128640 : Int), PV.int IntKind.i64 (128767 : Int),
          PV.int IntKind.i64 (1 : Int), PV.int IntKind.i64 (0 : Int)],
        [PV.int IntKind.i64 (5 : Int), PV.int IntKind.i64 (129292 : Int), PV.int IntKind.i64 (129338 : Int),
          PV.int IntKind.i64 (1 : Int), PV.int IntKind.i64 (0 : Int)],
        [PV.int IntKind.i64 (5 : Int), PV.int IntKind.i64 (129351 : Int), PV.int IntKind.i64 (129791 : Int),
          PV.int IntKind.i64 (1 : Int), PV.int IntKind.i64 (0 : Int)]])
theorem e_api_picts  (R : PV → Prop) : aFn Try.prog (fun _ => none) Try.f76 [0] (fun _ => none) (Try.f76.body.getD .skip) [] R = r_api_picts  R := by kernel_rfl
theorem a_api_picts  {R : PV → Prop} (h : r_api_picts  R) : PCall Try.prog 76 [] R :=
  PCall.of Try.func76 (by kernel_rfl) (by kernel_rfl) (Nat.le_of_ble_eq_true (by kernel_rfl)) (Eq.mpr (e_api_picts  R) h)

def r_api_conjs  (R : PV → Prop) : Prop :=

  R
    (PV.sl false true
      [[PV.int IntKind.i64 (6 : Int), PV.int IntKind.i64 (2325 : Int), PV.int IntKind.i64 (2361 : Int),
          PV.int IntKind.i64 (2 : Int), PV.int IntKind.i64 (0 : Int)],
        [PV.int IntKind.i64 (6 : Int), PV.int IntKind.i64 (2381 : Int), PV.int IntKind.i64 (2381 : Int),
          PV.int IntKind.i64 (1 : Int), PV.int IntKind.i64 (0 : Int)],
        [PV.int IntKind.i64 (6 : Int), PV.int IntKind.i64 (2392 : Int), PV.int IntKind.i64 (2399 : Int),
          PV.int IntKind.i64 (2 : Int), PV.int IntKind.i64 (0 : Int)],
        [PV.int IntKind.i64 (6 : Int), PV.int IntKind.i64 (2453 : Int), PV.int IntKind.i64 (2472 : Int),
          PV.int IntKind.i64 (2 : Int), PV.int IntKind.i64 (0 : Int)],
        [PV.int IntKind.i64 (6 : Int), PV.int IntKind.i64 (2509 : Int), PV.int IntKind.i64 (2509 : Int),
          PV.int IntKind.i64 (1 : Int), PV.int IntKind.i64 (0 : Int)]])
theorem e_api_conjs  (R : PV → Prop) : aFn Try.prog (fun _ => none) Try.f77 [0] (fun _ => none) (Try.f77.body.getD .skip) [] R = r_api_conjs  R := by kernel_rfl
theorem a_api_conjs  {R : PV → Prop} (h : r_api_conjs  R) : PCall Try.prog 77 [] R :=
  PCall.of Try.func77 (by kernel_rfl) (by kernel_rfl) (Nat.le_of_ble_eq_true (by kernel_rfl)) (Eq.mpr (e_api_conjs  R) h)

def r_api_wides  (R : PV → Prop) : Prop :=

  R
    (PV.sl false true
      [[PV.int IntKind.i64 (7 : Int), PV.int IntKind.i64 (4352 : Int), PV.int IntKind.i64 (4447 : Int),
          PV.int IntKind.i64 (1 : Int), PV.int IntKind.i64 (0 : Int)],
        [PV.int IntKind.i64 (7 : Int), PV.int IntKind.i64 (8986 : Int), PV.int IntKind.i64 (8987 : Int),
          PV.int IntKind.i64 (1 : Int), PV.int IntKind.i64 (0 : Int)],
        [PV.int IntKind.i64 (7 : Int), PV.int IntKind.i64 (9193 : Int), PV.int IntKind.i64 (9196 : Int),
          PV.int IntKind.i64 (1 : Int), PV.int IntKind.i64 (0 : Int)],
        [PV.int IntKind.i64 (7 : Int), PV.int IntKind.i64 (9748 : Int), PV.int IntKind.i64 (9749 : Int),
          PV.int IntKind.i64 (1 : Int), PV.int IntKind.i64 (0 : Int)],
        [PV.int IntKind.i64 (7 : Int), PV.int IntKind.i64 (11904 : Int), PV.int IntKind.i64 (12350 : Int),
          PV.int IntKind.i64 (1 : Int), PV.int IntKind.i64 (0 : Int)],
        [PV.int IntKind.i64 (7 : Int), PV.int IntKind.i64 (12353 : Int), PV.int IntKind.i64 (13311 : Int),
          PV.int IntKind.i64 (1 : Int), PV.int IntKind.i64 (0 : Int)],
        [PV.int IntKind.i64 (7 : Int), PV.int IntKind.i64 (13312 : Int), PV.int IntKind.i64 (19903 : Int),
          PV.int IntKind.i64 (1 : Int), PV.int IntKind.i64 (0 : Int)],
        [PV.int IntKind.i64 (7 : Int), PV.int IntKind.i64 (19968 : Int), PV.int IntKind.i64 (40959 : Int),
          PV.int IntKind.i64 (1 : Int), PV.int IntKind.i64 (0 : Int)],
        [PV.int IntKind.i64 (7 : Int), PV.int IntKind.i64 (43360 : Int), PV.int IntKind.i64 (43388 : Int),
          PV.int IntKind.i64 (1 : Int), PV.int IntKind.i64 (0 : Int)],
        [PV.int IntKind.i64 (7 : Int), PV.int IntKind.i64 (44032 : Int), PV.int IntKind.i64 (55203 : Int),
          PV.int IntKind.i64 (1 : Int), PV.int IntKind.i64 (0 : Int)],
        [PV.int IntKind.i64 (7 : Int), PV.int IntKind.i64 (63744 : Int), PV.int IntKind.i64 (64255 : Int),
          PV.int IntKind.i64 (1 : Int), PV.int IntKind.i64 (0 : Int)],
        [PV.int IntKind.i64 (7 : Int), PV.int IntKind.i64 (65072 : Int), PV.int IntKind.i64 (65135 : Int),
          PV.int IntKind.i64 (1 : Int), PV.int IntKind.i64 (0 : Int)],
        [PV.int IntKind.i64 (7 : Int), PV.int IntKind.i64 (65281 : Int), PV.int IntKind.i64 (65376 : Int),
          PV.int IntKind.i64 (1 : Int), PV.int IntKind.i64 (0 : Int)],
        [PV.int IntKind.i64 (7 : Int), PV.int IntKind.i64 (65504 : Int), PV.int IntKind.i64 (65510 : Int),
          PV.int IntKind.i64 (1 : Int), PV.int IntKind.i64 (0 : Int)],
        [PV.int IntKind.i64 (7 : Int), PV.int IntKind.i64 (127744 : Int), PV.int IntKind.i64 (127994 : Int),
          PV.int IntKind.i64 (1 : Int), PV.int IntKind.i64 (0 : Int)],
        [PV.int IntKind.i64 (7 : Int), PV.int IntKind.i64 (128000 : Int), PV.int IntKind.i64 (128317 : Int),
          PV.int IntKind.i64 (1 : Int), PV.int IntKind.i64 (0 : Int)],
        [PV.int IntKind.i64 (7 : Int), PV.int IntKind.i64 (128326 : Int), PV.int IntKind.i64 (128591 : Int),
          PV.int IntKind.i64 (1 : Int), PV.int IntKind.i64 (0 : Int)],
        [PV.int IntKind.i64 (7 : Int), PV.int IntKind.i64 (128640 : Int), PV.int IntKind.i64 (128767 : Int),
          PV.int IntKind.i64 (1 : Int), PV.int IntKind.i64 (0 : Int)],
        [PV.int IntKind.i64 (7 : Int), PV.int IntKind.i64 (129292 : Int), PV.int IntKind.i64 (129338 : Int),
          PV.int IntKind.i64 (1 : Int), PV.int IntKind.i64 (0 : Int)],
        [PV.int IntKind.i64 (7 : Int), PV.int IntKind.i64 (129351 : Int), PV.int IntKind.i64 (129791 : Int),
          PV.int IntKind.i64 (1 : Int), PV.int IntKind.i64 (0 : Int)],
        [PV.int IntKind.i64 (7 : Int), PV.int IntKind.i64 (131072 : Int), PV.int IntKind.i64 (262141 : Int),
          PV.int IntKind.i64 (1 : Int), PV.int IntKind.i64 (0 : Int)]])
theorem e_api_wides  (R : PV → Prop) : aFn Try.prog (fun _ => none) Try.f78 [0] (fun _ => none) (Try.f78.body.getD .skip) [] R = r_api_wides  R := by kernel_rfl
theorem a_api_wides  {R : PV → Prop} (h : r_api_wides  R) : PCall Try.prog 78 [] R :=
  PCall.of Try.func78 (by kernel_rfl) (by kernel_rfl) (Nat.le_of_ble_eq_true (by kernel_rfl)) (Eq.mpr (e_api_wides  R) h)

def r_api_letters  (R : PV → Prop) : Prop :=

  R
    (PV.sl false true
      [[PV.int IntKind.i64 (8 : Int), PV.int IntKind.i64 (48 : Int), PV.int IntKind.i64 (57 : Int),
          PV.int IntKind.i64 (1 : Int), PV.int IntKind.i64 (0 : Int)],
        [PV.int IntKind.i64 (8 : Int), PV.int IntKind.i64 (65 : Int), PV.int IntKind.i64 (90 : Int),
          PV.int IntKind.i64 (1 : Int), PV.int IntKind.i64 (0 : Int)],
        [PV.int IntKind.i64 (8 : Int), PV.int IntKind.i64 (95 : Int), PV.int IntKind.i64 (95 : Int),
          PV.int IntKind.i64 (1 : Int), PV.int IntKind.i64 (0 : Int)],
        [PV.int IntKind.i64 (8 : Int), PV.int IntKind.i64 (97 : Int), PV.int IntKind.i64 (122 : Int),
          PV.int IntKind.i64 (1 : Int), PV.int IntKind.i64 (0 : Int)],
        [PV.int IntKind.i64 (8 : Int), PV.int IntKind.i64 (170 : Int), PV.int IntKind.i64 (170 : Int),
          PV.int IntKind.i64 (1 : Int), PV.int IntKind.i64 (0 : Int)],
        [PV.int IntKind.i64 (8 : Int), PV.int IntKind.i64 (181 : Int), PV.int IntKind.i64 (181 : Int),
          PV.int IntKind.i64 (1 : Int), PV.int IntKind.i64 (0 : Int)],
        [PV.int IntKind.i64 (8 : Int), PV.int IntKind.i64 (186 : Int), PV.int IntKind.i64 (186 : Int),
          PV.int IntKind.i64 (1 : Int), PV.int IntKind.i64 (0 : Int)],
        [PV.int IntKind.i64 (8 : Int), PV.int IntKind.i64 (192 : Int), PV.int IntKind.i64 (214 : Int),
          PV.int IntKind.i64 (1 : Int), PV.int IntKind.i64 (0 : Int)],
        [PV.int IntKind.i64 (8 : Int), PV.int IntKind.i64 (216 : Int), PV.int IntKind.i64 (246 : Int),
          PV.int IntKind.i64 (1 : Int), PV.int IntKind.i64 (0 : Int)],
        [PV.int IntKind.i64 (8 : Int), PV.int IntKind.i64 (248 : Int), PV.int IntKind.i64 (705 : Int),
          PV.int IntKind.i64 (1 : Int), PV.int IntKind.i64 (0 : Int)],
        [PV.int IntKind.i64 (8 : Int), PV.int IntKind.i64 (880 : Int), PV.int IntKind.i64 (883 : Int),
          PV.int IntKind.i64 (1 : Int), PV.int IntKind.i64 (0 : Int)],
        [PV.int IntKind.i64 (8 : Int), PV.int IntKind.i64 (886 : Int), PV.int IntKind.i64 (887 : Int),
          PV.int IntKind.i64 (1 : Int), PV.int IntKind.i64 (0 : Int)],
        [PV.int IntKind.i64 (8 : Int), PV.int IntKind.i64 (902 : Int), PV.int IntKind.i64 (902 : Int),
          PV.int IntKind.i64 (1 : Int), PV.int IntKind.i64 (0 : Int)],
        [PV.int IntKind.i64 (8 : Int), PV.int IntKind.i64 (904 : Int), PV.int IntKind.i64 (1023 : Int),
          PV.int IntKind.i64 (1 : Int), PV.int IntKind.i64 (0 : Int)],
        [PV.int IntKind.i64 (8 : Int), PV.int IntKind.i64 (1024 : Int), PV.int IntKind.i64 (1153 : Int),
          PV.int IntKind.i64 (1 : Int), PV.int IntKind.i64 (0 : Int)],
        [PV.int IntKind.i64 (8 : Int), PV.int IntKind.i64 (1162 : Int), PV.int IntKind.i64 (1327 : Int),
          PV.int IntKind.i64 (1 : Int), PV.int IntKind.i64 (0 : Int)],
        [PV.int IntKind.i64 (8 : Int), PV.int IntKind.i64 (1329 : Int), PV.int IntKind.i64 (1366 : Int),
          PV.int IntKind.i64 (1 : Int), PV.int IntKind.i64 (0 : Int)],
        [PV.int IntKind.i64 (8 : Int), PV.int IntKind.i64 (1488 : Int), PV.int IntKind.i64 (1514 : Int),
          PV.int IntKind.i64 (1 : Int), PV.int IntKind.i64 (0 : Int)],
        [PV.int IntKind.i64 (8 : Int), PV.int IntKind.i64 (1568 : Int), PV.int IntKind.i64 (1610 : Int),
          PV.int IntKind.i64 (1 : Int), PV.int IntKind.i64 (0 : Int)],
        [PV.int IntKind.i64 (8 : Int), PV.int IntKind.i64 (2308 : Int), PV.int IntKind.i64 (2361 : Int),
          PV.int IntKind.i64 (1 : Int), PV.int IntKind.i64 (0 : Int)],
        [PV.int IntKind.i64 (8 : Int), PV.int IntKind.i64 (2392 : Int), PV.int IntKind.i64 (2401 : Int),
          PV.int IntKind.i64 (1 : Int), PV.int IntKind.i64 (0 : Int)],
        [PV.int IntKind.i64 (8 : Int), PV.int IntKind.i64 (2437 : Int), PV.int IntKind.i64 (2489 : Int),
          PV.int IntKind.i64 (1 : Int), PV.int IntKind.i64 (0 : Int)],
        [PV.int IntKind.i64 (8 : Int), PV.int IntKind.i64 (3585 : Int), PV.int IntKind.i64 (3632 : Int),
          PV.int IntKind.i64 (1 : Int), PV.int IntKind.i64 (0 : Int)],
        [PV.int IntKind.i64 (8 : Int), PV.int IntKind.i64 (4352 : Int), PV.int IntKind.i64 (4607 : Int),
          PV.int IntKind.i64 (1 : Int), PV.int IntKind.i64 (0 : Int)],
        [PV.int IntKind.i64 (8 : Int), PV.int IntKind.i64 (7680 : Int), PV.int IntKind.i64 (8191 : Int),
          PV.int IntKind.i64 (1 : Int), PV.int IntKind.i64 (0 : Int)],
        [PV.int IntKind.i64 (8 : Int), PV.int IntKind.i64 (8486 : Int), PV.int IntKind.i64 (8486 : Int),
          PV.int IntKind.i64 (1 : Int), PV.int IntKind.i64 (0 : Int)],
        [PV.int IntKind.i64 (8 : Int), PV.int IntKind.i64 (8490 : Int), PV.int IntKind.i64 (8491 : Int),
          PV.int IntKind.i64 (1 : Int), PV.int IntKind.i64 (0 : Int)],
        [PV.int IntKind.i64 (8 : Int), PV.int IntKind.i64 (12353 : Int), PV.int IntKind.i64 (12438 : Int),
          PV.int IntKind.i64 (1 : Int), PV.int IntKind.i64 (0 : Int)],
        [PV.int IntKind.i64 (8 : Int), PV.int IntKind.i64 (12449 : Int), PV.int IntKind.i64 (12538 : Int),
          PV.int IntKind.i64 (1 : Int), PV.int IntKind.i64 (0 : Int)],
        [PV.int IntKind.i64 (8 : Int), PV.int IntKind.i64 (13312 : Int), PV.int IntKind.i64 (19903 : Int),
          PV.int IntKind.i64 (1 : Int), PV.int IntKind.i64 (0 : Int)],
        [PV.int IntKind.i64 (8 : Int), PV.int IntKind.i64 (19968 : Int), PV.int IntKind.i64 (40959 : Int),
          PV.int IntKind.i64 (1 : Int), PV.int IntKind.i64 (0 : Int)],
        [PV.int IntKind.i64 (8 : Int), PV.int IntKind.i64 (44032 : Int), PV.int IntKind.i64 (55203 : Int),
          PV.int IntKind.i64 (1 : Int), PV.int IntKind.i64 (0 : Int)],
        [PV.int IntKind.i64 (8 : Int), PV.int IntKind.i64 (63744 : Int), PV.int IntKind.i64 (64255 : Int),
          PV.int IntKind.i64 (1 : Int), PV.int IntKind.i64 (0 : Int)],
        [PV.int IntKind.i64 (8 : Int), PV.int IntKind.i64 (131072 : Int), PV.int IntKind.i64 (262141 : Int),
          PV.int IntKind.i64 (1 : Int), PV.int IntKind.i64 (0 : Int)]])
theorem e_api_letters  (R : PV → Prop) : aFn Try.prog (fun _ => none) Try.f79 [0] (fun _ => none) (Try.f79.body.getD .skip) [] R = r_api_letters  R := by kernel_rfl
theorem a_api_letters  {R : PV → Prop} (h : r_api_letters  R) : PCall Try.prog 79 [] R :=
  PCall.of Try.func79 (by kernel_rfl) (by kernel_rfl) (Nat.le_of_ble_eq_true (by kernel_rfl)) (Eq.mpr (e_api_letters  R) h)

def r_api_Rows  (R : PV → Prop) : Prop :=

  PCall Try.prog 72 [] fun (v : PV) ↦
    ∃ (n : Bool),
      ∃ (f : Bool),
        ∃ (es : List (List PV)),
          v = PV.sl n f es ∧
            ApOK true [] es 5 40 ∧
              PCall Try.prog 73 [] fun (v1 : PV) ↦
                ∃ (n1 : Bool),
                  ∃ (f1 : Bool),
                    ∃ (es1 : List (List PV)),
                      v1 = PV.sl n1 f1 es1 ∧
                        (szOK es1 5 ∧
                            (([] ++ es).length + es1.length) * 40 ≤ 140737488355328) ∧
                          PCall Try.prog 74 [] fun (v2 : PV) ↦
                            ∃ (n2 : Bool),
                              ∃ (f2 : Bool),
                                ∃ (es2 : List (List PV)),
                                  v2 = PV.sl n2 f2 es2 ∧
                                    (szOK es2 5 ∧
                                        (([] ++ es ++ es1).length + es2.length) * 40 ≤
                                          140737488355328) ∧
                                      PCall Try.prog 75 [] fun (v3 : PV) ↦
                                        ∃ (n3 : Bool),
                                          ∃ (f3 : Bool),
                                            ∃ (es3 : List (List PV)),
                                              v3 = PV.sl n3 f3 es3 ∧
                                                (szOK es3 5 ∧
                                                    (([] ++ es ++ es1 ++ es2).length + es3.length) * 40 ≤
                                                      140737488355328) ∧
                                                  PCall Try.prog 76 [] fun (v4 : PV) ↦
                                                    ∃ (n4 : Bool),
                                                      ∃ (f4 : Bool),
                                                        ∃ (es4 : List (List PV)),
                                                          v4 = PV.sl n4 f4 es4 ∧
                                                            (szOK es4 5 ∧
                                                                (([] ++ es ++ es1 ++ es2 ++ es3).length + es4.length) *
                                                                    40 ≤
                                                                  140737488355328) ∧
                                                              PCall Try.prog 77 [] fun (v5 : PV) ↦
                                                                ∃ (n5 : Bool),
                                                                  ∃ (f5 : Bool),
                                                                    ∃ (es5 : List (List PV)),
                                                                      v5 = PV.sl n5 f5 es5 ∧
                                                                        (szOK es5 5 ∧
                                                                            (([] ++ es ++ es1 ++ es2 ++ es3 ++
                                                                                      es4).length +
                                                                                  es5.length) *
                                                                                40 ≤
                                                                              140737488355328) ∧
                                                                          PCall Try.prog 78 [] fun (v6 : PV) ↦
                                                                            ∃ (n6 : Bool),
                                                                              ∃ (f6 : Bool),
                                                                                ∃ (es6 : List (List PV)),
                                                                                  v6 = PV.sl n6 f6 es6 ∧
                                                                                    (szOK es6 5 ∧
                                                                                        (([] ++ es ++ es1 ++ es2 ++
                                                                                                      es3 ++
                                                                                                    es4 ++
                                                                                                  es5).length +
                                                                                              es6.length) *
                                                                                            40 ≤
                                                                                          140737488355328) ∧
                                                                                      PCall Try.prog 79 []
                                                                                        fun (v7 : PV) ↦
                                                                                        ∃ (n7 : Bool),
                                                                                          ∃ (f7 : Bool),
                                                                                            ∃ (es7 : List (List PV)),
                                                                                              v7 = PV.sl n7 f7 es7 ∧
                                                                                                (szOK es7 5 ∧
                                                                                                    (([] ++ es ++ es1 ++
                                                                                                                      es2 ++
                                                                                                                    es3 ++
                                                                                                                  es4 ++
                                                                                                                es5 ++
                                                                                                              es6).length +
                                                                                                          es7.length) *
                                                                                                        40 ≤
                                                                                                      nat_lit
                                                                                                        140737488355328) ∧
                                                                                                  R
                                                                                                    (PV.sl
                                                                                                      (es.isEmpty &&
                                                                                                                    es1.isEmpty &&
                                                                                                                  es2.isEmpty &&
                                                                                                                es3.isEmpty &&
                                                                                                              es4.isEmpty &&
                                                                                                            es5.isEmpty &&
                                                                                                          es6.isEmpty &&
                                                                                                        es7.isEmpty)
                                                                                                      false
                                                                                                      ([] ++ es ++
                                                                                                                    es1 ++
                                                                                                                  es2 ++
                                                                                                                es3 ++
                                                                                                              es4 ++
                                                                                                            es5 ++
                                                                                                          es6 ++
                                                                                                        es7))
theorem e_api_Rows  (R : PV → Prop) : aFn Try.prog (fun _ => none) Try.f42 [0, 1] (fun _ => none) (Try.f42.body.getD .skip) [] R = r_api_Rows  R := by kernel_rfl
theorem a_api_Rows  {R : PV → Prop} (h : r_api_Rows  R) : PCall Try.prog 42 [] R :=
  PCall.of Try.func42 (by kernel_rfl) (by kernel_rfl) (Nat.le_of_ble_eq_true (by kernel_rfl)) (Eq.mpr (e_api_Rows  R) h)

def r_typebarlaw02_RowsAt (k r : Int) (R : PV → Prop) : Prop :=

  PCall Try.prog 42 [] fun (v : PV) ↦
    ∃ (n : Bool),
      ∃ (f : Bool),
        ∃ (es : List (List PV)),
          v = PV.sl n f es ∧
            PCall Try.prog 29 [PV.sl n f es, PV.int IntKind.i64 k] fun (v1 : PV) ↦
              ∃ (n1 : Bool),
                ∃ (f1 : Bool),
                  ∃ (es1 : List (List PV)),
                    v1 = PV.sl n1 f1 es1 ∧
                      PCall Try.prog 34 [PV.sl n1 f1 es1, PV.int IntKind.i32 r] fun (v2 : PV) ↦
                        ∃ (vs : List PV),
                          v2 = PV.tup vs ∧
                            vs.length = 2 ∧
                              ∃ (x : PV),
                                vs.head? = some x ∧
                                  ∃ (cs : List PV),
                                    x = PV.agg cs ∧
                                      cs.length = 4 ∧
                                        ∃ (n2 : Int),
                                          cs.head? = some (PV.int IntKind.i64 n2) ∧
                                            ∃ (n3 : Int),
                                              cs.tail.head? = some (PV.int IntKind.i64 n3) ∧
                                                ∃ (n4 : Int),
                                                  cs.tail.tail.head? = some (PV.int IntKind.i64 n4) ∧
                                                    ∃ (n5 : Int),
                                                      cs.tail.tail.tail.head? = some (PV.int IntKind.i64 n5) ∧
                                                        ∃ (x1 : PV),
                                                          vs.tail.head? = some x1 ∧
                                                            ∃ (b : Bool),
                                                              x1 = PV.bool b ∧
                                                                PCall Try.prog 33
                                                                  [PV.sl n f es, PV.int IntKind.i64 k,
                                                                    PV.int IntKind.i64 (IntKind.i64.wrap r)]
                                                                  fun (v3 : PV) ↦
                                                                  ∃ (n6 : Int),
                                                                    v3 = PV.int IntKind.i64 n6 ∧
                                                                      if (b == decide (n6 ≥ (0 : Int))) = true then
                                                                        if (!b) = true then
                                                                          if b = true then
                                                                            PCall Try.prog 31 []
                                                                              fun (v4 : PV) ↦
                                                                              ∃ (b1 : Bool),
                                                                                v4 = PV.bool b1 ∧ R (PV.bool b1)
                                                                          else
                                                                            if
                                                                                (bif true then
                                                                                    n2 == (0 : Int) &&
                                                                                      (n3 == (0 : Int) &&
                                                                                        (n4 == (0 : Int) &&
                                                                                          (n5 == (0 : Int) && true)))
                                                                                  else
                                                                                    !(n2 == (0 : Int) &&
                                                                                        (n3 == (0 : Int) &&
                                                                                          (n4 == (0 : Int) &&
                                                                                            (n5 == (0 : Int) &&
                                                                                              true))))) =
                                                                                  true then
                                                                              PCall Try.prog 31 []
                                                                                fun (v4 : PV) ↦
                                                                                ∃ (b1 : Bool),
                                                                                  v4 = PV.bool b1 ∧ R (PV.bool b1)
                                                                            else R (PV.bool false)
                                                                        else
                                                                          idxOK es n6 5 ∧
                                                                            ∃ (n7 : Int),
                                                                              (List.drop 3
                                                                                      (es.getD n6.toNat [])).head? =
                                                                                  some (PV.int IntKind.i64 n7) ∧
                                                                                if (n4 == n7) = true then
                                                                                  idxOK es n6 5 ∧
                                                                                    ∃ (n8 : Int),
                                                                                      (List.drop 4
                                                                                              (es.getD n6.toNat
                                                                                                [])).head? =
                                                                                          some (PV.int IntKind.i64 n8) ∧
                                                                                        if (n5 == n8) = true then
                                                                                          if
                                                                                              decide
                                                                                                  (n2 ≤
                                                                                                    IntKind.i64.wrap
                                                                                                      r) =
                                                                                                true then
                                                                                            if
                                                                                                decide
                                                                                                    (IntKind.i64.wrap
                                                                                                        r ≤
                                                                                                      n3) =
                                                                                                  true then
                                                                                              if b = true then
                                                                                                PCall Try.prog
                                                                                                  31 []
                                                                                                  fun (v4 : PV) ↦
                                                                                                  ∃ (b1 : Bool),
                                                                                                    v4 = PV.bool b1 ∧
                                                                                                      R (PV.bool b1)
                                                                                              else
                                                                                                if
                                                                                                    (bif true then
                                                                                                        n2 ==
                                                                                                            (0 : Int) &&
                                                                                                          (n3 ==
                                                                                                              (0 :
                                                                                                                Int) &&
                                                                                                            (n4 ==
                                                                                                                (0 :
                                                                                                                  Int) &&
                                                                                                              (n5 ==
                                                                                                                  (0 :
                                                                                                                    Int) &&
                                                                                                                true)))
                                                                                                      else
                                                                                                        !(n2 ==
                                                                                                              (0 :
                                                                                                                Int) &&
                                                                                                            (n3 ==
                                                                                                                (0 :
                                                                                                                  Int) &&
                                                                                                              (n4 ==
                                                                                                                  (0 :
                                                                                                                    Int) &&
                                                                                                                (n5 ==
                                                                                                                    (0 :
                                                                                                                      Int) &&
                                                                                                                  true))))) =
                                                                                                      true then
                                                                                                  PCall Try.prog
                                                                                                    31 []
                                                                                                    fun (v4 : PV) ↦
                                                                                                    ∃ (b1 : Bool),
                                                                                                      v4 = PV.bool b1 ∧
                                                                                                        R (PV.bool b1)
                                                                                                else R (PV.bool false)
                                                                                            else R (PV.bool false)
                                                                                          else R (PV.bool false)
                                                                                        else R (PV.bool false)
                                                                                else R (PV.bool false)
                                                                      else R (PV.bool false)
theorem e_typebarlaw02_RowsAt (k r : Int) (R : PV → Prop) : aFn Try.prog (fun _ => none) Try.f10 [0, 1, 4, 5, 6, 7, 8] (fun _ => none) (Try.f10.body.getD .skip) [.int .i64 k, .int .i32 r] R = r_typebarlaw02_RowsAt k r R := by kernel_rfl
theorem a_typebarlaw02_RowsAt (k r : Int) {R : PV → Prop} (h : r_typebarlaw02_RowsAt k r R) : PCall Try.prog 10 [.int .i64 k, .int .i32 r] R :=
  PCall.of Try.func10 (by kernel_rfl) (by kernel_rfl) (Nat.le_of_ble_eq_true (by kernel_rfl)) (Eq.mpr (e_typebarlaw02_RowsAt k r R) h)

end Go.Eng
namespace Go.Eng.Rows
/-- A row of the table, a span of a kind. -/
structure Row where
  kind : Int
  fr : Int
  to : Int
  a : Int
  b : Int
deriving DecidableEq
structure Sp where
  fr : Int
  to : Int
  a : Int
  b : Int
deriving DecidableEq, Inhabited
def Sp.has (x : Sp) (r : Int) : Prop := x.fr ≤ r ∧ r ≤ x.to
/-- What of a span no other one has. -/
def restL : List Sp → Sp → List Sp
  | [], s => if s.fr ≤ s.to then [s] else []
  | x :: xs, s => if x.to < s.fr then restL xs s else if s.to < x.fr then restL xs s else
    if s.fr < x.fr then { s with to := x.fr - 1 } :: restL xs { s with fr := x.to + 1 } else restL xs { s with fr := x.to + 1 }
/-- Spans in order. -/
def Rise (l : List Sp) : Prop := l.Pairwise fun x y => x.to < y.fr
def In (l : List Sp) : Prop := ∀ x ∈ l, 0 ≤ x.fr ∧ x.fr ≤ x.to ∧ x.to ≤ 1114111
def Good (l : List Sp) : Prop := Rise l ∧ In l
def Apart (x y : Sp) : Prop := x.to < y.fr ∨ y.to < x.fr
def Has (l : List Sp) (r a b : Int) : Prop := ∃ x ∈ l, x.has r ∧ x.a = a ∧ x.b = b
theorem Rise.apart {l : List Sp} (h : Rise l) : l.Pairwise Apart := h.imp fun h => .inl h
theorem restL_in {l : List Sp} {s : Sp} (hl : Good l) : ∀ y ∈ restL l s, s.fr ≤ y.fr ∧ y.fr ≤ y.to ∧ y.to ≤ s.to ∧ y.a = s.a ∧ y.b = s.b := by
  obtain ⟨h1, h2⟩ := hl
  induction l generalizing s with
  | nil =>
    intro y hy
    simp only [restL] at hy
    split at hy
    · simp only [List.mem_singleton] at hy; subst hy; refine ⟨by omega, by omega, by omega, rfl, rfl⟩
    · cases hy
  | cons x xs ih =>
    have hx := h2 x (List.mem_cons_self)
    have ih := fun s => ih (s := s) (List.Pairwise.of_cons h1) (fun y hy => h2 y (List.mem_cons_of_mem _ hy))
    intro y hy
    simp only [restL] at hy
    split at hy
    · exact ih s y hy
    · split at hy
      · exact ih s y hy
      · split at hy
        · rcases List.mem_cons.1 hy with e | hy
          · subst e; exact ⟨Int.le_refl _, by show s.fr ≤ x.fr - 1; omega, by show x.fr - 1 ≤ s.to; omega, rfl, rfl⟩
          · have := ih _ y hy
            refine ⟨by have := this.1; simp only at this; omega, this.2.1, this.2.2.1, this.2.2.2.1, this.2.2.2.2⟩
        · have := ih _ y hy
          refine ⟨by have := this.1; simp only at this; omega, this.2.1, this.2.2.1, this.2.2.2.1, this.2.2.2.2⟩
theorem restL_has {l : List Sp} {s : Sp} (hl : Good l) (r : Int) : (∃ y ∈ restL l s, y.has r) ↔ s.has r ∧ ∀ x ∈ l, ¬ x.has r := by
  obtain ⟨h1, h2⟩ := hl
  induction l generalizing s with
  | nil =>
    simp only [restL]
    split
    · simp
    · simp [Sp.has]; omega
  | cons x xs ih =>
    have hx := h2 x (List.mem_cons_self)
    have hrise : ∀ {y}, y ∈ xs → x.to < y.fr := fun hy => List.rel_of_pairwise_cons h1 hy
    have ih := fun s => ih (s := s) (List.Pairwise.of_cons h1) (fun y hy => h2 y (List.mem_cons_of_mem _ hy))
    simp only [restL, List.forall_mem_cons]
    split
    · rw [ih s]; simp only [Sp.has]
      exact ⟨fun ⟨a, b⟩ => ⟨a, by omega, b⟩, fun ⟨a, _, b⟩ => ⟨a, b⟩⟩
    · split
      · rw [ih s]; simp only [Sp.has]
        exact ⟨fun ⟨a, b⟩ => ⟨a, by omega, b⟩, fun ⟨a, _, b⟩ => ⟨a, b⟩⟩
      · split
        · rw [show (∃ y ∈ { s with to := x.fr - 1 } :: restL xs { s with fr := x.to + 1 }, y.has r) ↔ (Sp.has { s with to := x.fr - 1 } r ∨ ∃ y ∈ restL xs { s with fr := x.to + 1 }, y.has r) by simp, ih]
          simp only [Sp.has]
          constructor
          · rintro (⟨a, b⟩ | ⟨⟨a, b⟩, c⟩)
            · refine ⟨⟨a, by omega⟩, by omega, fun y hy => ?_⟩
              have := hrise hy; omega
            · exact ⟨⟨by omega, b⟩, by omega, c⟩
          · rintro ⟨⟨a, b⟩, c, d⟩
            by_cases h : r ≤ x.fr - 1
            · exact .inl ⟨a, h⟩
            · exact .inr ⟨⟨by omega, b⟩, d⟩
        · rw [ih]
          simp only [Sp.has]
          constructor
          · rintro ⟨⟨a, b⟩, c⟩
            exact ⟨⟨by omega, b⟩, by omega, c⟩
          · rintro ⟨⟨a, b⟩, c, d⟩
            exact ⟨⟨by omega, b⟩, d⟩
theorem restL_rise {l : List Sp} {s : Sp} (hl : Good l) : Rise (restL l s) := by
  obtain ⟨h1, h2⟩ := hl
  induction l generalizing s with
  | nil => simp only [restL, Rise]; split <;> simp
  | cons x xs ih =>
    have hx := h2 x (List.mem_cons_self)
    have hg : Good xs := ⟨List.Pairwise.of_cons h1, fun y hy => h2 y (List.mem_cons_of_mem _ hy)⟩
    have ih := fun s => ih (s := s) hg.1 hg.2
    simp only [restL]
    split
    · exact ih s
    · split
      · exact ih s
      · split
        · refine List.pairwise_cons.2 ⟨fun y hy => ?_, ih _⟩
          have := (restL_in hg y hy).1
          simp only at this ⊢; omega
        · exact ih _
theorem restL_len (l : List Sp) (s : Sp) : (restL l s).length ≤ l.length + 1 := by
  induction l generalizing s with
  | nil => simp only [restL]; split <;> simp
  | cons x xs ih =>
    simp only [restL]
    split
    · have := ih s; simp; omega
    · split
      · have := ih s; simp; omega
      · split
        · have := ih { s with fr := x.to + 1 }; simp; omega
        · have := ih { s with fr := x.to + 1 }; simp; omega
/-- Spans that rise are not many. -/
theorem Good.len_aux {l : List Sp} (h : Good l) : ∀ c : Int, 0 ≤ c → (∀ x ∈ l, c ≤ x.fr) → c ≤ 1114112 → (l.length : Int) ≤ 1114112 - c := by
  obtain ⟨h1, h2⟩ := h
  induction l with
  | nil => intro c h0 hc h; simp; omega
  | cons x xs ih =>
    intro c h0 hc hm
    have hx := h2 x (List.mem_cons_self)
    have hcx := hc x (List.mem_cons_self)
    have := ih (List.Pairwise.of_cons h1) (fun y hy => h2 y (List.mem_cons_of_mem _ hy)) (x.to + 1) (by omega) (fun y hy => by have := List.rel_of_pairwise_cons h1 hy; omega) (by omega)
    simp only [List.length_cons]
    omega
theorem Good.len {l : List Sp} (h : Good l) : l.length ≤ 1114112 := by
  have := h.len_aux 0 (Int.le_refl _) (fun x hx => (h.2 x hx).1) (by omega)
  omega
/-- The spans with one that came, in order. -/
theorem good_more {l t : List Sp} {s : Sp} (hl : Good l) (h0 : 0 ≤ s.fr) (h1 : s.to ≤ 1114111) (hp : t.Perm (l ++ restL l s)) (hs : t.Pairwise fun x y => ¬ y.fr < x.fr) : Good t := by
  have hin : In (l ++ restL l s) := fun x hx => by
    rcases List.mem_append.1 hx with hx | hx
    · exact hl.2 x hx
    · have := restL_in hl x hx; omega
  have hap : (l ++ restL l s).Pairwise Apart := by
    refine List.pairwise_append.2 ⟨hl.1.apart, (restL_rise hl).apart, fun x hx y hy => ?_⟩
    have hy2 := restL_in hl y hy
    have hx2 := hl.2 x hx
    by_cases h : x.to < y.fr
    · exact .inl h
    · by_cases h' : y.to < x.fr
      · exact .inr h'
      · exfalso
        have hh := ((restL_has hl (if x.fr ≤ y.fr then y.fr else x.fr)).1 ⟨y, hy, by unfold Sp.has; split <;> omega⟩).2 x hx
        apply hh
        unfold Sp.has
        split <;> omega
  have hap2 : t.Pairwise Apart := (hp.pairwise_iff (fun h => h.symm)).2 hap
  have hin2 : In t := fun x hx => hin x (hp.mem_iff.1 hx)
  refine ⟨?_, hin2⟩
  have := (List.Pairwise.and hap2 hs)
  refine List.Pairwise.imp_of_mem (fun {x y} hx hy h => ?_) this
  have hx := hin2 x hx
  have hy := hin2 y hy
  rcases h.1 with h' | h'
  · exact h'
  · have := h.2; omega
theorem has_more {l t : List Sp} {s : Sp} (hl : Good l) (hp : t.Perm (l ++ restL l s)) (r a b : Int) : Has t r a b ↔ Has l r a b ∨ (s.has r ∧ s.a = a ∧ s.b = b ∧ ∀ x ∈ l, ¬ x.has r) := by
  unfold Has
  simp only [hp.mem_iff, List.mem_append]
  constructor
  · rintro ⟨x, hx | hx, h1, h2, h3⟩
    · exact .inl ⟨x, hx, h1, h2, h3⟩
    · have h4 := restL_in hl x hx
      have h5 := (restL_has hl r).1 ⟨x, hx, h1⟩
      exact .inr ⟨h5.1, by omega, by omega, h5.2⟩
  · rintro (⟨x, hx, h⟩ | ⟨h1, h2, h3, h4⟩)
    · exact ⟨x, .inl hx, h⟩
    · obtain ⟨y, hy, h⟩ := (restL_has hl r).2 ⟨h1, h4⟩
      have h5 := restL_in hl y hy
      exact ⟨y, .inr hy, h, by omega, by omega⟩
/-- The order of spans is one. -/
theorem perm_sorted_eq : ∀ {t u : List Sp}, t.Perm u → Good t → Good u → t = u
  | [], u, hp, _, _ => by simp at hp; exact hp.symm
  | x :: t, [], hp, _, _ => by simp at hp
  | x :: t, y :: u, hp, ht, hu => by
    have hxy : x = y := by
      have hx : x ∈ y :: u := hp.mem_iff.1 List.mem_cons_self
      have hy : y ∈ x :: t := hp.mem_iff.2 List.mem_cons_self
      rcases List.mem_cons.1 hx with e | hx
      · exact e
      · rcases List.mem_cons.1 hy with e | hy
        · exact e.symm
        · have h1 := List.rel_of_pairwise_cons hu.1 hx
          have h2 := List.rel_of_pairwise_cons ht.1 hy
          have h3 := ht.2 x List.mem_cons_self
          have h4 := hu.2 y List.mem_cons_self
          omega
    subst hxy
    have hp' : t.Perm u := hp.cons_inv
    rw [perm_sorted_eq hp' ⟨List.Pairwise.of_cons ht.1, fun z hz => ht.2 z (List.mem_cons_of_mem _ hz)⟩ ⟨List.Pairwise.of_cons hu.1, fun z hz => hu.2 z (List.mem_cons_of_mem _ hz)⟩]
/-- Two lists of spans joined where they meet. -/
def joinS (acc : List Sp) (x : Sp) : List Sp :=
  match acc.getLast? with
  | some y => if y.to + 1 = x.fr ∧ y.a = x.a ∧ y.b = x.b then acc.dropLast ++ [{ y with to := x.to }] else acc ++ [x]
  | none => acc ++ [x]
def joinL (l : List Sp) : List Sp := l.foldl joinS []
/-- None that meet are the same. -/
def Split (l : List Sp) : Prop := ∀ (i : Nat) (h : i + 1 < l.length), ¬ (l[i].to + 1 = l[i+1].fr ∧ l[i].a = l[i+1].a ∧ l[i].b = l[i+1].b)
theorem Split.append {l : List Sp} {x : Sp} (h : Split l) (hl : ∀ y, l.getLast? = some y → ¬ (y.to + 1 = x.fr ∧ y.a = x.a ∧ y.b = x.b)) : Split (l ++ [x]) := by
  intro i hi
  simp only [List.length_append, List.length_cons, List.length_nil] at hi
  by_cases h1 : i + 1 < l.length
  · have := h i h1
    rw [List.getElem_append_left (by omega), List.getElem_append_left h1]
    exact this
  · have e : i + 1 = l.length := by omega
    have := hl l[i] (by rw [List.getLast?_eq_getElem?, List.getElem?_eq_getElem (by omega)]; congr 2; omega)
    rw [List.getElem_append_left (by omega), List.getElem_append_right (by omega)]
    simpa using this
theorem split_snoc {l : List Sp} {y z : Sp} (h : Split (l ++ [y])) (h1 : z.fr = y.fr) (h2 : z.a = y.a) (h3 : z.b = y.b) : Split (l ++ [z]) := by
  refine Split.append (fun i hi => ?_) fun u hu => ?_
  · have := h i (by simp; omega)
    rw [List.getElem_append_left (by omega), List.getElem_append_left hi] at this
    exact this
  · have hlen : 0 < l.length := by cases l with | nil => simp at hu | cons => simp
    have := h (l.length - 1) (by simp; omega)
    rw [List.getElem_append_left (by omega), List.getElem_append_right (by omega)] at this
    rw [List.getLast?_eq_getElem?, List.getElem?_eq_getElem (by omega)] at hu
    cases hu
    simpa [h1, h2, h3] using this
theorem snoc_of {l : List Sp} {y : Sp} (h : l.getLast? = some y) : ∃ k, l = k ++ [y] := by
  refine ⟨l.dropLast, ?_⟩
  have hne : l ≠ [] := by rintro rfl; simp at h
  rw [List.getLast?_eq_some_getLast hne] at h
  cases h
  exact (List.dropLast_concat_getLast hne).symm
theorem joinS_len (acc : List Sp) (x : Sp) : (joinS acc x).length ≤ acc.length + 1 := by
  unfold joinS
  split
  · split <;> simp <;> omega
  · simp
/-- One more. -/
theorem joinS_ok {acc : List Sp} {x : Sp} (hg : Good (acc ++ [x])) (hs : Split acc) : Good (joinS acc x) ∧ Split (joinS acc x) ∧ (∀ r a b, Has (joinS acc x) r a b ↔ Has (acc ++ [x]) r a b) ∧ (∀ y, (joinS acc x).getLast? = some y → y.to = x.to) := by
  unfold joinS
  split
  next y hy =>
    obtain ⟨k, rfl⟩ := snoc_of hy
    split
    next h =>
      obtain ⟨h1, h2, h3⟩ := h
      rw [List.dropLast_concat]
      obtain ⟨g1, g2⟩ := hg
      have hy2 := g2 y (by simp)
      have hx2 := g2 x (by simp)
      refine ⟨⟨?_, fun z hz => ?_⟩, split_snoc hs rfl rfl rfl, fun r a b => ?_, fun z hz => by simp at hz; subst hz; rfl⟩
      · have g3 := (List.pairwise_append.1 g1).1
        have g4 := List.pairwise_append.1 g3
        refine List.pairwise_append.2 ⟨g4.1, by simp, fun u hu v hv => ?_⟩
        simp only [List.mem_singleton] at hv
        subst hv
        exact g4.2.2 u hu y (by simp)
      · rcases List.mem_append.1 hz with hz | hz
        · exact g2 z (by simp [hz])
        · simp only [List.mem_singleton] at hz; subst hz; exact ⟨hy2.1, by show y.fr ≤ x.to; omega, hx2.2.2⟩
      · simp only [Has, List.mem_append, List.mem_singleton, Sp.has]
        constructor
        · rintro ⟨z, hz | rfl, h⟩
          · exact ⟨z, .inl (.inl hz), h⟩
          · obtain ⟨⟨e1, e2⟩, e3, e4⟩ := h
            simp only at e1 e2 e3 e4
            by_cases hr : r ≤ y.to
            · exact ⟨y, .inl (.inr rfl), ⟨e1, hr⟩, e3, e4⟩
            · exact ⟨x, .inr rfl, ⟨by omega, e2⟩, by omega, by omega⟩
        · rintro ⟨z, (hz | rfl) | rfl, ⟨e1, e2⟩, e3, e4⟩
          · exact ⟨z, .inl hz, ⟨e1, e2⟩, e3, e4⟩
          · exact ⟨_, .inr rfl, ⟨e1, by show r ≤ x.to; omega⟩, e3, e4⟩
          · exact ⟨_, .inr rfl, ⟨by show y.fr ≤ r; omega, e2⟩, by show y.a = a; omega, by show y.b = b; omega⟩
    next h =>
      refine ⟨hg, hs.append fun z hz => ?_, fun r a b => Iff.rfl, fun z hz => by simp at hz; subst hz; rfl⟩
      rw [hy] at hz; cases hz; exact h
  next hy =>
    refine ⟨hg, hs.append fun z hz => ?_, fun r a b => Iff.rfl, fun z hz => by simp at hz; subst hz; rfl⟩
    rw [hy] at hz; cases hz
theorem joinL_aux {l : List Sp} : ∀ {acc : List Sp}, Good acc → Split acc → Good l → (∀ y, acc.getLast? = some y → ∀ x ∈ l, y.to < x.fr) → Good (l.foldl joinS acc) ∧ Split (l.foldl joinS acc) ∧ ∀ r a b, Has (l.foldl joinS acc) r a b ↔ Has acc r a b ∨ Has l r a b := by
  induction l with
  | nil => intro acc h1 h2 h3 h4; exact ⟨h1, h2, fun r a b => by simp [Has]⟩
  | cons x xs ih =>
    intro acc h1 h2 h3 h4
    have hxs : Good xs := ⟨List.Pairwise.of_cons h3.1, fun z hz => h3.2 z (List.mem_cons_of_mem _ hz)⟩
    have hg : Good (acc ++ [x]) := by
      refine ⟨List.pairwise_append.2 ⟨h1.1, by simp, fun u hu v hv => ?_⟩, fun z hz => ?_⟩
      · simp only [List.mem_singleton] at hv
        subst hv
        have hne : acc ≠ [] := by rintro rfl; simp at hu
        obtain ⟨y, hy⟩ : ∃ y, acc.getLast? = some y := ⟨_, List.getLast?_eq_some_getLast hne⟩
        have h5 := h4 y hy v List.mem_cons_self
        obtain ⟨k, rfl⟩ := snoc_of hy
        rcases List.mem_append.1 hu with hu | hu
        · have := (List.pairwise_append.1 h1.1).2.2 u hu y (by simp)
          have := h1.2 y (by simp)
          omega
        · simp only [List.mem_singleton] at hu; subst hu; exact h5
      · rcases List.mem_append.1 hz with hz | hz
        · exact h1.2 z hz
        · simp only [List.mem_singleton] at hz; subst hz; exact h3.2 z List.mem_cons_self
    obtain ⟨j1, j2, j3, j4⟩ := joinS_ok hg h2
    obtain ⟨k1, k2, k3⟩ := ih j1 j2 hxs (fun y hy z hz => by rw [j4 y hy]; exact List.rel_of_pairwise_cons h3.1 hz)
    refine ⟨k1, k2, fun r a b => ?_⟩
    rw [List.foldl_cons, k3, j3]
    unfold Has
    simp only [List.mem_append, List.mem_cons, List.not_mem_nil, or_false]
    constructor
    · rintro (⟨z, hz | rfl, h⟩ | ⟨z, hz, h⟩)
      · exact .inl ⟨z, hz, h⟩
      · exact .inr ⟨_, .inl rfl, h⟩
      · exact .inr ⟨z, .inr hz, h⟩
    · rintro (⟨z, hz, h⟩ | ⟨z, rfl | hz, h⟩)
      · exact .inl ⟨z, .inl hz, h⟩
      · exact .inl ⟨_, .inr rfl, h⟩
      · exact .inr ⟨z, hz, h⟩
theorem joinL_ok {l : List Sp} (h : Good l) : Good (joinL l) ∧ Split (joinL l) ∧ ∀ r a b, Has (joinL l) r a b ↔ Has l r a b := by
  have := joinL_aux (l := l) (acc := []) ⟨List.Pairwise.nil, fun _ h => by cases h⟩ (fun i hi => by simp at hi) h (by simp)
  refine ⟨this.1, this.2.1, fun r a b => ?_⟩
  rw [joinL, this.2.2]
  simp [Has]
theorem joinS_ne {acc : List Sp} {x : Sp} : joinS acc x ≠ [] := by unfold joinS; split <;> (try split) <;> simp
end Go.Eng.Rows
namespace Go.Eng.Rows
def ins (x : Sp) : List Sp → List Sp
  | [] => [x]
  | y :: l => if y.fr < x.fr then y :: ins x l else x :: y :: l
def isort : List Sp → List Sp
  | [] => []
  | x :: l => ins x (isort l)
theorem ins_perm (x : Sp) (l : List Sp) : (ins x l).Perm (x :: l) := by
  induction l with
  | nil => exact List.Perm.refl _
  | cons y l ih =>
    simp only [ins]
    split
    · exact ((List.Perm.cons y ih).trans (List.Perm.swap x y l))
    · exact List.Perm.refl _
theorem isort_perm (l : List Sp) : (isort l).Perm l := by
  induction l with
  | nil => exact List.Perm.refl _
  | cons x l ih => exact (ins_perm x _).trans (List.Perm.cons x ih)
theorem ins_sorted {x : Sp} {l : List Sp} (h : l.Pairwise fun x y => ¬ y.fr < x.fr) : (ins x l).Pairwise fun x y => ¬ y.fr < x.fr := by
  induction l with
  | nil => simp [ins]
  | cons y l ih =>
    simp only [ins]
    have h1 : ∀ z ∈ l, ¬ z.fr < y.fr := fun z hz => List.rel_of_pairwise_cons h hz
    split
    · refine List.pairwise_cons.2 ⟨fun z hz => ?_, ih (List.Pairwise.of_cons h)⟩
      rcases List.mem_cons.1 ((ins_perm x l).mem_iff.1 hz) with e | hz
      · subst e; omega
      · exact h1 z hz
    · refine List.pairwise_cons.2 ⟨fun z hz => ?_, h⟩
      rcases List.mem_cons.1 hz with e | hz
      · subst e; omega
      · have := h1 z hz; omega
theorem isort_sorted (l : List Sp) : (isort l).Pairwise fun x y => ¬ y.fr < x.fr := by
  induction l with
  | nil => exact List.Pairwise.nil
  | cons x l ih => exact ins_sorted ih
def Row.sp (x : Row) : Sp := ⟨if x.fr < 0 then 0 else x.fr, if 1114111 < x.to then 1114111 else x.to, x.a, x.b⟩
theorem Row.sp_lo (x : Row) : 0 ≤ x.sp.fr := by simp only [Row.sp]; split <;> omega
theorem Row.sp_hi (x : Row) : x.sp.to ≤ 1114111 := by simp only [Row.sp]; split <;> omega
def stepL (k : Int) (l : List Sp) (x : Row) : List Sp := if x.kind = k then isort (l ++ restL l x.sp) else l
def allL (k : Int) (rows : List Row) : List Sp := rows.foldl (stepL k) []
def ofL (k : Int) (rows : List Row) : List Sp := joinL (allL k rows)
def Row.has (x : Row) (k r : Int) : Bool := decide (x.kind = k) && (decide (x.fr ≤ r) && decide (r ≤ x.to))
def first (rows : List Row) (k r : Int) : Option (Int × Int) := (rows.find? fun x => x.has k r).map fun x => (x.a, x.b)
theorem step_good {k : Int} {l : List Sp} (h : Good l) (x : Row) : Good (stepL k l x) := by
  unfold stepL
  split
  · exact good_more h x.sp_lo x.sp_hi (isort_perm _) (isort_sorted _)
  · exact h
theorem step_eq {k : Int} {l t : List Sp} (h : Good l) {x : Row} (hx : x.kind = k) (hp : t.Perm (l ++ restL l x.sp)) (hs : t.Pairwise fun x y => ¬ y.fr < x.fr) : t = stepL k l x := by
  unfold stepL
  rw [if_pos hx]
  exact perm_sorted_eq (hp.trans (isort_perm _).symm) (good_more h x.sp_lo x.sp_hi hp hs) (good_more h x.sp_lo x.sp_hi (isort_perm _) (isort_sorted _))
theorem all_good {k : Int} (rows : List Row) : ∀ {l : List Sp}, Good l → Good (rows.foldl (stepL k) l) := by
  induction rows with
  | nil => intro l h; exact h
  | cons x xs ih => intro l h; exact ih (step_good h x)
theorem allL_good (k : Int) (rows : List Row) : Good (allL k rows) := all_good rows ⟨List.Pairwise.nil, fun _ h => by cases h⟩
theorem allL_snoc (k : Int) (rows : List Row) (x : Row) : allL k (rows ++ [x]) = stepL k (allL k rows) x := by simp [allL]
theorem first_snoc (rows : List Row) (x : Row) (k r : Int) : first (rows ++ [x]) k r = (first rows k r).or (if x.has k r then some (x.a, x.b) else none) := by
  unfold first
  rw [List.find?_append]
  cases h : rows.find? fun x => x.has k r with
  | some y => simp
  | none => simp only [Option.none_or, Option.map_none, List.find?_singleton]; split <;> rfl
theorem allL_has (k : Int) (rows : List Row) (r a b : Int) : Has (allL k rows) r a b ↔ (0 ≤ r ∧ r ≤ 1114111) ∧ first rows k r = some (a, b) := by
  suffices H : ∀ n, ∀ (rows : List Row), rows.length = n → ∀ r a b, Has (allL k rows) r a b ↔ (0 ≤ r ∧ r ≤ 1114111) ∧ first rows k r = some (a, b) from H _ rows rfl r a b
  intro n
  induction n with
  | zero =>
    intro rows h r a b
    have := List.length_eq_zero_iff.1 h
    subst this
    simp [allL, Has, first]
  | succ n ih =>
    intro rows h r a b
    obtain ⟨ys, x, rfl⟩ : ∃ ys x, rows = ys ++ [x] := by
      have hne : rows ≠ [] := by rintro rfl; simp at h
      exact ⟨rows.dropLast, rows.getLast hne, (List.dropLast_concat_getLast hne).symm⟩
    have ih := ih ys (by simpa using h)
    rw [allL_snoc, first_snoc]
    unfold stepL
    split
    next hk =>
      rw [has_more (allL_good k ys) (isort_perm _), ih]
      have hno : (∀ y ∈ allL k ys, ¬ y.has r) ↔ ∀ a b, ¬ Has (allL k ys) r a b := by
        constructor
        · rintro h a b ⟨y, hy, h1, _⟩; exact h y hy h1
        · intro h y hy h1; exact h y.a y.b ⟨y, hy, h1, rfl, rfl⟩
      rw [hno]
      simp only [ih]
      have hsp : x.sp.has r ↔ (0 ≤ r ∧ r ≤ 1114111) ∧ x.has k r = true := by
        simp only [Sp.has, Row.sp, Row.has, Bool.and_eq_true, decide_eq_true_eq, hk, true_and]
        split <;> split <;> omega
      rw [hsp]
      cases hf : first ys k r with
      | some p =>
        simp only [Option.some_or]
        constructor
        · rintro (h | ⟨⟨h1, h2⟩, _, _, h3⟩)
          · exact h
          · exact absurd ⟨h1, rfl⟩ (h3 p.1 p.2)
        · exact fun h => .inl h
      | none =>
        simp only [Option.none_or, reduceCtorEq, and_false, false_or, not_false_eq_true, implies_true, and_true]
        constructor
        · rintro ⟨⟨h1, h2⟩, h3, h4⟩; rw [if_pos h2, ← h3, ← h4]; exact ⟨h1, rfl⟩
        · rintro ⟨h1, h2⟩
          split at h2
          · cases h2; exact ⟨⟨h1, by assumption⟩, rfl, rfl⟩
          · cases h2
    next hk =>
      rw [ih]
      have : x.has k r = false := by simp [Row.has, hk]
      rw [this]
      simp
theorem ofL_good (k : Int) (rows : List Row) : Good (ofL k rows) := (joinL_ok (allL_good k rows)).1
theorem ofL_split (k : Int) (rows : List Row) : Split (ofL k rows) := (joinL_ok (allL_good k rows)).2.1
theorem ofL_has (k : Int) (rows : List Row) (r a b : Int) : Has (ofL k rows) r a b ↔ (0 ≤ r ∧ r ≤ 1114111) ∧ first rows k r = some (a, b) := by
  rw [ofL, (joinL_ok (allL_good k rows)).2.2, allL_has]
example : ofL 1 [⟨1, 5, 9, 7, 0⟩, ⟨1, 8, 12, 8, 0⟩] = [⟨5, 9, 7, 0⟩, ⟨10, 12, 8, 0⟩] := by decide
end Go.Eng.Rows
set_option linter.unusedVariables false
set_option linter.unusedSimpArgs false
namespace Go.Eng
open Go Go.Proofs Go.Shelf Go.Sort
/-- Numbers as cells. -/
def ints64 (l : List Int) : List PV := l.map fun n => .int .i64 n
def vals64 (l : List Int) : List Value := l.map fun n => .int .i64 n
theorem vals_rep {w : World} {I : Nat → Prop} (l : List Int) : Rep w I (.agg (ints64 l)) (.agg (vals64 l).toArray) := by
  refine .agg _ _ (by simp [ints64, vals64]) (fun k v hv => ?_) (fun k v hv => ?_) <;>
  · simp only [ints64, List.getElem?_map] at hv
    cases hq : l[k]? with
    | none => rw [hq] at hv; cases hv
    | some n =>
      rw [hq] at hv; cases hv
      have : (vals64 l).toArray.getD k undef = .int .i64 n := by
        have hk := (List.getElem?_eq_some_iff.1 hq)
        obtain ⟨hk, he⟩ := hk
        simp [vals64, hk, he]
      rw [this]
      first | exact .int _ _ | rfl
theorem rep_ints {w : World} {I : Nat → Prop} {n : Int} {v : Value} (h : Rep w I (.int .i64 n) v) : v = .int .i64 n := by cases h; rfl
/-- A call of numbers alone: the world behind it. -/
theorem PCall.grows {P : Program} {g : Nat} {ps : List PV} {n : Int} (hc : PCall P g ps fun v => v = .int .i64 n) {args : Array Value} (hsz : args.size = ps.length) (hr : ∀ (w : World) (I : Nat → Prop) (i : Nat) p, ps[i]? = some p → Rep w I p (args.getD i undef)) (W : World) :
    Calls P g args W fun e w' => e = .returned (.int .i64 n) ∧ ∃ q os', w' = Sort.grow (W.drewN q) os' := by
  refine (hc.2 W (fun b => b < W.heap.size) (fun _ => ⟨0, 0, 0, 0⟩) args (HRel.nil _ fun b hb => hb) (by simpa using hsz) (fun i v hi => ?_)).mono fun e w' ⟨cv, r, h', I', G', e1, ⟨v, e2, hq⟩, e3, e4, e5⟩ => ?_
  · rw [List.getElem?_map] at hi
    cases hp : ps[i]? with
    | none => rw [hp] at hi; cases hi
    | some p => rw [hp] at hi; cases hi; exact .pv _ _ (hr _ _ i p hp)
  · subst e2; subst hq
    have := e4.int_eq
    subst this
    have e5 := e5.t
    refine ⟨e1, w'.drawn - W.drawn, w'.heap.extract W.heap.size w'.heap.size, ?_⟩
    have hno : ∀ b, ¬ Owns [] (fun _ => (⟨0, 0, 0, 0⟩ : Pl)) b := fun b ⟨o, ob, ho, _⟩ => by simp at ho
    have hh : w'.heap = W.heap ++ w'.heap.extract W.heap.size w'.heap.size := by
      apply Array.ext
      · simp; have := e5.size; omega
      · intro i h1 h2
        by_cases hi : i < W.heap.size
        · have := e5.keep i hi (hno i)
          rw [Array.getElem?_eq_getElem h1, Array.getElem?_eq_getElem hi] at this
          rw [Array.getElem_append_left hi]
          exact Option.some.inj this
        · rw [Array.getElem_append_right (by omega)]
          simp only [Array.getElem_extract]
          congr 1; omega
    have hd : ∀ q, (W.drewN q).heap = W.heap ∧ (W.drewN q).tape = W.tape ∧ (W.drewN q).drawn = W.drawn + q ∧ (W.drewN q).os = W.os ∧ (W.drewN q).output = W.output := fun q => by
      induction q with
      | zero => exact ⟨rfl, rfl, rfl, rfl, rfl⟩
      | succ q ih =>
        obtain ⟨i1, i2, i3, i4, i5⟩ := ih
        exact ⟨i1, i2, by show (W.drewN q).drawn + 1 = _; rw [i3]; omega, i4, i5⟩
    obtain ⟨d1, d2, d3, d4, d5⟩ := hd (w'.drawn - W.drawn)
    have hdr := e5.drawn
    obtain ⟨h1, h2, h3, h4, h5⟩ := w'
    simp only [Sort.grow, World.mk.injEq]
    refine ⟨by rw [d1]; exact hh, by rw [d2]; exact e5.tape, by rw [d3]; simp only at hdr ⊢; omega, by rw [d4]; exact e5.os, by rw [d5]; exact e5.output⟩

theorem vals64_get (l : List Int) (q : Nat) (hq : q < l.length) : (vals64 l)[q]! = .int .i64 (l.getD q 0) := by
  simp [vals64, hq, List.getD]
theorem ints64_get (l : List Int) (q : Nat) (hq : q < l.length) : (ints64 l)[q]? = some (.int .i64 (l.getD q 0)) := by
  simp [ints64, hq, List.getD]
/-- slices.SortFunc, of rows of numbers. -/
theorem sort_ok {P : Program} {ρ : Go.Shelf.Ren} (L : SlLaysF0.n6 P ρ) (hcal : callable P (ρ.f 6)) (k : Nat) (hk0 : k ≠ 0) (aE : ∀ w, (isAgg (ρ.t 24)).run P w = .ok true w) (zE : ∀ w, (Go.sizeOf (ρ.t 24)).run P w = .ok k w) {α : Type} [Inhabited α] (fs : α → List Int) (hk : ∀ x, (fs x).length = k)
    (cf : α → α → Int) (hO : Sort.SWO (ltOf cf)) (g : Nat) (hc : ∀ x y, PCall P g [.agg (ints64 (fs x)), .agg (ints64 (fs y))] fun v => v = .int .i64 (cf x y)) (ty : Nat × Nat) (hty : ty.2 = k) (nl : Bool) (l : List α) (hnl : nl = true → l = []) (hl : l.length < 4611686018427387904) :
    ACall P (ρ.f 6) [.own 0, .pv (.fn g [])] [.sl ty false nl (l.map fun x => ints64 (fs x))] fun r h' => ∃ t : List α, r = .tup [] ∧ h' = [.sl ty false nl (t.map fun x => ints64 (fs x))] ∧ t.Perm l ∧ t.Pairwise (fun a b => ¬ cf b a < 0) := by
  refine ⟨hcal, fun w I G cargs hh hsz hrel => ?_⟩
  simp only [List.length_cons, List.length_nil] at hsz
  have h0 := hrel 0 (.own 0) rfl
  have h1 := hrel 1 (.pv (.fn g [])) rfl
  obtain ⟨v0, v1, rfl⟩ : ∃ v0 v1, cargs = #[v0, v1] := by
    obtain ⟨c⟩ := cargs
    match c, hsz with
    | [a, b], _ => exact ⟨a, b, rfl⟩
  have e0 : (#[v0, v1] : Array Value).getD 0 undef = v0 := rfl
  have e1 : (#[v0, v1] : Array Value).getD 1 undef = v1 := rfl
  rw [e0] at h0
  rw [e1] at h1
  have hv1 : v1 = .func (.func g) #[] #[] := by
    cases h1 with
    | pv _ _ h => cases h with
      | fn f cs vs q1 q2 => have : vs = #[] := Array.eq_empty_of_size_eq_zero (by simpa using q1); rw [this]
  subst hv1
  by_cases hl0 : l = []
  · subst hl0
    obtain ⟨p, cap, rfl⟩ : ∃ p cap, v0 = .slice p 0 cap := by
      cases h0 with
      | ownNil => exact ⟨_, _, rfl⟩
      | own o ty m es ad q0 q1 => simp at q1; obtain ⟨_, _, _, rfl⟩ := q1; exact ⟨_, _, rfl⟩
    refine (AnyF.slices_SortFunc_none L p cap _ w).mono fun e w' ⟨he, hw⟩ => ?_
    subst hw
    exact ⟨_, _, _, I, G, he, ⟨[], rfl, rfl, List.Perm.refl _, List.Pairwise.nil⟩, hh, .tup [] #[] rfl (fun k v hk => by simp at hk), .refl _ _ _ _⟩
  · have hnl' : nl = false := by cases nl with | false => rfl | true => exact absurd (hnl rfl) hl0
    subst hnl'
    have hor := hh.obs 0 _ rfl
    obtain ⟨o1, o2, o3, o4, o5, o6⟩ := hor
    have hlen : 0 < l.length := List.length_pos_iff.2 hl0
    simp only [List.length_map] at o1
    have hcap : (G 0).cap ≠ 0 := by omega
    have hoff := o3 hcap
    obtain ⟨vs, f1, f2, f3⟩ := o6 hcap
    have hs4 : (G 0).sz = k := o4.trans hty
    cases h0 with
    | ownNil o ty m es q1 => simp at q1
    | own o ty' m es ad q0 q1 =>
      simp only [List.getElem?_cons_zero, Option.some.injEq, Ob.sl.injEq] at q1
      obtain ⟨rfl, rfl, _, rfl⟩ := q1
      have had := q0 hcap
      subst had
      rw [hoff]
      have hown : Owns [Ob.sl ty false false (l.map fun x => ints64 (fs x))] G (G 0).blk := ⟨0, _, rfl, ⟨rfl, hcap⟩, rfl⟩
      have hblk := hh.blk_lt hown
      have kpos := Nat.pos_of_ne_zero hk0
      have hdm : ∀ {i q : Nat}, q < k → (i * k + q) / k = i ∧ (i * k + q) % k = q := fun {i q} hq => by
        constructor
        · rw [Nat.mul_comm, Nat.mul_add_div kpos, Nat.div_eq_of_lt hq]; omega
        · rw [Nat.mul_comm, Nat.mul_add_mod, Nat.mod_eq_of_lt hq]
      have hrow : ∀ (d : Array α) (i q : Nat), i < d.size → q < k → (flatK (fun x => vals64 (fs x)) k d)[i * k + q]! = .int .i64 ((fs d[i]!).getD q 0) := fun d i q hi hq => by
        have hlt : i * k + q < d.size * k := by
          have : (i + 1) * k ≤ d.size * k := Nat.mul_le_mul_right _ hi
          rw [Nat.add_mul] at this; omega
        rw [get_flatK _ _ _ _ hlt, (hdm hq).1, (hdm hq).2]
        exact vals64_get _ _ (by rw [hk]; exact hq)
      have hH : HoldsK (fun x => vals64 (fs x)) k w (G 0).blk 0 l.toArray := fun j hj => by
        simp only [size_flatK, List.size_toArray] at hj
        have hi : j / k < l.length := by rw [Nat.div_lt_iff_lt_mul kpos]; exact hj
        have hq : j % k < k := Nat.mod_lt _ kpos
        have hjj : j = j / k * k + j % k := by have := Nat.div_add_mod j k; rw [Nat.mul_comm] at this; omega
        have hlt : j < vs.size := by
          rw [f2, hs4]
          exact Nat.lt_of_lt_of_le hj (Nat.mul_le_mul_right _ o1)
        have hr := f3 (j / k) _ (by simp [hi]) (j % k) _ (ints64_get (fs l[j / k]) (j % k) (by rw [hk]; exact hq))
        rw [hs4, ← hjj] at hr
        have hval := rep_ints hr.1
        refine ⟨?_, ?_⟩
        · have h2 := hrow l.toArray (j / k) (j % k) (by simpa using hi) hq
          rw [← hjj] at h2
          rw [h2, Nat.zero_add, cells_of_row f1 hlt, hval]
          simp [hi]
        · simp [World.frozen?, f1]
      have eg : ∀ args w, (callFunc g args).run P w = .ok (.enter g args) w := fun args w => run_callFunc (hc default default).1
      have hcmp : CmpLays P g #[] (fun x => vals64 (fs x)) k cf (G 0).blk 0 l.toArray.size w := fun m os dk hdk x y => by
        refine PCall.grows (hc x y) rfl (fun w I i p hi => ?_) _
        match i, hi with
        | 0, hi => cases hi; exact vals_rep _
        | 1, hi => cases hi; exact vals_rep _
      have main := AnyQ.slices_SortFunc L k aE zE (fun x => vals64 (fs x)) (fun x => by simp [vals64, hk]) (fun x v hv => by simp only [vals64, List.mem_map] at hv; obtain ⟨n, _, rfl⟩ := hv; rfl) cf hO g #[] (G 0).blk 0 (G 0).cap l.toArray w eg hcmp hH hblk (by simpa using hl)
      have e3 : l.toArray.size = (l.map fun x => ints64 (fs x)).length := by simp
      rw [e3] at main
      refine main.mono fun e w' ⟨he, d', n, os, hp, hs, hw⟩ => ?_
      subst hw
      have hds : d'.size = l.length := by rw [hp.1]; simp
      have hperm : d'.toList.Perm l := by
        have := hp.2.2
        simp only [List.length_map] at this
        rw [show d'.extract 0 l.length = d' by rw [← hds]; simp] at this
        simpa using this
      have hbl : (sortWorldK (fun x => vals64 (fs x)) k w (G 0).blk 0 n d' os).heap[(G 0).blk]? = some (.cells (putCells id 0 (flatK (fun x => vals64 (fs x)) k d') vs) ty.1 (0, 0)) := by
        unfold sortWorldK putRowK putRow
        rw [Sort.heap_grow_old _ _ (by simpa [Sort.mapBlock, Sort.ahead] using hblk)]
        simp only [Sort.mapBlock, Sort.ahead, Array.getElem?_modify, if_true, f1]
        rfl
      have hother : ∀ b, b < w.heap.size → b ≠ (G 0).blk → (sortWorldK (fun x => vals64 (fs x)) k w (G 0).blk 0 n d' os).heap[b]? = w.heap[b]? := fun b hb hne => by
        unfold sortWorldK putRowK putRow
        rw [Sort.heap_grow_old _ _ (by simpa [Sort.mapBlock, Sort.ahead] using hb)]
        simp only [Sort.mapBlock, Sort.ahead, Array.getElem?_modify]
        rw [if_neg (fun e => hne e.symm)]
      have hsize : w.heap.size ≤ (sortWorldK (fun x => vals64 (fs x)) k w (G 0).blk 0 n d' os).heap.size := by
        unfold sortWorldK putRowK putRow
        rw [Sort.size_grow]
        simp [Sort.mapBlock, Sort.ahead]
      have hkeep : Keeps w I (sortWorldK (fun x => vals64 (fs x)) k w (G 0).blk 0 n d' os) I := ⟨fun b hb hbs => hother b hbs (fun e => hh.nI 0 _ rfl ⟨rfl, hcap⟩ (e ▸ hb)), fun _ x _ => x⟩
      refine ⟨_, _, _, I, G, he, ⟨d'.toList, rfl, rfl, hperm, ?_⟩, ⟨fun o ob ho => ?_, fun o o' ob ob' ho _ ho' _ _ => ?_, fun o ob ho ha => ?_, fun b hb => Nat.lt_of_lt_of_le (hh.cl b hb) hsize⟩, .tup [] #[] rfl (fun k v hk => by simp at hk), ⟨⟨rfl, rfl, rfl, hsize, fun b hb hn => hother b hb (fun e => hn (e ▸ hown)), fun _ x => x, fun _ x => .inl x, fun b ⟨o, ob, ho, ha, hb⟩ => .inl ?_, fun a ha => ?_, Nat.le_add_right _ _⟩, Nat.le_refl _, fun o ob' ho hx hf => ?_⟩⟩
      · rw [List.pairwise_iff_getElem]
        intro i j hi hj hij
        have := hs i j (Nat.zero_le _) hij (by simp at hj ⊢; omega)
        simp only [ltOf, decide_eq_false_iff_not] at this
        simp only [Array.length_toList] at hi hj
        simpa [hi, hj] using this
      · cases o with
        | succ o => simp at ho
        | zero =>
          simp only [List.getElem?_cons_zero, Option.some.injEq] at ho
          subst ho
          refine ⟨by simp; omega, o2, fun _ => hoff, o4, fun i e he => ?_, fun _ => ⟨_, hbl, by simp [putCells, f2], fun i e he q v hv => ?_⟩⟩
          · rw [List.getElem?_map] at he
            cases hq : d'.toList[i]? with
            | none => rw [hq] at he; cases he
            | some x => rw [hq] at he; cases he; simp [ints64, hk, hs4]
          · rw [List.getElem?_map] at he
            cases hq : d'.toList[i]? with
            | none => rw [hq] at he; cases he
            | some x =>
              rw [hq] at he
              simp only [Option.map_some, Option.some.injEq] at he
              subst he
              have hi := (List.getElem?_eq_some_iff.1 hq)
              obtain ⟨hi, hix⟩ := hi
              simp only [Array.length_toList] at hi
              have hqk : q < k := by have := (List.getElem?_eq_some_iff.1 hv).1; simpa [ints64, hk] using this
              rw [ints64_get _ _ (by rw [hk]; exact hqk)] at hv
              cases hv
              have hlt : i * k + q < vs.size := by
                rw [f2, hs4]
                have h1 : (i + 1) * k ≤ (G 0).cap * k := Nat.mul_le_mul_right _ (by omega)
                rw [Nat.add_mul] at h1; omega
              have hlt2 : i * k + q < d'.size * k := by
                have h1 : (i + 1) * k ≤ d'.size * k := Nat.mul_le_mul_right _ hi
                rw [Nat.add_mul] at h1; omega
              have : (putCells id 0 (flatK (fun x => vals64 (fs x)) k d') vs).getD (i * (G 0).sz + q) undef = .int .i64 ((fs x).getD q 0) := by
                rw [hs4]
                have h2 := hrow d' i q hi hqk
                have h3 : d'[i]! = x := by rw [← hix]; simp [hi]
                rw [h3] at h2
                simp only [putCells, Array.getD_eq_getD_getElem?, Array.getElem?_mapIdx, Array.getElem?_eq_getElem hlt, Option.map_some, Option.getD_some, Nat.sub_zero, size_flatK, Nat.zero_add]
                rw [if_pos ⟨Nat.zero_le _, hlt2⟩]
                exact h2
              rw [this]
              exact ⟨.int _ _, rfl⟩
      · cases o with
        | succ o => simp at ho
        | zero => cases o' with
          | succ o' => simp at ho'
          | zero => rfl
      · cases o with
        | succ o => simp at ho
        | zero => exact hh.nI 0 _ rfl ⟨rfl, hcap⟩
      · cases o with
        | succ o => simp at ho
        | zero => exact hb ▸ hown
      · unfold sortWorldK putRowK
        rw [Sort.frozen?_grow _ _ _ (by simpa [putRow, Sort.mapBlock, Sort.ahead] using ha), Sort.frozen?_putRow]
        rfl
      · cases o with
        | succ o => simp at ho
        | zero => exact ⟨rfl, _, rfl, rfl⟩
end Go.Eng
/-
  DERIVED: THE SHELF's CONTRACTS AT THIS DUMP, IN PLAIN WORDS (tools/lay-plain.mjs out of 'Sspan.lean', which tools/lay-shelf.mjs wrote): THE SAME DECLARATIONS UNDER THE SAME NAMES: 'import', 'namespace', 'open', 'def', 'theorem' AND NOTHING ELSE: no command of the shelf's: FOR A HAND-IN. Each laying: the table of numbers ('.._ren') and one theorem, a field a fact of the dump's own or the kernel's comparison; each contract: ONE APPLICATION.
-/
namespace Go.Proofs
open Go.Shelf
def Try.sortSpan_ren : Go.Shelf.Ren := ⟨fun | 6 => 63 | 15 => 98 | 14 => 97 | 28 => 126 | 29 => 127 | 20 => 118 | 21 => 119 | 22 => 120 | 23 => 121 | 24 => 122 | 25 => 123 | 26 => 124 | 27 => 125 | 46 => 147 | 47 => 148 | 48 => 149 | 49 => 150 | 50 => 151 | 57 => 165 | n => n, fun | 22 => 59 | 24 => 62 | 25 => 116 | 3 => 3 | 39 => 157 | 0 => 0 | 53 => 207 | 55 => 209 | 4 => 4 | 46 => 201 | 45 => 200 | 50 => 121 | 5 => 5 | 9 => 9 | 66 => 244 | 70 => 248 | 76 => 259 | 77 => 226 | n => n, fun | n => n⟩
theorem Try.sortSpan : Go.Proofs.SlLaysF0.n6 Try.prog Try.sortSpan_ren := {
  mixed := by kernel_rfl
  f6 := ⟨Try.f63.name, by decide, Try.func63.trans (congrArg some (by kernel_rfl))⟩
  f14 := ⟨Try.f97.name, by decide, Try.func97.trans (congrArg some (by kernel_rfl))⟩
  f15 := Try.func98.trans (congrArg some (by kernel_rfl))
  f20 := ⟨Try.f118.name, by decide, Try.func118.trans (congrArg some (by kernel_rfl))⟩
  f21 := ⟨Try.f119.name, by decide, Try.func119.trans (congrArg some (by kernel_rfl))⟩
  f22 := ⟨Try.f120.name, by decide, Try.func120.trans (congrArg some (by kernel_rfl))⟩
  f23 := ⟨Try.f121.name, by decide, Try.func121.trans (congrArg some (by kernel_rfl))⟩
  f24 := ⟨Try.f122.name, by decide, Try.func122.trans (congrArg some (by kernel_rfl))⟩
  f25 := ⟨Try.f123.name, by decide, Try.func123.trans (congrArg some (by kernel_rfl))⟩
  f26 := ⟨Try.f124.name, by decide, Try.func124.trans (congrArg some (by kernel_rfl))⟩
  f27 := ⟨Try.f125.name, by decide, Try.func125.trans (congrArg some (by kernel_rfl))⟩
  f28 := Try.func126.trans (congrArg some (by kernel_rfl))
  f29 := Try.func127.trans (congrArg some (by kernel_rfl))
  f46 := ⟨Try.f147.name, by decide, Try.func147.trans (congrArg some (by kernel_rfl))⟩
  f47 := Try.func148.trans (congrArg some (by kernel_rfl))
  f48 := Try.func149.trans (congrArg some (by kernel_rfl))
  f49 := ⟨Try.f150.name, by decide, Try.func150.trans (congrArg some (by kernel_rfl))⟩
  f50 := ⟨Try.f151.name, by decide, Try.func151.trans (congrArg some (by kernel_rfl))⟩
  f57 := ⟨Try.f165.name, by decide, Try.func165.trans (congrArg some (by kernel_rfl))⟩
  t0 := Try.underlying0
  a0 := Try.isAgg0
  z0 := Try.sizeOf0
  v0 := Try.zeroValue0
  t3 := Try.underlying3
  a3 := Try.isAgg3
  z3 := Try.sizeOf3
  v3 := Try.zeroValue3
  t4 := Try.underlying4
  a4 := Try.isAgg4
  z4 := Try.sizeOf4
  v4 := Try.zeroValue4
  t5 := Try.underlying5
  a5 := Try.isAgg5
  z5 := Try.sizeOf5
  v5 := Try.zeroValue5
  t9 := Try.underlying9
  a9 := Try.isAgg9
  z9 := Try.sizeOf9
  v9 := Try.zeroValue9
  t22 := Try.underlying59
  a22 := Try.isAgg59
  z22 := Try.sizeOf59
  v22 := Try.zeroValue59
  t25 := Try.underlying116
  a25 := Try.isAgg116
  z25 := Try.sizeOf116
  v25 := Try.zeroValue116
  t39 := Try.underlying157
  a39 := Try.isAgg157
  z39 := Try.sizeOf157
  v39 := Try.zeroValue157
  t45 := Try.underlying200
  a45 := Try.isAgg200
  z45 := Try.sizeOf200
  v45 := Try.zeroValue200
  t46 := Try.underlying201
  a46 := Try.isAgg201
  z46 := Try.sizeOf201
  v46 := Try.zeroValue201
  t50 := Try.underlying121
  a50 := Try.isAgg121
  z50 := Try.sizeOf121
  v50 := Try.zeroValue121
  t53 := Try.underlying207
  a53 := Try.isAgg207
  z53 := Try.sizeOf207
  v53 := Try.zeroValue207
  t55 := Try.underlying209
  a55 := Try.isAgg209
  z55 := Try.sizeOf209
  v55 := Try.zeroValue209
  t66 := Try.underlying244
  a66 := Try.isAgg244
  z66 := Try.sizeOf244
  v66 := Try.zeroValue244
  t70 := Try.underlying248
  a70 := Try.isAgg248
  z70 := Try.sizeOf248
  v70 := Try.zeroValue248
  t76 := Try.underlying259
  a76 := Try.isAgg259
  z76 := Try.sizeOf259
  v76 := Try.zeroValue259
  t77 := Try.underlying226
  a77 := Try.isAgg226
  z77 := Try.sizeOf226
  v77 := Try.zeroValue226 }
end Go.Proofs
set_option linter.unusedVariables false
set_option linter.unusedSimpArgs false
namespace Go.Eng
open Go Go.Proofs Go.Eng.Rows
def encS (s : Sp) : List PV := [.int .i64 s.fr, .int .i64 s.to, .int .i64 s.a, .int .i64 s.b]
def encR (x : Row) : List PV := [.int .i64 x.kind, .int .i64 x.fr, .int .i64 x.to, .int .i64 x.a, .int .i64 x.b]
def sps (l : List Sp) : List (List PV) := l.map encS
def rws (l : List Row) : List (List PV) := l.map encR
theorem encS_len (x : Sp) : (encS x).length = 4 := rfl
theorem encR_len (x : Row) : (encR x).length = 5 := rfl
theorem p96 (x : Int) : PCall Try.prog 96 [.int .i64 x] fun v => v = .bool false := by
  refine a_cmp_isNaN_int x ?_; unfold r_cmp_isNaN_int; simp
def cmpS (x y : Int) : Int := if x < y then -1 else if x > y then 1 else 0
theorem p61 (x y : Int) : PCall Try.prog 61 [.int .i64 x, .int .i64 y] fun v => v = .int .i64 (cmpS x y) := by
  refine a_cmp_Compare_int x y ?_; unfold r_cmp_Compare_int
  refine (p96 x).mono ?_; rintro _ rfl
  refine ⟨_, rfl, ?_⟩
  refine (p96 y).mono ?_; rintro _ rfl
  refine ⟨_, rfl, ?_⟩
  simp only [Bool.false_eq_true, if_false, cmpS, decide_eq_true_eq]
  by_cases h : x < y
  · rw [if_pos h, if_pos h]
  · rw [if_neg h, if_neg h]
    by_cases h : x > y
    · rw [if_pos h, if_pos h]
    · rw [if_neg h, if_neg h]
theorem cmpS_lt (x y : Int) : cmpS x y < 0 ↔ x < y := by
  unfold cmpS
  by_cases h : x < y
  · simp [h]
  · rw [if_neg h]; split <;> omega
theorem p60 (x y : Sp) : PCall Try.prog 60 [.agg (encS x), .agg (encS y)] fun v => v = .int .i64 (cmpS x.fr y.fr) := by
  refine a_rows_Of_1 _ _ _ _ _ _ _ _ ?_; unfold r_rows_Of_1
  refine (p61 x.fr y.fr).mono ?_; rintro _ rfl
  exact ⟨_, rfl, rfl⟩
/-- What is left of a span. -/
theorem p62 (s : Sp) (n : Bool) (l : List Sp) (hl : Rows.Good l) (h0 : 0 ≤ s.fr) (h1 : s.to ≤ 1114111) : ACall Try.prog 62 [.pv (.agg (encS s)), .own 0] [.sl (62, 4) false n (sps l)] fun r h' => ∃ m, r = .own 1 ∧ h' = [.sl (62, 4) false n (sps l), .sl (62, 4) true m (sps (restL l s))] := by
  refine a_rows_rest _ _ _ _ _ _ (fun i fr to a b _ acc => 0 ≤ i ∧ i ≤ l.length ∧ a = s.a ∧ b = s.b ∧ ∃ t, acc = sps t ∧ t ++ restL (l.drop i.toNat) ⟨fr, to, a, b⟩ = restL l s ∧ 0 ≤ fr ∧ to ≤ 1114111) (fun i _ _ _ _ _ _ => l.length - i.toNat) ?_
  unfold r_rows_rest
  refine ⟨⟨rfl, Int.le_refl _, by omega, rfl, rfl, [], rfl, rfl, h0, h1⟩, ?_⟩
  rintro i fr to a b m acc ⟨i0, i1, rfl, rfl, t, rfl, ht, b0, b1⟩
  have hlen : (sps l).length = l.length := by simp [sps]
  have hll := hl.len
  have htl : t.length ≤ 1114113 := by
    have := restL_len l s
    rw [← ht] at this
    simp at this; omega
  have hszt : (sps t).length = t.length := by simp [sps]
  split
  next hc =>
    simp only [decide_eq_true_eq, hlen] at hc
    have hi : i.toNat < l.length := by omega
    have hx := hl.2 l[i.toNat] (List.getElem_mem hi)
    have hw : IntKind.i64.wrap (i + 1) = i + 1 := wrap_i64 (by omega) (by omega)
    have hn : (i + 1).toNat = i.toNat + 1 := by omega
    have hg : (sps l).getD i.toNat [] = encS l[i.toNat] := getD_map hi
    rw [drop_cons hi] at ht
    refine ⟨idxOK_map encS_len i0 hc, l[i.toNat].fr, by rw [hg]; rfl, l[i.toNat].to, by rw [hg]; rfl, l[i.toNat].a, by rw [hg]; rfl, l[i.toNat].b, by rw [hg]; rfl, ?_⟩
    simp only [restL] at ht
    rw [hw]
    split
    next c1 =>
      simp only [decide_eq_true_eq, gt_iff_lt] at c1
      rw [if_pos c1] at ht
      exact ⟨rfl, ⟨by omega, by omega, rfl, rfl, t, rfl, by rw [hn]; exact ht, b0, b1⟩, by dsimp only; omega⟩
    next c1 =>
      simp only [decide_eq_true_eq, gt_iff_lt] at c1
      rw [if_neg c1] at ht
      split
      next c2 =>
        simp only [decide_eq_true_eq, gt_iff_lt] at c2
        rw [if_pos c2] at ht
        exact ⟨rfl, ⟨by omega, by omega, rfl, rfl, t, rfl, by rw [hn]; exact ht, b0, b1⟩, by dsimp only; omega⟩
      next c2 =>
        simp only [decide_eq_true_eq, gt_iff_lt] at c2
        rw [if_neg c2] at ht
        have hw2 : IntKind.i64.wrap (l[i.toNat].to + 1) = l[i.toNat].to + 1 := wrap_i64 (by omega) (by omega)
        have hw3 : IntKind.i64.wrap (l[i.toNat].fr - 1) = l[i.toNat].fr - 1 := wrap_i64 (by omega) (by omega)
        rw [hw2, hw3]
        split
        next c3 =>
          simp only [decide_eq_true_eq, gt_iff_lt] at c3
          rw [if_pos c3] at ht
          refine ⟨⟨fun e he => by simp at he; subst he; rfl, by rw [hszt]; omega⟩, rfl, ⟨by omega, by omega, rfl, rfl, t ++ [⟨fr, l[i.toNat].fr - 1, s.a, s.b⟩], by simp [sps, encS], by rw [hn, List.append_assoc]; exact ht, by omega, b1⟩, by dsimp only; omega⟩
        next c3 =>
          simp only [decide_eq_true_eq, gt_iff_lt] at c3
          rw [if_neg c3] at ht
          exact ⟨rfl, ⟨by omega, by omega, rfl, rfl, t, rfl, by rw [hn]; exact ht, by omega, b1⟩, by dsimp only; omega⟩
  next hc =>
    simp only [decide_eq_true_eq, hlen] at hc
    have hi : l.length ≤ i.toNat := by omega
    rw [List.drop_eq_nil_of_le hi] at ht
    simp only [restL] at ht
    split
    next c =>
      simp only [decide_eq_true_eq, gt_iff_lt] at c
      rw [if_pos c] at ht
      refine ⟨⟨fun e he => by simp at he; subst he; rfl, by rw [hszt]; omega⟩, m && false, rfl, ?_⟩
      rw [← ht]; simp [sps, encS]
    next c =>
      simp only [decide_eq_true_eq, gt_iff_lt] at c
      rw [if_neg c] at ht
      refine ⟨m, rfl, ?_⟩
      rw [← ht]; simp [sps]
/-- The spans sorted. -/
theorem p63 (n : Bool) (l : List Sp) (hn : n = true → l = []) (hl : l.length < 4611686018427387904) : ACall Try.prog 63 [.own 0, .pv (.fn 60 [])] [.sl (62, 4) false n (sps l)] fun r h' => ∃ t : List Sp, r = .tup [] ∧ h' = [.sl (62, 4) false n (sps t)] ∧ t.Perm l ∧ t.Pairwise (fun x y => ¬ y.fr < x.fr) := by
  have := sort_ok Try.sortSpan ⟨_, Try.func63, by kernel_rfl, by kernel_rfl⟩ 4 (by decide) (fun w => Try.isAgg62 w) (fun w => Try.sizeOf62 w) (fun s : Sp => [s.fr, s.to, s.a, s.b]) (fun _ => rfl) (fun x y => cmpS x.fr y.fr) ⟨fun x => ?_, fun x y z h1 h2 => ?_, fun x y z h1 h2 => ?_⟩ 60 (fun x y => p60 x y) (62, 4) rfl n l hn hl
  · refine this.mono ?_
    rintro r h' ⟨t, h1, h2, h3, h4⟩
    refine ⟨t, h1, h2, h3, h4.imp fun {a b} h => ?_⟩
    exact fun hlt => h ((cmpS_lt _ _).2 hlt)
  · simp [ltOf, cmpS_lt]
  · simp only [ltOf, cmpS_lt, decide_eq_true_eq] at *; omega
  · simp only [ltOf, cmpS_lt, decide_eq_false_iff_not] at *; omega
end Go.Eng
set_option linter.unusedVariables false
set_option linter.unusedSimpArgs false
namespace Go.Eng
open Go Go.Proofs Go.Eng.Rows
theorem foldJ_len (l : List Sp) : ∀ acc, (l.foldl joinS acc).length ≤ acc.length + l.length := by
  induction l with
  | nil => intro acc; simp
  | cons x xs ih => intro acc; have := ih (joinS acc x); have := joinS_len acc x; simp only [List.foldl_cons, List.length_cons]; omega
theorem good_take {l : List Sp} (h : Rows.Good l) (i : Nat) : Rows.Good (l.take i) := ⟨h.1.sublist (List.take_sublist i l), fun x hx => h.2 x (List.mem_of_mem_take hx)⟩
theorem take_snoc {α : Type} {l : List α} {i : Nat} (h : i < l.length) : l.take (i + 1) = l.take i ++ [l[i]] := by
  rw [List.take_add_one, List.getElem?_eq_getElem h]; rfl
theorem sps_len (l : List Sp) : (sps l).length = l.length := by simp [sps]
theorem rws_len (l : List Row) : (rws l).length = l.length := by simp [rws]
theorem p64 (n f : Bool) (l : List Sp) (hl : Rows.Good l) : PCall Try.prog 64 [.sl n f (sps l)] fun v => ∃ n f, v = .sl n f (sps (joinL l)) := by
  refine a_rows_joined _ _ _ (fun i _ acc => 0 ≤ i ∧ i ≤ l.length ∧ acc = sps (joinL (l.take i.toNat))) (fun i _ _ => l.length - i.toNat) ?_
  unfold r_rows_joined
  refine ⟨⟨rfl, Int.le_refl _, by omega, by simp [joinL, sps]⟩, ?_⟩
  rintro i m acc ⟨i0, i1, rfl⟩
  have hlen : (sps l).length = l.length := by simp [sps]
  have hll := hl.len
  split
  next hc =>
    simp only [decide_eq_true_eq, hlen] at hc
    have hi : i.toNat < l.length := by omega
    have hx := hl.2 l[i.toNat] (List.getElem_mem hi)
    have hw : IntKind.i64.wrap (i + 1) = i + 1 := wrap_i64 (by omega) (by omega)
    have hn : (i + 1).toNat = i.toNat + 1 := by omega
    have hg : (sps l).getD i.toNat [] = encS l[i.toNat] := getD_map hi
    have hst : joinL (l.take (i + 1).toNat) = joinS (joinL (l.take i.toNat)) l[i.toNat] := by rw [hn, take_snoc hi]; simp only [joinL, List.foldl_append, List.foldl_cons, List.foldl_nil]
    have hga := (joinL_ok (good_take hl i.toNat)).1
    have hgl := foldJ_len (l.take i.toNat) []
    rw [← joinL] at hgl
    simp only [List.length_nil, List.length_take] at hgl
    have hmu : l.length - (i + 1).toNat < l.length - i.toNat := by omega
    refine ⟨idxOK_map encS_len i0 hc, l[i.toNat].fr, by rw [hg]; rfl, l[i.toNat].to, by rw [hg]; rfl, l[i.toNat].a, by rw [hg]; rfl, l[i.toNat].b, by rw [hg]; rfl, ?_⟩
    rw [hw]
    simp only [hst]
    generalize joinL (l.take i.toNat) = acc at *
    generalize l[i.toNat] = x at *
    have hal : (sps acc).length = acc.length := by simp [sps]
    have hw2 : IntKind.i64.wrap (((sps acc).length : Int) - 1) = (acc.length : Int) - 1 := by rw [hal]; exact wrap_i64 (by omega) (by omega)
    have hsz : szOK [[.int .i64 x.fr, .int .i64 x.to, .int .i64 x.a, .int .i64 x.b]] 4 ∧ ((sps acc).length + 1) * 32 ≤ 2^47 := ⟨fun e he => by simp at he; subst he; rfl, by rw [hal]; omega⟩
    have hno : acc ++ [x] = joinS acc x → sps acc ++ [[.int .i64 x.fr, .int .i64 x.to, .int .i64 x.a, .int .i64 x.b]] = sps (joinS acc x) := fun h => by rw [← h]; simp [sps, encS]
    rw [hw2]
    rcases List.eq_nil_or_concat acc with rfl | ⟨k, y, rfl⟩
    · rw [if_neg (by simp)]
      exact ⟨hsz, rfl, ⟨by omega, by omega, hno rfl⟩, hmu⟩
    · simp only [List.concat_eq_append] at *
      have hy := hga.2 y (by simp)
      have hkl : ((k ++ [y]).length : Int) - 1 = k.length := by simp
      rw [hkl]
      have hgk : (sps (k ++ [y])).getD ((k.length : Int)).toNat [] = encS y := by
        have : k.length < (k ++ [y]).length := by simp
        rw [show ((k.length : Int)).toNat = k.length by omega, sps, getD_map this]; simp
      have hix : idxOK (sps (k ++ [y])) (k.length : Int) 4 := idxOK_map encS_len (by omega) (by simp; omega)
      have hJ : joinS (k ++ [y]) x = if y.to + 1 = x.fr ∧ y.a = x.a ∧ y.b = x.b then k ++ [{ y with to := x.to }] else k ++ [y] ++ [x] := by
        unfold joinS; rw [List.getLast?_concat]; simp only [List.dropLast_concat]
      have hw3 : IntKind.i64.wrap (y.to + 1) = y.to + 1 := wrap_i64 (by omega) (by omega)
      have hfin : ¬ (y.to + 1 = x.fr ∧ y.a = x.a ∧ y.b = x.b) → sps (k ++ [y]) ++ [[.int .i64 x.fr, .int .i64 x.to, .int .i64 x.a, .int .i64 x.b]] = sps (joinS (k ++ [y]) x) := fun h => hno (by rw [hJ, if_neg h])
      rw [if_pos (by simp)]
      refine ⟨hix, y.to, by rw [hgk]; rfl, ?_⟩
      rw [hw3]
      by_cases c1 : y.to + 1 = x.fr
      · rw [if_pos (by simpa using c1)]
        refine ⟨hix, y.a, by rw [hgk]; rfl, ?_⟩
        by_cases c2 : y.a = x.a
        · rw [if_pos (by simpa using c2)]
          refine ⟨hix, y.b, by rw [hgk]; rfl, ?_⟩
          by_cases c3 : y.b = x.b
          · rw [if_pos (by simpa using c3), hgk]
            refine ⟨hix, ⟨trivial, by show 2 ≤ 4; omega⟩, rfl, ⟨by omega, by omega, ?_⟩, hmu⟩
            rw [hJ, if_pos ⟨c1, c2, c3⟩, show ((k.length : Int)).toNat = k.length by omega]
            simp [sps, encS, spl]
          · rw [if_neg (by simpa using c3)]
            exact ⟨hsz, rfl, ⟨by omega, by omega, hfin fun h => c3 h.2.2⟩, hmu⟩
        · rw [if_neg (by simpa using c2)]
          exact ⟨hsz, rfl, ⟨by omega, by omega, hfin fun h => c2 h.2.1⟩, hmu⟩
      · rw [if_neg (by simpa using c1)]
        exact ⟨hsz, rfl, ⟨by omega, by omega, hfin fun h => c1 h.1⟩, hmu⟩
  next hc =>
    simp only [decide_eq_true_eq, hlen] at hc
    rw [List.take_of_length_le (by omega)]
    exact ⟨_, _, rfl⟩
/-- The spans of rows. -/
theorem p29 (n f : Bool) (rows : List Row) (k : Int) (hlr : rows.length < 4611686018427387904) : PCall Try.prog 29 [.sl n f (rws rows), .int .i64 k] fun v => ∃ n f, v = .sl n f (sps (ofL k rows)) := by
  refine a_rows_Of _ _ _ _ (fun i n acc => 0 ≤ i ∧ i ≤ rows.length ∧ acc = sps (allL k (rows.take i.toNat)) ∧ (n = true → acc = [])) (fun i _ _ => rows.length - i.toNat) ?_
  unfold r_rows_Of
  refine ⟨⟨rfl, Int.le_refl _, by omega, by simp [allL, sps], fun _ => rfl⟩, ?_⟩
  rintro i m acc ⟨i0, i1, rfl, hnil⟩
  have hlen : (rws rows).length = rows.length := by simp [rws]
  have hga := allL_good k (rows.take i.toNat)
  have hll := hga.len
  split
  next hc =>
    simp only [decide_eq_true_eq, hlen] at hc
    have hi : i.toNat < rows.length := by omega
    have hw : IntKind.i64.wrap (i + 1) = i + 1 := wrap_i64 (by omega) (by omega)
    have hn : (i + 1).toNat = i.toNat + 1 := by omega
    have hg : (rws rows).getD i.toNat [] = encR rows[i.toNat] := getD_map hi
    have hst : allL k (rows.take (i + 1).toNat) = stepL k (allL k (rows.take i.toNat)) rows[i.toNat] := by rw [hn, take_snoc hi, allL_snoc]
    have hmu : rows.length - (i + 1).toNat < rows.length - i.toNat := by omega
    refine ⟨idxOK_map encR_len i0 hc, rows[i.toNat].kind, by rw [hg]; rfl, rows[i.toNat].fr, by rw [hg]; rfl, rows[i.toNat].to, by rw [hg]; rfl, rows[i.toNat].a, by rw [hg]; rfl, rows[i.toNat].b, by rw [hg]; rfl, ?_⟩
    rw [hw]
    simp only [hst]
    generalize allL k (rows.take i.toNat) = acc at *
    generalize rows[i.toNat] = x at *
    have hal : (sps acc).length = acc.length := by simp [sps]
    by_cases hk : x.kind = k
    · rw [if_neg (by simpa using hk)]
      have h62 := p62 x.sp m acc hga x.sp_lo x.sp_hi
      simp only [encS, Row.sp] at h62
      refine h62.mono ?_
      rintro _ _ ⟨m1, rfl, rfl⟩
      have hrl := restL_len acc x.sp
      refine ⟨(m1, sps (restL acc x.sp)), ⟨rfl, rfl⟩, ⟨by simp, trivial⟩, ⟨szOK_map encS_len _, by simp only [sps, List.length_map]; omega⟩, ?_⟩
      have happ : sps acc ++ sps (restL acc x.sp) = sps (acc ++ restL acc x.sp) := by simp [sps]
      simp only [happ]
      refine (p63 _ (acc ++ restL acc x.sp) (fun h => ?_) (by simp only [List.length_append]; omega)).mono ?_
      · simp only [Bool.and_eq_true, List.isEmpty_iff] at h
        have h1 := hnil h.1
        have h2 := h.2
        simp only [sps, List.map_eq_nil_iff] at h1 h2
        simp [h1, h2]
        simpa [h1] using h2
      · rintro _ _ ⟨t, rfl, rfl, hp, hs⟩
        have ht := step_eq hga hk hp hs
        refine ⟨sps t, ⟨rfl, rfl⟩, ⟨⟨trivial, trivial, by simp only [sps, List.length_map]; exact hp.length_eq.symm⟩, trivial⟩, rfl, ⟨by omega, by omega, by rw [ht], fun h => ?_⟩, hmu⟩
        simp only [Bool.and_eq_true, List.isEmpty_iff] at h
        have h1 := hnil h.1
        have h2 := h.2
        simp only [sps, List.map_eq_nil_iff] at h1 h2 ⊢
        rw [h2, h1] at hp
        simpa using hp
    · rw [if_pos (by simpa using hk)]
      refine ⟨rfl, ⟨by omega, by omega, by rw [stepL, if_neg hk], hnil⟩, hmu⟩
  next hc =>
    simp only [decide_eq_true_eq, hlen] at hc
    rw [List.take_of_length_le (by omega)] at hga ⊢
    refine (p64 _ _ _ hga).mono ?_
    rintro _ ⟨n, f, rfl⟩
    exact ⟨_, _, _, rfl, _, _, rfl⟩
end Go.Eng
set_option linter.unusedVariables false
set_option linter.unusedSimpArgs false
namespace Go.Eng
open Go Go.Proofs Go.Eng.Rows
theorem p28 (n f : Bool) (rows : List Row) : PCall Try.prog 28 [.sl n f (rws rows)] fun v => ∃ n f, v = .sl n f (rws (rows.take 40)) := by
  refine a_typebarlaw02_few _ _ _ ?_; unfold r_typebarlaw02_few
  split
  next hc =>
    simp only [decide_eq_true_eq, rws_len] at hc
    refine ⟨⟨by unfold slOK; simp [rws]; omega, szOK_map encR_len _⟩, n, _, by simp only [rws, List.map_take]; rfl⟩
  next hc =>
    simp only [decide_eq_true_eq, rws_len] at hc
    exact ⟨n, f, by rw [List.take_of_length_le (by omega)]⟩
def sizeS (l : List Sp) : Int := (l.map fun s => s.to - s.fr + 1).sum
theorem sizeS_snoc (l : List Sp) (x : Sp) : sizeS (l ++ [x]) = sizeS l + (x.to - x.fr + 1) := by simp [sizeS]
theorem sizeS_bound {l : List Sp} (h : Rows.In l) : 0 ≤ sizeS l ∧ sizeS l ≤ 1114112 * l.length := by
  induction l with
  | nil => simp [sizeS]
  | cons x l ih =>
    have h1 := h x List.mem_cons_self
    have := ih fun y hy => h y (List.mem_cons_of_mem _ hy)
    simp only [sizeS, List.map_cons, List.sum_cons, List.length_cons] at *
    omega
theorem p30 (n f : Bool) (l : List Sp) (hl : Rows.Good l) : PCall Try.prog 30 [.sl n f (sps l)] fun v => v = .int .i64 (sizeS l) := by
  refine a_rows_Size _ _ _ (fun a i => 0 ≤ i ∧ i ≤ l.length ∧ a = sizeS (l.take i.toNat)) (fun _ i => l.length - i.toNat) ?_
  unfold r_rows_Size
  refine ⟨⟨rfl, Int.le_refl _, by omega, rfl⟩, ?_⟩
  rintro _ i ⟨i0, i1, rfl⟩
  have hll := hl.len
  split
  next hc =>
    simp only [decide_eq_true_eq, sps_len] at hc
    have hi : i.toNat < l.length := by omega
    have hx := hl.2 l[i.toNat] (List.getElem_mem hi)
    have hw : IntKind.i64.wrap (i + 1) = i + 1 := wrap_i64 (by omega) (by omega)
    have hn : (i + 1).toNat = i.toNat + 1 := by omega
    have hg : (sps l).getD i.toNat [] = encS l[i.toNat] := getD_map hi
    have hst : sizeS (l.take (i + 1).toNat) = sizeS (l.take i.toNat) + (l[i.toNat].to - l[i.toNat].fr + 1) := by rw [hn, take_snoc hi, sizeS_snoc]
    have hb := sizeS_bound (good_take hl i.toNat).2
    simp only [List.length_take] at hb
    refine ⟨idxOK_map encS_len i0 hc, l[i.toNat].fr, by rw [hg]; rfl, l[i.toNat].to, by rw [hg]; rfl, l[i.toNat].a, by rw [hg]; rfl, l[i.toNat].b, by rw [hg]; rfl, ?_⟩
    have w1 : IntKind.i64.wrap (l[i.toNat].to - l[i.toNat].fr) = l[i.toNat].to - l[i.toNat].fr := wrap_i64 (by omega) (by omega)
    have w2 : IntKind.i64.wrap (l[i.toNat].to - l[i.toNat].fr + 1) = l[i.toNat].to - l[i.toNat].fr + 1 := wrap_i64 (by omega) (by omega)
    have w3 : IntKind.i64.wrap (sizeS (l.take i.toNat) + (l[i.toNat].to - l[i.toNat].fr + 1)) = sizeS (l.take i.toNat) + (l[i.toNat].to - l[i.toNat].fr + 1) := wrap_i64 (by omega) (by omega)
    rw [hw, w1, w2, w3]
    exact ⟨rfl, ⟨by omega, by omega, hst.symm⟩, by dsimp only; omega⟩
  next hc =>
    simp only [decide_eq_true_eq, sps_len] at hc
    rw [List.take_of_length_le (by omega)]
theorem p31 : PCall Try.prog 31 [] fun v => v = .bool true := by
  refine a_typebarlaw02_awake ?_; unfold r_typebarlaw02_awake
  have h := p29 false true [⟨1, 5, 9, 7, 0⟩, ⟨1, 8, 12, 8, 0⟩] 1 (by decide)
  refine PCall.mono h ?_
  rintro _ ⟨n, f, rfl⟩
  have e : ofL 1 [⟨1, 5, 9, 7, 0⟩, ⟨1, 8, 12, 8, 0⟩] = [⟨5, 9, 7, 0⟩, ⟨10, 12, 8, 0⟩] := by decide
  rw [e]
  refine ⟨n, f, _, rfl, ?_⟩
  rw [if_pos (by rfl)]
  refine ⟨idxOK_map encS_len (by decide) (by decide), 5, rfl, 9, rfl, 7, rfl, 0, rfl, ?_⟩
  rw [if_pos (by rfl)]
  exact ⟨idxOK_map encS_len (by decide) (by decide), 10, rfl, 12, rfl, 8, rfl, 0, rfl, rfl⟩
theorem p6 (n f : Bool) (rows : List Row) (k : Int) : PCall Try.prog 6 [.sl n f (rws rows), .int .i64 k] fun v => v = .bool true := by
  refine a_typebarlaw02_RowsOrder _ _ _ _ (fun n f es a i => ∃ l, es = sps l ∧ Rows.Good l ∧ Rows.Split l ∧ 0 ≤ i ∧ i ≤ l.length ∧ a = sizeS (l.take i.toNat)) (fun _ _ es _ i => es.length - i.toNat) ?_
  unfold r_typebarlaw02_RowsOrder
  refine (p28 _ _ rows).mono ?_
  rintro _ ⟨n1, f1, rfl⟩
  refine ⟨_, _, _, rfl, ?_⟩
  refine (p29 _ _ _ k (by simp only [List.length_take]; omega)).mono ?_
  rintro _ ⟨n2, f2, rfl⟩
  refine ⟨_, _, _, rfl, ⟨rfl, _, rfl, ofL_good _ _, ofL_split _ _, Int.le_refl _, by omega, rfl⟩, ?_⟩
  rintro n5 f5 _ _ i ⟨l, rfl, hl, hs, i0, i1, rfl⟩
  have hll := hl.len
  refine iteD (fun hc => ?_) (fun hc => ?_)
  · simp only [decide_eq_true_eq, sps_len] at hc
    have hi : i.toNat < l.length := by omega
    have hx := hl.2 l[i.toNat] (List.getElem_mem hi)
    have hw : IntKind.i64.wrap (i + 1) = i + 1 := wrap_i64 (by omega) (by omega)
    have hw1 : IntKind.i64.wrap (i - 1) = i - 1 := wrap_i64 (by omega) (by omega)
    have hn : (i + 1).toNat = i.toNat + 1 := by omega
    have hg : (sps l).getD i.toNat [] = encS l[i.toNat] := getD_map hi
    have hst : sizeS (l.take (i + 1).toNat) = sizeS (l.take i.toNat) + (l[i.toNat].to - l[i.toNat].fr + 1) := by rw [hn, take_snoc hi, sizeS_snoc]
    have hb := sizeS_bound (good_take hl i.toNat).2
    simp only [List.length_take] at hb
    have w1 : IntKind.i64.wrap (sizeS (l.take i.toNat) + l[i.toNat].to) = sizeS (l.take i.toNat) + l[i.toNat].to := wrap_i64 (by omega) (by omega)
    have w2 : IntKind.i64.wrap (sizeS (l.take i.toNat) + l[i.toNat].to - l[i.toNat].fr) = sizeS (l.take i.toNat) + l[i.toNat].to - l[i.toNat].fr := wrap_i64 (by omega) (by omega)
    have w3 : IntKind.i64.wrap (sizeS (l.take i.toNat) + l[i.toNat].to - l[i.toNat].fr + 1) = sizeS (l.take i.toNat) + l[i.toNat].to - l[i.toNat].fr + 1 := wrap_i64 (by omega) (by omega)
    have hix : idxOK (sps l) i 4 := idxOK_map encS_len i0 hc
    have hfin : (∃ l', sps l = sps l' ∧ Rows.Good l' ∧ Rows.Split l' ∧ 0 ≤ i + 1 ∧ i + 1 ≤ l'.length ∧ sizeS (l.take i.toNat) + l[i.toNat].to - l[i.toNat].fr + 1 = sizeS (l'.take (i + 1).toNat)) ∧ (sps l).length - (i + 1).toNat < (sps l).length - i.toNat := by
      refine ⟨⟨l, rfl, hl, hs, by omega, by omega, by rw [hst]; omega⟩, ?_⟩
      rw [sps_len]; omega
    by_cases h0 : 0 < i
    · have hj : i.toNat - 1 < l.length := by omega
      have hgj : (sps l).getD (i - 1).toNat [] = encS l[i.toNat - 1] := by rw [show (i - 1).toNat = i.toNat - 1 by omega]; exact getD_map hj
      have hy := hl.2 l[i.toNat - 1] (List.getElem_mem hj)
      have hxy : l[i.toNat - 1].to < l[i.toNat].fr := (List.pairwise_iff_getElem.1 hl.1) _ _ hj hi (by omega)
      have hsp : ¬ (l[i.toNat - 1].to + 1 = l[i.toNat].fr ∧ l[i.toNat - 1].a = l[i.toNat].a ∧ l[i.toNat - 1].b = l[i.toNat].b) := by
        have := hs (i.toNat - 1) (by omega)
        simpa [show i.toNat - 1 + 1 = i.toNat by omega] using this
      have hixj : idxOK (sps l) (i - 1) 4 := idxOK_map encS_len (by omega) (by omega)
      generalize l[i.toNat] = x at *
      generalize l[i.toNat - 1] = y at *
      have w4 : IntKind.i64.wrap (y.to + 1) = y.to + 1 := wrap_i64 (by omega) (by omega)
      have c1 : ¬ x.fr < 0 := by omega
      have c2 : ¬ x.to > 1114111 := by omega
      have c3 : ¬ x.fr > x.to := by omega
      have c4 : ¬ y.to ≥ x.fr := by omega
      have c5 : i > 0 := h0
      simp only [hw1, hix, hixj, hg, hgj, encS, List.head?_cons, List.tail_cons, List.drop, Option.some.injEq, PV.int.injEq, true_and, exists_eq_left', decide_eq_true_eq, c1, c2, c3, c4, c5, if_true, if_false, hw, w1, w2, w3, w4]
      refine iteD (fun e1 => iteD (fun e2 => iteD (fun e3 => ?_) (fun _ => ⟨rfl, hfin⟩)) (fun _ => ⟨rfl, hfin⟩)) (fun _ => ⟨rfl, hfin⟩)
      exact absurd ⟨by simpa using e1, by simpa using e2, by simpa using e3⟩ hsp
    · generalize l[i.toNat] = x at *
      have c1 : ¬ x.fr < 0 := by omega
      have c2 : ¬ x.to > 1114111 := by omega
      have c3 : ¬ x.fr > x.to := by omega
      have c5 : ¬ i > 0 := h0
      simp only [hix, hg, encS, List.head?_cons, List.tail_cons, List.drop, Option.some.injEq, PV.int.injEq, true_and, exists_eq_left', decide_eq_true_eq, c1, c2, c3, c5, if_true, if_false, hw, w1, w2, w3]
      exact ⟨rfl, hfin⟩
  · simp only [decide_eq_true_eq, sps_len] at hc
    rw [List.take_of_length_le (by omega)]
    refine (p30 _ _ _ hl).mono ?_
    rintro _ rfl
    refine ⟨_, rfl, ?_⟩
    refine iteT (by simp) ?_
    refine p31.mono ?_
    rintro _ rfl
    exact ⟨true, rfl, rfl⟩
end Go.Eng
set_option linter.unusedVariables false
set_option linter.unusedSimpArgs false
set_option maxRecDepth 100000
set_option linter.constructorNameAsVariable false
namespace Go.Eng
open Go Go.Proofs Go.Eng.Rows
theorem u57 : Try.prog.underlying 57 = some (.slice 71) := by kernel_rfl
theorem u3 : Try.prog.underlying 3 = some (.int .i64) := by kernel_rfl
theorem typed_row {ps : List PV} {n : Nat} (h : Typed Try.prog (n + 2) 71 ps) : ∃ x : Row, ps = encR x ∧ ((-9223372036854775808 ≤ x.kind ∧ x.kind ≤ 9223372036854775807) ∧ (-9223372036854775808 ≤ x.fr ∧ x.fr ≤ 9223372036854775807) ∧ (-9223372036854775808 ≤ x.to ∧ x.to ≤ 9223372036854775807)) := by
  obtain ⟨hl, h3⟩ := typed_struct (l := [(3, 0, 1), (3, 1, 1), (3, 2, 1), (3, 3, 1), (3, 4, 1)]) (by kernel_rfl) h
  have hl : ps.length = 5 := hl.trans (by kernel_rfl)
  match ps, hl with
  | [a, b, c, d, e], _ =>
    obtain ⟨m0, e0, h0⟩ := typed_int u3 (h3 (3, 0, 1) (by simp))
    obtain ⟨m1, e1, h1⟩ := typed_int u3 (h3 (3, 1, 1) (by simp))
    obtain ⟨m2, e2, h2⟩ := typed_int u3 (h3 (3, 2, 1) (by simp))
    obtain ⟨m3, e3, _⟩ := typed_int u3 (h3 (3, 3, 1) (by simp))
    obtain ⟨m4, e4, _⟩ := typed_int u3 (h3 (3, 4, 1) (by simp))
    simp at e0 e1 e2 e3 e4
    subst e0; subst e1; subst e2; subst e3; subst e4
    exact ⟨⟨m0, m1, m2, m3, m4⟩, rfl, wf_i64 h0, wf_i64 h1, wf_i64 h2⟩
def Row.ok (x : Row) : Prop := (-9223372036854775808 ≤ x.kind ∧ x.kind ≤ 9223372036854775807) ∧ (-9223372036854775808 ≤ x.fr ∧ x.fr ≤ 9223372036854775807) ∧ (-9223372036854775808 ≤ x.to ∧ x.to ≤ 9223372036854775807)
theorem typed_rows {v : PV} (h : TypedV Try.prog 8 57 v) : ∃ nl l, v = .sl nl false (rws l) ∧ l.length ≤ maxLen ∧ ∀ x ∈ l, Row.ok x := by
  obtain ⟨nl, es, e, h1, h2, h3⟩ := typed_slice u57 (typedV_plain (by kernel_rfl) h)
  cases e
  obtain ⟨m, rfl, hm⟩ := map_of_all (f := encR) (Q := Row.ok) (l := es) fun x hx => typed_row (h3 x hx)
  exact ⟨nl, m, rfl, by simpa using h1, hm⟩
theorem law6 {pvs : List PV} (h : TypedAll Try.prog 8 Try.f6.params.toList pvs) : PCall Try.prog 6 pvs fun v => v = .bool true := by
  obtain ⟨v0, r0, rfl, h0, v1, r1, rfl, h1, rfl⟩ : TypedAll Try.prog 8 [57, 3] pvs := h
  obtain ⟨nl, l, rfl, hl, _⟩ := typed_rows h0
  obtain ⟨m, e, _⟩ := typed_int u3 (typedV_plain (by kernel_rfl) h1)
  cases e
  exact p6 _ _ _ _
end Go.Eng
namespace Go.Eng.Rows
/-- The edges. -/
def Asc (l : List Int) : Prop := l.Pairwise (· < ·)
theorem first_same {rows : List Row} {k r r' : Int} (h : ∀ x ∈ rows, x.has k r = x.has k r') : first rows k r = first rows k r' := by
  unfold first
  congr 1
  induction rows with
  | nil => rfl
  | cons x xs ih =>
    simp only [List.find?_cons, h x List.mem_cons_self]
    rw [ih fun y hy => h y (List.mem_cons_of_mem _ hy)]
structure EdgeOK (k : Int) (rows : List Row) (e : List Int) : Prop where
  asc : Asc e
  lo : 0 ∈ e
  hi : 1114112 ∈ e
  rng : ∀ x ∈ e, 0 ≤ x ∧ x ≤ 1114112
  fr : ∀ x ∈ rows, x.kind = k → 0 ≤ x.fr → x.fr ≤ 1114111 → x.fr ∈ e
  to : ∀ x ∈ rows, x.kind = k → -1 ≤ x.to → x.to < 1114111 → x.to + 1 ∈ e
theorem EdgeOK.gap {k : Int} {rows : List Row} {e : List Int} (h : EdgeOK k rows e) {i : Nat} (hi : i + 1 < e.length) : first rows k e[i] = first rows k (e[i+1] - 1) := by
  have hlt : e[i] < e[i+1] := (List.pairwise_iff_getElem.1 h.asc) i (i+1) (by omega) hi (by omega)
  have hr0 := h.rng e[i] (List.getElem_mem _)
  have hr1 := h.rng e[i+1] (List.getElem_mem _)
  have hno : ∀ y ∈ e, y ≤ e[i] ∨ e[i+1] ≤ y := fun y hy => by
    obtain ⟨j, hj, rfl⟩ := List.getElem_of_mem hy
    by_cases c : j ≤ i
    · left
      by_cases c' : j = i
      · subst c'; exact Int.le_refl _
      · have := (List.pairwise_iff_getElem.1 h.asc) j i hj (by omega) (by omega); omega
    · right
      by_cases c' : j = i + 1
      · subst c'; exact Int.le_refl _
      · have := (List.pairwise_iff_getElem.1 h.asc) (i+1) j hi hj (by omega); omega
  refine first_same fun x hx => ?_
  simp only [Row.has]
  by_cases hk : x.kind = k
  · have h1 := h.fr x hx hk
    have h2 := h.to x hx hk
    have h3 := fun a b => hno _ (h1 a b)
    have h4 := fun a b => hno _ (h2 a b)
    simp only [hk, decide_true, Bool.true_and]
    have e1 : (x.fr ≤ e[i]) ↔ (x.fr ≤ e[i+1] - 1) := by
      constructor
      · intro; omega
      · intro hh
        by_cases c : 0 ≤ x.fr
        · rcases h3 c (by omega) with h | h <;> omega
        · omega
    have e2 : (e[i] ≤ x.to) ↔ (e[i+1] - 1 ≤ x.to) := by
      constructor
      · intro hh
        by_cases c : x.to < 1114111
        · rcases h4 (by omega) c with h | h <;> omega
        · omega
      · intro; omega
    rw [decide_eq_decide.2 e1, decide_eq_decide.2 e2]
  · simp [hk]
/-- One number more, in order. -/
structure AddOK (l : List Int) (n : Int) (i : Nat) (done : Bool) (out : List Int) : Prop where
  asc : Asc out
  mem : ∀ x, x ∈ out ↔ x ∈ l.take i ∨ (done = true ∧ x = n)
  len : out.length ≤ i + 1
  fresh : done = false → ∀ x ∈ l.take i, x < n
  past : done = true → ∀ x ∈ l.drop i, n < x
theorem asc_snoc {l : List Int} {x : Int} (h : Asc l) (hx : ∀ y ∈ l, y < x) : Asc (l ++ [x]) :=
  List.pairwise_append.2 ⟨h, by simp, fun y hy z hz => by simp at hz; subst hz; exact hx y hy⟩
theorem take_one {α : Type} {l : List α} {i : Nat} (h : i < l.length) : l.take (i + 1) = l.take i ++ [l[i]] := by
  rw [List.take_add_one, List.getElem?_eq_getElem h]; rfl
theorem asc_split {l : List Int} (h : Asc l) {i : Nat} (hi : i < l.length) : (∀ y ∈ l.take i, y < l[i]) ∧ ∀ y ∈ l.drop (i + 1), l[i] < y := by
  have e : l = l.take i ++ l[i] :: l.drop (i + 1) := by rw [List.getElem_cons_drop]; simp
  have h' : Asc (l.take i ++ l[i] :: l.drop (i + 1)) := e ▸ h
  have := List.pairwise_append.1 h'
  exact ⟨fun y hy => this.2.2 y hy _ List.mem_cons_self, fun y hy => List.rel_of_pairwise_cons this.2.1 hy⟩
theorem AddOK.both {l : List Int} {n : Int} {i : Nat} {out : List Int} (hl : Asc l) (hi : i < l.length) (h : AddOK l n i false out) (hn : n < l[i]) : AddOK l n (i + 1) true (out ++ [n] ++ [l[i]]) := by
  obtain ⟨s1, s2⟩ := asc_split hl hi
  have hm : ∀ y ∈ out, y < n := fun y hy => by
    rcases (h.mem y).1 hy with h1 | h1
    · exact h.fresh rfl y h1
    · cases h1.1
  refine ⟨asc_snoc (asc_snoc h.asc hm) fun y hy => ?_, fun x => ?_, ?_, fun h => (by cases h), fun _ x hx => by have := s2 x hx; omega⟩
  · rcases List.mem_append.1 hy with hy | hy
    · have := hm y hy; omega
    · simp at hy; subst hy; exact hn
  · rw [take_one hi]
    simp only [List.mem_append, List.mem_singleton, h.mem, Bool.false_eq_true, false_and, or_false, true_and]
    constructor
    · rintro ((a | a) | a)
      · exact .inl (.inl a)
      · exact .inr a
      · exact .inl (.inr a)
    · rintro ((a | a) | a)
      · exact .inl (.inl a)
      · exact .inr a
      · exact .inl (.inr a)
  · have hnd : out.length = (l.take i).length := by
      have h1 : ∀ x, x ∈ out ↔ x ∈ l.take i := fun x => by rw [h.mem]; simp
      have h2 : out.Nodup := h.asc.imp fun h => by omega
      have h3 : (l.take i).Nodup := (hl.sublist (List.take_sublist i l)).imp fun h => by omega
      exact (List.perm_iff_count.2 fun a => by rw [h2.count, h3.count]; simp [h1]).length_eq
    simp at hnd ⊢; omega
theorem AddOK.one {l : List Int} {n : Int} {i : Nat} {done : Bool} {out : List Int} (hl : Asc l) (hi : i < l.length) (h : AddOK l n i done out) (hn : done = false → l[i] < n) : AddOK l n (i + 1) done (out ++ [l[i]]) := by
  obtain ⟨s1, s2⟩ := asc_split hl hi
  refine ⟨asc_snoc h.asc fun y hy => ?_, fun x => ?_, by have := h.len; simp; omega, fun hd x hx => ?_, fun hd x hx => ?_⟩
  · rcases (h.mem y).1 hy with hy | ⟨hd, rfl⟩
    · exact s1 y hy
    · exact h.past hd _ (by rw [List.drop_eq_getElem_cons hi]; exact List.mem_cons_self)
  · rw [take_one hi]
    simp only [List.mem_append, List.mem_singleton, h.mem]
    constructor
    · rintro ((a | a) | a)
      · exact .inl (.inl a)
      · exact .inr a
      · exact .inl (.inr a)
    · rintro ((a | a) | a)
      · exact .inl (.inl a)
      · exact .inr a
      · exact .inl (.inr a)
  · rw [take_one hi] at hx
    rcases List.mem_append.1 hx with hx | hx
    · exact h.fresh hd x hx
    · simp at hx; subst hx; exact hn hd
  · exact h.past hd x (by rw [List.drop_eq_getElem_cons hi]; exact List.mem_cons_of_mem _ hx)
theorem EdgeOK.add {k : Int} {rows : List Row} {e : List Int} (h : EdgeOK k rows e) {n : Int} {e' : List Int} (ha : Asc e') (hm : ∀ x, x ∈ e' ↔ x ∈ e ∨ (x = n ∧ 0 ≤ n ∧ n ≤ 1114111)) : EdgeOK k rows e' :=
  ⟨ha, (hm 0).2 (.inl h.lo), (hm _).2 (.inl h.hi), fun x hx => by
    rcases (hm x).1 hx with h1 | h1
    · exact h.rng x h1
    · omega, fun x hx a b c => (hm _).2 (.inl (h.fr x hx a b c)), fun x hx a b c => (hm _).2 (.inl (h.to x hx a b c))⟩
end Go.Eng.Rows
set_option linter.unusedVariables false
set_option linter.unusedSimpArgs false
set_option maxRecDepth 100000
set_option linter.constructorNameAsVariable false
namespace Go.Eng
open Go Go.Proofs Go.Eng.Rows
def i64s (l : List Int) : List (List PV) := l.map fun n => [.int .i64 n]
theorem i64s_len (l : List Int) : (i64s l).length = l.length := by simp [i64s]
theorem enc1_len (x : Int) : ([PV.int .i64 x] : List PV).length = 1 := rfl
theorem p65 (n f : Bool) (l : List Int) (k : Int) (hl : Asc l) (hh : 1114112 ∈ l) (hb : l.length < 1000000) : PCall Try.prog 65 [.sl n f (i64s l), .int .i64 k] fun v => ∃ n f l', v = .sl n f (i64s l') ∧ Asc l' ∧ l'.length ≤ l.length + 1 ∧ ∀ x, x ∈ l' ↔ x ∈ l ∨ (x = k ∧ 0 ≤ k ∧ k ≤ 1114111) := by
  refine a_typebarref02_add _ _ _ _ (fun d i _ out => 0 ≤ i ∧ i ≤ l.length ∧ ∃ o, out = i64s o ∧ AddOK l k i.toNat d o) (fun _ i _ _ => l.length - i.toNat) ?_
  unfold r_typebarref02_add
  refine iteD (fun h => ?_) (fun h => ?_)
  · simp only [Bool.or_eq_true, decide_eq_true_eq, gt_iff_lt] at h
    exact ⟨n, f, l, rfl, hl, by omega, fun x => ⟨.inl, fun h' => h'.elim id fun h' => absurd h'.2 (by omega)⟩⟩
  · simp only [Bool.or_eq_true, decide_eq_true_eq, gt_iff_lt] at h
    refine ⟨⟨rfl, Int.le_refl _, by omega, [], rfl, List.Pairwise.nil, fun x => by simp, by simp, fun _ x hx => by simp at hx, fun h => by cases h⟩, ?_⟩
    rintro d i m _ ⟨i0, i1, o, rfl, ho⟩
    refine iteD (fun hc => ?_) (fun hc => ?_)
    · simp only [decide_eq_true_eq, i64s_len] at hc
      have hi : i.toNat < l.length := by omega
      have hw : IntKind.i64.wrap (i + 1) = i + 1 := wrap_i64 (by omega) (by omega)
      have hn : (i + 1).toNat = i.toNat + 1 := by omega
      have hg : (i64s l).getD i.toNat [] = [.int .i64 l[i.toNat]] := getD_map hi
      have hix : idxOK (i64s l) i 1 := idxOK_map enc1_len i0 hc
      have hol := ho.len
      refine ⟨hix, l[i.toNat], by rw [hg]; rfl, ?_⟩
      refine iteD (fun h1 => ?_) (fun h1 => ?_)
      · simp only [beq_iff_eq] at h1
        exact ⟨n, f, l, rfl, hl, by omega, fun x => ⟨.inl, fun h' => h'.elim id fun h' => by rw [h'.1, ← h1]; exact List.getElem_mem _⟩⟩
      · simp only [beq_iff_eq] at h1
        refine ⟨hix, l[i.toNat], by rw [hg]; rfl, ?_⟩
        refine iteD (fun h2 => ?_) (fun h2 => ?_)
        · simp only [Bool.and_eq_true, decide_eq_true_eq, Bool.not_eq_true'] at h2
          obtain ⟨h2, rfl⟩ := h2
          refine ⟨⟨fun e he => by simp at he; subst he; rfl, by rw [i64s_len]; omega⟩, hix, l[i.toNat], by rw [hg]; rfl, ⟨fun e he => by simp at he; subst he; rfl, by simp [i64s_len]; omega⟩, rfl, ?_, ?_⟩
          · rw [hw]; dsimp only; rw [hn]
            exact ⟨by omega, by omega, o ++ [k] ++ [l[i.toNat]], by simp [i64s], ho.both hl hi h2⟩
          · dsimp only; rw [hw]; omega
        · refine ⟨hix, l[i.toNat], by rw [hg]; rfl, ⟨fun e he => by simp at he; subst he; rfl, by rw [i64s_len]; omega⟩, rfl, ?_, ?_⟩
          · rw [hw]; dsimp only; rw [hn]
            refine ⟨by omega, by omega, o ++ [l[i.toNat]], by simp [i64s], ho.one hl hi fun hd => ?_⟩
            subst hd
            simp only [gt_iff_lt, Bool.not_false, Bool.and_true, decide_eq_true_eq] at h2
            omega
          · dsimp only; rw [hw]; omega
    · simp only [decide_eq_true_eq, i64s_len] at hc
      have hi : l.length ≤ i.toNat := by omega
      have hm := ho.mem
      have hf := ho.fresh
      have hle := ho.len
      rw [List.take_of_length_le hi] at hm hf
      have hd : d = true := by
        cases d with
        | true => rfl
        | false => have := hf rfl _ hh; omega
      subst hd
      exact ⟨m, false, o, rfl, ho.asc, by omega, fun x => by
        have hk0 : 0 ≤ k := by omega
        have hk1 : k ≤ 1114111 := by omega
        rw [hm]; simp [hk0, hk1]⟩
theorem p32 (n f : Bool) (rows : List Row) (k : Int) (hok : ∀ x ∈ rows, Row.ok x) (hb : rows.length ≤ 40) : PCall Try.prog 32 [.sl n f (rws rows), .int .i64 k] fun v => ∃ n f e, v = .sl n f (i64s e) ∧ EdgeOK k rows e ∧ e.length < 1000000 := by
  refine a_typebarref02_Edges _ _ _ _ (fun _ _ s i => 0 ≤ i ∧ i ≤ rows.length ∧ ∃ e, s = i64s e ∧ EdgeOK k (rows.take i.toNat) e ∧ e.length ≤ 2 + 2 * i.toNat) (fun _ _ _ i => rows.length - i.toNat) ?_
  unfold r_typebarref02_Edges
  refine ⟨⟨rfl, Int.le_refl _, by omega, [0, 1114112], rfl, ⟨by simp [Asc], by simp, by simp, by simp, by simp, by simp⟩, by simp⟩, ?_⟩
  rintro n5 f5 _ i ⟨i0, i1, e, rfl, he, hel⟩
  refine iteD (fun hc => ?_) (fun hc => ?_)
  · simp only [decide_eq_true_eq, rws_len] at hc
    have hi : i.toNat < rows.length := by omega
    have hw : IntKind.i64.wrap (i + 1) = i + 1 := wrap_i64 (by omega) (by omega)
    have hn : (i + 1).toNat = i.toNat + 1 := by omega
    have hg : (rws rows).getD i.toNat [] = encR rows[i.toNat] := getD_map hi
    have hix : idxOK (rws rows) i 5 := idxOK_map encR_len i0 hc
    have hx := hok _ (List.getElem_mem hi)
    have hmu : rows.length - (i + 1).toNat < rows.length - i.toNat := by omega
    have hnx : ∀ {e' : List Int}, EdgeOK k (rows.take i.toNat) e' → (rows[i.toNat].kind = k → 0 ≤ rows[i.toNat].fr → rows[i.toNat].fr ≤ 1114111 → rows[i.toNat].fr ∈ e') → (rows[i.toNat].kind = k → -1 ≤ rows[i.toNat].to → rows[i.toNat].to < 1114111 → rows[i.toNat].to + 1 ∈ e') → EdgeOK k (rows.take (i + 1).toNat) e' := fun {e'} he' a b => by
      refine ⟨he'.asc, he'.lo, he'.hi, he'.rng, fun x hx => ?_, fun x hx => ?_⟩ <;> rw [hn, take_snoc hi] at hx <;> rcases List.mem_append.1 hx with hx | hx
      · exact he'.fr x hx
      · simp only [List.mem_singleton] at hx; subst hx; exact a
      · exact he'.to x hx
      · simp only [List.mem_singleton] at hx; subst hx; exact b
    refine ⟨hix, rows[i.toNat].kind, by rw [hg]; rfl, ?_⟩
    simp only [hw]
    generalize rows[i.toNat] = x at *
    refine iteD (fun hk => ?_) (fun hk => ?_)
    · have hk : ¬ x.kind = k := by simpa using hk
      exact ⟨rfl, ⟨by omega, by omega, e, rfl, hnx he (fun h => absurd h hk) (fun h => absurd h hk), by omega⟩, hmu⟩
    · have hk : x.kind = k := by simpa using hk
      refine ⟨hix, x.fr, by rw [hg]; rfl, ?_⟩
      refine (p65 _ _ e x.fr he.asc he.hi (by omega)).mono ?_
      rintro _ ⟨n1, f1, e1, rfl, a1, l1, m1⟩
      refine ⟨_, _, _, rfl, hix, x.to, by rw [hg]; rfl, ?_⟩
      have he1 := he.add a1 m1
      have hf1 : x.kind = k → 0 ≤ x.fr → x.fr ≤ 1114111 → x.fr ∈ e1 := fun _ a b => (m1 _).2 (.inr ⟨rfl, a, b⟩)
      refine iteD (fun ht => ?_) (fun ht => ?_)
      · simp only [decide_eq_true_eq] at ht
        have hw2 : IntKind.i64.wrap (x.to + 1) = x.to + 1 := wrap_i64 (by have := hx.2.2; omega) (by omega)
        refine ⟨hix, x.to, by rw [hg]; rfl, ?_⟩
        rw [hw2]
        refine (p65 _ _ e1 (x.to + 1) a1 he1.hi (by omega)).mono ?_
        rintro _ ⟨n2, f2, e2, rfl, a2, l2, m2⟩
        have he2 := he1.add a2 m2
        exact ⟨_, _, _, rfl, rfl, ⟨by omega, by omega, e2, rfl, hnx he2 (fun a b c => (m2 _).2 (.inl (hf1 a b c))) (fun a b c => (m2 _).2 (.inr ⟨rfl, by omega, by omega⟩)), by omega⟩, hmu⟩
      · simp only [decide_eq_true_eq] at ht
        exact ⟨rfl, ⟨by omega, by omega, e1, rfl, hnx he1 hf1 (fun a b c => absurd c ht), by omega⟩, hmu⟩
  · simp only [decide_eq_true_eq, rws_len] at hc
    rw [List.take_of_length_le (by omega)] at he
    exact ⟨_, _, e, rfl, he, by omega⟩
end Go.Eng
set_option linter.unusedVariables false
set_option linter.unusedSimpArgs false
set_option maxRecDepth 100000
set_option linter.constructorNameAsVariable false
namespace Go.Eng
open Go Go.Proofs Go.Eng.Rows
/-- Where the first row is that has a number. -/
def FindOK (rows : List Row) (k r m : Int) : Prop :=
  (m = -1 ∧ (0 ≤ r → r ≤ 1114111 → first rows k r = none)) ∨ (0 ≤ m ∧ ∃ h : m.toNat < rows.length, (0 ≤ r ∧ r ≤ 1114111) ∧ first rows k r = some (rows[m.toNat].a, rows[m.toNat].b))
theorem first_none {rows : List Row} {k r : Int} (h : ∀ x ∈ rows, x.has k r = false) : first rows k r = none := by
  unfold first
  rw [List.find?_eq_none.2 fun x hx => by simp [h x hx]]
  rfl
theorem first_at {rows : List Row} {k r : Int} {i : Nat} (hi : i < rows.length) (hb : ∀ x ∈ rows.take i, x.has k r = false) (h : rows[i].has k r = true) : first rows k r = some (rows[i].a, rows[i].b) := by
  unfold first
  have e : rows = rows.take i ++ rows[i] :: rows.drop (i + 1) := by rw [List.getElem_cons_drop]; simp
  rw [show (rows.find? fun x => x.has k r) = some rows[i] by
    conv => lhs; rw [e]
    rw [List.find?_append, List.find?_eq_none.2 fun x hx => by simp [hb x hx]]
    simp only [List.find?_cons, h, Option.none_or]]
  rfl
theorem p33 (n f : Bool) (rows : List Row) (k r : Int) (hl : rows.length < 4611686018427387904) : PCall Try.prog 33 [.sl n f (rws rows), .int .i64 k, .int .i64 r] fun v => ∃ m, v = .int .i64 m ∧ FindOK rows k r m := by
  refine a_typebarref02_Find _ _ _ _ _ (fun i => 0 ≤ i ∧ i ≤ rows.length ∧ ∀ x ∈ rows.take i.toNat, x.has k r = false) (fun i => rows.length - i.toNat) ?_
  unfold r_typebarref02_Find
  refine iteD (fun h => ?_) (fun h => ?_)
  · simp only [Bool.or_eq_true, decide_eq_true_eq, gt_iff_lt] at h
    exact ⟨_, rfl, .inl ⟨rfl, fun a b => by omega⟩⟩
  · simp only [Bool.or_eq_true, decide_eq_true_eq, gt_iff_lt] at h
    refine ⟨⟨rfl, Int.le_refl _, by omega, fun x hx => by simp at hx⟩, ?_⟩
    rintro i ⟨i0, i1, hb⟩
    refine iteD (fun hc => ?_) (fun hc => ?_)
    · simp only [decide_eq_true_eq, rws_len] at hc
      have hi : i.toNat < rows.length := by omega
      have hw : IntKind.i64.wrap (i + 1) = i + 1 := wrap_i64 (by omega) (by omega)
      have hn : (i + 1).toNat = i.toNat + 1 := by omega
      have hg : (rws rows).getD i.toNat [] = encR rows[i.toNat] := getD_map hi
      have hix : idxOK (rws rows) i 5 := idxOK_map encR_len i0 hc
      have hmu : rows.length - (i + 1).toNat < rows.length - i.toNat := by omega
      have hnx : rows[i.toNat].has k r = false → 0 ≤ i + 1 ∧ i + 1 ≤ rows.length ∧ ∀ x ∈ rows.take (i + 1).toNat, x.has k r = false := fun hh => by
        refine ⟨by omega, by omega, fun x hx => ?_⟩
        rw [hn, take_snoc hi] at hx
        rcases List.mem_append.1 hx with hx | hx
        · exact hb x hx
        · simp only [List.mem_singleton] at hx; subst hx; exact hh
      simp only [hw]
      refine ⟨hix, rows[i.toNat].kind, by rw [hg]; rfl, ?_⟩
      refine iteD (fun h1 => ?_) (fun h1 => ⟨rfl, hnx (by simp [Row.has]; intro a; simp [a] at h1), hmu⟩)
      simp only [beq_iff_eq] at h1
      refine ⟨hix, rows[i.toNat].fr, by rw [hg]; rfl, ?_⟩
      refine iteD (fun h2 => ?_) (fun h2 => ⟨rfl, hnx (by simp only [decide_eq_true_eq] at h2; simp [Row.has, h2]), hmu⟩)
      simp only [decide_eq_true_eq] at h2
      refine ⟨hix, rows[i.toNat].to, by rw [hg]; rfl, ?_⟩
      refine iteD (fun h3 => ?_) (fun h3 => ⟨rfl, hnx (by simp only [decide_eq_true_eq] at h3; simp [Row.has, h3]), hmu⟩)
      simp only [decide_eq_true_eq] at h3
      exact ⟨_, rfl, .inr ⟨i0, hi, ⟨by omega, by omega⟩, first_at hi hb (by simp [Row.has, h1, h2, h3])⟩⟩
    · simp only [decide_eq_true_eq, rws_len] at hc
      rw [List.take_of_length_le (by omega)] at hb
      exact ⟨_, rfl, .inl ⟨rfl, fun _ _ => first_none hb⟩⟩
def cmpAt (x : Sp) (t : Int) : Int := if x.to < t then -1 else if t < x.fr then 1 else 0
theorem p67 (x : Sp) (t : Int) : PCall Try.prog 67 [.agg (encS x), .int .i64 t] fun v => v = .int .i64 (cmpAt x t) := by
  refine a_rows_At_1 _ _ _ _ _ ?_; unfold r_rows_At_1
  refine iteD (fun h => ?_) (fun h => iteD (fun h' => ?_) (fun h' => ?_)) <;> simp only [decide_eq_true_eq, gt_iff_lt] at *
  · simp [cmpAt, h]
  · simp [cmpAt, h, h']
  · simp [cmpAt, h, h']
theorem mid_ok {i j : Int} (h0 : 0 ≤ i) (h1 : i ≤ j) (h2 : j ≤ 4611686018427387904 - 1) : IntKind.i64.wrap ((IntKind.u64.wrap (IntKind.i64.wrap (i + j))).fdiv (2 ^ 1)) = (i + j) / 2 := by
  have e1 : IntKind.i64.wrap (i + j) = i + j := wrap_i64 (by omega) (by omega)
  have e2 : IntKind.u64.wrap (i + j) = i + j := by
    unfold IntKind.wrap
    simp only [IntKind.bits, IntKind.signed, Bool.false_and, Bool.false_eq_true, if_false]
    exact Int.emod_eq_of_lt (by omega) (by omega)
  rw [e1, e2, Int.fdiv_eq_ediv_of_nonneg _ (by decide)]
  exact wrap_i64 (by omega) (by omega)
theorem p66 (n f : Bool) (l : List Sp) (t : Int) (hl : Rows.Good l) : PCall Try.prog 66 [.sl n f (sps l), .int .i64 t, .fn 67 []] fun v => ∃ m q, v = .tup [.int .i64 m, .bool q] ∧ (q = true → 0 ≤ m ∧ ∃ h : m.toNat < l.length, l[m.toNat].has t) ∧ (q = false → ∀ x ∈ l, ¬ x.has t) := by
  refine a_slices_BinarySearchFunc_rows_Span_rows_Span_int _ _ _ _ (fun i j => 0 ≤ i ∧ i ≤ j ∧ j ≤ l.length ∧ (∀ k (h : k < l.length), (k : Int) < i → l[k].to < t) ∧ (∀ k (h : k < l.length), j ≤ (k : Int) → ¬ l[k].to < t)) (fun i j => (j - i).toNat) ?_
  unfold r_slices_BinarySearchFunc_rows_Span_rows_Span_int
  have hll := hl.len
  have hmono : ∀ a b (ha : a < l.length) (hb : b < l.length), a ≤ b → l[a].to ≤ l[b].to := fun a b ha hb h => by
    by_cases e : a = b
    · subst e; exact Int.le_refl _
    · have := (List.pairwise_iff_getElem.1 hl.1) a b ha hb (by omega)
      have := hl.2 l[b] (List.getElem_mem hb)
      omega
  refine ⟨⟨by simp only [sps_len]; rfl, Int.le_refl _, by simp only [sps_len]; omega, by simp only [sps_len]; omega, fun k h hk => by omega, fun k h hk => by simp only [sps_len] at hk; omega⟩, ?_⟩
  rintro i j ⟨i0, ij, jn, hlo, hhi⟩
  refine iteD (fun hc => ?_) (fun hc => ?_)
  · simp only [decide_eq_true_eq] at hc
    have hm := mid_ok i0 ij (by omega)
    simp only [hm]
    have hmi : ((i + j) / 2).toNat < l.length := by omega
    have hg : (sps l).getD ((i + j) / 2).toNat [] = encS l[((i + j) / 2).toNat] := getD_map hmi
    have hw : IntKind.i64.wrap ((i + j) / 2 + 1) = (i + j) / 2 + 1 := wrap_i64 (by omega) (by omega)
    refine ⟨idxOK_map encS_len (by omega) (by omega), l[((i + j) / 2).toNat].fr, by rw [hg]; rfl, l[((i + j) / 2).toNat].to, by rw [hg]; rfl, l[((i + j) / 2).toNat].a, by rw [hg]; rfl, l[((i + j) / 2).toNat].b, by rw [hg]; rfl, ?_⟩
    refine (p67 l[((i + j) / 2).toNat] t).mono ?_
    rintro _ rfl
    refine ⟨_, rfl, ?_⟩
    simp only [hw]
    refine iteD (fun hq => ?_) (fun hq => ?_)
    · simp only [decide_eq_true_eq] at hq
      have hlt : l[((i + j) / 2).toNat].to < t := by
        unfold cmpAt at hq
        split at hq
        · assumption
        · split at hq <;> omega
      refine ⟨rfl, ⟨by omega, by omega, jn, fun k h hk => ?_, hhi⟩, by omega⟩
      have := hmono k ((i + j) / 2).toNat h hmi (by omega)
      omega
    · simp only [decide_eq_true_eq] at hq
      have hlt : ¬ l[((i + j) / 2).toNat].to < t := by
        intro h
        unfold cmpAt at hq
        rw [if_pos h] at hq
        omega
      refine ⟨rfl, ⟨i0, by omega, by omega, hlo, fun k h hk => ?_⟩, by omega⟩
      have := hmono ((i + j) / 2).toNat k hmi h (by omega)
      omega
  · simp only [decide_eq_true_eq] at hc
    have e : i = j := by omega
    subst e
    have hno : (∀ h : i.toNat < l.length, ¬ l[i.toNat].has t) → ∀ x ∈ l, ¬ x.has t := fun hn x hx => by
      obtain ⟨k, hk, rfl⟩ := List.getElem_of_mem hx
      by_cases c : (k : Int) < i
      · have := hlo k hk c
        intro hh; have := hh.2; omega
      · by_cases c' : (k : Int) = i
        · have e : k = i.toNat := by omega
          subst e; exact hn hk
        · have h1 := hhi i.toNat (by omega) (by omega)
          have h2 := (List.pairwise_iff_getElem.1 hl.1) i.toNat k (by omega) hk (by omega)
          intro hh; have := hh.1; omega
    refine iteD (fun hq => ?_) (fun hq => ?_)
    · simp only [decide_eq_true_eq, sps_len] at hq
      have hi : i.toNat < l.length := by omega
      have hg : (sps l).getD i.toNat [] = encS l[i.toNat] := getD_map hi
      have h1 := hhi i.toNat hi (by omega)
      refine ⟨idxOK_map encS_len i0 hq, l[i.toNat].fr, by rw [hg]; rfl, l[i.toNat].to, by rw [hg]; rfl, l[i.toNat].a, by rw [hg]; rfl, l[i.toNat].b, by rw [hg]; rfl, ?_⟩
      refine (p67 l[i.toNat] t).mono ?_
      rintro _ rfl
      refine ⟨_, rfl, _, _, rfl, fun hq => ?_, fun hq => hno fun hi' => ?_⟩
      · simp only [cmpAt, if_neg h1, beq_iff_eq] at hq
        refine ⟨i0, hi, ?_, by omega⟩
        by_cases c : t < l[i.toNat].fr
        · rw [if_pos c] at hq; cases hq
        · omega
      · intro hh
        have h2 := hh.1
        simp only [cmpAt, if_neg h1, if_neg (show ¬ t < l[i.toNat].fr by omega)] at hq
        simp at hq
    · simp only [decide_eq_true_eq, sps_len] at hq
      exact ⟨_, _, rfl, fun h => (by cases h), fun _ => hno fun hi => absurd hi (by omega)⟩
theorem p34 (n f : Bool) (l : List Sp) (r : Int) (hl : Rows.Good l) (hr : -2147483648 ≤ r ∧ r ≤ 2147483647) : PCall Try.prog 34 [.sl n f (sps l), .int .i32 r] fun v => ∃ x q, v = .tup [.agg (encS x), .bool q] ∧ (q = true → x ∈ l ∧ x.has r) ∧ (q = false → x = ⟨0, 0, 0, 0⟩ ∧ ∀ x ∈ l, ¬ x.has r) := by
  refine a_rows_At _ _ _ _ ?_; unfold r_rows_At
  have hw : IntKind.i64.wrap r = r := wrap_i64 (by omega) (by omega)
  rw [hw]
  refine (p66 n f l r hl).mono ?_
  rintro _ ⟨m, q, rfl, h1, h2⟩
  refine ⟨_, rfl, rfl, _, rfl, _, rfl, _, rfl, _, rfl, ?_⟩
  cases q with
  | false => exact ⟨⟨0, 0, 0, 0⟩, false, rfl, fun h => (by cases h), fun _ => ⟨rfl, h2 rfl⟩⟩
  | true =>
    obtain ⟨m0, hm, hh⟩ := h1 rfl
    have hg : (sps l).getD m.toNat [] = encS l[m.toNat] := getD_map hm
    exact ⟨idxOK_map encS_len m0 (by omega), l[m.toNat].fr, by rw [hg]; rfl, l[m.toNat].to, by rw [hg]; rfl, l[m.toNat].a, by rw [hg]; rfl, l[m.toNat].b, by rw [hg]; rfl, l[m.toNat], true, rfl, fun _ => ⟨List.getElem_mem _, hh⟩, fun h => (by cases h)⟩
end Go.Eng
set_option linter.unusedVariables false
set_option linter.unusedSimpArgs false
set_option maxRecDepth 100000
set_option linter.constructorNameAsVariable false
namespace Go.Eng
open Go Go.Proofs Go.Eng.Rows
theorem wrap32 {n : Int} (h1 : -2147483648 ≤ n) (h2 : n ≤ 2147483647) : IntKind.i32.wrap n = n := wrap_i32 h1 h2
theorem p7 (n f : Bool) (rows : List Row) (k : Int) (hok : ∀ x ∈ rows, Row.ok x) : PCall Try.prog 7 [.sl n f (rws rows), .int .i64 k] fun v => v = .bool true := by
  refine a_typebarlaw02_RowsSpans _ _ _ _ (fun _ _ s0 _ _ s5 _ _ s6 i => ∃ rs e, s0 = rws rs ∧ s5 = sps (ofL k rs) ∧ s6 = i64s e ∧ rs.length ≤ 40 ∧ EdgeOK k rs e ∧ e.length < 1000000 ∧ 0 ≤ i ∧ i ≤ e.length) (fun _ _ _ _ _ _ _ _ s6 i => s6.length - i.toNat) ?_
  unfold r_typebarlaw02_RowsSpans
  have hlt : (rows.take 40).length ≤ 40 := by simp only [List.length_take]; omega
  refine (p28 _ _ rows).mono ?_
  rintro _ ⟨n1, f1, rfl⟩
  refine ⟨_, _, _, rfl, ?_⟩
  refine (p29 _ _ _ k (by omega)).mono ?_
  rintro _ ⟨n2, f2, rfl⟩
  refine ⟨_, _, _, rfl, ?_⟩
  refine (p32 _ _ _ k (fun x hx => hok x (List.mem_of_mem_take hx)) hlt).mono ?_
  rintro _ ⟨n3, f3, e, rfl, he, hel⟩
  refine ⟨_, _, _, rfl, ⟨rfl, _, e, rfl, rfl, rfl, hlt, he, hel, Int.le_refl _, by omega⟩, ?_⟩
  rintro n0 f0 _ n5 f5 _ n6 f6 _ i ⟨rs, e, rfl, rfl, rfl, hrs, he, hel, i0, i1⟩
  have hgood := ofL_good k rs
  have hw : IntKind.i64.wrap (i + 1) = i + 1 := wrap_i64 (by omega) (by omega)
  rw [hw]
  refine iteD (fun hc => ?_) (fun hc => ?_)
  · simp only [decide_eq_true_eq, i64s_len] at hc
    have hi : i.toNat < e.length := by omega
    have hi1 : i.toNat + 1 < e.length := by omega
    have hn : (i + 1).toNat = i.toNat + 1 := by omega
    have hg : (i64s e).getD i.toNat [] = [.int .i64 e[i.toNat]] := getD_map hi
    have hg1 : (i64s e).getD (i + 1).toNat [] = [.int .i64 e[i.toNat + 1]] := by rw [hn]; exact getD_map hi1
    have hix : idxOK (i64s e) i 1 := idxOK_map enc1_len i0 (by omega)
    have hix1 : idxOK (i64s e) (i + 1) 1 := idxOK_map enc1_len (by omega) (by omega)
    have hgap := he.gap hi1
    have hasc : e[i.toNat] < e[i.toNat + 1] := (List.pairwise_iff_getElem.1 he.asc) _ _ hi hi1 (by omega)
    have hr0 := he.rng _ (List.getElem_mem hi)
    have hr1 := he.rng _ (List.getElem_mem hi1)
    have hJ : ∃ rs' e', rws rs = rws rs' ∧ sps (ofL k rs) = sps (ofL k rs') ∧ i64s e = i64s e' ∧ rs'.length ≤ 40 ∧ EdgeOK k rs' e' ∧ e'.length < 1000000 ∧ 0 ≤ i + 1 ∧ i + 1 ≤ e'.length := ⟨rs, e, rfl, rfl, rfl, hrs, he, hel, by omega, by omega⟩
    have hmu : (i64s e).length - (i + 1).toNat < (i64s e).length - i.toNat := by rw [i64s_len]; omega
    generalize e[i.toNat] = r1 at *
    generalize e[i.toNat + 1] = r2 at *
    have hw1 : IntKind.i32.wrap r1 = r1 := wrap32 (by omega) (by omega)
    have hw2 : IntKind.i64.wrap (r2 - 1) = r2 - 1 := wrap_i64 (by omega) (by omega)
    have hw3 : IntKind.i32.wrap (r2 - 1) = r2 - 1 := wrap32 (by omega) (by omega)
    refine ⟨hix, r1, by rw [hg]; rfl, ?_⟩
    refine (p33 n0 f0 rs k r1 (by omega)).mono ?_
    rintro _ ⟨m, rfl, hm⟩
    refine ⟨_, rfl, hix, r1, by rw [hg]; rfl, ?_⟩
    rw [hw1]
    refine (p34 n5 f5 (ofL k rs) r1 hgood (by omega)).mono ?_
    rintro _ ⟨x, q, rfl, hq1, hq2⟩
    refine ⟨_, rfl, rfl, _, rfl, _, rfl, rfl, _, rfl, _, rfl, _, rfl, _, rfl, _, rfl, _, rfl, hix1, r2, by rw [hg1]; rfl, ?_⟩
    rw [hw2, hw3]
    refine (p34 n5 f5 (ofL k rs) (r2 - 1) hgood (by omega)).mono ?_
    rintro _ ⟨y, q', rfl, hq1', hq2'⟩
    refine ⟨_, rfl, rfl, _, rfl, _, rfl, rfl, _, rfl, _, rfl, _, rfl, _, rfl, _, rfl, _, rfl, ?_⟩
    have hh1 := fun a b => ofL_has k rs r1 a b
    have hh2 := fun a b => ofL_has k rs (r2 - 1) a b
    cases hf : first rs k r1 with
    | none =>
      rw [hf] at hgap
      have eq : q = false := by
        cases q with
        | false => rfl
        | true =>
          obtain ⟨h1, h2⟩ := hq1 rfl
          have := ((hh1 x.a x.b).1 ⟨x, h1, h2, rfl, rfl⟩).2
          rw [hf] at this; cases this
      have eq' : q' = false := by
        cases q' with
        | false => rfl
        | true =>
          obtain ⟨h1, h2⟩ := hq1' rfl
          have := ((hh2 y.a y.b).1 ⟨y, h1, h2, rfl, rfl⟩).2
          rw [← hgap] at this; cases this
      have em : m = -1 := by
        rcases hm with h | ⟨_, _, _, h⟩
        · exact h.1
        · rw [hf] at h; cases h
      subst eq; subst eq'; subst em
      refine iteF (by simp) ?_
      refine iteF (by simp) ?_
      refine iteF (by simp) ?_
      exact ⟨rfl, hJ, hmu⟩
    | some p =>
      rw [hf] at hgap
      obtain ⟨A, B⟩ := p
      have eq : q = true := by
        cases q with
        | true => rfl
        | false =>
          obtain ⟨z, h1, h2, _⟩ := (hh1 A B).2 ⟨⟨by omega, by omega⟩, hf⟩
          exact absurd h2 ((hq2 rfl).2 z h1)
      have eq' : q' = true := by
        cases q' with
        | true => rfl
        | false =>
          obtain ⟨z, h1, h2, _⟩ := (hh2 A B).2 ⟨⟨by omega, by omega⟩, hgap.symm⟩
          exact absurd h2 ((hq2' rfl).2 z h1)
      subst eq; subst eq'
      obtain ⟨hx1, hx2⟩ := hq1 rfl
      obtain ⟨hy1, hy2⟩ := hq1' rfl
      have ex := ((hh1 x.a x.b).1 ⟨x, hx1, hx2, rfl, rfl⟩).2
      have ey := ((hh2 y.a y.b).1 ⟨y, hy1, hy2, rfl, rfl⟩).2
      rw [hf] at ex
      rw [← hgap] at ey
      simp only [Option.some.injEq, Prod.mk.injEq] at ex ey
      rcases hm with ⟨rfl, h⟩ | ⟨m0, hml, _, hmf⟩
      · rw [h (by omega) (by omega)] at hf; cases hf
      · rw [hf] at hmf
        simp only [Option.some.injEq, Prod.mk.injEq] at hmf
        have hgm : (rws rs).getD m.toNat [] = encR rs[m.toNat] := getD_map hml
        have hixm : idxOK (rws rs) m 5 := idxOK_map encR_len m0 (by omega)
        have c1 : x.a = y.a := by omega
        have c2 : x.b = y.b := by omega
        have c3 : x.a = rs[m.toNat].a := by omega
        have c4 : x.b = rs[m.toNat].b := by omega
        have d1 := hx2.1
        have d2 := hy2.2
        refine iteF (by simp [m0]) ?_
        refine iteD (fun _ => ?_) (fun _ => ?_)
        · refine iteF (by simpa using c1) ?_
          refine iteF (by simpa using c2) ?_
          refine iteT rfl ⟨hix, r1, by rw [hg]; rfl, ?_⟩
          refine iteF (by simp; omega) ⟨hix1, r2, by rw [hg1]; rfl, ?_⟩
          rw [hw2]
          refine iteF (by simp; omega) ⟨hixm, rs[m.toNat].a, by rw [hgm]; rfl, ?_⟩
          refine iteF (by simpa using c3) ⟨hixm, rs[m.toNat].b, by rw [hgm]; rfl, ?_⟩
          refine iteF (by simpa using c4) ⟨rfl, hJ, hmu⟩
        · refine iteT rfl ⟨hix, r1, by rw [hg]; rfl, ?_⟩
          refine iteF (by simp; omega) ⟨hix1, r2, by rw [hg1]; rfl, ?_⟩
          rw [hw2]
          refine iteF (by simp; omega) ⟨hixm, rs[m.toNat].a, by rw [hgm]; rfl, ?_⟩
          refine iteF (by simpa using c3) ⟨hixm, rs[m.toNat].b, by rw [hgm]; rfl, ?_⟩
          refine iteF (by simpa using c4) ⟨rfl, hJ, hmu⟩
  · refine p31.mono ?_
    rintro _ rfl
    exact ⟨true, rfl, rfl⟩
theorem law7 {pvs : List PV} (h : TypedAll Try.prog 8 Try.f7.params.toList pvs) : PCall Try.prog 7 pvs fun v => v = .bool true := by
  obtain ⟨v0, r0, rfl, h0, v1, r1, rfl, h1, rfl⟩ : TypedAll Try.prog 8 [57, 3] pvs := h
  obtain ⟨nl, l, rfl, hl, hok⟩ := typed_rows h0
  obtain ⟨m, e, _⟩ := typed_int u3 (typedV_plain (by kernel_rfl) h1)
  cases e
  exact p7 _ _ _ _ hok
end Go.Eng
set_option linter.unusedVariables false
set_option linter.unusedSimpArgs false
set_option maxRecDepth 100000
set_option linter.constructorNameAsVariable false
namespace Go.Eng
open Go Go.Proofs Go.Eng.Rows
def tab72 : List Row := [⟨1, 768, 788, 230, 0⟩, ⟨1, 789, 789, 232, 0⟩, ⟨1, 790, 793, 220, 0⟩, ⟨1, 794, 794, 232, 0⟩, ⟨1, 795, 795, 216, 0⟩, ⟨1, 796, 800, 220, 0⟩, ⟨1, 801, 802, 202, 0⟩, ⟨1, 803, 806, 220, 0⟩, ⟨1, 807, 808, 202, 0⟩, ⟨1, 809, 819, 220, 0⟩, ⟨1, 820, 824, 1, 0⟩, ⟨1, 825, 828, 220, 0⟩, ⟨1, 829, 836, 230, 0⟩, ⟨1, 837, 837, 240, 0⟩, ⟨1, 838, 838, 230, 0⟩, ⟨1, 839, 841, 220, 0⟩, ⟨1, 842, 844, 230, 0⟩, ⟨1, 845, 846, 220, 0⟩, ⟨1, 848, 850, 230, 0⟩, ⟨1, 851, 854, 220, 0⟩, ⟨1, 855, 855, 230, 0⟩, ⟨1, 856, 856, 232, 0⟩, ⟨1, 857, 858, 220, 0⟩, ⟨1, 859, 859, 230, 0⟩, ⟨1, 860, 860, 233, 0⟩, ⟨1, 861, 862, 234, 0⟩, ⟨1, 863, 863, 233, 0⟩, ⟨1, 864, 865, 234, 0⟩, ⟨1, 866, 866, 233, 0⟩, ⟨1, 867, 879, 230, 0⟩, ⟨1, 1155, 1159, 230, 0⟩, ⟨1, 1456, 1456, 10, 0⟩, ⟨1, 1457, 1457, 11, 0⟩, ⟨1, 1458, 1458, 12, 0⟩, ⟨1, 1459, 1459, 13, 0⟩, ⟨1, 1460, 1460, 14, 0⟩, ⟨1, 1461, 1461, 15, 0⟩, ⟨1, 1462, 1462, 16, 0⟩, ⟨1, 1463, 1463, 17, 0⟩, ⟨1, 1464, 1464, 18, 0⟩, ⟨1, 1465, 1466, 19, 0⟩, ⟨1, 1467, 1467, 20, 0⟩, ⟨1, 1468, 1468, 21, 0⟩, ⟨1, 1469, 1469, 22, 0⟩, ⟨1, 1471, 1471, 23, 0⟩, ⟨1, 1473, 1473, 24, 0⟩, ⟨1, 1474, 1474, 25, 0⟩, ⟨1, 1479, 1479, 18, 0⟩, ⟨1, 1611, 1611, 27, 0⟩, ⟨1, 1612, 1612, 28, 0⟩, ⟨1, 1613, 1613, 29, 0⟩, ⟨1, 1614, 1614, 30, 0⟩, ⟨1, 1615, 1615, 31, 0⟩, ⟨1, 1616, 1616, 32, 0⟩, ⟨1, 1617, 1617, 33, 0⟩, ⟨1, 1618, 1618, 34, 0⟩, ⟨1, 1619, 1620, 230, 0⟩, ⟨1, 1621, 1622, 220, 0⟩, ⟨1, 1648, 1648, 35, 0⟩, ⟨1, 2364, 2364, 7, 0⟩, ⟨1, 2381, 2381, 9, 0⟩, ⟨1, 2385, 2385, 230, 0⟩, ⟨1, 2386, 2386, 220, 0⟩, ⟨1, 2387, 2388, 230, 0⟩, ⟨1, 2492, 2492, 7, 0⟩, ⟨1, 2509, 2509, 9, 0⟩, ⟨1, 3021, 3021, 9, 0⟩, ⟨1, 3640, 3641, 103, 0⟩, ⟨1, 3642, 3642, 9, 0⟩, ⟨1, 3656, 3659, 107, 0⟩, ⟨1, 3953, 3953, 129, 0⟩, ⟨1, 3954, 3954, 130, 0⟩, ⟨1, 3956, 3956, 132, 0⟩, ⟨1, 8400, 8401, 230, 0⟩, ⟨1, 8402, 8403, 1, 0⟩, ⟨1, 8404, 8407, 230, 0⟩, ⟨1, 8411, 8412, 230, 0⟩, ⟨1, 8417, 8417, 230, 0⟩, ⟨1, 8424, 8424, 220, 0⟩, ⟨1, 12441, 12442, 8, 0⟩, ⟨1, 65056, 65062, 230, 0⟩, ⟨1, 119141, 119141, 216, 0⟩]
theorem p72 : PCall Try.prog 72 [] fun v => v = .sl false true (rws tab72) := by
  refine a_api_classes ?_; unfold r_api_classes; rfl
def tab73 : List Row := [⟨2, 192, 192, 65, 768⟩, ⟨2, 193, 193, 65, 769⟩, ⟨2, 194, 194, 65, 770⟩, ⟨2, 195, 195, 65, 771⟩, ⟨2, 196, 196, 65, 776⟩, ⟨2, 197, 197, 65, 778⟩, ⟨2, 199, 199, 67, 807⟩, ⟨2, 200, 200, 69, 768⟩, ⟨2, 201, 201, 69, 769⟩, ⟨2, 202, 202, 69, 770⟩, ⟨2, 203, 203, 69, 776⟩, ⟨2, 204, 204, 73, 768⟩, ⟨2, 205, 205, 73, 769⟩, ⟨2, 206, 206, 73, 770⟩, ⟨2, 207, 207, 73, 776⟩, ⟨2, 209, 209, 78, 771⟩, ⟨2, 210, 210, 79, 768⟩, ⟨2, 211, 211, 79, 769⟩, ⟨2, 212, 212, 79, 770⟩, ⟨2, 213, 213, 79, 771⟩, ⟨2, 214, 214, 79, 776⟩, ⟨2, 217, 217, 85, 768⟩, ⟨2, 218, 218, 85, 769⟩, ⟨2, 219, 219, 85, 770⟩, ⟨2, 220, 220, 85, 776⟩, ⟨2, 221, 221, 89, 769⟩, ⟨2, 224, 224, 97, 768⟩, ⟨2, 225, 225, 97, 769⟩, ⟨2, 226, 226, 97, 770⟩, ⟨2, 227, 227, 97, 771⟩, ⟨2, 228, 228, 97, 776⟩, ⟨2, 229, 229, 97, 778⟩, ⟨2, 231, 231, 99, 807⟩, ⟨2, 232, 232, 101, 768⟩, ⟨2, 233, 233, 101, 769⟩, ⟨2, 234, 234, 101, 770⟩, ⟨2, 235, 235, 101, 776⟩, ⟨2, 236, 236, 105, 768⟩, ⟨2, 237, 237, 105, 769⟩, ⟨2, 238, 238, 105, 770⟩, ⟨2, 239, 239, 105, 776⟩, ⟨2, 241, 241, 110, 771⟩, ⟨2, 242, 242, 111, 768⟩, ⟨2, 243, 243, 111, 769⟩, ⟨2, 244, 244, 111, 770⟩, ⟨2, 245, 245, 111, 771⟩, ⟨2, 246, 246, 111, 776⟩, ⟨2, 249, 249, 117, 768⟩, ⟨2, 250, 250, 117, 769⟩, ⟨2, 251, 251, 117, 770⟩, ⟨2, 252, 252, 117, 776⟩, ⟨2, 253, 253, 121, 769⟩, ⟨2, 255, 255, 121, 776⟩, ⟨2, 256, 256, 65, 772⟩, ⟨2, 257, 257, 97, 772⟩, ⟨2, 258, 258, 65, 774⟩, ⟨2, 259, 259, 97, 774⟩, ⟨2, 260, 260, 65, 808⟩, ⟨2, 261, 261, 97, 808⟩, ⟨2, 262, 262, 67, 769⟩, ⟨2, 263, 263, 99, 769⟩, ⟨2, 268, 268, 67, 780⟩, ⟨2, 269, 269, 99, 780⟩, ⟨2, 274, 274, 69, 772⟩, ⟨2, 275, 275, 101, 772⟩, ⟨2, 280, 280, 69, 808⟩, ⟨2, 281, 281, 101, 808⟩, ⟨2, 304, 304, 73, 775⟩, ⟨2, 323, 323, 78, 769⟩, ⟨2, 324, 324, 110, 769⟩, ⟨2, 352, 352, 83, 780⟩, ⟨2, 353, 353, 115, 780⟩, ⟨2, 381, 381, 90, 780⟩, ⟨2, 382, 382, 122, 780⟩, ⟨2, 416, 416, 79, 795⟩, ⟨2, 417, 417, 111, 795⟩, ⟨2, 431, 431, 85, 795⟩, ⟨2, 432, 432, 117, 795⟩, ⟨2, 469, 469, 220, 772⟩, ⟨2, 470, 470, 252, 772⟩, ⟨2, 471, 471, 220, 769⟩, ⟨2, 472, 472, 252, 769⟩, ⟨2, 480, 480, 550, 772⟩, ⟨2, 481, 481, 551, 772⟩, ⟨2, 550, 550, 65, 775⟩, ⟨2, 551, 551, 97, 775⟩, ⟨2, 832, 832, 768, 0⟩, ⟨2, 833, 833, 769, 0⟩, ⟨2, 835, 835, 787, 0⟩, ⟨2, 836, 836, 776, 769⟩, ⟨2, 884, 884, 697, 0⟩, ⟨2, 894, 894, 59, 0⟩, ⟨2, 901, 901, 168, 769⟩, ⟨2, 902, 902, 913, 769⟩, ⟨2, 903, 903, 183, 0⟩, ⟨2, 904, 904, 917, 769⟩, ⟨2, 912, 912, 970, 769⟩, ⟨2, 940, 940, 945, 769⟩, ⟨2, 941, 941, 949, 769⟩, ⟨2, 944, 944, 971, 769⟩, ⟨2, 970, 970, 953, 776⟩, ⟨2, 971, 971, 965, 776⟩, ⟨2, 2345, 2345, 2344, 2364⟩, ⟨2, 2353, 2353, 2352, 2364⟩, ⟨2, 2356, 2356, 2355, 2364⟩, ⟨2, 2392, 2392, 2325, 2364⟩, ⟨2, 2393, 2393, 2326, 2364⟩, ⟨2, 2396, 2396, 2337, 2364⟩, ⟨2, 2507, 2507, 2503, 2494⟩, ⟨2, 2508, 2508, 2503, 2519⟩, ⟨2, 3018, 3018, 3014, 3006⟩, ⟨2, 3955, 3955, 3953, 3954⟩, ⟨2, 3957, 3957, 3953, 3956⟩, ⟨2, 7692, 7692, 68, 803⟩, ⟨2, 7693, 7693, 100, 803⟩, ⟨2, 7776, 7776, 83, 775⟩, ⟨2, 7777, 7777, 115, 775⟩, ⟨2, 7778, 7778, 83, 803⟩, ⟨2, 7779, 7779, 115, 803⟩, ⟨2, 7784, 7784, 7778, 775⟩, ⟨2, 7785, 7785, 7779, 775⟩, ⟨2, 7840, 7840, 65, 803⟩, ⟨2, 7841, 7841, 97, 803⟩, ⟨2, 7842, 7842, 65, 777⟩, ⟨2, 7843, 7843, 97, 777⟩, ⟨2, 7844, 7844, 194, 769⟩, ⟨2, 7845, 7845, 226, 769⟩, ⟨2, 7846, 7846, 194, 768⟩, ⟨2, 7847, 7847, 226, 768⟩, ⟨2, 7848, 7848, 194, 777⟩, ⟨2, 7849, 7849, 226, 777⟩, ⟨2, 7850, 7850, 194, 771⟩, ⟨2, 7851, 7851, 226, 771⟩, ⟨2, 7852, 7852, 7840, 770⟩, ⟨2, 7853, 7853, 7841, 770⟩, ⟨2, 7854, 7854, 258, 769⟩, ⟨2, 7855, 7855, 259, 769⟩, ⟨2, 7856, 7856, 258, 768⟩, ⟨2, 7857, 7857, 259, 768⟩, ⟨2, 7858, 7858, 258, 777⟩, ⟨2, 7859, 7859, 259, 777⟩, ⟨2, 7860, 7860, 258, 771⟩, ⟨2, 7861, 7861, 259, 771⟩, ⟨2, 7862, 7862, 7840, 774⟩, ⟨2, 7863, 7863, 7841, 774⟩, ⟨2, 7884, 7884, 79, 803⟩, ⟨2, 7885, 7885, 111, 803⟩, ⟨2, 7896, 7896, 7884, 770⟩, ⟨2, 7897, 7897, 7885, 770⟩, ⟨2, 7936, 7936, 945, 787⟩, ⟨2, 7937, 7937, 945, 788⟩, ⟨2, 7938, 7938, 7936, 768⟩, ⟨2, 7939, 7939, 7937, 768⟩, ⟨2, 8049, 8049, 940, 0⟩, ⟨2, 8064, 8064, 7936, 837⟩, ⟨2, 8115, 8115, 945, 837⟩, ⟨2, 8486, 8486, 937, 0⟩, ⟨2, 8490, 8490, 75, 0⟩, ⟨2, 8491, 8491, 197, 0⟩, ⟨2, 8800, 8800, 61, 824⟩, ⟨2, 8814, 8814, 60, 824⟩, ⟨2, 10972, 10972, 10973, 824⟩, ⟨2, 12364, 12364, 12363, 12441⟩, ⟨2, 12366, 12366, 12365, 12441⟩, ⟨2, 12400, 12400, 12399, 12441⟩, ⟨2, 12401, 12401, 12399, 12442⟩, ⟨2, 12460, 12460, 12459, 12441⟩, ⟨2, 12497, 12497, 12495, 12442⟩, ⟨2, 12532, 12532, 12454, 12441⟩, ⟨2, 63744, 63744, 35912, 0⟩, ⟨2, 63745, 63745, 26356, 0⟩, ⟨2, 64285, 64285, 1497, 1460⟩, ⟨2, 64287, 64287, 1522, 1463⟩, ⟨2, 64298, 64298, 1513, 1473⟩, ⟨2, 64299, 64299, 1513, 1474⟩, ⟨2, 64300, 64300, 64329, 1473⟩, ⟨2, 64329, 64329, 1513, 1468⟩, ⟨2, 119134, 119134, 119127, 119141⟩]
theorem p73 : PCall Try.prog 73 [] fun v => v = .sl false true (rws tab73) := by
  refine a_api_pairs ?_; unfold r_api_pairs; rfl
def tab74 : List Row := [⟨3, 2392, 2393, 1, 0⟩, ⟨3, 2396, 2396, 1, 0⟩, ⟨3, 10972, 10972, 1, 0⟩, ⟨3, 64285, 64285, 1, 0⟩, ⟨3, 64287, 64287, 1, 0⟩, ⟨3, 64298, 64300, 1, 0⟩, ⟨3, 64329, 64329, 1, 0⟩, ⟨3, 119134, 119134, 1, 0⟩]
theorem p74 : PCall Try.prog 74 [] fun v => v = .sl false true (rws tab74) := by
  refine a_api_outs ?_; unfold r_api_outs; rfl
def tab75 : List Row := [⟨4, 0, 9, 3, 0⟩, ⟨4, 10, 10, 2, 0⟩, ⟨4, 11, 12, 3, 0⟩, ⟨4, 13, 13, 1, 0⟩, ⟨4, 14, 31, 3, 0⟩, ⟨4, 127, 159, 3, 0⟩, ⟨4, 173, 173, 3, 0⟩, ⟨4, 768, 879, 4, 0⟩, ⟨4, 1155, 1161, 4, 0⟩, ⟨4, 1425, 1469, 4, 0⟩, ⟨4, 1471, 1471, 4, 0⟩, ⟨4, 1473, 1474, 4, 0⟩, ⟨4, 1479, 1479, 4, 0⟩, ⟨4, 1536, 1541, 7, 0⟩, ⟨4, 1611, 1631, 4, 0⟩, ⟨4, 1648, 1648, 4, 0⟩, ⟨4, 1757, 1757, 7, 0⟩, ⟨4, 1807, 1807, 7, 0⟩, ⟨4, 2307, 2307, 8, 0⟩, ⟨4, 2362, 2362, 4, 0⟩, ⟨4, 2363, 2363, 8, 0⟩, ⟨4, 2364, 2364, 4, 0⟩, ⟨4, 2366, 2368, 8, 0⟩, ⟨4, 2369, 2376, 4, 0⟩, ⟨4, 2377, 2380, 8, 0⟩, ⟨4, 2381, 2381, 4, 0⟩, ⟨4, 2385, 2391, 4, 0⟩, ⟨4, 2434, 2435, 8, 0⟩, ⟨4, 2492, 2492, 4, 0⟩, ⟨4, 2494, 2494, 4, 0⟩, ⟨4, 2495, 2496, 8, 0⟩, ⟨4, 2503, 2504, 8, 0⟩, ⟨4, 2507, 2508, 8, 0⟩, ⟨4, 2509, 2509, 4, 0⟩, ⟨4, 2519, 2519, 4, 0⟩, ⟨4, 3006, 3006, 4, 0⟩, ⟨4, 3007, 3007, 8, 0⟩, ⟨4, 3014, 3016, 8, 0⟩, ⟨4, 3018, 3020, 8, 0⟩, ⟨4, 3021, 3021, 4, 0⟩, ⟨4, 3633, 3633, 4, 0⟩, ⟨4, 3635, 3635, 8, 0⟩, ⟨4, 3636, 3642, 4, 0⟩, ⟨4, 3655, 3662, 4, 0⟩, ⟨4, 3953, 3966, 4, 0⟩, ⟨4, 4352, 4447, 9, 0⟩, ⟨4, 4448, 4519, 10, 0⟩, ⟨4, 4520, 4607, 11, 0⟩, ⟨4, 8203, 8203, 3, 0⟩, ⟨4, 8204, 8204, 4, 0⟩, ⟨4, 8205, 8205, 5, 0⟩, ⟨4, 8206, 8207, 3, 0⟩, ⟨4, 8232, 8238, 3, 0⟩, ⟨4, 8288, 8303, 3, 0⟩, ⟨4, 8400, 8432, 4, 0⟩, ⟨4, 12330, 12335, 4, 0⟩, ⟨4, 12441, 12442, 4, 0⟩, ⟨4, 43360, 43388, 9, 0⟩, ⟨4, 55216, 55238, 10, 0⟩, ⟨4, 55243, 55291, 11, 0⟩, ⟨4, 65024, 65039, 4, 0⟩, ⟨4, 65056, 65071, 4, 0⟩, ⟨4, 65279, 65279, 3, 0⟩, ⟨4, 119141, 119141, 4, 0⟩, ⟨4, 127462, 127487, 6, 0⟩, ⟨4, 127995, 127999, 4, 0⟩, ⟨4, 917505, 917535, 3, 0⟩, ⟨4, 917536, 917631, 4, 0⟩, ⟨4, 917760, 917999, 4, 0⟩]
theorem p75 : PCall Try.prog 75 [] fun v => v = .sl false true (rws tab75) := by
  refine a_api_breaks ?_; unfold r_api_breaks; rfl
def tab76 : List Row := [⟨5, 169, 169, 1, 0⟩, ⟨5, 174, 174, 1, 0⟩, ⟨5, 8252, 8252, 1, 0⟩, ⟨5, 8265, 8265, 1, 0⟩, ⟨5, 8482, 8482, 1, 0⟩, ⟨5, 8505, 8505, 1, 0⟩, ⟨5, 8596, 8601, 1, 0⟩, ⟨5, 8617, 8618, 1, 0⟩, ⟨5, 8986, 8987, 1, 0⟩, ⟨5, 9193, 9203, 1, 0⟩, ⟨5, 9728, 9733, 1, 0⟩, ⟨5, 9735, 9746, 1, 0⟩, ⟨5, 9748, 9861, 1, 0⟩, ⟨5, 9872, 9989, 1, 0⟩, ⟨5, 9992, 10002, 1, 0⟩, ⟨5, 10084, 10087, 1, 0⟩, ⟨5, 127744, 127994, 1, 0⟩, ⟨5, 128000, 128317, 1, 0⟩, ⟨5, 128326, 128591, 1, 0⟩, ⟨5, 128640, 128767, 1, 0⟩, ⟨5, 129292, 129338, 1, 0⟩, ⟨5, 129351, 129791, 1, 0⟩]
theorem p76 : PCall Try.prog 76 [] fun v => v = .sl false true (rws tab76) := by
  refine a_api_picts ?_; unfold r_api_picts; rfl
def tab77 : List Row := [⟨6, 2325, 2361, 2, 0⟩, ⟨6, 2381, 2381, 1, 0⟩, ⟨6, 2392, 2399, 2, 0⟩, ⟨6, 2453, 2472, 2, 0⟩, ⟨6, 2509, 2509, 1, 0⟩]
theorem p77 : PCall Try.prog 77 [] fun v => v = .sl false true (rws tab77) := by
  refine a_api_conjs ?_; unfold r_api_conjs; rfl
def tab78 : List Row := [⟨7, 4352, 4447, 1, 0⟩, ⟨7, 8986, 8987, 1, 0⟩, ⟨7, 9193, 9196, 1, 0⟩, ⟨7, 9748, 9749, 1, 0⟩, ⟨7, 11904, 12350, 1, 0⟩, ⟨7, 12353, 13311, 1, 0⟩, ⟨7, 13312, 19903, 1, 0⟩, ⟨7, 19968, 40959, 1, 0⟩, ⟨7, 43360, 43388, 1, 0⟩, ⟨7, 44032, 55203, 1, 0⟩, ⟨7, 63744, 64255, 1, 0⟩, ⟨7, 65072, 65135, 1, 0⟩, ⟨7, 65281, 65376, 1, 0⟩, ⟨7, 65504, 65510, 1, 0⟩, ⟨7, 127744, 127994, 1, 0⟩, ⟨7, 128000, 128317, 1, 0⟩, ⟨7, 128326, 128591, 1, 0⟩, ⟨7, 128640, 128767, 1, 0⟩, ⟨7, 129292, 129338, 1, 0⟩, ⟨7, 129351, 129791, 1, 0⟩, ⟨7, 131072, 262141, 1, 0⟩]
theorem p78 : PCall Try.prog 78 [] fun v => v = .sl false true (rws tab78) := by
  refine a_api_wides ?_; unfold r_api_wides; rfl
def tab79 : List Row := [⟨8, 48, 57, 1, 0⟩, ⟨8, 65, 90, 1, 0⟩, ⟨8, 95, 95, 1, 0⟩, ⟨8, 97, 122, 1, 0⟩, ⟨8, 170, 170, 1, 0⟩, ⟨8, 181, 181, 1, 0⟩, ⟨8, 186, 186, 1, 0⟩, ⟨8, 192, 214, 1, 0⟩, ⟨8, 216, 246, 1, 0⟩, ⟨8, 248, 705, 1, 0⟩, ⟨8, 880, 883, 1, 0⟩, ⟨8, 886, 887, 1, 0⟩, ⟨8, 902, 902, 1, 0⟩, ⟨8, 904, 1023, 1, 0⟩, ⟨8, 1024, 1153, 1, 0⟩, ⟨8, 1162, 1327, 1, 0⟩, ⟨8, 1329, 1366, 1, 0⟩, ⟨8, 1488, 1514, 1, 0⟩, ⟨8, 1568, 1610, 1, 0⟩, ⟨8, 2308, 2361, 1, 0⟩, ⟨8, 2392, 2401, 1, 0⟩, ⟨8, 2437, 2489, 1, 0⟩, ⟨8, 3585, 3632, 1, 0⟩, ⟨8, 4352, 4607, 1, 0⟩, ⟨8, 7680, 8191, 1, 0⟩, ⟨8, 8486, 8486, 1, 0⟩, ⟨8, 8490, 8491, 1, 0⟩, ⟨8, 12353, 12438, 1, 0⟩, ⟨8, 12449, 12538, 1, 0⟩, ⟨8, 13312, 19903, 1, 0⟩, ⟨8, 19968, 40959, 1, 0⟩, ⟨8, 44032, 55203, 1, 0⟩, ⟨8, 63744, 64255, 1, 0⟩, ⟨8, 131072, 262141, 1, 0⟩]
theorem p79 : PCall Try.prog 79 [] fun v => v = .sl false true (rws tab79) := by
  refine a_api_letters ?_; unfold r_api_letters; rfl
def tab : List Row := tab72 ++ tab73 ++ tab74 ++ tab75 ++ tab76 ++ tab77 ++ tab78 ++ tab79
theorem rws_app (a b : List Row) : rws a ++ rws b = rws (a ++ b) := by simp [rws]
theorem p42 : PCall Try.prog 42 [] fun v => ∃ n f, v = .sl n f (rws tab) := by
  refine a_api_Rows ?_; unfold r_api_Rows
  have sz : ∀ l : List Row, szOK (rws l) 5 := fun l => szOK_map encR_len l
  refine p72.mono ?_; rintro _ rfl
  refine ⟨_, _, _, rfl, ⟨rfl, .inl rfl, by intro e he; simp at he, sz _, by simp [rws_len]; decide⟩, ?_⟩
  refine p73.mono ?_; rintro _ rfl
  refine ⟨_, _, _, rfl, ⟨sz _, by simp only [List.nil_append, rws_app, rws_len]; decide⟩, ?_⟩
  refine p74.mono ?_; rintro _ rfl
  refine ⟨_, _, _, rfl, ⟨sz _, by simp only [List.nil_append, rws_app, rws_len]; decide⟩, ?_⟩
  refine p75.mono ?_; rintro _ rfl
  refine ⟨_, _, _, rfl, ⟨sz _, by simp only [List.nil_append, rws_app, rws_len]; decide⟩, ?_⟩
  refine p76.mono ?_; rintro _ rfl
  refine ⟨_, _, _, rfl, ⟨sz _, by simp only [List.nil_append, rws_app, rws_len]; decide⟩, ?_⟩
  refine p77.mono ?_; rintro _ rfl
  refine ⟨_, _, _, rfl, ⟨sz _, by simp only [List.nil_append, rws_app, rws_len]; decide⟩, ?_⟩
  refine p78.mono ?_; rintro _ rfl
  refine ⟨_, _, _, rfl, ⟨sz _, by simp only [List.nil_append, rws_app, rws_len]; decide⟩, ?_⟩
  refine p79.mono ?_; rintro _ rfl
  refine ⟨_, _, _, rfl, ⟨sz _, by simp only [List.nil_append, rws_app, rws_len]; decide⟩, ?_⟩
  simp only [List.nil_append, rws_app]
  exact ⟨_, _, rfl⟩
theorem tab_len : tab.length < 1000 := by decide
theorem p10 (k r : Int) (hr : -2147483648 ≤ r ∧ r ≤ 2147483647) : PCall Try.prog 10 [.int .i64 k, .int .i32 r] fun v => v = .bool true := by
  refine a_typebarlaw02_RowsAt _ _ ?_; unfold r_typebarlaw02_RowsAt
  have hl := tab_len
  refine p42.mono ?_
  rintro _ ⟨n, f, rfl⟩
  refine ⟨_, _, _, rfl, ?_⟩
  generalize tab = rs at *
  refine (p29 _ _ _ k (by omega)).mono ?_
  rintro _ ⟨n2, f2, rfl⟩
  refine ⟨_, _, _, rfl, ?_⟩
  refine (p34 n2 f2 (ofL k rs) r (ofL_good k rs) hr).mono ?_
  rintro _ ⟨x, q, rfl, hq1, hq2⟩
  refine ⟨_, rfl, rfl, _, rfl, _, rfl, rfl, _, rfl, _, rfl, _, rfl, _, rfl, _, rfl, _, rfl, ?_⟩
  have hw : IntKind.i64.wrap r = r := wrap_i64 (by omega) (by omega)
  rw [hw]
  refine (p33 n f rs k r (by omega)).mono ?_
  rintro _ ⟨m, rfl, hm⟩
  refine ⟨_, rfl, ?_⟩
  have hh := fun a b => ofL_has k rs r a b
  have last : ∀ {b : Bool}, PCall Try.prog 31 [] fun v4 => ∃ b1, v4 = .bool b1 ∧ PV.bool b1 = PV.bool true := fun {_} => p31.mono fun _ h => ⟨true, h, rfl⟩
  cases q with
  | false =>
    obtain ⟨rfl, hno⟩ := hq2 rfl
    have em : m = -1 := by
      rcases hm with h | ⟨_, _, h1, h2⟩
      · exact h.1
      · obtain ⟨z, z1, z2, _⟩ := (hh _ _).2 ⟨h1, h2⟩
        exact absurd z2 (hno z z1)
    subst em
    refine iteT (by simp) ?_
    refine iteT (by simp) ?_
    refine iteF (by simp) ?_
    refine iteT (by simp) ?_
    exact last (b := true)
  | true =>
    obtain ⟨hx1, hx2⟩ := hq1 rfl
    have hx := (hh x.a x.b).1 ⟨x, hx1, hx2, rfl, rfl⟩
    rcases hm with ⟨rfl, h⟩ | ⟨m0, hml, _, hmf⟩
    · rw [h hx.1.1 hx.1.2] at hx; cases hx.2
    · rw [hx.2] at hmf
      simp only [Option.some.injEq, Prod.mk.injEq] at hmf
      have hgm : (rws rs).getD m.toNat [] = encR rs[m.toNat] := getD_map hml
      have hixm : idxOK (rws rs) m 5 := idxOK_map encR_len m0 (by omega)
      refine iteT (by simp [m0]) ?_
      refine iteF (by simp) ⟨hixm, rs[m.toNat].a, by rw [hgm]; rfl, ?_⟩
      refine iteT (by simp [hmf.1]) ⟨hixm, rs[m.toNat].b, by rw [hgm]; rfl, ?_⟩
      refine iteT (by simp [hmf.2]) ?_
      refine iteT (by simpa using hx2.1) ?_
      refine iteT (by simpa using hx2.2) ?_
      refine iteT rfl ?_
      exact last (b := true)
theorem law10 {pvs : List PV} (h : TypedAll Try.prog 8 Try.f10.params.toList pvs) : PCall Try.prog 10 pvs fun v => v = .bool true := by
  obtain ⟨v0, r0, rfl, h0, v1, r1, rfl, h1, rfl⟩ : TypedAll Try.prog 8 [3, 21] pvs := h
  obtain ⟨k, e, _⟩ := typed_int u3 (typedV_plain (by kernel_rfl) h0)
  cases e
  obtain ⟨r, e, hr⟩ := typed_int (show Try.prog.underlying 21 = some (.int .i32) by kernel_rfl) (typedV_plain (by kernel_rfl) h1)
  cases e
  exact p10 _ _ (wf_i32 hr)
end Go.Eng
/-
  DERIVED: THE SHELF's CONTRACTS AT THIS DUMP, IN PLAIN WORDS (tools/lay-plain.mjs out of 'SortInt.lean', which tools/lay-shelf.mjs wrote): THE SAME DECLARATIONS UNDER THE SAME NAMES: 'import', 'namespace', 'open', 'def', 'theorem' AND NOTHING ELSE: no command of the shelf's: FOR A HAND-IN. Each laying: the table of numbers ('.._ren') and one theorem, a field a fact of the dump's own or the kernel's comparison; each contract: ONE APPLICATION.
-/
namespace Go.Proofs
open Go.Shelf
def Try.sortInt_ren : Go.Shelf.Ren := ⟨fun | 5 => 80 | 8 => 98 | 7 => 102 | 19 => 126 | 20 => 127 | 10 => 130 | 11 => 131 | 12 => 132 | 13 => 133 | 14 => 134 | 15 => 135 | 16 => 136 | 17 => 137 | 18 => 138 | 30 => 161 | 31 => 148 | 32 => 149 | 33 => 162 | 34 => 163 | 35 => 96 | 40 => 170 | n => n, fun | 23 => 65 | 25 => 3 | 3 => 3 | 32 => 157 | 22 => 65 | 0 => 0 | 44 => 207 | 46 => 209 | 4 => 4 | 36 => 201 | 35 => 200 | 41 => 121 | 5 => 5 | 9 => 9 | 53 => 244 | 57 => 248 | 63 => 259 | 64 => 226 | n => n, fun | n => n⟩
theorem Try.sortInt : Go.Proofs.SlLaysM.n5 Try.prog Try.sortInt_ren := {
  mixed := by kernel_rfl
  f5 := ⟨Try.f80.name, by decide, Try.func80.trans (congrArg some (by kernel_rfl))⟩
  f7 := ⟨Try.f102.name, by decide, Try.func102.trans (congrArg some (by kernel_rfl))⟩
  f8 := Try.func98.trans (congrArg some (by kernel_rfl))
  f10 := ⟨Try.f130.name, by decide, Try.func130.trans (congrArg some (by kernel_rfl))⟩
  f11 := ⟨Try.f131.name, by decide, Try.func131.trans (congrArg some (by kernel_rfl))⟩
  f12 := ⟨Try.f132.name, by decide, Try.func132.trans (congrArg some (by kernel_rfl))⟩
  f13 := ⟨Try.f133.name, by decide, Try.func133.trans (congrArg some (by kernel_rfl))⟩
  f14 := ⟨Try.f134.name, by decide, Try.func134.trans (congrArg some (by kernel_rfl))⟩
  f15 := ⟨Try.f135.name, by decide, Try.func135.trans (congrArg some (by kernel_rfl))⟩
  f16 := ⟨Try.f136.name, by decide, Try.func136.trans (congrArg some (by kernel_rfl))⟩
  f17 := ⟨Try.f137.name, by decide, Try.func137.trans (congrArg some (by kernel_rfl))⟩
  f18 := ⟨Try.f138.name, by decide, Try.func138.trans (congrArg some (by kernel_rfl))⟩
  f19 := Try.func126.trans (congrArg some (by kernel_rfl))
  f20 := Try.func127.trans (congrArg some (by kernel_rfl))
  f30 := ⟨Try.f161.name, by decide, Try.func161.trans (congrArg some (by kernel_rfl))⟩
  f31 := Try.func148.trans (congrArg some (by kernel_rfl))
  f32 := Try.func149.trans (congrArg some (by kernel_rfl))
  f33 := ⟨Try.f162.name, by decide, Try.func162.trans (congrArg some (by kernel_rfl))⟩
  f34 := ⟨Try.f163.name, by decide, Try.func163.trans (congrArg some (by kernel_rfl))⟩
  f35 := ⟨Try.f96.name, by decide, Try.func96.trans (congrArg some (by kernel_rfl))⟩
  f40 := ⟨Try.f170.name, by decide, Try.func170.trans (congrArg some (by kernel_rfl))⟩
  t0 := Try.underlying0
  a0 := Try.isAgg0
  z0 := Try.sizeOf0
  v0 := Try.zeroValue0
  t3 := Try.underlying3
  a3 := Try.isAgg3
  z3 := Try.sizeOf3
  v3 := Try.zeroValue3
  t4 := Try.underlying4
  a4 := Try.isAgg4
  z4 := Try.sizeOf4
  v4 := Try.zeroValue4
  t5 := Try.underlying5
  a5 := Try.isAgg5
  z5 := Try.sizeOf5
  v5 := Try.zeroValue5
  t9 := Try.underlying9
  a9 := Try.isAgg9
  z9 := Try.sizeOf9
  v9 := Try.zeroValue9
  t22 := Try.underlying65
  a22 := Try.isAgg65
  z22 := Try.sizeOf65
  v22 := Try.zeroValue65
  t23 := Try.underlying65
  a23 := Try.isAgg65
  z23 := Try.sizeOf65
  v23 := Try.zeroValue65
  t25 := Try.underlying3
  a25 := Try.isAgg3
  z25 := Try.sizeOf3
  v25 := Try.zeroValue3
  t32 := Try.underlying157
  a32 := Try.isAgg157
  z32 := Try.sizeOf157
  v32 := Try.zeroValue157
  t35 := Try.underlying200
  a35 := Try.isAgg200
  z35 := Try.sizeOf200
  v35 := Try.zeroValue200
  t36 := Try.underlying201
  a36 := Try.isAgg201
  z36 := Try.sizeOf201
  v36 := Try.zeroValue201
  t41 := Try.underlying121
  a41 := Try.isAgg121
  z41 := Try.sizeOf121
  v41 := Try.zeroValue121
  t44 := Try.underlying207
  a44 := Try.isAgg207
  z44 := Try.sizeOf207
  v44 := Try.zeroValue207
  t46 := Try.underlying209
  a46 := Try.isAgg209
  z46 := Try.sizeOf209
  v46 := Try.zeroValue209
  t53 := Try.underlying244
  a53 := Try.isAgg244
  z53 := Try.sizeOf244
  v53 := Try.zeroValue244
  t57 := Try.underlying248
  a57 := Try.isAgg248
  z57 := Try.sizeOf248
  v57 := Try.zeroValue248
  t63 := Try.underlying259
  a63 := Try.isAgg259
  z63 := Try.sizeOf259
  v63 := Try.zeroValue259
  t64 := Try.underlying226
  a64 := Try.isAgg226
  z64 := Try.sizeOf226
  v64 := Try.zeroValue226 }
end Go.Proofs
set_option linter.unusedVariables false
set_option linter.unusedSimpArgs false
namespace Go.Eng
open Go Go.Proofs Go.Shelf Go.Sort
/-- Rows of one number each. -/
def rows64 (l : List Int) : List (List PV) := l.map fun n => [.int .i64 n]
/-- slices.Sort, of numbers. -/
theorem sortI_ok {P : Program} {ρ : Go.Shelf.Ren} (L : SlLaysM.n5 P ρ) (hcal : callable P (ρ.f 5)) (ty : Nat × Nat) (hty : ty.2 = 1) (nl : Bool) (l : List Int) (hnl : nl = true → l = []) (hl : l.length < 4611686018427387904) :
    ACall P (ρ.f 5) [.own 0] [.sl ty false nl (rows64 l)] fun r h' => r = .tup [] ∧ h' = [.sl ty false nl (rows64 (l.mergeSort fun x y => decide (x ≤ y)))] := by
  refine ⟨hcal, fun w I G cargs hh hsz hrel => ?_⟩
  simp only [List.length_cons, List.length_nil] at hsz
  have h0 := hrel 0 (.own 0) rfl
  obtain ⟨v0, rfl⟩ : ∃ v0, cargs = #[v0] := by
    obtain ⟨c⟩ := cargs
    match c, hsz with
    | [a], _ => exact ⟨a, rfl⟩
  have e0 : (#[v0] : Array Value).getD 0 undef = v0 := rfl
  rw [e0] at h0
  by_cases hl0 : l = []
  · subst hl0
    obtain ⟨p, cap, rfl⟩ : ∃ p cap, v0 = .slice p 0 cap := by
      cases h0 with
      | ownNil => exact ⟨_, _, rfl⟩
      | own o ty m es ad q0 q1 => simp at q1; obtain ⟨_, _, _, rfl⟩ := q1; exact ⟨_, _, rfl⟩
    rw [show (([] : List Int).mergeSort fun x y => decide (x ≤ y)) = [] by simp]
    refine (AnyM.slices_Sort_int_none L p cap w).mono fun e w' ⟨he, hw⟩ => ?_
    subst hw
    exact ⟨_, _, _, I, G, he, ⟨rfl, rfl⟩, hh, .tup [] #[] rfl (fun k v hk => by simp at hk), .refl _ _ _ _⟩
  · have hnl' : nl = false := by cases nl with | false => rfl | true => exact absurd (hnl rfl) hl0
    subst hnl'
    have hor := hh.obs 0 _ rfl
    obtain ⟨o1, o2, o3, o4, o5, o6⟩ := hor
    have hlen : 0 < l.length := List.length_pos_iff.2 hl0
    simp only [rows64, List.length_map] at o1
    have hcap : (G 0).cap ≠ 0 := by omega
    have hoff := o3 hcap
    obtain ⟨vs, f1, f2, f3⟩ := o6 hcap
    have hs4 : (G 0).sz = 1 := o4.trans hty
    cases h0 with
    | ownNil o ty m es q1 => simp [rows64] at q1
    | own o ty' m es ad q0 q1 =>
      simp only [List.getElem?_cons_zero, Option.some.injEq, Ob.sl.injEq] at q1
      obtain ⟨rfl, rfl, _, rfl⟩ := q1
      have had := q0 hcap
      subst had
      rw [hoff]
      have hown : Owns [Ob.sl ty false false (rows64 l)] G (G 0).blk := ⟨0, _, rfl, ⟨rfl, hcap⟩, rfl⟩
      have hblk := hh.blk_lt hown
      have hH : Holds (Value.int .i64) w (G 0).blk 0 l.toArray := fun j hj => by
        simp only [List.size_toArray] at hj
        have hlt : j < vs.size := by rw [f2, hs4]; omega
        have hr := f3 j [.int .i64 l[j]] (by simp [rows64, hj]) 0 (.int .i64 l[j]) rfl
        rw [hs4, Nat.mul_one, Nat.add_zero] at hr
        have hval : vs.getD j undef = .int .i64 l[j] := by
          generalize vs.getD j undef = c at hr
          cases hr.1; rfl
        refine ⟨?_, ?_⟩
        · rw [Nat.zero_add, cells_of_row f1 hlt, hval]; simp [hj]
        · simp [World.frozen?, f1]
      have main := AnyM.slices_Sort_int L (G 0).blk 0 (G 0).cap l w hH hblk hl
      have e3 : l.length = (rows64 l).length := by simp [rows64]
      rw [e3] at main
      generalize hd : (l.mergeSort fun x y => decide (x ≤ y)) = d at main ⊢
      have hds : d.length = l.length := by rw [← hd, List.length_mergeSort]
      refine main.mono fun e w' ⟨he, n, os, hw⟩ => ?_
      have hbl : w'.heap[(G 0).blk]? = some (.cells (putCells (Value.int .i64) 0 d.toArray vs) ty.1 (0, 0)) := by
        subst hw
        unfold putRow
        rw [Sort.heap_grow_old _ _ (by simpa [Sort.mapBlock, Sort.ahead] using hblk)]
        simp only [Sort.mapBlock, Sort.ahead, Array.getElem?_modify, if_true, f1]
        rfl
      have hother : ∀ b, b < w.heap.size → b ≠ (G 0).blk → w'.heap[b]? = w.heap[b]? := fun b hb hne => by
        subst hw
        unfold putRow
        rw [Sort.heap_grow_old _ _ (by simpa [Sort.mapBlock, Sort.ahead] using hb)]
        simp only [Sort.mapBlock, Sort.ahead, Array.getElem?_modify]
        rw [if_neg (fun e => hne e.symm)]
      have hsize : w.heap.size ≤ w'.heap.size := by
        subst hw
        unfold putRow
        rw [Sort.size_grow]
        simp [Sort.mapBlock, Sort.ahead]
      have hkeep : Keeps w I w' I := ⟨fun b hb hbs => hother b hbs (fun e => hh.nI 0 _ rfl ⟨rfl, hcap⟩ (e ▸ hb)), fun _ x _ => x⟩
      have hfz : ∀ a : Addr, a.block < w.heap.size → w'.frozen? a = w.frozen? a := fun a ha => by
        subst hw
        rw [Sort.frozen?_grow _ _ _ (by simpa [putRow, Sort.mapBlock, Sort.ahead] using ha), Sort.frozen?_putRow]
        rfl
      refine ⟨_, _, _, I, G, he, ⟨rfl, rfl⟩, ⟨fun o ob ho => ?_, fun o o' ob ob' ho _ ho' _ _ => ?_, fun o ob ho ha => ?_, fun b hb => Nat.lt_of_lt_of_le (hh.cl b hb) hsize⟩, .tup [] #[] rfl (fun k v hk => by simp at hk), ⟨⟨by subst hw; rfl, by subst hw; rfl, by subst hw; rfl, hsize, fun b hb hn => hother b hb (fun e => hn (e ▸ hown)), fun _ x => x, fun _ x => .inl x, fun b ⟨o, ob, ho, ha, hb⟩ => .inl ?_, fun a ha => hfz a ha, by subst hw; exact Nat.le_add_right _ _⟩, Nat.le_refl _, fun o ob' ho hx hf => ?_⟩⟩
      · cases o with
        | succ o => simp at ho
        | zero =>
          simp only [List.getElem?_cons_zero, Option.some.injEq] at ho
          subst ho
          refine ⟨by simp [rows64]; omega, o2, fun _ => hoff, o4, fun i e he => ?_, fun _ => ⟨_, hbl, by simp [putCells, f2], fun i e he q v hv => ?_⟩⟩
          · simp only [rows64, List.getElem?_map] at he
            cases hq : d[i]? with
            | none => rw [hq] at he; cases he
            | some x => rw [hq] at he; cases he; simp [hs4]
          · simp only [rows64, List.getElem?_map] at he
            cases hq : d[i]? with
            | none => rw [hq] at he; cases he
            | some x =>
              rw [hq] at he
              simp only [Option.map_some, Option.some.injEq] at he
              subst he
              have hi := (List.getElem?_eq_some_iff.1 hq)
              obtain ⟨hi, hix⟩ := hi
              have hqk : q = 0 := by have := (List.getElem?_eq_some_iff.1 hv).1; simpa using this
              subst hqk
              simp only [List.getElem?_cons_zero, Option.some.injEq] at hv
              subst hv
              have hlt : i < vs.size := by rw [f2, hs4]; omega
              have : (putCells (Value.int .i64) 0 d.toArray vs).getD (i * (G 0).sz + 0) undef = .int .i64 x := by
                rw [hs4, Nat.mul_one, Nat.add_zero]
                simp only [putCells, Array.getD_eq_getD_getElem?, Array.getElem?_mapIdx, Array.getElem?_eq_getElem hlt, Option.map_some, Option.getD_some, Nat.sub_zero, Nat.zero_add]
                rw [if_pos ⟨Nat.zero_le _, by simpa using hi⟩]
                rw [← hix]; simp [hi]
              rw [this]
              exact ⟨.int _ _, rfl⟩
      · cases o with
        | succ o => simp at ho
        | zero => cases o' with
          | succ o' => simp at ho'
          | zero => rfl
      · cases o with
        | succ o => simp at ho
        | zero => exact hh.nI 0 _ rfl ⟨rfl, hcap⟩
      · cases o with
        | succ o => simp at ho
        | zero => exact hb ▸ hown
      · cases o with
        | succ o => simp at ho
        | zero => exact ⟨rfl, _, rfl, rfl⟩
end Go.Eng
set_option linter.unusedVariables false
set_option linter.unusedSimpArgs false
set_option maxRecDepth 100000
set_option linter.constructorNameAsVariable false
namespace Go.Eng
open Go Go.Proofs Go.Eng.Rows
theorem p80 (n : Bool) (l : List Int) (hn : n = true → l = []) (hl : l.length < 4611686018427387904) : ACall Try.prog 80 [.own 0] [.sl (3, 1) false n (i64s l)] fun r h' => r = .tup [] ∧ h' = [.sl (3, 1) false n (i64s (l.mergeSort fun x y => decide (x ≤ y)))] :=
  sortI_ok Try.sortInt ⟨_, Try.func80, by kernel_rfl, by kernel_rfl⟩ (3, 1) rfl n l hn hl
theorem p44 (n f0 : Bool) (rows : List Row) (k : Int) (hl : rows.length ≤ 40) : PCall Try.prog 44 [.sl n f0 (rws rows), .int .i64 k] fun v => ∃ n f, v = .sl n f (rws (rows.filter fun x => decide (x.kind = k))) := by
  refine a_typebarref02_Kind _ _ _ _ (fun i n acc => 0 ≤ i ∧ i ≤ rows.length ∧ acc = rws ((rows.take i.toNat).filter fun x => decide (x.kind = k))) (fun i _ _ => rows.length - i.toNat) ?_
  unfold r_typebarref02_Kind
  refine ⟨⟨rfl, Int.le_refl _, by omega, by simp [rws]⟩, ?_⟩
  rintro i m _ ⟨i0, i1, rfl⟩
  refine iteD (fun hc => ?_) (fun hc => ?_)
  · simp only [decide_eq_true_eq, rws_len] at hc
    have hi : i.toNat < rows.length := by omega
    have hw : IntKind.i64.wrap (i + 1) = i + 1 := wrap_i64 (by omega) (by omega)
    have hn : (i + 1).toNat = i.toNat + 1 := by omega
    have hg : (rws rows).getD i.toNat [] = encR rows[i.toNat] := getD_map hi
    have hix : idxOK (rws rows) i 5 := idxOK_map encR_len i0 hc
    have hst : (rows.take (i + 1).toNat).filter (fun x => decide (x.kind = k)) = (rows.take i.toNat).filter (fun x => decide (x.kind = k)) ++ (if rows[i.toNat].kind = k then [rows[i.toNat]] else []) := by
      rw [hn, take_snoc hi, List.filter_append]
      congr 1
      by_cases h : rows[i.toNat].kind = k <;> simp [h]
    have hfl : ((rows.take i.toNat).filter fun x => decide (x.kind = k)).length ≤ 40 := by
      have := List.length_filter_le (fun x : Row => decide (x.kind = k)) (rows.take i.toNat)
      rw [List.length_take] at this; omega
    refine ⟨hix, rows[i.toNat].kind, by rw [hg]; rfl, ?_⟩
    rw [hw]
    dsimp only
    simp only [hst]
    have hmu : rows.length - (i + 1).toNat < rows.length - i.toNat := by omega
    refine iteD (fun h => ?_) (fun h => ?_)
    · simp only [beq_iff_eq] at h
      refine ⟨hix, rows[i.toNat].kind, by rw [hg]; rfl, rows[i.toNat].fr, by rw [hg]; rfl, rows[i.toNat].to, by rw [hg]; rfl, rows[i.toNat].a, by rw [hg]; rfl, rows[i.toNat].b, by rw [hg]; rfl, ⟨fun e he => by simp at he; subst he; rfl, by rw [rws_len]; omega⟩, rfl, ⟨by omega, by omega, ?_⟩, hmu⟩
      rw [if_pos h]; simp [rws, encR]
    · simp only [beq_iff_eq] at h
      refine ⟨rfl, ⟨by omega, by omega, ?_⟩, hmu⟩
      rw [if_neg h]; simp
  · simp only [decide_eq_true_eq, rws_len] at hc
    exact ⟨_, _, by rw [List.take_of_length_le (by omega)]⟩
/-- The kinds of rows: rising, each once. -/
def KOK (rs : List Row) (t : List Int) : Prop := t.Pairwise (· < ·) ∧ (∀ x, x ∈ t ↔ x ∈ rs.map (·.kind)) ∧ t.length ≤ rs.length
theorem sort_strict {l : List Int} (h : l.Nodup) : (l.mergeSort fun x y => decide (x ≤ y)).Pairwise (· < ·) := by
  have h1 : (l.mergeSort fun x y => decide (x ≤ y)).Pairwise fun x y => decide (x ≤ y) = true := List.pairwise_mergeSort (fun a b c h1 h2 => by simp at *; omega) (fun a b => by simp; omega) l
  have h2 : (l.mergeSort fun x y => decide (x ≤ y)).Nodup := (List.mergeSort_perm l _).nodup_iff.2 h
  rw [List.pairwise_iff_getElem] at h1 ⊢
  rw [List.nodup_iff_pairwise_ne, List.pairwise_iff_getElem] at h2
  intro i j hi hj hij
  have a := h1 i j hi hj hij
  have b := h2 i j hi hj hij
  simp at a
  omega
abbrev encB (M : List (Int × Bool)) : List (PV × PV) := encM (fun n => .int .i64 n) (fun b => .bool b) M
theorem p43 (n f0 : Bool) (rows : List Row) (hl : rows.length ≤ 40) : PCall Try.prog 43 [.sl n f0 (rws rows)] fun v => ∃ n f t, v = .sl n f (i64s t) ∧ KOK rows t := by
  refine a_rows_Kinds _ _ _ (fun i m => 0 ≤ i ∧ i ≤ rows.length ∧ ∃ M : List (Int × Bool), m = encB M ∧ (M.map (·.1)).Nodup ∧ M.length ≤ i.toNat ∧ ∀ x, x ∈ M.map (·.1) ↔ x ∈ (rows.take i.toNat).map (·.kind)) (fun i _ => rows.length - i.toNat)
    (fun m s r _ => ∃ (A : List Int) (R : List (Int × Bool)) (K : List Int), s = i64s A ∧ r = encB R ∧ (A ++ R.map (·.1)).Perm K ∧ K.Nodup ∧ K.length ≤ rows.length ∧ (∀ x, x ∈ K ↔ x ∈ rows.map (·.kind)) ∧ (m = true → A = [])) (fun _ _ r _ => r.length) ?_
  unfold r_rows_Kinds
  refine ⟨⟨rfl, Int.le_refl _, by omega, [], rfl, List.nodup_nil, Nat.le_refl _, fun x => by simp⟩, ?_⟩
  rintro i _ ⟨i0, i1, M, rfl, hnd, hml, hmem⟩
  refine iteD (fun hc => ?_) (fun hc => ?_)
  · simp only [decide_eq_true_eq, rws_len] at hc
    have hi : i.toNat < rows.length := by omega
    have hw : IntKind.i64.wrap (i + 1) = i + 1 := wrap_i64 (by omega) (by omega)
    have hn : (i + 1).toNat = i.toNat + 1 := by omega
    have hg : (rws rows).getD i.toNat [] = encR rows[i.toNat] := getD_map hi
    have hix : idxOK (rws rows) i 5 := idxOK_map encR_len i0 hc
    have hset := mapSet_enc (ek := fun n => PV.int .i64 n) (ev := fun b => PV.bool b) (eqKey_int .i64) rows[i.toNat].kind true M
    refine ⟨hix, rows[i.toNat].kind, by rw [hg]; rfl, rows[i.toNat].fr, by rw [hg]; rfl, rows[i.toNat].to, by rw [hg]; rfl, rows[i.toNat].a, by rw [hg]; rfl, rows[i.toNat].b, by rw [hg]; rfl, keysInt_enc M, rfl, ?_⟩
    rw [hw]
    refine ⟨⟨by omega, by omega, aset rows[i.toNat].kind true M, hset, aset_nodup hnd, ?_, fun x => ?_⟩, by dsimp only; omega⟩
    · have := aset_len rows[i.toNat].kind true M; omega
    · rw [mem_aset_keys, hmem, hn, take_snoc hi]
      simp only [List.map_append, List.mem_append, List.map_cons, List.map_nil, List.mem_singleton]
  · simp only [decide_eq_true_eq, rws_len] at hc
    rw [List.take_of_length_le (by omega)] at hmem
    refine ⟨⟨rfl, [], M, M.map (·.1), rfl, rfl, List.Perm.refl _, hnd, by simp; omega, hmem, fun _ => rfl⟩, ?_⟩
    rintro m _ _ q ⟨A, R, K, rfl, rfl, hp, hK, hKl, hKm, hnil⟩
    have hlen := hp.length_eq
    simp only [List.length_append, List.length_map] at hlen
    refine ⟨fun hr => ?_, fun j k v hj => ?_⟩
    · have hR : R = [] := by cases R with | nil => rfl | cons => simp [encB, encM] at hr
      subst hR
      simp only [List.map_nil, List.append_nil] at hp
      have hA := hp.nodup_iff.2 hK
      refine (p80 _ A hnil (by simp at hlen; omega)).mono ?_
      rintro _ _ ⟨rfl, rfl⟩
      refine ⟨A.mergeSort fun x y => decide (x ≤ y), ⟨rfl, rfl⟩, ⟨⟨rfl, rfl, by simp [i64s]⟩, trivial⟩, _, _, _, rfl, sort_strict hA, fun x => ?_, by simp at hlen ⊢; omega⟩
      rw [List.mem_mergeSort, hp.mem_iff, hKm]
    · obtain ⟨hjl, rfl, rfl, hpe, he⟩ := enc_at hj
      refine ⟨R[j].1, rfl, R[j].2, rfl, _, rfl, _, rfl, ⟨fun e he => by simp at he; subst he; rfl, by rw [i64s_len]; omega⟩, rfl, ⟨A ++ [R[j].1], R.eraseIdx j, K, by simp [i64s], he, ?_, hK, hKl, hKm, fun h => by simp at h⟩, ?_⟩
      · refine List.Perm.trans ?_ hp
        rw [List.append_assoc]
        refine List.Perm.append_left A ?_
        simpa using hpe.map (·.1)
      · dsimp only
        rw [he, encM_len, encM_len, List.length_eraseIdx_of_lt hjl]; omega
theorem p11 (n f0 : Bool) (rows : List Row) : PCall Try.prog 11 [.sl n f0 (rws rows)] fun v => v = .bool true := by
  refine a_typebarlaw02_RowsKinds _ _ _
    (fun _ _ s0 _ _ s3 i => ∃ rs t, s0 = rws rs ∧ s3 = i64s t ∧ KOK rs t ∧ rs.length ≤ 40 ∧ 0 ≤ i ∧ i ≤ t.length) (fun _ _ _ _ _ s3 i => s3.length - i.toNat)
    (fun _ _ s0 _ _ s3 i => ∃ rs t, s0 = rws rs ∧ s3 = i64s t ∧ KOK rs t ∧ rs.length ≤ 40 ∧ 0 ≤ i ∧ i ≤ rs.length) (fun _ _ s0 _ _ s3 i => s0.length - i.toNat)
    (fun _ _ c0 _ _ c3 i0 _ _ _ _ s0 _ _ s3 i b k => s0 = c0 ∧ i = i0 ∧ ∃ rs t, s0 = rws rs ∧ s3 = i64s t ∧ KOK rs t ∧ rs.length ≤ 40 ∧ 0 ≤ i ∧ i < rs.length ∧ 0 ≤ k ∧ k ≤ t.length ∧ (b = true ∨ ∀ (q : Nat) (hq : q < t.length) (hi : i.toNat < rs.length), q < k.toNat → t[q] ≠ rs[i.toNat].kind)) (fun _ _ _ _ _ s3 _ _ k => s3.length - k.toNat) ?_
  unfold r_typebarlaw02_RowsKinds
  have hlt : (rows.take 40).length ≤ 40 := by simp only [List.length_take]; omega
  refine (p28 _ _ rows).mono ?_
  rintro _ ⟨n1, f1, rfl⟩
  refine ⟨_, _, _, rfl, ?_⟩
  refine (p43 _ _ _ hlt).mono ?_
  rintro _ ⟨n2, f2, t, rfl, ht⟩
  refine ⟨_, _, _, rfl, ⟨rfl, _, t, rfl, rfl, ht, hlt, Int.le_refl _, by omega⟩, ?_⟩
  rintro m0 g0 _ m3 g3 _ i ⟨rs, t, rfl, rfl, ht, hrs, i0, i1⟩
  have htl := ht.2.2
  refine iteD (fun hc => ?_) (fun hc => ?_)
  · simp only [decide_eq_true_eq, i64s_len] at hc
    have hi : i.toNat < t.length := by omega
    have hw : IntKind.i64.wrap (i + 1) = i + 1 := wrap_i64 (by omega) (by omega)
    have hn : (i + 1).toNat = i.toNat + 1 := by omega
    have hg : (i64s t).getD i.toNat [] = [.int .i64 t[i.toNat]] := getD_map hi
    have hix : idxOK (i64s t) i 1 := idxOK_map enc1_len i0 hc
    have hmu : (i64s t).length - (i + 1).toNat < (i64s t).length - i.toNat := by rw [i64s_len]; omega
    refine ⟨hix, t[i.toNat], by rw [hg]; rfl, ?_⟩
    refine (p44 _ _ rs _ hrs).mono ?_
    rintro _ ⟨n4, f4, rfl⟩
    refine ⟨_, _, _, rfl, ?_⟩
    rw [hw]
    have hJ : ∃ rs' t', rws rs = rws rs' ∧ i64s t = i64s t' ∧ KOK rs' t' ∧ rs'.length ≤ 40 ∧ 0 ≤ i + 1 ∧ i + 1 ≤ t'.length := ⟨rs, t, rfl, rfl, ht, hrs, by omega, by omega⟩
    refine iteF ?_ ?_
    · obtain ⟨x, hx, hk⟩ := List.mem_map.1 ((ht.2.1 _).1 (List.getElem_mem hi))
      have : x ∈ rs.filter fun y => decide (y.kind = t[i.toNat]) := List.mem_filter.2 ⟨hx, by simpa using hk⟩
      have := List.length_pos_of_mem this
      rw [rws_len]
      simp only [beq_iff_eq]
      omega
    · refine iteD (fun hp => ?_) (fun hp => ?_)
      · simp only [decide_eq_true_eq, gt_iff_lt] at hp
        have hw2 : IntKind.i64.wrap (i - 1) = i - 1 := wrap_i64 (by omega) (by omega)
        have hi2 : (i - 1).toNat < t.length := by omega
        have hg2 : (i64s t).getD (i - 1).toNat [] = [.int .i64 t[(i - 1).toNat]] := getD_map hi2
        rw [hw2]
        refine ⟨idxOK_map enc1_len (by omega) (by omega), t[(i - 1).toNat], by rw [hg2]; rfl, hix, t[i.toNat], by rw [hg]; rfl, ?_⟩
        have hlt2 : t[(i - 1).toNat] < t[i.toNat] := (List.pairwise_iff_getElem.1 ht.1) _ _ hi2 hi (by omega)
        exact iteF (by simp only [decide_eq_true_eq]; exact Int.not_le.2 hlt2) ⟨rfl, hJ, hmu⟩
      · exact ⟨rfl, hJ, hmu⟩
  · clear hc i0 i1
    refine ⟨⟨rfl, rs, t, rfl, rfl, ht, hrs, Int.le_refl _, by omega⟩, ?_⟩
    rintro m0 g0 _ m3 g3 _ i ⟨rs, t, rfl, rfl, ht, hrs, i0, i1⟩
    have htl := ht.2.2
    refine iteD (fun hc => ?_) (fun hc => ?_)
    · simp only [decide_eq_true_eq, rws_len] at hc
      refine ⟨⟨rfl, rfl, rfl, rs, t, rfl, rfl, ht, hrs, i0, hc, Int.le_refl _, by omega, .inr fun q _ _ h => absurd h (by simp)⟩, ?_⟩
      rintro m0' g0' _ m3' g3' _ j b k ⟨hs, hj, rs', t', rfl, rfl, ht', hrs', j0, j1, k0, k1, hb⟩
      have htl' := ht'.2.2
      have hj' : j.toNat < rs'.length := by omega
      refine iteD (fun hc => ?_) (fun hc => ?_)
      · simp only [decide_eq_true_eq, i64s_len] at hc
        have hk : k.toNat < t'.length := by omega
        have hw : IntKind.i64.wrap (k + 1) = k + 1 := wrap_i64 (by omega) (by omega)
        have hn : (k + 1).toNat = k.toNat + 1 := by omega
        have hg : (i64s t').getD k.toNat [] = [.int .i64 t'[k.toNat]] := getD_map hk
        have hg2 : (rws rs').getD j.toNat [] = encR rs'[j.toNat] := getD_map hj'
        have hmu : (i64s t').length - (k + 1).toNat < (i64s t').length - k.toNat := by rw [i64s_len]; omega
        refine ⟨idxOK_map enc1_len k0 hc, t'[k.toNat], by rw [hg]; rfl, idxOK_map encR_len j0 j1, rs'[j.toNat].kind, by rw [hg2]; rfl, ?_⟩
        rw [hw]
        refine iteD (fun h => ?_) (fun h => ?_)
        · exact ⟨rfl, ⟨hs, hj, rs', t', rfl, rfl, ht', hrs', j0, j1, by omega, by omega, .inl rfl⟩, hmu⟩
        · simp only [beq_iff_eq] at h
          refine ⟨rfl, ⟨hs, hj, rs', t', rfl, rfl, ht', hrs', j0, j1, by omega, by omega, hb.elim .inl fun hb => .inr fun q hq hj' hlt => ?_⟩, hmu⟩
          rw [hn] at hlt
          rcases Nat.lt_or_ge q k.toNat with h' | h'
          · exact hb q hq hj' h'
          · have : q = k.toNat := by omega
            subst this
            exact h
      · simp only [decide_eq_true_eq, i64s_len] at hc
        refine iteF ?_ ?_
        · rcases hb with rfl | hb
          · simp
          · exfalso
            have hm : rs'[j.toNat].kind ∈ t' := (ht'.2.1 _).2 (List.mem_map.2 ⟨_, List.getElem_mem hj', rfl⟩)
            obtain ⟨q, hq, he⟩ := List.getElem_of_mem hm
            exact hb q hq hj' (by omega) he
        · have hw : IntKind.i64.wrap (j + 1) = j + 1 := wrap_i64 (by omega) (by omega)
          rw [hw]
          refine ⟨rfl, ⟨rs', t', rfl, rfl, ht', hrs', by omega, by omega⟩, ?_⟩
          dsimp only; rw [← hs, ← hj, rws_len]; omega
    · refine p31.mono ?_
      rintro _ rfl
      exact ⟨_, rfl, rfl⟩
theorem law11 {pvs : List PV} (h : TypedAll Try.prog 8 Try.f11.params.toList pvs) : PCall Try.prog 11 pvs fun v => v = .bool true := by
  obtain ⟨v0, r0, rfl, h0, rfl⟩ : TypedAll Try.prog 8 [57] pvs := h
  obtain ⟨nl, l, rfl, _, _⟩ := typed_rows h0
  exact p11 _ _ l
end Go.Eng
