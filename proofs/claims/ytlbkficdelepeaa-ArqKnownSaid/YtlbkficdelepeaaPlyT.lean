/-
  ArqPlays: what a round of each of its loops does, as trees.
  No condition.
-/
import Derived.Test.YtlbkficdelepeaaPlyM
import Derived.Test.YtlbkficdelepeaaVw
namespace Go.Proofs.Ytlbkficdelepeaa.Ab
set_option linter.unusedSimpArgs false
set_option linter.unusedVariables false
open Go
noncomputable section
abbrev rt1P_0 : Tm :=
 (.and (.ib .leq .i64 (.ci 0) y4) (.ib .lss .i64 y4 (.llen y0)))
abbrev qY0 : Tree (AX × Option Eqs) := (.leaf (.ret, (some [])))
def rt1P : (Tree (AX × Option Eqs)) :=
 (.fork (.ib .lss .i64 y4 (.llen y0)) (.fork rt1P_0 (.fork (.ib .gtr .i64 (.len (.lget y0 y4 7)) (.ci 60)) qY0 (.leaf (.normal, (some [(.sI, y4, (.ib .add .i64 y4 (.ci 1)))])))) .fail) (.leaf ((.exit 0), (some []))))
set_option maxRecDepth 100000 in
theorem rt1P_eq : evCode Try.prog (evFun Try.prog envL 1000) (fun _ => none) 1000000 (lpBody Try.prog fPly 0) T1P (outN 1 4 T1P F1P) = rt1P := by kernel_rfl
abbrev rt1Q_0 : Tm :=
 (.and (.ib .leq .i64 (.ci 0) y4) (.ib .lss .i64 y4 (.llen y0)))
def rt1Q : (Tree (AX × Option Eqs)) :=
 (.fork (.ib .lss .i64 y4 (.llen y0)) (.fork rt1Q_0 (.fork (.ib .gtr .i64 (.len (.lget y0 y4 7)) (.ci 60)) qY0 (.leaf (.normal, (some [(.sI, y4, (.ib .add .i64 y4 (.ci 1)))])))) .fail) (.leaf ((.exit 0), none)))
set_option maxRecDepth 100000 in
theorem rt1Q_eq : evCode Try.prog (evFun Try.prog envL 1000) (fun _ => none) 1000000 (lpBody Try.prog fPly 0) T1P (outN 1 4 T1P F1Q) = rt1Q := by kernel_rfl
abbrev rt2P_0 : Tm :=
 (.and (.ib .leq .i64 (.ci 0) y5) (.ib .lss .i64 y5 (.llen y0)))
abbrev rt2P_1 : Tm :=
 (tp [y6, y7, y8, y9, y10, y11, y12, y13, y14, y15, y16, y17, y18, y19, y20, y21, y22, y23, y24, y25, y26, y27, y28, y29, (.lget y0 y5 7)])
abbrev rt2P_2 : Tm :=
 (tp [y30, y31, y32, y33, y34, y35, y36, y37, y38, y39, y40, y41, y42, y43, y44, y45, y46, y47, y48, y49, y50, y51, (.lget y0 y5 7)])
abbrev rt2P_3 : Tm :=
 (tp [y6, y7, y8, y9, y10, y11, (.app 577 rt2P_1), y13, y14, y15, y16, y17, y18, y19, y20, y21, (.app 578 rt2P_1), (.app 579 rt2P_1), (.app 580 rt2P_1), y25, y26, y27, y28, y29])
abbrev qY3 : Tm := (.wrap .u8 (.ib .rem .i64 y36 (.ci 8)))
abbrev rt2P_4 : Tm :=
 (.ib .eql .u8 (.app 960 rt2P_3) qY3)
abbrev qY5 : Tm := (.wrap .u8 (.ib .rem .i64 y37 (.ci 8)))
abbrev rt2P_5 : Tm :=
 (.ib .eql .u8 (.app 961 rt2P_3) qY5)
abbrev qY4 : Tm := (.wrap .u8 (.ib .rem .i64 y39 (.ci 8)))
abbrev rt2P_6 : Tm :=
 (.ib .eql .u8 (.app 962 rt2P_3) qY4)
abbrev rt2P_7 : Tm :=
 (.ib .eql .i64 (.app 963 rt2P_3) (.app 1280 (tp [(.app 1475 rt2P_2), y36])))
abbrev rt2P_8 : Tm :=
 (.and (.beq (.app 971 rt2P_3) y49) (.beq (.app 972 rt2P_3) y48))
abbrev rt2P_9 : Tm :=
 (.and (.beq (.app 969 rt2P_3) y46) (.and (.beq (.app 970 rt2P_3) y47) rt2P_8))
abbrev rt2P_10 : Tm :=
 (.and (.beq (.app 967 rt2P_3) y44) (.and (.beq (.app 968 rt2P_3) y45) rt2P_9))
abbrev rt2P_11 : Tm :=
 (.and (.ib .eql .i64 (.app 965 rt2P_3) y50) (.and (.ib .eql .i64 (.app 966 rt2P_3) (.app 1473 rt2P_2)) rt2P_10))
abbrev rt2P_12 : Tm :=
 (.and (.ib .eql .i64 (.app 964 rt2P_3) (.ib .sub .i64 y37 y36)) rt2P_11)
abbrev rt2P_13 : Tm :=
 (.not (.and rt2P_4 (.and rt2P_5 (.and rt2P_6 (.and rt2P_7 rt2P_12)))))
abbrev rt2P_14 : Tm :=
 (tp [y10, y13, y16, y18, (.app 579 rt2P_1), y26, y29])
abbrev rt2P_15 : Tm :=
 (tp [(.app 1475 rt2P_2), y37, y40, y43, y44, y47, y48])
abbrev rt2P_16 : Tm :=
 (.app 513 (tp [y10, y13, y16, y18, y23, y26, y29]))
abbrev rt2P_17 : Tm :=
 (tp [y6, y7, y8, y9, y10, y11, y12, y13, y14, y15, y16, y17, y18, y19, y20, y21, y22, y23, y24, y25, y26, y27, y28, y29])
abbrev rt2P_18 : Tm :=
 (tp [y30, y31, y32, y33, y34, y35, y36, y37, y38, y39, y40, y41, y42, y43, y44, y45, y46, y47, y48, y49, y50, y51])
abbrev rt2P_19 : Tm :=
 (.and (.ib .eql .u8 (.app 645 rt2P_17) (.app 1541 rt2P_18)) (.sb .eql (.app 646 rt2P_17) (.app 1542 rt2P_18)))
abbrev rt2P_20 : Tm :=
 (.and (.beq (.app 643 rt2P_17) (.app 1539 rt2P_18)) (.and (.ib .eql .u8 (.app 644 rt2P_17) (.app 1540 rt2P_18)) rt2P_19))
abbrev rt2P_21 : Tm :=
 (.and (.beq (.app 641 rt2P_17) (.app 1537 rt2P_18)) (.and (.ib .eql .u8 (.app 642 rt2P_17) (.app 1538 rt2P_18)) rt2P_20))
abbrev rt2P_22 : Tm :=
 (.app 512 (tp [y10, y13, y16, y18, y23, y26, y29]))
abbrev rt2P_23 : Tm :=
 (tp [y6, y7, y8, y9, (.app 648 rt2P_17), y11, (.app 649 rt2P_17), y13, y14, y15, y16, y17, y18, y19, y20, y21, y22, y23, y24, (.app 650 rt2P_17), (.app 651 rt2P_17), (.app 652 rt2P_17), (.app 653 rt2P_17), (.app 654 rt2P_17)])
abbrev rt2P_24 : Tm :=
 (.ib .eql .u8 (.app 960 rt2P_23) qY3)
abbrev rt2P_25 : Tm :=
 (.ib .eql .u8 (.app 961 rt2P_23) (.wrap .u8 (.ib .rem .i64 (.app 1544 rt2P_18) (.ci 8))))
abbrev rt2P_26 : Tm :=
 (.ib .eql .u8 (.app 962 rt2P_23) qY4)
abbrev rt2P_27 : Tm :=
 (.ib .eql .i64 (.app 963 rt2P_23) (.app 1280 (tp [y34, y36])))
abbrev rt2P_28 : Tm :=
 (.ib .eql .i64 (.app 964 rt2P_23) (.ib .sub .i64 (.app 1544 rt2P_18) y36))
abbrev rt2P_29 : Tm :=
 (.and (.beq (.app 971 rt2P_23) y49) (.beq (.app 972 rt2P_23) y48))
abbrev rt2P_30 : Tm :=
 (.and (.beq (.app 969 rt2P_23) y46) (.and (.beq (.app 970 rt2P_23) y47) rt2P_29))
abbrev rt2P_31 : Tm :=
 (.and (.beq (.app 967 rt2P_23) y44) (.and (.beq (.app 968 rt2P_23) y45) rt2P_30))
abbrev rt2P_32 : Tm :=
 (.and (.ib .eql .i64 (.app 965 rt2P_23) y50) (.and (.ib .eql .i64 (.app 966 rt2P_23) (.app 1550 rt2P_18)) rt2P_31))
abbrev rt2P_33 : Tm :=
 (.and rt2P_24 (.and rt2P_25 (.and rt2P_26 (.and rt2P_27 (.and rt2P_28 rt2P_32)))))
abbrev rt2P_34 : Tm :=
 (tp [(.app 648 rt2P_17), y13, y16, y18, y23, (.app 651 rt2P_17), (.app 654 rt2P_17)])
abbrev rt2P_35 : Tm :=
 (tp [y34, (.app 1544 rt2P_18), (.app 1546 rt2P_18), (.app 1549 rt2P_18), y44, y47, y48])
abbrev rt2P_36 : Tm :=
 (tp [y6, y7, y8, y9, y10, y11, y12, y13, y14, y15, y16, y17, y18, y19, y20, y21, y22, y23, y24, y25, y26, y27, y28, y29, (.lget y0 y5 1), (.lget y0 y5 2), (.lget y0 y5 3), (.lget y0 y5 4), (.lget y0 y5 5), (.lget y0 y5 6), (.lget y0 y5 7)])
abbrev rt2P_37 : Tm :=
 (tp [y30, y31, y32, y33, y34, y35, y36, y37, y38, y39, y40, y41, y42, y43, y44, y45, y46, y47, y48, y49, y50, y51, (.lget y0 y5 1), (.lget y0 y5 2), (.lget y0 y5 3), (.lget y0 y5 4), (.lget y0 y5 5), (.lget y0 y5 6), (.lget y0 y5 7)])
abbrev rt2P_38 : Tm :=
 (.and (.ib .eql .i64 (.app 706 rt2P_36) (.app 1730 rt2P_37)) (.beq (.app 707 rt2P_36) (.app 1731 rt2P_37)))
abbrev rt2P_39 : Tm :=
 (.and (.sb .eql (.app 704 rt2P_36) (.app 1728 rt2P_37)) (.and (.beq (.app 705 rt2P_36) (.app 1729 rt2P_37)) rt2P_38))
abbrev rt2P_40 : Tm :=
 (tp [(.app 708 rt2P_36), y7, (.app 709 rt2P_36), y9, (.app 710 rt2P_36), (.app 711 rt2P_36), (.app 712 rt2P_36), (.app 713 rt2P_36), y14, (.app 714 rt2P_36), (.app 715 rt2P_36), y17, (.app 716 rt2P_36), y19, y20, y21, (.app 717 rt2P_36), (.app 718 rt2P_36), y24, (.app 719 rt2P_36), (.app 720 rt2P_36), (.app 721 rt2P_36), (.app 722 rt2P_36), (.app 723 rt2P_36)])
abbrev qY7 : Tm := (.app 1732 rt2P_37)
abbrev rt2P_41 : Tm :=
 (.ib .eql .u8 (.app 960 rt2P_40) (.wrap .u8 (.ib .rem .i64 qY7 (.ci 8))))
abbrev rt2P_42 : Tm :=
 (.ib .eql .u8 (.app 961 rt2P_40) (.wrap .u8 (.ib .rem .i64 (.app 1733 rt2P_37) (.ci 8))))
abbrev rt2P_43 : Tm :=
 (.ib .eql .u8 (.app 962 rt2P_40) (.wrap .u8 (.ib .rem .i64 (.app 1734 rt2P_37) (.ci 8))))
abbrev rt2P_44 : Tm :=
 (.ib .eql .i64 (.app 963 rt2P_40) (.app 1280 (tp [y34, qY7])))
abbrev rt2P_45 : Tm :=
 (.ib .eql .i64 (.app 964 rt2P_40) (.ib .sub .i64 (.app 1733 rt2P_37) qY7))
abbrev rt2P_46 : Tm :=
 (.and (.beq (.app 971 rt2P_40) y49) (.beq (.app 972 rt2P_40) (.app 1742 rt2P_37)))
abbrev rt2P_47 : Tm :=
 (.and (.beq (.app 969 rt2P_40) (.app 1740 rt2P_37)) (.and (.beq (.app 970 rt2P_40) (.app 1741 rt2P_37)) rt2P_46))
abbrev rt2P_48 : Tm :=
 (.and (.beq (.app 967 rt2P_40) (.app 1739 rt2P_37)) (.and (.beq (.app 968 rt2P_40) y45) rt2P_47))
abbrev rt2P_49 : Tm :=
 (.and (.ib .eql .i64 (.app 965 rt2P_40) (.app 1743 rt2P_37)) (.and (.ib .eql .i64 (.app 966 rt2P_40) (.app 1744 rt2P_37)) rt2P_48))
abbrev rt2P_50 : Tm :=
 (.and rt2P_41 (.and rt2P_42 (.and rt2P_43 (.and rt2P_44 (.and rt2P_45 rt2P_49)))))
abbrev rt2P_51 : Tm :=
 (tp [(.app 710 rt2P_36), (.app 713 rt2P_36), (.app 715 rt2P_36), (.app 716 rt2P_36), (.app 718 rt2P_36), (.app 720 rt2P_36), (.app 723 rt2P_36)])
abbrev rt2P_52 : Tm :=
 (tp [y34, (.app 1733 rt2P_37), (.app 1735 rt2P_37), (.app 1738 rt2P_37), (.app 1739 rt2P_37), (.app 1741 rt2P_37), (.app 1742 rt2P_37)])
abbrev rt2P_53 : Tm :=
 (.and (.ib .eql .i64 (.app 898 rt2P_17) (.app 1922 rt2P_18)) (.beq (.app 899 rt2P_17) (.app 1923 rt2P_18)))
abbrev rt2P_54 : Tm :=
 (.and (.sb .eql (.app 896 rt2P_17) (.app 1920 rt2P_18)) (.and (.beq (.app 897 rt2P_17) (.app 1921 rt2P_18)) rt2P_53))
abbrev rt2P_55 : Tm :=
 (tp [y6, y7, y8, y9, y10, (.app 900 rt2P_17), (.app 901 rt2P_17), y13, y14, y15, (.app 902 rt2P_17), y17, (.app 903 rt2P_17), y19, y20, y21, y22, y23, y24, y25, y26, y27, y28, (.app 904 rt2P_17)])
abbrev rt2P_56 : Tm :=
 (.ib .eql .u8 (.app 960 rt2P_55) qY3)
abbrev rt2P_57 : Tm :=
 (.ib .eql .u8 (.app 961 rt2P_55) qY5)
abbrev rt2P_58 : Tm :=
 (.ib .eql .u8 (.app 962 rt2P_55) qY4)
abbrev rt2P_59 : Tm :=
 (.ib .eql .i64 (.app 963 rt2P_55) (.app 1280 (tp [y34, y36])))
abbrev rt2P_60 : Tm :=
 (.and (.beq (.app 971 rt2P_55) y49) (.beq (.app 972 rt2P_55) (.app 1926 rt2P_18)))
abbrev rt2P_61 : Tm :=
 (.and (.beq (.app 969 rt2P_55) y46) (.and (.beq (.app 970 rt2P_55) (.app 1925 rt2P_18)) rt2P_60))
abbrev rt2P_62 : Tm :=
 (.and (.beq (.app 967 rt2P_55) y44) (.and (.beq (.app 968 rt2P_55) y45) rt2P_61))
abbrev rt2P_63 : Tm :=
 (.and (.ib .eql .i64 (.app 965 rt2P_55) (.app 1927 rt2P_18)) (.and (.ib .eql .i64 (.app 966 rt2P_55) (.app 1928 rt2P_18)) rt2P_62))
abbrev rt2P_64 : Tm :=
 (.and (.ib .eql .i64 (.app 964 rt2P_55) (.ib .sub .i64 y37 y36)) rt2P_63)
abbrev rt2P_65 : Tm :=
 (.not (.and rt2P_56 (.and rt2P_57 (.and rt2P_58 (.and rt2P_59 rt2P_64)))))
abbrev rt2P_66 : Tm :=
 (tp [y10, y13, (.app 902 rt2P_17), (.app 903 rt2P_17), y23, y26, (.app 904 rt2P_17)])
abbrev rt2P_67 : Tm :=
 (tp [y34, y37, y40, (.app 1924 rt2P_18), y44, (.app 1925 rt2P_18), (.app 1926 rt2P_18)])
abbrev rt2P_68 : Tm :=
 (tp [y6, y7, y8, y9, y10, y11, y12, y13, y14, y15, y16, y17, y18, y19, y20, y21, y22, y23, y24, y25, y26, y27, y28, y29, (.lget y0 y5 4)])
abbrev rt2P_69 : Tm :=
 (tp [y30, y31, y32, y33, y34, y35, y36, y37, y38, y39, y40, y41, y42, y43, y44, y45, y46, y47, y48, y49, y50, y51, (.lget y0 y5 4)])
abbrev rt2P_70 : Tm :=
 (tp [y6, y7, y8, y9, y10, y11, (.app 832 rt2P_68), y13, y14, y15, y16, (.app 833 rt2P_68), y18, y19, y20, y21, y22, y23, y24, y25, y26, y27, y28, y29])
abbrev rt2P_71 : Tm :=
 (.ib .eql .u8 (.app 960 rt2P_70) qY3)
abbrev rt2P_72 : Tm :=
 (.ib .eql .u8 (.app 961 rt2P_70) qY5)
abbrev rt2P_73 : Tm :=
 (.ib .eql .u8 (.app 962 rt2P_70) qY4)
abbrev rt2P_74 : Tm :=
 (.ib .eql .i64 (.app 963 rt2P_70) (.app 1280 (tp [y34, y36])))
abbrev rt2P_75 : Tm :=
 (.and (.beq (.app 971 rt2P_70) (.app 1856 rt2P_69)) (.beq (.app 972 rt2P_70) y48))
abbrev rt2P_76 : Tm :=
 (.and (.beq (.app 969 rt2P_70) y46) (.and (.beq (.app 970 rt2P_70) y47) rt2P_75))
abbrev rt2P_77 : Tm :=
 (.and (.beq (.app 967 rt2P_70) y44) (.and (.beq (.app 968 rt2P_70) y45) rt2P_76))
abbrev rt2P_78 : Tm :=
 (.and (.ib .eql .i64 (.app 965 rt2P_70) y50) (.and (.ib .eql .i64 (.app 966 rt2P_70) (.app 1857 rt2P_69)) rt2P_77))
abbrev rt2P_79 : Tm :=
 (.and (.ib .eql .i64 (.app 964 rt2P_70) (.ib .sub .i64 y37 y36)) rt2P_78)
abbrev rt2P_80 : Tm :=
 (.not (.and rt2P_71 (.and rt2P_72 (.and rt2P_73 (.and rt2P_74 rt2P_79)))))
abbrev rt2P_81 : Tm :=
 (.app 1409 (tp [y34, y37, y40, y43, y44, y47, y48]))
abbrev rt2P_82 : Tm :=
 (.app 1408 (tp [y34, y37, y40, y43, y44, y47, y48]))
abbrev rt2P_83 : Tm :=
 (tp [y6, y7, y8, y9, y10, y11, (.app 768 rt2P_68), y13, (.app 769 rt2P_68), y15, y16, y17, y18, y19, y20, y21, y22, y23, y24, y25, (.app 770 rt2P_68), y27, y28, y29])
abbrev rt2P_84 : Tm :=
 (.ib .eql .u8 (.app 960 rt2P_83) qY3)
abbrev rt2P_85 : Tm :=
 (.ib .eql .u8 (.app 961 rt2P_83) qY5)
abbrev rt2P_86 : Tm :=
 (.ib .eql .u8 (.app 962 rt2P_83) qY4)
abbrev rt2P_87 : Tm :=
 (.ib .eql .i64 (.app 963 rt2P_83) (.app 1280 (tp [y34, y36])))
abbrev rt2P_88 : Tm :=
 (.and (.beq (.app 971 rt2P_83) y49) (.beq (.app 972 rt2P_83) y48))
abbrev rt2P_89 : Tm :=
 (.and (.beq (.app 969 rt2P_83) y46) (.and (.beq (.app 970 rt2P_83) y47) rt2P_88))
abbrev rt2P_90 : Tm :=
 (.and (.beq (.app 967 rt2P_83) y44) (.and (.beq (.app 968 rt2P_83) (.app 1793 rt2P_69)) rt2P_89))
abbrev rt2P_91 : Tm :=
 (.and (.ib .eql .i64 (.app 965 rt2P_83) y50) (.and (.ib .eql .i64 (.app 966 rt2P_83) (.app 1794 rt2P_69)) rt2P_90))
abbrev rt2P_92 : Tm :=
 (.and (.ib .eql .i64 (.app 964 rt2P_83) (.ib .sub .i64 y37 y36)) rt2P_91)
abbrev rt2P_93 : Tm :=
 (.not (.and rt2P_84 (.and rt2P_85 (.and rt2P_86 (.and rt2P_87 rt2P_92)))))
abbrev rt2P_94 : Tm :=
 (tp [y10, y13, y16, y18, y23, (.app 770 rt2P_68), y29])
abbrev rt2P_95 : Tm :=
 (tp [y34, y37, (.app 1792 rt2P_69), y43, y44, y47, y48])
abbrev qY2 : Tm := (.ib .rem .u8 (.lget y0 y5 0) (.ci 9))
abbrev qY1 : Sr × Tm × Tm := (.sI, y5, (.ib .add .i64 y5 (.ci 1)))
abbrev qY6 : Tm := (.app 1281 (tp [y34, y36]))
def rt2P : (Tree (AX × Option Eqs)) :=
 (.fork (.ib .lss .i64 y5 (.llen y0)) (.fork rt2P_0 (.fork (.ib .eql .u8 qY2 (.ci 0)) (.fork (.app 581 rt2P_1) (.fork (.app 1477 rt2P_2) (.fork (.ib .neq .i64 (.app 576 rt2P_1) (.app 1472 rt2P_2)) qY0 (.fork (.app 973 rt2P_3) (.fork (.app 1281 (tp [(.app 1475 rt2P_2), y36])) (.fork rt2P_13 qY0 (.fork (.app 513 rt2P_14) (.fork (.app 1409 rt2P_15) (.fork (.not (.beq (.app 512 rt2P_14) (.app 1408 rt2P_15)))
 qY0 (.leaf (.normal, (some [qY1, (.sL, y35, (.app 1476 rt2P_2)), (.sL, y24, (.app 580 rt2P_1)), (.sI, y30, y30), (.sI, y31, y31), (.sI, y32, y32), (.sI, y33, (.app 1474 rt2P_2)), (.sI, y34, (.app 1475 rt2P_2)), (.sI, y36, y36), (.sI, y37, y37), (.sI, y38, y38), (.sI, y39, y39), (.sB, y40, y40), (.sB, y41, y41), (.sB, y42, y42), (.sB, y43, y43), (.sB, y44, y44), (.sB, y45, y45), (.sB, y46, y46), (.sB,
 y47, y47), (.sB, y48, y48), (.sB, y49, y49), (.sI, y50, y50), (.sI, y51, (.app 1473 rt2P_2)), (.sI, y6, y6), (.sI, y7, y7), (.sI, y8, y8), (.sI, y9, y9), (.sI, y10, y10), (.sI, y11, y11), (.sI, y12, (.app 577 rt2P_1)), (.sB, y13, y13), (.sB, y14, y14), (.sB, y15, y15), (.sB, y16, y16), (.sB, y17, y17), (.sB, y18, y18), (.sI, y19, y19), (.sI, y20, y20), (.sI, y21, y21), (.sI, y22, (.app 578 rt2P_1)),
 (.sI, y23, (.app 579 rt2P_1)), (.sI, y25, y25), (.sB, y26, y26), (.sB, y27, y27), (.sB, y28, y28), (.sB, y29, y29)])))) .fail) .fail)) .fail) .fail)) .fail) .fail) (.fork (.ib .eql .u8 qY2 (.ci 1)) (.fork (.app 581 rt2P_1) (.fork (.app 1477 rt2P_2) (.fork (.ib .neq .i64 (.app 576 rt2P_1) (.app 1472 rt2P_2)) qY0 (.fork (.app 973 rt2P_3) (.fork (.app 1281 (tp [(.app 1475 rt2P_2), y36])) (.fork rt2P_13
 qY0 (.fork (.app 513 rt2P_14) (.fork (.app 1409 rt2P_15) (.fork (.not (.beq (.app 512 rt2P_14) (.app 1408 rt2P_15))) qY0 (.leaf (.normal, (some [qY1, (.sL, y35, (.app 1476 rt2P_2)), (.sL, y24, (.app 580 rt2P_1)), (.sI, y30, y30), (.sI, y31, y31), (.sI, y32, y32), (.sI, y33, (.app 1474 rt2P_2)), (.sI, y34, (.app 1475 rt2P_2)), (.sI, y36, y36), (.sI, y37, y37), (.sI, y38, y38), (.sI, y39, y39), (.sB,
 y40, y40), (.sB, y41, y41), (.sB, y42, y42), (.sB, y43, y43), (.sB, y44, y44), (.sB, y45, y45), (.sB, y46, y46), (.sB, y47, y47), (.sB, y48, y48), (.sB, y49, y49), (.sI, y50, y50), (.sI, y51, (.app 1473 rt2P_2)), (.sI, y6, y6), (.sI, y7, y7), (.sI, y8, y8), (.sI, y9, y9), (.sI, y10, y10), (.sI, y11, y11), (.sI, y12, (.app 577 rt2P_1)), (.sB, y13, y13), (.sB, y14, y14), (.sB, y15, y15), (.sB, y16, y16),
 (.sB, y17, y17), (.sB, y18, y18), (.sI, y19, y19), (.sI, y20, y20), (.sI, y21, y21), (.sI, y22, (.app 578 rt2P_1)), (.sI, y23, (.app 579 rt2P_1)), (.sI, y25, y25), (.sB, y26, y26), (.sB, y27, y27), (.sB, y28, y28), (.sB, y29, y29)])))) .fail) .fail)) .fail) .fail)) .fail) .fail) (.fork (.ib .eql .u8 qY2 (.ci 2)) (.fork rt2P_16 (.fork (.app 655 rt2P_17) (.fork (.app 1551 rt2P_18) (.fork (.and (.ib .eql
 .u8 (.app 640 rt2P_17) (.app 1536 rt2P_18)) rt2P_21) (.fork (.beq (.app 647 rt2P_17) (.app 1543 rt2P_18)) (.fork (.not (.beq (.app 647 rt2P_17) rt2P_22)) qY0 (.fork (.app 973 rt2P_23) (.fork qY6 (.fork (.not rt2P_33) qY0 (.fork (.app 513 rt2P_34) (.fork (.app 1409 rt2P_35) (.fork (.not (.beq (.app 512 rt2P_34) (.app 1408 rt2P_35))) qY0 (.leaf (.normal, (some [qY1, (.sL, y35, y35), (.sL, y24, y24),
 (.sI, y30, y30), (.sI, y31, y31), (.sI, y32, y32), (.sI, y33, y33), (.sI, y34, y34), (.sI, y36, y36), (.sI, y37, (.app 1544 rt2P_18)), (.sI, y38, (.app 1545 rt2P_18)), (.sI, y39, y39), (.sB, y40, (.app 1546 rt2P_18)), (.sB, y41, (.app 1547 rt2P_18)), (.sB, y42, (.app 1548 rt2P_18)), (.sB, y43, (.app 1549 rt2P_18)), (.sB, y44, y44), (.sB, y45, y45), (.sB, y46, y46), (.sB, y47, y47), (.sB, y48, y48),
 (.sB, y49, y49), (.sI, y50, y50), (.sI, y51, (.app 1550 rt2P_18)), (.sI, y6, y6), (.sI, y7, y7), (.sI, y8, y8), (.sI, y9, y9), (.sI, y10, (.app 648 rt2P_17)), (.sI, y11, y11), (.sI, y12, (.app 649 rt2P_17)), (.sB, y13, y13), (.sB, y14, y14), (.sB, y15, y15), (.sB, y16, y16), (.sB, y17, y17), (.sB, y18, y18), (.sI, y19, y19), (.sI, y20, y20), (.sI, y21, y21), (.sI, y22, y22), (.sI, y23, y23), (.sI,
 y25, (.app 650 rt2P_17)), (.sB, y26, (.app 651 rt2P_17)), (.sB, y27, (.app 652 rt2P_17)), (.sB, y28, (.app 653 rt2P_17)), (.sB, y29, (.app 654 rt2P_17))])))) .fail) .fail)) .fail) .fail)) qY0) qY0) .fail) .fail) .fail) (.fork (.ib .eql .u8 qY2 (.ci 3)) (.fork rt2P_16 (.fork (.app 655 rt2P_17) (.fork (.app 1551 rt2P_18) (.fork (.and (.ib .eql .u8 (.app 640 rt2P_17) (.app 1536 rt2P_18)) rt2P_21) (.fork
 (.beq (.app 647 rt2P_17) (.app 1543 rt2P_18)) (.fork (.not (.beq (.app 647 rt2P_17) rt2P_22)) qY0 (.fork (.app 973 rt2P_23) (.fork qY6 (.fork (.not rt2P_33) qY0 (.fork (.app 513 rt2P_34) (.fork (.app 1409 rt2P_35) (.fork (.not (.beq (.app 512 rt2P_34) (.app 1408 rt2P_35))) qY0 (.leaf (.normal, (some [qY1, (.sL, y35, y35), (.sL, y24, y24), (.sI, y30, y30), (.sI, y31, y31), (.sI, y32, y32), (.sI, y33,
 y33), (.sI, y34, y34), (.sI, y36, y36), (.sI, y37, (.app 1544 rt2P_18)), (.sI, y38, (.app 1545 rt2P_18)), (.sI, y39, y39), (.sB, y40, (.app 1546 rt2P_18)), (.sB, y41, (.app 1547 rt2P_18)), (.sB, y42, (.app 1548 rt2P_18)), (.sB, y43, (.app 1549 rt2P_18)), (.sB, y44, y44), (.sB, y45, y45), (.sB, y46, y46), (.sB, y47, y47), (.sB, y48, y48), (.sB, y49, y49), (.sI, y50, y50), (.sI, y51, (.app 1550 rt2P_18)),
 (.sI, y6, y6), (.sI, y7, y7), (.sI, y8, y8), (.sI, y9, y9), (.sI, y10, (.app 648 rt2P_17)), (.sI, y11, y11), (.sI, y12, (.app 649 rt2P_17)), (.sB, y13, y13), (.sB, y14, y14), (.sB, y15, y15), (.sB, y16, y16), (.sB, y17, y17), (.sB, y18, y18), (.sI, y19, y19), (.sI, y20, y20), (.sI, y21, y21), (.sI, y22, y22), (.sI, y23, y23), (.sI, y25, (.app 650 rt2P_17)), (.sB, y26, (.app 651 rt2P_17)), (.sB, y27,
 (.app 652 rt2P_17)), (.sB, y28, (.app 653 rt2P_17)), (.sB, y29, (.app 654 rt2P_17))])))) .fail) .fail)) .fail) .fail)) qY0) qY0) .fail) .fail) .fail) (.fork (.ib .eql .u8 qY2 (.ci 4)) (.fork (.app 724 rt2P_36) (.fork (.app 1745 rt2P_37) (.fork (.not rt2P_39) qY0 (.fork (.app 973 rt2P_40) (.fork (.app 1281 (tp [y34, qY7])) (.fork (.not rt2P_50) qY0 (.fork (.app 513 rt2P_51) (.fork (.app 1409 rt2P_52)
 (.fork (.not (.beq (.app 512 rt2P_51) (.app 1408 rt2P_52))) qY0 (.leaf (.normal, (some [qY1, (.sL, y35, y35), (.sL, y24, y24), (.sI, y30, y30), (.sI, y31, y31), (.sI, y32, y32), (.sI, y33, y33), (.sI, y34, y34), (.sI, y36, qY7), (.sI, y37, (.app 1733 rt2P_37)), (.sI, y38, y38), (.sI, y39, (.app 1734 rt2P_37)), (.sB, y40, (.app 1735 rt2P_37)), (.sB, y41, (.app 1736 rt2P_37)), (.sB, y42, (.app 1737 rt2P_37)),
 (.sB, y43, (.app 1738 rt2P_37)), (.sB, y44, (.app 1739 rt2P_37)), (.sB, y45, y45), (.sB, y46, (.app 1740 rt2P_37)), (.sB, y47, (.app 1741 rt2P_37)), (.sB, y48, (.app 1742 rt2P_37)), (.sB, y49, y49), (.sI, y50, (.app 1743 rt2P_37)), (.sI, y51, (.app 1744 rt2P_37)), (.sI, y6, (.app 708 rt2P_36)), (.sI, y7, y7), (.sI, y8, (.app 709 rt2P_36)), (.sI, y9, y9), (.sI, y10, (.app 710 rt2P_36)), (.sI, y11, (.app
 711 rt2P_36)), (.sI, y12, (.app 712 rt2P_36)), (.sB, y13, (.app 713 rt2P_36)), (.sB, y14, y14), (.sB, y15, (.app 714 rt2P_36)), (.sB, y16, (.app 715 rt2P_36)), (.sB, y17, y17), (.sB, y18, (.app 716 rt2P_36)), (.sI, y19, y19), (.sI, y20, y20), (.sI, y21, y21), (.sI, y22, (.app 717 rt2P_36)), (.sI, y23, (.app 718 rt2P_36)), (.sI, y25, (.app 719 rt2P_36)), (.sB, y26, (.app 720 rt2P_36)), (.sB, y27, (.app
 721 rt2P_36)), (.sB, y28, (.app 722 rt2P_36)), (.sB, y29, (.app 723 rt2P_36))])))) .fail) .fail)) .fail) .fail)) .fail) .fail) (.fork (.ib .eql .u8 qY2 (.ci 5)) (.fork (.app 724 rt2P_36) (.fork (.app 1745 rt2P_37) (.fork (.not rt2P_39) qY0 (.fork (.app 973 rt2P_40) (.fork (.app 1281 (tp [y34, qY7])) (.fork (.not rt2P_50) qY0 (.fork (.app 513 rt2P_51) (.fork (.app 1409 rt2P_52) (.fork (.not (.beq (.app
 512 rt2P_51) (.app 1408 rt2P_52))) qY0 (.leaf (.normal, (some [qY1, (.sL, y35, y35), (.sL, y24, y24), (.sI, y30, y30), (.sI, y31, y31), (.sI, y32, y32), (.sI, y33, y33), (.sI, y34, y34), (.sI, y36, qY7), (.sI, y37, (.app 1733 rt2P_37)), (.sI, y38, y38), (.sI, y39, (.app 1734 rt2P_37)), (.sB, y40, (.app 1735 rt2P_37)), (.sB, y41, (.app 1736 rt2P_37)), (.sB, y42, (.app 1737 rt2P_37)), (.sB, y43, (.app
 1738 rt2P_37)), (.sB, y44, (.app 1739 rt2P_37)), (.sB, y45, y45), (.sB, y46, (.app 1740 rt2P_37)), (.sB, y47, (.app 1741 rt2P_37)), (.sB, y48, (.app 1742 rt2P_37)), (.sB, y49, y49), (.sI, y50, (.app 1743 rt2P_37)), (.sI, y51, (.app 1744 rt2P_37)), (.sI, y6, (.app 708 rt2P_36)), (.sI, y7, y7), (.sI, y8, (.app 709 rt2P_36)), (.sI, y9, y9), (.sI, y10, (.app 710 rt2P_36)), (.sI, y11, (.app 711 rt2P_36)),
 (.sI, y12, (.app 712 rt2P_36)), (.sB, y13, (.app 713 rt2P_36)), (.sB, y14, y14), (.sB, y15, (.app 714 rt2P_36)), (.sB, y16, (.app 715 rt2P_36)), (.sB, y17, y17), (.sB, y18, (.app 716 rt2P_36)), (.sI, y19, y19), (.sI, y20, y20), (.sI, y21, y21), (.sI, y22, (.app 717 rt2P_36)), (.sI, y23, (.app 718 rt2P_36)), (.sI, y25, (.app 719 rt2P_36)), (.sB, y26, (.app 720 rt2P_36)), (.sB, y27, (.app 721 rt2P_36)),
 (.sB, y28, (.app 722 rt2P_36)), (.sB, y29, (.app 723 rt2P_36))])))) .fail) .fail)) .fail) .fail)) .fail) .fail) (.fork (.ib .eql .u8 qY2 (.ci 6)) (.fork (.app 905 rt2P_17) (.fork (.app 1929 rt2P_18) (.fork (.not rt2P_54) qY0 (.fork (.app 973 rt2P_55) (.fork qY6 (.fork rt2P_65 qY0 (.fork (.app 513 rt2P_66) (.fork (.app 1409 rt2P_67) (.fork (.not (.beq (.app 512 rt2P_66) (.app 1408 rt2P_67))) qY0 (.leaf
 (.normal, (some [qY1, (.sL, y35, y35), (.sL, y24, y24), (.sI, y30, y30), (.sI, y31, y31), (.sI, y32, y32), (.sI, y33, y33), (.sI, y34, y34), (.sI, y36, y36), (.sI, y37, y37), (.sI, y38, y38), (.sI, y39, y39), (.sB, y40, y40), (.sB, y41, y41), (.sB, y42, y42), (.sB, y43, (.app 1924 rt2P_18)), (.sB, y44, y44), (.sB, y45, y45), (.sB, y46, y46), (.sB, y47, (.app 1925 rt2P_18)), (.sB, y48, (.app 1926 rt2P_18)),
 (.sB, y49, y49), (.sI, y50, (.app 1927 rt2P_18)), (.sI, y51, (.app 1928 rt2P_18)), (.sI, y6, y6), (.sI, y7, y7), (.sI, y8, y8), (.sI, y9, y9), (.sI, y10, y10), (.sI, y11, (.app 900 rt2P_17)), (.sI, y12, (.app 901 rt2P_17)), (.sB, y13, y13), (.sB, y14, y14), (.sB, y15, y15), (.sB, y16, (.app 902 rt2P_17)), (.sB, y17, y17), (.sB, y18, (.app 903 rt2P_17)), (.sI, y19, y19), (.sI, y20, y20), (.sI, y21,
 y21), (.sI, y22, y22), (.sI, y23, y23), (.sI, y25, y25), (.sB, y26, y26), (.sB, y27, y27), (.sB, y28, y28), (.sB, y29, (.app 904 rt2P_17))])))) .fail) .fail)) .fail) .fail)) .fail) .fail) (.fork (.ib .eql .u8 qY2 (.ci 8)) (.fork (.app 834 rt2P_68) (.fork (.app 1858 rt2P_69) (.fork (.app 973 rt2P_70) (.fork qY6 (.fork rt2P_80 qY0 (.fork rt2P_16 (.fork rt2P_81 (.fork (.not (.beq rt2P_22 rt2P_82)) qY0
 (.leaf (.normal, (some [qY1, (.sL, y35, y35), (.sL, y24, y24), (.sI, y30, y30), (.sI, y31, y31), (.sI, y32, y32), (.sI, y33, y33), (.sI, y34, y34), (.sI, y36, y36), (.sI, y37, y37), (.sI, y38, y38), (.sI, y39, y39), (.sB, y40, y40), (.sB, y41, y41), (.sB, y42, y42), (.sB, y43, y43), (.sB, y44, y44), (.sB, y45, y45), (.sB, y46, y46), (.sB, y47, y47), (.sB, y48, y48), (.sB, y49, (.app 1856 rt2P_69)),
 (.sI, y50, y50), (.sI, y51, (.app 1857 rt2P_69)), (.sI, y6, y6), (.sI, y7, y7), (.sI, y8, y8), (.sI, y9, y9), (.sI, y10, y10), (.sI, y11, y11), (.sI, y12, (.app 832 rt2P_68)), (.sB, y13, y13), (.sB, y14, y14), (.sB, y15, y15), (.sB, y16, y16), (.sB, y17, (.app 833 rt2P_68)), (.sB, y18, y18), (.sI, y19, y19), (.sI, y20, y20), (.sI, y21, y21), (.sI, y22, y22), (.sI, y23, y23), (.sI, y25, y25), (.sB,
 y26, y26), (.sB, y27, y27), (.sB, y28, y28), (.sB, y29, y29)])))) .fail) .fail)) .fail) .fail) .fail) .fail) (.fork (.app 771 rt2P_68) (.fork (.app 1795 rt2P_69) (.fork (.app 973 rt2P_83) (.fork qY6 (.fork rt2P_93 qY0 (.fork (.app 513 rt2P_94) (.fork (.app 1409 rt2P_95) (.fork (.not (.beq (.app 512 rt2P_94) (.app 1408 rt2P_95))) qY0 (.leaf (.normal, (some [qY1, (.sL, y35, y35), (.sL, y24, y24), (.sI,
 y30, y30), (.sI, y31, y31), (.sI, y32, y32), (.sI, y33, y33), (.sI, y34, y34), (.sI, y36, y36), (.sI, y37, y37), (.sI, y38, y38), (.sI, y39, y39), (.sB, y40, (.app 1792 rt2P_69)), (.sB, y41, y41), (.sB, y42, y42), (.sB, y43, y43), (.sB, y44, y44), (.sB, y45, (.app 1793 rt2P_69)), (.sB, y46, y46), (.sB, y47, y47), (.sB, y48, y48), (.sB, y49, y49), (.sI, y50, y50), (.sI, y51, (.app 1794 rt2P_69)), (.sI,
 y6, y6), (.sI, y7, y7), (.sI, y8, y8), (.sI, y9, y9), (.sI, y10, y10), (.sI, y11, y11), (.sI, y12, (.app 768 rt2P_68)), (.sB, y13, y13), (.sB, y14, (.app 769 rt2P_68)), (.sB, y15, y15), (.sB, y16, y16), (.sB, y17, y17), (.sB, y18, y18), (.sI, y19, y19), (.sI, y20, y20), (.sI, y21, y21), (.sI, y22, y22), (.sI, y23, y23), (.sI, y25, y25), (.sB, y26, (.app 770 rt2P_68)), (.sB, y27, y27), (.sB, y28, y28),
 (.sB, y29, y29)])))) .fail) .fail)) .fail) .fail) .fail) .fail))))))))) .fail) (.leaf ((.exit 2), (some []))))
set_option maxRecDepth 100000 in
theorem rt2P_eq : evCode Try.prog (evFun Try.prog envL 1000) (fun _ => none) 1000000 (lpBody Try.prog fPly 1) T2P (outN 3 5 T2P F2P) = rt2P := by kernel_rfl
set_option maxRecDepth 100000 in
theorem lawA_all : Tree.allT (lawP g1P g2P) = true := by kernel_rfl
set_option maxRecDepth 100000 in
theorem lawB_all : Tree.allT (lawP g1Q dead) = true := by kernel_rfl
set_option maxRecDepth 100000 in
theorem keyP1 : keyAt Try.prog fPly 4 0 = true := by kernel_rfl
set_option maxRecDepth 100000 in
theorem keyP2 : keyAt Try.prog fPly 12 1 = true := by kernel_rfl
abbrev lawCt : Tree AV :=
 .fork (.ib .gtr .i64 (.llen y0) (.ci 120)) (.leaf (.bool true)) (.fork (.ib .geq .i64 y1 (.ci 1)) (.fork (.ib .gtr .i64 y1 (.ci 7)) (.leaf (.bool true)) (.fork (.ib .geq .i64 y2 (.ci 0)) (.fork (.ib .gtr .i64 y2 (.ci 255)) (.leaf (.bool true)) (.fork (.ib .geq .i64 y3 (.ci 1)) (.fork (.ib .gtr .i64 y3 (.ci 255)) (.leaf (.bool true)) .fail) (.leaf (.bool true)))) (.leaf (.bool true)))) (.leaf (.bool true)))
set_option maxRecDepth 100000 in
theorem lawC_eq : lawP g1P dead = lawCt := by kernel_rfl
end
end Go.Proofs.Ytlbkficdelepeaa.Ab
