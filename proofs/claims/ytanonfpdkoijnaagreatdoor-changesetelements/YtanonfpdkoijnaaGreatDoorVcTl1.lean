/- A part of the proof of ChangesetElementsCardSaid: an evaluator of the program, proved sound, and what it says. -/
import Derived.Test.YtanonfpdkoijnaaGreatDoorVcTl0
import Derived.Test.YtanonfpdkoijnaaGreatDoorVcM7
set_option linter.all false
namespace Go.Proofs.YtanonfpdkoijnaaGreatDoor.Av
open Go
set_option linter.unusedVariables false
set_option linter.unusedSimpArgs false
def f1 (n : Nat) : Option Bool := if 10000 ≤ n then some true else none
theorem f1_ok (n : Nat) (r : Bool) (h : f1 n = some r) : pv PP T n 1 [] = some (.lit (.bool r)) := by
 unfold f1 at h
 split at h
 ·rename_i hn; cases h; exact pv_mono hn awake_pv1
 ·cases h
abbrev hp23 (l1085 : (List GEdit)) : Heap := [(.blk 10 (List.map c_GEdit l1085 ++ [List.replicate 10 AV.undef]))]
def f0 : Nat → (List GEdit) → (List GEdit) → Option Bool
 | 0, _, _ => none
 | n + 1, a974, a975 => (cnd (decide (((a974.length : Nat) : Int) > 300)) (bnd (f1 n ) fun v979 => (cnd (v979) (some true) (some false))) (cnd (decide (((a975.length : Nat) : Int) > 300)) (bnd (f1 n ) fun v988 => (cnd (v988) (some true) (some false))) (cnd (List.isEmpty a974) (cnd (List.isEmpty a975) (bnd (f2 n a974) fun v998 => (bnd (f3 n a974) fun v1001 => (bnd (f4 n v998 v1001) fun v1004 => (cnd (v1004) (bnd (f2 n []) fun v1008 => (bnd (f3 n []) fun v1011 => (bnd (f4 n v1008 v1011) fun v1014 => (cnd (v1014) (bnd (f5 n a974 a975) fun v1018 => (cnd (v1018) (bnd (f6 n a974 a975) fun v1022 => (cnd (v1022) (bnd (f5 n a975 a974) fun v1026 => (cnd (v1026) (bnd (f5 n a974 a975) fun v1030 => (cnd (v1030) (bnd (f1 n ) fun v1034 => (cnd (v1034) (some true) (some false))) (some false))) (bnd (f5 n a974 a975) fun v1041 => (cnd (v1041) (some false) (bnd (f1 n ) fun v1046 => (cnd (v1046) (some true) (some false))))))) (some false))) (bnd (f6 n a974 a975) fun v1053 => (cnd (v1053) (some false) (bnd (f5 n a975 a974) fun v1058 => (cnd (v1058) (bnd (f5 n a974 a975) fun v1062 => (cnd (v1062) (bnd (f1 n ) fun v1066 => (cnd (v1066) (some true) (some false))) (some false))) (bnd (f5 n a974 a975) fun v1073 => (cnd (v1073) (some false) (bnd (f1 n ) fun v1078 => (cnd (v1078) (some true) (some false))))))))))) (some false))))) (some false))))) (bnd (app ([] : (List GEdit)) a975) fun l1085 => (bnd (f2 n a974) fun v1089 => (bnd (f3 n a974) fun v1092 => (bnd (f4 n v1089 v1092) fun v1095 => (cnd (v1095) (bnd (f2 n l1085) fun v1099 => (bnd (f3 n l1085) fun v1102 => (bnd (f4 n v1099 v1102) fun v1105 => (cnd (v1105) (bnd (f5 n a974 a975) fun v1109 => (cnd (v1109) (bnd (f6 n a974 a975) fun v1113 => (cnd (v1113) (bnd (f5 n a975 a974) fun v1117 => (cnd (v1117) (bnd (f5 n a974 a975) fun v1121 => (cnd (v1121) (bnd (f1 n ) fun v1125 => (cnd (v1125) (some true) (some false))) (some false))) (bnd (f5 n a974 a975) fun v1132 => (cnd (v1132) (some false) (bnd (f1 n ) fun v1137 => (cnd (v1137) (some true) (some false))))))) (some false))) (bnd (f6 n a974 a975) fun v1144 => (cnd (v1144) (some false) (bnd (f5 n a975 a974) fun v1149 => (cnd (v1149) (bnd (f5 n a974 a975) fun v1153 => (cnd (v1153) (bnd (f1 n ) fun v1157 => (cnd (v1157) (some true) (some false))) (some false))) (bnd (f5 n a974 a975) fun v1164 => (cnd (v1164) (some false) (bnd (f1 n ) fun v1169 => (cnd (v1169) (some true) (some false))))))))))) (some false))))) (some false))))))) (bnd (app ([] : (List GEdit)) a974) fun l1176 => (bnd (app l1176 a975) fun l1179 => (bnd (f2 n a974) fun v1183 => (bnd (f3 n a974) fun v1186 => (bnd (f4 n v1183 v1186) fun v1189 => (cnd (v1189) (bnd (f2 n l1179) fun v1193 => (bnd (f3 n l1179) fun v1196 => (bnd (f4 n v1193 v1196) fun v1199 => (cnd (v1199) (bnd (f5 n a974 a975) fun v1203 => (cnd (v1203) (bnd (f6 n a974 a975) fun v1207 => (cnd (v1207) (bnd (f5 n a975 a974) fun v1211 => (cnd (v1211) (bnd (f5 n a974 a975) fun v1215 => (cnd (v1215) (bnd (f1 n ) fun v1219 => (cnd (v1219) (some true) (some false))) (some false))) (bnd (f5 n a974 a975) fun v1226 => (cnd (v1226) (some false) (bnd (f1 n ) fun v1231 => (cnd (v1231) (some true) (some false))))))) (some false))) (bnd (f6 n a974 a975) fun v1238 => (cnd (v1238) (some false) (bnd (f5 n a975 a974) fun v1243 => (cnd (v1243) (bnd (f5 n a974 a975) fun v1247 => (cnd (v1247) (bnd (f1 n ) fun v1251 => (cnd (v1251) (some true) (some false))) (some false))) (bnd (f5 n a974 a975) fun v1258 => (cnd (v1258) (some false) (bnd (f1 n ) fun v1263 => (cnd (v1263) (some true) (some false))))))))))) (some false))))) (some false))))))))))
theorem f0_ok (n : Nat) (a974 : (List GEdit)) (a975 : (List GEdit)) (r : Bool) (h : f0 n a974 a975 = some r) : pv PP T n 0 [(.sl false (List.map c_GEdit a974)), (.sl false (List.map c_GEdit a975))] = some (bv r) := by
 cases n with
 | zero => cases h
 | succ n =>
  rw [f0] at h
  have g976 := len_sl (P := PP) (cf := evF PP T n) (fl := 0) (H := []) (f := false) (c := c_GEdit) (l := a974)
  rcases cnd_or h with ⟨h977, h⟩ | ⟨h977, h⟩
  ·have g978 := bool_eq h977
   obtain ⟨v979, e980, h⟩ := bnd_some h
   rcases cnd_or h with ⟨h981, h⟩ | ⟨h981, h⟩
   ·have g982 := by have q := f1_ok n  _ e980; rw [h981] at q; exact q
    obtain rfl := si h
    exact pz F0 ⟨[(7, (iv ((a974.length : Nat) : Int)), none), tt 8, tt 14], []⟩ (W2 g982 g978 <| Z g976 Z0)
   have g983 := by have q := f1_ok n  _ e980; rw [h981] at q; exact q
   obtain rfl := si h
   exact pz F0 ⟨[(7, (iv ((a974.length : Nat) : Int)), none), tt 8, ff 14], []⟩ (W2 g983 g978 <| Z g976 Z0)
  have g984 := bool_eq h977
  have g985 := len_sl (P := PP) (cf := evF PP T n) (fl := 0) (H := []) (f := false) (c := c_GEdit) (l := a975)
  rcases cnd_or h with ⟨h986, h⟩ | ⟨h986, h⟩
  ·have g987 := bool_eq h986
   obtain ⟨v988, e989, h⟩ := bnd_some h
   rcases cnd_or h with ⟨h990, h⟩ | ⟨h990, h⟩
   ·have g991 := by have q := f1_ok n  _ e989; rw [h990] at q; exact q
    obtain rfl := si h
    exact pz F0 ⟨[(7, (iv ((a974.length : Nat) : Int)), none), ff 8, (11, (iv ((a975.length : Nat) : Int)), none), tt 12, tt 14], []⟩ (W4 g991 g987 g985 g984 <| Z g976 Z0)
   have g992 := by have q := f1_ok n  _ e989; rw [h990] at q; exact q
   obtain rfl := si h
   exact pz F0 ⟨[(7, (iv ((a974.length : Nat) : Int)), none), ff 8, (11, (iv ((a975.length : Nat) : Int)), none), tt 12, ff 14], []⟩ (W4 g992 g987 g985 g984 <| Z g976 Z0)
  have g993 := bool_eq h986
  rcases cnd_or h with ⟨h994, h⟩ | ⟨h994, h⟩
  rotate_left
  ·obtain ⟨l1176, e1177, h⟩ := bnd_some h
   have g1178 := app_n (fl := 0) (H := []) (s := 10) (bytes := 120) (c := c_GEdit) (x := (.sl true [])) e1177 h994 c_GEdit_len (by omega) (by omega) (.inr rfl)
   obtain ⟨l1179, e1180, h⟩ := bnd_some h
   have g1181 := app_ms (fl := 0) (H := [(.blk 10 (List.map c_GEdit l1176))]) (id := 0) (s := 10) (bytes := 120) (c := c_GEdit) (l := l1176) e1180 rfl c_GEdit_len (by omega) (by omega) (by omega)
   have g1182 := frz_ms (P := PP) (cf := evF PP T n) (fl := 0) (H := [(.blk 10 (List.map c_GEdit l1179))]) (id := 0) (s := 10) (c := c_GEdit) (l := l1179) rfl (by omega) c_GEdit_toP
   obtain ⟨v1183, e1184, h⟩ := bnd_some h
   have g1185 := f2_ok n a974 _ e1184
   obtain ⟨v1186, e1187, h⟩ := bnd_some h
   have g1188 := f3_ok n a974 _ e1187
   obtain ⟨v1189, e1190, h⟩ := bnd_some h
   rcases cnd_or h with ⟨h1191, h⟩ | ⟨h1191, h⟩
   rotate_left
   ·have g1269 := by have q := f4_ok n v1183 v1186 _ e1190; rw [h1191] at q; exact q
    obtain rfl := si h
    exact pz F0 ⟨[(7, (iv ((a974.length : Nat) : Int)), none), ff 8, (11, (iv ((a975.length : Nat) : Int)), none), ff 12, (17, (.ms 0 l1176.length 0 l1176.length), (some [(.blk 10 (List.map c_GEdit l1176))])), (19, (.ms 0 l1179.length 0 l1179.length), (some [(.blk 10 (List.map c_GEdit l1179))])), (100005, (.sl false (List.map c_GEdit l1179)), (some (hp23 l1179))), (21, (.sl false (List.map c_GConflict v1183)), none), (23, (.sl false (List.map c_GConflict v1186)), none), ff 24], []⟩ (W8 g1269 g1188 g1185 g1182 g1181 g1178 g993 g985 <| W2 g984 g976 Z0)
   have g1192 := by have q := f4_ok n v1183 v1186 _ e1190; rw [h1191] at q; exact q
   obtain ⟨v1193, e1194, h⟩ := bnd_some h
   have g1195 := f2_ok n l1179 _ e1194
   obtain ⟨v1196, e1197, h⟩ := bnd_some h
   have g1198 := f3_ok n l1179 _ e1197
   obtain ⟨v1199, e1200, h⟩ := bnd_some h
   rcases cnd_or h with ⟨h1201, h⟩ | ⟨h1201, h⟩
   rotate_left
   ·have g1268 := by have q := f4_ok n v1193 v1196 _ e1200; rw [h1201] at q; exact q
    obtain rfl := si h
    exact pz F0 ⟨[(7, (iv ((a974.length : Nat) : Int)), none), ff 8, (11, (iv ((a975.length : Nat) : Int)), none), ff 12, (17, (.ms 0 l1176.length 0 l1176.length), (some [(.blk 10 (List.map c_GEdit l1176))])), (19, (.ms 0 l1179.length 0 l1179.length), (some [(.blk 10 (List.map c_GEdit l1179))])), (100005, (.sl false (List.map c_GEdit l1179)), (some (hp23 l1179))), (21, (.sl false (List.map c_GConflict v1183)), none), (23, (.sl false (List.map c_GConflict v1186)), none), tt 24, (27, (.sl false (List.map c_GConflict v1193)), none), (29, (.sl false (List.map c_GConflict v1196)), none), ff 30], []⟩ (W8 g1268 g1198 g1195 g1192 g1188 g1185 g1182 g1181 <| W4 g1178 g993 g985 g984 <| Z g976 Z0)
   have g1202 := by have q := f4_ok n v1193 v1196 _ e1200; rw [h1201] at q; exact q
   obtain ⟨v1203, e1204, h⟩ := bnd_some h
   rcases cnd_or h with ⟨h1205, h⟩ | ⟨h1205, h⟩
   ·have g1206 := by have q := f5_ok n a974 a975 _ e1204; rw [h1205] at q; exact q
    obtain ⟨v1207, e1208, h⟩ := bnd_some h
    rcases cnd_or h with ⟨h1209, h⟩ | ⟨h1209, h⟩
    rotate_left
    ·have g1236 := by have q := f6_ok n a974 a975 _ e1208; rw [h1209] at q; exact q
     obtain rfl := si h
     exact pz F0 ⟨[(7, (iv ((a974.length : Nat) : Int)), none), ff 8, (11, (iv ((a975.length : Nat) : Int)), none), ff 12, (17, (.ms 0 l1176.length 0 l1176.length), (some [(.blk 10 (List.map c_GEdit l1176))])), (19, (.ms 0 l1179.length 0 l1179.length), (some [(.blk 10 (List.map c_GEdit l1179))])), (100005, (.sl false (List.map c_GEdit l1179)), (some (hp23 l1179))), (21, (.sl false (List.map c_GConflict v1183)), none), (23, (.sl false (List.map c_GConflict v1186)), none), tt 24, (27, (.sl false (List.map c_GConflict v1193)), none), (29, (.sl false (List.map c_GConflict v1196)), none), tt 30, tt 35, ff 38], []⟩ (W8 g1236 g1206 g1202 g1198 g1195 g1192 g1188 g1185 <| W4 g1182 g1181 g1178 g993 <| W2 g985 g984 <| Z g976 Z0)
    have g1210 := by have q := f6_ok n a974 a975 _ e1208; rw [h1209] at q; exact q
    obtain ⟨v1211, e1212, h⟩ := bnd_some h
    rcases cnd_or h with ⟨h1213, h⟩ | ⟨h1213, h⟩
    ·have g1214 := by have q := f5_ok n a975 a974 _ e1212; rw [h1213] at q; exact q
     obtain ⟨v1215, e1216, h⟩ := bnd_some h
     rcases cnd_or h with ⟨h1217, h⟩ | ⟨h1217, h⟩
     rotate_left
     ·have g1224 := by have q := f5_ok n a974 a975 _ e1216; rw [h1217] at q; exact q
      obtain rfl := si h
      exact pz F0 ⟨[(7, (iv ((a974.length : Nat) : Int)), none), ff 8, (11, (iv ((a975.length : Nat) : Int)), none), ff 12, (17, (.ms 0 l1176.length 0 l1176.length), (some [(.blk 10 (List.map c_GEdit l1176))])), (19, (.ms 0 l1179.length 0 l1179.length), (some [(.blk 10 (List.map c_GEdit l1179))])), (100005, (.sl false (List.map c_GEdit l1179)), (some (hp23 l1179))), (21, (.sl false (List.map c_GConflict v1183)), none), (23, (.sl false (List.map c_GConflict v1186)), none), tt 24, (27, (.sl false (List.map c_GConflict v1193)), none), (29, (.sl false (List.map c_GConflict v1196)), none), tt 30, tt 35, tt 38, tt 44, ff 47], []⟩ (W8 g1224 g1214 g1210 g1206 g1202 g1198 g1195 g1192 <| W8 g1188 g1185 g1182 g1181 g1178 g993 g985 g984 <| Z g976 Z0)
     have g1218 := by have q := f5_ok n a974 a975 _ e1216; rw [h1217] at q; exact q
     obtain ⟨v1219, e1220, h⟩ := bnd_some h
     rcases cnd_or h with ⟨h1221, h⟩ | ⟨h1221, h⟩
     ·have g1222 := by have q := f1_ok n  _ e1220; rw [h1221] at q; exact q
      obtain rfl := si h
      exact pz F0 ⟨[(7, (iv ((a974.length : Nat) : Int)), none), ff 8, (11, (iv ((a975.length : Nat) : Int)), none), ff 12, (17, (.ms 0 l1176.length 0 l1176.length), (some [(.blk 10 (List.map c_GEdit l1176))])), (19, (.ms 0 l1179.length 0 l1179.length), (some [(.blk 10 (List.map c_GEdit l1179))])), (100005, (.sl false (List.map c_GEdit l1179)), (some (hp23 l1179))), (21, (.sl false (List.map c_GConflict v1183)), none), (23, (.sl false (List.map c_GConflict v1186)), none), tt 24, (27, (.sl false (List.map c_GConflict v1193)), none), (29, (.sl false (List.map c_GConflict v1196)), none), tt 30, tt 35, tt 38, tt 44, tt 47, tt 51], []⟩ (W8 g1222 g1218 g1214 g1210 g1206 g1202 g1198 g1195 <| W8 g1192 g1188 g1185 g1182 g1181 g1178 g993 g985 <| W2 g984 g976 Z0)
     have g1223 := by have q := f1_ok n  _ e1220; rw [h1221] at q; exact q
     obtain rfl := si h
     exact pz F0 ⟨[(7, (iv ((a974.length : Nat) : Int)), none), ff 8, (11, (iv ((a975.length : Nat) : Int)), none), ff 12, (17, (.ms 0 l1176.length 0 l1176.length), (some [(.blk 10 (List.map c_GEdit l1176))])), (19, (.ms 0 l1179.length 0 l1179.length), (some [(.blk 10 (List.map c_GEdit l1179))])), (100005, (.sl false (List.map c_GEdit l1179)), (some (hp23 l1179))), (21, (.sl false (List.map c_GConflict v1183)), none), (23, (.sl false (List.map c_GConflict v1186)), none), tt 24, (27, (.sl false (List.map c_GConflict v1193)), none), (29, (.sl false (List.map c_GConflict v1196)), none), tt 30, tt 35, tt 38, tt 44, tt 47, ff 51], []⟩ (W8 g1223 g1218 g1214 g1210 g1206 g1202 g1198 g1195 <| W8 g1192 g1188 g1185 g1182 g1181 g1178 g993 g985 <| W2 g984 g976 Z0)
    have g1225 := by have q := f5_ok n a975 a974 _ e1212; rw [h1213] at q; exact q
    obtain ⟨v1226, e1227, h⟩ := bnd_some h
    rcases cnd_or h with ⟨h1228, h⟩ | ⟨h1228, h⟩
    ·have g1229 := by have q := f5_ok n a974 a975 _ e1227; rw [h1228] at q; exact q
     obtain rfl := si h
     exact pz F0 ⟨[(7, (iv ((a974.length : Nat) : Int)), none), ff 8, (11, (iv ((a975.length : Nat) : Int)), none), ff 12, (17, (.ms 0 l1176.length 0 l1176.length), (some [(.blk 10 (List.map c_GEdit l1176))])), (19, (.ms 0 l1179.length 0 l1179.length), (some [(.blk 10 (List.map c_GEdit l1179))])), (100005, (.sl false (List.map c_GEdit l1179)), (some (hp23 l1179))), (21, (.sl false (List.map c_GConflict v1183)), none), (23, (.sl false (List.map c_GConflict v1186)), none), tt 24, (27, (.sl false (List.map c_GConflict v1193)), none), (29, (.sl false (List.map c_GConflict v1196)), none), tt 30, tt 35, tt 38, ff 44, tt 47], []⟩ (W8 g1229 g1225 g1210 g1206 g1202 g1198 g1195 g1192 <| W8 g1188 g1185 g1182 g1181 g1178 g993 g985 g984 <| Z g976 Z0)
    have g1230 := by have q := f5_ok n a974 a975 _ e1227; rw [h1228] at q; exact q
    obtain ⟨v1231, e1232, h⟩ := bnd_some h
    rcases cnd_or h with ⟨h1233, h⟩ | ⟨h1233, h⟩
    ·have g1234 := by have q := f1_ok n  _ e1232; rw [h1233] at q; exact q
     obtain rfl := si h
     exact pz F0 ⟨[(7, (iv ((a974.length : Nat) : Int)), none), ff 8, (11, (iv ((a975.length : Nat) : Int)), none), ff 12, (17, (.ms 0 l1176.length 0 l1176.length), (some [(.blk 10 (List.map c_GEdit l1176))])), (19, (.ms 0 l1179.length 0 l1179.length), (some [(.blk 10 (List.map c_GEdit l1179))])), (100005, (.sl false (List.map c_GEdit l1179)), (some (hp23 l1179))), (21, (.sl false (List.map c_GConflict v1183)), none), (23, (.sl false (List.map c_GConflict v1186)), none), tt 24, (27, (.sl false (List.map c_GConflict v1193)), none), (29, (.sl false (List.map c_GConflict v1196)), none), tt 30, tt 35, tt 38, ff 44, ff 47, tt 51], []⟩ (W8 g1234 g1230 g1225 g1210 g1206 g1202 g1198 g1195 <| W8 g1192 g1188 g1185 g1182 g1181 g1178 g993 g985 <| W2 g984 g976 Z0)
    have g1235 := by have q := f1_ok n  _ e1232; rw [h1233] at q; exact q
    obtain rfl := si h
    exact pz F0 ⟨[(7, (iv ((a974.length : Nat) : Int)), none), ff 8, (11, (iv ((a975.length : Nat) : Int)), none), ff 12, (17, (.ms 0 l1176.length 0 l1176.length), (some [(.blk 10 (List.map c_GEdit l1176))])), (19, (.ms 0 l1179.length 0 l1179.length), (some [(.blk 10 (List.map c_GEdit l1179))])), (100005, (.sl false (List.map c_GEdit l1179)), (some (hp23 l1179))), (21, (.sl false (List.map c_GConflict v1183)), none), (23, (.sl false (List.map c_GConflict v1186)), none), tt 24, (27, (.sl false (List.map c_GConflict v1193)), none), (29, (.sl false (List.map c_GConflict v1196)), none), tt 30, tt 35, tt 38, ff 44, ff 47, ff 51], []⟩ (W8 g1235 g1230 g1225 g1210 g1206 g1202 g1198 g1195 <| W8 g1192 g1188 g1185 g1182 g1181 g1178 g993 g985 <| W2 g984 g976 Z0)
   have g1237 := by have q := f5_ok n a974 a975 _ e1204; rw [h1205] at q; exact q
   obtain ⟨v1238, e1239, h⟩ := bnd_some h
   rcases cnd_or h with ⟨h1240, h⟩ | ⟨h1240, h⟩
   ·have g1241 := by have q := f6_ok n a974 a975 _ e1239; rw [h1240] at q; exact q
    obtain rfl := si h
    exact pz F0 ⟨[(7, (iv ((a974.length : Nat) : Int)), none), ff 8, (11, (iv ((a975.length : Nat) : Int)), none), ff 12, (17, (.ms 0 l1176.length 0 l1176.length), (some [(.blk 10 (List.map c_GEdit l1176))])), (19, (.ms 0 l1179.length 0 l1179.length), (some [(.blk 10 (List.map c_GEdit l1179))])), (100005, (.sl false (List.map c_GEdit l1179)), (some (hp23 l1179))), (21, (.sl false (List.map c_GConflict v1183)), none), (23, (.sl false (List.map c_GConflict v1186)), none), tt 24, (27, (.sl false (List.map c_GConflict v1193)), none), (29, (.sl false (List.map c_GConflict v1196)), none), tt 30, ff 35, tt 38], []⟩ (W8 g1241 g1237 g1202 g1198 g1195 g1192 g1188 g1185 <| W4 g1182 g1181 g1178 g993 <| W2 g985 g984 <| Z g976 Z0)
   have g1242 := by have q := f6_ok n a974 a975 _ e1239; rw [h1240] at q; exact q
   obtain ⟨v1243, e1244, h⟩ := bnd_some h
   rcases cnd_or h with ⟨h1245, h⟩ | ⟨h1245, h⟩
   ·have g1246 := by have q := f5_ok n a975 a974 _ e1244; rw [h1245] at q; exact q
    obtain ⟨v1247, e1248, h⟩ := bnd_some h
    rcases cnd_or h with ⟨h1249, h⟩ | ⟨h1249, h⟩
    rotate_left
    ·have g1256 := by have q := f5_ok n a974 a975 _ e1248; rw [h1249] at q; exact q
     obtain rfl := si h
     exact pz F0 ⟨[(7, (iv ((a974.length : Nat) : Int)), none), ff 8, (11, (iv ((a975.length : Nat) : Int)), none), ff 12, (17, (.ms 0 l1176.length 0 l1176.length), (some [(.blk 10 (List.map c_GEdit l1176))])), (19, (.ms 0 l1179.length 0 l1179.length), (some [(.blk 10 (List.map c_GEdit l1179))])), (100005, (.sl false (List.map c_GEdit l1179)), (some (hp23 l1179))), (21, (.sl false (List.map c_GConflict v1183)), none), (23, (.sl false (List.map c_GConflict v1186)), none), tt 24, (27, (.sl false (List.map c_GConflict v1193)), none), (29, (.sl false (List.map c_GConflict v1196)), none), tt 30, ff 35, ff 38, tt 44, ff 47], []⟩ (W8 g1256 g1246 g1242 g1237 g1202 g1198 g1195 g1192 <| W8 g1188 g1185 g1182 g1181 g1178 g993 g985 g984 <| Z g976 Z0)
    have g1250 := by have q := f5_ok n a974 a975 _ e1248; rw [h1249] at q; exact q
    obtain ⟨v1251, e1252, h⟩ := bnd_some h
    rcases cnd_or h with ⟨h1253, h⟩ | ⟨h1253, h⟩
    ·have g1254 := by have q := f1_ok n  _ e1252; rw [h1253] at q; exact q
     obtain rfl := si h
     exact pz F0 ⟨[(7, (iv ((a974.length : Nat) : Int)), none), ff 8, (11, (iv ((a975.length : Nat) : Int)), none), ff 12, (17, (.ms 0 l1176.length 0 l1176.length), (some [(.blk 10 (List.map c_GEdit l1176))])), (19, (.ms 0 l1179.length 0 l1179.length), (some [(.blk 10 (List.map c_GEdit l1179))])), (100005, (.sl false (List.map c_GEdit l1179)), (some (hp23 l1179))), (21, (.sl false (List.map c_GConflict v1183)), none), (23, (.sl false (List.map c_GConflict v1186)), none), tt 24, (27, (.sl false (List.map c_GConflict v1193)), none), (29, (.sl false (List.map c_GConflict v1196)), none), tt 30, ff 35, ff 38, tt 44, tt 47, tt 51], []⟩ (W8 g1254 g1250 g1246 g1242 g1237 g1202 g1198 g1195 <| W8 g1192 g1188 g1185 g1182 g1181 g1178 g993 g985 <| W2 g984 g976 Z0)
    have g1255 := by have q := f1_ok n  _ e1252; rw [h1253] at q; exact q
    obtain rfl := si h
    exact pz F0 ⟨[(7, (iv ((a974.length : Nat) : Int)), none), ff 8, (11, (iv ((a975.length : Nat) : Int)), none), ff 12, (17, (.ms 0 l1176.length 0 l1176.length), (some [(.blk 10 (List.map c_GEdit l1176))])), (19, (.ms 0 l1179.length 0 l1179.length), (some [(.blk 10 (List.map c_GEdit l1179))])), (100005, (.sl false (List.map c_GEdit l1179)), (some (hp23 l1179))), (21, (.sl false (List.map c_GConflict v1183)), none), (23, (.sl false (List.map c_GConflict v1186)), none), tt 24, (27, (.sl false (List.map c_GConflict v1193)), none), (29, (.sl false (List.map c_GConflict v1196)), none), tt 30, ff 35, ff 38, tt 44, tt 47, ff 51], []⟩ (W8 g1255 g1250 g1246 g1242 g1237 g1202 g1198 g1195 <| W8 g1192 g1188 g1185 g1182 g1181 g1178 g993 g985 <| W2 g984 g976 Z0)
   have g1257 := by have q := f5_ok n a975 a974 _ e1244; rw [h1245] at q; exact q
   obtain ⟨v1258, e1259, h⟩ := bnd_some h
   rcases cnd_or h with ⟨h1260, h⟩ | ⟨h1260, h⟩
   ·have g1261 := by have q := f5_ok n a974 a975 _ e1259; rw [h1260] at q; exact q
    obtain rfl := si h
    exact pz F0 ⟨[(7, (iv ((a974.length : Nat) : Int)), none), ff 8, (11, (iv ((a975.length : Nat) : Int)), none), ff 12, (17, (.ms 0 l1176.length 0 l1176.length), (some [(.blk 10 (List.map c_GEdit l1176))])), (19, (.ms 0 l1179.length 0 l1179.length), (some [(.blk 10 (List.map c_GEdit l1179))])), (100005, (.sl false (List.map c_GEdit l1179)), (some (hp23 l1179))), (21, (.sl false (List.map c_GConflict v1183)), none), (23, (.sl false (List.map c_GConflict v1186)), none), tt 24, (27, (.sl false (List.map c_GConflict v1193)), none), (29, (.sl false (List.map c_GConflict v1196)), none), tt 30, ff 35, ff 38, ff 44, tt 47], []⟩ (W8 g1261 g1257 g1242 g1237 g1202 g1198 g1195 g1192 <| W8 g1188 g1185 g1182 g1181 g1178 g993 g985 g984 <| Z g976 Z0)
   have g1262 := by have q := f5_ok n a974 a975 _ e1259; rw [h1260] at q; exact q
   obtain ⟨v1263, e1264, h⟩ := bnd_some h
   rcases cnd_or h with ⟨h1265, h⟩ | ⟨h1265, h⟩
   ·have g1266 := by have q := f1_ok n  _ e1264; rw [h1265] at q; exact q
    obtain rfl := si h
    exact pz F0 ⟨[(7, (iv ((a974.length : Nat) : Int)), none), ff 8, (11, (iv ((a975.length : Nat) : Int)), none), ff 12, (17, (.ms 0 l1176.length 0 l1176.length), (some [(.blk 10 (List.map c_GEdit l1176))])), (19, (.ms 0 l1179.length 0 l1179.length), (some [(.blk 10 (List.map c_GEdit l1179))])), (100005, (.sl false (List.map c_GEdit l1179)), (some (hp23 l1179))), (21, (.sl false (List.map c_GConflict v1183)), none), (23, (.sl false (List.map c_GConflict v1186)), none), tt 24, (27, (.sl false (List.map c_GConflict v1193)), none), (29, (.sl false (List.map c_GConflict v1196)), none), tt 30, ff 35, ff 38, ff 44, ff 47, tt 51], []⟩ (W8 g1266 g1262 g1257 g1242 g1237 g1202 g1198 g1195 <| W8 g1192 g1188 g1185 g1182 g1181 g1178 g993 g985 <| W2 g984 g976 Z0)
   have g1267 := by have q := f1_ok n  _ e1264; rw [h1265] at q; exact q
   obtain rfl := si h
   exact pz F0 ⟨[(7, (iv ((a974.length : Nat) : Int)), none), ff 8, (11, (iv ((a975.length : Nat) : Int)), none), ff 12, (17, (.ms 0 l1176.length 0 l1176.length), (some [(.blk 10 (List.map c_GEdit l1176))])), (19, (.ms 0 l1179.length 0 l1179.length), (some [(.blk 10 (List.map c_GEdit l1179))])), (100005, (.sl false (List.map c_GEdit l1179)), (some (hp23 l1179))), (21, (.sl false (List.map c_GConflict v1183)), none), (23, (.sl false (List.map c_GConflict v1186)), none), tt 24, (27, (.sl false (List.map c_GConflict v1193)), none), (29, (.sl false (List.map c_GConflict v1196)), none), tt 30, ff 35, ff 38, ff 44, ff 47, ff 51], []⟩ (W8 g1267 g1262 g1257 g1242 g1237 g1202 g1198 g1195 <| W8 g1192 g1188 g1185 g1182 g1181 g1178 g993 g985 <| W2 g984 g976 Z0)
  have g995 := app_e (fl := 0) (H := []) (s := 10) (bytes := 120) (c := c_GEdit) (x := (.sl true [])) h994 c_GEdit_len (by omega) (.inr rfl)
  rcases cnd_or h with ⟨h996, h⟩ | ⟨h996, h⟩
  ·have g997 := app_e (fl := 0) (H := []) (s := 10) (bytes := 120) (c := c_GEdit) (x := (.sl true [])) h996 c_GEdit_len (by omega) (.inr rfl)
   obtain ⟨v998, e999, h⟩ := bnd_some h
   have g1000 := f2_ok n a974 _ e999
   obtain ⟨v1001, e1002, h⟩ := bnd_some h
   have g1003 := f3_ok n a974 _ e1002
   obtain ⟨v1004, e1005, h⟩ := bnd_some h
   rcases cnd_or h with ⟨h1006, h⟩ | ⟨h1006, h⟩
   rotate_left
   ·have g1084 := by have q := f4_ok n v998 v1001 _ e1005; rw [h1006] at q; exact q
    obtain rfl := si h
    exact pz F0 ⟨[(7, (iv ((a974.length : Nat) : Int)), none), ff 8, (11, (iv ((a975.length : Nat) : Int)), none), ff 12, (17, (.sl true []), none), (19, (.sl true []), none), (21, (.sl false (List.map c_GConflict v998)), none), (23, (.sl false (List.map c_GConflict v1001)), none), ff 24], []⟩ (W8 g1084 g1003 g1000 g997 g995 g993 g985 g984 <| Z g976 Z0)
   have g1007 := by have q := f4_ok n v998 v1001 _ e1005; rw [h1006] at q; exact q
   obtain ⟨v1008, e1009, h⟩ := bnd_some h
   have g1010 := f2_ok n [] _ e1009
   obtain ⟨v1011, e1012, h⟩ := bnd_some h
   have g1013 := f3_ok n [] _ e1012
   obtain ⟨v1014, e1015, h⟩ := bnd_some h
   rcases cnd_or h with ⟨h1016, h⟩ | ⟨h1016, h⟩
   rotate_left
   ·have g1083 := by have q := f4_ok n v1008 v1011 _ e1015; rw [h1016] at q; exact q
    obtain rfl := si h
    exact pz F0 ⟨[(7, (iv ((a974.length : Nat) : Int)), none), ff 8, (11, (iv ((a975.length : Nat) : Int)), none), ff 12, (17, (.sl true []), none), (19, (.sl true []), none), (21, (.sl false (List.map c_GConflict v998)), none), (23, (.sl false (List.map c_GConflict v1001)), none), tt 24, (27, (.sl false (List.map c_GConflict v1008)), none), (29, (.sl false (List.map c_GConflict v1011)), none), ff 30], []⟩ (W8 g1083 g1013 g1010 g1007 g1003 g1000 g997 g995 <| W4 g993 g985 g984 g976 Z0)
   have g1017 := by have q := f4_ok n v1008 v1011 _ e1015; rw [h1016] at q; exact q
   obtain ⟨v1018, e1019, h⟩ := bnd_some h
   rcases cnd_or h with ⟨h1020, h⟩ | ⟨h1020, h⟩
   ·have g1021 := by have q := f5_ok n a974 a975 _ e1019; rw [h1020] at q; exact q
    obtain ⟨v1022, e1023, h⟩ := bnd_some h
    rcases cnd_or h with ⟨h1024, h⟩ | ⟨h1024, h⟩
    rotate_left
    ·have g1051 := by have q := f6_ok n a974 a975 _ e1023; rw [h1024] at q; exact q
     obtain rfl := si h
     exact pz F0 ⟨[(7, (iv ((a974.length : Nat) : Int)), none), ff 8, (11, (iv ((a975.length : Nat) : Int)), none), ff 12, (17, (.sl true []), none), (19, (.sl true []), none), (21, (.sl false (List.map c_GConflict v998)), none), (23, (.sl false (List.map c_GConflict v1001)), none), tt 24, (27, (.sl false (List.map c_GConflict v1008)), none), (29, (.sl false (List.map c_GConflict v1011)), none), tt 30, tt 35, ff 38], []⟩ (W8 g1051 g1021 g1017 g1013 g1010 g1007 g1003 g1000 <| W4 g997 g995 g993 g985 <| W2 g984 g976 Z0)
    have g1025 := by have q := f6_ok n a974 a975 _ e1023; rw [h1024] at q; exact q
    obtain ⟨v1026, e1027, h⟩ := bnd_some h
    rcases cnd_or h with ⟨h1028, h⟩ | ⟨h1028, h⟩
    ·have g1029 := by have q := f5_ok n a975 a974 _ e1027; rw [h1028] at q; exact q
     obtain ⟨v1030, e1031, h⟩ := bnd_some h
     rcases cnd_or h with ⟨h1032, h⟩ | ⟨h1032, h⟩
     rotate_left
     ·have g1039 := by have q := f5_ok n a974 a975 _ e1031; rw [h1032] at q; exact q
      obtain rfl := si h
      exact pz F0 ⟨[(7, (iv ((a974.length : Nat) : Int)), none), ff 8, (11, (iv ((a975.length : Nat) : Int)), none), ff 12, (17, (.sl true []), none), (19, (.sl true []), none), (21, (.sl false (List.map c_GConflict v998)), none), (23, (.sl false (List.map c_GConflict v1001)), none), tt 24, (27, (.sl false (List.map c_GConflict v1008)), none), (29, (.sl false (List.map c_GConflict v1011)), none), tt 30, tt 35, tt 38, tt 44, ff 47], []⟩ (W8 g1039 g1029 g1025 g1021 g1017 g1013 g1010 g1007 <| W8 g1003 g1000 g997 g995 g993 g985 g984 g976 Z0)
     have g1033 := by have q := f5_ok n a974 a975 _ e1031; rw [h1032] at q; exact q
     obtain ⟨v1034, e1035, h⟩ := bnd_some h
     rcases cnd_or h with ⟨h1036, h⟩ | ⟨h1036, h⟩
     ·have g1037 := by have q := f1_ok n  _ e1035; rw [h1036] at q; exact q
      obtain rfl := si h
      exact pz F0 ⟨[(7, (iv ((a974.length : Nat) : Int)), none), ff 8, (11, (iv ((a975.length : Nat) : Int)), none), ff 12, (17, (.sl true []), none), (19, (.sl true []), none), (21, (.sl false (List.map c_GConflict v998)), none), (23, (.sl false (List.map c_GConflict v1001)), none), tt 24, (27, (.sl false (List.map c_GConflict v1008)), none), (29, (.sl false (List.map c_GConflict v1011)), none), tt 30, tt 35, tt 38, tt 44, tt 47, tt 51], []⟩ (W8 g1037 g1033 g1029 g1025 g1021 g1017 g1013 g1010 <| W8 g1007 g1003 g1000 g997 g995 g993 g985 g984 <| Z g976 Z0)
     have g1038 := by have q := f1_ok n  _ e1035; rw [h1036] at q; exact q
     obtain rfl := si h
     exact pz F0 ⟨[(7, (iv ((a974.length : Nat) : Int)), none), ff 8, (11, (iv ((a975.length : Nat) : Int)), none), ff 12, (17, (.sl true []), none), (19, (.sl true []), none), (21, (.sl false (List.map c_GConflict v998)), none), (23, (.sl false (List.map c_GConflict v1001)), none), tt 24, (27, (.sl false (List.map c_GConflict v1008)), none), (29, (.sl false (List.map c_GConflict v1011)), none), tt 30, tt 35, tt 38, tt 44, tt 47, ff 51], []⟩ (W8 g1038 g1033 g1029 g1025 g1021 g1017 g1013 g1010 <| W8 g1007 g1003 g1000 g997 g995 g993 g985 g984 <| Z g976 Z0)
    have g1040 := by have q := f5_ok n a975 a974 _ e1027; rw [h1028] at q; exact q
    obtain ⟨v1041, e1042, h⟩ := bnd_some h
    rcases cnd_or h with ⟨h1043, h⟩ | ⟨h1043, h⟩
    ·have g1044 := by have q := f5_ok n a974 a975 _ e1042; rw [h1043] at q; exact q
     obtain rfl := si h
     exact pz F0 ⟨[(7, (iv ((a974.length : Nat) : Int)), none), ff 8, (11, (iv ((a975.length : Nat) : Int)), none), ff 12, (17, (.sl true []), none), (19, (.sl true []), none), (21, (.sl false (List.map c_GConflict v998)), none), (23, (.sl false (List.map c_GConflict v1001)), none), tt 24, (27, (.sl false (List.map c_GConflict v1008)), none), (29, (.sl false (List.map c_GConflict v1011)), none), tt 30, tt 35, tt 38, ff 44, tt 47], []⟩ (W8 g1044 g1040 g1025 g1021 g1017 g1013 g1010 g1007 <| W8 g1003 g1000 g997 g995 g993 g985 g984 g976 Z0)
    have g1045 := by have q := f5_ok n a974 a975 _ e1042; rw [h1043] at q; exact q
    obtain ⟨v1046, e1047, h⟩ := bnd_some h
    rcases cnd_or h with ⟨h1048, h⟩ | ⟨h1048, h⟩
    ·have g1049 := by have q := f1_ok n  _ e1047; rw [h1048] at q; exact q
     obtain rfl := si h
     exact pz F0 ⟨[(7, (iv ((a974.length : Nat) : Int)), none), ff 8, (11, (iv ((a975.length : Nat) : Int)), none), ff 12, (17, (.sl true []), none), (19, (.sl true []), none), (21, (.sl false (List.map c_GConflict v998)), none), (23, (.sl false (List.map c_GConflict v1001)), none), tt 24, (27, (.sl false (List.map c_GConflict v1008)), none), (29, (.sl false (List.map c_GConflict v1011)), none), tt 30, tt 35, tt 38, ff 44, ff 47, tt 51], []⟩ (W8 g1049 g1045 g1040 g1025 g1021 g1017 g1013 g1010 <| W8 g1007 g1003 g1000 g997 g995 g993 g985 g984 <| Z g976 Z0)
    have g1050 := by have q := f1_ok n  _ e1047; rw [h1048] at q; exact q
    obtain rfl := si h
    exact pz F0 ⟨[(7, (iv ((a974.length : Nat) : Int)), none), ff 8, (11, (iv ((a975.length : Nat) : Int)), none), ff 12, (17, (.sl true []), none), (19, (.sl true []), none), (21, (.sl false (List.map c_GConflict v998)), none), (23, (.sl false (List.map c_GConflict v1001)), none), tt 24, (27, (.sl false (List.map c_GConflict v1008)), none), (29, (.sl false (List.map c_GConflict v1011)), none), tt 30, tt 35, tt 38, ff 44, ff 47, ff 51], []⟩ (W8 g1050 g1045 g1040 g1025 g1021 g1017 g1013 g1010 <| W8 g1007 g1003 g1000 g997 g995 g993 g985 g984 <| Z g976 Z0)
   have g1052 := by have q := f5_ok n a974 a975 _ e1019; rw [h1020] at q; exact q
   obtain ⟨v1053, e1054, h⟩ := bnd_some h
   rcases cnd_or h with ⟨h1055, h⟩ | ⟨h1055, h⟩
   ·have g1056 := by have q := f6_ok n a974 a975 _ e1054; rw [h1055] at q; exact q
    obtain rfl := si h
    exact pz F0 ⟨[(7, (iv ((a974.length : Nat) : Int)), none), ff 8, (11, (iv ((a975.length : Nat) : Int)), none), ff 12, (17, (.sl true []), none), (19, (.sl true []), none), (21, (.sl false (List.map c_GConflict v998)), none), (23, (.sl false (List.map c_GConflict v1001)), none), tt 24, (27, (.sl false (List.map c_GConflict v1008)), none), (29, (.sl false (List.map c_GConflict v1011)), none), tt 30, ff 35, tt 38], []⟩ (W8 g1056 g1052 g1017 g1013 g1010 g1007 g1003 g1000 <| W4 g997 g995 g993 g985 <| W2 g984 g976 Z0)
   have g1057 := by have q := f6_ok n a974 a975 _ e1054; rw [h1055] at q; exact q
   obtain ⟨v1058, e1059, h⟩ := bnd_some h
   rcases cnd_or h with ⟨h1060, h⟩ | ⟨h1060, h⟩
   ·have g1061 := by have q := f5_ok n a975 a974 _ e1059; rw [h1060] at q; exact q
    obtain ⟨v1062, e1063, h⟩ := bnd_some h
    rcases cnd_or h with ⟨h1064, h⟩ | ⟨h1064, h⟩
    rotate_left
    ·have g1071 := by have q := f5_ok n a974 a975 _ e1063; rw [h1064] at q; exact q
     obtain rfl := si h
     exact pz F0 ⟨[(7, (iv ((a974.length : Nat) : Int)), none), ff 8, (11, (iv ((a975.length : Nat) : Int)), none), ff 12, (17, (.sl true []), none), (19, (.sl true []), none), (21, (.sl false (List.map c_GConflict v998)), none), (23, (.sl false (List.map c_GConflict v1001)), none), tt 24, (27, (.sl false (List.map c_GConflict v1008)), none), (29, (.sl false (List.map c_GConflict v1011)), none), tt 30, ff 35, ff 38, tt 44, ff 47], []⟩ (W8 g1071 g1061 g1057 g1052 g1017 g1013 g1010 g1007 <| W8 g1003 g1000 g997 g995 g993 g985 g984 g976 Z0)
    have g1065 := by have q := f5_ok n a974 a975 _ e1063; rw [h1064] at q; exact q
    obtain ⟨v1066, e1067, h⟩ := bnd_some h
    rcases cnd_or h with ⟨h1068, h⟩ | ⟨h1068, h⟩
    ·have g1069 := by have q := f1_ok n  _ e1067; rw [h1068] at q; exact q
     obtain rfl := si h
     exact pz F0 ⟨[(7, (iv ((a974.length : Nat) : Int)), none), ff 8, (11, (iv ((a975.length : Nat) : Int)), none), ff 12, (17, (.sl true []), none), (19, (.sl true []), none), (21, (.sl false (List.map c_GConflict v998)), none), (23, (.sl false (List.map c_GConflict v1001)), none), tt 24, (27, (.sl false (List.map c_GConflict v1008)), none), (29, (.sl false (List.map c_GConflict v1011)), none), tt 30, ff 35, ff 38, tt 44, tt 47, tt 51], []⟩ (W8 g1069 g1065 g1061 g1057 g1052 g1017 g1013 g1010 <| W8 g1007 g1003 g1000 g997 g995 g993 g985 g984 <| Z g976 Z0)
    have g1070 := by have q := f1_ok n  _ e1067; rw [h1068] at q; exact q
    obtain rfl := si h
    exact pz F0 ⟨[(7, (iv ((a974.length : Nat) : Int)), none), ff 8, (11, (iv ((a975.length : Nat) : Int)), none), ff 12, (17, (.sl true []), none), (19, (.sl true []), none), (21, (.sl false (List.map c_GConflict v998)), none), (23, (.sl false (List.map c_GConflict v1001)), none), tt 24, (27, (.sl false (List.map c_GConflict v1008)), none), (29, (.sl false (List.map c_GConflict v1011)), none), tt 30, ff 35, ff 38, tt 44, tt 47, ff 51], []⟩ (W8 g1070 g1065 g1061 g1057 g1052 g1017 g1013 g1010 <| W8 g1007 g1003 g1000 g997 g995 g993 g985 g984 <| Z g976 Z0)
   have g1072 := by have q := f5_ok n a975 a974 _ e1059; rw [h1060] at q; exact q
   obtain ⟨v1073, e1074, h⟩ := bnd_some h
   rcases cnd_or h with ⟨h1075, h⟩ | ⟨h1075, h⟩
   ·have g1076 := by have q := f5_ok n a974 a975 _ e1074; rw [h1075] at q; exact q
    obtain rfl := si h
    exact pz F0 ⟨[(7, (iv ((a974.length : Nat) : Int)), none), ff 8, (11, (iv ((a975.length : Nat) : Int)), none), ff 12, (17, (.sl true []), none), (19, (.sl true []), none), (21, (.sl false (List.map c_GConflict v998)), none), (23, (.sl false (List.map c_GConflict v1001)), none), tt 24, (27, (.sl false (List.map c_GConflict v1008)), none), (29, (.sl false (List.map c_GConflict v1011)), none), tt 30, ff 35, ff 38, ff 44, tt 47], []⟩ (W8 g1076 g1072 g1057 g1052 g1017 g1013 g1010 g1007 <| W8 g1003 g1000 g997 g995 g993 g985 g984 g976 Z0)
   have g1077 := by have q := f5_ok n a974 a975 _ e1074; rw [h1075] at q; exact q
   obtain ⟨v1078, e1079, h⟩ := bnd_some h
   rcases cnd_or h with ⟨h1080, h⟩ | ⟨h1080, h⟩
   ·have g1081 := by have q := f1_ok n  _ e1079; rw [h1080] at q; exact q
    obtain rfl := si h
    exact pz F0 ⟨[(7, (iv ((a974.length : Nat) : Int)), none), ff 8, (11, (iv ((a975.length : Nat) : Int)), none), ff 12, (17, (.sl true []), none), (19, (.sl true []), none), (21, (.sl false (List.map c_GConflict v998)), none), (23, (.sl false (List.map c_GConflict v1001)), none), tt 24, (27, (.sl false (List.map c_GConflict v1008)), none), (29, (.sl false (List.map c_GConflict v1011)), none), tt 30, ff 35, ff 38, ff 44, ff 47, tt 51], []⟩ (W8 g1081 g1077 g1072 g1057 g1052 g1017 g1013 g1010 <| W8 g1007 g1003 g1000 g997 g995 g993 g985 g984 <| Z g976 Z0)
   have g1082 := by have q := f1_ok n  _ e1079; rw [h1080] at q; exact q
   obtain rfl := si h
   exact pz F0 ⟨[(7, (iv ((a974.length : Nat) : Int)), none), ff 8, (11, (iv ((a975.length : Nat) : Int)), none), ff 12, (17, (.sl true []), none), (19, (.sl true []), none), (21, (.sl false (List.map c_GConflict v998)), none), (23, (.sl false (List.map c_GConflict v1001)), none), tt 24, (27, (.sl false (List.map c_GConflict v1008)), none), (29, (.sl false (List.map c_GConflict v1011)), none), tt 30, ff 35, ff 38, ff 44, ff 47, ff 51], []⟩ (W8 g1082 g1077 g1072 g1057 g1052 g1017 g1013 g1010 <| W8 g1007 g1003 g1000 g997 g995 g993 g985 g984 <| Z g976 Z0)
  obtain ⟨l1085, e1086, h⟩ := bnd_some h
  have g1087 := app_n (fl := 0) (H := []) (s := 10) (bytes := 120) (c := c_GEdit) (x := (.sl true [])) e1086 h996 c_GEdit_len (by omega) (by omega) (.inr rfl)
  have g1088 := frz_ms (P := PP) (cf := evF PP T n) (fl := 0) (H := [(.blk 10 (List.map c_GEdit l1085))]) (id := 0) (s := 10) (c := c_GEdit) (l := l1085) rfl (by omega) c_GEdit_toP
  obtain ⟨v1089, e1090, h⟩ := bnd_some h
  have g1091 := f2_ok n a974 _ e1090
  obtain ⟨v1092, e1093, h⟩ := bnd_some h
  have g1094 := f3_ok n a974 _ e1093
  obtain ⟨v1095, e1096, h⟩ := bnd_some h
  rcases cnd_or h with ⟨h1097, h⟩ | ⟨h1097, h⟩
  rotate_left
  ·have g1175 := by have q := f4_ok n v1089 v1092 _ e1096; rw [h1097] at q; exact q
   obtain rfl := si h
   exact pz F0 ⟨[(7, (iv ((a974.length : Nat) : Int)), none), ff 8, (11, (iv ((a975.length : Nat) : Int)), none), ff 12, (17, (.sl true []), none), (19, (.ms 0 l1085.length 0 l1085.length), (some [(.blk 10 (List.map c_GEdit l1085))])), (100005, (.sl false (List.map c_GEdit l1085)), (some (hp23 l1085))), (21, (.sl false (List.map c_GConflict v1089)), none), (23, (.sl false (List.map c_GConflict v1092)), none), ff 24], []⟩ (W8 g1175 g1094 g1091 g1088 g1087 g995 g993 g985 <| W2 g984 g976 Z0)
  have g1098 := by have q := f4_ok n v1089 v1092 _ e1096; rw [h1097] at q; exact q
  obtain ⟨v1099, e1100, h⟩ := bnd_some h
  have g1101 := f2_ok n l1085 _ e1100
  obtain ⟨v1102, e1103, h⟩ := bnd_some h
  have g1104 := f3_ok n l1085 _ e1103
  obtain ⟨v1105, e1106, h⟩ := bnd_some h
  rcases cnd_or h with ⟨h1107, h⟩ | ⟨h1107, h⟩
  rotate_left
  ·have g1174 := by have q := f4_ok n v1099 v1102 _ e1106; rw [h1107] at q; exact q
   obtain rfl := si h
   exact pz F0 ⟨[(7, (iv ((a974.length : Nat) : Int)), none), ff 8, (11, (iv ((a975.length : Nat) : Int)), none), ff 12, (17, (.sl true []), none), (19, (.ms 0 l1085.length 0 l1085.length), (some [(.blk 10 (List.map c_GEdit l1085))])), (100005, (.sl false (List.map c_GEdit l1085)), (some (hp23 l1085))), (21, (.sl false (List.map c_GConflict v1089)), none), (23, (.sl false (List.map c_GConflict v1092)), none), tt 24, (27, (.sl false (List.map c_GConflict v1099)), none), (29, (.sl false (List.map c_GConflict v1102)), none), ff 30], []⟩ (W8 g1174 g1104 g1101 g1098 g1094 g1091 g1088 g1087 <| W4 g995 g993 g985 g984 <| Z g976 Z0)
  have g1108 := by have q := f4_ok n v1099 v1102 _ e1106; rw [h1107] at q; exact q
  obtain ⟨v1109, e1110, h⟩ := bnd_some h
  rcases cnd_or h with ⟨h1111, h⟩ | ⟨h1111, h⟩
  ·have g1112 := by have q := f5_ok n a974 a975 _ e1110; rw [h1111] at q; exact q
   obtain ⟨v1113, e1114, h⟩ := bnd_some h
   rcases cnd_or h with ⟨h1115, h⟩ | ⟨h1115, h⟩
   rotate_left
   ·have g1142 := by have q := f6_ok n a974 a975 _ e1114; rw [h1115] at q; exact q
    obtain rfl := si h
    exact pz F0 ⟨[(7, (iv ((a974.length : Nat) : Int)), none), ff 8, (11, (iv ((a975.length : Nat) : Int)), none), ff 12, (17, (.sl true []), none), (19, (.ms 0 l1085.length 0 l1085.length), (some [(.blk 10 (List.map c_GEdit l1085))])), (100005, (.sl false (List.map c_GEdit l1085)), (some (hp23 l1085))), (21, (.sl false (List.map c_GConflict v1089)), none), (23, (.sl false (List.map c_GConflict v1092)), none), tt 24, (27, (.sl false (List.map c_GConflict v1099)), none), (29, (.sl false (List.map c_GConflict v1102)), none), tt 30, tt 35, ff 38], []⟩ (W8 g1142 g1112 g1108 g1104 g1101 g1098 g1094 g1091 <| W4 g1088 g1087 g995 g993 <| W2 g985 g984 <| Z g976 Z0)
   have g1116 := by have q := f6_ok n a974 a975 _ e1114; rw [h1115] at q; exact q
   obtain ⟨v1117, e1118, h⟩ := bnd_some h
   rcases cnd_or h with ⟨h1119, h⟩ | ⟨h1119, h⟩
   ·have g1120 := by have q := f5_ok n a975 a974 _ e1118; rw [h1119] at q; exact q
    obtain ⟨v1121, e1122, h⟩ := bnd_some h
    rcases cnd_or h with ⟨h1123, h⟩ | ⟨h1123, h⟩
    rotate_left
    ·have g1130 := by have q := f5_ok n a974 a975 _ e1122; rw [h1123] at q; exact q
     obtain rfl := si h
     exact pz F0 ⟨[(7, (iv ((a974.length : Nat) : Int)), none), ff 8, (11, (iv ((a975.length : Nat) : Int)), none), ff 12, (17, (.sl true []), none), (19, (.ms 0 l1085.length 0 l1085.length), (some [(.blk 10 (List.map c_GEdit l1085))])), (100005, (.sl false (List.map c_GEdit l1085)), (some (hp23 l1085))), (21, (.sl false (List.map c_GConflict v1089)), none), (23, (.sl false (List.map c_GConflict v1092)), none), tt 24, (27, (.sl false (List.map c_GConflict v1099)), none), (29, (.sl false (List.map c_GConflict v1102)), none), tt 30, tt 35, tt 38, tt 44, ff 47], []⟩ (W8 g1130 g1120 g1116 g1112 g1108 g1104 g1101 g1098 <| W8 g1094 g1091 g1088 g1087 g995 g993 g985 g984 <| Z g976 Z0)
    have g1124 := by have q := f5_ok n a974 a975 _ e1122; rw [h1123] at q; exact q
    obtain ⟨v1125, e1126, h⟩ := bnd_some h
    rcases cnd_or h with ⟨h1127, h⟩ | ⟨h1127, h⟩
    ·have g1128 := by have q := f1_ok n  _ e1126; rw [h1127] at q; exact q
     obtain rfl := si h
     exact pz F0 ⟨[(7, (iv ((a974.length : Nat) : Int)), none), ff 8, (11, (iv ((a975.length : Nat) : Int)), none), ff 12, (17, (.sl true []), none), (19, (.ms 0 l1085.length 0 l1085.length), (some [(.blk 10 (List.map c_GEdit l1085))])), (100005, (.sl false (List.map c_GEdit l1085)), (some (hp23 l1085))), (21, (.sl false (List.map c_GConflict v1089)), none), (23, (.sl false (List.map c_GConflict v1092)), none), tt 24, (27, (.sl false (List.map c_GConflict v1099)), none), (29, (.sl false (List.map c_GConflict v1102)), none), tt 30, tt 35, tt 38, tt 44, tt 47, tt 51], []⟩ (W8 g1128 g1124 g1120 g1116 g1112 g1108 g1104 g1101 <| W8 g1098 g1094 g1091 g1088 g1087 g995 g993 g985 <| W2 g984 g976 Z0)
    have g1129 := by have q := f1_ok n  _ e1126; rw [h1127] at q; exact q
    obtain rfl := si h
    exact pz F0 ⟨[(7, (iv ((a974.length : Nat) : Int)), none), ff 8, (11, (iv ((a975.length : Nat) : Int)), none), ff 12, (17, (.sl true []), none), (19, (.ms 0 l1085.length 0 l1085.length), (some [(.blk 10 (List.map c_GEdit l1085))])), (100005, (.sl false (List.map c_GEdit l1085)), (some (hp23 l1085))), (21, (.sl false (List.map c_GConflict v1089)), none), (23, (.sl false (List.map c_GConflict v1092)), none), tt 24, (27, (.sl false (List.map c_GConflict v1099)), none), (29, (.sl false (List.map c_GConflict v1102)), none), tt 30, tt 35, tt 38, tt 44, tt 47, ff 51], []⟩ (W8 g1129 g1124 g1120 g1116 g1112 g1108 g1104 g1101 <| W8 g1098 g1094 g1091 g1088 g1087 g995 g993 g985 <| W2 g984 g976 Z0)
   have g1131 := by have q := f5_ok n a975 a974 _ e1118; rw [h1119] at q; exact q
   obtain ⟨v1132, e1133, h⟩ := bnd_some h
   rcases cnd_or h with ⟨h1134, h⟩ | ⟨h1134, h⟩
   ·have g1135 := by have q := f5_ok n a974 a975 _ e1133; rw [h1134] at q; exact q
    obtain rfl := si h
    exact pz F0 ⟨[(7, (iv ((a974.length : Nat) : Int)), none), ff 8, (11, (iv ((a975.length : Nat) : Int)), none), ff 12, (17, (.sl true []), none), (19, (.ms 0 l1085.length 0 l1085.length), (some [(.blk 10 (List.map c_GEdit l1085))])), (100005, (.sl false (List.map c_GEdit l1085)), (some (hp23 l1085))), (21, (.sl false (List.map c_GConflict v1089)), none), (23, (.sl false (List.map c_GConflict v1092)), none), tt 24, (27, (.sl false (List.map c_GConflict v1099)), none), (29, (.sl false (List.map c_GConflict v1102)), none), tt 30, tt 35, tt 38, ff 44, tt 47], []⟩ (W8 g1135 g1131 g1116 g1112 g1108 g1104 g1101 g1098 <| W8 g1094 g1091 g1088 g1087 g995 g993 g985 g984 <| Z g976 Z0)
   have g1136 := by have q := f5_ok n a974 a975 _ e1133; rw [h1134] at q; exact q
   obtain ⟨v1137, e1138, h⟩ := bnd_some h
   rcases cnd_or h with ⟨h1139, h⟩ | ⟨h1139, h⟩
   ·have g1140 := by have q := f1_ok n  _ e1138; rw [h1139] at q; exact q
    obtain rfl := si h
    exact pz F0 ⟨[(7, (iv ((a974.length : Nat) : Int)), none), ff 8, (11, (iv ((a975.length : Nat) : Int)), none), ff 12, (17, (.sl true []), none), (19, (.ms 0 l1085.length 0 l1085.length), (some [(.blk 10 (List.map c_GEdit l1085))])), (100005, (.sl false (List.map c_GEdit l1085)), (some (hp23 l1085))), (21, (.sl false (List.map c_GConflict v1089)), none), (23, (.sl false (List.map c_GConflict v1092)), none), tt 24, (27, (.sl false (List.map c_GConflict v1099)), none), (29, (.sl false (List.map c_GConflict v1102)), none), tt 30, tt 35, tt 38, ff 44, ff 47, tt 51], []⟩ (W8 g1140 g1136 g1131 g1116 g1112 g1108 g1104 g1101 <| W8 g1098 g1094 g1091 g1088 g1087 g995 g993 g985 <| W2 g984 g976 Z0)
   have g1141 := by have q := f1_ok n  _ e1138; rw [h1139] at q; exact q
   obtain rfl := si h
   exact pz F0 ⟨[(7, (iv ((a974.length : Nat) : Int)), none), ff 8, (11, (iv ((a975.length : Nat) : Int)), none), ff 12, (17, (.sl true []), none), (19, (.ms 0 l1085.length 0 l1085.length), (some [(.blk 10 (List.map c_GEdit l1085))])), (100005, (.sl false (List.map c_GEdit l1085)), (some (hp23 l1085))), (21, (.sl false (List.map c_GConflict v1089)), none), (23, (.sl false (List.map c_GConflict v1092)), none), tt 24, (27, (.sl false (List.map c_GConflict v1099)), none), (29, (.sl false (List.map c_GConflict v1102)), none), tt 30, tt 35, tt 38, ff 44, ff 47, ff 51], []⟩ (W8 g1141 g1136 g1131 g1116 g1112 g1108 g1104 g1101 <| W8 g1098 g1094 g1091 g1088 g1087 g995 g993 g985 <| W2 g984 g976 Z0)
  have g1143 := by have q := f5_ok n a974 a975 _ e1110; rw [h1111] at q; exact q
  obtain ⟨v1144, e1145, h⟩ := bnd_some h
  rcases cnd_or h with ⟨h1146, h⟩ | ⟨h1146, h⟩
  ·have g1147 := by have q := f6_ok n a974 a975 _ e1145; rw [h1146] at q; exact q
   obtain rfl := si h
   exact pz F0 ⟨[(7, (iv ((a974.length : Nat) : Int)), none), ff 8, (11, (iv ((a975.length : Nat) : Int)), none), ff 12, (17, (.sl true []), none), (19, (.ms 0 l1085.length 0 l1085.length), (some [(.blk 10 (List.map c_GEdit l1085))])), (100005, (.sl false (List.map c_GEdit l1085)), (some (hp23 l1085))), (21, (.sl false (List.map c_GConflict v1089)), none), (23, (.sl false (List.map c_GConflict v1092)), none), tt 24, (27, (.sl false (List.map c_GConflict v1099)), none), (29, (.sl false (List.map c_GConflict v1102)), none), tt 30, ff 35, tt 38], []⟩ (W8 g1147 g1143 g1108 g1104 g1101 g1098 g1094 g1091 <| W4 g1088 g1087 g995 g993 <| W2 g985 g984 <| Z g976 Z0)
  have g1148 := by have q := f6_ok n a974 a975 _ e1145; rw [h1146] at q; exact q
  obtain ⟨v1149, e1150, h⟩ := bnd_some h
  rcases cnd_or h with ⟨h1151, h⟩ | ⟨h1151, h⟩
  ·have g1152 := by have q := f5_ok n a975 a974 _ e1150; rw [h1151] at q; exact q
   obtain ⟨v1153, e1154, h⟩ := bnd_some h
   rcases cnd_or h with ⟨h1155, h⟩ | ⟨h1155, h⟩
   rotate_left
   ·have g1162 := by have q := f5_ok n a974 a975 _ e1154; rw [h1155] at q; exact q
    obtain rfl := si h
    exact pz F0 ⟨[(7, (iv ((a974.length : Nat) : Int)), none), ff 8, (11, (iv ((a975.length : Nat) : Int)), none), ff 12, (17, (.sl true []), none), (19, (.ms 0 l1085.length 0 l1085.length), (some [(.blk 10 (List.map c_GEdit l1085))])), (100005, (.sl false (List.map c_GEdit l1085)), (some (hp23 l1085))), (21, (.sl false (List.map c_GConflict v1089)), none), (23, (.sl false (List.map c_GConflict v1092)), none), tt 24, (27, (.sl false (List.map c_GConflict v1099)), none), (29, (.sl false (List.map c_GConflict v1102)), none), tt 30, ff 35, ff 38, tt 44, ff 47], []⟩ (W8 g1162 g1152 g1148 g1143 g1108 g1104 g1101 g1098 <| W8 g1094 g1091 g1088 g1087 g995 g993 g985 g984 <| Z g976 Z0)
   have g1156 := by have q := f5_ok n a974 a975 _ e1154; rw [h1155] at q; exact q
   obtain ⟨v1157, e1158, h⟩ := bnd_some h
   rcases cnd_or h with ⟨h1159, h⟩ | ⟨h1159, h⟩
   ·have g1160 := by have q := f1_ok n  _ e1158; rw [h1159] at q; exact q
    obtain rfl := si h
    exact pz F0 ⟨[(7, (iv ((a974.length : Nat) : Int)), none), ff 8, (11, (iv ((a975.length : Nat) : Int)), none), ff 12, (17, (.sl true []), none), (19, (.ms 0 l1085.length 0 l1085.length), (some [(.blk 10 (List.map c_GEdit l1085))])), (100005, (.sl false (List.map c_GEdit l1085)), (some (hp23 l1085))), (21, (.sl false (List.map c_GConflict v1089)), none), (23, (.sl false (List.map c_GConflict v1092)), none), tt 24, (27, (.sl false (List.map c_GConflict v1099)), none), (29, (.sl false (List.map c_GConflict v1102)), none), tt 30, ff 35, ff 38, tt 44, tt 47, tt 51], []⟩ (W8 g1160 g1156 g1152 g1148 g1143 g1108 g1104 g1101 <| W8 g1098 g1094 g1091 g1088 g1087 g995 g993 g985 <| W2 g984 g976 Z0)
   have g1161 := by have q := f1_ok n  _ e1158; rw [h1159] at q; exact q
   obtain rfl := si h
   exact pz F0 ⟨[(7, (iv ((a974.length : Nat) : Int)), none), ff 8, (11, (iv ((a975.length : Nat) : Int)), none), ff 12, (17, (.sl true []), none), (19, (.ms 0 l1085.length 0 l1085.length), (some [(.blk 10 (List.map c_GEdit l1085))])), (100005, (.sl false (List.map c_GEdit l1085)), (some (hp23 l1085))), (21, (.sl false (List.map c_GConflict v1089)), none), (23, (.sl false (List.map c_GConflict v1092)), none), tt 24, (27, (.sl false (List.map c_GConflict v1099)), none), (29, (.sl false (List.map c_GConflict v1102)), none), tt 30, ff 35, ff 38, tt 44, tt 47, ff 51], []⟩ (W8 g1161 g1156 g1152 g1148 g1143 g1108 g1104 g1101 <| W8 g1098 g1094 g1091 g1088 g1087 g995 g993 g985 <| W2 g984 g976 Z0)
  have g1163 := by have q := f5_ok n a975 a974 _ e1150; rw [h1151] at q; exact q
  obtain ⟨v1164, e1165, h⟩ := bnd_some h
  rcases cnd_or h with ⟨h1166, h⟩ | ⟨h1166, h⟩
  ·have g1167 := by have q := f5_ok n a974 a975 _ e1165; rw [h1166] at q; exact q
   obtain rfl := si h
   exact pz F0 ⟨[(7, (iv ((a974.length : Nat) : Int)), none), ff 8, (11, (iv ((a975.length : Nat) : Int)), none), ff 12, (17, (.sl true []), none), (19, (.ms 0 l1085.length 0 l1085.length), (some [(.blk 10 (List.map c_GEdit l1085))])), (100005, (.sl false (List.map c_GEdit l1085)), (some (hp23 l1085))), (21, (.sl false (List.map c_GConflict v1089)), none), (23, (.sl false (List.map c_GConflict v1092)), none), tt 24, (27, (.sl false (List.map c_GConflict v1099)), none), (29, (.sl false (List.map c_GConflict v1102)), none), tt 30, ff 35, ff 38, ff 44, tt 47], []⟩ (W8 g1167 g1163 g1148 g1143 g1108 g1104 g1101 g1098 <| W8 g1094 g1091 g1088 g1087 g995 g993 g985 g984 <| Z g976 Z0)
  have g1168 := by have q := f5_ok n a974 a975 _ e1165; rw [h1166] at q; exact q
  obtain ⟨v1169, e1170, h⟩ := bnd_some h
  rcases cnd_or h with ⟨h1171, h⟩ | ⟨h1171, h⟩
  ·have g1172 := by have q := f1_ok n  _ e1170; rw [h1171] at q; exact q
   obtain rfl := si h
   exact pz F0 ⟨[(7, (iv ((a974.length : Nat) : Int)), none), ff 8, (11, (iv ((a975.length : Nat) : Int)), none), ff 12, (17, (.sl true []), none), (19, (.ms 0 l1085.length 0 l1085.length), (some [(.blk 10 (List.map c_GEdit l1085))])), (100005, (.sl false (List.map c_GEdit l1085)), (some (hp23 l1085))), (21, (.sl false (List.map c_GConflict v1089)), none), (23, (.sl false (List.map c_GConflict v1092)), none), tt 24, (27, (.sl false (List.map c_GConflict v1099)), none), (29, (.sl false (List.map c_GConflict v1102)), none), tt 30, ff 35, ff 38, ff 44, ff 47, tt 51], []⟩ (W8 g1172 g1168 g1163 g1148 g1143 g1108 g1104 g1101 <| W8 g1098 g1094 g1091 g1088 g1087 g995 g993 g985 <| W2 g984 g976 Z0)
  have g1173 := by have q := f1_ok n  _ e1170; rw [h1171] at q; exact q
  obtain rfl := si h
  exact pz F0 ⟨[(7, (iv ((a974.length : Nat) : Int)), none), ff 8, (11, (iv ((a975.length : Nat) : Int)), none), ff 12, (17, (.sl true []), none), (19, (.ms 0 l1085.length 0 l1085.length), (some [(.blk 10 (List.map c_GEdit l1085))])), (100005, (.sl false (List.map c_GEdit l1085)), (some (hp23 l1085))), (21, (.sl false (List.map c_GConflict v1089)), none), (23, (.sl false (List.map c_GConflict v1092)), none), tt 24, (27, (.sl false (List.map c_GConflict v1099)), none), (29, (.sl false (List.map c_GConflict v1102)), none), tt 30, ff 35, ff 38, ff 44, ff 47, ff 51], []⟩ (W8 g1173 g1168 g1163 g1148 g1143 g1108 g1104 g1101 <| W8 g1098 g1094 g1091 g1088 g1087 g995 g993 g985 <| W2 g984 g976 Z0)
end Go.Proofs.YtanonfpdkoijnaaGreatDoor.Av
