/- A part of the proof of EditChecksCardSaid. -/
import Derived.Test.YtmflphfmefakfaaGreatDoorVeTab
import Derived.Test.YtmflphfmefakfaaGreatDoorAvOrc
import Derived.KernelRfl
set_option linter.all false
namespace Go.Proofs.YtmflphfmefakfaaGreatDoor.Av
open Go
theorem chk0 : chkFun PP T F0 = true := by kernel_rfl
theorem chk1 : chkFun PP T F1 = true := by kernel_rfl
theorem chk2 : chkFun PP T F2 = true := by kernel_rfl
theorem chk3 : chkFun PP T F3 = true := by kernel_rfl
theorem chk4 : chkFun PP T F4 = true := by kernel_rfl
theorem chk5 : chkFun PP T F5 = true := by kernel_rfl
theorem chk6 : chkFun PP T F6 = true := by kernel_rfl
theorem chk7 : chkFun PP T F7 = true := by kernel_rfl
theorem chk8 : chkFun PP T F8 = true := by kernel_rfl
theorem chk9 : chkFun PP T F9 = true := by kernel_rfl
theorem chk10 : chkFun PP T F10 = true := by kernel_rfl
theorem chk11 : chkFun PP T F11 = true := by kernel_rfl
theorem chk12 : chkFun PP T F12 = true := by kernel_rfl
theorem chk13 : chkFun PP T F13 = true := by kernel_rfl
theorem chk14 : chkFun PP T F14 = true := by kernel_rfl
theorem chk15 : chkFun PP T F15 = true := by kernel_rfl
theorem chk16 : chkFun PP T F16 = true := by kernel_rfl
theorem chk17 : chkFun PP T F17 = true := by kernel_rfl
theorem chk18 : chkFun PP T F18 = true := by kernel_rfl
theorem chk19 : chkFun PP T F19 = true := by kernel_rfl
theorem chk20 : chkFun PP T F20 = true := by kernel_rfl
theorem chk21 : chkFun PP T F21 = true := by kernel_rfl
theorem chk22 : chkFun PP T F22 = true := by kernel_rfl
theorem chk23 : chkFun PP T F23 = true := by kernel_rfl
theorem chk24 : chkFun PP T F24 = true := by kernel_rfl
theorem chk25 : chkFun PP T F25 = true := by kernel_rfl
theorem chk26 : chkFun PP T F26 = true := by kernel_rfl
theorem chk27 : chkFun PP T F27 = true := by kernel_rfl
theorem chk28 : chkFun PP T F28 = true := by kernel_rfl
theorem chk29 : chkFun PP T F29 = true := by kernel_rfl
theorem chk30 : chkFun PP T F30 = true := by kernel_rfl
theorem chk31 : chkFun PP T F31 = true := by kernel_rfl
theorem chk32 : chkFun PP T F32 = true := by kernel_rfl
theorem chk33 : chkFun PP T F33 = true := by kernel_rfl
theorem chk34 : chkFun PP T F34 = true := by kernel_rfl
theorem chk35 : chkFun PP T F35 = true := by kernel_rfl
theorem chk36 : chkFun PP T F36 = true := by kernel_rfl
theorem chk37 : chkFun PP T F37 = true := by kernel_rfl
theorem chk38 : chkFun PP T F38 = true := by kernel_rfl
theorem chk39 : chkFun PP T F39 = true := by kernel_rfl
theorem chk40 : chkFun PP T F40 = true := by kernel_rfl
theorem chk41 : chkFun PP T F41 = true := by kernel_rfl
theorem chk42 : chkFun PP T F42 = true := by kernel_rfl
theorem chk43 : chkFun PP T F43 = true := by kernel_rfl
theorem chk44 : chkFun PP T F44 = true := by kernel_rfl
theorem chk45 : chkFun PP T F45 = true := by kernel_rfl
end Go.Proofs.YtmflphfmefakfaaGreatDoor.Av
namespace Go.Proofs.YtmflphfmefakfaaGreatDoor.Av
open Go
theorem chk46 : chkFun PP T F46 = true := by kernel_rfl
theorem chk47 : chkFun PP T F47 = true := by kernel_rfl
theorem chk48 : chkFun PP T F48 = true := by kernel_rfl
theorem chk49 : chkFun PP T F49 = true := by kernel_rfl
theorem chk50 : chkFun PP T F50 = true := by kernel_rfl
theorem chk51 : chkFun PP T F51 = true := by kernel_rfl
theorem chk52 : chkFun PP T F52 = true := by kernel_rfl
theorem chk53 : chkFun PP T F53 = true := by kernel_rfl
theorem chk54 : chkFun PP T F54 = true := by kernel_rfl
theorem chk55 : chkFun PP T F55 = true := by kernel_rfl
theorem chk56 : chkFun PP T F56 = true := by kernel_rfl
theorem chk57 : chkFun PP T F57 = true := by kernel_rfl
theorem chk58 : chkFun PP T F58 = true := by kernel_rfl
theorem chk59 : chkFun PP T F59 = true := by kernel_rfl
theorem chk60 : chkFun PP T F60 = true := by kernel_rfl
theorem chk61 : chkFun PP T F61 = true := by kernel_rfl
theorem chk62 : chkFun PP T F62 = true := by kernel_rfl
theorem chk63 : chkFun PP T F63 = true := by kernel_rfl
theorem chk64 : chkFun PP T F64 = true := by kernel_rfl
theorem chk65 : chkFun PP T F65 = true := by kernel_rfl
theorem chk66 : chkFun PP T F66 = true := by kernel_rfl
theorem chk67 : chkFun PP T F67 = true := by kernel_rfl
theorem chk68 : chkFun PP T F68 = true := by kernel_rfl
theorem chk69 : chkFun PP T F69 = true := by kernel_rfl
theorem chk70 : chkFun PP T F70 = true := by kernel_rfl
theorem chk71 : chkFun PP T F71 = true := by kernel_rfl
theorem chk72 : chkFun PP T F72 = true := by kernel_rfl
theorem chk73 : chkFun PP T F73 = true := by kernel_rfl
theorem chk74 : chkFun PP T F74 = true := by kernel_rfl
theorem chk75 : chkFun PP T F75 = true := by kernel_rfl
theorem chk76 : chkFun PP T F76 = true := by kernel_rfl
theorem chk77 : chkFun PP T F77 = true := by kernel_rfl
theorem chk78 : chkFun PP T F78 = true := by kernel_rfl
theorem chk79 : chkFun PP T F79 = true := by kernel_rfl
theorem chk80 : chkFun PP T F80 = true := by kernel_rfl
theorem chk81 : chkFun PP T F81 = true := by kernel_rfl
theorem chk82 : chkFun PP T F82 = true := by kernel_rfl
theorem chk83 : chkFun PP T F83 = true := by kernel_rfl
theorem chk84 : chkFun PP T F84 = true := by kernel_rfl
theorem chk85 : chkFun PP T F85 = true := by kernel_rfl
theorem chk86 : chkFun PP T F86 = true := by kernel_rfl
theorem chk87 : chkFun PP T F87 = true := by kernel_rfl
theorem chk88 : chkFun PP T F88 = true := by kernel_rfl
theorem chk89 : chkFun PP T F89 = true := by kernel_rfl
theorem chk90 : chkFun PP T F90 = true := by kernel_rfl
theorem chk91 : chkFun PP T F91 = true := by kernel_rfl
theorem chk92 : chkFun PP T F92 = true := by kernel_rfl
end Go.Proofs.YtmflphfmefakfaaGreatDoor.Av
namespace Go.Proofs.YtmflphfmefakfaaGreatDoor.Av
open Go
theorem chk93 : chkFun PP T F93 = true := by kernel_rfl
theorem chk94 : chkFun PP T F94 = true := by kernel_rfl
theorem chk95 : chkFun PP T F95 = true := by kernel_rfl
theorem chk96 : chkFun PP T F96 = true := by kernel_rfl
theorem chk97 : chkFun PP T F97 = true := by kernel_rfl
theorem chk98 : chkFun PP T F98 = true := by kernel_rfl
theorem chk99 : chkFun PP T F99 = true := by kernel_rfl
theorem chk100 : chkFun PP T F100 = true := by kernel_rfl
theorem chk101 : chkFun PP T F101 = true := by kernel_rfl
theorem chk102 : chkFun PP T F102 = true := by kernel_rfl
theorem chk103 : chkFun PP T F103 = true := by kernel_rfl
theorem chk104 : chkFun PP T F104 = true := by kernel_rfl
theorem chk105 : chkFun PP T F105 = true := by kernel_rfl
theorem chk106 : chkFun PP T F106 = true := by kernel_rfl
theorem chk107 : chkFun PP T F107 = true := by kernel_rfl
theorem chk108 : chkFun PP T F108 = true := by kernel_rfl
theorem chk109 : chkFun PP T F109 = true := by kernel_rfl
theorem chk110 : chkFun PP T F110 = true := by kernel_rfl
theorem chk111 : chkFun PP T F111 = true := by kernel_rfl
theorem chk112 : chkFun PP T F112 = true := by kernel_rfl
theorem chk113 : chkFun PP T F113 = true := by kernel_rfl
theorem chk114 : chkFun PP T F114 = true := by kernel_rfl
theorem chk115 : chkFun PP T F115 = true := by kernel_rfl
theorem chk116 : chkFun PP T F116 = true := by kernel_rfl
theorem chk117 : chkFun PP T F117 = true := by kernel_rfl
theorem chk118 : chkFun PP T F118 = true := by kernel_rfl
theorem chk119 : chkFun PP T F119 = true := by kernel_rfl
theorem chk120 : chkFun PP T F120 = true := by kernel_rfl
theorem chk121 : chkFun PP T F121 = true := by kernel_rfl
theorem chk122 : chkFun PP T F122 = true := by kernel_rfl
theorem chk123 : chkFun PP T F123 = true := by kernel_rfl
theorem chk124 : chkFun PP T F124 = true := by kernel_rfl
theorem chk125 : chkFun PP T F125 = true := by kernel_rfl
theorem chk126 : chkFun PP T F126 = true := by kernel_rfl
theorem chk127 : chkFun PP T F127 = true := by kernel_rfl
theorem chk128 : chkFun PP T F128 = true := by kernel_rfl
theorem chk129 : chkFun PP T F129 = true := by kernel_rfl
theorem chk130 : chkFun PP T F130 = true := by kernel_rfl
theorem chk131 : chkFun PP T F131 = true := by kernel_rfl
theorem chk132 : chkFun PP T F132 = true := by kernel_rfl
theorem chk133 : chkFun PP T F133 = true := by kernel_rfl
theorem chk134 : chkFun PP T F134 = true := by kernel_rfl
theorem chk135 : chkFun PP T F135 = true := by kernel_rfl
theorem chk136 : chkFun PP T F136 = true := by kernel_rfl
theorem chk137 : chkFun PP T F137 = true := by kernel_rfl
theorem chk138 : chkFun PP T F138 = true := by kernel_rfl
theorem chk139 : chkFun PP T F139 = true := by kernel_rfl
end Go.Proofs.YtmflphfmefakfaaGreatDoor.Av
namespace Go.Proofs.YtmflphfmefakfaaGreatDoor.Av
open Go
theorem chk140 : chkFun PP T F140 = true := by kernel_rfl
theorem chk141 : chkFun PP T F141 = true := by kernel_rfl
theorem chk142 : chkFun PP T F142 = true := by kernel_rfl
theorem chk143 : chkFun PP T F143 = true := by kernel_rfl
theorem chk144 : chkFun PP T F144 = true := by kernel_rfl
theorem chk145 : chkFun PP T F145 = true := by kernel_rfl
theorem chk146 : chkFun PP T F146 = true := by kernel_rfl
theorem chk147 : chkFun PP T F147 = true := by kernel_rfl
theorem chk148 : chkFun PP T F148 = true := by kernel_rfl
theorem chk149 : chkFun PP T F149 = true := by kernel_rfl
theorem chk150 : chkFun PP T F150 = true := by kernel_rfl
theorem chk151 : chkFun PP T F151 = true := by kernel_rfl
theorem chk152 : chkFun PP T F152 = true := by kernel_rfl
theorem chk153 : chkFun PP T F153 = true := by kernel_rfl
theorem chk154 : chkFun PP T F154 = true := by kernel_rfl
theorem chk155 : chkFun PP T F155 = true := by kernel_rfl
theorem chk156 : chkFun PP T F156 = true := by kernel_rfl
theorem chk157 : chkFun PP T F157 = true := by kernel_rfl
theorem chk158 : chkFun PP T F158 = true := by kernel_rfl
theorem chk159 : chkFun PP T F159 = true := by kernel_rfl
theorem chk160 : chkFun PP T F160 = true := by kernel_rfl
theorem chk161 : chkFun PP T F161 = true := by kernel_rfl
theorem chk162 : chkFun PP T F162 = true := by kernel_rfl
theorem chk163 : chkFun PP T F163 = true := by kernel_rfl
theorem chk164 : chkFun PP T F164 = true := by kernel_rfl
theorem chk165 : chkFun PP T F165 = true := by kernel_rfl
theorem chk166 : chkFun PP T F166 = true := by kernel_rfl
theorem chk167 : chkFun PP T F167 = true := by kernel_rfl
theorem chk168 : chkFun PP T F168 = true := by kernel_rfl
theorem chk169 : chkFun PP T F169 = true := by kernel_rfl
theorem chk170 : chkFun PP T F170 = true := by kernel_rfl
theorem chk171 : chkFun PP T F171 = true := by kernel_rfl
theorem chk172 : chkFun PP T F172 = true := by kernel_rfl
theorem chk173 : chkFun PP T F173 = true := by kernel_rfl
theorem chk174 : chkFun PP T F174 = true := by kernel_rfl
theorem chk175 : chkFun PP T F175 = true := by kernel_rfl
theorem chk176 : chkFun PP T F176 = true := by kernel_rfl
theorem chk177 : chkFun PP T F177 = true := by kernel_rfl
theorem chk178 : chkFun PP T F178 = true := by kernel_rfl
theorem chk179 : chkFun PP T F179 = true := by kernel_rfl
theorem chk180 : chkFun PP T F180 = true := by kernel_rfl
theorem chk181 : chkFun PP T F181 = true := by kernel_rfl
theorem chk182 : chkFun PP T F182 = true := by kernel_rfl
theorem chk183 : chkFun PP T F183 = true := by kernel_rfl
theorem chk184 : chkFun PP T F184 = true := by kernel_rfl
theorem chk185 : chkFun PP T F185 = true := by kernel_rfl
theorem chk186 : chkFun PP T F186 = true := by kernel_rfl
end Go.Proofs.YtmflphfmefakfaaGreatDoor.Av
namespace Go.Proofs.YtmflphfmefakfaaGreatDoor.Av
open Go
set_option maxRecDepth 20000
theorem chk_cons {F : AFun} {l : List AFun} (h : chkFun PP T F = true) (hl : ∀ G ∈ l, chkFun PP T G = true) : ∀ G ∈ F :: l, chkFun PP T G = true := by
 intro G hG
 cases hG with
 | head => exact h
 | tail _ hG => exact hl G hG
theorem chk_nil : ∀ G ∈ ([] : List AFun), chkFun PP T G = true := fun _ h => by cases h
def tl180 : List AFun := F180 :: F181 :: F182 :: F183 :: F184 :: F185 :: F186 :: []
theorem ctl180 : ∀ G ∈ tl180, chkFun PP T G = true := chk_cons chk180 (chk_cons chk181 (chk_cons chk182 (chk_cons chk183 (chk_cons chk184 (chk_cons chk185 (chk_cons chk186 (chk_nil)))))))
def tl160 : List AFun := F160 :: F161 :: F162 :: F163 :: F164 :: F165 :: F166 :: F167 :: F168 :: F169 :: F170 :: F171 :: F172 :: F173 :: F174 :: F175 :: F176 :: F177 :: F178 :: F179 :: tl180
theorem ctl160 : ∀ G ∈ tl160, chkFun PP T G = true := chk_cons chk160 (chk_cons chk161 (chk_cons chk162 (chk_cons chk163 (chk_cons chk164 (chk_cons chk165 (chk_cons chk166 (chk_cons chk167 (chk_cons chk168 (chk_cons chk169 (chk_cons chk170 (chk_cons chk171 (chk_cons chk172 (chk_cons chk173 (chk_cons chk174 (chk_cons chk175 (chk_cons chk176 (chk_cons chk177 (chk_cons chk178 (chk_cons chk179 (ctl180))))))))))))))))))))
def tl140 : List AFun := F140 :: F141 :: F142 :: F143 :: F144 :: F145 :: F146 :: F147 :: F148 :: F149 :: F150 :: F151 :: F152 :: F153 :: F154 :: F155 :: F156 :: F157 :: F158 :: F159 :: tl160
theorem ctl140 : ∀ G ∈ tl140, chkFun PP T G = true := chk_cons chk140 (chk_cons chk141 (chk_cons chk142 (chk_cons chk143 (chk_cons chk144 (chk_cons chk145 (chk_cons chk146 (chk_cons chk147 (chk_cons chk148 (chk_cons chk149 (chk_cons chk150 (chk_cons chk151 (chk_cons chk152 (chk_cons chk153 (chk_cons chk154 (chk_cons chk155 (chk_cons chk156 (chk_cons chk157 (chk_cons chk158 (chk_cons chk159 (ctl160))))))))))))))))))))
def tl120 : List AFun := F120 :: F121 :: F122 :: F123 :: F124 :: F125 :: F126 :: F127 :: F128 :: F129 :: F130 :: F131 :: F132 :: F133 :: F134 :: F135 :: F136 :: F137 :: F138 :: F139 :: tl140
theorem ctl120 : ∀ G ∈ tl120, chkFun PP T G = true := chk_cons chk120 (chk_cons chk121 (chk_cons chk122 (chk_cons chk123 (chk_cons chk124 (chk_cons chk125 (chk_cons chk126 (chk_cons chk127 (chk_cons chk128 (chk_cons chk129 (chk_cons chk130 (chk_cons chk131 (chk_cons chk132 (chk_cons chk133 (chk_cons chk134 (chk_cons chk135 (chk_cons chk136 (chk_cons chk137 (chk_cons chk138 (chk_cons chk139 (ctl140))))))))))))))))))))
def tl100 : List AFun := F100 :: F101 :: F102 :: F103 :: F104 :: F105 :: F106 :: F107 :: F108 :: F109 :: F110 :: F111 :: F112 :: F113 :: F114 :: F115 :: F116 :: F117 :: F118 :: F119 :: tl120
theorem ctl100 : ∀ G ∈ tl100, chkFun PP T G = true := chk_cons chk100 (chk_cons chk101 (chk_cons chk102 (chk_cons chk103 (chk_cons chk104 (chk_cons chk105 (chk_cons chk106 (chk_cons chk107 (chk_cons chk108 (chk_cons chk109 (chk_cons chk110 (chk_cons chk111 (chk_cons chk112 (chk_cons chk113 (chk_cons chk114 (chk_cons chk115 (chk_cons chk116 (chk_cons chk117 (chk_cons chk118 (chk_cons chk119 (ctl120))))))))))))))))))))
def tl80 : List AFun := F80 :: F81 :: F82 :: F83 :: F84 :: F85 :: F86 :: F87 :: F88 :: F89 :: F90 :: F91 :: F92 :: F93 :: F94 :: F95 :: F96 :: F97 :: F98 :: F99 :: tl100
theorem ctl80 : ∀ G ∈ tl80, chkFun PP T G = true := chk_cons chk80 (chk_cons chk81 (chk_cons chk82 (chk_cons chk83 (chk_cons chk84 (chk_cons chk85 (chk_cons chk86 (chk_cons chk87 (chk_cons chk88 (chk_cons chk89 (chk_cons chk90 (chk_cons chk91 (chk_cons chk92 (chk_cons chk93 (chk_cons chk94 (chk_cons chk95 (chk_cons chk96 (chk_cons chk97 (chk_cons chk98 (chk_cons chk99 (ctl100))))))))))))))))))))
def tl60 : List AFun := F60 :: F61 :: F62 :: F63 :: F64 :: F65 :: F66 :: F67 :: F68 :: F69 :: F70 :: F71 :: F72 :: F73 :: F74 :: F75 :: F76 :: F77 :: F78 :: F79 :: tl80
theorem ctl60 : ∀ G ∈ tl60, chkFun PP T G = true := chk_cons chk60 (chk_cons chk61 (chk_cons chk62 (chk_cons chk63 (chk_cons chk64 (chk_cons chk65 (chk_cons chk66 (chk_cons chk67 (chk_cons chk68 (chk_cons chk69 (chk_cons chk70 (chk_cons chk71 (chk_cons chk72 (chk_cons chk73 (chk_cons chk74 (chk_cons chk75 (chk_cons chk76 (chk_cons chk77 (chk_cons chk78 (chk_cons chk79 (ctl80))))))))))))))))))))
def tl40 : List AFun := F40 :: F41 :: F42 :: F43 :: F44 :: F45 :: F46 :: F47 :: F48 :: F49 :: F50 :: F51 :: F52 :: F53 :: F54 :: F55 :: F56 :: F57 :: F58 :: F59 :: tl60
theorem ctl40 : ∀ G ∈ tl40, chkFun PP T G = true := chk_cons chk40 (chk_cons chk41 (chk_cons chk42 (chk_cons chk43 (chk_cons chk44 (chk_cons chk45 (chk_cons chk46 (chk_cons chk47 (chk_cons chk48 (chk_cons chk49 (chk_cons chk50 (chk_cons chk51 (chk_cons chk52 (chk_cons chk53 (chk_cons chk54 (chk_cons chk55 (chk_cons chk56 (chk_cons chk57 (chk_cons chk58 (chk_cons chk59 (ctl60))))))))))))))))))))
def tl20 : List AFun := F20 :: F21 :: F22 :: F23 :: F24 :: F25 :: F26 :: F27 :: F28 :: F29 :: F30 :: F31 :: F32 :: F33 :: F34 :: F35 :: F36 :: F37 :: F38 :: F39 :: tl40
theorem ctl20 : ∀ G ∈ tl20, chkFun PP T G = true := chk_cons chk20 (chk_cons chk21 (chk_cons chk22 (chk_cons chk23 (chk_cons chk24 (chk_cons chk25 (chk_cons chk26 (chk_cons chk27 (chk_cons chk28 (chk_cons chk29 (chk_cons chk30 (chk_cons chk31 (chk_cons chk32 (chk_cons chk33 (chk_cons chk34 (chk_cons chk35 (chk_cons chk36 (chk_cons chk37 (chk_cons chk38 (chk_cons chk39 (ctl40))))))))))))))))))))
def tl0 : List AFun := F0 :: F1 :: F2 :: F3 :: F4 :: F5 :: F6 :: F7 :: F8 :: F9 :: F10 :: F11 :: F12 :: F13 :: F14 :: F15 :: F16 :: F17 :: F18 :: F19 :: tl20
theorem ctl0 : ∀ G ∈ tl0, chkFun PP T G = true := chk_cons chk0 (chk_cons chk1 (chk_cons chk2 (chk_cons chk3 (chk_cons chk4 (chk_cons chk5 (chk_cons chk6 (chk_cons chk7 (chk_cons chk8 (chk_cons chk9 (chk_cons chk10 (chk_cons chk11 (chk_cons chk12 (chk_cons chk13 (chk_cons chk14 (chk_cons chk15 (chk_cons chk16 (chk_cons chk17 (chk_cons chk18 (chk_cons chk19 (ctl20))))))))))))))))))))
theorem checked : Checked PP T := ctl0
end Go.Proofs.YtmflphfmefakfaaGreatDoor.Av
