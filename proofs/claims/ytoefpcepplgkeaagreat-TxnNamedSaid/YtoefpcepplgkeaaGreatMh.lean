/- The tables of this seat are true. Printed by a program. The tables are true: together. -/
import Derived.Test.YtoefpcepplgkeaaGreatMg
import Derived.Test.YtoefpcepplgkeaaGreatMc
import Derived.KernelRfl
section
set_option maxRecDepth 100000
namespace Go.Proofs.YtoefpcepplgkeaaGreat
open Go Go.Ev
def FnOk (P : Program) (f : Nat) (i : FI) : Prop := (∃ fn, P.funcs[f]? = some fn ∧ fn.body = some i.body ∧ fn.ntmps = i.nt ∧ fn.results.toList = i.res) ∧ ∀ args w, (callFunc f args).run P w = .ok (.enter f args) w

theorem fo2 : FnOk Tryz.prog 2 fi2 := ⟨⟨Tryz.f2, Tryz.func2, rfl, rfl, rfl⟩, Tryz.call2⟩
theorem fo3 : FnOk Tryz.prog 3 fi3 := ⟨⟨Tryz.f3, Tryz.func3, rfl, rfl, rfl⟩, Tryz.call3⟩
theorem fo4 : FnOk Tryz.prog 4 fi4 := ⟨⟨Tryz.f4, Tryz.func4, rfl, rfl, rfl⟩, Tryz.call4⟩
theorem fo5 : FnOk Tryz.prog 5 fi5 := ⟨⟨Tryz.f5, Tryz.func5, rfl, rfl, rfl⟩, Tryz.call5⟩
theorem fo6 : FnOk Tryz.prog 6 fi6 := ⟨⟨Tryz.f6, Tryz.func6, rfl, rfl, rfl⟩, Tryz.call6⟩
theorem fo7 : FnOk Tryz.prog 7 fi7 := ⟨⟨Tryz.f7, Tryz.func7, rfl, rfl, rfl⟩, Tryz.call7⟩
theorem fo8 : FnOk Tryz.prog 8 fi8 := ⟨⟨Tryz.f8, Tryz.func8, rfl, rfl, rfl⟩, Tryz.call8⟩
theorem fo9 : FnOk Tryz.prog 9 fi9 := ⟨⟨Tryz.f9, Tryz.func9, rfl, rfl, rfl⟩, Tryz.call9⟩
theorem fo10 : FnOk Tryz.prog 10 fi10 := ⟨⟨Tryz.f10, Tryz.func10, rfl, rfl, rfl⟩, Tryz.call10⟩
theorem fo11 : FnOk Tryz.prog 11 fi11 := ⟨⟨Tryz.f11, Tryz.func11, rfl, rfl, rfl⟩, Tryz.call11⟩
theorem fo12 : FnOk Tryz.prog 12 fi12 := ⟨⟨Tryz.f12, Tryz.func12, rfl, rfl, rfl⟩, Tryz.call12⟩
theorem fo13 : FnOk Tryz.prog 13 fi13 := ⟨⟨Tryz.f13, Tryz.func13, rfl, rfl, rfl⟩, Tryz.call13⟩
theorem fo14 : FnOk Tryz.prog 14 fi14 := ⟨⟨Tryz.f14, Tryz.func14, rfl, rfl, rfl⟩, Tryz.call14⟩
theorem fo15 : FnOk Tryz.prog 15 fi15 := ⟨⟨Tryz.f15, Tryz.func15, rfl, rfl, rfl⟩, Tryz.call15⟩
theorem fo16 : FnOk Tryz.prog 16 fi16 := ⟨⟨Tryz.f16, Tryz.func16, rfl, rfl, rfl⟩, Tryz.call16⟩
theorem fo17 : FnOk Tryz.prog 17 fi17 := ⟨⟨Tryz.f17, Tryz.func17, rfl, rfl, rfl⟩, Tryz.call17⟩
theorem fo18 : FnOk Tryz.prog 18 fi18 := ⟨⟨Tryz.f18, Tryz.func18, rfl, rfl, rfl⟩, Tryz.call18⟩
theorem fo19 : FnOk Tryz.prog 19 fi19 := ⟨⟨Tryz.f19, Tryz.func19, rfl, rfl, rfl⟩, Tryz.call19⟩
theorem fo20 : FnOk Tryz.prog 20 fi20 := ⟨⟨Tryz.f20, Tryz.func20, rfl, rfl, rfl⟩, Tryz.call20⟩
theorem fo21 : FnOk Tryz.prog 21 fi21 := ⟨⟨Tryz.f21, Tryz.func21, rfl, rfl, rfl⟩, Tryz.call21⟩
theorem fo22 : FnOk Tryz.prog 22 fi22 := ⟨⟨Tryz.f22, Tryz.func22, rfl, rfl, rfl⟩, Tryz.call22⟩
theorem fo23 : FnOk Tryz.prog 23 fi23 := ⟨⟨Tryz.f23, Tryz.func23, rfl, rfl, rfl⟩, Tryz.call23⟩
theorem fo24 : FnOk Tryz.prog 24 fi24 := ⟨⟨Tryz.f24, Tryz.func24, rfl, rfl, rfl⟩, Tryz.call24⟩
theorem fo25 : FnOk Tryz.prog 25 fi25 := ⟨⟨Tryz.f25, Tryz.func25, rfl, rfl, rfl⟩, Tryz.call25⟩
theorem fo26 : FnOk Tryz.prog 26 fi26 := ⟨⟨Tryz.f26, Tryz.func26, rfl, rfl, rfl⟩, Tryz.call26⟩
theorem fo27 : FnOk Tryz.prog 27 fi27 := ⟨⟨Tryz.f27, Tryz.func27, rfl, rfl, rfl⟩, Tryz.call27⟩
theorem fo28 : FnOk Tryz.prog 28 fi28 := ⟨⟨Tryz.f28, Tryz.func28, rfl, rfl, rfl⟩, Tryz.call28⟩
theorem fo29 : FnOk Tryz.prog 29 fi29 := ⟨⟨Tryz.f29, Tryz.func29, rfl, rfl, rfl⟩, Tryz.call29⟩
theorem fo30 : FnOk Tryz.prog 30 fi30 := ⟨⟨Tryz.f30, Tryz.func30, rfl, rfl, rfl⟩, Tryz.call30⟩
theorem fo31 : FnOk Tryz.prog 31 fi31 := ⟨⟨Tryz.f31, Tryz.func31, rfl, rfl, rfl⟩, Tryz.call31⟩
theorem fo32 : FnOk Tryz.prog 32 fi32 := ⟨⟨Tryz.f32, Tryz.func32, rfl, rfl, rfl⟩, Tryz.call32⟩
theorem fo33 : FnOk Tryz.prog 33 fi33 := ⟨⟨Tryz.f33, Tryz.func33, rfl, rfl, rfl⟩, Tryz.call33⟩
theorem fo34 : FnOk Tryz.prog 34 fi34 := ⟨⟨Tryz.f34, Tryz.func34, rfl, rfl, rfl⟩, Tryz.call34⟩
theorem fo35 : FnOk Tryz.prog 35 fi35 := ⟨⟨Tryz.f35, Tryz.func35, rfl, rfl, rfl⟩, Tryz.call35⟩
theorem fo36 : FnOk Tryz.prog 36 fi36 := ⟨⟨Tryz.f36, Tryz.func36, rfl, rfl, rfl⟩, Tryz.call36⟩
theorem fo37 : FnOk Tryz.prog 37 fi37 := ⟨⟨Tryz.f37, Tryz.func37, rfl, rfl, rfl⟩, Tryz.call37⟩
theorem fo38 : FnOk Tryz.prog 38 fi38 := ⟨⟨Tryz.f38, Tryz.func38, rfl, rfl, rfl⟩, Tryz.call38⟩
theorem fo39 : FnOk Tryz.prog 39 fi39 := ⟨⟨Tryz.f39, Tryz.func39, rfl, rfl, rfl⟩, Tryz.call39⟩
theorem fo40 : FnOk Tryz.prog 40 fi40 := ⟨⟨Tryz.f40, Tryz.func40, rfl, rfl, rfl⟩, Tryz.call40⟩
theorem fo41 : FnOk Tryz.prog 41 fi41 := ⟨⟨Tryz.f41, Tryz.func41, rfl, rfl, rfl⟩, Tryz.call41⟩
theorem fo42 : FnOk Tryz.prog 42 fi42 := ⟨⟨Tryz.f42, Tryz.func42, rfl, rfl, rfl⟩, Tryz.call42⟩
theorem fo43 : FnOk Tryz.prog 43 fi43 := ⟨⟨Tryz.f43, Tryz.func43, rfl, rfl, rfl⟩, Tryz.call43⟩
theorem fo44 : FnOk Tryz.prog 44 fi44 := ⟨⟨Tryz.f44, Tryz.func44, rfl, rfl, rfl⟩, Tryz.call44⟩
theorem fo45 : FnOk Tryz.prog 45 fi45 := ⟨⟨Tryz.f45, Tryz.func45, rfl, rfl, rfl⟩, Tryz.call45⟩
theorem fo46 : FnOk Tryz.prog 46 fi46 := ⟨⟨Tryz.f46, Tryz.func46, rfl, rfl, rfl⟩, Tryz.call46⟩
theorem fo47 : FnOk Tryz.prog 47 fi47 := ⟨⟨Tryz.f47, Tryz.func47, rfl, rfl, rfl⟩, Tryz.call47⟩
theorem fo48 : FnOk Tryz.prog 48 fi48 := ⟨⟨Tryz.f48, Tryz.func48, rfl, rfl, rfl⟩, Tryz.call48⟩
theorem fo49 : FnOk Tryz.prog 49 fi49 := ⟨⟨Tryz.f49, Tryz.func49, rfl, rfl, rfl⟩, Tryz.call49⟩
theorem fo50 : FnOk Tryz.prog 50 fi50 := ⟨⟨Tryz.f50, Tryz.func50, rfl, rfl, rfl⟩, Tryz.call50⟩
theorem fo51 : FnOk Tryz.prog 51 fi51 := ⟨⟨Tryz.f51, Tryz.func51, rfl, rfl, rfl⟩, Tryz.call51⟩
theorem fo52 : FnOk Tryz.prog 52 fi52 := ⟨⟨Tryz.f52, Tryz.func52, rfl, rfl, rfl⟩, Tryz.call52⟩
theorem fo53 : FnOk Tryz.prog 53 fi53 := ⟨⟨Tryz.f53, Tryz.func53, rfl, rfl, rfl⟩, Tryz.call53⟩
theorem fo54 : FnOk Tryz.prog 54 fi54 := ⟨⟨Tryz.f54, Tryz.func54, rfl, rfl, rfl⟩, Tryz.call54⟩
theorem fo55 : FnOk Tryz.prog 55 fi55 := ⟨⟨Tryz.f55, Tryz.func55, rfl, rfl, rfl⟩, Tryz.call55⟩
theorem fo56 : FnOk Tryz.prog 56 fi56 := ⟨⟨Tryz.f56, Tryz.func56, rfl, rfl, rfl⟩, Tryz.call56⟩
theorem fo57 : FnOk Tryz.prog 57 fi57 := ⟨⟨Tryz.f57, Tryz.func57, rfl, rfl, rfl⟩, Tryz.call57⟩
theorem fo58 : FnOk Tryz.prog 58 fi58 := ⟨⟨Tryz.f58, Tryz.func58, rfl, rfl, rfl⟩, Tryz.call58⟩
theorem fo59 : FnOk Tryz.prog 59 fi59 := ⟨⟨Tryz.f59, Tryz.func59, rfl, rfl, rfl⟩, Tryz.call59⟩
theorem fo60 : FnOk Tryz.prog 60 fi60 := ⟨⟨Tryz.f60, Tryz.func60, rfl, rfl, rfl⟩, Tryz.call60⟩
theorem fo61 : FnOk Tryz.prog 61 fi61 := ⟨⟨Tryz.f61, Tryz.func61, rfl, rfl, rfl⟩, Tryz.call61⟩
theorem fo62 : FnOk Tryz.prog 62 fi62 := ⟨⟨Tryz.f62, Tryz.func62, rfl, rfl, rfl⟩, Tryz.call62⟩
theorem fo63 : FnOk Tryz.prog 63 fi63 := ⟨⟨Tryz.f63, Tryz.func63, rfl, rfl, rfl⟩, Tryz.call63⟩
theorem fo64 : FnOk Tryz.prog 64 fi64 := ⟨⟨Tryz.f64, Tryz.func64, rfl, rfl, rfl⟩, Tryz.call64⟩
theorem fo65 : FnOk Tryz.prog 65 fi65 := ⟨⟨Tryz.f65, Tryz.func65, rfl, rfl, rfl⟩, Tryz.call65⟩
theorem fo66 : FnOk Tryz.prog 66 fi66 := ⟨⟨Tryz.f66, Tryz.func66, rfl, rfl, rfl⟩, Tryz.call66⟩
theorem fo67 : FnOk Tryz.prog 67 fi67 := ⟨⟨Tryz.f67, Tryz.func67, rfl, rfl, rfl⟩, Tryz.call67⟩
theorem fo68 : FnOk Tryz.prog 68 fi68 := ⟨⟨Tryz.f68, Tryz.func68, rfl, rfl, rfl⟩, Tryz.call68⟩
theorem fo69 : FnOk Tryz.prog 69 fi69 := ⟨⟨Tryz.f69, Tryz.func69, rfl, rfl, rfl⟩, Tryz.call69⟩
theorem fo70 : FnOk Tryz.prog 70 fi70 := ⟨⟨Tryz.f70, Tryz.func70, rfl, rfl, rfl⟩, Tryz.call70⟩
theorem fo71 : FnOk Tryz.prog 71 fi71 := ⟨⟨Tryz.f71, Tryz.func71, rfl, rfl, rfl⟩, Tryz.call71⟩
theorem fo72 : FnOk Tryz.prog 72 fi72 := ⟨⟨Tryz.f72, Tryz.func72, rfl, rfl, rfl⟩, Tryz.call72⟩
theorem fo73 : FnOk Tryz.prog 73 fi73 := ⟨⟨Tryz.f73, Tryz.func73, rfl, rfl, rfl⟩, Tryz.call73⟩
theorem fo74 : FnOk Tryz.prog 74 fi74 := ⟨⟨Tryz.f74, Tryz.func74, rfl, rfl, rfl⟩, Tryz.call74⟩
theorem fo75 : FnOk Tryz.prog 75 fi75 := ⟨⟨Tryz.f75, Tryz.func75, rfl, rfl, rfl⟩, Tryz.call75⟩
theorem fo76 : FnOk Tryz.prog 76 fi76 := ⟨⟨Tryz.f76, Tryz.func76, rfl, rfl, rfl⟩, Tryz.call76⟩
theorem fo77 : FnOk Tryz.prog 77 fi77 := ⟨⟨Tryz.f77, Tryz.func77, rfl, rfl, rfl⟩, Tryz.call77⟩
theorem fo78 : FnOk Tryz.prog 78 fi78 := ⟨⟨Tryz.f78, Tryz.func78, rfl, rfl, rfl⟩, Tryz.call78⟩
theorem fo79 : FnOk Tryz.prog 79 fi79 := ⟨⟨Tryz.f79, Tryz.func79, rfl, rfl, rfl⟩, Tryz.call79⟩
theorem fo80 : FnOk Tryz.prog 80 fi80 := ⟨⟨Tryz.f80, Tryz.func80, rfl, rfl, rfl⟩, Tryz.call80⟩
theorem fo81 : FnOk Tryz.prog 81 fi81 := ⟨⟨Tryz.f81, Tryz.func81, rfl, rfl, rfl⟩, Tryz.call81⟩
theorem fo82 : FnOk Tryz.prog 82 fi82 := ⟨⟨Tryz.f82, Tryz.func82, rfl, rfl, rfl⟩, Tryz.call82⟩
theorem fo83 : FnOk Tryz.prog 83 fi83 := ⟨⟨Tryz.f83, Tryz.func83, rfl, rfl, rfl⟩, Tryz.call83⟩
theorem fo84 : FnOk Tryz.prog 84 fi84 := ⟨⟨Tryz.f84, Tryz.func84, rfl, rfl, rfl⟩, Tryz.call84⟩
theorem fo85 : FnOk Tryz.prog 85 fi85 := ⟨⟨Tryz.f85, Tryz.func85, rfl, rfl, rfl⟩, Tryz.call85⟩
theorem fo86 : FnOk Tryz.prog 86 fi86 := ⟨⟨Tryz.f86, Tryz.func86, rfl, rfl, rfl⟩, Tryz.call86⟩
theorem fo87 : FnOk Tryz.prog 87 fi87 := ⟨⟨Tryz.f87, Tryz.func87, rfl, rfl, rfl⟩, Tryz.call87⟩
theorem fo88 : FnOk Tryz.prog 88 fi88 := ⟨⟨Tryz.f88, Tryz.func88, rfl, rfl, rfl⟩, Tryz.call88⟩
theorem fo89 : FnOk Tryz.prog 89 fi89 := ⟨⟨Tryz.f89, Tryz.func89, rfl, rfl, rfl⟩, Tryz.call89⟩
theorem fo90 : FnOk Tryz.prog 90 fi90 := ⟨⟨Tryz.f90, Tryz.func90, rfl, rfl, rfl⟩, Tryz.call90⟩
theorem fo91 : FnOk Tryz.prog 91 fi91 := ⟨⟨Tryz.f91, Tryz.func91, rfl, rfl, rfl⟩, Tryz.call91⟩
theorem fo92 : FnOk Tryz.prog 92 fi92 := ⟨⟨Tryz.f92, Tryz.func92, rfl, rfl, rfl⟩, Tryz.call92⟩
theorem fo93 : FnOk Tryz.prog 93 fi93 := ⟨⟨Tryz.f93, Tryz.func93, rfl, rfl, rfl⟩, Tryz.call93⟩
theorem fo94 : FnOk Tryz.prog 94 fi94 := ⟨⟨Tryz.f94, Tryz.func94, rfl, rfl, rfl⟩, Tryz.call94⟩
theorem fo95 : FnOk Tryz.prog 95 fi95 := ⟨⟨Tryz.f95, Tryz.func95, rfl, rfl, rfl⟩, Tryz.call95⟩
theorem fo96 : FnOk Tryz.prog 96 fi96 := ⟨⟨Tryz.f96, Tryz.func96, rfl, rfl, rfl⟩, Tryz.call96⟩
theorem fo97 : FnOk Tryz.prog 97 fi97 := ⟨⟨Tryz.f97, Tryz.func97, rfl, rfl, rfl⟩, Tryz.call97⟩
theorem fo98 : FnOk Tryz.prog 98 fi98 := ⟨⟨Tryz.f98, Tryz.func98, rfl, rfl, rfl⟩, Tryz.call98⟩
theorem fo99 : FnOk Tryz.prog 99 fi99 := ⟨⟨Tryz.f99, Tryz.func99, rfl, rfl, rfl⟩, Tryz.call99⟩
theorem fo100 : FnOk Tryz.prog 100 fi100 := ⟨⟨Tryz.f100, Tryz.func100, rfl, rfl, rfl⟩, Tryz.call100⟩
theorem fo101 : FnOk Tryz.prog 101 fi101 := ⟨⟨Tryz.f101, Tryz.func101, rfl, rfl, rfl⟩, Tryz.call101⟩
theorem fo102 : FnOk Tryz.prog 102 fi102 := ⟨⟨Tryz.f102, Tryz.func102, rfl, rfl, rfl⟩, Tryz.call102⟩
theorem fo103 : FnOk Tryz.prog 103 fi103 := ⟨⟨Tryz.f103, Tryz.func103, rfl, rfl, rfl⟩, Tryz.call103⟩
theorem fo104 : FnOk Tryz.prog 104 fi104 := ⟨⟨Tryz.f104, Tryz.func104, rfl, rfl, rfl⟩, Tryz.call104⟩
theorem fo105 : FnOk Tryz.prog 105 fi105 := ⟨⟨Tryz.f105, Tryz.func105, rfl, rfl, rfl⟩, Tryz.call105⟩
theorem fo106 : FnOk Tryz.prog 106 fi106 := ⟨⟨Tryz.f106, Tryz.func106, rfl, rfl, rfl⟩, Tryz.call106⟩
theorem fo107 : FnOk Tryz.prog 107 fi107 := ⟨⟨Tryz.f107, Tryz.func107, rfl, rfl, rfl⟩, Tryz.call107⟩
theorem fo108 : FnOk Tryz.prog 108 fi108 := ⟨⟨Tryz.f108, Tryz.func108, rfl, rfl, rfl⟩, Tryz.call108⟩
theorem fo109 : FnOk Tryz.prog 109 fi109 := ⟨⟨Tryz.f109, Tryz.func109, rfl, rfl, rfl⟩, Tryz.call109⟩
theorem fo110 : FnOk Tryz.prog 110 fi110 := ⟨⟨Tryz.f110, Tryz.func110, rfl, rfl, rfl⟩, Tryz.call110⟩
theorem fo111 : FnOk Tryz.prog 111 fi111 := ⟨⟨Tryz.f111, Tryz.func111, rfl, rfl, rfl⟩, Tryz.call111⟩
theorem fo112 : FnOk Tryz.prog 112 fi112 := ⟨⟨Tryz.f112, Tryz.func112, rfl, rfl, rfl⟩, Tryz.call112⟩
theorem fo113 : FnOk Tryz.prog 113 fi113 := ⟨⟨Tryz.f113, Tryz.func113, rfl, rfl, rfl⟩, Tryz.call113⟩
theorem fo114 : FnOk Tryz.prog 114 fi114 := ⟨⟨Tryz.f114, Tryz.func114, rfl, rfl, rfl⟩, Tryz.call114⟩
theorem fo115 : FnOk Tryz.prog 115 fi115 := ⟨⟨Tryz.f115, Tryz.func115, rfl, rfl, rfl⟩, Tryz.call115⟩
theorem fo116 : FnOk Tryz.prog 116 fi116 := ⟨⟨Tryz.f116, Tryz.func116, rfl, rfl, rfl⟩, Tryz.call116⟩
theorem fo117 : FnOk Tryz.prog 117 fi117 := ⟨⟨Tryz.f117, Tryz.func117, rfl, rfl, rfl⟩, Tryz.call117⟩
theorem fo118 : FnOk Tryz.prog 118 fi118 := ⟨⟨Tryz.f118, Tryz.func118, rfl, rfl, rfl⟩, Tryz.call118⟩
theorem fo119 : FnOk Tryz.prog 119 fi119 := ⟨⟨Tryz.f119, Tryz.func119, rfl, rfl, rfl⟩, Tryz.call119⟩
theorem fo120 : FnOk Tryz.prog 120 fi120 := ⟨⟨Tryz.f120, Tryz.func120, rfl, rfl, rfl⟩, Tryz.call120⟩
theorem fo121 : FnOk Tryz.prog 121 fi121 := ⟨⟨Tryz.f121, Tryz.func121, rfl, rfl, rfl⟩, Tryz.call121⟩
theorem fo122 : FnOk Tryz.prog 122 fi122 := ⟨⟨Tryz.f122, Tryz.func122, rfl, rfl, rfl⟩, Tryz.call122⟩
theorem fo123 : FnOk Tryz.prog 123 fi123 := ⟨⟨Tryz.f123, Tryz.func123, rfl, rfl, rfl⟩, Tryz.call123⟩
theorem fo124 : FnOk Tryz.prog 124 fi124 := ⟨⟨Tryz.f124, Tryz.func124, rfl, rfl, rfl⟩, Tryz.call124⟩
theorem fo125 : FnOk Tryz.prog 125 fi125 := ⟨⟨Tryz.f125, Tryz.func125, rfl, rfl, rfl⟩, Tryz.call125⟩
theorem fo126 : FnOk Tryz.prog 126 fi126 := ⟨⟨Tryz.f126, Tryz.func126, rfl, rfl, rfl⟩, Tryz.call126⟩
theorem fo127 : FnOk Tryz.prog 127 fi127 := ⟨⟨Tryz.f127, Tryz.func127, rfl, rfl, rfl⟩, Tryz.call127⟩
theorem fo128 : FnOk Tryz.prog 128 fi128 := ⟨⟨Tryz.f128, Tryz.func128, rfl, rfl, rfl⟩, Tryz.call128⟩
theorem fo129 : FnOk Tryz.prog 129 fi129 := ⟨⟨Tryz.f129, Tryz.func129, rfl, rfl, rfl⟩, Tryz.call129⟩
theorem fo130 : FnOk Tryz.prog 130 fi130 := ⟨⟨Tryz.f130, Tryz.func130, rfl, rfl, rfl⟩, Tryz.call130⟩
theorem fo131 : FnOk Tryz.prog 131 fi131 := ⟨⟨Tryz.f131, Tryz.func131, rfl, rfl, rfl⟩, Tryz.call131⟩
theorem fo132 : FnOk Tryz.prog 132 fi132 := ⟨⟨Tryz.f132, Tryz.func132, rfl, rfl, rfl⟩, Tryz.call132⟩
theorem fo133 : FnOk Tryz.prog 133 fi133 := ⟨⟨Tryz.f133, Tryz.func133, rfl, rfl, rfl⟩, Tryz.call133⟩
theorem fo134 : FnOk Tryz.prog 134 fi134 := ⟨⟨Tryz.f134, Tryz.func134, rfl, rfl, rfl⟩, Tryz.call134⟩
theorem fo135 : FnOk Tryz.prog 135 fi135 := ⟨⟨Tryz.f135, Tryz.func135, rfl, rfl, rfl⟩, Tryz.call135⟩
theorem fo136 : FnOk Tryz.prog 136 fi136 := ⟨⟨Tryz.f136, Tryz.func136, rfl, rfl, rfl⟩, Tryz.call136⟩
theorem fo137 : FnOk Tryz.prog 137 fi137 := ⟨⟨Tryz.f137, Tryz.func137, rfl, rfl, rfl⟩, Tryz.call137⟩
theorem fo138 : FnOk Tryz.prog 138 fi138 := ⟨⟨Tryz.f138, Tryz.func138, rfl, rfl, rfl⟩, Tryz.call138⟩
theorem fo139 : FnOk Tryz.prog 139 fi139 := ⟨⟨Tryz.f139, Tryz.func139, rfl, rfl, rfl⟩, Tryz.call139⟩
theorem fo140 : FnOk Tryz.prog 140 fi140 := ⟨⟨Tryz.f140, Tryz.func140, rfl, rfl, rfl⟩, Tryz.call140⟩
theorem fo141 : FnOk Tryz.prog 141 fi141 := ⟨⟨Tryz.f141, Tryz.func141, rfl, rfl, rfl⟩, Tryz.call141⟩
theorem fo142 : FnOk Tryz.prog 142 fi142 := ⟨⟨Tryz.f142, Tryz.func142, rfl, rfl, rfl⟩, Tryz.call142⟩
theorem fo143 : FnOk Tryz.prog 143 fi143 := ⟨⟨Tryz.f143, Tryz.func143, rfl, rfl, rfl⟩, Tryz.call143⟩
theorem fo144 : FnOk Tryz.prog 144 fi144 := ⟨⟨Tryz.f144, Tryz.func144, rfl, rfl, rfl⟩, Tryz.call144⟩
theorem fo145 : FnOk Tryz.prog 145 fi145 := ⟨⟨Tryz.f145, Tryz.func145, rfl, rfl, rfl⟩, Tryz.call145⟩
theorem fo146 : FnOk Tryz.prog 146 fi146 := ⟨⟨Tryz.f146, Tryz.func146, rfl, rfl, rfl⟩, Tryz.call146⟩
theorem fo147 : FnOk Tryz.prog 147 fi147 := ⟨⟨Tryz.f147, Tryz.func147, rfl, rfl, rfl⟩, Tryz.call147⟩
theorem fo148 : FnOk Tryz.prog 148 fi148 := ⟨⟨Tryz.f148, Tryz.func148, rfl, rfl, rfl⟩, Tryz.call148⟩
theorem fo149 : FnOk Tryz.prog 149 fi149 := ⟨⟨Tryz.f149, Tryz.func149, rfl, rfl, rfl⟩, Tryz.call149⟩
theorem fo150 : FnOk Tryz.prog 150 fi150 := ⟨⟨Tryz.f150, Tryz.func150, rfl, rfl, rfl⟩, Tryz.call150⟩
theorem fo151 : FnOk Tryz.prog 151 fi151 := ⟨⟨Tryz.f151, Tryz.func151, rfl, rfl, rfl⟩, Tryz.call151⟩
theorem fo152 : FnOk Tryz.prog 152 fi152 := ⟨⟨Tryz.f152, Tryz.func152, rfl, rfl, rfl⟩, Tryz.call152⟩
theorem fo153 : FnOk Tryz.prog 153 fi153 := ⟨⟨Tryz.f153, Tryz.func153, rfl, rfl, rfl⟩, Tryz.call153⟩
theorem fo154 : FnOk Tryz.prog 154 fi154 := ⟨⟨Tryz.f154, Tryz.func154, rfl, rfl, rfl⟩, Tryz.call154⟩
theorem fo155 : FnOk Tryz.prog 155 fi155 := ⟨⟨Tryz.f155, Tryz.func155, rfl, rfl, rfl⟩, Tryz.call155⟩
theorem fo156 : FnOk Tryz.prog 156 fi156 := ⟨⟨Tryz.f156, Tryz.func156, rfl, rfl, rfl⟩, Tryz.call156⟩
theorem fo157 : FnOk Tryz.prog 157 fi157 := ⟨⟨Tryz.f157, Tryz.func157, rfl, rfl, rfl⟩, Tryz.call157⟩
theorem fo158 : FnOk Tryz.prog 158 fi158 := ⟨⟨Tryz.f158, Tryz.func158, rfl, rfl, rfl⟩, Tryz.call158⟩
theorem fo159 : FnOk Tryz.prog 159 fi159 := ⟨⟨Tryz.f159, Tryz.func159, rfl, rfl, rfl⟩, Tryz.call159⟩
theorem fo160 : FnOk Tryz.prog 160 fi160 := ⟨⟨Tryz.f160, Tryz.func160, rfl, rfl, rfl⟩, Tryz.call160⟩
theorem fo161 : FnOk Tryz.prog 161 fi161 := ⟨⟨Tryz.f161, Tryz.func161, rfl, rfl, rfl⟩, Tryz.call161⟩
theorem fo162 : FnOk Tryz.prog 162 fi162 := ⟨⟨Tryz.f162, Tryz.func162, rfl, rfl, rfl⟩, Tryz.call162⟩
theorem fo164 : FnOk Tryz.prog 164 fi164 := ⟨⟨Tryz.f164, Tryz.func164, rfl, rfl, rfl⟩, Tryz.call164⟩
theorem fo165 : FnOk Tryz.prog 165 fi165 := ⟨⟨Tryz.f165, Tryz.func165, rfl, rfl, rfl⟩, Tryz.call165⟩
theorem fo166 : FnOk Tryz.prog 166 fi166 := ⟨⟨Tryz.f166, Tryz.func166, rfl, rfl, rfl⟩, Tryz.call166⟩
theorem fo167 : FnOk Tryz.prog 167 fi167 := ⟨⟨Tryz.f167, Tryz.func167, rfl, rfl, rfl⟩, Tryz.call167⟩
theorem fo168 : FnOk Tryz.prog 168 fi168 := ⟨⟨Tryz.f168, Tryz.func168, rfl, rfl, rfl⟩, Tryz.call168⟩
theorem fo169 : FnOk Tryz.prog 169 fi169 := ⟨⟨Tryz.f169, Tryz.func169, rfl, rfl, rfl⟩, Tryz.call169⟩
theorem fo170 : FnOk Tryz.prog 170 fi170 := ⟨⟨Tryz.f170, Tryz.func170, rfl, rfl, rfl⟩, Tryz.call170⟩
theorem fo171 : FnOk Tryz.prog 171 fi171 := ⟨⟨Tryz.f171, Tryz.func171, rfl, rfl, rfl⟩, Tryz.call171⟩
theorem fo172 : FnOk Tryz.prog 172 fi172 := ⟨⟨Tryz.f172, Tryz.func172, rfl, rfl, rfl⟩, Tryz.call172⟩
theorem fo173 : FnOk Tryz.prog 173 fi173 := ⟨⟨Tryz.f173, Tryz.func173, rfl, rfl, rfl⟩, Tryz.call173⟩
theorem fo174 : FnOk Tryz.prog 174 fi174 := ⟨⟨Tryz.f174, Tryz.func174, rfl, rfl, rfl⟩, Tryz.call174⟩
theorem fo175 : FnOk Tryz.prog 175 fi175 := ⟨⟨Tryz.f175, Tryz.func175, rfl, rfl, rfl⟩, Tryz.call175⟩
theorem fo176 : FnOk Tryz.prog 176 fi176 := ⟨⟨Tryz.f176, Tryz.func176, rfl, rfl, rfl⟩, Tryz.call176⟩
theorem fo177 : FnOk Tryz.prog 177 fi177 := ⟨⟨Tryz.f177, Tryz.func177, rfl, rfl, rfl⟩, Tryz.call177⟩
theorem fo178 : FnOk Tryz.prog 178 fi178 := ⟨⟨Tryz.f178, Tryz.func178, rfl, rfl, rfl⟩, Tryz.call178⟩
theorem fo179 : FnOk Tryz.prog 179 fi179 := ⟨⟨Tryz.f179, Tryz.func179, rfl, rfl, rfl⟩, Tryz.call179⟩
theorem fo180 : FnOk Tryz.prog 180 fi180 := ⟨⟨Tryz.f180, Tryz.func180, rfl, rfl, rfl⟩, Tryz.call180⟩
theorem fo181 : FnOk Tryz.prog 181 fi181 := ⟨⟨Tryz.f181, Tryz.func181, rfl, rfl, rfl⟩, Tryz.call181⟩
theorem fo182 : FnOk Tryz.prog 182 fi182 := ⟨⟨Tryz.f182, Tryz.func182, rfl, rfl, rfl⟩, Tryz.call182⟩
theorem fo183 : FnOk Tryz.prog 183 fi183 := ⟨⟨Tryz.f183, Tryz.func183, rfl, rfl, rfl⟩, Tryz.call183⟩
theorem fo184 : FnOk Tryz.prog 184 fi184 := ⟨⟨Tryz.f184, Tryz.func184, rfl, rfl, rfl⟩, Tryz.call184⟩
theorem fo185 : FnOk Tryz.prog 185 fi185 := ⟨⟨Tryz.f185, Tryz.func185, rfl, rfl, rfl⟩, Tryz.call185⟩
theorem fo186 : FnOk Tryz.prog 186 fi186 := ⟨⟨Tryz.f186, Tryz.func186, rfl, rfl, rfl⟩, Tryz.call186⟩
theorem fo187 : FnOk Tryz.prog 187 fi187 := ⟨⟨Tryz.f187, Tryz.func187, rfl, rfl, rfl⟩, Tryz.call187⟩
theorem fo188 : FnOk Tryz.prog 188 fi188 := ⟨⟨Tryz.f188, Tryz.func188, rfl, rfl, rfl⟩, Tryz.call188⟩
theorem fo189 : FnOk Tryz.prog 189 fi189 := ⟨⟨Tryz.f189, Tryz.func189, rfl, rfl, rfl⟩, Tryz.call189⟩
theorem fo190 : FnOk Tryz.prog 190 fi190 := ⟨⟨Tryz.f190, Tryz.func190, rfl, rfl, rfl⟩, Tryz.call190⟩
theorem fo191 : FnOk Tryz.prog 191 fi191 := ⟨⟨Tryz.f191, Tryz.func191, rfl, rfl, rfl⟩, Tryz.call191⟩
theorem fo192 : FnOk Tryz.prog 192 fi192 := ⟨⟨Tryz.f192, Tryz.func192, rfl, rfl, rfl⟩, Tryz.call192⟩
theorem fo193 : FnOk Tryz.prog 193 fi193 := ⟨⟨Tryz.f193, Tryz.func193, rfl, rfl, rfl⟩, Tryz.call193⟩
theorem fo194 : FnOk Tryz.prog 194 fi194 := ⟨⟨Tryz.f194, Tryz.func194, rfl, rfl, rfl⟩, Tryz.call194⟩
theorem fo195 : FnOk Tryz.prog 195 fi195 := ⟨⟨Tryz.f195, Tryz.func195, rfl, rfl, rfl⟩, Tryz.call195⟩
theorem fo196 : FnOk Tryz.prog 196 fi196 := ⟨⟨Tryz.f196, Tryz.func196, rfl, rfl, rfl⟩, Tryz.call196⟩
theorem fo197 : FnOk Tryz.prog 197 fi197 := ⟨⟨Tryz.f197, Tryz.func197, rfl, rfl, rfl⟩, Tryz.call197⟩
theorem fo198 : FnOk Tryz.prog 198 fi198 := ⟨⟨Tryz.f198, Tryz.func198, rfl, rfl, rfl⟩, Tryz.call198⟩
theorem fo199 : FnOk Tryz.prog 199 fi199 := ⟨⟨Tryz.f199, Tryz.func199, rfl, rfl, rfl⟩, Tryz.call199⟩
theorem fo200 : FnOk Tryz.prog 200 fi200 := ⟨⟨Tryz.f200, Tryz.func200, rfl, rfl, rfl⟩, Tryz.call200⟩
theorem fo201 : FnOk Tryz.prog 201 fi201 := ⟨⟨Tryz.f201, Tryz.func201, rfl, rfl, rfl⟩, Tryz.call201⟩
theorem fo202 : FnOk Tryz.prog 202 fi202 := ⟨⟨Tryz.f202, Tryz.func202, rfl, rfl, rfl⟩, Tryz.call202⟩
theorem fo203 : FnOk Tryz.prog 203 fi203 := ⟨⟨Tryz.f203, Tryz.func203, rfl, rfl, rfl⟩, Tryz.call203⟩
theorem fo204 : FnOk Tryz.prog 204 fi204 := ⟨⟨Tryz.f204, Tryz.func204, rfl, rfl, rfl⟩, Tryz.call204⟩
theorem fo205 : FnOk Tryz.prog 205 fi205 := ⟨⟨Tryz.f205, Tryz.func205, rfl, rfl, rfl⟩, Tryz.call205⟩
theorem fo206 : FnOk Tryz.prog 206 fi206 := ⟨⟨Tryz.f206, Tryz.func206, rfl, rfl, rfl⟩, Tryz.call206⟩
theorem fo207 : FnOk Tryz.prog 207 fi207 := ⟨⟨Tryz.f207, Tryz.func207, rfl, rfl, rfl⟩, Tryz.call207⟩
theorem fo208 : FnOk Tryz.prog 208 fi208 := ⟨⟨Tryz.f208, Tryz.func208, rfl, rfl, rfl⟩, Tryz.call208⟩
theorem fo209 : FnOk Tryz.prog 209 fi209 := ⟨⟨Tryz.f209, Tryz.func209, rfl, rfl, rfl⟩, Tryz.call209⟩
theorem fo210 : FnOk Tryz.prog 210 fi210 := ⟨⟨Tryz.f210, Tryz.func210, rfl, rfl, rfl⟩, Tryz.call210⟩
theorem fo211 : FnOk Tryz.prog 211 fi211 := ⟨⟨Tryz.f211, Tryz.func211, rfl, rfl, rfl⟩, Tryz.call211⟩
theorem fo212 : FnOk Tryz.prog 212 fi212 := ⟨⟨Tryz.f212, Tryz.func212, rfl, rfl, rfl⟩, Tryz.call212⟩
theorem fo213 : FnOk Tryz.prog 213 fi213 := ⟨⟨Tryz.f213, Tryz.func213, rfl, rfl, rfl⟩, Tryz.call213⟩
theorem fo214 : FnOk Tryz.prog 214 fi214 := ⟨⟨Tryz.f214, Tryz.func214, rfl, rfl, rfl⟩, Tryz.call214⟩
theorem fo215 : FnOk Tryz.prog 215 fi215 := ⟨⟨Tryz.f215, Tryz.func215, rfl, rfl, rfl⟩, Tryz.call215⟩
theorem fo216 : FnOk Tryz.prog 216 fi216 := ⟨⟨Tryz.f216, Tryz.func216, rfl, rfl, rfl⟩, Tryz.call216⟩
theorem fo217 : FnOk Tryz.prog 217 fi217 := ⟨⟨Tryz.f217, Tryz.func217, rfl, rfl, rfl⟩, Tryz.call217⟩
theorem fo218 : FnOk Tryz.prog 218 fi218 := ⟨⟨Tryz.f218, Tryz.func218, rfl, rfl, rfl⟩, Tryz.call218⟩
theorem fo219 : FnOk Tryz.prog 219 fi219 := ⟨⟨Tryz.f219, Tryz.func219, rfl, rfl, rfl⟩, Tryz.call219⟩
theorem fo220 : FnOk Tryz.prog 220 fi220 := ⟨⟨Tryz.f220, Tryz.func220, rfl, rfl, rfl⟩, Tryz.call220⟩
theorem fo221 : FnOk Tryz.prog 221 fi221 := ⟨⟨Tryz.f221, Tryz.func221, rfl, rfl, rfl⟩, Tryz.call221⟩
theorem fo222 : FnOk Tryz.prog 222 fi222 := ⟨⟨Tryz.f222, Tryz.func222, rfl, rfl, rfl⟩, Tryz.call222⟩
theorem fo223 : FnOk Tryz.prog 223 fi223 := ⟨⟨Tryz.f223, Tryz.func223, rfl, rfl, rfl⟩, Tryz.call223⟩
theorem fo224 : FnOk Tryz.prog 224 fi224 := ⟨⟨Tryz.f224, Tryz.func224, rfl, rfl, rfl⟩, Tryz.call224⟩
theorem fo225 : FnOk Tryz.prog 225 fi225 := ⟨⟨Tryz.f225, Tryz.func225, rfl, rfl, rfl⟩, Tryz.call225⟩
theorem fo226 : FnOk Tryz.prog 226 fi226 := ⟨⟨Tryz.f226, Tryz.func226, rfl, rfl, rfl⟩, Tryz.call226⟩
theorem fo227 : FnOk Tryz.prog 227 fi227 := ⟨⟨Tryz.f227, Tryz.func227, rfl, rfl, rfl⟩, Tryz.call227⟩
theorem fo228 : FnOk Tryz.prog 228 fi228 := ⟨⟨Tryz.f228, Tryz.func228, rfl, rfl, rfl⟩, Tryz.call228⟩
theorem fo229 : FnOk Tryz.prog 229 fi229 := ⟨⟨Tryz.f229, Tryz.func229, rfl, rfl, rfl⟩, Tryz.call229⟩
theorem fo230 : FnOk Tryz.prog 230 fi230 := ⟨⟨Tryz.f230, Tryz.func230, rfl, rfl, rfl⟩, Tryz.call230⟩
theorem fo231 : FnOk Tryz.prog 231 fi231 := ⟨⟨Tryz.f231, Tryz.func231, rfl, rfl, rfl⟩, Tryz.call231⟩
theorem fo232 : FnOk Tryz.prog 232 fi232 := ⟨⟨Tryz.f232, Tryz.func232, rfl, rfl, rfl⟩, Tryz.call232⟩
theorem fo233 : FnOk Tryz.prog 233 fi233 := ⟨⟨Tryz.f233, Tryz.func233, rfl, rfl, rfl⟩, Tryz.call233⟩
theorem fo234 : FnOk Tryz.prog 234 fi234 := ⟨⟨Tryz.f234, Tryz.func234, rfl, rfl, rfl⟩, Tryz.call234⟩
theorem fo235 : FnOk Tryz.prog 235 fi235 := ⟨⟨Tryz.f235, Tryz.func235, rfl, rfl, rfl⟩, Tryz.call235⟩
theorem fo236 : FnOk Tryz.prog 236 fi236 := ⟨⟨Tryz.f236, Tryz.func236, rfl, rfl, rfl⟩, Tryz.call236⟩
theorem fo237 : FnOk Tryz.prog 237 fi237 := ⟨⟨Tryz.f237, Tryz.func237, rfl, rfl, rfl⟩, Tryz.call237⟩
theorem fo238 : FnOk Tryz.prog 238 fi238 := ⟨⟨Tryz.f238, Tryz.func238, rfl, rfl, rfl⟩, Tryz.call238⟩
theorem fo239 : FnOk Tryz.prog 239 fi239 := ⟨⟨Tryz.f239, Tryz.func239, rfl, rfl, rfl⟩, Tryz.call239⟩
theorem fo240 : FnOk Tryz.prog 240 fi240 := ⟨⟨Tryz.f240, Tryz.func240, rfl, rfl, rfl⟩, Tryz.call240⟩
theorem fo241 : FnOk Tryz.prog 241 fi241 := ⟨⟨Tryz.f241, Tryz.func241, rfl, rfl, rfl⟩, Tryz.call241⟩
theorem fo242 : FnOk Tryz.prog 242 fi242 := ⟨⟨Tryz.f242, Tryz.func242, rfl, rfl, rfl⟩, Tryz.call242⟩
theorem fo243 : FnOk Tryz.prog 243 fi243 := ⟨⟨Tryz.f243, Tryz.func243, rfl, rfl, rfl⟩, Tryz.call243⟩
theorem fo244 : FnOk Tryz.prog 244 fi244 := ⟨⟨Tryz.f244, Tryz.func244, rfl, rfl, rfl⟩, Tryz.call244⟩
theorem fo245 : FnOk Tryz.prog 245 fi245 := ⟨⟨Tryz.f245, Tryz.func245, rfl, rfl, rfl⟩, Tryz.call245⟩
theorem fo246 : FnOk Tryz.prog 246 fi246 := ⟨⟨Tryz.f246, Tryz.func246, rfl, rfl, rfl⟩, Tryz.call246⟩
theorem fo247 : FnOk Tryz.prog 247 fi247 := ⟨⟨Tryz.f247, Tryz.func247, rfl, rfl, rfl⟩, Tryz.call247⟩
theorem fo248 : FnOk Tryz.prog 248 fi248 := ⟨⟨Tryz.f248, Tryz.func248, rfl, rfl, rfl⟩, Tryz.call248⟩
theorem fo249 : FnOk Tryz.prog 249 fi249 := ⟨⟨Tryz.f249, Tryz.func249, rfl, rfl, rfl⟩, Tryz.call249⟩
theorem fo250 : FnOk Tryz.prog 250 fi250 := ⟨⟨Tryz.f250, Tryz.func250, rfl, rfl, rfl⟩, Tryz.call250⟩
theorem fo251 : FnOk Tryz.prog 251 fi251 := ⟨⟨Tryz.f251, Tryz.func251, rfl, rfl, rfl⟩, Tryz.call251⟩
theorem fo252 : FnOk Tryz.prog 252 fi252 := ⟨⟨Tryz.f252, Tryz.func252, rfl, rfl, rfl⟩, Tryz.call252⟩
theorem fo253 : FnOk Tryz.prog 253 fi253 := ⟨⟨Tryz.f253, Tryz.func253, rfl, rfl, rfl⟩, Tryz.call253⟩
theorem fo254 : FnOk Tryz.prog 254 fi254 := ⟨⟨Tryz.f254, Tryz.func254, rfl, rfl, rfl⟩, Tryz.call254⟩
theorem fo255 : FnOk Tryz.prog 255 fi255 := ⟨⟨Tryz.f255, Tryz.func255, rfl, rfl, rfl⟩, Tryz.call255⟩
theorem fo256 : FnOk Tryz.prog 256 fi256 := ⟨⟨Tryz.f256, Tryz.func256, rfl, rfl, rfl⟩, Tryz.call256⟩
theorem fo257 : FnOk Tryz.prog 257 fi257 := ⟨⟨Tryz.f257, Tryz.func257, rfl, rfl, rfl⟩, Tryz.call257⟩
theorem fo258 : FnOk Tryz.prog 258 fi258 := ⟨⟨Tryz.f258, Tryz.func258, rfl, rfl, rfl⟩, Tryz.call258⟩
theorem fo259 : FnOk Tryz.prog 259 fi259 := ⟨⟨Tryz.f259, Tryz.func259, rfl, rfl, rfl⟩, Tryz.call259⟩
theorem fo260 : FnOk Tryz.prog 260 fi260 := ⟨⟨Tryz.f260, Tryz.func260, rfl, rfl, rfl⟩, Tryz.call260⟩
theorem fo261 : FnOk Tryz.prog 261 fi261 := ⟨⟨Tryz.f261, Tryz.func261, rfl, rfl, rfl⟩, Tryz.call261⟩
theorem fo262 : FnOk Tryz.prog 262 fi262 := ⟨⟨Tryz.f262, Tryz.func262, rfl, rfl, rfl⟩, Tryz.call262⟩
theorem fo263 : FnOk Tryz.prog 263 fi263 := ⟨⟨Tryz.f263, Tryz.func263, rfl, rfl, rfl⟩, Tryz.call263⟩
theorem fo264 : FnOk Tryz.prog 264 fi264 := ⟨⟨Tryz.f264, Tryz.func264, rfl, rfl, rfl⟩, Tryz.call264⟩
theorem fo265 : FnOk Tryz.prog 265 fi265 := ⟨⟨Tryz.f265, Tryz.func265, rfl, rfl, rfl⟩, Tryz.call265⟩
theorem fo266 : FnOk Tryz.prog 266 fi266 := ⟨⟨Tryz.f266, Tryz.func266, rfl, rfl, rfl⟩, Tryz.call266⟩
theorem fo267 : FnOk Tryz.prog 267 fi267 := ⟨⟨Tryz.f267, Tryz.func267, rfl, rfl, rfl⟩, Tryz.call267⟩
theorem fo268 : FnOk Tryz.prog 268 fi268 := ⟨⟨Tryz.f268, Tryz.func268, rfl, rfl, rfl⟩, Tryz.call268⟩
theorem fo269 : FnOk Tryz.prog 269 fi269 := ⟨⟨Tryz.f269, Tryz.func269, rfl, rfl, rfl⟩, Tryz.call269⟩
theorem fo270 : FnOk Tryz.prog 270 fi270 := ⟨⟨Tryz.f270, Tryz.func270, rfl, rfl, rfl⟩, Tryz.call270⟩
theorem fo271 : FnOk Tryz.prog 271 fi271 := ⟨⟨Tryz.f271, Tryz.func271, rfl, rfl, rfl⟩, Tryz.call271⟩
theorem fo272 : FnOk Tryz.prog 272 fi272 := ⟨⟨Tryz.f272, Tryz.func272, rfl, rfl, rfl⟩, Tryz.call272⟩
theorem fo273 : FnOk Tryz.prog 273 fi273 := ⟨⟨Tryz.f273, Tryz.func273, rfl, rfl, rfl⟩, Tryz.call273⟩
theorem fo274 : FnOk Tryz.prog 274 fi274 := ⟨⟨Tryz.f274, Tryz.func274, rfl, rfl, rfl⟩, Tryz.call274⟩
theorem fo275 : FnOk Tryz.prog 275 fi275 := ⟨⟨Tryz.f275, Tryz.func275, rfl, rfl, rfl⟩, Tryz.call275⟩
theorem fo276 : FnOk Tryz.prog 276 fi276 := ⟨⟨Tryz.f276, Tryz.func276, rfl, rfl, rfl⟩, Tryz.call276⟩
theorem fo277 : FnOk Tryz.prog 277 fi277 := ⟨⟨Tryz.f277, Tryz.func277, rfl, rfl, rfl⟩, Tryz.call277⟩
theorem fo278 : FnOk Tryz.prog 278 fi278 := ⟨⟨Tryz.f278, Tryz.func278, rfl, rfl, rfl⟩, Tryz.call278⟩
theorem fo279 : FnOk Tryz.prog 279 fi279 := ⟨⟨Tryz.f279, Tryz.func279, rfl, rfl, rfl⟩, Tryz.call279⟩
theorem fo280 : FnOk Tryz.prog 280 fi280 := ⟨⟨Tryz.f280, Tryz.func280, rfl, rfl, rfl⟩, Tryz.call280⟩
theorem fo281 : FnOk Tryz.prog 281 fi281 := ⟨⟨Tryz.f281, Tryz.func281, rfl, rfl, rfl⟩, Tryz.call281⟩
theorem fo282 : FnOk Tryz.prog 282 fi282 := ⟨⟨Tryz.f282, Tryz.func282, rfl, rfl, rfl⟩, Tryz.call282⟩
theorem fo283 : FnOk Tryz.prog 283 fi283 := ⟨⟨Tryz.f283, Tryz.func283, rfl, rfl, rfl⟩, Tryz.call283⟩
theorem fo285 : FnOk Tryz.prog 285 fi285 := ⟨⟨Tryz.f285, Tryz.func285, rfl, rfl, rfl⟩, Tryz.call285⟩
theorem fo286 : FnOk Tryz.prog 286 fi286 := ⟨⟨Tryz.f286, Tryz.func286, rfl, rfl, rfl⟩, Tryz.call286⟩
theorem fo287 : FnOk Tryz.prog 287 fi287 := ⟨⟨Tryz.f287, Tryz.func287, rfl, rfl, rfl⟩, Tryz.call287⟩
theorem fo288 : FnOk Tryz.prog 288 fi288 := ⟨⟨Tryz.f288, Tryz.func288, rfl, rfl, rfl⟩, Tryz.call288⟩
theorem fo289 : FnOk Tryz.prog 289 fi289 := ⟨⟨Tryz.f289, Tryz.func289, rfl, rfl, rfl⟩, Tryz.call289⟩
theorem fo290 : FnOk Tryz.prog 290 fi290 := ⟨⟨Tryz.f290, Tryz.func290, rfl, rfl, rfl⟩, Tryz.call290⟩
theorem fo291 : FnOk Tryz.prog 291 fi291 := ⟨⟨Tryz.f291, Tryz.func291, rfl, rfl, rfl⟩, Tryz.call291⟩
theorem fo292 : FnOk Tryz.prog 292 fi292 := ⟨⟨Tryz.f292, Tryz.func292, rfl, rfl, rfl⟩, Tryz.call292⟩
theorem fo294 : FnOk Tryz.prog 294 fi294 := ⟨⟨Tryz.f294, Tryz.func294, rfl, rfl, rfl⟩, Tryz.call294⟩
theorem fo295 : FnOk Tryz.prog 295 fi295 := ⟨⟨Tryz.f295, Tryz.func295, rfl, rfl, rfl⟩, Tryz.call295⟩
theorem fo296 : FnOk Tryz.prog 296 fi296 := ⟨⟨Tryz.f296, Tryz.func296, rfl, rfl, rfl⟩, Tryz.call296⟩
theorem fo297 : FnOk Tryz.prog 297 fi297 := ⟨⟨Tryz.f297, Tryz.func297, rfl, rfl, rfl⟩, Tryz.call297⟩
theorem fo298 : FnOk Tryz.prog 298 fi298 := ⟨⟨Tryz.f298, Tryz.func298, rfl, rfl, rfl⟩, Tryz.call298⟩
theorem fo299 : FnOk Tryz.prog 299 fi299 := ⟨⟨Tryz.f299, Tryz.func299, rfl, rfl, rfl⟩, Tryz.call299⟩
theorem fo300 : FnOk Tryz.prog 300 fi300 := ⟨⟨Tryz.f300, Tryz.func300, rfl, rfl, rfl⟩, Tryz.call300⟩
theorem fo301 : FnOk Tryz.prog 301 fi301 := ⟨⟨Tryz.f301, Tryz.func301, rfl, rfl, rfl⟩, Tryz.call301⟩
theorem fo302 : FnOk Tryz.prog 302 fi302 := ⟨⟨Tryz.f302, Tryz.func302, rfl, rfl, rfl⟩, Tryz.call302⟩
theorem fo303 : FnOk Tryz.prog 303 fi303 := ⟨⟨Tryz.f303, Tryz.func303, rfl, rfl, rfl⟩, Tryz.call303⟩
theorem fo304 : FnOk Tryz.prog 304 fi304 := ⟨⟨Tryz.f304, Tryz.func304, rfl, rfl, rfl⟩, Tryz.call304⟩
theorem fo305 : FnOk Tryz.prog 305 fi305 := ⟨⟨Tryz.f305, Tryz.func305, rfl, rfl, rfl⟩, Tryz.call305⟩
theorem fo306 : FnOk Tryz.prog 306 fi306 := ⟨⟨Tryz.f306, Tryz.func306, rfl, rfl, rfl⟩, Tryz.call306⟩
theorem fo307 : FnOk Tryz.prog 307 fi307 := ⟨⟨Tryz.f307, Tryz.func307, rfl, rfl, rfl⟩, Tryz.call307⟩
theorem fo308 : FnOk Tryz.prog 308 fi308 := ⟨⟨Tryz.f308, Tryz.func308, rfl, rfl, rfl⟩, Tryz.call308⟩
theorem fo309 : FnOk Tryz.prog 309 fi309 := ⟨⟨Tryz.f309, Tryz.func309, rfl, rfl, rfl⟩, Tryz.call309⟩
theorem fo310 : FnOk Tryz.prog 310 fi310 := ⟨⟨Tryz.f310, Tryz.func310, rfl, rfl, rfl⟩, Tryz.call310⟩
theorem fo311 : FnOk Tryz.prog 311 fi311 := ⟨⟨Tryz.f311, Tryz.func311, rfl, rfl, rfl⟩, Tryz.call311⟩
theorem fo312 : FnOk Tryz.prog 312 fi312 := ⟨⟨Tryz.f312, Tryz.func312, rfl, rfl, rfl⟩, Tryz.call312⟩
theorem fo313 : FnOk Tryz.prog 313 fi313 := ⟨⟨Tryz.f313, Tryz.func313, rfl, rfl, rfl⟩, Tryz.call313⟩
theorem fo314 : FnOk Tryz.prog 314 fi314 := ⟨⟨Tryz.f314, Tryz.func314, rfl, rfl, rfl⟩, Tryz.call314⟩
theorem fo315 : FnOk Tryz.prog 315 fi315 := ⟨⟨Tryz.f315, Tryz.func315, rfl, rfl, rfl⟩, Tryz.call315⟩
theorem fo316 : FnOk Tryz.prog 316 fi316 := ⟨⟨Tryz.f316, Tryz.func316, rfl, rfl, rfl⟩, Tryz.call316⟩
theorem fo317 : FnOk Tryz.prog 317 fi317 := ⟨⟨Tryz.f317, Tryz.func317, rfl, rfl, rfl⟩, Tryz.call317⟩
theorem fo318 : FnOk Tryz.prog 318 fi318 := ⟨⟨Tryz.f318, Tryz.func318, rfl, rfl, rfl⟩, Tryz.call318⟩
theorem fo319 : FnOk Tryz.prog 319 fi319 := ⟨⟨Tryz.f319, Tryz.func319, rfl, rfl, rfl⟩, Tryz.call319⟩
theorem fo320 : FnOk Tryz.prog 320 fi320 := ⟨⟨Tryz.f320, Tryz.func320, rfl, rfl, rfl⟩, Tryz.call320⟩
theorem fo322 : FnOk Tryz.prog 322 fi322 := ⟨⟨Tryz.f322, Tryz.func322, rfl, rfl, rfl⟩, Tryz.call322⟩
theorem fo323 : FnOk Tryz.prog 323 fi323 := ⟨⟨Tryz.f323, Tryz.func323, rfl, rfl, rfl⟩, Tryz.call323⟩
theorem fo324 : FnOk Tryz.prog 324 fi324 := ⟨⟨Tryz.f324, Tryz.func324, rfl, rfl, rfl⟩, Tryz.call324⟩
theorem fo325 : FnOk Tryz.prog 325 fi325 := ⟨⟨Tryz.f325, Tryz.func325, rfl, rfl, rfl⟩, Tryz.call325⟩
theorem fo326 : FnOk Tryz.prog 326 fi326 := ⟨⟨Tryz.f326, Tryz.func326, rfl, rfl, rfl⟩, Tryz.call326⟩
theorem fo327 : FnOk Tryz.prog 327 fi327 := ⟨⟨Tryz.f327, Tryz.func327, rfl, rfl, rfl⟩, Tryz.call327⟩
theorem fo328 : FnOk Tryz.prog 328 fi328 := ⟨⟨Tryz.f328, Tryz.func328, rfl, rfl, rfl⟩, Tryz.call328⟩
theorem fo329 : FnOk Tryz.prog 329 fi329 := ⟨⟨Tryz.f329, Tryz.func329, rfl, rfl, rfl⟩, Tryz.call329⟩
theorem fo330 : FnOk Tryz.prog 330 fi330 := ⟨⟨Tryz.f330, Tryz.func330, rfl, rfl, rfl⟩, Tryz.call330⟩
theorem fo331 : FnOk Tryz.prog 331 fi331 := ⟨⟨Tryz.f331, Tryz.func331, rfl, rfl, rfl⟩, Tryz.call331⟩
theorem fo332 : FnOk Tryz.prog 332 fi332 := ⟨⟨Tryz.f332, Tryz.func332, rfl, rfl, rfl⟩, Tryz.call332⟩
theorem fo333 : FnOk Tryz.prog 333 fi333 := ⟨⟨Tryz.f333, Tryz.func333, rfl, rfl, rfl⟩, Tryz.call333⟩
theorem fo334 : FnOk Tryz.prog 334 fi334 := ⟨⟨Tryz.f334, Tryz.func334, rfl, rfl, rfl⟩, Tryz.call334⟩
theorem fo335 : FnOk Tryz.prog 335 fi335 := ⟨⟨Tryz.f335, Tryz.func335, rfl, rfl, rfl⟩, Tryz.call335⟩
theorem fo338 : FnOk Tryz.prog 338 fi338 := ⟨⟨Tryz.f338, Tryz.func338, rfl, rfl, rfl⟩, Tryz.call338⟩
theorem fo339 : FnOk Tryz.prog 339 fi339 := ⟨⟨Tryz.f339, Tryz.func339, rfl, rfl, rfl⟩, Tryz.call339⟩
theorem fo340 : FnOk Tryz.prog 340 fi340 := ⟨⟨Tryz.f340, Tryz.func340, rfl, rfl, rfl⟩, Tryz.call340⟩
theorem fo341 : FnOk Tryz.prog 341 fi341 := ⟨⟨Tryz.f341, Tryz.func341, rfl, rfl, rfl⟩, Tryz.call341⟩
theorem fo342 : FnOk Tryz.prog 342 fi342 := ⟨⟨Tryz.f342, Tryz.func342, rfl, rfl, rfl⟩, Tryz.call342⟩
theorem fo343 : FnOk Tryz.prog 343 fi343 := ⟨⟨Tryz.f343, Tryz.func343, rfl, rfl, rfl⟩, Tryz.call343⟩
theorem fo344 : FnOk Tryz.prog 344 fi344 := ⟨⟨Tryz.f344, Tryz.func344, rfl, rfl, rfl⟩, Tryz.call344⟩
theorem fo345 : FnOk Tryz.prog 345 fi345 := ⟨⟨Tryz.f345, Tryz.func345, rfl, rfl, rfl⟩, Tryz.call345⟩
theorem fo346 : FnOk Tryz.prog 346 fi346 := ⟨⟨Tryz.f346, Tryz.func346, rfl, rfl, rfl⟩, Tryz.call346⟩
theorem fo347 : FnOk Tryz.prog 347 fi347 := ⟨⟨Tryz.f347, Tryz.func347, rfl, rfl, rfl⟩, Tryz.call347⟩
theorem fo349 : FnOk Tryz.prog 349 fi349 := ⟨⟨Tryz.f349, Tryz.func349, rfl, rfl, rfl⟩, Tryz.call349⟩
theorem fo365 : FnOk Tryz.prog 365 fi365 := ⟨⟨Tryz.f365, Tryz.func365, rfl, rfl, rfl⟩, Tryz.call365⟩
theorem fo366 : FnOk Tryz.prog 366 fi366 := ⟨⟨Tryz.f366, Tryz.func366, rfl, rfl, rfl⟩, Tryz.call366⟩
theorem fo367 : FnOk Tryz.prog 367 fi367 := ⟨⟨Tryz.f367, Tryz.func367, rfl, rfl, rfl⟩, Tryz.call367⟩
theorem fo368 : FnOk Tryz.prog 368 fi368 := ⟨⟨Tryz.f368, Tryz.func368, rfl, rfl, rfl⟩, Tryz.call368⟩
theorem to1 : TyOk Tryz.prog 1 ti1 := ⟨Tryz.underlying1, rfl, ⟨Tryz.t1, _, Tryz.type1, rfl, rfl, rfl, rfl, (fun h => nomatch h), (fun _ => rfl)⟩, rfl, rfl, rfl, (fun _ _ h => nomatch h)⟩
theorem to2 : TyOk Tryz.prog 2 ti2 := ⟨Tryz.underlying2, rfl, ⟨Tryz.t2, _, Tryz.type2, rfl, rfl, rfl, rfl, (fun h => nomatch h), (fun _ => rfl)⟩, rfl, rfl, rfl, (fun _ _ h => nomatch h)⟩
theorem to3 : TyOk Tryz.prog 3 ti3 := ⟨Tryz.underlying3, rfl, ⟨Tryz.t3, _, Tryz.type3, rfl, rfl, rfl, rfl, (fun h => nomatch h), (fun _ => rfl)⟩, rfl, rfl, rfl, (fun _ _ h => nomatch h)⟩
theorem to4 : TyOk Tryz.prog 4 ti4 := ⟨Tryz.underlying4, rfl, ⟨Tryz.t4, _, Tryz.type4, rfl, rfl, rfl, rfl, (fun h => nomatch h), (fun _ => rfl)⟩, rfl, rfl, rfl, (fun _ _ h => nomatch h)⟩
theorem to5 : TyOk Tryz.prog 5 ti5 := ⟨Tryz.underlying5, rfl, ⟨Tryz.t5, _, Tryz.type5, rfl, rfl, rfl, rfl, (fun h => nomatch h), (fun _ => rfl)⟩, rfl, rfl, rfl, (fun _ _ h => nomatch h)⟩
theorem to6 : TyOk Tryz.prog 6 ti6 := ⟨Tryz.underlying6, rfl, ⟨Tryz.t6, _, Tryz.type6, rfl, rfl, rfl, rfl, (fun h => nomatch h), (fun _ => rfl)⟩, rfl, rfl, rfl, (fun _ _ h => nomatch h)⟩
theorem to7 : TyOk Tryz.prog 7 ti7 := ⟨Tryz.underlying7, rfl, ⟨Tryz.t7, _, Tryz.type7, rfl, rfl, rfl, rfl, (fun _ => rfl), (fun h => nomatch h)⟩, rfl, rfl, rfl, (fun _ _ h => nomatch h)⟩
theorem ms8 : ∀ n g, findM ti8.ms n = some g → ∀ v w, (method (Tryz.prog.types.size + Made.depth) 8 v n).run Tryz.prog w = .ok (g, v) w := by
  intro n g h v w
  simp only [ti8, findM] at h
  split at h
  · rename_i hn; have hn := of_decide_eq_true hn; subst hn; cases h; rfl
  split at h
  · rename_i hn; have hn := of_decide_eq_true hn; subst hn; cases h; rfl
  cases h
theorem to8 : TyOk Tryz.prog 8 ti8 := ⟨Tryz.underlying8, rfl, ⟨Tryz.t8, _, Tryz.type8, rfl, rfl, rfl, rfl, (fun _ => rfl), (fun h => nomatch h)⟩, rfl, rfl, rfl, ms8⟩
theorem to9 : TyOk Tryz.prog 9 ti9 := ⟨Tryz.underlying9, rfl, ⟨Tryz.t9, _, Tryz.type9, rfl, rfl, rfl, rfl, (fun h => nomatch h), (fun _ => rfl)⟩, rfl, rfl, rfl, (fun _ _ h => nomatch h)⟩
theorem ms10 : ∀ n g, findM ti10.ms n = some g → ∀ v w, (method (Tryz.prog.types.size + Made.depth) 10 v n).run Tryz.prog w = .ok (g, v) w := by
  intro n g h v w
  simp only [ti10, findM] at h
  split at h
  · rename_i hn; have hn := of_decide_eq_true hn; subst hn; cases h; rfl
  split at h
  · rename_i hn; have hn := of_decide_eq_true hn; subst hn; cases h; rfl
  cases h
theorem to10 : TyOk Tryz.prog 10 ti10 := ⟨Tryz.underlying10, rfl, ⟨Tryz.t10, _, Tryz.type10, rfl, rfl, rfl, rfl, (fun h => nomatch h), (fun _ => rfl)⟩, rfl, rfl, rfl, ms10⟩
theorem ms11 : ∀ n g, findM ti11.ms n = some g → ∀ v w, (method (Tryz.prog.types.size + Made.depth) 11 v n).run Tryz.prog w = .ok (g, v) w := by
  intro n g h v w
  simp only [ti11, findM] at h
  split at h
  · rename_i hn; have hn := of_decide_eq_true hn; subst hn; cases h; rfl
  split at h
  · rename_i hn; have hn := of_decide_eq_true hn; subst hn; cases h; rfl
  cases h
theorem to11 : TyOk Tryz.prog 11 ti11 := ⟨Tryz.underlying11, rfl, ⟨Tryz.t11, _, Tryz.type11, rfl, rfl, rfl, rfl, (fun h => nomatch h), (fun _ => rfl)⟩, rfl, rfl, rfl, ms11⟩
theorem to12 : TyOk Tryz.prog 12 ti12 := ⟨Tryz.underlying12, rfl, ⟨Tryz.t12, _, Tryz.type12, rfl, rfl, rfl, rfl, (fun h => nomatch h), (fun _ => rfl)⟩, rfl, rfl, rfl, (fun _ _ h => nomatch h)⟩
theorem to13 : TyOk Tryz.prog 13 ti13 := ⟨Tryz.underlying13, rfl, ⟨Tryz.t13, _, Tryz.type13, rfl, rfl, rfl, rfl, (fun _ => rfl), (fun h => nomatch h)⟩, rfl, rfl, rfl, (fun _ _ h => nomatch h)⟩
theorem ms14 : ∀ n g, findM ti14.ms n = some g → ∀ v w, (method (Tryz.prog.types.size + Made.depth) 14 v n).run Tryz.prog w = .ok (g, v) w := by
  intro n g h v w
  simp only [ti14, findM] at h
  split at h
  · rename_i hn; have hn := of_decide_eq_true hn; subst hn; cases h; rfl
  split at h
  · rename_i hn; have hn := of_decide_eq_true hn; subst hn; cases h; rfl
  cases h
theorem to14 : TyOk Tryz.prog 14 ti14 := ⟨Tryz.underlying14, rfl, ⟨Tryz.t14, _, Tryz.type14, rfl, rfl, rfl, rfl, (fun _ => rfl), (fun h => nomatch h)⟩, rfl, rfl, rfl, ms14⟩
theorem ms15 : ∀ n g, findM ti15.ms n = some g → ∀ v w, (method (Tryz.prog.types.size + Made.depth) 15 v n).run Tryz.prog w = .ok (g, v) w := by
  intro n g h v w
  simp only [ti15, findM] at h
  split at h
  · rename_i hn; have hn := of_decide_eq_true hn; subst hn; cases h; rfl
  split at h
  · rename_i hn; have hn := of_decide_eq_true hn; subst hn; cases h; rfl
  cases h
theorem to15 : TyOk Tryz.prog 15 ti15 := ⟨Tryz.underlying15, rfl, ⟨Tryz.t15, _, Tryz.type15, rfl, rfl, rfl, rfl, (fun h => nomatch h), (fun _ => rfl)⟩, rfl, rfl, rfl, ms15⟩
theorem ms16 : ∀ n g, findM ti16.ms n = some g → ∀ v w, (method (Tryz.prog.types.size + Made.depth) 16 v n).run Tryz.prog w = .ok (g, v) w := by
  intro n g h v w
  simp only [ti16, findM] at h
  split at h
  · rename_i hn; have hn := of_decide_eq_true hn; subst hn; cases h; rfl
  split at h
  · rename_i hn; have hn := of_decide_eq_true hn; subst hn; cases h; rfl
  cases h
theorem to16 : TyOk Tryz.prog 16 ti16 := ⟨Tryz.underlying16, rfl, ⟨Tryz.t16, _, Tryz.type16, rfl, rfl, rfl, rfl, (fun h => nomatch h), (fun _ => rfl)⟩, rfl, rfl, rfl, ms16⟩
theorem ms17 : ∀ n g, findM ti17.ms n = some g → ∀ v w, (method (Tryz.prog.types.size + Made.depth) 17 v n).run Tryz.prog w = .ok (g, v) w := by
  intro n g h v w
  simp only [ti17, findM] at h
  split at h
  · rename_i hn; have hn := of_decide_eq_true hn; subst hn; cases h; rfl
  cases h
theorem to17 : TyOk Tryz.prog 17 ti17 := ⟨Tryz.underlying17, rfl, ⟨Tryz.t17, _, Tryz.type17, rfl, rfl, rfl, rfl, (fun h => nomatch h), (fun _ => rfl)⟩, rfl, rfl, rfl, ms17⟩
theorem to18 : TyOk Tryz.prog 18 ti18 := ⟨Tryz.underlying18, rfl, ⟨Tryz.t18, _, Tryz.type18, rfl, rfl, rfl, rfl, (fun _ => rfl), (fun h => nomatch h)⟩, rfl, rfl, rfl, (fun _ _ h => nomatch h)⟩
theorem ms19 : ∀ n g, findM ti19.ms n = some g → ∀ v w, (method (Tryz.prog.types.size + Made.depth) 19 v n).run Tryz.prog w = .ok (g, v) w := by
  intro n g h v w
  simp only [ti19, findM] at h
  split at h
  · rename_i hn; have hn := of_decide_eq_true hn; subst hn; cases h; rfl
  split at h
  · rename_i hn; have hn := of_decide_eq_true hn; subst hn; cases h; rfl
  cases h
theorem to19 : TyOk Tryz.prog 19 ti19 := ⟨Tryz.underlying19, rfl, ⟨Tryz.t19, _, Tryz.type19, rfl, rfl, rfl, rfl, (fun _ => rfl), (fun h => nomatch h)⟩, rfl, rfl, rfl, ms19⟩
theorem to20 : TyOk Tryz.prog 20 ti20 := ⟨Tryz.underlying20, rfl, ⟨Tryz.t20, _, Tryz.type20, rfl, rfl, rfl, rfl, (fun h => nomatch h), (fun _ => rfl)⟩, rfl, rfl, rfl, (fun _ _ h => nomatch h)⟩
theorem to21 : TyOk Tryz.prog 21 ti21 := ⟨Tryz.underlying21, rfl, ⟨Tryz.t21, _, Tryz.type21, rfl, rfl, rfl, rfl, (fun h => nomatch h), (fun _ => rfl)⟩, rfl, rfl, rfl, (fun _ _ h => nomatch h)⟩
theorem to22 : TyOk Tryz.prog 22 ti22 := ⟨Tryz.underlying22, rfl, ⟨Tryz.t22, _, Tryz.type22, rfl, rfl, rfl, rfl, (fun _ => rfl), (fun h => nomatch h)⟩, rfl, rfl, rfl, (fun _ _ h => nomatch h)⟩
theorem to23 : TyOk Tryz.prog 23 ti23 := ⟨Tryz.underlying23, rfl, ⟨Tryz.t23, _, Tryz.type23, rfl, rfl, rfl, rfl, (fun _ => rfl), (fun h => nomatch h)⟩, rfl, rfl, rfl, (fun _ _ h => nomatch h)⟩
theorem to24 : TyOk Tryz.prog 24 ti24 := ⟨Tryz.underlying24, rfl, ⟨Tryz.t24, _, Tryz.type24, rfl, rfl, rfl, rfl, (fun _ => rfl), (fun h => nomatch h)⟩, rfl, rfl, rfl, (fun _ _ h => nomatch h)⟩
theorem to25 : TyOk Tryz.prog 25 ti25 := ⟨Tryz.underlying25, rfl, ⟨Tryz.t25, _, Tryz.type25, rfl, rfl, rfl, rfl, (fun _ => rfl), (fun h => nomatch h)⟩, rfl, rfl, rfl, (fun _ _ h => nomatch h)⟩
theorem to26 : TyOk Tryz.prog 26 ti26 := ⟨Tryz.underlying26, rfl, ⟨Tryz.t26, _, Tryz.type26, rfl, rfl, rfl, rfl, (fun _ => rfl), (fun h => nomatch h)⟩, rfl, rfl, rfl, (fun _ _ h => nomatch h)⟩
theorem to27 : TyOk Tryz.prog 27 ti27 := ⟨Tryz.underlying27, rfl, ⟨Tryz.t27, _, Tryz.type27, rfl, rfl, rfl, rfl, (fun _ => rfl), (fun h => nomatch h)⟩, rfl, rfl, rfl, (fun _ _ h => nomatch h)⟩
theorem to28 : TyOk Tryz.prog 28 ti28 := ⟨Tryz.underlying28, rfl, ⟨Tryz.t28, _, Tryz.type28, rfl, rfl, rfl, rfl, (fun h => nomatch h), (fun _ => rfl)⟩, rfl, rfl, rfl, (fun _ _ h => nomatch h)⟩
theorem to29 : TyOk Tryz.prog 29 ti29 := ⟨Tryz.underlying29, rfl, ⟨Tryz.t29, _, Tryz.type29, rfl, rfl, rfl, rfl, (fun h => nomatch h), (fun _ => rfl)⟩, rfl, rfl, rfl, (fun _ _ h => nomatch h)⟩
theorem to31 : TyOk Tryz.prog 31 ti31 := ⟨Tryz.underlying31, rfl, ⟨Tryz.t31, _, Tryz.type31, rfl, rfl, rfl, rfl, (fun h => nomatch h), (fun _ => rfl)⟩, rfl, rfl, rfl, (fun _ _ h => nomatch h)⟩
theorem to32 : TyOk Tryz.prog 32 ti32 := ⟨Tryz.underlying32, rfl, ⟨Tryz.t32, _, Tryz.type32, rfl, rfl, rfl, rfl, (fun _ => rfl), (fun h => nomatch h)⟩, rfl, rfl, rfl, (fun _ _ h => nomatch h)⟩
theorem to33 : TyOk Tryz.prog 33 ti33 := ⟨Tryz.underlying33, rfl, ⟨Tryz.t33, _, Tryz.type33, rfl, rfl, rfl, rfl, (fun _ => rfl), (fun h => nomatch h)⟩, rfl, rfl, rfl, (fun _ _ h => nomatch h)⟩
theorem to34 : TyOk Tryz.prog 34 ti34 := ⟨Tryz.underlying34, rfl, ⟨Tryz.t34, _, Tryz.type34, rfl, rfl, rfl, rfl, (fun h => nomatch h), (fun _ => rfl)⟩, rfl, rfl, rfl, (fun _ _ h => nomatch h)⟩
theorem to36 : TyOk Tryz.prog 36 ti36 := ⟨Tryz.underlying36, rfl, ⟨Tryz.t36, _, Tryz.type36, rfl, rfl, rfl, rfl, (fun h => nomatch h), (fun _ => rfl)⟩, rfl, rfl, rfl, (fun _ _ h => nomatch h)⟩
theorem to37 : TyOk Tryz.prog 37 ti37 := ⟨Tryz.underlying37, rfl, ⟨Tryz.t37, _, Tryz.type37, rfl, rfl, rfl, rfl, (fun _ => rfl), (fun h => nomatch h)⟩, rfl, rfl, rfl, (fun _ _ h => nomatch h)⟩
theorem to38 : TyOk Tryz.prog 38 ti38 := ⟨Tryz.underlying38, rfl, ⟨Tryz.t38, _, Tryz.type38, rfl, rfl, rfl, rfl, (fun _ => rfl), (fun h => nomatch h)⟩, rfl, rfl, rfl, (fun _ _ h => nomatch h)⟩
theorem to39 : TyOk Tryz.prog 39 ti39 := ⟨Tryz.underlying39, rfl, ⟨Tryz.t39, _, Tryz.type39, rfl, rfl, rfl, rfl, (fun h => nomatch h), (fun _ => rfl)⟩, rfl, rfl, rfl, (fun _ _ h => nomatch h)⟩
theorem to40 : TyOk Tryz.prog 40 ti40 := ⟨Tryz.underlying40, rfl, ⟨Tryz.t40, _, Tryz.type40, rfl, rfl, rfl, rfl, (fun h => nomatch h), (fun _ => rfl)⟩, rfl, rfl, rfl, (fun _ _ h => nomatch h)⟩
theorem to41 : TyOk Tryz.prog 41 ti41 := ⟨Tryz.underlying41, rfl, ⟨Tryz.t41, _, Tryz.type41, rfl, rfl, rfl, rfl, (fun _ => rfl), (fun h => nomatch h)⟩, rfl, rfl, rfl, (fun _ _ h => nomatch h)⟩
theorem to42 : TyOk Tryz.prog 42 ti42 := ⟨Tryz.underlying42, rfl, ⟨Tryz.t42, _, Tryz.type42, rfl, rfl, rfl, rfl, (fun _ => rfl), (fun h => nomatch h)⟩, rfl, rfl, rfl, (fun _ _ h => nomatch h)⟩
theorem to43 : TyOk Tryz.prog 43 ti43 := ⟨Tryz.underlying43, rfl, ⟨Tryz.t43, _, Tryz.type43, rfl, rfl, rfl, rfl, (fun h => nomatch h), (fun _ => rfl)⟩, rfl, rfl, rfl, (fun _ _ h => nomatch h)⟩
theorem to44 : TyOk Tryz.prog 44 ti44 := ⟨Tryz.underlying44, rfl, ⟨Tryz.t44, _, Tryz.type44, rfl, rfl, rfl, rfl, (fun h => nomatch h), (fun _ => rfl)⟩, rfl, rfl, rfl, (fun _ _ h => nomatch h)⟩
theorem to45 : TyOk Tryz.prog 45 ti45 := ⟨Tryz.underlying45, rfl, ⟨Tryz.t45, _, Tryz.type45, rfl, rfl, rfl, rfl, (fun _ => rfl), (fun h => nomatch h)⟩, rfl, rfl, rfl, (fun _ _ h => nomatch h)⟩
theorem to46 : TyOk Tryz.prog 46 ti46 := ⟨Tryz.underlying46, rfl, ⟨Tryz.t46, _, Tryz.type46, rfl, rfl, rfl, rfl, (fun _ => rfl), (fun h => nomatch h)⟩, rfl, rfl, rfl, (fun _ _ h => nomatch h)⟩
theorem to47 : TyOk Tryz.prog 47 ti47 := ⟨Tryz.underlying47, rfl, ⟨Tryz.t47, _, Tryz.type47, rfl, rfl, rfl, rfl, (fun h => nomatch h), (fun _ => rfl)⟩, rfl, rfl, rfl, (fun _ _ h => nomatch h)⟩
theorem ms48 : ∀ n g, findM ti48.ms n = some g → ∀ v w, (method (Tryz.prog.types.size + Made.depth) 48 v n).run Tryz.prog w = .ok (g, v) w := by
  intro n g h v w
  simp only [ti48, findM] at h
  split at h
  · rename_i hn; have hn := of_decide_eq_true hn; subst hn; cases h; rfl
  split at h
  · rename_i hn; have hn := of_decide_eq_true hn; subst hn; cases h; rfl
  split at h
  · rename_i hn; have hn := of_decide_eq_true hn; subst hn; cases h; rfl
  split at h
  · rename_i hn; have hn := of_decide_eq_true hn; subst hn; cases h; rfl
  split at h
  · rename_i hn; have hn := of_decide_eq_true hn; subst hn; cases h; rfl
  split at h
  · rename_i hn; have hn := of_decide_eq_true hn; subst hn; cases h; rfl
  split at h
  · rename_i hn; have hn := of_decide_eq_true hn; subst hn; cases h; rfl
  split at h
  · rename_i hn; have hn := of_decide_eq_true hn; subst hn; cases h; rfl
  split at h
  · rename_i hn; have hn := of_decide_eq_true hn; subst hn; cases h; rfl
  split at h
  · rename_i hn; have hn := of_decide_eq_true hn; subst hn; cases h; rfl
  split at h
  · rename_i hn; have hn := of_decide_eq_true hn; subst hn; cases h; rfl
  split at h
  · rename_i hn; have hn := of_decide_eq_true hn; subst hn; cases h; rfl
  split at h
  · rename_i hn; have hn := of_decide_eq_true hn; subst hn; cases h; rfl
  split at h
  · rename_i hn; have hn := of_decide_eq_true hn; subst hn; cases h; rfl
  split at h
  · rename_i hn; have hn := of_decide_eq_true hn; subst hn; cases h; rfl
  split at h
  · rename_i hn; have hn := of_decide_eq_true hn; subst hn; cases h; rfl
  split at h
  · rename_i hn; have hn := of_decide_eq_true hn; subst hn; cases h; rfl
  split at h
  · rename_i hn; have hn := of_decide_eq_true hn; subst hn; cases h; rfl
  split at h
  · rename_i hn; have hn := of_decide_eq_true hn; subst hn; cases h; rfl
  split at h
  · rename_i hn; have hn := of_decide_eq_true hn; subst hn; cases h; rfl
  split at h
  · rename_i hn; have hn := of_decide_eq_true hn; subst hn; cases h; rfl
  split at h
  · rename_i hn; have hn := of_decide_eq_true hn; subst hn; cases h; rfl
  split at h
  · rename_i hn; have hn := of_decide_eq_true hn; subst hn; cases h; rfl
  split at h
  · rename_i hn; have hn := of_decide_eq_true hn; subst hn; cases h; rfl
  split at h
  · rename_i hn; have hn := of_decide_eq_true hn; subst hn; cases h; rfl
  split at h
  · rename_i hn; have hn := of_decide_eq_true hn; subst hn; cases h; rfl
  split at h
  · rename_i hn; have hn := of_decide_eq_true hn; subst hn; cases h; rfl
  split at h
  · rename_i hn; have hn := of_decide_eq_true hn; subst hn; cases h; rfl
  split at h
  · rename_i hn; have hn := of_decide_eq_true hn; subst hn; cases h; rfl
  cases h
theorem to48 : TyOk Tryz.prog 48 ti48 := ⟨Tryz.underlying48, rfl, ⟨Tryz.t48, _, Tryz.type48, rfl, rfl, rfl, rfl, (fun h => nomatch h), (fun _ => rfl)⟩, rfl, rfl, rfl, ms48⟩
theorem to50 : TyOk Tryz.prog 50 ti50 := ⟨Tryz.underlying50, rfl, ⟨Tryz.t50, _, Tryz.type50, rfl, rfl, rfl, rfl, (fun h => nomatch h), (fun _ => rfl)⟩, rfl, rfl, rfl, (fun _ _ h => nomatch h)⟩
theorem to51 : TyOk Tryz.prog 51 ti51 := ⟨Tryz.underlying51, rfl, ⟨Tryz.t51, _, Tryz.type51, rfl, rfl, rfl, rfl, (fun h => nomatch h), (fun _ => rfl)⟩, rfl, rfl, rfl, (fun _ _ h => nomatch h)⟩
theorem to52 : TyOk Tryz.prog 52 ti52 := ⟨Tryz.underlying52, rfl, ⟨Tryz.t52, _, Tryz.type52, rfl, rfl, rfl, rfl, (fun h => nomatch h), (fun _ => rfl)⟩, rfl, rfl, rfl, (fun _ _ h => nomatch h)⟩
theorem to53 : TyOk Tryz.prog 53 ti53 := ⟨Tryz.underlying53, rfl, ⟨Tryz.t53, _, Tryz.type53, rfl, rfl, rfl, rfl, (fun h => nomatch h), (fun _ => rfl)⟩, rfl, rfl, rfl, (fun _ _ h => nomatch h)⟩
theorem to54 : TyOk Tryz.prog 54 ti54 := ⟨Tryz.underlying54, rfl, ⟨Tryz.t54, _, Tryz.type54, rfl, rfl, rfl, rfl, (fun _ => rfl), (fun h => nomatch h)⟩, rfl, rfl, rfl, (fun _ _ h => nomatch h)⟩
theorem to55 : TyOk Tryz.prog 55 ti55 := ⟨Tryz.underlying55, rfl, ⟨Tryz.t55, _, Tryz.type55, rfl, rfl, rfl, rfl, (fun _ => rfl), (fun h => nomatch h)⟩, rfl, rfl, rfl, (fun _ _ h => nomatch h)⟩
theorem to56 : TyOk Tryz.prog 56 ti56 := ⟨Tryz.underlying56, rfl, ⟨Tryz.t56, _, Tryz.type56, rfl, rfl, rfl, rfl, (fun _ => rfl), (fun h => nomatch h)⟩, rfl, rfl, rfl, (fun _ _ h => nomatch h)⟩
theorem to57 : TyOk Tryz.prog 57 ti57 := ⟨Tryz.underlying57, rfl, ⟨Tryz.t57, _, Tryz.type57, rfl, rfl, rfl, rfl, (fun _ => rfl), (fun h => nomatch h)⟩, rfl, rfl, rfl, (fun _ _ h => nomatch h)⟩
theorem to58 : TyOk Tryz.prog 58 ti58 := ⟨Tryz.underlying58, rfl, ⟨Tryz.t58, _, Tryz.type58, rfl, rfl, rfl, rfl, (fun h => nomatch h), (fun _ => rfl)⟩, rfl, rfl, rfl, (fun _ _ h => nomatch h)⟩
theorem to60 : TyOk Tryz.prog 60 ti60 := ⟨Tryz.underlying60, rfl, ⟨Tryz.t60, _, Tryz.type60, rfl, rfl, rfl, rfl, (fun h => nomatch h), (fun _ => rfl)⟩, rfl, rfl, rfl, (fun _ _ h => nomatch h)⟩
theorem to61 : TyOk Tryz.prog 61 ti61 := ⟨Tryz.underlying61, rfl, ⟨Tryz.t61, _, Tryz.type61, rfl, rfl, rfl, rfl, (fun h => nomatch h), (fun _ => rfl)⟩, rfl, rfl, rfl, (fun _ _ h => nomatch h)⟩
theorem to63 : TyOk Tryz.prog 63 ti63 := ⟨Tryz.underlying63, rfl, ⟨Tryz.t63, _, Tryz.type63, rfl, rfl, rfl, rfl, (fun h => nomatch h), (fun _ => rfl)⟩, rfl, rfl, rfl, (fun _ _ h => nomatch h)⟩
theorem to64 : TyOk Tryz.prog 64 ti64 := ⟨Tryz.underlying64, rfl, ⟨Tryz.t64, _, Tryz.type64, rfl, rfl, rfl, rfl, (fun h => nomatch h), (fun _ => rfl)⟩, rfl, rfl, rfl, (fun _ _ h => nomatch h)⟩
theorem to65 : TyOk Tryz.prog 65 ti65 := ⟨Tryz.underlying65, rfl, ⟨Tryz.t65, _, Tryz.type65, rfl, rfl, rfl, rfl, (fun h => nomatch h), (fun _ => rfl)⟩, rfl, rfl, rfl, (fun _ _ h => nomatch h)⟩
theorem to66 : TyOk Tryz.prog 66 ti66 := ⟨Tryz.underlying66, rfl, ⟨Tryz.t66, _, Tryz.type66, rfl, rfl, rfl, rfl, (fun h => nomatch h), (fun _ => rfl)⟩, rfl, rfl, rfl, (fun _ _ h => nomatch h)⟩
theorem to67 : TyOk Tryz.prog 67 ti67 := ⟨Tryz.underlying67, rfl, ⟨Tryz.t67, _, Tryz.type67, rfl, rfl, rfl, rfl, (fun h => nomatch h), (fun _ => rfl)⟩, rfl, rfl, rfl, (fun _ _ h => nomatch h)⟩
theorem to68 : TyOk Tryz.prog 68 ti68 := ⟨Tryz.underlying68, rfl, ⟨Tryz.t68, _, Tryz.type68, rfl, rfl, rfl, rfl, (fun h => nomatch h), (fun _ => rfl)⟩, rfl, rfl, rfl, (fun _ _ h => nomatch h)⟩
theorem to69 : TyOk Tryz.prog 69 ti69 := ⟨Tryz.underlying69, rfl, ⟨Tryz.t69, _, Tryz.type69, rfl, rfl, rfl, rfl, (fun h => nomatch h), (fun _ => rfl)⟩, rfl, rfl, rfl, (fun _ _ h => nomatch h)⟩
theorem to70 : TyOk Tryz.prog 70 ti70 := ⟨Tryz.underlying70, rfl, ⟨Tryz.t70, _, Tryz.type70, rfl, rfl, rfl, rfl, (fun h => nomatch h), (fun _ => rfl)⟩, rfl, rfl, rfl, (fun _ _ h => nomatch h)⟩
theorem to71 : TyOk Tryz.prog 71 ti71 := ⟨Tryz.underlying71, rfl, ⟨Tryz.t71, _, Tryz.type71, rfl, rfl, rfl, rfl, (fun h => nomatch h), (fun _ => rfl)⟩, rfl, rfl, rfl, (fun _ _ h => nomatch h)⟩
theorem to72 : TyOk Tryz.prog 72 ti72 := ⟨Tryz.underlying72, rfl, ⟨Tryz.t72, _, Tryz.type72, rfl, rfl, rfl, rfl, (fun h => nomatch h), (fun _ => rfl)⟩, rfl, rfl, rfl, (fun _ _ h => nomatch h)⟩
theorem to73 : TyOk Tryz.prog 73 ti73 := ⟨Tryz.underlying73, rfl, ⟨Tryz.t73, _, Tryz.type73, rfl, rfl, rfl, rfl, (fun h => nomatch h), (fun _ => rfl)⟩, rfl, rfl, rfl, (fun _ _ h => nomatch h)⟩
theorem to74 : TyOk Tryz.prog 74 ti74 := ⟨Tryz.underlying74, rfl, ⟨Tryz.t74, _, Tryz.type74, rfl, rfl, rfl, rfl, (fun h => nomatch h), (fun _ => rfl)⟩, rfl, rfl, rfl, (fun _ _ h => nomatch h)⟩
theorem to75 : TyOk Tryz.prog 75 ti75 := ⟨Tryz.underlying75, rfl, ⟨Tryz.t75, _, Tryz.type75, rfl, rfl, rfl, rfl, (fun h => nomatch h), (fun _ => rfl)⟩, rfl, rfl, rfl, (fun _ _ h => nomatch h)⟩
theorem to76 : TyOk Tryz.prog 76 ti76 := ⟨Tryz.underlying76, rfl, ⟨Tryz.t76, _, Tryz.type76, rfl, rfl, rfl, rfl, (fun _ => rfl), (fun h => nomatch h)⟩, rfl, rfl, rfl, (fun _ _ h => nomatch h)⟩
theorem to77 : TyOk Tryz.prog 77 ti77 := ⟨Tryz.underlying77, rfl, ⟨Tryz.t77, _, Tryz.type77, rfl, rfl, rfl, rfl, (fun _ => rfl), (fun h => nomatch h)⟩, rfl, rfl, rfl, (fun _ _ h => nomatch h)⟩
theorem to78 : TyOk Tryz.prog 78 ti78 := ⟨Tryz.underlying78, rfl, ⟨Tryz.t78, _, Tryz.type78, rfl, rfl, rfl, rfl, (fun h => nomatch h), (fun _ => rfl)⟩, rfl, rfl, rfl, (fun _ _ h => nomatch h)⟩
theorem to79 : TyOk Tryz.prog 79 ti79 := ⟨Tryz.underlying79, rfl, ⟨Tryz.t79, _, Tryz.type79, rfl, rfl, rfl, rfl, (fun h => nomatch h), (fun _ => rfl)⟩, rfl, rfl, rfl, (fun _ _ h => nomatch h)⟩
theorem to80 : TyOk Tryz.prog 80 ti80 := ⟨Tryz.underlying80, rfl, ⟨Tryz.t80, _, Tryz.type80, rfl, rfl, rfl, rfl, (fun _ => rfl), (fun h => nomatch h)⟩, rfl, rfl, rfl, (fun _ _ h => nomatch h)⟩
theorem to81 : TyOk Tryz.prog 81 ti81 := ⟨Tryz.underlying81, rfl, ⟨Tryz.t81, _, Tryz.type81, rfl, rfl, rfl, rfl, (fun _ => rfl), (fun h => nomatch h)⟩, rfl, rfl, rfl, (fun _ _ h => nomatch h)⟩
theorem to82 : TyOk Tryz.prog 82 ti82 := ⟨Tryz.underlying82, rfl, ⟨Tryz.t82, _, Tryz.type82, rfl, rfl, rfl, rfl, (fun h => nomatch h), (fun _ => rfl)⟩, rfl, rfl, rfl, (fun _ _ h => nomatch h)⟩
theorem to83 : TyOk Tryz.prog 83 ti83 := ⟨Tryz.underlying83, rfl, ⟨Tryz.t83, _, Tryz.type83, rfl, rfl, rfl, rfl, (fun _ => rfl), (fun h => nomatch h)⟩, rfl, rfl, rfl, (fun _ _ h => nomatch h)⟩
theorem ms84 : ∀ n g, findM ti84.ms n = some g → ∀ v w, (method (Tryz.prog.types.size + Made.depth) 84 v n).run Tryz.prog w = .ok (g, v) w := by
  intro n g h v w
  simp only [ti84, findM] at h
  split at h
  · rename_i hn; have hn := of_decide_eq_true hn; subst hn; cases h; rfl
  split at h
  · rename_i hn; have hn := of_decide_eq_true hn; subst hn; cases h; rfl
  split at h
  · rename_i hn; have hn := of_decide_eq_true hn; subst hn; cases h; rfl
  cases h
theorem to84 : TyOk Tryz.prog 84 ti84 := ⟨Tryz.underlying84, rfl, ⟨Tryz.t84, _, Tryz.type84, rfl, rfl, rfl, rfl, (fun _ => rfl), (fun h => nomatch h)⟩, rfl, rfl, rfl, ms84⟩
theorem to85 : TyOk Tryz.prog 85 ti85 := ⟨Tryz.underlying85, rfl, ⟨Tryz.t85, _, Tryz.type85, rfl, rfl, rfl, rfl, (fun _ => rfl), (fun h => nomatch h)⟩, rfl, rfl, rfl, (fun _ _ h => nomatch h)⟩
theorem to86 : TyOk Tryz.prog 86 ti86 := ⟨Tryz.underlying86, rfl, ⟨Tryz.t86, _, Tryz.type86, rfl, rfl, rfl, rfl, (fun _ => rfl), (fun h => nomatch h)⟩, rfl, rfl, rfl, (fun _ _ h => nomatch h)⟩
theorem to87 : TyOk Tryz.prog 87 ti87 := ⟨Tryz.underlying87, rfl, ⟨Tryz.t87, _, Tryz.type87, rfl, rfl, rfl, rfl, (fun h => nomatch h), (fun _ => rfl)⟩, rfl, rfl, rfl, (fun _ _ h => nomatch h)⟩
theorem to88 : TyOk Tryz.prog 88 ti88 := ⟨Tryz.underlying88, rfl, ⟨Tryz.t88, _, Tryz.type88, rfl, rfl, rfl, rfl, (fun h => nomatch h), (fun _ => rfl)⟩, rfl, rfl, rfl, (fun _ _ h => nomatch h)⟩
theorem to90 : TyOk Tryz.prog 90 ti90 := ⟨Tryz.underlying90, rfl, ⟨Tryz.t90, _, Tryz.type90, rfl, rfl, rfl, rfl, (fun h => nomatch h), (fun _ => rfl)⟩, rfl, rfl, rfl, (fun _ _ h => nomatch h)⟩
theorem to91 : TyOk Tryz.prog 91 ti91 := ⟨Tryz.underlying91, rfl, ⟨Tryz.t91, _, Tryz.type91, rfl, rfl, rfl, rfl, (fun h => nomatch h), (fun _ => rfl)⟩, rfl, rfl, rfl, (fun _ _ h => nomatch h)⟩
theorem to92 : TyOk Tryz.prog 92 ti92 := ⟨Tryz.underlying92, rfl, ⟨Tryz.t92, _, Tryz.type92, rfl, rfl, rfl, rfl, (fun h => nomatch h), (fun _ => rfl)⟩, rfl, rfl, rfl, (fun _ _ h => nomatch h)⟩
theorem to93 : TyOk Tryz.prog 93 ti93 := ⟨Tryz.underlying93, rfl, ⟨Tryz.t93, _, Tryz.type93, rfl, rfl, rfl, rfl, (fun h => nomatch h), (fun _ => rfl)⟩, rfl, rfl, rfl, (fun _ _ h => nomatch h)⟩
theorem to94 : TyOk Tryz.prog 94 ti94 := ⟨Tryz.underlying94, rfl, ⟨Tryz.t94, _, Tryz.type94, rfl, rfl, rfl, rfl, (fun h => nomatch h), (fun _ => rfl)⟩, rfl, rfl, rfl, (fun _ _ h => nomatch h)⟩
theorem to95 : TyOk Tryz.prog 95 ti95 := ⟨Tryz.underlying95, rfl, ⟨Tryz.t95, _, Tryz.type95, rfl, rfl, rfl, rfl, (fun h => nomatch h), (fun _ => rfl)⟩, rfl, rfl, rfl, (fun _ _ h => nomatch h)⟩
theorem to96 : TyOk Tryz.prog 96 ti96 := ⟨Tryz.underlying96, rfl, ⟨Tryz.t96, _, Tryz.type96, rfl, rfl, rfl, rfl, (fun h => nomatch h), (fun _ => rfl)⟩, rfl, rfl, rfl, (fun _ _ h => nomatch h)⟩
theorem to97 : TyOk Tryz.prog 97 ti97 := ⟨Tryz.underlying97, rfl, ⟨Tryz.t97, _, Tryz.type97, rfl, rfl, rfl, rfl, (fun h => nomatch h), (fun _ => rfl)⟩, rfl, rfl, rfl, (fun _ _ h => nomatch h)⟩
theorem to99 : TyOk Tryz.prog 99 ti99 := ⟨Tryz.underlying99, rfl, ⟨Tryz.t99, _, Tryz.type99, rfl, rfl, rfl, rfl, (fun h => nomatch h), (fun _ => rfl)⟩, rfl, rfl, rfl, (fun _ _ h => nomatch h)⟩
theorem to100 : TyOk Tryz.prog 100 ti100 := ⟨Tryz.underlying100, rfl, ⟨Tryz.t100, _, Tryz.type100, rfl, rfl, rfl, rfl, (fun h => nomatch h), (fun _ => rfl)⟩, rfl, rfl, rfl, (fun _ _ h => nomatch h)⟩
theorem to101 : TyOk Tryz.prog 101 ti101 := ⟨Tryz.underlying101, rfl, ⟨Tryz.t101, _, Tryz.type101, rfl, rfl, rfl, rfl, (fun h => nomatch h), (fun _ => rfl)⟩, rfl, rfl, rfl, (fun _ _ h => nomatch h)⟩
theorem to102 : TyOk Tryz.prog 102 ti102 := ⟨Tryz.underlying102, rfl, ⟨Tryz.t102, _, Tryz.type102, rfl, rfl, rfl, rfl, (fun h => nomatch h), (fun _ => rfl)⟩, rfl, rfl, rfl, (fun _ _ h => nomatch h)⟩
theorem to103 : TyOk Tryz.prog 103 ti103 := ⟨Tryz.underlying103, rfl, ⟨Tryz.t103, _, Tryz.type103, rfl, rfl, rfl, rfl, (fun h => nomatch h), (fun _ => rfl)⟩, rfl, rfl, rfl, (fun _ _ h => nomatch h)⟩
theorem to104 : TyOk Tryz.prog 104 ti104 := ⟨Tryz.underlying104, rfl, ⟨Tryz.t104, _, Tryz.type104, rfl, rfl, rfl, rfl, (fun h => nomatch h), (fun _ => rfl)⟩, rfl, rfl, rfl, (fun _ _ h => nomatch h)⟩
theorem to105 : TyOk Tryz.prog 105 ti105 := ⟨Tryz.underlying105, rfl, ⟨Tryz.t105, _, Tryz.type105, rfl, rfl, rfl, rfl, (fun h => nomatch h), (fun _ => rfl)⟩, rfl, rfl, rfl, (fun _ _ h => nomatch h)⟩
theorem to106 : TyOk Tryz.prog 106 ti106 := ⟨Tryz.underlying106, rfl, ⟨Tryz.t106, _, Tryz.type106, rfl, rfl, rfl, rfl, (fun h => nomatch h), (fun _ => rfl)⟩, rfl, rfl, rfl, (fun _ _ h => nomatch h)⟩
theorem to107 : TyOk Tryz.prog 107 ti107 := ⟨Tryz.underlying107, rfl, ⟨Tryz.t107, _, Tryz.type107, rfl, rfl, rfl, rfl, (fun _ => rfl), (fun h => nomatch h)⟩, rfl, rfl, rfl, (fun _ _ h => nomatch h)⟩
theorem to108 : TyOk Tryz.prog 108 ti108 := ⟨Tryz.underlying108, rfl, ⟨Tryz.t108, _, Tryz.type108, rfl, rfl, rfl, rfl, (fun _ => rfl), (fun h => nomatch h)⟩, rfl, rfl, rfl, (fun _ _ h => nomatch h)⟩
theorem to109 : TyOk Tryz.prog 109 ti109 := ⟨Tryz.underlying109, rfl, ⟨Tryz.t109, _, Tryz.type109, rfl, rfl, rfl, rfl, (fun h => nomatch h), (fun _ => rfl)⟩, rfl, rfl, rfl, (fun _ _ h => nomatch h)⟩
theorem to110 : TyOk Tryz.prog 110 ti110 := ⟨Tryz.underlying110, rfl, ⟨Tryz.t110, _, Tryz.type110, rfl, rfl, rfl, rfl, (fun h => nomatch h), (fun _ => rfl)⟩, rfl, rfl, rfl, (fun _ _ h => nomatch h)⟩
theorem to111 : TyOk Tryz.prog 111 ti111 := ⟨Tryz.underlying111, rfl, ⟨Tryz.t111, _, Tryz.type111, rfl, rfl, rfl, rfl, (fun h => nomatch h), (fun _ => rfl)⟩, rfl, rfl, rfl, (fun _ _ h => nomatch h)⟩
theorem to112 : TyOk Tryz.prog 112 ti112 := ⟨Tryz.underlying112, rfl, ⟨Tryz.t112, _, Tryz.type112, rfl, rfl, rfl, rfl, (fun h => nomatch h), (fun _ => rfl)⟩, rfl, rfl, rfl, (fun _ _ h => nomatch h)⟩
theorem to113 : TyOk Tryz.prog 113 ti113 := ⟨Tryz.underlying113, rfl, ⟨Tryz.t113, _, Tryz.type113, rfl, rfl, rfl, rfl, (fun h => nomatch h), (fun _ => rfl)⟩, rfl, rfl, rfl, (fun _ _ h => nomatch h)⟩
theorem to114 : TyOk Tryz.prog 114 ti114 := ⟨Tryz.underlying114, rfl, ⟨Tryz.t114, _, Tryz.type114, rfl, rfl, rfl, rfl, (fun h => nomatch h), (fun _ => rfl)⟩, rfl, rfl, rfl, (fun _ _ h => nomatch h)⟩
theorem to115 : TyOk Tryz.prog 115 ti115 := ⟨Tryz.underlying115, rfl, ⟨Tryz.t115, _, Tryz.type115, rfl, rfl, rfl, rfl, (fun h => nomatch h), (fun _ => rfl)⟩, rfl, rfl, rfl, (fun _ _ h => nomatch h)⟩
theorem to116 : TyOk Tryz.prog 116 ti116 := ⟨Tryz.underlying116, rfl, ⟨Tryz.t116, _, Tryz.type116, rfl, rfl, rfl, rfl, (fun h => nomatch h), (fun _ => rfl)⟩, rfl, rfl, rfl, (fun _ _ h => nomatch h)⟩
theorem to117 : TyOk Tryz.prog 117 ti117 := ⟨Tryz.underlying117, rfl, ⟨Tryz.t117, _, Tryz.type117, rfl, rfl, rfl, rfl, (fun h => nomatch h), (fun _ => rfl)⟩, rfl, rfl, rfl, (fun _ _ h => nomatch h)⟩
theorem to118 : TyOk Tryz.prog 118 ti118 := ⟨Tryz.underlying118, rfl, ⟨Tryz.t118, _, Tryz.type118, rfl, rfl, rfl, rfl, (fun h => nomatch h), (fun _ => rfl)⟩, rfl, rfl, rfl, (fun _ _ h => nomatch h)⟩
theorem to119 : TyOk Tryz.prog 119 ti119 := ⟨Tryz.underlying119, rfl, ⟨Tryz.t119, _, Tryz.type119, rfl, rfl, rfl, rfl, (fun h => nomatch h), (fun _ => rfl)⟩, rfl, rfl, rfl, (fun _ _ h => nomatch h)⟩
theorem to120 : TyOk Tryz.prog 120 ti120 := ⟨Tryz.underlying120, rfl, ⟨Tryz.t120, _, Tryz.type120, rfl, rfl, rfl, rfl, (fun _ => rfl), (fun h => nomatch h)⟩, rfl, rfl, rfl, (fun _ _ h => nomatch h)⟩
theorem to121 : TyOk Tryz.prog 121 ti121 := ⟨Tryz.underlying121, rfl, ⟨Tryz.t121, _, Tryz.type121, rfl, rfl, rfl, rfl, (fun _ => rfl), (fun h => nomatch h)⟩, rfl, rfl, rfl, (fun _ _ h => nomatch h)⟩
theorem to122 : TyOk Tryz.prog 122 ti122 := ⟨Tryz.underlying122, rfl, ⟨Tryz.t122, _, Tryz.type122, rfl, rfl, rfl, rfl, (fun h => nomatch h), (fun _ => rfl)⟩, rfl, rfl, rfl, (fun _ _ h => nomatch h)⟩
theorem to123 : TyOk Tryz.prog 123 ti123 := ⟨Tryz.underlying123, rfl, ⟨Tryz.t123, _, Tryz.type123, rfl, rfl, rfl, rfl, (fun h => nomatch h), (fun _ => rfl)⟩, rfl, rfl, rfl, (fun _ _ h => nomatch h)⟩
theorem to124 : TyOk Tryz.prog 124 ti124 := ⟨Tryz.underlying124, rfl, ⟨Tryz.t124, _, Tryz.type124, rfl, rfl, rfl, rfl, (fun h => nomatch h), (fun _ => rfl)⟩, rfl, rfl, rfl, (fun _ _ h => nomatch h)⟩
theorem to125 : TyOk Tryz.prog 125 ti125 := ⟨Tryz.underlying125, rfl, ⟨Tryz.t125, _, Tryz.type125, rfl, rfl, rfl, rfl, (fun h => nomatch h), (fun _ => rfl)⟩, rfl, rfl, rfl, (fun _ _ h => nomatch h)⟩
theorem to126 : TyOk Tryz.prog 126 ti126 := ⟨Tryz.underlying126, rfl, ⟨Tryz.t126, _, Tryz.type126, rfl, rfl, rfl, rfl, (fun h => nomatch h), (fun _ => rfl)⟩, rfl, rfl, rfl, (fun _ _ h => nomatch h)⟩
theorem to127 : TyOk Tryz.prog 127 ti127 := ⟨Tryz.underlying127, rfl, ⟨Tryz.t127, _, Tryz.type127, rfl, rfl, rfl, rfl, (fun h => nomatch h), (fun _ => rfl)⟩, rfl, rfl, rfl, (fun _ _ h => nomatch h)⟩
theorem to129 : TyOk Tryz.prog 129 ti129 := ⟨Tryz.underlying129, rfl, ⟨Tryz.t129, _, Tryz.type129, rfl, rfl, rfl, rfl, (fun h => nomatch h), (fun _ => rfl)⟩, rfl, rfl, rfl, (fun _ _ h => nomatch h)⟩
theorem to130 : TyOk Tryz.prog 130 ti130 := ⟨Tryz.underlying130, rfl, ⟨Tryz.t130, _, Tryz.type130, rfl, rfl, rfl, rfl, (fun h => nomatch h), (fun _ => rfl)⟩, rfl, rfl, rfl, (fun _ _ h => nomatch h)⟩
theorem to132 : TyOk Tryz.prog 132 ti132 := ⟨Tryz.underlying132, rfl, ⟨Tryz.t132, _, Tryz.type132, rfl, rfl, rfl, rfl, (fun h => nomatch h), (fun _ => rfl)⟩, rfl, rfl, rfl, (fun _ _ h => nomatch h)⟩
theorem to133 : TyOk Tryz.prog 133 ti133 := ⟨Tryz.underlying133, rfl, ⟨Tryz.t133, _, Tryz.type133, rfl, rfl, rfl, rfl, (fun h => nomatch h), (fun _ => rfl)⟩, rfl, rfl, rfl, (fun _ _ h => nomatch h)⟩
theorem ms134 : ∀ n g, findM ti134.ms n = some g → ∀ v w, (method (Tryz.prog.types.size + Made.depth) 134 v n).run Tryz.prog w = .ok (g, v) w := by
  intro n g h v w
  simp only [ti134, findM] at h
  split at h
  · rename_i hn; have hn := of_decide_eq_true hn; subst hn; cases h; rfl
  split at h
  · rename_i hn; have hn := of_decide_eq_true hn; subst hn; cases h; rfl
  cases h
theorem to134 : TyOk Tryz.prog 134 ti134 := ⟨Tryz.underlying134, rfl, ⟨Tryz.t134, _, Tryz.type134, rfl, rfl, rfl, rfl, (fun h => nomatch h), (fun _ => rfl)⟩, rfl, rfl, rfl, ms134⟩
theorem to135 : TyOk Tryz.prog 135 ti135 := ⟨Tryz.underlying135, rfl, ⟨Tryz.t135, _, Tryz.type135, rfl, rfl, rfl, rfl, (fun _ => rfl), (fun h => nomatch h)⟩, rfl, rfl, rfl, (fun _ _ h => nomatch h)⟩
theorem to136 : TyOk Tryz.prog 136 ti136 := ⟨Tryz.underlying136, rfl, ⟨Tryz.t136, _, Tryz.type136, rfl, rfl, rfl, rfl, (fun _ => rfl), (fun h => nomatch h)⟩, rfl, rfl, rfl, (fun _ _ h => nomatch h)⟩
theorem to138 : TyOk Tryz.prog 138 ti138 := ⟨Tryz.underlying138, rfl, ⟨Tryz.t138, _, Tryz.type138, rfl, rfl, rfl, rfl, (fun h => nomatch h), (fun _ => rfl)⟩, rfl, rfl, rfl, (fun _ _ h => nomatch h)⟩
theorem to139 : TyOk Tryz.prog 139 ti139 := ⟨Tryz.underlying139, rfl, ⟨Tryz.t139, _, Tryz.type139, rfl, rfl, rfl, rfl, (fun h => nomatch h), (fun _ => rfl)⟩, rfl, rfl, rfl, (fun _ _ h => nomatch h)⟩
theorem to141 : TyOk Tryz.prog 141 ti141 := ⟨Tryz.underlying141, rfl, ⟨Tryz.t141, _, Tryz.type141, rfl, rfl, rfl, rfl, (fun h => nomatch h), (fun _ => rfl)⟩, rfl, rfl, rfl, (fun _ _ h => nomatch h)⟩
theorem ms142 : ∀ n g, findM ti142.ms n = some g → ∀ v w, (method (Tryz.prog.types.size + Made.depth) 142 v n).run Tryz.prog w = .ok (g, v) w := by
  intro n g h v w
  simp only [ti142, findM] at h
  split at h
  · rename_i hn; have hn := of_decide_eq_true hn; subst hn; cases h; rfl
  split at h
  · rename_i hn; have hn := of_decide_eq_true hn; subst hn; cases h; rfl
  split at h
  · rename_i hn; have hn := of_decide_eq_true hn; subst hn; cases h; rfl
  cases h
theorem to142 : TyOk Tryz.prog 142 ti142 := ⟨Tryz.underlying142, rfl, ⟨Tryz.t142, _, Tryz.type142, rfl, rfl, rfl, rfl, (fun h => nomatch h), (fun _ => rfl)⟩, rfl, rfl, rfl, ms142⟩
theorem to143 : TyOk Tryz.prog 143 ti143 := ⟨Tryz.underlying143, rfl, ⟨Tryz.t143, _, Tryz.type143, rfl, rfl, rfl, rfl, (fun h => nomatch h), (fun _ => rfl)⟩, rfl, rfl, rfl, (fun _ _ h => nomatch h)⟩
theorem to144 : TyOk Tryz.prog 144 ti144 := ⟨Tryz.underlying144, rfl, ⟨Tryz.t144, _, Tryz.type144, rfl, rfl, rfl, rfl, (fun h => nomatch h), (fun _ => rfl)⟩, rfl, rfl, rfl, (fun _ _ h => nomatch h)⟩
theorem to145 : TyOk Tryz.prog 145 ti145 := ⟨Tryz.underlying145, rfl, ⟨Tryz.t145, _, Tryz.type145, rfl, rfl, rfl, rfl, (fun _ => rfl), (fun h => nomatch h)⟩, rfl, rfl, rfl, (fun _ _ h => nomatch h)⟩
theorem to146 : TyOk Tryz.prog 146 ti146 := ⟨Tryz.underlying146, rfl, ⟨Tryz.t146, _, Tryz.type146, rfl, rfl, rfl, rfl, (fun _ => rfl), (fun h => nomatch h)⟩, rfl, rfl, rfl, (fun _ _ h => nomatch h)⟩
theorem to147 : TyOk Tryz.prog 147 ti147 := ⟨Tryz.underlying147, rfl, ⟨Tryz.t147, _, Tryz.type147, rfl, rfl, rfl, rfl, (fun h => nomatch h), (fun _ => rfl)⟩, rfl, rfl, rfl, (fun _ _ h => nomatch h)⟩
theorem to148 : TyOk Tryz.prog 148 ti148 := ⟨Tryz.underlying148, rfl, ⟨Tryz.t148, _, Tryz.type148, rfl, rfl, rfl, rfl, (fun h => nomatch h), (fun _ => rfl)⟩, rfl, rfl, rfl, (fun _ _ h => nomatch h)⟩
theorem to150 : TyOk Tryz.prog 150 ti150 := ⟨Tryz.underlying150, rfl, ⟨Tryz.t150, _, Tryz.type150, rfl, rfl, rfl, rfl, (fun h => nomatch h), (fun _ => rfl)⟩, rfl, rfl, rfl, (fun _ _ h => nomatch h)⟩
theorem to151 : TyOk Tryz.prog 151 ti151 := ⟨Tryz.underlying151, rfl, ⟨Tryz.t151, _, Tryz.type151, rfl, rfl, rfl, rfl, (fun h => nomatch h), (fun _ => rfl)⟩, rfl, rfl, rfl, (fun _ _ h => nomatch h)⟩
theorem to152 : TyOk Tryz.prog 152 ti152 := ⟨Tryz.underlying152, rfl, ⟨Tryz.t152, _, Tryz.type152, rfl, rfl, rfl, rfl, (fun h => nomatch h), (fun _ => rfl)⟩, rfl, rfl, rfl, (fun _ _ h => nomatch h)⟩
theorem to154 : TyOk Tryz.prog 154 ti154 := ⟨Tryz.underlying154, rfl, ⟨Tryz.t154, _, Tryz.type154, rfl, rfl, rfl, rfl, (fun h => nomatch h), (fun _ => rfl)⟩, rfl, rfl, rfl, (fun _ _ h => nomatch h)⟩
theorem to155 : TyOk Tryz.prog 155 ti155 := ⟨Tryz.underlying155, rfl, ⟨Tryz.t155, _, Tryz.type155, rfl, rfl, rfl, rfl, (fun h => nomatch h), (fun _ => rfl)⟩, rfl, rfl, rfl, (fun _ _ h => nomatch h)⟩
theorem to156 : TyOk Tryz.prog 156 ti156 := ⟨Tryz.underlying156, rfl, ⟨Tryz.t156, _, Tryz.type156, rfl, rfl, rfl, rfl, (fun h => nomatch h), (fun _ => rfl)⟩, rfl, rfl, rfl, (fun _ _ h => nomatch h)⟩
theorem to157 : TyOk Tryz.prog 157 ti157 := ⟨Tryz.underlying157, rfl, ⟨Tryz.t157, _, Tryz.type157, rfl, rfl, rfl, rfl, (fun h => nomatch h), (fun _ => rfl)⟩, rfl, rfl, rfl, (fun _ _ h => nomatch h)⟩
theorem to159 : TyOk Tryz.prog 159 ti159 := ⟨Tryz.underlying159, rfl, ⟨Tryz.t159, _, Tryz.type159, rfl, rfl, rfl, rfl, (fun h => nomatch h), (fun _ => rfl)⟩, rfl, rfl, rfl, (fun _ _ h => nomatch h)⟩
theorem to161 : TyOk Tryz.prog 161 ti161 := ⟨Tryz.underlying161, rfl, ⟨Tryz.t161, _, Tryz.type161, rfl, rfl, rfl, rfl, (fun h => nomatch h), (fun _ => rfl)⟩, rfl, rfl, rfl, (fun _ _ h => nomatch h)⟩
theorem to162 : TyOk Tryz.prog 162 ti162 := ⟨Tryz.underlying162, rfl, ⟨Tryz.t162, _, Tryz.type162, rfl, rfl, rfl, rfl, (fun h => nomatch h), (fun _ => rfl)⟩, rfl, rfl, rfl, (fun _ _ h => nomatch h)⟩
theorem to163 : TyOk Tryz.prog 163 ti163 := ⟨Tryz.underlying163, rfl, ⟨Tryz.t163, _, Tryz.type163, rfl, rfl, rfl, rfl, (fun h => nomatch h), (fun _ => rfl)⟩, rfl, rfl, rfl, (fun _ _ h => nomatch h)⟩
theorem to164 : TyOk Tryz.prog 164 ti164 := ⟨Tryz.underlying164, rfl, ⟨Tryz.t164, _, Tryz.type164, rfl, rfl, rfl, rfl, (fun h => nomatch h), (fun _ => rfl)⟩, rfl, rfl, rfl, (fun _ _ h => nomatch h)⟩
theorem to166 : TyOk Tryz.prog 166 ti166 := ⟨Tryz.underlying166, rfl, ⟨Tryz.t166, _, Tryz.type166, rfl, rfl, rfl, rfl, (fun h => nomatch h), (fun _ => rfl)⟩, rfl, rfl, rfl, (fun _ _ h => nomatch h)⟩
theorem to167 : TyOk Tryz.prog 167 ti167 := ⟨Tryz.underlying167, rfl, ⟨Tryz.t167, _, Tryz.type167, rfl, rfl, rfl, rfl, (fun h => nomatch h), (fun _ => rfl)⟩, rfl, rfl, rfl, (fun _ _ h => nomatch h)⟩
theorem to168 : TyOk Tryz.prog 168 ti168 := ⟨Tryz.underlying168, rfl, ⟨Tryz.t168, _, Tryz.type168, rfl, rfl, rfl, rfl, (fun h => nomatch h), (fun _ => rfl)⟩, rfl, rfl, rfl, (fun _ _ h => nomatch h)⟩
theorem to169 : TyOk Tryz.prog 169 ti169 := ⟨Tryz.underlying169, rfl, ⟨Tryz.t169, _, Tryz.type169, rfl, rfl, rfl, rfl, (fun h => nomatch h), (fun _ => rfl)⟩, rfl, rfl, rfl, (fun _ _ h => nomatch h)⟩
theorem to171 : TyOk Tryz.prog 171 ti171 := ⟨Tryz.underlying171, rfl, ⟨Tryz.t171, _, Tryz.type171, rfl, rfl, rfl, rfl, (fun h => nomatch h), (fun _ => rfl)⟩, rfl, rfl, rfl, (fun _ _ h => nomatch h)⟩
theorem to172 : TyOk Tryz.prog 172 ti172 := ⟨Tryz.underlying172, rfl, ⟨Tryz.t172, _, Tryz.type172, rfl, rfl, rfl, rfl, (fun h => nomatch h), (fun _ => rfl)⟩, rfl, rfl, rfl, (fun _ _ h => nomatch h)⟩
theorem to173 : TyOk Tryz.prog 173 ti173 := ⟨Tryz.underlying173, rfl, ⟨Tryz.t173, _, Tryz.type173, rfl, rfl, rfl, rfl, (fun h => nomatch h), (fun _ => rfl)⟩, rfl, rfl, rfl, (fun _ _ h => nomatch h)⟩
theorem to174 : TyOk Tryz.prog 174 ti174 := ⟨Tryz.underlying174, rfl, ⟨Tryz.t174, _, Tryz.type174, rfl, rfl, rfl, rfl, (fun h => nomatch h), (fun _ => rfl)⟩, rfl, rfl, rfl, (fun _ _ h => nomatch h)⟩
theorem to175 : TyOk Tryz.prog 175 ti175 := ⟨Tryz.underlying175, rfl, ⟨Tryz.t175, _, Tryz.type175, rfl, rfl, rfl, rfl, (fun h => nomatch h), (fun _ => rfl)⟩, rfl, rfl, rfl, (fun _ _ h => nomatch h)⟩
theorem to176 : TyOk Tryz.prog 176 ti176 := ⟨Tryz.underlying176, rfl, ⟨Tryz.t176, _, Tryz.type176, rfl, rfl, rfl, rfl, (fun h => nomatch h), (fun _ => rfl)⟩, rfl, rfl, rfl, (fun _ _ h => nomatch h)⟩
theorem to177 : TyOk Tryz.prog 177 ti177 := ⟨Tryz.underlying177, rfl, ⟨Tryz.t177, _, Tryz.type177, rfl, rfl, rfl, rfl, (fun h => nomatch h), (fun _ => rfl)⟩, rfl, rfl, rfl, (fun _ _ h => nomatch h)⟩
theorem to178 : TyOk Tryz.prog 178 ti178 := ⟨Tryz.underlying178, rfl, ⟨Tryz.t178, _, Tryz.type178, rfl, rfl, rfl, rfl, (fun h => nomatch h), (fun _ => rfl)⟩, rfl, rfl, rfl, (fun _ _ h => nomatch h)⟩
theorem to179 : TyOk Tryz.prog 179 ti179 := ⟨Tryz.underlying179, rfl, ⟨Tryz.t179, _, Tryz.type179, rfl, rfl, rfl, rfl, (fun h => nomatch h), (fun _ => rfl)⟩, rfl, rfl, rfl, (fun _ _ h => nomatch h)⟩
theorem to180 : TyOk Tryz.prog 180 ti180 := ⟨Tryz.underlying180, rfl, ⟨Tryz.t180, _, Tryz.type180, rfl, rfl, rfl, rfl, (fun h => nomatch h), (fun _ => rfl)⟩, rfl, rfl, rfl, (fun _ _ h => nomatch h)⟩
theorem to181 : TyOk Tryz.prog 181 ti181 := ⟨Tryz.underlying181, rfl, ⟨Tryz.t181, _, Tryz.type181, rfl, rfl, rfl, rfl, (fun h => nomatch h), (fun _ => rfl)⟩, rfl, rfl, rfl, (fun _ _ h => nomatch h)⟩
theorem to182 : TyOk Tryz.prog 182 ti182 := ⟨Tryz.underlying182, rfl, ⟨Tryz.t182, _, Tryz.type182, rfl, rfl, rfl, rfl, (fun h => nomatch h), (fun _ => rfl)⟩, rfl, rfl, rfl, (fun _ _ h => nomatch h)⟩
theorem to183 : TyOk Tryz.prog 183 ti183 := ⟨Tryz.underlying183, rfl, ⟨Tryz.t183, _, Tryz.type183, rfl, rfl, rfl, rfl, (fun h => nomatch h), (fun _ => rfl)⟩, rfl, rfl, rfl, (fun _ _ h => nomatch h)⟩
theorem to184 : TyOk Tryz.prog 184 ti184 := ⟨Tryz.underlying184, rfl, ⟨Tryz.t184, _, Tryz.type184, rfl, rfl, rfl, rfl, (fun h => nomatch h), (fun _ => rfl)⟩, rfl, rfl, rfl, (fun _ _ h => nomatch h)⟩
theorem to185 : TyOk Tryz.prog 185 ti185 := ⟨Tryz.underlying185, rfl, ⟨Tryz.t185, _, Tryz.type185, rfl, rfl, rfl, rfl, (fun h => nomatch h), (fun _ => rfl)⟩, rfl, rfl, rfl, (fun _ _ h => nomatch h)⟩
theorem to187 : TyOk Tryz.prog 187 ti187 := ⟨Tryz.underlying187, rfl, ⟨Tryz.t187, _, Tryz.type187, rfl, rfl, rfl, rfl, (fun h => nomatch h), (fun _ => rfl)⟩, rfl, rfl, rfl, (fun _ _ h => nomatch h)⟩
theorem to188 : TyOk Tryz.prog 188 ti188 := ⟨Tryz.underlying188, rfl, ⟨Tryz.t188, _, Tryz.type188, rfl, rfl, rfl, rfl, (fun h => nomatch h), (fun _ => rfl)⟩, rfl, rfl, rfl, (fun _ _ h => nomatch h)⟩
theorem to190 : TyOk Tryz.prog 190 ti190 := ⟨Tryz.underlying190, rfl, ⟨Tryz.t190, _, Tryz.type190, rfl, rfl, rfl, rfl, (fun h => nomatch h), (fun _ => rfl)⟩, rfl, rfl, rfl, (fun _ _ h => nomatch h)⟩
theorem to191 : TyOk Tryz.prog 191 ti191 := ⟨Tryz.underlying191, rfl, ⟨Tryz.t191, _, Tryz.type191, rfl, rfl, rfl, rfl, (fun h => nomatch h), (fun _ => rfl)⟩, rfl, rfl, rfl, (fun _ _ h => nomatch h)⟩
theorem to192 : TyOk Tryz.prog 192 ti192 := ⟨Tryz.underlying192, rfl, ⟨Tryz.t192, _, Tryz.type192, rfl, rfl, rfl, rfl, (fun h => nomatch h), (fun _ => rfl)⟩, rfl, rfl, rfl, (fun _ _ h => nomatch h)⟩
theorem to193 : TyOk Tryz.prog 193 ti193 := ⟨Tryz.underlying193, rfl, ⟨Tryz.t193, _, Tryz.type193, rfl, rfl, rfl, rfl, (fun _ => rfl), (fun h => nomatch h)⟩, rfl, rfl, rfl, (fun _ _ h => nomatch h)⟩
theorem to194 : TyOk Tryz.prog 194 ti194 := ⟨Tryz.underlying194, rfl, ⟨Tryz.t194, _, Tryz.type194, rfl, rfl, rfl, rfl, (fun _ => rfl), (fun h => nomatch h)⟩, rfl, rfl, rfl, (fun _ _ h => nomatch h)⟩
theorem to195 : TyOk Tryz.prog 195 ti195 := ⟨Tryz.underlying195, rfl, ⟨Tryz.t195, _, Tryz.type195, rfl, rfl, rfl, rfl, (fun h => nomatch h), (fun _ => rfl)⟩, rfl, rfl, rfl, (fun _ _ h => nomatch h)⟩
theorem to197 : TyOk Tryz.prog 197 ti197 := ⟨Tryz.underlying197, rfl, ⟨Tryz.t197, _, Tryz.type197, rfl, rfl, rfl, rfl, (fun h => nomatch h), (fun _ => rfl)⟩, rfl, rfl, rfl, (fun _ _ h => nomatch h)⟩
theorem to198 : TyOk Tryz.prog 198 ti198 := ⟨Tryz.underlying198, rfl, ⟨Tryz.t198, _, Tryz.type198, rfl, rfl, rfl, rfl, (fun h => nomatch h), (fun _ => rfl)⟩, rfl, rfl, rfl, (fun _ _ h => nomatch h)⟩
theorem to199 : TyOk Tryz.prog 199 ti199 := ⟨Tryz.underlying199, rfl, ⟨Tryz.t199, _, Tryz.type199, rfl, rfl, rfl, rfl, (fun h => nomatch h), (fun _ => rfl)⟩, rfl, rfl, rfl, (fun _ _ h => nomatch h)⟩
theorem ms200 : ∀ n g, findM ti200.ms n = some g → ∀ v w, (method (Tryz.prog.types.size + Made.depth) 200 v n).run Tryz.prog w = .ok (g, v) w := by
  intro n g h v w
  simp only [ti200, findM] at h
  split at h
  · rename_i hn; have hn := of_decide_eq_true hn; subst hn; cases h; rfl
  split at h
  · rename_i hn; have hn := of_decide_eq_true hn; subst hn; cases h; rfl
  split at h
  · rename_i hn; have hn := of_decide_eq_true hn; subst hn; cases h; rfl
  split at h
  · rename_i hn; have hn := of_decide_eq_true hn; subst hn; cases h; rfl
  split at h
  · rename_i hn; have hn := of_decide_eq_true hn; subst hn; cases h; rfl
  split at h
  · rename_i hn; have hn := of_decide_eq_true hn; subst hn; cases h; rfl
  split at h
  · rename_i hn; have hn := of_decide_eq_true hn; subst hn; cases h; rfl
  split at h
  · rename_i hn; have hn := of_decide_eq_true hn; subst hn; cases h; rfl
  split at h
  · rename_i hn; have hn := of_decide_eq_true hn; subst hn; cases h; rfl
  split at h
  · rename_i hn; have hn := of_decide_eq_true hn; subst hn; cases h; rfl
  split at h
  · rename_i hn; have hn := of_decide_eq_true hn; subst hn; cases h; rfl
  split at h
  · rename_i hn; have hn := of_decide_eq_true hn; subst hn; cases h; rfl
  split at h
  · rename_i hn; have hn := of_decide_eq_true hn; subst hn; cases h; rfl
  split at h
  · rename_i hn; have hn := of_decide_eq_true hn; subst hn; cases h; rfl
  split at h
  · rename_i hn; have hn := of_decide_eq_true hn; subst hn; cases h; rfl
  split at h
  · rename_i hn; have hn := of_decide_eq_true hn; subst hn; cases h; rfl
  split at h
  · rename_i hn; have hn := of_decide_eq_true hn; subst hn; cases h; rfl
  split at h
  · rename_i hn; have hn := of_decide_eq_true hn; subst hn; cases h; rfl
  split at h
  · rename_i hn; have hn := of_decide_eq_true hn; subst hn; cases h; rfl
  split at h
  · rename_i hn; have hn := of_decide_eq_true hn; subst hn; cases h; rfl
  cases h
theorem to200 : TyOk Tryz.prog 200 ti200 := ⟨Tryz.underlying200, rfl, ⟨Tryz.t200, _, Tryz.type200, rfl, rfl, rfl, rfl, (fun h => nomatch h), (fun _ => rfl)⟩, rfl, rfl, rfl, ms200⟩
theorem to201 : TyOk Tryz.prog 201 ti201 := ⟨Tryz.underlying201, rfl, ⟨Tryz.t201, _, Tryz.type201, rfl, rfl, rfl, rfl, (fun h => nomatch h), (fun _ => rfl)⟩, rfl, rfl, rfl, (fun _ _ h => nomatch h)⟩
theorem to202 : TyOk Tryz.prog 202 ti202 := ⟨Tryz.underlying202, rfl, ⟨Tryz.t202, _, Tryz.type202, rfl, rfl, rfl, rfl, (fun h => nomatch h), (fun _ => rfl)⟩, rfl, rfl, rfl, (fun _ _ h => nomatch h)⟩
theorem to203 : TyOk Tryz.prog 203 ti203 := ⟨Tryz.underlying203, rfl, ⟨Tryz.t203, _, Tryz.type203, rfl, rfl, rfl, rfl, (fun _ => rfl), (fun h => nomatch h)⟩, rfl, rfl, rfl, (fun _ _ h => nomatch h)⟩
theorem to204 : TyOk Tryz.prog 204 ti204 := ⟨Tryz.underlying204, rfl, ⟨Tryz.t204, _, Tryz.type204, rfl, rfl, rfl, rfl, (fun _ => rfl), (fun h => nomatch h)⟩, rfl, rfl, rfl, (fun _ _ h => nomatch h)⟩
theorem to205 : TyOk Tryz.prog 205 ti205 := ⟨Tryz.underlying205, rfl, ⟨Tryz.t205, _, Tryz.type205, rfl, rfl, rfl, rfl, (fun h => nomatch h), (fun _ => rfl)⟩, rfl, rfl, rfl, (fun _ _ h => nomatch h)⟩
theorem to206 : TyOk Tryz.prog 206 ti206 := ⟨Tryz.underlying206, rfl, ⟨Tryz.t206, _, Tryz.type206, rfl, rfl, rfl, rfl, (fun h => nomatch h), (fun _ => rfl)⟩, rfl, rfl, rfl, (fun _ _ h => nomatch h)⟩
theorem to207 : TyOk Tryz.prog 207 ti207 := ⟨Tryz.underlying207, rfl, ⟨Tryz.t207, _, Tryz.type207, rfl, rfl, rfl, rfl, (fun _ => rfl), (fun h => nomatch h)⟩, rfl, rfl, rfl, (fun _ _ h => nomatch h)⟩
theorem to208 : TyOk Tryz.prog 208 ti208 := ⟨Tryz.underlying208, rfl, ⟨Tryz.t208, _, Tryz.type208, rfl, rfl, rfl, rfl, (fun _ => rfl), (fun h => nomatch h)⟩, rfl, rfl, rfl, (fun _ _ h => nomatch h)⟩
theorem to209 : TyOk Tryz.prog 209 ti209 := ⟨Tryz.underlying209, rfl, ⟨Tryz.t209, _, Tryz.type209, rfl, rfl, rfl, rfl, (fun h => nomatch h), (fun _ => rfl)⟩, rfl, rfl, rfl, (fun _ _ h => nomatch h)⟩
theorem to211 : TyOk Tryz.prog 211 ti211 := ⟨Tryz.underlying211, rfl, ⟨Tryz.t211, _, Tryz.type211, rfl, rfl, rfl, rfl, (fun h => nomatch h), (fun _ => rfl)⟩, rfl, rfl, rfl, (fun _ _ h => nomatch h)⟩
theorem to212 : TyOk Tryz.prog 212 ti212 := ⟨Tryz.underlying212, rfl, ⟨Tryz.t212, _, Tryz.type212, rfl, rfl, rfl, rfl, (fun h => nomatch h), (fun _ => rfl)⟩, rfl, rfl, rfl, (fun _ _ h => nomatch h)⟩
theorem to213 : TyOk Tryz.prog 213 ti213 := ⟨Tryz.underlying213, rfl, ⟨Tryz.t213, _, Tryz.type213, rfl, rfl, rfl, rfl, (fun h => nomatch h), (fun _ => rfl)⟩, rfl, rfl, rfl, (fun _ _ h => nomatch h)⟩
theorem to214 : TyOk Tryz.prog 214 ti214 := ⟨Tryz.underlying214, rfl, ⟨Tryz.t214, _, Tryz.type214, rfl, rfl, rfl, rfl, (fun h => nomatch h), (fun _ => rfl)⟩, rfl, rfl, rfl, (fun _ _ h => nomatch h)⟩
theorem to215 : TyOk Tryz.prog 215 ti215 := ⟨Tryz.underlying215, rfl, ⟨Tryz.t215, _, Tryz.type215, rfl, rfl, rfl, rfl, (fun h => nomatch h), (fun _ => rfl)⟩, rfl, rfl, rfl, (fun _ _ h => nomatch h)⟩
theorem to216 : TyOk Tryz.prog 216 ti216 := ⟨Tryz.underlying216, rfl, ⟨Tryz.t216, _, Tryz.type216, rfl, rfl, rfl, rfl, (fun h => nomatch h), (fun _ => rfl)⟩, rfl, rfl, rfl, (fun _ _ h => nomatch h)⟩
theorem to217 : TyOk Tryz.prog 217 ti217 := ⟨Tryz.underlying217, rfl, ⟨Tryz.t217, _, Tryz.type217, rfl, rfl, rfl, rfl, (fun h => nomatch h), (fun _ => rfl)⟩, rfl, rfl, rfl, (fun _ _ h => nomatch h)⟩
theorem to218 : TyOk Tryz.prog 218 ti218 := ⟨Tryz.underlying218, rfl, ⟨Tryz.t218, _, Tryz.type218, rfl, rfl, rfl, rfl, (fun h => nomatch h), (fun _ => rfl)⟩, rfl, rfl, rfl, (fun _ _ h => nomatch h)⟩
theorem to219 : TyOk Tryz.prog 219 ti219 := ⟨Tryz.underlying219, rfl, ⟨Tryz.t219, _, Tryz.type219, rfl, rfl, rfl, rfl, (fun h => nomatch h), (fun _ => rfl)⟩, rfl, rfl, rfl, (fun _ _ h => nomatch h)⟩
theorem to221 : TyOk Tryz.prog 221 ti221 := ⟨Tryz.underlying221, rfl, ⟨Tryz.t221, _, Tryz.type221, rfl, rfl, rfl, rfl, (fun h => nomatch h), (fun _ => rfl)⟩, rfl, rfl, rfl, (fun _ _ h => nomatch h)⟩
theorem to222 : TyOk Tryz.prog 222 ti222 := ⟨Tryz.underlying222, rfl, ⟨Tryz.t222, _, Tryz.type222, rfl, rfl, rfl, rfl, (fun h => nomatch h), (fun _ => rfl)⟩, rfl, rfl, rfl, (fun _ _ h => nomatch h)⟩
theorem to223 : TyOk Tryz.prog 223 ti223 := ⟨Tryz.underlying223, rfl, ⟨Tryz.t223, _, Tryz.type223, rfl, rfl, rfl, rfl, (fun h => nomatch h), (fun _ => rfl)⟩, rfl, rfl, rfl, (fun _ _ h => nomatch h)⟩
theorem to224 : TyOk Tryz.prog 224 ti224 := ⟨Tryz.underlying224, rfl, ⟨Tryz.t224, _, Tryz.type224, rfl, rfl, rfl, rfl, (fun h => nomatch h), (fun _ => rfl)⟩, rfl, rfl, rfl, (fun _ _ h => nomatch h)⟩
theorem to226 : TyOk Tryz.prog 226 ti226 := ⟨Tryz.underlying226, rfl, ⟨Tryz.t226, _, Tryz.type226, rfl, rfl, rfl, rfl, (fun h => nomatch h), (fun _ => rfl)⟩, rfl, rfl, rfl, (fun _ _ h => nomatch h)⟩
theorem to227 : TyOk Tryz.prog 227 ti227 := ⟨Tryz.underlying227, rfl, ⟨Tryz.t227, _, Tryz.type227, rfl, rfl, rfl, rfl, (fun h => nomatch h), (fun _ => rfl)⟩, rfl, rfl, rfl, (fun _ _ h => nomatch h)⟩
theorem to228 : TyOk Tryz.prog 228 ti228 := ⟨Tryz.underlying228, rfl, ⟨Tryz.t228, _, Tryz.type228, rfl, rfl, rfl, rfl, (fun h => nomatch h), (fun _ => rfl)⟩, rfl, rfl, rfl, (fun _ _ h => nomatch h)⟩
theorem to229 : TyOk Tryz.prog 229 ti229 := ⟨Tryz.underlying229, rfl, ⟨Tryz.t229, _, Tryz.type229, rfl, rfl, rfl, rfl, (fun h => nomatch h), (fun _ => rfl)⟩, rfl, rfl, rfl, (fun _ _ h => nomatch h)⟩
theorem to230 : TyOk Tryz.prog 230 ti230 := ⟨Tryz.underlying230, rfl, ⟨Tryz.t230, _, Tryz.type230, rfl, rfl, rfl, rfl, (fun h => nomatch h), (fun _ => rfl)⟩, rfl, rfl, rfl, (fun _ _ h => nomatch h)⟩
theorem to231 : TyOk Tryz.prog 231 ti231 := ⟨Tryz.underlying231, rfl, ⟨Tryz.t231, _, Tryz.type231, rfl, rfl, rfl, rfl, (fun h => nomatch h), (fun _ => rfl)⟩, rfl, rfl, rfl, (fun _ _ h => nomatch h)⟩
theorem to232 : TyOk Tryz.prog 232 ti232 := ⟨Tryz.underlying232, rfl, ⟨Tryz.t232, _, Tryz.type232, rfl, rfl, rfl, rfl, (fun _ => rfl), (fun h => nomatch h)⟩, rfl, rfl, rfl, (fun _ _ h => nomatch h)⟩
theorem to233 : TyOk Tryz.prog 233 ti233 := ⟨Tryz.underlying233, rfl, ⟨Tryz.t233, _, Tryz.type233, rfl, rfl, rfl, rfl, (fun _ => rfl), (fun h => nomatch h)⟩, rfl, rfl, rfl, (fun _ _ h => nomatch h)⟩
theorem to235 : TyOk Tryz.prog 235 ti235 := ⟨Tryz.underlying235, rfl, ⟨Tryz.t235, _, Tryz.type235, rfl, rfl, rfl, rfl, (fun h => nomatch h), (fun _ => rfl)⟩, rfl, rfl, rfl, (fun _ _ h => nomatch h)⟩
theorem to236 : TyOk Tryz.prog 236 ti236 := ⟨Tryz.underlying236, rfl, ⟨Tryz.t236, _, Tryz.type236, rfl, rfl, rfl, rfl, (fun h => nomatch h), (fun _ => rfl)⟩, rfl, rfl, rfl, (fun _ _ h => nomatch h)⟩
theorem to237 : TyOk Tryz.prog 237 ti237 := ⟨Tryz.underlying237, rfl, ⟨Tryz.t237, _, Tryz.type237, rfl, rfl, rfl, rfl, (fun h => nomatch h), (fun _ => rfl)⟩, rfl, rfl, rfl, (fun _ _ h => nomatch h)⟩
theorem to238 : TyOk Tryz.prog 238 ti238 := ⟨Tryz.underlying238, rfl, ⟨Tryz.t238, _, Tryz.type238, rfl, rfl, rfl, rfl, (fun _ => rfl), (fun h => nomatch h)⟩, rfl, rfl, rfl, (fun _ _ h => nomatch h)⟩
theorem to239 : TyOk Tryz.prog 239 ti239 := ⟨Tryz.underlying239, rfl, ⟨Tryz.t239, _, Tryz.type239, rfl, rfl, rfl, rfl, (fun _ => rfl), (fun h => nomatch h)⟩, rfl, rfl, rfl, (fun _ _ h => nomatch h)⟩
theorem to240 : TyOk Tryz.prog 240 ti240 := ⟨Tryz.underlying240, rfl, ⟨Tryz.t240, _, Tryz.type240, rfl, rfl, rfl, rfl, (fun h => nomatch h), (fun _ => rfl)⟩, rfl, rfl, rfl, (fun _ _ h => nomatch h)⟩
theorem ms241 : ∀ n g, findM ti241.ms n = some g → ∀ v w, (method (Tryz.prog.types.size + Made.depth) 241 v n).run Tryz.prog w = .ok (g, v) w := by
  intro n g h v w
  simp only [ti241, findM] at h
  split at h
  · rename_i hn; have hn := of_decide_eq_true hn; subst hn; cases h; rfl
  cases h
theorem to241 : TyOk Tryz.prog 241 ti241 := ⟨Tryz.underlying241, rfl, ⟨Tryz.t241, _, Tryz.type241, rfl, rfl, rfl, rfl, (fun h => nomatch h), (fun _ => rfl)⟩, rfl, rfl, rfl, ms241⟩
theorem to242 : TyOk Tryz.prog 242 ti242 := ⟨Tryz.underlying242, rfl, ⟨Tryz.t242, .agg ti242.zero.toArray, Tryz.type242, rfl, rfl, by kernel_rfl, by kernel_rfl, fun _ => rfl, fun h => nomatch h⟩, by kernel_rfl, by kernel_rfl, by kernel_rfl, (fun _ _ h => nomatch h)⟩
theorem to243 : TyOk Tryz.prog 243 ti243 := ⟨Tryz.underlying243, rfl, ⟨Tryz.t243, .agg ti243.zero.toArray, Tryz.type243, rfl, rfl, by kernel_rfl, by kernel_rfl, fun _ => rfl, fun h => nomatch h⟩, by kernel_rfl, by kernel_rfl, by kernel_rfl, (fun _ _ h => nomatch h)⟩
theorem to244 : TyOk Tryz.prog 244 ti244 := ⟨Tryz.underlying244, rfl, ⟨Tryz.t244, _, Tryz.type244, rfl, rfl, rfl, rfl, (fun h => nomatch h), (fun _ => rfl)⟩, rfl, rfl, rfl, (fun _ _ h => nomatch h)⟩
theorem to245 : TyOk Tryz.prog 245 ti245 := ⟨Tryz.underlying245, rfl, ⟨Tryz.t245, _, Tryz.type245, rfl, rfl, rfl, rfl, (fun h => nomatch h), (fun _ => rfl)⟩, rfl, rfl, rfl, (fun _ _ h => nomatch h)⟩
theorem to246 : TyOk Tryz.prog 246 ti246 := ⟨Tryz.underlying246, rfl, ⟨Tryz.t246, _, Tryz.type246, rfl, rfl, rfl, rfl, (fun h => nomatch h), (fun _ => rfl)⟩, rfl, rfl, rfl, (fun _ _ h => nomatch h)⟩
theorem to248 : TyOk Tryz.prog 248 ti248 := ⟨Tryz.underlying248, rfl, ⟨Tryz.t248, _, Tryz.type248, rfl, rfl, rfl, rfl, (fun h => nomatch h), (fun _ => rfl)⟩, rfl, rfl, rfl, (fun _ _ h => nomatch h)⟩
theorem to249 : TyOk Tryz.prog 249 ti249 := ⟨Tryz.underlying249, rfl, ⟨Tryz.t249, _, Tryz.type249, rfl, rfl, rfl, rfl, (fun h => nomatch h), (fun _ => rfl)⟩, rfl, rfl, rfl, (fun _ _ h => nomatch h)⟩
theorem to250 : TyOk Tryz.prog 250 ti250 := ⟨Tryz.underlying250, rfl, ⟨Tryz.t250, _, Tryz.type250, rfl, rfl, rfl, rfl, (fun h => nomatch h), (fun _ => rfl)⟩, rfl, rfl, rfl, (fun _ _ h => nomatch h)⟩
theorem to251 : TyOk Tryz.prog 251 ti251 := ⟨Tryz.underlying251, rfl, ⟨Tryz.t251, _, Tryz.type251, rfl, rfl, rfl, rfl, (fun h => nomatch h), (fun _ => rfl)⟩, rfl, rfl, rfl, (fun _ _ h => nomatch h)⟩
theorem to252 : TyOk Tryz.prog 252 ti252 := ⟨Tryz.underlying252, rfl, ⟨Tryz.t252, _, Tryz.type252, rfl, rfl, rfl, rfl, (fun h => nomatch h), (fun _ => rfl)⟩, rfl, rfl, rfl, (fun _ _ h => nomatch h)⟩
theorem to253 : TyOk Tryz.prog 253 ti253 := ⟨Tryz.underlying253, rfl, ⟨Tryz.t253, _, Tryz.type253, rfl, rfl, rfl, rfl, (fun h => nomatch h), (fun _ => rfl)⟩, rfl, rfl, rfl, (fun _ _ h => nomatch h)⟩
theorem ms254 : ∀ n g, findM ti254.ms n = some g → ∀ v w, (method (Tryz.prog.types.size + Made.depth) 254 v n).run Tryz.prog w = .ok (g, v) w := by
  intro n g h v w
  simp only [ti254, findM] at h
  split at h
  · rename_i hn; have hn := of_decide_eq_true hn; subst hn; cases h; rfl
  cases h
theorem to254 : TyOk Tryz.prog 254 ti254 := ⟨Tryz.underlying254, rfl, ⟨Tryz.t254, _, Tryz.type254, rfl, rfl, rfl, rfl, (fun h => nomatch h), (fun _ => rfl)⟩, rfl, rfl, rfl, ms254⟩
theorem to255 : TyOk Tryz.prog 255 ti255 := ⟨Tryz.underlying255, rfl, ⟨Tryz.t255, _, Tryz.type255, rfl, rfl, rfl, rfl, (fun _ => rfl), (fun h => nomatch h)⟩, rfl, rfl, rfl, (fun _ _ h => nomatch h)⟩
theorem to256 : TyOk Tryz.prog 256 ti256 := ⟨Tryz.underlying256, rfl, ⟨Tryz.t256, _, Tryz.type256, rfl, rfl, rfl, rfl, (fun _ => rfl), (fun h => nomatch h)⟩, rfl, rfl, rfl, (fun _ _ h => nomatch h)⟩
theorem to257 : TyOk Tryz.prog 257 ti257 := ⟨Tryz.underlying257, rfl, ⟨Tryz.t257, _, Tryz.type257, rfl, rfl, rfl, rfl, (fun _ => rfl), (fun h => nomatch h)⟩, rfl, rfl, rfl, (fun _ _ h => nomatch h)⟩
theorem to258 : TyOk Tryz.prog 258 ti258 := ⟨Tryz.underlying258, rfl, ⟨Tryz.t258, _, Tryz.type258, rfl, rfl, rfl, rfl, (fun _ => rfl), (fun h => nomatch h)⟩, rfl, rfl, rfl, (fun _ _ h => nomatch h)⟩
theorem to259 : TyOk Tryz.prog 259 ti259 := ⟨Tryz.underlying259, rfl, ⟨Tryz.t259, _, Tryz.type259, rfl, rfl, rfl, rfl, (fun h => nomatch h), (fun _ => rfl)⟩, rfl, rfl, rfl, (fun _ _ h => nomatch h)⟩
theorem to260 : TyOk Tryz.prog 260 ti260 := ⟨Tryz.underlying260, rfl, ⟨Tryz.t260, _, Tryz.type260, rfl, rfl, rfl, rfl, (fun h => nomatch h), (fun _ => rfl)⟩, rfl, rfl, rfl, (fun _ _ h => nomatch h)⟩
theorem to261 : TyOk Tryz.prog 261 ti261 := ⟨Tryz.underlying261, rfl, ⟨Tryz.t261, _, Tryz.type261, rfl, rfl, rfl, rfl, (fun h => nomatch h), (fun _ => rfl)⟩, rfl, rfl, rfl, (fun _ _ h => nomatch h)⟩
theorem to263 : TyOk Tryz.prog 263 ti263 := ⟨Tryz.underlying263, rfl, ⟨Tryz.t263, _, Tryz.type263, rfl, rfl, rfl, rfl, (fun h => nomatch h), (fun _ => rfl)⟩, rfl, rfl, rfl, (fun _ _ h => nomatch h)⟩
theorem to264 : TyOk Tryz.prog 264 ti264 := ⟨Tryz.underlying264, rfl, ⟨Tryz.t264, _, Tryz.type264, rfl, rfl, rfl, rfl, (fun h => nomatch h), (fun _ => rfl)⟩, rfl, rfl, rfl, (fun _ _ h => nomatch h)⟩
theorem to265 : TyOk Tryz.prog 265 ti265 := ⟨Tryz.underlying265, rfl, ⟨Tryz.t265, _, Tryz.type265, rfl, rfl, rfl, rfl, (fun _ => rfl), (fun h => nomatch h)⟩, rfl, rfl, rfl, (fun _ _ h => nomatch h)⟩
theorem to266 : TyOk Tryz.prog 266 ti266 := ⟨Tryz.underlying266, rfl, ⟨Tryz.t266, _, Tryz.type266, rfl, rfl, rfl, rfl, (fun _ => rfl), (fun h => nomatch h)⟩, rfl, rfl, rfl, (fun _ _ h => nomatch h)⟩
theorem to267 : TyOk Tryz.prog 267 ti267 := ⟨Tryz.underlying267, rfl, ⟨Tryz.t267, _, Tryz.type267, rfl, rfl, rfl, rfl, (fun h => nomatch h), (fun _ => rfl)⟩, rfl, rfl, rfl, (fun _ _ h => nomatch h)⟩
theorem to268 : TyOk Tryz.prog 268 ti268 := ⟨Tryz.underlying268, rfl, ⟨Tryz.t268, _, Tryz.type268, rfl, rfl, rfl, rfl, (fun h => nomatch h), (fun _ => rfl)⟩, rfl, rfl, rfl, (fun _ _ h => nomatch h)⟩
theorem to269 : TyOk Tryz.prog 269 ti269 := ⟨Tryz.underlying269, rfl, ⟨Tryz.t269, _, Tryz.type269, rfl, rfl, rfl, rfl, (fun h => nomatch h), (fun _ => rfl)⟩, rfl, rfl, rfl, (fun _ _ h => nomatch h)⟩
theorem to270 : TyOk Tryz.prog 270 ti270 := ⟨Tryz.underlying270, rfl, ⟨Tryz.t270, _, Tryz.type270, rfl, rfl, rfl, rfl, (fun h => nomatch h), (fun _ => rfl)⟩, rfl, rfl, rfl, (fun _ _ h => nomatch h)⟩
theorem to272 : TyOk Tryz.prog 272 ti272 := ⟨Tryz.underlying272, rfl, ⟨Tryz.t272, _, Tryz.type272, rfl, rfl, rfl, rfl, (fun h => nomatch h), (fun _ => rfl)⟩, rfl, rfl, rfl, (fun _ _ h => nomatch h)⟩
theorem to273 : TyOk Tryz.prog 273 ti273 := ⟨Tryz.underlying273, rfl, ⟨Tryz.t273, _, Tryz.type273, rfl, rfl, rfl, rfl, (fun h => nomatch h), (fun _ => rfl)⟩, rfl, rfl, rfl, (fun _ _ h => nomatch h)⟩
theorem to274 : TyOk Tryz.prog 274 ti274 := ⟨Tryz.underlying274, rfl, ⟨Tryz.t274, _, Tryz.type274, rfl, rfl, rfl, rfl, (fun h => nomatch h), (fun _ => rfl)⟩, rfl, rfl, rfl, (fun _ _ h => nomatch h)⟩
theorem to275 : TyOk Tryz.prog 275 ti275 := ⟨Tryz.underlying275, rfl, ⟨Tryz.t275, _, Tryz.type275, rfl, rfl, rfl, rfl, (fun h => nomatch h), (fun _ => rfl)⟩, rfl, rfl, rfl, (fun _ _ h => nomatch h)⟩
theorem to276 : TyOk Tryz.prog 276 ti276 := ⟨Tryz.underlying276, rfl, ⟨Tryz.t276, _, Tryz.type276, rfl, rfl, rfl, rfl, (fun h => nomatch h), (fun _ => rfl)⟩, rfl, rfl, rfl, (fun _ _ h => nomatch h)⟩
theorem to277 : TyOk Tryz.prog 277 ti277 := ⟨Tryz.underlying277, rfl, ⟨Tryz.t277, _, Tryz.type277, rfl, rfl, rfl, rfl, (fun _ => rfl), (fun h => nomatch h)⟩, rfl, rfl, rfl, (fun _ _ h => nomatch h)⟩
theorem to278 : TyOk Tryz.prog 278 ti278 := ⟨Tryz.underlying278, rfl, ⟨Tryz.t278, _, Tryz.type278, rfl, rfl, rfl, rfl, (fun _ => rfl), (fun h => nomatch h)⟩, rfl, rfl, rfl, (fun _ _ h => nomatch h)⟩
theorem to279 : TyOk Tryz.prog 279 ti279 := ⟨Tryz.underlying279, rfl, ⟨Tryz.t279, _, Tryz.type279, rfl, rfl, rfl, rfl, (fun h => nomatch h), (fun _ => rfl)⟩, rfl, rfl, rfl, (fun _ _ h => nomatch h)⟩
theorem to280 : TyOk Tryz.prog 280 ti280 := ⟨Tryz.underlying280, rfl, ⟨Tryz.t280, _, Tryz.type280, rfl, rfl, rfl, rfl, (fun h => nomatch h), (fun _ => rfl)⟩, rfl, rfl, rfl, (fun _ _ h => nomatch h)⟩
theorem to281 : TyOk Tryz.prog 281 ti281 := ⟨Tryz.underlying281, rfl, ⟨Tryz.t281, _, Tryz.type281, rfl, rfl, rfl, rfl, (fun h => nomatch h), (fun _ => rfl)⟩, rfl, rfl, rfl, (fun _ _ h => nomatch h)⟩
theorem to282 : TyOk Tryz.prog 282 ti282 := ⟨Tryz.underlying282, rfl, ⟨Tryz.t282, _, Tryz.type282, rfl, rfl, rfl, rfl, (fun h => nomatch h), (fun _ => rfl)⟩, rfl, rfl, rfl, (fun _ _ h => nomatch h)⟩
theorem to283 : TyOk Tryz.prog 283 ti283 := ⟨Tryz.underlying283, rfl, ⟨Tryz.t283, _, Tryz.type283, rfl, rfl, rfl, rfl, (fun h => nomatch h), (fun _ => rfl)⟩, rfl, rfl, rfl, (fun _ _ h => nomatch h)⟩
theorem to284 : TyOk Tryz.prog 284 ti284 := ⟨Tryz.underlying284, rfl, ⟨Tryz.t284, _, Tryz.type284, rfl, rfl, rfl, rfl, (fun h => nomatch h), (fun _ => rfl)⟩, rfl, rfl, rfl, (fun _ _ h => nomatch h)⟩
theorem to285 : TyOk Tryz.prog 285 ti285 := ⟨Tryz.underlying285, rfl, ⟨Tryz.t285, _, Tryz.type285, rfl, rfl, rfl, rfl, (fun h => nomatch h), (fun _ => rfl)⟩, rfl, rfl, rfl, (fun _ _ h => nomatch h)⟩
theorem to287 : TyOk Tryz.prog 287 ti287 := ⟨Tryz.underlying287, rfl, ⟨Tryz.t287, _, Tryz.type287, rfl, rfl, rfl, rfl, (fun h => nomatch h), (fun _ => rfl)⟩, rfl, rfl, rfl, (fun _ _ h => nomatch h)⟩
theorem to288 : TyOk Tryz.prog 288 ti288 := ⟨Tryz.underlying288, rfl, ⟨Tryz.t288, _, Tryz.type288, rfl, rfl, rfl, rfl, (fun h => nomatch h), (fun _ => rfl)⟩, rfl, rfl, rfl, (fun _ _ h => nomatch h)⟩
theorem to290 : TyOk Tryz.prog 290 ti290 := ⟨Tryz.underlying290, rfl, ⟨Tryz.t290, _, Tryz.type290, rfl, rfl, rfl, rfl, (fun h => nomatch h), (fun _ => rfl)⟩, rfl, rfl, rfl, (fun _ _ h => nomatch h)⟩
theorem to291 : TyOk Tryz.prog 291 ti291 := ⟨Tryz.underlying291, rfl, ⟨Tryz.t291, _, Tryz.type291, rfl, rfl, rfl, rfl, (fun _ => rfl), (fun h => nomatch h)⟩, rfl, rfl, rfl, (fun _ _ h => nomatch h)⟩
theorem to292 : TyOk Tryz.prog 292 ti292 := ⟨Tryz.underlying292, rfl, ⟨Tryz.t292, _, Tryz.type292, rfl, rfl, rfl, rfl, (fun _ => rfl), (fun h => nomatch h)⟩, rfl, rfl, rfl, (fun _ _ h => nomatch h)⟩
theorem to293 : TyOk Tryz.prog 293 ti293 := ⟨Tryz.underlying293, rfl, ⟨Tryz.t293, _, Tryz.type293, rfl, rfl, rfl, rfl, (fun h => nomatch h), (fun _ => rfl)⟩, rfl, rfl, rfl, (fun _ _ h => nomatch h)⟩
theorem to294 : TyOk Tryz.prog 294 ti294 := ⟨Tryz.underlying294, rfl, ⟨Tryz.t294, _, Tryz.type294, rfl, rfl, rfl, rfl, (fun h => nomatch h), (fun _ => rfl)⟩, rfl, rfl, rfl, (fun _ _ h => nomatch h)⟩
theorem to295 : TyOk Tryz.prog 295 ti295 := ⟨Tryz.underlying295, rfl, ⟨Tryz.t295, _, Tryz.type295, rfl, rfl, rfl, rfl, (fun h => nomatch h), (fun _ => rfl)⟩, rfl, rfl, rfl, (fun _ _ h => nomatch h)⟩
theorem to296 : TyOk Tryz.prog 296 ti296 := ⟨Tryz.underlying296, rfl, ⟨Tryz.t296, _, Tryz.type296, rfl, rfl, rfl, rfl, (fun h => nomatch h), (fun _ => rfl)⟩, rfl, rfl, rfl, (fun _ _ h => nomatch h)⟩
theorem to297 : TyOk Tryz.prog 297 ti297 := ⟨Tryz.underlying297, rfl, ⟨Tryz.t297, _, Tryz.type297, rfl, rfl, rfl, rfl, (fun h => nomatch h), (fun _ => rfl)⟩, rfl, rfl, rfl, (fun _ _ h => nomatch h)⟩
theorem to298 : TyOk Tryz.prog 298 ti298 := ⟨Tryz.underlying298, rfl, ⟨Tryz.t298, _, Tryz.type298, rfl, rfl, rfl, rfl, (fun h => nomatch h), (fun _ => rfl)⟩, rfl, rfl, rfl, (fun _ _ h => nomatch h)⟩
theorem to299 : TyOk Tryz.prog 299 ti299 := ⟨Tryz.underlying299, rfl, ⟨Tryz.t299, _, Tryz.type299, rfl, rfl, rfl, rfl, (fun h => nomatch h), (fun _ => rfl)⟩, rfl, rfl, rfl, (fun _ _ h => nomatch h)⟩
theorem to300 : TyOk Tryz.prog 300 ti300 := ⟨Tryz.underlying300, rfl, ⟨Tryz.t300, _, Tryz.type300, rfl, rfl, rfl, rfl, (fun h => nomatch h), (fun _ => rfl)⟩, rfl, rfl, rfl, (fun _ _ h => nomatch h)⟩
theorem to301 : TyOk Tryz.prog 301 ti301 := ⟨Tryz.underlying301, rfl, ⟨Tryz.t301, _, Tryz.type301, rfl, rfl, rfl, rfl, (fun h => nomatch h), (fun _ => rfl)⟩, rfl, rfl, rfl, (fun _ _ h => nomatch h)⟩
theorem to302 : TyOk Tryz.prog 302 ti302 := ⟨Tryz.underlying302, rfl, ⟨Tryz.t302, _, Tryz.type302, rfl, rfl, rfl, rfl, (fun h => nomatch h), (fun _ => rfl)⟩, rfl, rfl, rfl, (fun _ _ h => nomatch h)⟩
theorem to303 : TyOk Tryz.prog 303 ti303 := ⟨Tryz.underlying303, rfl, ⟨Tryz.t303, _, Tryz.type303, rfl, rfl, rfl, rfl, (fun h => nomatch h), (fun _ => rfl)⟩, rfl, rfl, rfl, (fun _ _ h => nomatch h)⟩
theorem to304 : TyOk Tryz.prog 304 ti304 := ⟨Tryz.underlying304, rfl, ⟨Tryz.t304, _, Tryz.type304, rfl, rfl, rfl, rfl, (fun h => nomatch h), (fun _ => rfl)⟩, rfl, rfl, rfl, (fun _ _ h => nomatch h)⟩
theorem to305 : TyOk Tryz.prog 305 ti305 := ⟨Tryz.underlying305, rfl, ⟨Tryz.t305, _, Tryz.type305, rfl, rfl, rfl, rfl, (fun h => nomatch h), (fun _ => rfl)⟩, rfl, rfl, rfl, (fun _ _ h => nomatch h)⟩
theorem to306 : TyOk Tryz.prog 306 ti306 := ⟨Tryz.underlying306, rfl, ⟨Tryz.t306, _, Tryz.type306, rfl, rfl, rfl, rfl, (fun h => nomatch h), (fun _ => rfl)⟩, rfl, rfl, rfl, (fun _ _ h => nomatch h)⟩
theorem to307 : TyOk Tryz.prog 307 ti307 := ⟨Tryz.underlying307, rfl, ⟨Tryz.t307, _, Tryz.type307, rfl, rfl, rfl, rfl, (fun h => nomatch h), (fun _ => rfl)⟩, rfl, rfl, rfl, (fun _ _ h => nomatch h)⟩
theorem to308 : TyOk Tryz.prog 308 ti308 := ⟨Tryz.underlying308, rfl, ⟨Tryz.t308, _, Tryz.type308, rfl, rfl, rfl, rfl, (fun h => nomatch h), (fun _ => rfl)⟩, rfl, rfl, rfl, (fun _ _ h => nomatch h)⟩
theorem to309 : TyOk Tryz.prog 309 ti309 := ⟨Tryz.underlying309, rfl, ⟨Tryz.t309, _, Tryz.type309, rfl, rfl, rfl, rfl, (fun h => nomatch h), (fun _ => rfl)⟩, rfl, rfl, rfl, (fun _ _ h => nomatch h)⟩
theorem ms310 : ∀ n g, findM ti310.ms n = some g → ∀ v w, (method (Tryz.prog.types.size + Made.depth) 310 v n).run Tryz.prog w = .ok (g, v) w := by
  intro n g h v w
  simp only [ti310, findM] at h
  split at h
  · rename_i hn; have hn := of_decide_eq_true hn; subst hn; cases h; rfl
  split at h
  · rename_i hn; have hn := of_decide_eq_true hn; subst hn; cases h; rfl
  split at h
  · rename_i hn; have hn := of_decide_eq_true hn; subst hn; cases h; rfl
  cases h
theorem to310 : TyOk Tryz.prog 310 ti310 := ⟨Tryz.underlying310, rfl, ⟨Tryz.t310, _, Tryz.type310, rfl, rfl, rfl, rfl, (fun h => nomatch h), (fun _ => rfl)⟩, rfl, rfl, rfl, ms310⟩
theorem to311 : TyOk Tryz.prog 311 ti311 := ⟨Tryz.underlying311, rfl, ⟨Tryz.t311, _, Tryz.type311, rfl, rfl, rfl, rfl, (fun h => nomatch h), (fun _ => rfl)⟩, rfl, rfl, rfl, (fun _ _ h => nomatch h)⟩
theorem to312 : TyOk Tryz.prog 312 ti312 := ⟨Tryz.underlying312, rfl, ⟨Tryz.t312, _, Tryz.type312, rfl, rfl, rfl, rfl, (fun h => nomatch h), (fun _ => rfl)⟩, rfl, rfl, rfl, (fun _ _ h => nomatch h)⟩
theorem to313 : TyOk Tryz.prog 313 ti313 := ⟨Tryz.underlying313, rfl, ⟨Tryz.t313, _, Tryz.type313, rfl, rfl, rfl, rfl, (fun h => nomatch h), (fun _ => rfl)⟩, rfl, rfl, rfl, (fun _ _ h => nomatch h)⟩
theorem to314 : TyOk Tryz.prog 314 ti314 := ⟨Tryz.underlying314, rfl, ⟨Tryz.t314, _, Tryz.type314, rfl, rfl, rfl, rfl, (fun h => nomatch h), (fun _ => rfl)⟩, rfl, rfl, rfl, (fun _ _ h => nomatch h)⟩
theorem to315 : TyOk Tryz.prog 315 ti315 := ⟨Tryz.underlying315, rfl, ⟨Tryz.t315, _, Tryz.type315, rfl, rfl, rfl, rfl, (fun h => nomatch h), (fun _ => rfl)⟩, rfl, rfl, rfl, (fun _ _ h => nomatch h)⟩
theorem to316 : TyOk Tryz.prog 316 ti316 := ⟨Tryz.underlying316, rfl, ⟨Tryz.t316, _, Tryz.type316, rfl, rfl, rfl, rfl, (fun h => nomatch h), (fun _ => rfl)⟩, rfl, rfl, rfl, (fun _ _ h => nomatch h)⟩
theorem to317 : TyOk Tryz.prog 317 ti317 := ⟨Tryz.underlying317, rfl, ⟨Tryz.t317, _, Tryz.type317, rfl, rfl, rfl, rfl, (fun h => nomatch h), (fun _ => rfl)⟩, rfl, rfl, rfl, (fun _ _ h => nomatch h)⟩
theorem to318 : TyOk Tryz.prog 318 ti318 := ⟨Tryz.underlying318, rfl, ⟨Tryz.t318, _, Tryz.type318, rfl, rfl, rfl, rfl, (fun h => nomatch h), (fun _ => rfl)⟩, rfl, rfl, rfl, (fun _ _ h => nomatch h)⟩
theorem to319 : TyOk Tryz.prog 319 ti319 := ⟨Tryz.underlying319, rfl, ⟨Tryz.t319, _, Tryz.type319, rfl, rfl, rfl, rfl, (fun h => nomatch h), (fun _ => rfl)⟩, rfl, rfl, rfl, (fun _ _ h => nomatch h)⟩
theorem to320 : TyOk Tryz.prog 320 ti320 := ⟨Tryz.underlying320, rfl, ⟨Tryz.t320, _, Tryz.type320, rfl, rfl, rfl, rfl, (fun h => nomatch h), (fun _ => rfl)⟩, rfl, rfl, rfl, (fun _ _ h => nomatch h)⟩
theorem to321 : TyOk Tryz.prog 321 ti321 := ⟨Tryz.underlying321, rfl, ⟨Tryz.t321, _, Tryz.type321, rfl, rfl, rfl, rfl, (fun h => nomatch h), (fun _ => rfl)⟩, rfl, rfl, rfl, (fun _ _ h => nomatch h)⟩
theorem to322 : TyOk Tryz.prog 322 ti322 := ⟨Tryz.underlying322, rfl, ⟨Tryz.t322, _, Tryz.type322, rfl, rfl, rfl, rfl, (fun h => nomatch h), (fun _ => rfl)⟩, rfl, rfl, rfl, (fun _ _ h => nomatch h)⟩
theorem to323 : TyOk Tryz.prog 323 ti323 := ⟨Tryz.underlying323, rfl, ⟨Tryz.t323, _, Tryz.type323, rfl, rfl, rfl, rfl, (fun h => nomatch h), (fun _ => rfl)⟩, rfl, rfl, rfl, (fun _ _ h => nomatch h)⟩
theorem to324 : TyOk Tryz.prog 324 ti324 := ⟨Tryz.underlying324, rfl, ⟨Tryz.t324, _, Tryz.type324, rfl, rfl, rfl, rfl, (fun h => nomatch h), (fun _ => rfl)⟩, rfl, rfl, rfl, (fun _ _ h => nomatch h)⟩
theorem to325 : TyOk Tryz.prog 325 ti325 := ⟨Tryz.underlying325, rfl, ⟨Tryz.t325, _, Tryz.type325, rfl, rfl, rfl, rfl, (fun h => nomatch h), (fun _ => rfl)⟩, rfl, rfl, rfl, (fun _ _ h => nomatch h)⟩
theorem to326 : TyOk Tryz.prog 326 ti326 := ⟨Tryz.underlying326, rfl, ⟨Tryz.t326, _, Tryz.type326, rfl, rfl, rfl, rfl, (fun _ => rfl), (fun h => nomatch h)⟩, rfl, rfl, rfl, (fun _ _ h => nomatch h)⟩
theorem to327 : TyOk Tryz.prog 327 ti327 := ⟨Tryz.underlying327, rfl, ⟨Tryz.t327, _, Tryz.type327, rfl, rfl, rfl, rfl, (fun h => nomatch h), (fun _ => rfl)⟩, rfl, rfl, rfl, (fun _ _ h => nomatch h)⟩
theorem to328 : TyOk Tryz.prog 328 ti328 := ⟨Tryz.underlying328, rfl, ⟨Tryz.t328, _, Tryz.type328, rfl, rfl, rfl, rfl, (fun h => nomatch h), (fun _ => rfl)⟩, rfl, rfl, rfl, (fun _ _ h => nomatch h)⟩
theorem to329 : TyOk Tryz.prog 329 ti329 := ⟨Tryz.underlying329, rfl, ⟨Tryz.t329, _, Tryz.type329, rfl, rfl, rfl, rfl, (fun h => nomatch h), (fun _ => rfl)⟩, rfl, rfl, rfl, (fun _ _ h => nomatch h)⟩
theorem to330 : TyOk Tryz.prog 330 ti330 := ⟨Tryz.underlying330, rfl, ⟨Tryz.t330, _, Tryz.type330, rfl, rfl, rfl, rfl, (fun h => nomatch h), (fun _ => rfl)⟩, rfl, rfl, rfl, (fun _ _ h => nomatch h)⟩
theorem to331 : TyOk Tryz.prog 331 ti331 := ⟨Tryz.underlying331, rfl, ⟨Tryz.t331, _, Tryz.type331, rfl, rfl, rfl, rfl, (fun h => nomatch h), (fun _ => rfl)⟩, rfl, rfl, rfl, (fun _ _ h => nomatch h)⟩
theorem to332 : TyOk Tryz.prog 332 ti332 := ⟨Tryz.underlying332, rfl, ⟨Tryz.t332, _, Tryz.type332, rfl, rfl, rfl, rfl, (fun h => nomatch h), (fun _ => rfl)⟩, rfl, rfl, rfl, (fun _ _ h => nomatch h)⟩
theorem to333 : TyOk Tryz.prog 333 ti333 := ⟨Tryz.underlying333, rfl, ⟨Tryz.t333, _, Tryz.type333, rfl, rfl, rfl, rfl, (fun h => nomatch h), (fun _ => rfl)⟩, rfl, rfl, rfl, (fun _ _ h => nomatch h)⟩
theorem to334 : TyOk Tryz.prog 334 ti334 := ⟨Tryz.underlying334, rfl, ⟨Tryz.t334, _, Tryz.type334, rfl, rfl, rfl, rfl, (fun h => nomatch h), (fun _ => rfl)⟩, rfl, rfl, rfl, (fun _ _ h => nomatch h)⟩
theorem to336 : TyOk Tryz.prog 336 ti336 := ⟨Tryz.underlying336, rfl, ⟨Tryz.t336, _, Tryz.type336, rfl, rfl, rfl, rfl, (fun h => nomatch h), (fun _ => rfl)⟩, rfl, rfl, rfl, (fun _ _ h => nomatch h)⟩
theorem to337 : TyOk Tryz.prog 337 ti337 := ⟨Tryz.underlying337, rfl, ⟨Tryz.t337, _, Tryz.type337, rfl, rfl, rfl, rfl, (fun h => nomatch h), (fun _ => rfl)⟩, rfl, rfl, rfl, (fun _ _ h => nomatch h)⟩
theorem to338 : TyOk Tryz.prog 338 ti338 := ⟨Tryz.underlying338, rfl, ⟨Tryz.t338, _, Tryz.type338, rfl, rfl, rfl, rfl, (fun h => nomatch h), (fun _ => rfl)⟩, rfl, rfl, rfl, (fun _ _ h => nomatch h)⟩
theorem to339 : TyOk Tryz.prog 339 ti339 := ⟨Tryz.underlying339, rfl, ⟨Tryz.t339, _, Tryz.type339, rfl, rfl, rfl, rfl, (fun h => nomatch h), (fun _ => rfl)⟩, rfl, rfl, rfl, (fun _ _ h => nomatch h)⟩
theorem to340 : TyOk Tryz.prog 340 ti340 := ⟨Tryz.underlying340, rfl, ⟨Tryz.t340, _, Tryz.type340, rfl, rfl, rfl, rfl, (fun h => nomatch h), (fun _ => rfl)⟩, rfl, rfl, rfl, (fun _ _ h => nomatch h)⟩
theorem to341 : TyOk Tryz.prog 341 ti341 := ⟨Tryz.underlying341, rfl, ⟨Tryz.t341, _, Tryz.type341, rfl, rfl, rfl, rfl, (fun h => nomatch h), (fun _ => rfl)⟩, rfl, rfl, rfl, (fun _ _ h => nomatch h)⟩
theorem to342 : TyOk Tryz.prog 342 ti342 := ⟨Tryz.underlying342, rfl, ⟨Tryz.t342, _, Tryz.type342, rfl, rfl, rfl, rfl, (fun h => nomatch h), (fun _ => rfl)⟩, rfl, rfl, rfl, (fun _ _ h => nomatch h)⟩
theorem to343 : TyOk Tryz.prog 343 ti343 := ⟨Tryz.underlying343, rfl, ⟨Tryz.t343, _, Tryz.type343, rfl, rfl, rfl, rfl, (fun h => nomatch h), (fun _ => rfl)⟩, rfl, rfl, rfl, (fun _ _ h => nomatch h)⟩
theorem ms344 : ∀ n g, findM ti344.ms n = some g → ∀ v w, (method (Tryz.prog.types.size + Made.depth) 344 v n).run Tryz.prog w = .ok (g, v) w := by
  intro n g h v w
  simp only [ti344, findM] at h
  split at h
  · rename_i hn; have hn := of_decide_eq_true hn; subst hn; cases h; rfl
  cases h
theorem to344 : TyOk Tryz.prog 344 ti344 := ⟨Tryz.underlying344, rfl, ⟨Tryz.t344, _, Tryz.type344, rfl, rfl, rfl, rfl, (fun h => nomatch h), (fun _ => rfl)⟩, rfl, rfl, rfl, ms344⟩
theorem to345 : TyOk Tryz.prog 345 ti345 := ⟨Tryz.underlying345, rfl, ⟨Tryz.t345, _, Tryz.type345, rfl, rfl, rfl, rfl, (fun h => nomatch h), (fun _ => rfl)⟩, rfl, rfl, rfl, (fun _ _ h => nomatch h)⟩
theorem to346 : TyOk Tryz.prog 346 ti346 := ⟨Tryz.underlying346, rfl, ⟨Tryz.t346, _, Tryz.type346, rfl, rfl, rfl, rfl, (fun h => nomatch h), (fun _ => rfl)⟩, rfl, rfl, rfl, (fun _ _ h => nomatch h)⟩
theorem to347 : TyOk Tryz.prog 347 ti347 := ⟨Tryz.underlying347, rfl, ⟨Tryz.t347, _, Tryz.type347, rfl, rfl, rfl, rfl, (fun h => nomatch h), (fun _ => rfl)⟩, rfl, rfl, rfl, (fun _ _ h => nomatch h)⟩
theorem to348 : TyOk Tryz.prog 348 ti348 := ⟨Tryz.underlying348, rfl, ⟨Tryz.t348, _, Tryz.type348, rfl, rfl, rfl, rfl, (fun h => nomatch h), (fun _ => rfl)⟩, rfl, rfl, rfl, (fun _ _ h => nomatch h)⟩
theorem to349 : TyOk Tryz.prog 349 ti349 := ⟨Tryz.underlying349, rfl, ⟨Tryz.t349, _, Tryz.type349, rfl, rfl, rfl, rfl, (fun h => nomatch h), (fun _ => rfl)⟩, rfl, rfl, rfl, (fun _ _ h => nomatch h)⟩
theorem to350 : TyOk Tryz.prog 350 ti350 := ⟨Tryz.underlying350, rfl, ⟨Tryz.t350, _, Tryz.type350, rfl, rfl, rfl, rfl, (fun h => nomatch h), (fun _ => rfl)⟩, rfl, rfl, rfl, (fun _ _ h => nomatch h)⟩
theorem to351 : TyOk Tryz.prog 351 ti351 := ⟨Tryz.underlying351, rfl, ⟨Tryz.t351, _, Tryz.type351, rfl, rfl, rfl, rfl, (fun h => nomatch h), (fun _ => rfl)⟩, rfl, rfl, rfl, (fun _ _ h => nomatch h)⟩
theorem to352 : TyOk Tryz.prog 352 ti352 := ⟨Tryz.underlying352, rfl, ⟨Tryz.t352, _, Tryz.type352, rfl, rfl, rfl, rfl, (fun h => nomatch h), (fun _ => rfl)⟩, rfl, rfl, rfl, (fun _ _ h => nomatch h)⟩
theorem to353 : TyOk Tryz.prog 353 ti353 := ⟨Tryz.underlying353, rfl, ⟨Tryz.t353, _, Tryz.type353, rfl, rfl, rfl, rfl, (fun h => nomatch h), (fun _ => rfl)⟩, rfl, rfl, rfl, (fun _ _ h => nomatch h)⟩
theorem to354 : TyOk Tryz.prog 354 ti354 := ⟨Tryz.underlying354, rfl, ⟨Tryz.t354, _, Tryz.type354, rfl, rfl, rfl, rfl, (fun h => nomatch h), (fun _ => rfl)⟩, rfl, rfl, rfl, (fun _ _ h => nomatch h)⟩
theorem to355 : TyOk Tryz.prog 355 ti355 := ⟨Tryz.underlying355, rfl, ⟨Tryz.t355, _, Tryz.type355, rfl, rfl, rfl, rfl, (fun h => nomatch h), (fun _ => rfl)⟩, rfl, rfl, rfl, (fun _ _ h => nomatch h)⟩
theorem to356 : TyOk Tryz.prog 356 ti356 := ⟨Tryz.underlying356, rfl, ⟨Tryz.t356, _, Tryz.type356, rfl, rfl, rfl, rfl, (fun h => nomatch h), (fun _ => rfl)⟩, rfl, rfl, rfl, (fun _ _ h => nomatch h)⟩
theorem to357 : TyOk Tryz.prog 357 ti357 := ⟨Tryz.underlying357, rfl, ⟨Tryz.t357, _, Tryz.type357, rfl, rfl, rfl, rfl, (fun h => nomatch h), (fun _ => rfl)⟩, rfl, rfl, rfl, (fun _ _ h => nomatch h)⟩
theorem to358 : TyOk Tryz.prog 358 ti358 := ⟨Tryz.underlying358, rfl, ⟨Tryz.t358, _, Tryz.type358, rfl, rfl, rfl, rfl, (fun h => nomatch h), (fun _ => rfl)⟩, rfl, rfl, rfl, (fun _ _ h => nomatch h)⟩
theorem to359 : TyOk Tryz.prog 359 ti359 := ⟨Tryz.underlying359, rfl, ⟨Tryz.t359, _, Tryz.type359, rfl, rfl, rfl, rfl, (fun h => nomatch h), (fun _ => rfl)⟩, rfl, rfl, rfl, (fun _ _ h => nomatch h)⟩
theorem to360 : TyOk Tryz.prog 360 ti360 := ⟨Tryz.underlying360, rfl, ⟨Tryz.t360, _, Tryz.type360, rfl, rfl, rfl, rfl, (fun h => nomatch h), (fun _ => rfl)⟩, rfl, rfl, rfl, (fun _ _ h => nomatch h)⟩
theorem to361 : TyOk Tryz.prog 361 ti361 := ⟨Tryz.underlying361, rfl, ⟨Tryz.t361, _, Tryz.type361, rfl, rfl, rfl, rfl, (fun h => nomatch h), (fun _ => rfl)⟩, rfl, rfl, rfl, (fun _ _ h => nomatch h)⟩
theorem to362 : TyOk Tryz.prog 362 ti362 := ⟨Tryz.underlying362, rfl, ⟨Tryz.t362, _, Tryz.type362, rfl, rfl, rfl, rfl, (fun h => nomatch h), (fun _ => rfl)⟩, rfl, rfl, rfl, (fun _ _ h => nomatch h)⟩
theorem to363 : TyOk Tryz.prog 363 ti363 := ⟨Tryz.underlying363, rfl, ⟨Tryz.t363, _, Tryz.type363, rfl, rfl, rfl, rfl, (fun h => nomatch h), (fun _ => rfl)⟩, rfl, rfl, rfl, (fun _ _ h => nomatch h)⟩
theorem to364 : TyOk Tryz.prog 364 ti364 := ⟨Tryz.underlying364, rfl, ⟨Tryz.t364, _, Tryz.type364, rfl, rfl, rfl, rfl, (fun _ => rfl), (fun h => nomatch h)⟩, rfl, rfl, rfl, (fun _ _ h => nomatch h)⟩
theorem to365 : TyOk Tryz.prog 365 ti365 := ⟨Tryz.underlying365, rfl, ⟨Tryz.t365, .agg ti365.zero.toArray, Tryz.type365, rfl, rfl, by kernel_rfl, by kernel_rfl, fun _ => rfl, fun h => nomatch h⟩, by kernel_rfl, by kernel_rfl, by kernel_rfl, (fun _ _ h => nomatch h)⟩
theorem to367 : TyOk Tryz.prog 367 ti367 := ⟨Tryz.underlying367, rfl, ⟨Tryz.t367, _, Tryz.type367, rfl, rfl, rfl, rfl, (fun h => nomatch h), (fun _ => rfl)⟩, rfl, rfl, rfl, (fun _ _ h => nomatch h)⟩
theorem ms368 : ∀ n g, findM ti368.ms n = some g → ∀ v w, (method (Tryz.prog.types.size + Made.depth) 368 v n).run Tryz.prog w = .ok (g, v) w := by
  intro n g h v w
  simp only [ti368, findM] at h
  split at h
  · rename_i hn; have hn := of_decide_eq_true hn; subst hn; cases h; rfl
  split at h
  · rename_i hn; have hn := of_decide_eq_true hn; subst hn; cases h; rfl
  split at h
  · rename_i hn; have hn := of_decide_eq_true hn; subst hn; cases h; rfl
  cases h
theorem to368 : TyOk Tryz.prog 368 ti368 := ⟨Tryz.underlying368, rfl, ⟨Tryz.t368, _, Tryz.type368, rfl, rfl, rfl, rfl, (fun h => nomatch h), (fun _ => rfl)⟩, rfl, rfl, rfl, ms368⟩
theorem to369 : TyOk Tryz.prog 369 ti369 := ⟨Tryz.underlying369, rfl, ⟨Tryz.t369, _, Tryz.type369, rfl, rfl, rfl, rfl, (fun _ => rfl), (fun h => nomatch h)⟩, rfl, rfl, rfl, (fun _ _ h => nomatch h)⟩
theorem to370 : TyOk Tryz.prog 370 ti370 := ⟨Tryz.underlying370, rfl, ⟨Tryz.t370, _, Tryz.type370, rfl, rfl, rfl, rfl, (fun _ => rfl), (fun h => nomatch h)⟩, rfl, rfl, rfl, (fun _ _ h => nomatch h)⟩
theorem to371 : TyOk Tryz.prog 371 ti371 := ⟨Tryz.underlying371, rfl, ⟨Tryz.t371, .agg ti371.zero.toArray, Tryz.type371, rfl, rfl, by kernel_rfl, by kernel_rfl, fun _ => rfl, fun h => nomatch h⟩, by kernel_rfl, by kernel_rfl, by kernel_rfl, (fun _ _ h => nomatch h)⟩
theorem to372 : TyOk Tryz.prog 372 ti372 := ⟨Tryz.underlying372, rfl, ⟨Tryz.t372, .agg ti372.zero.toArray, Tryz.type372, rfl, rfl, by kernel_rfl, by kernel_rfl, fun _ => rfl, fun h => nomatch h⟩, by kernel_rfl, by kernel_rfl, by kernel_rfl, (fun _ _ h => nomatch h)⟩
theorem to373 : TyOk Tryz.prog 373 ti373 := ⟨Tryz.underlying373, rfl, ⟨Tryz.t373, _, Tryz.type373, rfl, rfl, rfl, rfl, (fun h => nomatch h), (fun _ => rfl)⟩, rfl, rfl, rfl, (fun _ _ h => nomatch h)⟩
theorem to374 : TyOk Tryz.prog 374 ti374 := ⟨Tryz.underlying374, rfl, ⟨Tryz.t374, _, Tryz.type374, rfl, rfl, rfl, rfl, (fun h => nomatch h), (fun _ => rfl)⟩, rfl, rfl, rfl, (fun _ _ h => nomatch h)⟩
theorem to375 : TyOk Tryz.prog 375 ti375 := ⟨Tryz.underlying375, rfl, ⟨Tryz.t375, _, Tryz.type375, rfl, rfl, rfl, rfl, (fun h => nomatch h), (fun _ => rfl)⟩, rfl, rfl, rfl, (fun _ _ h => nomatch h)⟩
theorem to377 : TyOk Tryz.prog 377 ti377 := ⟨Tryz.underlying377, rfl, ⟨Tryz.t377, _, Tryz.type377, rfl, rfl, rfl, rfl, (fun h => nomatch h), (fun _ => rfl)⟩, rfl, rfl, rfl, (fun _ _ h => nomatch h)⟩
theorem to378 : TyOk Tryz.prog 378 ti378 := ⟨Tryz.underlying378, rfl, ⟨Tryz.t378, _, Tryz.type378, rfl, rfl, rfl, rfl, (fun h => nomatch h), (fun _ => rfl)⟩, rfl, rfl, rfl, (fun _ _ h => nomatch h)⟩
theorem to380 : TyOk Tryz.prog 380 ti380 := ⟨Tryz.underlying380, rfl, ⟨Tryz.t380, _, Tryz.type380, rfl, rfl, rfl, rfl, (fun h => nomatch h), (fun _ => rfl)⟩, rfl, rfl, rfl, (fun _ _ h => nomatch h)⟩
theorem to381 : TyOk Tryz.prog 381 ti381 := ⟨Tryz.underlying381, rfl, ⟨Tryz.t381, _, Tryz.type381, rfl, rfl, rfl, rfl, (fun h => nomatch h), (fun _ => rfl)⟩, rfl, rfl, rfl, (fun _ _ h => nomatch h)⟩
theorem to382 : TyOk Tryz.prog 382 ti382 := ⟨Tryz.underlying382, rfl, ⟨Tryz.t382, _, Tryz.type382, rfl, rfl, rfl, rfl, (fun h => nomatch h), (fun _ => rfl)⟩, rfl, rfl, rfl, (fun _ _ h => nomatch h)⟩
theorem to384 : TyOk Tryz.prog 384 ti384 := ⟨Tryz.underlying384, rfl, ⟨Tryz.t384, _, Tryz.type384, rfl, rfl, rfl, rfl, (fun h => nomatch h), (fun _ => rfl)⟩, rfl, rfl, rfl, (fun _ _ h => nomatch h)⟩
theorem to385 : TyOk Tryz.prog 385 ti385 := ⟨Tryz.underlying385, rfl, ⟨Tryz.t385, _, Tryz.type385, rfl, rfl, rfl, rfl, (fun h => nomatch h), (fun _ => rfl)⟩, rfl, rfl, rfl, (fun _ _ h => nomatch h)⟩
theorem to386 : TyOk Tryz.prog 386 ti386 := ⟨Tryz.underlying386, rfl, ⟨Tryz.t386, _, Tryz.type386, rfl, rfl, rfl, rfl, (fun h => nomatch h), (fun _ => rfl)⟩, rfl, rfl, rfl, (fun _ _ h => nomatch h)⟩
theorem to388 : TyOk Tryz.prog 388 ti388 := ⟨Tryz.underlying388, rfl, ⟨Tryz.t388, _, Tryz.type388, rfl, rfl, rfl, rfl, (fun h => nomatch h), (fun _ => rfl)⟩, rfl, rfl, rfl, (fun _ _ h => nomatch h)⟩
theorem to389 : TyOk Tryz.prog 389 ti389 := ⟨Tryz.underlying389, rfl, ⟨Tryz.t389, _, Tryz.type389, rfl, rfl, rfl, rfl, (fun h => nomatch h), (fun _ => rfl)⟩, rfl, rfl, rfl, (fun _ _ h => nomatch h)⟩
theorem to390 : TyOk Tryz.prog 390 ti390 := ⟨Tryz.underlying390, rfl, ⟨Tryz.t390, _, Tryz.type390, rfl, rfl, rfl, rfl, (fun h => nomatch h), (fun _ => rfl)⟩, rfl, rfl, rfl, (fun _ _ h => nomatch h)⟩
theorem to391 : TyOk Tryz.prog 391 ti391 := ⟨Tryz.underlying391, rfl, ⟨Tryz.t391, .agg ti391.zero.toArray, Tryz.type391, rfl, rfl, by kernel_rfl, by kernel_rfl, fun _ => rfl, fun h => nomatch h⟩, by kernel_rfl, by kernel_rfl, by kernel_rfl, (fun _ _ h => nomatch h)⟩
theorem to392 : TyOk Tryz.prog 392 ti392 := ⟨Tryz.underlying392, rfl, ⟨Tryz.t392, _, Tryz.type392, rfl, rfl, rfl, rfl, (fun h => nomatch h), (fun _ => rfl)⟩, rfl, rfl, rfl, (fun _ _ h => nomatch h)⟩
theorem to393 : TyOk Tryz.prog 393 ti393 := ⟨Tryz.underlying393, rfl, ⟨Tryz.t393, _, Tryz.type393, rfl, rfl, rfl, rfl, (fun h => nomatch h), (fun _ => rfl)⟩, rfl, rfl, rfl, (fun _ _ h => nomatch h)⟩
theorem to394 : TyOk Tryz.prog 394 ti394 := ⟨Tryz.underlying394, rfl, ⟨Tryz.t394, _, Tryz.type394, rfl, rfl, rfl, rfl, (fun h => nomatch h), (fun _ => rfl)⟩, rfl, rfl, rfl, (fun _ _ h => nomatch h)⟩
theorem to395 : TyOk Tryz.prog 395 ti395 := ⟨Tryz.underlying395, rfl, ⟨Tryz.t395, _, Tryz.type395, rfl, rfl, rfl, rfl, (fun h => nomatch h), (fun _ => rfl)⟩, rfl, rfl, rfl, (fun _ _ h => nomatch h)⟩
theorem to396 : TyOk Tryz.prog 396 ti396 := ⟨Tryz.underlying396, rfl, ⟨Tryz.t396, _, Tryz.type396, rfl, rfl, rfl, rfl, (fun h => nomatch h), (fun _ => rfl)⟩, rfl, rfl, rfl, (fun _ _ h => nomatch h)⟩
theorem to398 : TyOk Tryz.prog 398 ti398 := ⟨Tryz.underlying398, rfl, ⟨Tryz.t398, _, Tryz.type398, rfl, rfl, rfl, rfl, (fun h => nomatch h), (fun _ => rfl)⟩, rfl, rfl, rfl, (fun _ _ h => nomatch h)⟩
theorem to399 : TyOk Tryz.prog 399 ti399 := ⟨Tryz.underlying399, rfl, ⟨Tryz.t399, _, Tryz.type399, rfl, rfl, rfl, rfl, (fun h => nomatch h), (fun _ => rfl)⟩, rfl, rfl, rfl, (fun _ _ h => nomatch h)⟩
theorem to400 : TyOk Tryz.prog 400 ti400 := ⟨Tryz.underlying400, rfl, ⟨Tryz.t400, _, Tryz.type400, rfl, rfl, rfl, rfl, (fun h => nomatch h), (fun _ => rfl)⟩, rfl, rfl, rfl, (fun _ _ h => nomatch h)⟩
theorem to401 : TyOk Tryz.prog 401 ti401 := ⟨Tryz.underlying401, rfl, ⟨Tryz.t401, _, Tryz.type401, rfl, rfl, rfl, rfl, (fun _ => rfl), (fun h => nomatch h)⟩, rfl, rfl, rfl, (fun _ _ h => nomatch h)⟩
theorem ms402 : ∀ n g, findM ti402.ms n = some g → ∀ v w, (method (Tryz.prog.types.size + Made.depth) 402 v n).run Tryz.prog w = .ok (g, v) w := by
  intro n g h v w
  simp only [ti402, findM] at h
  split at h
  · rename_i hn; have hn := of_decide_eq_true hn; subst hn; cases h; rfl
  split at h
  · rename_i hn; have hn := of_decide_eq_true hn; subst hn; cases h; rfl
  split at h
  · rename_i hn; have hn := of_decide_eq_true hn; subst hn; cases h; rfl
  cases h
theorem to402 : TyOk Tryz.prog 402 ti402 := ⟨Tryz.underlying402, rfl, ⟨Tryz.t402, _, Tryz.type402, rfl, rfl, rfl, rfl, (fun _ => rfl), (fun h => nomatch h)⟩, rfl, rfl, rfl, ms402⟩
theorem to403 : TyOk Tryz.prog 403 ti403 := ⟨Tryz.underlying403, rfl, ⟨Tryz.t403, _, Tryz.type403, rfl, rfl, rfl, rfl, (fun h => nomatch h), (fun _ => rfl)⟩, rfl, rfl, rfl, (fun _ _ h => nomatch h)⟩
theorem ms404 : ∀ n g, findM ti404.ms n = some g → ∀ v w, (method (Tryz.prog.types.size + Made.depth) 404 v n).run Tryz.prog w = .ok (g, v) w := by
  intro n g h v w
  simp only [ti404, findM] at h
  split at h
  · rename_i hn; have hn := of_decide_eq_true hn; subst hn; cases h; rfl
  split at h
  · rename_i hn; have hn := of_decide_eq_true hn; subst hn; cases h; rfl
  cases h
theorem to404 : TyOk Tryz.prog 404 ti404 := ⟨Tryz.underlying404, rfl, ⟨Tryz.t404, _, Tryz.type404, rfl, rfl, rfl, rfl, (fun h => nomatch h), (fun _ => rfl)⟩, rfl, rfl, rfl, ms404⟩
theorem to405 : TyOk Tryz.prog 405 ti405 := ⟨Tryz.underlying405, rfl, ⟨Tryz.t405, _, Tryz.type405, rfl, rfl, rfl, rfl, (fun _ => rfl), (fun h => nomatch h)⟩, rfl, rfl, rfl, (fun _ _ h => nomatch h)⟩
theorem to406 : TyOk Tryz.prog 406 ti406 := ⟨Tryz.underlying406, rfl, ⟨Tryz.t406, _, Tryz.type406, rfl, rfl, rfl, rfl, (fun _ => rfl), (fun h => nomatch h)⟩, rfl, rfl, rfl, (fun _ _ h => nomatch h)⟩
theorem to407 : TyOk Tryz.prog 407 ti407 := ⟨Tryz.underlying407, rfl, ⟨Tryz.t407, _, Tryz.type407, rfl, rfl, rfl, rfl, (fun h => nomatch h), (fun _ => rfl)⟩, rfl, rfl, rfl, (fun _ _ h => nomatch h)⟩
theorem to408 : TyOk Tryz.prog 408 ti408 := ⟨Tryz.underlying408, rfl, ⟨Tryz.t408, _, Tryz.type408, rfl, rfl, rfl, rfl, (fun h => nomatch h), (fun _ => rfl)⟩, rfl, rfl, rfl, (fun _ _ h => nomatch h)⟩
theorem to409 : TyOk Tryz.prog 409 ti409 := ⟨Tryz.underlying409, rfl, ⟨Tryz.t409, _, Tryz.type409, rfl, rfl, rfl, rfl, (fun h => nomatch h), (fun _ => rfl)⟩, rfl, rfl, rfl, (fun _ _ h => nomatch h)⟩
theorem to410 : TyOk Tryz.prog 410 ti410 := ⟨Tryz.underlying410, rfl, ⟨Tryz.t410, _, Tryz.type410, rfl, rfl, rfl, rfl, (fun h => nomatch h), (fun _ => rfl)⟩, rfl, rfl, rfl, (fun _ _ h => nomatch h)⟩
theorem to411 : TyOk Tryz.prog 411 ti411 := ⟨Tryz.underlying411, rfl, ⟨Tryz.t411, _, Tryz.type411, rfl, rfl, rfl, rfl, (fun h => nomatch h), (fun _ => rfl)⟩, rfl, rfl, rfl, (fun _ _ h => nomatch h)⟩
theorem to413 : TyOk Tryz.prog 413 ti413 := ⟨Tryz.underlying413, rfl, ⟨Tryz.t413, _, Tryz.type413, rfl, rfl, rfl, rfl, (fun h => nomatch h), (fun _ => rfl)⟩, rfl, rfl, rfl, (fun _ _ h => nomatch h)⟩
theorem to414 : TyOk Tryz.prog 414 ti414 := ⟨Tryz.underlying414, rfl, ⟨Tryz.t414, _, Tryz.type414, rfl, rfl, rfl, rfl, (fun h => nomatch h), (fun _ => rfl)⟩, rfl, rfl, rfl, (fun _ _ h => nomatch h)⟩
theorem to415 : TyOk Tryz.prog 415 ti415 := ⟨Tryz.underlying415, rfl, ⟨Tryz.t415, _, Tryz.type415, rfl, rfl, rfl, rfl, (fun h => nomatch h), (fun _ => rfl)⟩, rfl, rfl, rfl, (fun _ _ h => nomatch h)⟩
theorem to416 : TyOk Tryz.prog 416 ti416 := ⟨Tryz.underlying416, rfl, ⟨Tryz.t416, _, Tryz.type416, rfl, rfl, rfl, rfl, (fun h => nomatch h), (fun _ => rfl)⟩, rfl, rfl, rfl, (fun _ _ h => nomatch h)⟩
theorem to417 : TyOk Tryz.prog 417 ti417 := ⟨Tryz.underlying417, rfl, ⟨Tryz.t417, _, Tryz.type417, rfl, rfl, rfl, rfl, (fun _ => rfl), (fun h => nomatch h)⟩, rfl, rfl, rfl, (fun _ _ h => nomatch h)⟩
theorem to418 : TyOk Tryz.prog 418 ti418 := ⟨Tryz.underlying418, rfl, ⟨Tryz.t418, _, Tryz.type418, rfl, rfl, rfl, rfl, (fun _ => rfl), (fun h => nomatch h)⟩, rfl, rfl, rfl, (fun _ _ h => nomatch h)⟩
theorem to420 : TyOk Tryz.prog 420 ti420 := ⟨Tryz.underlying420, rfl, ⟨Tryz.t420, _, Tryz.type420, rfl, rfl, rfl, rfl, (fun h => nomatch h), (fun _ => rfl)⟩, rfl, rfl, rfl, (fun _ _ h => nomatch h)⟩
theorem ms421 : ∀ n g, findM ti421.ms n = some g → ∀ v w, (method (Tryz.prog.types.size + Made.depth) 421 v n).run Tryz.prog w = .ok (g, v) w := by
  intro n g h v w
  simp only [ti421, findM] at h
  split at h
  · rename_i hn; have hn := of_decide_eq_true hn; subst hn; cases h; rfl
  split at h
  · rename_i hn; have hn := of_decide_eq_true hn; subst hn; cases h; rfl
  cases h
theorem to421 : TyOk Tryz.prog 421 ti421 := ⟨Tryz.underlying421, rfl, ⟨Tryz.t421, _, Tryz.type421, rfl, rfl, rfl, rfl, (fun h => nomatch h), (fun _ => rfl)⟩, rfl, rfl, rfl, ms421⟩
theorem to422 : TyOk Tryz.prog 422 ti422 := ⟨Tryz.underlying422, rfl, ⟨Tryz.t422, _, Tryz.type422, rfl, rfl, rfl, rfl, (fun h => nomatch h), (fun _ => rfl)⟩, rfl, rfl, rfl, (fun _ _ h => nomatch h)⟩
theorem to423 : TyOk Tryz.prog 423 ti423 := ⟨Tryz.underlying423, rfl, ⟨Tryz.t423, _, Tryz.type423, rfl, rfl, rfl, rfl, (fun h => nomatch h), (fun _ => rfl)⟩, rfl, rfl, rfl, (fun _ _ h => nomatch h)⟩
theorem to424 : TyOk Tryz.prog 424 ti424 := ⟨Tryz.underlying424, rfl, ⟨Tryz.t424, _, Tryz.type424, rfl, rfl, rfl, rfl, (fun h => nomatch h), (fun _ => rfl)⟩, rfl, rfl, rfl, (fun _ _ h => nomatch h)⟩
theorem to425 : TyOk Tryz.prog 425 ti425 := ⟨Tryz.underlying425, rfl, ⟨Tryz.t425, _, Tryz.type425, rfl, rfl, rfl, rfl, (fun h => nomatch h), (fun _ => rfl)⟩, rfl, rfl, rfl, (fun _ _ h => nomatch h)⟩
theorem to426 : TyOk Tryz.prog 426 ti426 := ⟨Tryz.underlying426, rfl, ⟨Tryz.t426, _, Tryz.type426, rfl, rfl, rfl, rfl, (fun h => nomatch h), (fun _ => rfl)⟩, rfl, rfl, rfl, (fun _ _ h => nomatch h)⟩
theorem to427 : TyOk Tryz.prog 427 ti427 := ⟨Tryz.underlying427, rfl, ⟨Tryz.t427, _, Tryz.type427, rfl, rfl, rfl, rfl, (fun h => nomatch h), (fun _ => rfl)⟩, rfl, rfl, rfl, (fun _ _ h => nomatch h)⟩
theorem to428 : TyOk Tryz.prog 428 ti428 := ⟨Tryz.underlying428, rfl, ⟨Tryz.t428, _, Tryz.type428, rfl, rfl, rfl, rfl, (fun h => nomatch h), (fun _ => rfl)⟩, rfl, rfl, rfl, (fun _ _ h => nomatch h)⟩
theorem ms429 : ∀ n g, findM ti429.ms n = some g → ∀ v w, (method (Tryz.prog.types.size + Made.depth) 429 v n).run Tryz.prog w = .ok (g, v) w := by
  intro n g h v w
  simp only [ti429, findM] at h
  split at h
  · rename_i hn; have hn := of_decide_eq_true hn; subst hn; cases h; rfl
  split at h
  · rename_i hn; have hn := of_decide_eq_true hn; subst hn; cases h; rfl
  cases h
theorem to429 : TyOk Tryz.prog 429 ti429 := ⟨Tryz.underlying429, rfl, ⟨Tryz.t429, _, Tryz.type429, rfl, rfl, rfl, rfl, (fun h => nomatch h), (fun _ => rfl)⟩, rfl, rfl, rfl, ms429⟩
theorem ms430 : ∀ n g, findM ti430.ms n = some g → ∀ v w, (method (Tryz.prog.types.size + Made.depth) 430 v n).run Tryz.prog w = .ok (g, v) w := by
  intro n g h v w
  simp only [ti430, findM] at h
  split at h
  · rename_i hn; have hn := of_decide_eq_true hn; subst hn; cases h; rfl
  split at h
  · rename_i hn; have hn := of_decide_eq_true hn; subst hn; cases h; rfl
  split at h
  · rename_i hn; have hn := of_decide_eq_true hn; subst hn; cases h; rfl
  split at h
  · rename_i hn; have hn := of_decide_eq_true hn; subst hn; cases h; rfl
  split at h
  · rename_i hn; have hn := of_decide_eq_true hn; subst hn; cases h; rfl
  cases h
theorem to430 : TyOk Tryz.prog 430 ti430 := ⟨Tryz.underlying430, rfl, ⟨Tryz.t430, _, Tryz.type430, rfl, rfl, rfl, rfl, (fun h => nomatch h), (fun _ => rfl)⟩, rfl, rfl, rfl, ms430⟩
theorem to431 : TyOk Tryz.prog 431 ti431 := ⟨Tryz.underlying431, rfl, ⟨Tryz.t431, _, Tryz.type431, rfl, rfl, rfl, rfl, (fun _ => rfl), (fun h => nomatch h)⟩, rfl, rfl, rfl, (fun _ _ h => nomatch h)⟩
theorem to432 : TyOk Tryz.prog 432 ti432 := ⟨Tryz.underlying432, rfl, ⟨Tryz.t432, _, Tryz.type432, rfl, rfl, rfl, rfl, (fun _ => rfl), (fun h => nomatch h)⟩, rfl, rfl, rfl, (fun _ _ h => nomatch h)⟩
theorem to433 : TyOk Tryz.prog 433 ti433 := ⟨Tryz.underlying433, rfl, ⟨Tryz.t433, _, Tryz.type433, rfl, rfl, rfl, rfl, (fun _ => rfl), (fun h => nomatch h)⟩, rfl, rfl, rfl, (fun _ _ h => nomatch h)⟩
theorem to434 : TyOk Tryz.prog 434 ti434 := ⟨Tryz.underlying434, rfl, ⟨Tryz.t434, _, Tryz.type434, rfl, rfl, rfl, rfl, (fun _ => rfl), (fun h => nomatch h)⟩, rfl, rfl, rfl, (fun _ _ h => nomatch h)⟩
theorem to435 : TyOk Tryz.prog 435 ti435 := ⟨Tryz.underlying435, rfl, ⟨Tryz.t435, _, Tryz.type435, rfl, rfl, rfl, rfl, (fun h => nomatch h), (fun _ => rfl)⟩, rfl, rfl, rfl, (fun _ _ h => nomatch h)⟩
theorem to436 : TyOk Tryz.prog 436 ti436 := ⟨Tryz.underlying436, rfl, ⟨Tryz.t436, _, Tryz.type436, rfl, rfl, rfl, rfl, (fun h => nomatch h), (fun _ => rfl)⟩, rfl, rfl, rfl, (fun _ _ h => nomatch h)⟩
theorem to437 : TyOk Tryz.prog 437 ti437 := ⟨Tryz.underlying437, rfl, ⟨Tryz.t437, _, Tryz.type437, rfl, rfl, rfl, rfl, (fun h => nomatch h), (fun _ => rfl)⟩, rfl, rfl, rfl, (fun _ _ h => nomatch h)⟩
theorem to439 : TyOk Tryz.prog 439 ti439 := ⟨Tryz.underlying439, rfl, ⟨Tryz.t439, _, Tryz.type439, rfl, rfl, rfl, rfl, (fun h => nomatch h), (fun _ => rfl)⟩, rfl, rfl, rfl, (fun _ _ h => nomatch h)⟩
theorem to440 : TyOk Tryz.prog 440 ti440 := ⟨Tryz.underlying440, rfl, ⟨Tryz.t440, _, Tryz.type440, rfl, rfl, rfl, rfl, (fun h => nomatch h), (fun _ => rfl)⟩, rfl, rfl, rfl, (fun _ _ h => nomatch h)⟩
theorem to441 : TyOk Tryz.prog 441 ti441 := ⟨Tryz.underlying441, rfl, ⟨Tryz.t441, _, Tryz.type441, rfl, rfl, rfl, rfl, (fun h => nomatch h), (fun _ => rfl)⟩, rfl, rfl, rfl, (fun _ _ h => nomatch h)⟩
theorem to442 : TyOk Tryz.prog 442 ti442 := ⟨Tryz.underlying442, rfl, ⟨Tryz.t442, _, Tryz.type442, rfl, rfl, rfl, rfl, (fun h => nomatch h), (fun _ => rfl)⟩, rfl, rfl, rfl, (fun _ _ h => nomatch h)⟩
theorem to443 : TyOk Tryz.prog 443 ti443 := ⟨Tryz.underlying443, rfl, ⟨Tryz.t443, _, Tryz.type443, rfl, rfl, rfl, rfl, (fun _ => rfl), (fun h => nomatch h)⟩, rfl, rfl, rfl, (fun _ _ h => nomatch h)⟩
theorem to444 : TyOk Tryz.prog 444 ti444 := ⟨Tryz.underlying444, rfl, ⟨Tryz.t444, _, Tryz.type444, rfl, rfl, rfl, rfl, (fun _ => rfl), (fun h => nomatch h)⟩, rfl, rfl, rfl, (fun _ _ h => nomatch h)⟩
theorem to445 : TyOk Tryz.prog 445 ti445 := ⟨Tryz.underlying445, rfl, ⟨Tryz.t445, _, Tryz.type445, rfl, rfl, rfl, rfl, (fun h => nomatch h), (fun _ => rfl)⟩, rfl, rfl, rfl, (fun _ _ h => nomatch h)⟩
theorem to446 : TyOk Tryz.prog 446 ti446 := ⟨Tryz.underlying446, rfl, ⟨Tryz.t446, _, Tryz.type446, rfl, rfl, rfl, rfl, (fun h => nomatch h), (fun _ => rfl)⟩, rfl, rfl, rfl, (fun _ _ h => nomatch h)⟩
theorem to447 : TyOk Tryz.prog 447 ti447 := ⟨Tryz.underlying447, rfl, ⟨Tryz.t447, _, Tryz.type447, rfl, rfl, rfl, rfl, (fun h => nomatch h), (fun _ => rfl)⟩, rfl, rfl, rfl, (fun _ _ h => nomatch h)⟩
theorem to448 : TyOk Tryz.prog 448 ti448 := ⟨Tryz.underlying448, rfl, ⟨Tryz.t448, _, Tryz.type448, rfl, rfl, rfl, rfl, (fun h => nomatch h), (fun _ => rfl)⟩, rfl, rfl, rfl, (fun _ _ h => nomatch h)⟩
theorem to449 : TyOk Tryz.prog 449 ti449 := ⟨Tryz.underlying449, rfl, ⟨Tryz.t449, _, Tryz.type449, rfl, rfl, rfl, rfl, (fun _ => rfl), (fun h => nomatch h)⟩, rfl, rfl, rfl, (fun _ _ h => nomatch h)⟩
theorem to450 : TyOk Tryz.prog 450 ti450 := ⟨Tryz.underlying450, rfl, ⟨Tryz.t450, _, Tryz.type450, rfl, rfl, rfl, rfl, (fun _ => rfl), (fun h => nomatch h)⟩, rfl, rfl, rfl, (fun _ _ h => nomatch h)⟩
theorem to451 : TyOk Tryz.prog 451 ti451 := ⟨Tryz.underlying451, rfl, ⟨Tryz.t451, _, Tryz.type451, rfl, rfl, rfl, rfl, (fun _ => rfl), (fun h => nomatch h)⟩, rfl, rfl, rfl, (fun _ _ h => nomatch h)⟩
theorem to452 : TyOk Tryz.prog 452 ti452 := ⟨Tryz.underlying452, rfl, ⟨Tryz.t452, _, Tryz.type452, rfl, rfl, rfl, rfl, (fun _ => rfl), (fun h => nomatch h)⟩, rfl, rfl, rfl, (fun _ _ h => nomatch h)⟩
theorem to453 : TyOk Tryz.prog 453 ti453 := ⟨Tryz.underlying453, rfl, ⟨Tryz.t453, _, Tryz.type453, rfl, rfl, rfl, rfl, (fun _ => rfl), (fun h => nomatch h)⟩, rfl, rfl, rfl, (fun _ _ h => nomatch h)⟩
theorem to454 : TyOk Tryz.prog 454 ti454 := ⟨Tryz.underlying454, rfl, ⟨Tryz.t454, _, Tryz.type454, rfl, rfl, rfl, rfl, (fun h => nomatch h), (fun _ => rfl)⟩, rfl, rfl, rfl, (fun _ _ h => nomatch h)⟩
theorem ms455 : ∀ n g, findM ti455.ms n = some g → ∀ v w, (method (Tryz.prog.types.size + Made.depth) 455 v n).run Tryz.prog w = .ok (g, v) w := by
  intro n g h v w
  simp only [ti455, findM] at h
  split at h
  · rename_i hn; have hn := of_decide_eq_true hn; subst hn; cases h; rfl
  cases h
theorem to455 : TyOk Tryz.prog 455 ti455 := ⟨Tryz.underlying455, rfl, ⟨Tryz.t455, _, Tryz.type455, rfl, rfl, rfl, rfl, (fun h => nomatch h), (fun _ => rfl)⟩, rfl, rfl, rfl, ms455⟩
theorem to456 : TyOk Tryz.prog 456 ti456 := ⟨Tryz.underlying456, rfl, ⟨Tryz.t456, _, Tryz.type456, rfl, rfl, rfl, rfl, (fun h => nomatch h), (fun _ => rfl)⟩, rfl, rfl, rfl, (fun _ _ h => nomatch h)⟩
theorem to457 : TyOk Tryz.prog 457 ti457 := ⟨Tryz.underlying457, rfl, ⟨Tryz.t457, _, Tryz.type457, rfl, rfl, rfl, rfl, (fun h => nomatch h), (fun _ => rfl)⟩, rfl, rfl, rfl, (fun _ _ h => nomatch h)⟩
theorem to458 : TyOk Tryz.prog 458 ti458 := ⟨Tryz.underlying458, rfl, ⟨Tryz.t458, _, Tryz.type458, rfl, rfl, rfl, rfl, (fun h => nomatch h), (fun _ => rfl)⟩, rfl, rfl, rfl, (fun _ _ h => nomatch h)⟩
theorem to459 : TyOk Tryz.prog 459 ti459 := ⟨Tryz.underlying459, rfl, ⟨Tryz.t459, _, Tryz.type459, rfl, rfl, rfl, rfl, (fun _ => rfl), (fun h => nomatch h)⟩, rfl, rfl, rfl, (fun _ _ h => nomatch h)⟩
theorem to460 : TyOk Tryz.prog 460 ti460 := ⟨Tryz.underlying460, rfl, ⟨Tryz.t460, _, Tryz.type460, rfl, rfl, rfl, rfl, (fun _ => rfl), (fun h => nomatch h)⟩, rfl, rfl, rfl, (fun _ _ h => nomatch h)⟩
theorem fnAll : T.All (FnOk Tryz.prog) fnT id := ⟨trivial, ⟨trivial, ⟨fo3, ⟨fo7, ⟨fo15, ⟨fo31, ⟨fo63, ⟨fo127, ⟨fo255, trivial, trivial⟩, trivial⟩, ⟨fo191, ⟨fo319, trivial, trivial⟩, trivial⟩⟩, ⟨fo95, ⟨fo159, ⟨fo287, trivial, trivial⟩, trivial⟩, ⟨fo223, trivial, trivial⟩⟩⟩, ⟨fo47, ⟨fo79, ⟨fo143, ⟨fo271, trivial, trivial⟩, trivial⟩, ⟨fo207, ⟨fo335, trivial, trivial⟩, trivial⟩⟩, ⟨fo111, ⟨fo175, ⟨fo303, trivial, trivial⟩, trivial⟩, ⟨fo239, ⟨fo367, trivial, trivial⟩, trivial⟩⟩⟩⟩, ⟨fo23, ⟨fo39, ⟨fo71, ⟨fo135, ⟨fo263, trivial, trivial⟩, trivial⟩, ⟨fo199, ⟨fo327, trivial, trivial⟩, trivial⟩⟩, ⟨fo103, ⟨fo167, ⟨fo295, trivial, trivial⟩, trivial⟩, ⟨fo231, trivial, trivial⟩⟩⟩, ⟨fo55, ⟨fo87, ⟨fo151, ⟨fo279, trivial, trivial⟩, trivial⟩, ⟨fo215, ⟨fo343, trivial, trivial⟩, trivial⟩⟩, ⟨fo119, ⟨fo183, ⟨fo311, trivial, trivial⟩, trivial⟩, ⟨fo247, trivial, trivial⟩⟩⟩⟩⟩, ⟨fo11, ⟨fo19, ⟨fo35, ⟨fo67, ⟨fo131, ⟨fo259, trivial, trivial⟩, trivial⟩, ⟨fo195, ⟨fo323, trivial, trivial⟩, trivial⟩⟩, ⟨fo99, ⟨trivial, ⟨fo291, trivial, trivial⟩, trivial⟩, ⟨fo227, trivial, trivial⟩⟩⟩, ⟨fo51, ⟨fo83, ⟨fo147, ⟨fo275, trivial, trivial⟩, trivial⟩, ⟨fo211, ⟨fo339, trivial, trivial⟩, trivial⟩⟩, ⟨fo115, ⟨fo179, ⟨fo307, trivial, trivial⟩, trivial⟩, ⟨fo243, trivial, trivial⟩⟩⟩⟩, ⟨fo27, ⟨fo43, ⟨fo75, ⟨fo139, ⟨fo267, trivial, trivial⟩, trivial⟩, ⟨fo203, ⟨fo331, trivial, trivial⟩, trivial⟩⟩, ⟨fo107, ⟨fo171, ⟨fo299, trivial, trivial⟩, trivial⟩, ⟨fo235, trivial, trivial⟩⟩⟩, ⟨fo59, ⟨fo91, ⟨fo155, ⟨fo283, trivial, trivial⟩, trivial⟩, ⟨fo219, ⟨fo347, trivial, trivial⟩, trivial⟩⟩, ⟨fo123, ⟨fo187, ⟨fo315, trivial, trivial⟩, trivial⟩, ⟨fo251, trivial, trivial⟩⟩⟩⟩⟩⟩, ⟨fo5, ⟨fo9, ⟨fo17, ⟨fo33, ⟨fo65, ⟨fo129, ⟨fo257, trivial, trivial⟩, trivial⟩, ⟨fo193, trivial, trivial⟩⟩, ⟨fo97, ⟨fo161, ⟨fo289, trivial, trivial⟩, trivial⟩, ⟨fo225, trivial, trivial⟩⟩⟩, ⟨fo49, ⟨fo81, ⟨fo145, ⟨fo273, trivial, trivial⟩, trivial⟩, ⟨fo209, trivial, trivial⟩⟩, ⟨fo113, ⟨fo177, ⟨fo305, trivial, trivial⟩, trivial⟩, ⟨fo241, trivial, trivial⟩⟩⟩⟩, ⟨fo25, ⟨fo41, ⟨fo73, ⟨fo137, ⟨fo265, trivial, trivial⟩, trivial⟩, ⟨fo201, ⟨fo329, trivial, trivial⟩, trivial⟩⟩, ⟨fo105, ⟨fo169, ⟨fo297, trivial, trivial⟩, trivial⟩, ⟨fo233, trivial, trivial⟩⟩⟩, ⟨fo57, ⟨fo89, ⟨fo153, ⟨fo281, trivial, trivial⟩, trivial⟩, ⟨fo217, ⟨fo345, trivial, trivial⟩, trivial⟩⟩, ⟨fo121, ⟨fo185, ⟨fo313, trivial, trivial⟩, trivial⟩, ⟨fo249, trivial, trivial⟩⟩⟩⟩⟩, ⟨fo13, ⟨fo21, ⟨fo37, ⟨fo69, ⟨fo133, ⟨fo261, trivial, trivial⟩, trivial⟩, ⟨fo197, ⟨fo325, trivial, trivial⟩, trivial⟩⟩, ⟨fo101, ⟨fo165, trivial, trivial⟩, ⟨fo229, trivial, trivial⟩⟩⟩, ⟨fo53, ⟨fo85, ⟨fo149, ⟨fo277, trivial, trivial⟩, trivial⟩, ⟨fo213, ⟨fo341, trivial, trivial⟩, trivial⟩⟩, ⟨fo117, ⟨fo181, ⟨fo309, trivial, trivial⟩, trivial⟩, ⟨fo245, trivial, trivial⟩⟩⟩⟩, ⟨fo29, ⟨fo45, ⟨fo77, ⟨fo141, ⟨fo269, trivial, trivial⟩, trivial⟩, ⟨fo205, ⟨fo333, trivial, trivial⟩, trivial⟩⟩, ⟨fo109, ⟨fo173, ⟨fo301, trivial, trivial⟩, trivial⟩, ⟨fo237, ⟨fo365, trivial, trivial⟩, trivial⟩⟩⟩, ⟨fo61, ⟨fo93, ⟨fo157, ⟨fo285, trivial, trivial⟩, trivial⟩, ⟨fo221, ⟨fo349, trivial, trivial⟩, trivial⟩⟩, ⟨fo125, ⟨fo189, ⟨fo317, trivial, trivial⟩, trivial⟩, ⟨fo253, trivial, trivial⟩⟩⟩⟩⟩⟩⟩, ⟨fo2, ⟨fo4, ⟨fo8, ⟨fo16, ⟨fo32, ⟨fo64, ⟨fo128, ⟨fo256, trivial, trivial⟩, trivial⟩, ⟨fo192, ⟨fo320, trivial, trivial⟩, trivial⟩⟩, ⟨fo96, ⟨fo160, ⟨fo288, trivial, trivial⟩, trivial⟩, ⟨fo224, trivial, trivial⟩⟩⟩, ⟨fo48, ⟨fo80, ⟨fo144, ⟨fo272, trivial, trivial⟩, trivial⟩, ⟨fo208, trivial, trivial⟩⟩, ⟨fo112, ⟨fo176, ⟨fo304, trivial, trivial⟩, trivial⟩, ⟨fo240, ⟨fo368, trivial, trivial⟩, trivial⟩⟩⟩⟩, ⟨fo24, ⟨fo40, ⟨fo72, ⟨fo136, ⟨fo264, trivial, trivial⟩, trivial⟩, ⟨fo200, ⟨fo328, trivial, trivial⟩, trivial⟩⟩, ⟨fo104, ⟨fo168, ⟨fo296, trivial, trivial⟩, trivial⟩, ⟨fo232, trivial, trivial⟩⟩⟩, ⟨fo56, ⟨fo88, ⟨fo152, ⟨fo280, trivial, trivial⟩, trivial⟩, ⟨fo216, ⟨fo344, trivial, trivial⟩, trivial⟩⟩, ⟨fo120, ⟨fo184, ⟨fo312, trivial, trivial⟩, trivial⟩, ⟨fo248, trivial, trivial⟩⟩⟩⟩⟩, ⟨fo12, ⟨fo20, ⟨fo36, ⟨fo68, ⟨fo132, ⟨fo260, trivial, trivial⟩, trivial⟩, ⟨fo196, ⟨fo324, trivial, trivial⟩, trivial⟩⟩, ⟨fo100, ⟨fo164, ⟨fo292, trivial, trivial⟩, trivial⟩, ⟨fo228, trivial, trivial⟩⟩⟩, ⟨fo52, ⟨fo84, ⟨fo148, ⟨fo276, trivial, trivial⟩, trivial⟩, ⟨fo212, ⟨fo340, trivial, trivial⟩, trivial⟩⟩, ⟨fo116, ⟨fo180, ⟨fo308, trivial, trivial⟩, trivial⟩, ⟨fo244, trivial, trivial⟩⟩⟩⟩, ⟨fo28, ⟨fo44, ⟨fo76, ⟨fo140, ⟨fo268, trivial, trivial⟩, trivial⟩, ⟨fo204, ⟨fo332, trivial, trivial⟩, trivial⟩⟩, ⟨fo108, ⟨fo172, ⟨fo300, trivial, trivial⟩, trivial⟩, ⟨fo236, trivial, trivial⟩⟩⟩, ⟨fo60, ⟨fo92, ⟨fo156, trivial, trivial⟩, ⟨fo220, trivial, trivial⟩⟩, ⟨fo124, ⟨fo188, ⟨fo316, trivial, trivial⟩, trivial⟩, ⟨fo252, trivial, trivial⟩⟩⟩⟩⟩⟩, ⟨fo6, ⟨fo10, ⟨fo18, ⟨fo34, ⟨fo66, ⟨fo130, ⟨fo258, trivial, trivial⟩, trivial⟩, ⟨fo194, ⟨fo322, trivial, trivial⟩, trivial⟩⟩, ⟨fo98, ⟨fo162, ⟨fo290, trivial, trivial⟩, trivial⟩, ⟨fo226, trivial, trivial⟩⟩⟩, ⟨fo50, ⟨fo82, ⟨fo146, ⟨fo274, trivial, trivial⟩, trivial⟩, ⟨fo210, ⟨fo338, trivial, trivial⟩, trivial⟩⟩, ⟨fo114, ⟨fo178, ⟨fo306, trivial, trivial⟩, trivial⟩, ⟨fo242, trivial, trivial⟩⟩⟩⟩, ⟨fo26, ⟨fo42, ⟨fo74, ⟨fo138, ⟨fo266, trivial, trivial⟩, trivial⟩, ⟨fo202, ⟨fo330, trivial, trivial⟩, trivial⟩⟩, ⟨fo106, ⟨fo170, ⟨fo298, trivial, trivial⟩, trivial⟩, ⟨fo234, trivial, trivial⟩⟩⟩, ⟨fo58, ⟨fo90, ⟨fo154, ⟨fo282, trivial, trivial⟩, trivial⟩, ⟨fo218, ⟨fo346, trivial, trivial⟩, trivial⟩⟩, ⟨fo122, ⟨fo186, ⟨fo314, trivial, trivial⟩, trivial⟩, ⟨fo250, trivial, trivial⟩⟩⟩⟩⟩, ⟨fo14, ⟨fo22, ⟨fo38, ⟨fo70, ⟨fo134, ⟨fo262, trivial, trivial⟩, trivial⟩, ⟨fo198, ⟨fo326, trivial, trivial⟩, trivial⟩⟩, ⟨fo102, ⟨fo166, ⟨fo294, trivial, trivial⟩, trivial⟩, ⟨fo230, trivial, trivial⟩⟩⟩, ⟨fo54, ⟨fo86, ⟨fo150, ⟨fo278, trivial, trivial⟩, trivial⟩, ⟨fo214, ⟨fo342, trivial, trivial⟩, trivial⟩⟩, ⟨fo118, ⟨fo182, ⟨fo310, trivial, trivial⟩, trivial⟩, ⟨fo246, trivial, trivial⟩⟩⟩⟩, ⟨fo30, ⟨fo46, ⟨fo78, ⟨fo142, ⟨fo270, trivial, trivial⟩, trivial⟩, ⟨fo206, ⟨fo334, trivial, trivial⟩, trivial⟩⟩, ⟨fo110, ⟨fo174, ⟨fo302, trivial, trivial⟩, trivial⟩, ⟨fo238, ⟨fo366, trivial, trivial⟩, trivial⟩⟩⟩, ⟨fo62, ⟨fo94, ⟨fo158, ⟨fo286, trivial, trivial⟩, trivial⟩, ⟨fo222, trivial, trivial⟩⟩, ⟨fo126, ⟨fo190, ⟨fo318, trivial, trivial⟩, trivial⟩, ⟨fo254, trivial, trivial⟩⟩⟩⟩⟩⟩⟩⟩
theorem tyAll : T.All (TyOk Tryz.prog) tyT id := ⟨trivial, ⟨to1, ⟨to3, ⟨to7, ⟨to15, ⟨to31, ⟨to63, ⟨to127, ⟨to255, trivial, trivial⟩, trivial⟩, ⟨to191, ⟨to319, trivial, trivial⟩, ⟨to447, trivial, trivial⟩⟩⟩, ⟨to95, ⟨to159, ⟨to287, trivial, trivial⟩, ⟨to415, trivial, trivial⟩⟩, ⟨to223, ⟨to351, trivial, trivial⟩, trivial⟩⟩⟩, ⟨to47, ⟨to79, ⟨to143, trivial, ⟨to399, trivial, trivial⟩⟩, ⟨to207, trivial, trivial⟩⟩, ⟨to111, ⟨to175, ⟨to303, trivial, trivial⟩, ⟨to431, trivial, trivial⟩⟩, ⟨to239, ⟨to367, trivial, trivial⟩, trivial⟩⟩⟩⟩, ⟨to23, ⟨to39, ⟨to71, ⟨to135, ⟨to263, trivial, trivial⟩, ⟨to391, trivial, trivial⟩⟩, ⟨to199, ⟨to327, trivial, trivial⟩, ⟨to455, trivial, trivial⟩⟩⟩, ⟨to103, ⟨to167, ⟨to295, trivial, trivial⟩, ⟨to423, trivial, trivial⟩⟩, ⟨to231, ⟨to359, trivial, trivial⟩, trivial⟩⟩⟩, ⟨to55, ⟨to87, ⟨to151, ⟨to279, trivial, trivial⟩, ⟨to407, trivial, trivial⟩⟩, ⟨to215, ⟨to343, trivial, trivial⟩, trivial⟩⟩, ⟨to119, ⟨to183, ⟨to311, trivial, trivial⟩, ⟨to439, trivial, trivial⟩⟩, ⟨trivial, ⟨to375, trivial, trivial⟩, trivial⟩⟩⟩⟩⟩, ⟨to11, ⟨to19, ⟨trivial, ⟨to67, ⟨trivial, ⟨to259, trivial, trivial⟩, trivial⟩, ⟨to195, ⟨to323, trivial, trivial⟩, ⟨to451, trivial, trivial⟩⟩⟩, ⟨to99, ⟨to163, ⟨to291, trivial, trivial⟩, trivial⟩, ⟨to227, ⟨to355, trivial, trivial⟩, trivial⟩⟩⟩, ⟨to51, ⟨to83, ⟨to147, ⟨to275, trivial, trivial⟩, ⟨to403, trivial, trivial⟩⟩, ⟨to211, ⟨to339, trivial, trivial⟩, trivial⟩⟩, ⟨to115, ⟨to179, ⟨to307, trivial, trivial⟩, ⟨to435, trivial, trivial⟩⟩, ⟨to243, ⟨to371, trivial, trivial⟩, trivial⟩⟩⟩⟩, ⟨to27, ⟨to43, ⟨to75, ⟨to139, ⟨to267, trivial, trivial⟩, ⟨to395, trivial, trivial⟩⟩, ⟨to203, ⟨to331, trivial, trivial⟩, ⟨to459, trivial, trivial⟩⟩⟩, ⟨to107, ⟨to171, ⟨to299, trivial, trivial⟩, ⟨to427, trivial, trivial⟩⟩, ⟨to235, ⟨to363, trivial, trivial⟩, trivial⟩⟩⟩, ⟨trivial, ⟨to91, ⟨to155, ⟨to283, trivial, trivial⟩, ⟨to411, trivial, trivial⟩⟩, ⟨to219, ⟨to347, trivial, trivial⟩, trivial⟩⟩, ⟨to123, ⟨to187, ⟨to315, trivial, trivial⟩, ⟨to443, trivial, trivial⟩⟩, ⟨to251, trivial, trivial⟩⟩⟩⟩⟩⟩, ⟨to5, ⟨to9, ⟨to17, ⟨to33, ⟨to65, ⟨to129, ⟨to257, trivial, trivial⟩, ⟨to385, trivial, trivial⟩⟩, ⟨to193, ⟨to321, trivial, trivial⟩, ⟨to449, trivial, trivial⟩⟩⟩, ⟨to97, ⟨to161, trivial, ⟨to417, trivial, trivial⟩⟩, ⟨trivial, ⟨to353, trivial, trivial⟩, trivial⟩⟩⟩, ⟨trivial, ⟨to81, ⟨to145, ⟨to273, trivial, trivial⟩, ⟨to401, trivial, trivial⟩⟩, ⟨to209, ⟨to337, trivial, trivial⟩, trivial⟩⟩, ⟨to113, ⟨to177, ⟨to305, trivial, trivial⟩, ⟨to433, trivial, trivial⟩⟩, ⟨to241, ⟨to369, trivial, trivial⟩, trivial⟩⟩⟩⟩, ⟨to25, ⟨to41, ⟨to73, ⟨trivial, ⟨to265, trivial, trivial⟩, ⟨to393, trivial, trivial⟩⟩, ⟨to201, ⟨to329, trivial, trivial⟩, ⟨to457, trivial, trivial⟩⟩⟩, ⟨to105, ⟨to169, ⟨to297, trivial, trivial⟩, ⟨to425, trivial, trivial⟩⟩, ⟨to233, ⟨to361, trivial, trivial⟩, trivial⟩⟩⟩, ⟨to57, ⟨trivial, ⟨trivial, ⟨to281, trivial, trivial⟩, ⟨to409, trivial, trivial⟩⟩, ⟨to217, ⟨to345, trivial, trivial⟩, trivial⟩⟩, ⟨to121, ⟨to185, ⟨to313, trivial, trivial⟩, ⟨to441, trivial, trivial⟩⟩, ⟨to249, ⟨to377, trivial, trivial⟩, trivial⟩⟩⟩⟩⟩, ⟨to13, ⟨to21, ⟨to37, ⟨to69, ⟨to133, ⟨to261, trivial, trivial⟩, ⟨to389, trivial, trivial⟩⟩, ⟨to197, ⟨to325, trivial, trivial⟩, ⟨to453, trivial, trivial⟩⟩⟩, ⟨to101, ⟨trivial, ⟨to293, trivial, trivial⟩, ⟨to421, trivial, trivial⟩⟩, ⟨to229, ⟨to357, trivial, trivial⟩, trivial⟩⟩⟩, ⟨to53, ⟨to85, ⟨trivial, ⟨to277, trivial, trivial⟩, ⟨to405, trivial, trivial⟩⟩, ⟨to213, ⟨to341, trivial, trivial⟩, trivial⟩⟩, ⟨to117, ⟨to181, ⟨to309, trivial, trivial⟩, ⟨to437, trivial, trivial⟩⟩, ⟨to245, ⟨to373, trivial, trivial⟩, trivial⟩⟩⟩⟩, ⟨to29, ⟨to45, ⟨to77, ⟨to141, ⟨to269, trivial, trivial⟩, trivial⟩, ⟨to205, ⟨to333, trivial, trivial⟩, trivial⟩⟩, ⟨to109, ⟨to173, ⟨to301, trivial, trivial⟩, ⟨to429, trivial, trivial⟩⟩, ⟨to237, ⟨to365, trivial, trivial⟩, trivial⟩⟩⟩, ⟨to61, ⟨to93, ⟨to157, ⟨to285, trivial, trivial⟩, ⟨to413, trivial, trivial⟩⟩, ⟨to221, ⟨to349, trivial, trivial⟩, trivial⟩⟩, ⟨to125, ⟨trivial, ⟨to317, trivial, trivial⟩, ⟨to445, trivial, trivial⟩⟩, ⟨to253, ⟨to381, trivial, trivial⟩, trivial⟩⟩⟩⟩⟩⟩⟩, ⟨to2, ⟨to4, ⟨to8, ⟨to16, ⟨to32, ⟨to64, ⟨trivial, ⟨to256, trivial, trivial⟩, ⟨to384, trivial, trivial⟩⟩, ⟨to192, ⟨to320, trivial, trivial⟩, ⟨to448, trivial, trivial⟩⟩⟩, ⟨to96, ⟨trivial, ⟨to288, trivial, trivial⟩, ⟨to416, trivial, trivial⟩⟩, ⟨to224, ⟨to352, trivial, trivial⟩, trivial⟩⟩⟩, ⟨to48, ⟨to80, ⟨to144, ⟨to272, trivial, trivial⟩, ⟨to400, trivial, trivial⟩⟩, ⟨to208, ⟨to336, trivial, trivial⟩, trivial⟩⟩, ⟨to112, ⟨to176, ⟨to304, trivial, trivial⟩, ⟨to432, trivial, trivial⟩⟩, ⟨to240, ⟨to368, trivial, trivial⟩, trivial⟩⟩⟩⟩, ⟨to24, ⟨to40, ⟨to72, ⟨to136, ⟨to264, trivial, trivial⟩, ⟨to392, trivial, trivial⟩⟩, ⟨to200, ⟨to328, trivial, trivial⟩, ⟨to456, trivial, trivial⟩⟩⟩, ⟨to104, ⟨to168, ⟨to296, trivial, trivial⟩, ⟨to424, trivial, trivial⟩⟩, ⟨to232, ⟨to360, trivial, trivial⟩, trivial⟩⟩⟩, ⟨to56, ⟨to88, ⟨to152, ⟨to280, trivial, trivial⟩, ⟨to408, trivial, trivial⟩⟩, ⟨to216, ⟨to344, trivial, trivial⟩, trivial⟩⟩, ⟨to120, ⟨to184, ⟨to312, trivial, trivial⟩, ⟨to440, trivial, trivial⟩⟩, ⟨to248, trivial, trivial⟩⟩⟩⟩⟩, ⟨to12, ⟨to20, ⟨to36, ⟨to68, ⟨to132, ⟨to260, trivial, trivial⟩, ⟨to388, trivial, trivial⟩⟩, ⟨trivial, ⟨to324, trivial, trivial⟩, ⟨to452, trivial, trivial⟩⟩⟩, ⟨to100, ⟨to164, ⟨to292, trivial, trivial⟩, ⟨to420, trivial, trivial⟩⟩, ⟨to228, ⟨to356, trivial, trivial⟩, trivial⟩⟩⟩, ⟨to52, ⟨to84, ⟨to148, ⟨to276, trivial, trivial⟩, ⟨to404, trivial, trivial⟩⟩, ⟨to212, ⟨to340, trivial, trivial⟩, trivial⟩⟩, ⟨to116, ⟨to180, ⟨to308, trivial, trivial⟩, ⟨to436, trivial, trivial⟩⟩, ⟨to244, ⟨to372, trivial, trivial⟩, trivial⟩⟩⟩⟩, ⟨to28, ⟨to44, ⟨to76, ⟨trivial, ⟨to268, trivial, trivial⟩, ⟨to396, trivial, trivial⟩⟩, ⟨to204, ⟨to332, trivial, trivial⟩, ⟨to460, trivial, trivial⟩⟩⟩, ⟨to108, ⟨to172, ⟨to300, trivial, trivial⟩, ⟨to428, trivial, trivial⟩⟩, ⟨to236, ⟨to364, trivial, trivial⟩, trivial⟩⟩⟩, ⟨to60, ⟨to92, ⟨to156, ⟨to284, trivial, trivial⟩, trivial⟩, ⟨trivial, ⟨to348, trivial, trivial⟩, trivial⟩⟩, ⟨to124, ⟨to188, ⟨to316, trivial, trivial⟩, ⟨to444, trivial, trivial⟩⟩, ⟨to252, ⟨to380, trivial, trivial⟩, trivial⟩⟩⟩⟩⟩⟩, ⟨to6, ⟨to10, ⟨to18, ⟨to34, ⟨to66, ⟨to130, ⟨to258, trivial, trivial⟩, ⟨to386, trivial, trivial⟩⟩, ⟨to194, ⟨to322, trivial, trivial⟩, ⟨to450, trivial, trivial⟩⟩⟩, ⟨trivial, ⟨to162, ⟨to290, trivial, trivial⟩, ⟨to418, trivial, trivial⟩⟩, ⟨to226, ⟨to354, trivial, trivial⟩, trivial⟩⟩⟩, ⟨to50, ⟨to82, ⟨to146, ⟨to274, trivial, trivial⟩, ⟨to402, trivial, trivial⟩⟩, ⟨trivial, ⟨to338, trivial, trivial⟩, trivial⟩⟩, ⟨to114, ⟨to178, ⟨to306, trivial, trivial⟩, ⟨to434, trivial, trivial⟩⟩, ⟨to242, ⟨to370, trivial, trivial⟩, trivial⟩⟩⟩⟩, ⟨to26, ⟨to42, ⟨to74, ⟨to138, ⟨to266, trivial, trivial⟩, ⟨to394, trivial, trivial⟩⟩, ⟨to202, ⟨to330, trivial, trivial⟩, ⟨to458, trivial, trivial⟩⟩⟩, ⟨to106, ⟨trivial, ⟨to298, trivial, trivial⟩, ⟨to426, trivial, trivial⟩⟩, ⟨trivial, ⟨to362, trivial, trivial⟩, trivial⟩⟩⟩, ⟨to58, ⟨to90, ⟨to154, ⟨to282, trivial, trivial⟩, ⟨to410, trivial, trivial⟩⟩, ⟨to218, ⟨to346, trivial, trivial⟩, trivial⟩⟩, ⟨to122, ⟨trivial, ⟨to314, trivial, trivial⟩, ⟨to442, trivial, trivial⟩⟩, ⟨to250, ⟨to378, trivial, trivial⟩, trivial⟩⟩⟩⟩⟩, ⟨to14, ⟨to22, ⟨to38, ⟨to70, ⟨to134, trivial, ⟨to390, trivial, trivial⟩⟩, ⟨to198, ⟨to326, trivial, trivial⟩, ⟨to454, trivial, trivial⟩⟩⟩, ⟨to102, ⟨to166, ⟨to294, trivial, trivial⟩, ⟨to422, trivial, trivial⟩⟩, ⟨to230, ⟨to358, trivial, trivial⟩, trivial⟩⟩⟩, ⟨to54, ⟨to86, ⟨to150, ⟨to278, trivial, trivial⟩, ⟨to406, trivial, trivial⟩⟩, ⟨to214, ⟨to342, trivial, trivial⟩, trivial⟩⟩, ⟨to118, ⟨to182, ⟨to310, trivial, trivial⟩, trivial⟩, ⟨to246, ⟨to374, trivial, trivial⟩, trivial⟩⟩⟩⟩, ⟨trivial, ⟨to46, ⟨to78, ⟨to142, ⟨to270, trivial, trivial⟩, ⟨to398, trivial, trivial⟩⟩, ⟨to206, ⟨to334, trivial, trivial⟩, trivial⟩⟩, ⟨to110, ⟨to174, ⟨to302, trivial, trivial⟩, ⟨to430, trivial, trivial⟩⟩, ⟨to238, trivial, trivial⟩⟩⟩, ⟨trivial, ⟨to94, ⟨trivial, trivial, ⟨to414, trivial, trivial⟩⟩, ⟨to222, ⟨to350, trivial, trivial⟩, trivial⟩⟩, ⟨to126, ⟨to190, ⟨to318, trivial, trivial⟩, ⟨to446, trivial, trivial⟩⟩, ⟨to254, ⟨to382, trivial, trivial⟩, trivial⟩⟩⟩⟩⟩⟩⟩⟩
end Go.Proofs.YtoefpcepplgkeaaGreat
end

section
set_option maxRecDepth 100000
namespace Go.Proofs.YtoefpcepplgkeaaGreat
open Go Go.Ev
theorem n163 : (Tryz.f163.name = "runtime.NumGoroutine") = False := by simp [show Tryz.f163.name = "maps.clone" from rfl]
theorem b163 : Tryz.f163.body = none := rfl
theorem x163 : Extern.findNext Tryz.f163 = none := by kernel_rfl
theorem y163 : Extern.find Tryz.f163 = some Extern.MapsClone.clone := by kernel_rfl
theorem n348 : (Tryz.f348.name = "runtime.NumGoroutine") = False := by simp [show Tryz.f348.name = "internal/abi.NoEscape" from rfl]
theorem b348 : Tryz.f348.body = none := rfl
theorem x348 : Extern.findNext Tryz.f348 = none := by kernel_rfl
theorem y348 : Extern.find Tryz.f348 = some Extern.AbiNoEscape.same := by kernel_rfl
theorem ex163 : ∀ args w, (callFunc 163 args).run Tryz.prog w = ((Extern.MapsClone.clone args).run Tryz.prog w).andThen fun v w => .ok (.value v) w := by
  intro args w
  simp [callFunc, n163, b163, x163, y163]
theorem ex348 : ∀ x w, (callFunc 348 #[x]).run Tryz.prog w = .ok (.value x) w := by
  intro x w
  have hs : Extern.AbiNoEscape.same #[x] = Sem.pure x := rfl
  simp [callFunc, n348, b348, x348, y348, hs]
theorem tabOk : TbOk tab where
  fn f i h := (T.all_get fnAll h).1
  ty t i h := T.all_get tyAll h
  ex g x h := by
    have h : (match Nat.beq 163 g with | true => some Ex.mapsClone | false => match Nat.beq 348 g with | true => some Ex.ident | false => none) = some x := h
    split at h
    · rename_i hg
      cases h
      have : 163 = g := by simpa using hg
      subst this; exact ex163
    · split at h
      · rename_i hg
        cases h
        have : 348 = g := by simpa using hg
        subst this; exact ex348
      · cases h
  en f i h := (T.all_get fnAll h).2
  mixed := rfl
end Go.Proofs.YtoefpcepplgkeaaGreat
end
