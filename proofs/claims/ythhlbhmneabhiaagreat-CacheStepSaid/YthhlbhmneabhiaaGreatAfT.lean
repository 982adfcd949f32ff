/-
The functions' abstract texts, by their numbers.
-/
import Derived.Test.YthhlbhmneabhiaaGreatAf1
import Derived.Test.YthhlbhmneabhiaaGreatAf2
namespace Go.Eng.AF
open Go Go.Eng
def s9 : FT := (.node (.node (.node (.node .nil 3 f3 .nil) 4 f4 (.node .nil 5 f5 .nil)) 6 f6 (.node (.node .nil 7 f7 .nil) 8 f8 .nil)) 9 f9 (.node (.node (.node .nil 10 f10 .nil) 11 f11 .nil) 12 f12 (.node (.node .nil 13 f13 .nil) 14 f14 .nil)))
def s21 : FT := (.node (.node (.node (.node .nil 16 f16 .nil) 17 f17 .nil) 18 f18 (.node (.node .nil 19 f19 .nil) 20 f20 .nil)) 21 f21 (.node (.node (.node .nil 23 f23 .nil) 24 f24 .nil) 25 f25 (.node (.node .nil 26 f26 .nil) 27 f27 .nil)))
def s35 : FT := (.node (.node (.node (.node .nil 29 f29 .nil) 30 f30 (.node .nil 31 f31 .nil)) 32 f32 (.node (.node .nil 33 f33 .nil) 34 f34 .nil)) 35 f35 (.node (.node (.node .nil 36 f36 .nil) 37 f37 .nil) 38 f38 (.node (.node .nil 39 f39 .nil) 40 f40 .nil)))
def s47 : FT := (.node (.node (.node (.node .nil 42 f42 .nil) 43 f43 .nil) 44 f44 (.node (.node .nil 45 f45 .nil) 46 f46 .nil)) 47 f47 (.node (.node (.node .nil 48 f48 .nil) 49 f49 .nil) 50 f50 (.node (.node .nil 51 f51 .nil) 52 f52 .nil)))
def s60 : FT := (.node (.node (.node (.node .nil 54 f54 .nil) 55 f55 (.node .nil 56 f56 .nil)) 57 f57 (.node (.node .nil 58 f58 .nil) 59 f59 .nil)) 60 f60 (.node (.node (.node .nil 61 f61 .nil) 63 f63 .nil) 64 f64 (.node (.node .nil 66 f66 .nil) 67 f67 .nil)))
def s76 : FT := (.node (.node (.node (.node .nil 70 f70 .nil) 72 f72 .nil) 73 f73 (.node (.node .nil 74 f74 .nil) 75 f75 .nil)) 76 f76 (.node (.node (.node .nil 77 f77 .nil) 78 f78 .nil) 79 f79 (.node (.node .nil 80 f80 .nil) 81 f81 .nil)))
def s88 : FT := (.node (.node (.node (.node .nil 83 f83 .nil) 84 f84 .nil) 85 f85 (.node (.node .nil 86 f86 .nil) 87 f87 .nil)) 88 f88 (.node (.node (.node .nil 89 f89 .nil) 92 f92 .nil) 93 f93 (.node (.node .nil 94 f94 .nil) 95 f95 .nil)))
def s105 : FT := (.node (.node (.node (.node .nil 97 f97 .nil) 100 f100 .nil) 102 f102 (.node (.node .nil 103 f103 .nil) 104 f104 .nil)) 105 f105 (.node (.node (.node .nil 108 f108 .nil) 110 f110 .nil) 111 f111 (.node (.node .nil 112 f112 .nil) 113 f113 .nil)))
def s122 : FT := (.node (.node (.node (.node .nil 116 f116 .nil) 117 f117 (.node .nil 118 f118 .nil)) 119 f119 (.node (.node .nil 120 f120 .nil) 121 f121 .nil)) 122 f122 (.node (.node (.node .nil 123 f123 .nil) 124 f124 .nil) 125 f125 (.node (.node .nil 128 f128 .nil) 129 f129 .nil)))
def s136 : FT := (.node (.node (.node (.node .nil 131 f131 .nil) 132 f132 .nil) 133 f133 (.node (.node .nil 134 f134 .nil) 135 f135 .nil)) 136 f136 (.node (.node (.node .nil 137 f137 .nil) 138 f138 .nil) 139 f139 (.node (.node .nil 140 f140 .nil) 141 f141 .nil)))
def s149 : FT := (.node (.node (.node (.node .nil 143 f143 .nil) 145 f145 .nil) 146 f146 (.node (.node .nil 147 f147 .nil) 148 f148 .nil)) 149 f149 (.node (.node (.node .nil 150 f150 .nil) 151 f151 .nil) 152 f152 (.node (.node .nil 153 f153 .nil) 154 f154 .nil)))
def s164 : FT := (.node (.node (.node (.node .nil 159 f159 .nil) 160 f160 .nil) 161 f161 (.node (.node .nil 162 f162 .nil) 163 f163 .nil)) 164 f164 (.node (.node (.node .nil 165 f165 .nil) 166 f166 .nil) 168 f168 (.node (.node .nil 169 f169 .nil) 170 f170 .nil)))
def s194 : FT := (.node (.node (.node (.node .nil 172 f172 .nil) 173 f173 (.node .nil 174 f174 .nil)) 183 f183 (.node (.node .nil 185 f185 .nil) 193 f193 .nil)) 194 f194 (.node (.node (.node .nil 195 f195 .nil) 196 f196 .nil) 197 f197 (.node (.node .nil 198 f198 .nil) 199 f199 .nil)))
def s218 : FT := (.node (.node (.node (.node .nil 202 f202 .nil) 203 f203 .nil) 215 f215 (.node (.node .nil 216 f216 .nil) 217 f217 .nil)) 218 f218 (.node (.node (.node .nil 230 f230 .nil) 234 f234 .nil) 235 f235 (.node (.node .nil 236 f236 .nil) 237 f237 .nil)))
def s249 : FT := (.node (.node (.node (.node .nil 240 f240 .nil) 241 f241 .nil) 242 f242 (.node (.node .nil 243 f243 .nil) 244 f244 .nil)) 249 f249 (.node (.node (.node .nil 256 f256 .nil) 257 f257 .nil) 258 f258 (.node (.node .nil 259 f259 .nil) 260 f260 .nil)))
def s272 : FT := (.node (.node (.node (.node .nil 262 f262 .nil) 263 f263 .nil) 264 f264 (.node (.node .nil 265 f265 .nil) 271 f271 .nil)) 272 f272 (.node (.node (.node .nil 273 f273 .nil) 274 f274 .nil) 275 f275 (.node (.node .nil 276 f276 .nil) 285 f285 .nil)))
def fns : FT :=
  (.node (.node (.node (.node s9 15 f15 s21) 28 f28 (.node s35 41 f41 s47)) 53 f53 (.node (.node s60 68 f68 s76) 82 f82 (.node s88 96 f96 s105))) 115 f115 (.node (.node (.node s122 130 f130 s136) 142 f142 (.node s149 157 f157 s164)) 171 f171 (.node (.node s194 201 f201 s218) 239 f239 (.node s249 261 f261 s272))))
end Go.Eng.AF
